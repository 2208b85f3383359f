/-
  What functions of the program compute, as plain Lean functions (m_..), and proofs that they compute it (c_..). Printed by a program of the author; no conditions.
-/
import Derived.Test.YthclpfhncgpnmaaGreatJointAllBFloat
import Derived.Test.YthclpfhncgpnmaaGreatProg
import Derived.Test.YthclpfhncgpnmaaGreatJointAllBBrief
import Derived.Test.YthclpfhncgpnmaaGreatJointAllBRcl
import Derived.Test.YthclpfhncgpnmaaGreatJointAllBThree
import Derived.Test.YthclpfhncgpnmaaGreatJointAllF3
set_option linter.unusedVariables false
set_option maxRecDepth 100000
set_option maxHeartbeats 2000000
namespace Go.Proofs.YthclpfhncgpnmaaGreat
open Go Go.RowKit
open List renaming mem_cons_self→aT,mem_cons_of_mem→aP,mem_cons→aM,take_add_one→dM,getElem?_eq_getElem→aG,nodup_append→cD,mem_singleton→bH,mem_iff_getElem→gZ,getElem_take→eR,append_nil→cU,append_assoc→bK,nil_append→bO,drop_eq_nil_of_le→aF,drop_eq_getElem_cons→aL,getElem_mem→aD,length_map→aH,length_singleton→aN,map_append→dK,take_of_length_le→bJ,getElem_map→dD,length_pos_iff→bV,map_cons→cG,take_append_drop→fD,any_cons→dL,mem_map→cE,drop_zero→aX,length_drop→cA,drop_take→jA,drop_drop→eJ,map_map→fG,map_congr_left→eF,map_take→gM,map_drop→gN,mem_of_mem_take→fH,mem_of_mem_drop→eB,drop_eq_nil_iff→aK,replicate→aI,length_take→bX,not_mem_nil→aO,map→eG,getD_eq_getElem?_getD→aE,getElem?_map→bM,any_map→jJ,map_nil→dR,take_succ_eq_append_getElem→cL,take_zero→eH,length→fX,take_succ_cons→hO,drop_succ_cons→hY,replicate_succ→iA,length_replicate→aQ,set_append_right→fC,set_cons_zero→fO
open Option renaming toList_some→cM
open Nat renaming lt_or_ge→cI,min_eq_right→dH,min_eq_left→aR,div_le_self→cB,div_lt_iff_lt_mul→cY,add_mul→bI,one_mul→bP,le_mul_of_pos_right→dE,le_trans→bA,min_le_right→iT,mul_le_mul_right→bF,zero_le→bD,lt_of_lt_of_le→aJ,add_zero→bQ,zero_add→cK,beq→aC,add_assoc→dP,sub_self→fT,zero_mul→iC
open Int renaming toNat_natCast→aB,natCast_mul→bT,tdiv_eq_ediv_of_nonneg→bR,natCast_ediv→gA,natCast_nonneg→dU,ofNat_lt→eC,natCast_add→fA,toNat→aA
open Rat renaming lt_irrefl→jI
open Go.IntKind (i8 i16 i32 i64 u8 u16 u32 u64)
open Go.Proofs.Tryz

def Zhw (aa:Int) (kk_L2:(Bool→Int→Option Int)) (ab:Bool):Option Int:=
  kk_L2 ab (i64.wrap (aa+1))
def Zbb (N:Nat) (ad:R0) (ab:Int) (kk_L1:(Int→Option Int)):Nat→Bool→Int→Option Int
  | 0,_,_=>none
  | ae+1,af,aa=>(Zi ad.2.2.1 ab).bind fun ac=>if (decide (aa<(ac.length:Int)))=true then (if af=true then (Zhw aa (Zbb N ad ab kk_L1 ae) true) else ((Zi ac aa).bind fun ag=>(Zjz N ac ag).bind fun ah=>Zhw aa (Zbb N ad ab kk_L1 ae) (decide (ah<aa)))) else (if af=true then (some 40) else (if (decide ((ac.length:Int)=0))=true then (some 43) else (kk_L1 (i64.wrap (ab+1)))))
def Zeu (N:Nat) (ad:R0) (aa:Int) (kk_L4:(Int→Option Int)):Nat→Int→Option Int
  | 0,_=>none
  | af+1,ab=>(Zi ad.2.2.2.2 aa).bind fun ae=>if (decide (ab<(ae.length:Int)))=true then ((Zi ae ab).bind fun ac=>(Zhz N ((ac.1.1,ac.1.2),ac.2)).bind fun ag=>if ag=true then (some 45) else ((Zeu N ad aa kk_L4 af) (i64.wrap (ab+1)))) else (kk_L4 (i64.wrap (aa+1)))
def Zbd (N:Nat) (ab:R0) (ac:List Int):Nat→Int→Option Int
  | 0,_=>none
  | ad+1,aa=>if (decide (aa<(ab.2.1.length:Int)))=true then ((Zi ab.2.2.2.2 aa).bind fun ae=>(Zi ac aa).bind fun af=>(Zl9 N ae af).bind fun ag=>if (!ag)=true then (some 46) else ((Zbd N ab ac ad) (i64.wrap (aa+1)))) else (some 0)
def Q6 (N:Nat) (aa:R0) (ab:List Int):Nat→Int→Option Int
  | 0,_=>none
  | ad+1,ac=>if (decide (ac<(aa.2.1.length:Int)))=true then (Zeu N aa ac (Q6 N aa ab ad) N 0) else (Zbd N aa ab N 0)
def Zbc (N:Nat) (aa:R0) (ac:List Int):Nat→Int→Option Int
  | 0,_=>none
  | af+1,ab=>if (decide (ab<(aa.2.1.length:Int)))=true then ((Zi aa.2.2.2.1 ab).bind fun ag=>(Zjy N ag ac).bind fun ad=>(Zi ac ab).bind fun ae=>(Zj0 ad ae).bind fun ah=>if ah=true then (some 4) else ((Zi aa.2.2.2.2 ab).bind fun ai=>if (!decide ((ai.length:Int)=(i64.wrap (ad * ae))))=true then (some 60) else ((Zbc N aa ac af) (i64.wrap (ab+1))))) else (Q6 N aa ac N 0)
def Se (N:Nat) (aa:R0):Nat→Int→Option Int
  | 0,_=>none
  | ad+1,ab=>if (decide (ab<(aa.2.1.length:Int)))=true then ((Zi aa.2.1 ab).bind fun ae=>(Zjz N aa.2.1 ae).bind fun af=>Zbb N aa ab (Se N aa ad) N (decide (af<ab)) 0) else ((Qd N aa.2.2.2.1).bind fun ac=>if (!decide (ac=0))=true then (some ac) else ((Zex N (aa.1,aa.2.1,aa.2.2.1,aa.2.2.2.1,aa.2.2.2.2)).bind fun ag=>Zbc N aa ag N 0))
def Zco (N:Nat) (aa:R0) (ab:Bool):Option Int:=
  if ab=true then (some 60) else (if (decide (1024<(aa.2.1.length:Int)))=true then (some 4) else (Se N aa N 0))
def Zcn (N:Nat) (aa:R0):Option Int:=
  if (!decide ((aa.2.2.1.length:Int)=(aa.2.1.length:Int)))=true then (Zco N aa true) else (if (!decide ((aa.2.2.2.1.length:Int)=(aa.2.1.length:Int)))=true then (Zco N aa true) else (Zco N aa (!decide ((aa.2.2.2.2.length:Int)=(aa.2.1.length:Int)))))
theorem Z0i {N ak al am an:Nat} {ao ap aq ar:Option Addr} {col:Zd} {w0:World} {ab:R0} {r:Int} (hm:Zcn N ab=some r) (a0:Sl Za.str col w0 ao ak ab.2.1) (ah:Sl rV col w0 ap al ab.2.2.1) (a1:Sl rP col w0 aq am ab.2.2.2.1) (ai:Sl (Za.slice rQ) col w0 ar an ab.2.2.2.2):
    Calls prog 47 #[(.agg #[.string ab.1,.slice ao ab.2.1.length ak,.slice ap ab.2.2.1.length al,.slice aq ab.2.2.2.1.length am,.slice ar ab.2.2.2.2.length an])] w0 (Wq w0 r):=by
 refine Z7 2 (m:=175) func47 rfl rfl rfl rfl rfl ?_;rw [Zcn.eq_1] at hm;have aa:=St.start col w0;refine go ?_;refine Xf (col:=(Zg col)) 1 rfl ?_;intro av dt du cg ac;refine go ?_;refine Zy ac<|lV _ (Uv underlying22 rfl)<|Yz rfl<|Zj<|Zw<|Zw ?_;replace a0:=a0.k0;replace ah:=ah.k0;replace a1:=a1.k0;replace ai:=ai.k0;replace aa:=aa.grow cg;refine Wp.cutK [1,3,1000000] (fun f bo=>∃ bp bq,Zco N ab bq=some r∧St w0 (Zg col) bp bo∧Ze 27 1 bp bo av #[.string ab.1,.slice ao ab.2.1.length ak,.slice ap ab.2.2.1.length al,.slice aq ab.2.2.2.1.length am,.slice ar ab.2.2.2.2.length an]∧[38].map f=[.bool bq]) ?_ ?_
 ·intro f bo hJ;obtain ⟨bp,bq,hm,aa,ac,hs⟩:=hJ;rw [Zco.eq_1] at hm;refine .lL [38] hs ?_;refine Zl hm (fun hb hm=>go ?_) fun hb hm=>go ?_
  ·cases hm;exact ⟨rfl,rfl,aa.below⟩
  refine Zl hm (fun hb hm=>go ?_) fun hb hm=>go ?_
  ·cases hm;exact ⟨rfl,rfl,aa.below⟩
  refine Zt [1,3,1000000] (fun n f bf=>∃ aj a8 aw,aw=n∧Se N ab aw a8=some r∧St w0 (Zg col) aj bf∧Ze 27 1 aj bf av #[.string ab.1,.slice ao ab.2.1.length ak,.slice ap ab.2.2.1.length al,.slice aq ab.2.2.2.1.length am,.slice ar ab.2.2.2.2.length an]∧[4].map f=[.int .i64 a8]) N ⟨_,0,_,rfl,hm,aa,ac,rfl⟩ ?_;clear hm;intro n f bf hI;obtain ⟨aj,a8,aw,hn,hm,aa,ac,hs⟩:=hI;subst hn;refine .lL [4] hs ?_
  cases aw with
  | zero=>rw [Se.eq_1] at hm;cases hm
  | succ aw=>
   rw [Se.eq_2] at hm;refine go ?_;refine Zl hm (fun hb hm=>go ?_) fun hb hm=>go ?_
   ·refine Y0 (col:=aj) (by kernel_rfl) (by kernel_rfl)<|qF ⟨_,_,rfl⟩ ?_;refine qW (fun _ hC=>((ac.atN).nth (q:=1) rfl).gr (hC.bl aj)) ?_;refine qF ⟨_,_,rfl⟩ ?_;refine qW (fun _ hC=>((ac.atN).nth (q:=1) rfl).gr (hC.bl aj)) ?_;refine go ?_;obtain ⟨dv,br,hm⟩:=bZ hm;refine qI br ((a0.ks aa).addr br)<|qW (fun _ hC=>((a0.ks aa).gr (hC.bl aj)).atStr br) ?_;obtain ⟨ch,ci,hm⟩:=bZ hm;refine qc (v:=(.int .i64 ch)) rfl (fun _ hC=>⟨_,_,Sn call96 rfl rfl,(Zq3 ci ((a0.ks aa).gr (hC.bl aj)):).mono fun _ _ h=>⟨h.1,hC.trans (.of_below h.2)⟩⟩) ?_;refine go ?_;refine Xw ?_;intro dw hC;replace hC:=hC.bl aj;refine go ?_;replace ac:=ac.gr hC;replace aa:=aa.grow hC;refine Zt [1,3,4,1000000] (fun n f bs=>∃ af bt a9 ay,ay=n∧Zbb N ab a8 (Se N ab aw) ay bt a9=some r∧St w0 (Zg col) af bs∧Ze 27 1 af bs av #[.string ab.1,.slice ao ab.2.1.length ak,.slice ap ab.2.2.1.length al,.slice aq ab.2.2.2.1.length am,.slice ar ab.2.2.2.2.length an]∧[5,6].map f=[.bool bt,.int .i64 a9]) N ⟨_,_,0,_,rfl,hm,aa,ac,rfl⟩ ?_;clear hm;intro n f bs hI;obtain ⟨af,bt,a9,ay,hn,hm,aa,ac,hs⟩:=hI;subst hn;refine .lL [5,6] hs ?_
    cases ay with
    | zero=>rw [Zbb.eq_1] at hm;cases hm
    | succ ay=>
     rw [Zbb.eq_2] at hm;refine go ?_;refine Zy ac<|Xe rfl ?_;obtain ⟨dx,ag,hm⟩:=bZ hm;refine lI ag ((ah.ks aa).addr ag) ?_;obtain ⟨_,cj,ck⟩:=(ah.ks aa).atN ag;obtain ⟨⟨dy,dz,rfl,d0⟩,_⟩:=cj;refine lW ck.one<|go ?_;refine Zl hm (fun hb hm=>?_) fun hb hm=>go ?_
     ·refine X7<|Zw ?_;refine Wp.cutK [1,3,4,6,1000000] (fun f bu=>∃ bv bw,Zhw a9 (Zbb N ab a8 (Se N ab aw) ay) bw=some r∧St w0 (Zg col) bv bu∧Ze 27 1 bv bu av #[.string ab.1,.slice ao ab.2.1.length ak,.slice ap ab.2.2.1.length al,.slice aq ab.2.2.2.1.length am,.slice ar ab.2.2.2.2.length an]∧[5].map f=[.bool bw]) ?_ ?_
      ·intro f bu hJ;obtain ⟨bv,bw,hm,aa,ac,hs⟩:=hJ;rw [Zhw.eq_1] at hm;refine .lL [5] hs<|go ?_;exact ⟨ay,by omega,rfl,⟨_,_,_,_,rfl,hm,aa,ac,rfl⟩⟩
      refine Zde<|Y0 (col:=af) (by kernel_rfl) (by kernel_rfl)<|go ?_;refine Xo hm (fun bx hm=>go ?_) fun bx hm=>go ?_
      ·refine qv (v:=(.bool true)) rfl (fun _ hC=>Z5 (congrArg Value.bool bx) rfl) ?_;refine go ?_;refine Xw ?_;intro d1 hC;replace hC:=hC.bl af;replace ac:=ac.gr hC;replace aa:=aa.grow hC;exact ⟨rfl,_,_,hm,aa,ac,rfl⟩
      refine qF ⟨_,_,rfl⟩ ?_;refine go ?_;refine qW (fun _ hC=>((ac.atN).nth (q:=2) rfl).gr (hC.bl af)) ?_;refine go ?_;refine qI ag ((ah.ks aa).addr ag) ?_;refine go ?_;obtain ⟨_,cl,cn⟩:=(ah.ks aa).atN ag;obtain ⟨⟨d2,d3,rfl,co⟩,_⟩:=cl;refine qW (fun _ hC=>cn.one.gr (hC.bl af)) ?_;refine go ?_;refine qF ⟨_,_,rfl⟩ ?_;refine go ?_;refine qW (fun _ hC=>((ac.atN).nth (q:=2) rfl).gr (hC.bl af)) ?_;refine go ?_;refine qI ag ((ah.ks aa).addr ag) ?_;refine go ?_;obtain ⟨_,cp,cq⟩:=(ah.ks aa).atN ag;obtain ⟨⟨d4,d5,rfl,cb⟩,_⟩:=cp;refine qW (fun _ hC=>cq.one.gr (hC.bl af)) ?_;refine go ?_;obtain ⟨d6,bz,hm⟩:=bZ hm;refine qI bz (cb.addr bz) ?_;refine go ?_;refine qW (fun _ hC=>(cb.gr (hC.bl af)).atStr bz) ?_;refine go ?_;obtain ⟨cc,cr,hm⟩:=bZ hm;refine qc (v:=(.int .i64 cc)) rfl (fun _ hC=>⟨_,_,Sn call96 rfl rfl,(Zq3 cr (co.gr (hC.bl af)):).mono fun _ _ h=>⟨h.1,hC.trans (.of_below h.2)⟩⟩) ?_;refine go ?_;refine qv (v:=(.bool (decide (cc<a9)))) rfl (fun _ hC=>Xn (congrArg Value.bool bx) rfl) ?_;refine go ?_;refine Xw ?_;intro d7 hC;replace hC:=hC.bl af;replace ac:=ac.gr hC;replace aa:=aa.grow hC;exact ⟨rfl,_,_,hm,aa,ac,rfl⟩
     refine Zl hm (fun hb hm=>go ?_) fun hb hm=>go ?_
     ·cases hm;exact ⟨rfl,rfl,aa.below⟩
     refine Zy ac<|Xe rfl<|lI ag ((ah.ks aa).addr ag) ?_;obtain ⟨_,cs,ct⟩:=(ah.ks aa).atN ag;obtain ⟨⟨d8,d9,rfl,ea⟩,_⟩:=cs;refine lW ct.one<|go ?_;refine Zl hm (fun hb hm=>go ?_) fun hb hm=>go ?_
     ·cases hm;exact ⟨rfl,rfl,aa.below⟩
     exact ⟨aw,by omega,rfl,⟨_,_,_,rfl,hm,aa,ac,rfl⟩⟩
   refine Zy ac ?_;obtain ⟨eb,cu,hm⟩:=bZ hm;refine Zh (Z0e cu (a1.ks aa)) fun _ cv ⟨e',bg⟩=>⟨_,e',?_⟩;replace bg:Zk aj bf aj cv:=.of_below bg;refine go ?_;replace ac:=ac.gr bg;replace aa:=aa.grow bg;refine Zl hm (fun hb hm=>go ?_) fun hb hm=>go ?_
   ·cases hm;exact ⟨rfl,rfl,aa.below⟩
   refine lV _ (Xh isAgg27 sizeOf27 ac) ?_;obtain ⟨ax,cw,hm⟩:=bZ hm;refine Zh (Z0m 2 cw (a0.ks aa) (ah.ks aa) (a1.ks aa) (ai.ks aa)) ?_;rintro _ ec ⟨ed,bh,bi,rfl,cd,ad⟩;refine ⟨_,rfl,go ?_⟩;replace ac:=ac.gr cd;replace aa:=aa.grow cd;refine Zt [1,3,8,1000000] (fun n f ba=>∃ ae b0 a2,a2=n∧Zbc N ab ax a2 b0=some r∧St w0 (Zg col) ae ba∧Ze 27 1 ae ba av #[.string ab.1,.slice ao ab.2.1.length ak,.slice ap ab.2.2.1.length al,.slice aq ab.2.2.2.1.length am,.slice ar ab.2.2.2.2.length an]∧Zb rI 3 2 ae ba bh bi ax∧[9].map f=[.int .i64 b0]) N ⟨_,0,_,rfl,hm,aa,ac,ad,rfl⟩ ?_;clear hm;intro n f ba hI;obtain ⟨ae,b0,a2,hn,hm,aa,ac,ad,hs⟩:=hI;subst hn;refine .lL [9] hs ?_
   cases a2 with
   | zero=>rw [Zbc.eq_1] at hm;cases hm
   | succ a2=>
    rw [Zbc.eq_2] at hm;refine go ?_;refine Zl hm (fun hb hm=>go ?_) fun hb hm=>go ?_
    ·refine Zy ac<|Xe rfl ?_;obtain ⟨ee,b1,hm⟩:=bZ hm;refine lI b1 ((a1.ks aa).addr b1) ?_;obtain ⟨_,cx,cy⟩:=(a1.ks aa).atN b1;obtain ⟨⟨ef,eg,rfl,cz⟩,_⟩:=cx;refine lW cy.one<|Y8 rfl ?_;obtain ⟨eh,c0,hm⟩:=bZ hm;refine Zh (Z0j c0 (cz.froz 2) (ad.toSlF (Zm.int .i64))) fun _ ce ⟨e',bb⟩=>⟨_,e',?_⟩;replace bb:Zk ae ba ae ce:=.of_below bb;refine go ?_;obtain ⟨ei,a3,hm⟩:=bZ hm;replace ad:=ad.gr bb;refine lI a3 (ad.addr a3)<|lW (ad.atInt a3) ?_;obtain ⟨ej,c1,hm⟩:=bZ hm;refine Zh (Z0l (col:=ae) c1) fun _ c2 ⟨e',bc⟩=>⟨_,e',?_⟩;replace bc:Zk ae ce ae c2:=.of_below bc;refine go ?_;replace ac:=(ac.gr bb).gr bc;replace aa:=(aa.grow bb).grow bc;replace ad:=ad.gr bc;refine Zl hm (fun hb hm=>go ?_) fun hb hm=>go ?_
     ·cases hm;exact ⟨rfl,rfl,aa.below⟩
     refine Y0 (col:=ae) (by kernel_rfl) (by kernel_rfl)<|qF ⟨_,_,rfl⟩ ?_;refine qW (fun _ hC=>((ac.atN).nth (q:=4) rfl).gr (hC.bl ae)) ?_;refine go ?_;obtain ⟨ek,b2,hm⟩:=bZ hm;refine qI b2 ((ai.ks aa).addr b2) ?_;obtain ⟨_,c3,c4⟩:=(ai.ks aa).atN b2;obtain ⟨⟨el,em,rfl,en⟩,_⟩:=c3;refine qW (fun _ hC=>c4.one.gr (hC.bl ae)) ?_;refine go ?_;refine qI a3 (ad.addr a3)<|qW (fun _ hC=>(ad.gr (hC.bl ae)).atInt a3) ?_;refine go ?_;refine Xw ?_;intro eo hC;replace hC:=hC.bl ae;replace ad:=ad.gr hC;replace ac:=ac.gr hC;replace aa:=aa.grow hC;refine Zl hm (fun hb hm=>go ?_) fun hb hm=>go ?_
     ·cases hm;exact ⟨rfl,rfl,aa.below⟩
     exact ⟨a2,by omega,rfl,⟨_,_,_,rfl,hm,aa,ac,ad,rfl⟩⟩
    refine Zt [1,3,8,1000000] (fun n f bj=>∃ bk bm az,az=n∧Q6 N ab ax az bm=some r∧St w0 (Zg col) bk bj∧Ze 27 1 bk bj av #[.string ab.1,.slice ao ab.2.1.length ak,.slice ap ab.2.2.1.length al,.slice aq ab.2.2.2.1.length am,.slice ar ab.2.2.2.2.length an]∧Zb rI 3 2 bk bj bh bi ax∧[12].map f=[.int .i64 bm]) N ⟨_,0,_,rfl,hm,aa,ac,ad,rfl⟩ ?_;clear hm;intro n f bj hI;obtain ⟨bk,bm,az,hn,hm,aa,ac,ad,hs⟩:=hI;subst hn;refine .lL [12] hs ?_
    cases az with
    | zero=>rw [Q6.eq_1] at hm;cases hm
    | succ az=>
     rw [Q6.eq_2] at hm;refine go ?_;refine Zl hm (fun hb hm=>go ?_) fun hb hm=>go ?_
     ·refine Zt [1,12,3,8,1000000] (fun n f bd=>∃ a4 b3 a5,a5=n∧Zeu N ab bm (Q6 N ab ax az) a5 b3=some r∧St w0 (Zg col) a4 bd∧Ze 27 1 a4 bd av #[.string ab.1,.slice ao ab.2.1.length ak,.slice ap ab.2.2.1.length al,.slice aq ab.2.2.2.1.length am,.slice ar ab.2.2.2.2.length an]∧Zb rI 3 2 a4 bd bh bi ax∧[13].map f=[.int .i64 b3]) N ⟨_,0,_,rfl,hm,aa,ac,ad,rfl⟩ ?_;clear hm;intro n f bd hI;obtain ⟨a4,b3,a5,hn,hm,aa,ac,ad,hs⟩:=hI;subst hn;refine .lL [13] hs ?_
      cases a5 with
      | zero=>rw [Zeu.eq_1] at hm;cases hm
      | succ a5=>
       rw [Zeu.eq_2] at hm;refine go ?_;refine Zy ac<|Xe rfl ?_;obtain ⟨ep,a6,hm⟩:=bZ hm;refine lI a6 ((ai.ks aa).addr a6) ?_;obtain ⟨_,c5,c6⟩:=(ai.ks aa).atN a6;obtain ⟨⟨eq,er,rfl,es⟩,_⟩:=c5;refine lW c6.one<|go ?_;refine Zl hm (fun hb hm=>go ?_) fun hb hm=>go ?_
       ·refine Zy ac<|Xe rfl<|lI a6 ((ai.ks aa).addr a6) ?_;obtain ⟨_,c7,c8⟩:=(ai.ks aa).atN a6;obtain ⟨⟨et,eu,rfl,cf⟩,_⟩:=c7;refine lW c8.one<|Xe rfl ?_;obtain ⟨b4,b5,hm⟩:=bZ hm;refine lI b5 (cf.addr b5) ?_;obtain ⟨_,c9,da⟩:=cf.atN b5;obtain ⟨_,_,rfl,db,dc⟩:=Yr c9;obtain ⟨_,_,rfl,dd,de⟩:=Yr db;obtain ⟨rfl,_⟩:=dd;obtain ⟨⟨df,dg,rfl,dh⟩,_⟩:=de;obtain ⟨⟨di,dj,rfl,dk⟩,_⟩:=dc;refine lV (.agg #[.bool b4.1.1,.slice df b4.1.2.length dg,.slice di b4.2.length dj]) (Yq isAgg42 sizeOf42 rfl rfl da) ?_;obtain ⟨ew,dl,hm⟩:=bZ hm;refine Zh (Z0k dl dh dk) fun _ dm ⟨e',be⟩=>⟨_,e',?_⟩;replace be:Zk a4 bd a4 dm:=.of_below be;refine go ?_;replace ad:=ad.gr be;replace ac:=ac.gr be;replace aa:=aa.grow be;refine Zl hm (fun hb hm=>go ?_) fun hb hm=>go ?_
        ·cases hm;exact ⟨rfl,rfl,aa.below⟩
        exact ⟨a5,by omega,rfl,⟨_,_,_,rfl,hm,aa,ac,ad,rfl⟩⟩
       exact ⟨az,by omega,rfl,⟨_,_,_,rfl,hm,aa,ac,ad,rfl⟩⟩
     refine Zt [1,3,8,1000000] (fun n f bn=>∃ au b6 a7,a7=n∧Zbd N ab ax a7 b6=some r∧St w0 (Zg col) au bn∧Ze 27 1 au bn av #[.string ab.1,.slice ao ab.2.1.length ak,.slice ap ab.2.2.1.length al,.slice aq ab.2.2.2.1.length am,.slice ar ab.2.2.2.2.length an]∧Zb rI 3 2 au bn bh bi ax∧[15].map f=[.int .i64 b6]) N ⟨_,0,_,rfl,hm,aa,ac,ad,rfl⟩ ?_;clear hm;intro n f bn hI;obtain ⟨au,b6,a7,hn,hm,aa,ac,ad,hs⟩:=hI;subst hn;refine .lL [15] hs ?_
     cases a7 with
     | zero=>rw [Zbd.eq_1] at hm;cases hm
     | succ a7=>
      rw [Zbd.eq_2] at hm;refine go ?_;refine Zl hm (fun hb hm=>go ?_) fun hb hm=>go ?_
      ·refine Y0 (col:=au) (by kernel_rfl) (by kernel_rfl)<|qF ⟨_,_,rfl⟩ ?_;refine qW (fun _ hC=>((ac.atN).nth (q:=4) rfl).gr (hC.bl au)) ?_;refine go ?_;obtain ⟨ey,b7,hm⟩:=bZ hm;refine qI b7 ((ai.ks aa).addr b7) ?_;obtain ⟨_,dn,dp⟩:=(ai.ks aa).atN b7;obtain ⟨⟨ez,e0,rfl,dq⟩,_⟩:=dn;refine qW (fun _ hC=>dp.one.gr (hC.bl au)) ?_;refine go ?_;obtain ⟨e1,b8,hm⟩:=bZ hm;refine qI b8 (ad.addr b8)<|qW (fun _ hC=>(ad.gr (hC.bl au)).atInt b8) ?_;obtain ⟨dr,ds,hm⟩:=bZ hm;refine qc (v:=(.bool dr)) rfl (fun _ hC=>⟨_,_,Sn call101 rfl rfl,(Z0n ds (dq.gr (hC.bl au)):).mono fun _ _ h=>⟨h.1,hC.trans (.of_below h.2)⟩⟩) ?_;refine go ?_;refine Xw ?_;intro e2 hC;replace hC:=hC.bl au;refine go ?_;replace ac:=ac.gr hC;replace aa:=aa.grow hC;refine Zl hm (fun hb hm=>go ?_) fun hb hm=>go ?_
       ·cases hm;exact ⟨rfl,rfl,aa.below⟩
       exact ⟨a7,by omega,rfl,⟨_,_,_,rfl,hm,aa,ac,ad.gr hC,rfl⟩⟩
      cases hm;exact ⟨rfl,rfl,aa.below⟩
 refine Wk<|Zy ac ?_;refine go ?_;refine Xo hm (fun b9 hm=>go ?_) fun b9 hm=>go ?_
 ·refine lV (.bool true) (Z5 (congrArg Value.bool b9) rfl)<|Ws rfl<|lP 32 rfl rfl<|lP 32 rfl rfl<|lP 32 rfl rfl<|lP 32 rfl rfl<|lP 32 rfl rfl<|lV (.bool true) (Z5 rfl rfl)<|Zj ?_;exact ⟨rfl,_,_,hm,aa,ac,rfl⟩
 refine Z9 ⟨_,_,rfl⟩ ?_;refine go ?_;refine lW ((ac.atN).nth (q:=3) rfl)<|go ?_;refine lV (.bool (!decide ((ab.2.2.2.1.length:Int)=(ab.2.1.length:Int)))) (Xn (congrArg Value.bool b9) rfl)<|Ws rfl ?_;refine Xo hm (fun ca hm=>go ?_) fun ca hm=>go ?_
 ·refine lV (.bool true) (Z5 (congrArg Value.bool ca) rfl)<|Zj ?_;exact ⟨rfl,_,_,hm,aa,ac,rfl⟩
 refine Z9 ⟨_,_,rfl⟩ ?_;refine go ?_;refine lW ((ac.atN).nth (q:=4) rfl)<|go ?_;refine lV (.bool (!decide ((ab.2.2.2.2.length:Int)=(ab.2.1.length:Int)))) (Xn (congrArg Value.bool ca) rfl)<|Zj ?_;exact ⟨rfl,_,_,hm,aa,ac,rfl⟩
abbrev Z6:=ByteArray×List ByteArray×List R4×List R2×List (List QV)
instance decMemB:∀ (s:ByteArray) (l:List ByteArray),Decidable (s ∈ l)
 | _,[]=>isFalse (by simp)
 | s,x :: l=>if h:s=x then isTrue (by rw [h];exact aT) else match decMemB s l with
  | isTrue h2=>isTrue (aP _ h2)
  | isFalse h2=>isFalse (by rw [aM];rintro (h3 | h3) <;> contradiction)
theorem Zum {α:Type} (l:List α) (k:Nat) (hk:k<l.length):(l.take (k+1)).Nodup↔(l.take k).Nodup∧l[k] ∉ l.take k:=by
 rw [dM,aG hk,cM,cD]
 constructor
 ·rintro ⟨c,_,f⟩
  exact ⟨c,fun g=>f _ g _ (by simp) rfl⟩
 ·rintro ⟨c,i⟩
  refine ⟨c,by simp,fun a j b d e=>?_⟩
  rw [bH] at d
  subst d;subst e
  exact i j
theorem Zr9 (N:Nat) (l:List ByteArray) (hl:l.length<4611686018427387904) (v:Nat) (hv:v<l.length):∀ (n k:Nat),k≤v→v<n+k→l[v] ∉ l.take k→∃ j:Nat,Zew N l l[v] n (k:Int)=some (j:Int)∧j≤v∧(j<v↔l[v] ∈ l.take v)
 | 0,k,b,e,_=>by omega
 | n+1,k,b,e,c=>by
  have d:k<l.length:=by omega
  rw [Zew.eq_2,if_pos (dT (by omega)),Zs d,oB]
  by_cases he:l[k]=l[v]
  ·rw [if_pos (dT he)]
   refine ⟨k,rfl,b,fun h=>?_,fun h=>?_⟩
   ·rw [← he]
    exact gZ.2 ⟨k,by rw [nK];omega,by rw [eR]⟩
   ·rcases cI k v with a | a
    ·exact a
    ·have:k=v:=by omega
     subst this;exact absurd h c
  ·have f:k<v:=by
    rcases cI k v with a | a
    ·exact a
    ·have:k=v:=by omega
     subst this;exact absurd rfl he
   rw [if_neg (dF he),Zp (by omega)]
   have:=Zr9 N l hl v hv n (k+1) (by omega) (by omega) (by
    rw [dM,aG d,cM,List.mem_append,bH]
    rintro (h | h)
    ·exact c h
    ·exact he h.symm)
   exact this
theorem Zsa {N:Nat} {l:List ByteArray} (hl:l.length<4611686018427387904) {v:Nat} (hv:v<l.length) (hN:l.length<N):∃ j:Nat,Zjz N l l[v]=some (j:Int)∧(j<v↔l[v] ∈ l.take v):=by
 obtain ⟨j,a,_,b⟩:=Zr9 N l hl v hv N 0 (by omega) (by omega) (by simp)
 exact ⟨j,a,b⟩
theorem Zsu (s:ByteArray):∀ (l:List ByteArray) (k:Nat),∃ j:Int,Zfn s l k=some j∧(0≤j↔s ∈ l)
 | [],k=>⟨-1,rfl,by simp⟩
 | x :: l,k=>by
  rw [Zfn.eq_2]
  by_cases h:s=x
  ·rw [if_pos (dT h)];exact ⟨_,rfl,by simp [h]⟩
  ·rw [if_neg (dF h)]
   obtain ⟨j,a,b⟩:=Zsu s l (k+1)
   exact ⟨j,a,by rw [b,aM];simp [h]⟩
theorem Z1k (s:ByteArray) (l:List ByteArray):Zj8 l s=some (decide (s ∈ l)):=by
 obtain ⟨j,a,b⟩:=Zsu s l 0
 rw [Zj8,Zmj,a,oB]
 congr 1
 exact decide_eq_decide.2 b
theorem Zuc:∀ (l:List ByteArray) (seen:List (ByteArray×Int)) (S:List ByteArray),S.Nodup→(∀ k,Wf seen k=if k ∈ S then some 1 else none)→Zcc l seen=some (!decide (S++l).Nodup)
 | [],seen,S,c,d=>by rw [Zcc.eq_1,cU,decide_eq_true c];rfl
 | x :: l,seen,S,c,d=>by
  rw [Zcc.eq_2,d x]
  by_cases hx:x ∈ S
  ·rw [if_pos hx,if_pos (by decide),decide_eq_false]
   ·rfl
   intro h
   exact (cD.1 h).2.2 x hx x aT rfl
  ·rw [if_neg hx,if_neg (by decide),oB,Zuc l _ (S++[x]) (by
    rw [cD]
    refine ⟨c,by simp,fun a g b f e=>?_⟩
    rw [bH] at f;subst f;subst e;exact hx g) (fun k=>by
    rw [Zt5,d k]
    by_cases hk:k=x
    ·subst hk;rw [if_pos rfl,if_pos (by simp)]
    ·rw [if_neg hk]
     by_cases hs:k ∈ S
     ·rw [if_pos hs,if_pos (by simp [hs])]
     ·rw [if_neg hs,if_neg (by simp [hs,hk])])]
   rw [bK];rfl
theorem Z3u (l:List ByteArray):Zja l=some (!decide l.Nodup):=by
 rw [Zja,Zuc l [] [] .nil (fun k=>by simp [Wf]),bO]
def U4 (names:List ByteArray) (vals:List R4):Nat→Nat→Int
 | 0,_=>0
 | m+1,v=>if names.getD v ⟨#[]⟩ ∈ names.take v∨¬ (vals.getD v []).Nodup then 40 else if vals.getD v []=[] then 43 else U4 names vals m (v+1)
theorem Zuh (n:Z6) (hl:n.2.2.1.length=n.2.1.length):∀ (l:List ByteArray) (k:Nat),n.2.1.drop k=l→k≤n.2.1.length→Zaw n l k=some (U4 n.2.1 n.2.2.1 l.length k)
 | [],k,_,_=>rfl
 | x :: l,k,c,f=>by
  have a:k<n.2.1.length:=by
   rcases cI k n.2.1.length with h | h
   ·exact h
   ·rw [aF h] at c;cases c
  have b:=aL a
  rw [c] at b
  obtain ⟨e,d⟩:=List.cons.inj b
  rw [Zaw.eq_2,Zz (by omega),aB,Z1k,oB,nC,U4,Yb a,← e,Yb (by omega)]
  by_cases h1:x ∈ n.2.1.take k
  ·rw [if_pos (dT h1),Zgw,if_pos rfl,if_pos (.inl h1)]
  ·rw [if_neg (dF h1),Zs (by omega),oB,Z3u,oB,Zgw]
   by_cases h2:(n.2.2.1[k]'(by omega)).Nodup
   ·rw [decide_eq_true h2,if_neg (by decide),if_neg (by simp [h1,h2]),Zs (by omega),oB]
    by_cases h3:n.2.2.1[k]'(by omega)=[]
    ·rw [if_pos (by rw [h3];decide),if_pos h3]
    ·rw [if_neg (by simpa using h3),if_neg h3]
     exact Zuh n hl l (k+1) d.symm (by omega)
   ·rw [decide_eq_false h2,if_pos (by decide),if_pos (.inr h2)]
theorem Zui (n:Z6) (hl:n.2.2.1.length=n.2.1.length):Zd1 n=some (U4 n.2.1 n.2.2.1 n.2.1.length 0):=by
 rw [Zd1];exact Zuh n hl n.2.1 0 (by simp) (by omega)
theorem Zpr (N:Nat) (n:Z6) (v:Nat) (hv:v<n.2.2.1.length) (hb:n.2.2.1[v].length≤1048576) (hN:1048577<N) (hvb:v<4611686018427387904) (kk:Int→Option Int) (A:Prop) [Decidable A]:∀ (m i:Nat) (a:Bool),i≤n.2.2.1[v].length→n.2.2.1[v].length<m+i→(a=true→A∨¬ (n.2.2.1[v]).Nodup)→(a=false→¬ A∧((n.2.2.1[v]).take i).Nodup)→
  Zbb N n (v:Int) kk m a (i:Int)=if A∨¬ (n.2.2.1[v]).Nodup then some 40 else if n.2.2.1[v]=[] then some 43 else kk ((v:Int)+1)
 | 0,i,a,o,p,_,_=>by omega
 | m+1,i,a,o,p,e,f=>by
  rw [Zbb.eq_2,Zs hv,oB]
  by_cases hi:i<n.2.2.1[v].length
  ·rw [if_pos (dT (by omega))]
   cases a with
   | true=>
    rw [if_pos rfl,Zhw,Zp (by omega)]
    exact Zpr N n v hv hb hN hvb kk A m (i+1) true (by omega) (by omega) e (fun h=>by cases h)
   | false=>
    obtain ⟨j,q,g⟩:=Zsa (N:=N) (l:=n.2.2.1[v]) (by omega) hi (by omega)
    have st:=Zum n.2.2.1[v] i hi
    have c:=f rfl
    rw [if_neg (by decide),Zs hi,oB,q,oB,Zhw,Zp (by omega)]
    have:=Zpr N n v hv hb hN hvb kk A m (i+1) (decide ((j:Int)<(i:Int))) (by omega) (by omega) (fun h=>.inr fun r=>by
     have d:=of_decide_eq_true h
     have b:=(r.sublist (List.take_sublist (i+1) _))
     exact (st.1 b).2 (g.1 (by omega))) (fun h=>⟨c.1,st.2 ⟨c.2,fun s=>by
     have d:=of_decide_eq_false h
     have:=g.2 s
     omega⟩⟩)
    exact this
  ·have k:i=n.2.2.1[v].length:=by omega
   rw [if_neg (dF (by omega))]
   cases a with
   | true=>rw [if_pos rfl,if_pos (e rfl)]
   | false=>
    obtain ⟨c,d⟩:=f rfl
    rw [k,List.take_length] at d
    have t:¬ (A∨¬ (n.2.2.1[v]).Nodup):=fun h=>h.elim c (fun h=>h d)
    rw [if_neg (by decide),if_neg t,Zp (by omega)]
    by_cases b:n.2.2.1[v]=[]
    ·rw [if_pos (by rw [b];decide),if_pos b]
    ·rw [if_neg (by simpa using b),if_neg b]
theorem Zww (N:Nat) (n:Z6) (hl:n.2.2.1.length=n.2.1.length) (hn:n.2.1.length≤1048576) (hb:∀ l ∈ n.2.2.1,l.length≤1048576) (hN:1048577<N):∀ (m fuel v:Nat),m+v=n.2.1.length→m<fuel→
  Se N n fuel (v:Int)=if U4 n.2.1 n.2.2.1 m v=0 then Se N n (fuel - m) (n.2.1.length:Int) else some (U4 n.2.1 n.2.2.1 m v)
 | 0,fuel,v,c,_=>by
  have:v=n.2.1.length:=by omega
  rw [U4,if_pos rfl,this,Nat.sub_zero]
 | m+1,0,v,c,f=>by omega
 | m+1,fuel+1,v,c,f=>by
  have b:v<n.2.1.length:=by omega
  have a:v<n.2.2.1.length:=by omega
  obtain ⟨j,g,d⟩:=Zsa (N:=N) (l:=n.2.1) (by omega) b (by omega)
  rw [Se.eq_2,if_pos (dT (by omega)),Zs b,oB,g,oB,U4,Yb b,Yb a,show (0:Int)=((0:Nat):Int) from rfl,
   Zpr N n v a (hb _ (aD a)) hN (by omega) (Se N n fuel) (n.2.1[v] ∈ n.2.1.take v) N 0 _ (by omega) (by have:=hb _ (aD a);omega) (fun h=>.inl (d.1 (by have:=of_decide_eq_true h;omega))) (fun h=>⟨fun i=>by have:=of_decide_eq_false h;have:=d.2 i;omega,by simp⟩)]
  by_cases h3:n.2.1[v] ∈ n.2.1.take v∨¬ (n.2.2.1[v]).Nodup
  ·rw [if_pos h3,if_pos h3,if_neg (by decide)]
  ·rw [if_neg h3,if_neg h3]
   by_cases h4:n.2.2.1[v]=[]
   ·rw [if_pos h4,if_pos h4,if_neg (by decide)]
   ·rw [if_neg h4,if_neg h4]
    have e:=Zww N n hl hn hb hN m fuel (v+1) (by omega) (by omega)
    rw [show ((v+1:Nat):Int)=(v:Int)+1 by omega] at e
    rw [e,show fuel+1 - (m+1)=fuel - m by omega]
    rfl
theorem Zuk {names:List ByteArray} {vals:List R4}:∀ (m v:Nat),U4 names vals m v=0→∀ i,v≤i→i<v+m→vals.getD i []≠[]∧(vals.getD i []).Nodup∧names.getD i ⟨#[]⟩ ∉ names.take i
 | 0,v,_,i,a,b=>by omega
 | m+1,v,h,i,a,b=>by
  rw [U4] at h
  by_cases h3:names.getD v ⟨#[]⟩ ∈ names.take v∨¬ (vals.getD v []).Nodup
  ·rw [if_pos h3] at h;cases h
  ·rw [if_neg h3] at h
   by_cases h4:vals.getD v []=[]
   ·rw [if_pos h4] at h;cases h
   ·rw [if_neg h4] at h
    rcases cI v i with c | c
    ·exact Zuk m (v+1) h i (by omega) (by omega)
    ·have:i=v:=by omega
     subst this
     exact ⟨h4,by simpa using (not_or.1 h3).2,(not_or.1 h3).1⟩
def Yl (vals:List R4):List Int→Nat→Nat
 | [],k=>k
 | p :: ps,k=>Yl vals ps (min (k * (vals.getD p.toNat []).length) 1099511627776)
theorem Zpt (vals:List R4):∀ (ps:List Int) (k:Nat),k≤1099511627776→Yl vals ps k≤1099511627776
 | [],k,h=>h
 | p :: ps,k,h=>Zpt vals ps _ (by omega)
theorem Zml {a b:Nat} (h:a≤1099511627776) (g:b≤1048576):a * b≤1152921504606846976:=by
 have:=Nat.mul_le_mul h g
 simpa using this
theorem Zub (n:Z6) (hb:∀ l ∈ n.2.2.1,l.length≤1048576):∀ (ps:List Int) (k:Nat),k≤1099511627776→(∀ p ∈ ps,0≤p∧p<(n.2.2.1.length:Int))→Zd3 n ps (k:Int)=some (Yl n.2.2.1 ps k:Int)
 | [],k,_,_=>rfl
 | p :: ps,k,c,b=>by
  have g:=b p aT
  have a:p.toNat<n.2.2.1.length:=by omega
  have d:=hb _ (aD a)
  have i:=Zml c d
  rw [Zd3.eq_2,show p=((p.toNat:Nat):Int) by omega,Zs a,oB,Yl,aB,Yb a,← bT,Zp (by omega)]
  have e:=Zub n hb ps (min (k * n.2.2.1[p.toNat].length) 1099511627776) (by omega) (fun q f=>b q (aP _ f))
  rw [← e]
  congr 1
  by_cases h5:1099511627776<k * n.2.2.1[p.toNat].length
  ·rw [if_pos (by omega),dH (by omega)];rfl
  ·rw [if_neg (by omega),aR (by omega)]
theorem Zxs (N:Nat) (n:Z6) (hl:n.2.2.1.length≤1048576):∀ (m i:Nat) (out:List Int),i≤n.2.2.1.length→n.2.2.1.length<m+i→out=(n.2.2.1.take i).map (fun l=>(l.length:Int))→Zey N n m out (i:Int)=some (n.2.2.1.map fun l=>(l.length:Int))
 | 0,i,out,b,c,_=>by omega
 | m+1,i,out,b,c,a=>by
  rw [Zey.eq_2]
  have d:out.length=i:=by rw [a,aH,nK];omega
  by_cases hi:i<n.2.2.1.length
  ·rw [if_pos (dT (by omega)),Zs hi,oB,Zz (by simp only [aN,maxLen];omega),Zp (by omega)]
   exact Zxs N n hl m (i+1) _ (by omega) (by omega) (by rw [a,dM,aG hi,cM,dK];rfl)
  ·rw [if_neg (dF (by omega)),a,bJ (by omega)]
theorem Z5p {N:Nat} {n:Z6} (hl:n.2.2.1.length≤1048576) (hN:1048576<N):Zex N n=some (n.2.2.1.map fun l=>(l.length:Int)):=by
 rw [Zex]
 exact Zxs N n hl N 0 [] (by omega) (by omega) (by simp)
theorem Znc {vals:List R4} {i:Nat} (h:i<vals.length):Zi (vals.map fun l=>(l.length:Int)) (i:Int)=some (vals[i].length:Int):=by
 rw [Zs (by rw [aH];exact h),dD]
theorem Zn8 (N:Nat) (ps:List Int) (vals:List R4) (hb:∀ l ∈ vals,l.length≤1048576) (hne:∀ l ∈ vals,l≠[]) (hp:∀ p ∈ ps,0≤p∧p<(vals.length:Int)) (hps:ps.length≤1048576):∀ (m i k:Nat),i≤ps.length→ps.length<m+i→k≤1099511627776→
  Zbe N ps (vals.map fun l=>(l.length:Int)) m (k:Int) (i:Int)=some (Yl vals (ps.drop i) k:Int)
 | 0,i,k,c,d,_=>by omega
 | m+1,i,k,c,d,f=>by
  rw [Zbe.eq_2]
  by_cases hi:i<ps.length
  ·have n:=hp _ (aD hi)
   have a:(ps[i]).toNat<vals.length:=by omega
   have g:=hb _ (aD a)
   have j:0<vals[(ps[i]).toNat].length:=bV.2 (hne _ (aD a))
   have o:=Zml f g
   rw [if_pos (dT (by omega)),Zs hi,oB]
   conv=>lhs;rw [show ps[i]=(((ps[i]).toNat:Nat):Int) by omega]
   rw [Znc a,oB,Zz (by omega),aL hi,Yl,Yb a]
   have e:i64.wrap (Int.tdiv 1099511627776 (vals[(ps[i]).toNat].length:Int))=((1099511627776 / vals[(ps[i]).toNat].length:Nat):Int):=by
    rw [bR (by decide),show (1099511627776:Int)=((1099511627776:Nat):Int) from rfl,← gA]
    refine Zp ⟨by have:=dU (1099511627776 / vals[(ps[i]).toNat].length);omega,?_⟩
    have:=cB 1099511627776 vals[(ps[i]).toNat].length
    omega
   rw [e]
   have b:1099511627776 / vals[(ps[i]).toNat].length<k↔1099511627776<k * vals[(ps[i]).toNat].length:=cY j
   by_cases h9:1099511627776<k * vals[(ps[i]).toNat].length
   ·rw [if_pos (dT (eC.2 (b.2 h9))),Zhx,Zp (by omega),dH (by omega)]
    exact Zn8 N ps vals hb hne hp hps m (i+1) 1099511627776 (by omega) (by omega) (by omega)
   ·rw [if_neg (by rw [decide_eq_false (fun h=>h9 (b.1 (eC.1 h)))];decide),Zhx,← bT,Zp (by omega),Zp (by omega),aR (by omega)]
    exact Zn8 N ps vals hb hne hp hps m (i+1) _ (by omega) (by omega) (by omega)
  ·rw [if_neg (dF (by omega)),aF (by omega),Yl]
theorem Zrj (N:Nat) (ps:List Int) (vals:List R4) (hb:∀ l ∈ vals,l.length≤1048576) (hne:∀ l ∈ vals,l≠[]) (hp:∀ p ∈ ps,0≤p∧p<(vals.length:Int)) (hps:ps.length≤1048576) (hN:1048577<N):∀ (m i:Nat),i≤ps.length→ps.length<m+i→
  Zev N ps (vals.map fun l=>(l.length:Int)) m (i:Int)=some (Yl vals ps 1:Int)
 | 0,i,b,c=>by omega
 | m+1,i,b,c=>by
  rw [Zev.eq_2]
  by_cases hi:i<ps.length
  ·have d:=hp _ (aD hi)
   have a:(ps[i]).toNat<vals.length:=by omega
   have e:0<vals[(ps[i]).toNat].length:=bV.2 (hne _ (aD a))
   rw [if_pos (dT (by omega)),Zs hi,oB]
   conv=>lhs;rw [show ps[i]=(((ps[i]).toNat:Nat):Int) by omega]
   rw [Znc a,oB,if_neg (dF (by omega)),Zp (by omega)]
   exact Zrj N ps vals hb hne hp hps hN m (i+1) (by omega) (by omega)
  ·rw [if_neg (dF (by omega))]
   exact Zn8 N ps vals hb hne hp hps N 0 1 (by omega) (by omega) (by omega)
theorem Z1h {N:Nat} {ps:List Int} {vals:List R4} (hb:∀ l ∈ vals,l.length≤1048576) (hne:∀ l ∈ vals,l≠[]) (hp:∀ p ∈ ps,0≤p∧p<(vals.length:Int)) (hps:ps.length≤1048576) (hN:1048577<N):Zjy N ps (vals.map fun l=>(l.length:Int))=some (Yl vals ps 1:Int):=by
 rw [Zjy]
 exact Zrj N ps vals hb hne hp hps hN N 0 (by omega) (by omega)
theorem Z4b {r c:Nat} (hc:0<c):Zj0 (r:Int) (c:Int)=some (decide (65536<r * c)):=by
 have e:i64.wrap (Int.tdiv 65536 (c:Int))=((65536 / c:Nat):Int):=by
  rw [bR (by decide),show (65536:Int)=((65536:Nat):Int) from rfl,← gA]
  refine Zp ⟨by have:=dU (65536 / c);omega,?_⟩
  have:=cB 65536 c
  omega
 rw [Zj0,if_pos (dT (by omega)),Zz (by omega),e,Zj1]
 congr 1
 refine decide_eq_decide.2 ?_
 rw [eC]
 exact cY hc
def V9 (vals:List R4) (P:List R2) (T:List (List QV)):Nat→Nat→Int
 | 0,_=>0
 | m+1,v=>if 65536<Yl vals (P.getD v []) 1 * (vals.getD v []).length then 4 else if Yl vals (P.getD v []) 1 * (vals.getD v []).length≠(T.getD v []).length then 60 else V9 vals P T m (v+1)
structure Wr (n:Z6) (W:Nat):Prop where
 nm:n.2.1.length≤1048575
 vl:∀ l ∈ n.2.2.1,l.length≤1048576
 pn:Zk1 n.2.2.2.1
 tl:∀ t ∈ n.2.2.2.2,t.length≤1048576
 tq:∀ t ∈ n.2.2.2.2,Xz t≤W
 lim:∀ t ∈ n.2.2.2.2,∀ x ∈ t,W3 x
structure Uy (n:Z6):Prop where
 v:n.2.2.1.length=n.2.1.length
 p:n.2.2.2.1.length=n.2.1.length
 t:n.2.2.2.2.length=n.2.1.length
 i:V6 n.2.2.2.1.length n.2.2.2.1=true
 ne:∀ l ∈ n.2.2.1,l≠[]
theorem Uy.par {n:Z6} (h:Uy n) {ps:List Int} (hp:ps ∈ n.2.2.2.1):∀ p ∈ ps,0≤p∧p<(n.2.2.1.length:Int):=by
 have:=Zsv h.i ps hp
 rw [h.p] at this
 rw [h.v];exact this
theorem Zo0 {N W:Nat} {n:Z6} (hs:Wr n W) (he:Uy n):∀ (l:List (List QV)) (k:Nat),n.2.2.2.2.drop k=l→k≤n.2.1.length→Zau N n l k=if V9 n.2.2.1 n.2.2.2.1 n.2.2.2.2 l.length k=0 then Zav N n n.2.2.2.2 else some (V9 n.2.2.1 n.2.2.2.1 n.2.2.2.2 l.length k)
 | [],k,_,_=>by rw [Zau.eq_1];rfl
 | t :: l,k,d,o=>by
  have q:=he.t;have r:=he.v;have s:=he.p
  have b:k<n.2.2.2.2.length:=by
   rcases cI k n.2.2.2.2.length with h | h
   ·exact h
   ·rw [aF h] at d;cases d
  have c:=aL b
  rw [d] at c
  obtain ⟨i,g⟩:=List.cons.inj c
  have e:k<n.2.2.1.length:=by omega
  have kp:k<n.2.2.2.1.length:=by omega
  have j:=Zpt n.2.2.1 (n.2.2.2.1[k]) 1 (by omega)
  have m:=hs.vl _ (aD e)
  have u:=Zml j m
  have f:Zgz n (k:Int)=some (Yl n.2.2.1 n.2.2.2.1[k] 1:Int):=by
   rw [Zgz,Zs kp,oB]
   exact Zub n hs.vl _ 1 (by omega) (he.par (aD kp))
  rw [Zau.eq_2]
  have a:Zgz (n.1,n.2.1,n.2.2.1,n.2.2.2.1,n.2.2.2.2) (k:Int)=some (Yl n.2.2.1 n.2.2.2.1[k] 1:Int):=f
  rw [a,oB,Zs e,oB,← bT,Zp (by omega),nC,V9,Yb kp,Yb e,Yb b,← i]
  generalize Yl n.2.2.1 n.2.2.2.1[k] 1 * n.2.2.1[k].length=rc at *
  by_cases h1:65536<rc
  ·rw [if_pos (dT (by omega)),if_pos h1,if_neg (by decide)]
  ·rw [if_neg (dF (by omega)),if_neg h1]
   by_cases h2:rc=t.length
   ·rw [if_neg (by rw [decide_eq_true (by omega)];decide),if_neg (show ¬ rc≠t.length from fun h=>h h2)]
    exact Zo0 hs he l (k+1) g.symm (by omega)
   ·rw [if_pos (by rw [decide_eq_false (by omega)];decide),if_pos h2,if_neg (by decide)]
theorem Zw8 {N W:Nat} {n:Z6} (hN:1048577<N) (hs:Wr n W) (he:Uy n):∀ (m fuel v:Nat),m+v=n.2.1.length→m<fuel→
  Zbc N n (n.2.2.1.map fun l=>(l.length:Int)) fuel (v:Int)=if V9 n.2.2.1 n.2.2.2.1 n.2.2.2.2 m v=0 then Q6 N n (n.2.2.1.map fun l=>(l.length:Int)) N 0 else some (V9 n.2.2.1 n.2.2.2.1 n.2.2.2.2 m v)
 | 0,0,v,_,h=>by omega
 | 0,fuel+1,v,c,_=>by
  rw [Zbc.eq_2,if_neg (dF (by omega))];rfl
 | m+1,0,v,_,h=>by omega
 | m+1,fuel+1,v,c,i=>by
  have j:=he.t;have k:=he.v;have o:=he.p;have g:=hs.nm
  have b:v<n.2.2.2.2.length:=by omega
  have a:v<n.2.2.1.length:=by omega
  have kp:v<n.2.2.2.1.length:=by omega
  have d:=Zpt n.2.2.1 (n.2.2.2.1[v]) 1 (by omega)
  have e:=hs.vl _ (aD a)
  have f:0<n.2.2.1[v].length:=bV.2 (he.ne _ (aD a))
  have q:=Zml d e
  rw [Zbc.eq_2,if_pos (dT (by omega)),Zs kp,oB,Z1h hs.vl he.ne (he.par (aD kp)) (hs.pn.ls _ (aD kp)) hN,oB,Znc a,oB,Z4b f,oB,V9,Yb kp,Yb a,Yb b,← bT,Zp (by omega)]
  generalize Yl n.2.2.1 n.2.2.2.1[v] 1 * n.2.2.1[v].length=rc at *
  by_cases h3:65536<rc
  ·rw [if_pos (dT (by omega)),if_pos h3,if_neg (by decide)]
  ·rw [if_neg (dF (by omega)),if_neg h3,Zs b,oB]
   by_cases h4:rc=n.2.2.2.2[v].length
   ·rw [if_neg (by rw [decide_eq_true (by omega)];decide),if_neg (show ¬ rc≠n.2.2.2.2[v].length from fun h=>h h4),Zp (by omega)]
    exact Zw8 hN hs he m fuel (v+1) (by omega) (by omega)
   ·rw [if_pos (by rw [decide_eq_false (by omega)];decide),if_pos h4,if_neg (by decide)]
def Wx (x:QV):Bool:=decide (Xj x<0)||decide (1<Xj x)
theorem Zvd {a b:Rat}:0<Zad a b↔b<a:=by
 rw [Zad]
 by_cases h:a<b
 ·rw [if_pos h]
  constructor
  ·intro c;omega
  ·intro c;exact absurd (Rat.le_of_lt c) (Rat.not_le.2 h)
 ·rw [if_neg h]
  by_cases c:b<a
  ·simp [c]
  ·simp [c]
theorem Zmv {a b:Rat}:Zad a b=0↔a=b:=by
 rw [Zad]
 constructor
 ·intro h
  split at h
  ·cases h
  ·split at h
   ·cases h
   ·rename_i c d
    exact Rat.le_antisymm (Rat.not_lt.1 d) (Rat.not_lt.1 c)
 ·rintro rfl
  rw [if_neg jI,if_neg jI]
theorem Zoz {N:Nat} (hr:Xa N 8):Zd2 N=some (Xc 1):=by
 rw [Zd2,Z2n (by omega) (by omega) (hr.mono (by omega)),oB,if_neg (by decide)]
 have:((1:Int):Rat) / ((1:Int):Rat)=1:=div_one _
 rw [this]
theorem Zw2 {N:Nat} (hr:Xa N 8):Zhy N=some (Xc 1):=by
 rw [Zhy,Zxu hr];rfl
theorem Zm9:RV 1 (Xc 1):=Zkr (by rw [Zmw];omega)
theorem Z3t {N k:Nat} {x:QV} (hx:RV k x) (hr:Xa N (2 * k+16)):Zgx N x=some (Wx x):=by
 have c:Zgl N ((x.1.1,x.1.2),x.2)=some (Zc6 (Xj x)):=Z2q hx (hr.mono (by omega))
 rw [Zgx,c,oB,Wx]
 by_cases h:Xj x<0
 ·rw [if_pos (dT (Zmx.2 h)),Zgy,decide_eq_true h,Bool.true_or]
 ·rw [if_neg (dF (fun d=>h (Zmx.1 d))),decide_eq_false h,Bool.false_or,Zoz (hr.mono (by omega)),oB,Zr8 (a:=((x.1.1,x.1.2),x.2)) (b:=Xc 1) hx Zm9 (hr.mono (by omega)),oB,Zgy,Qk]
  congr 1
  exact decide_eq_decide.2 Zvd
theorem Z5j {N k:Nat} {x:QV} (hx:RV k x) (hr:Xa N (2 * k+16)):Zhz N x=some (Wx x):=by
 have c:Zhq N ((x.1.1,x.1.2),x.2)=some (Zc6 (Xj x)):=Z5e hx (hr.mono (by omega))
 rw [Zhz,c,oB,Wx]
 by_cases h:Xj x<0
 ·rw [if_pos (dT (Zmx.2 h)),Zh0,decide_eq_true h,Bool.true_or]
 ·rw [if_neg (dF (fun d=>h (Zmx.1 d))),decide_eq_false h,Bool.false_or,Zw2 (hr.mono (by omega)),oB,Zwj (a:=((x.1.1,x.1.2),x.2)) (b:=Xc 1) hx Zm9 (hr.mono (by omega)),oB,Zh0,Qk]
  congr 1
  exact decide_eq_decide.2 Zvd
def Wn (x:QV):QV:=if Zc x.2=0 then (x.1,[1]) else x
theorem Zsb {x:QV} (h:W3 x):W3 (Wn x):=by
 rw [Wn];split
 ·exact ⟨h.1,.cons (by decide) .nil⟩
 ·exact h
theorem Zoh (x:QV):Xj (Wn x)=Xj x:=by
 rw [Wn];split
 ·rename_i h
  rw [Xj,Xj]
  show mkRat (Zu x.1) (Yh [1])=mkRat (Zu x.1) (Yh x.2)
  rw [Yh,Yh,if_pos h]
  congr 1
 ·rfl
theorem Z2i (x:QV):Wx (Wn x)=Wx x:=by rw [Wx,Wx,Zoh]
theorem Z2h (x:QV):max (Wn x).1.2.length (Wn x).2.length≤max x.1.2.length x.2.length+1:=by
 rw [Wn];split
 ·show max x.1.2.length [(1:Int)].length≤_
  simp only [aN];omega
 ·omega
theorem Zpf:∀ l:List QV,2 * l.length≤Xz l
 | []=>by simp [Xz]
 | a :: l=>by rw [Xz,nC];have:=Zpf l;omega
theorem Zpe:∀ l:List QV,Xz (l.map Wn)≤Xz l+l.length
 | []=>by simp [Xz]
 | a :: l=>by
  rw [cG,Xz,Xz,nC]
  have:=Zpe l;have:=Z2h a;omega
theorem Zve (a b:List QV):Xz (a++b)=Xz a+Xz b:=by
 induction a with
 | nil=>simp [Xz]
 | cons x a c=>rw [List.cons_append,Xz,Xz,c];omega
theorem Zvi (l:List QV) (k:Nat):Xz (l.take k)≤Xz l:=by
 have:=Zve (l.take k) (l.drop k)
 rw [fD] at this;omega
theorem Zvf (l:List QV) (k:Nat):Xz (l.drop k)≤Xz l:=by
 have:=Zve (l.take k) (l.drop k)
 rw [fD] at this;omega
theorem Zvh {l:List QV} {x:QV} (h:x ∈ l):max x.1.2.length x.2.length≤Xz l:=by
 induction l with
 | nil=>simp at h
 | cons y l a=>
  rw [Xz]
  rcases aM.1 h with rfl | h
  ·omega
  ·have:=a h;omega
theorem Zsg {N k:Nat} {x:QV} (h:W3 x) (hk:max x.1.2.length x.2.length≤k) (hr:Xa N k):Zca N x=some (Wn x):=by
 obtain ⟨a,b⟩:=hr
 rw [Zca,Zo5 h.2 (by omega) (by omega),oB,Wn]
 by_cases h0:Zc x.2=0
 ·rw [h0,Wv,if_pos (by decide),if_pos rfl,Zkg (by decide) (by omega),oB,Zgu,show (1:Int).toNat=1 from rfl,Zam]
 ·have:=T0 h0
  rw [if_neg (dF (by omega)),if_neg h0,Zgu]
theorem Zsh {N W:Nat} (hr:Xa N W):∀ (l out:List QV),(∀ x ∈ l,W3 x)→Xz l≤W→out.length+l.length≤1048576→Zcb N l out=some (out++l.map Wn)
 | [],out,_,_,_=>by rw [Zcb.eq_1];simp
 | x :: l,out,b,c,a=>by
  rw [Xz] at c
  rw [nC] at a
  have d:Zca N ((x.1.1,x.1.2),x.2)=some (Wn x):=Zsg (x:=x) (b x aT) (k:=W) (by omega) hr
  rw [Zcb.eq_2,d,oB,Zz (by simp only [aN,maxLen];omega),Zsh hr l _ (fun y e=>b y (aP _ e)) (by omega) (by simp only [nA,aN];omega)]
  simp
theorem Zsi {N W:Nat} {l:List QV} (hr:Xa N W) (hl:∀ x ∈ l,W3 x) (hq:Xz l≤W) (hlen:l.length≤1048576):Zgv N l=some (l.map Wn):=by
 rw [Zgv,Zz (by simp only [maxLen];omega),Zsh hr l [] hl hq (by simpa using hlen),bO]
theorem Zsr {N W:Nat} (hr:Xa N (2 * W+16)):∀ (l:List QV) (k:Nat),(∀ x ∈ l,W3 x)→Xz l≤W→∃ j:Int,Zfm N l k=some j∧(0≤j↔l.any Wx=true)
 | [],k,_,_=>⟨-1,rfl,by simp⟩
 | x :: l,k,b,d=>by
  rw [Xz] at d
  have c:=b x aT
  have a:Zgx N ((x.1.1,x.1.2),x.2)=some (Wx x):=Z3t (x:=x) (Zdc c.1 c.2) (hr.mono (by omega))
  rw [Zfm.eq_2,a,oB,dL]
  cases Wx x with
  | true=>rw [if_pos rfl];exact ⟨_,rfl,by simp⟩
  | false=>
   rw [if_neg (by decide)]
   obtain ⟨j,a,e⟩:=Zsr hr l (k+1) (fun y f=>b y (aP _ f)) (by omega)
   exact ⟨j,a,by rw [e];simp⟩
def Qt (T:List (List QV)):Bool:=T.any fun t=>t.any Wx
theorem Zyx (l:List QV):(l.map Wn).any Wx=l.any Wx:=by
 induction l with
 | nil=>rfl
 | cons x l a=>rw [cG,dL,dL,a,Z2i]
theorem Zoy {N W:Nat} {n:Z6} (hr:Xa N (4 * W+16)):∀ l:List (List QV),(∀ t ∈ l,t.length≤1048576∧Xz t≤W∧∀ x ∈ t,W3 x)→Zav N n l=if Qt l=true then some 45 else Zb8 N n n.2.2.2.2 0
 | [],_=>by rw [Zav.eq_1];rfl
 | t :: l,h=>by
  obtain ⟨d,e,c⟩:=h t aT
  have i:=Zpf t
  have k:=Zpe t
  obtain ⟨j,f,a⟩:=Zsr (N:=N) (W:=2 * W) (hr.mono (by omega)) (t.map Wn) 0 (fun x b=>by
   obtain ⟨y,g,rfl⟩:=cE.1 b
   exact Zsb (c y g)) (by omega)
  rw [Zav.eq_2,Zsi (W:=W) (hr.mono (by omega)) c e d,oB,Zmh,Zmi,f,oB,oB,Qt,dL]
  rw [Zyx] at a
  by_cases ho:t.any Wx=true
  ·rw [if_pos (dT (a.2 ho)),ho,Bool.true_or,if_pos rfl]
  ·rw [if_neg (dF (fun h=>ho (a.1 h))),Bool.eq_false_iff.2 ho,Bool.false_or]
   exact Zoy hr l fun x b=>h x (aP _ b)
theorem Zwi {N W:Nat} {n:Z6} (sz:List Int) (hr:Xa N (4 * W+16)) {v:Nat} (hv:v<n.2.2.2.2.length) (hvs:v<1048576) (h1:n.2.2.2.2[v].length≤1048576) (h2:Xz n.2.2.2.2[v]≤W) (h3:∀ x ∈ n.2.2.2.2[v],W3 x) (kk:Int→Option Int):∀ (m i:Nat),i≤n.2.2.2.2[v].length→n.2.2.2.2[v].length<m+i→
  Zeu N n (v:Int) kk m (i:Int)=if ((n.2.2.2.2[v]).drop i).any Wx=true then some 45 else kk ((v:Int)+1)
 | 0,i,b,c=>by omega
 | m+1,i,b,c=>by
  rw [Zeu.eq_2,Zs hv,oB]
  by_cases hi:i<n.2.2.2.2[v].length
  ·have a:=h3 _ (aD hi)
   have d:=Zvh (aD hi)
   have e:Zhz N (((n.2.2.2.2[v][i]).1.1,(n.2.2.2.2[v][i]).1.2),(n.2.2.2.2[v][i]).2)=some (Wx n.2.2.2.2[v][i]):=Z5j (x:=n.2.2.2.2[v][i]) (Zdc a.1 a.2) (hr.mono (by omega))
   rw [if_pos (dT (by omega)),Zs hi,oB,e,oB,aL hi,dL]
   cases Wx n.2.2.2.2[v][i] with
   | true=>rw [if_pos rfl,Bool.true_or,if_pos rfl]
   | false=>
    rw [if_neg (by decide),Bool.false_or,Zp (by omega)]
    exact Zwi sz hr hv hvs h1 h2 h3 kk m (i+1) (by omega) (by omega)
  ·rw [if_neg (dF (by omega)),aF (by omega),List.any_nil,if_neg (by decide),Zp (by omega)]
theorem Zwh {N W:Nat} {n:Z6} (sz:List Int) (hs:Wr n W) (he:n.2.2.2.2.length=n.2.1.length) (hr:Xa N (4 * W+16)) (hN:1048577<N):∀ (m fuel v:Nat),m+v=n.2.1.length→m<fuel→
  Q6 N n sz fuel (v:Int)=if Qt (n.2.2.2.2.drop v)=true then some 45 else Zbd N n sz N 0
 | 0,0,v,_,h=>by omega
 | 0,fuel+1,v,c,_=>by
  rw [Q6.eq_2,if_neg (dF (by omega)),aF (by omega)];rfl
 | m+1,0,v,_,h=>by omega
 | m+1,fuel+1,v,c,e=>by
  have b:v<n.2.2.2.2.length:=by omega
  have d:=hs.nm
  have a:=aD b
  rw [Q6.eq_2,if_pos (dT (by omega)),show (0:Int)=((0:Nat):Int) from rfl,Zwi sz hr b (by omega) (hs.tl _ a) (hs.tq _ a) (hs.lim _ a) _ N 0 (by omega) (by have:=hs.tl _ a;omega),aX,aL b,Qt,dL]
  cases n.2.2.2.2[v].any Wx with
  | true=>rw [if_pos rfl,Bool.true_or,if_pos rfl]
  | false=>
   rw [if_neg (by decide),Bool.false_or]
   exact Zwh sz hs he hr hN m fuel (v+1) (by omega) (by omega)
def V7 (c:Nat):Nat→List QV→Bool
 | 0,_=>true
 | m+1,l=>decide (Wy (l.take c)=1)&&V7 c m (l.drop c)
def Ziw (c:Nat):Nat→List QV→List (List QV)
 | 0,_=>[]
 | m+1,l=>l.take c :: Ziw c m (l.drop c)
theorem Zrk (N:Nat) (l:List QV) (c:Nat) (hc:0<c) (hl:l.length≤1048576) (hcs:c≤1048576):∀ (m fuel i:Nat),i+m * c=l.length→m<fuel→Zc1 N l (c:Int) fuel (i:Int)=some (Ziw c m (l.drop i))
 | 0,0,i,_,h=>by omega
 | 0,fuel+1,i,a,_=>by
  rw [Zc1.eq_2,if_neg (dF (by omega))];rfl
 | m+1,0,i,_,h=>by omega
 | m+1,fuel+1,i,a,b=>by
  have d:i+c+m * c=l.length:=by rw [bI,bP] at a;omega
  have e:(if ((l.drop i).length:Int)<(c:Int) then ((l.drop i).length:Int) else (c:Int))=(c:Int):=by
   rw [cA]
   by_cases h:((l.length - i:Nat):Int)<(c:Int)
   ·omega
   ·rw [if_neg h]
  rw [Zc1.eq_2,if_pos (dT (by omega)),aB,e,Zp (by omega),Zz (by omega),Zz (by omega),show (i:Int)+(c:Int)=((i+c:Nat):Int) by omega,Zrk N l c hc hl hcs m fuel (i+c) (by omega) (by omega),oB,aB,Ziw,jA,show i+c - i=c by omega,eJ]
theorem Z4f (l:List QV):Wy (l.map Wn)=Wy l:=by
 rw [Wy,Wy,fG]
 congr 1
 exact eF fun x _=>Zoh x
theorem Zur (c:Nat):∀ (m:Nat) (l:List QV),V7 c m (l.map Wn)=V7 c m l
 | 0,l=>rfl
 | m+1,l=>by rw [V7,V7,← gM,← gN,Z4f,Zur c m]
theorem Zug {N W:Nat} (hr:Xa N (4 * W+40)) (c:Nat) (b:Bool):∀ (m:Nat) (l:List QV),(∀ x ∈ l,W3 x)→Xz l≤W→Zd4 N (Ziw c m l) b=some (V7 c m l)
 | 0,l,_,_=>rfl
 | m+1,l,e,j=>by
  have k:=Zvi l c
  have n:=Zvf l c
  obtain ⟨f,g⟩:=Zso (N:=N) (l:=l.take c) (fun x d=>e x (fH d)) (hr.mono (by omega))
  rw [Ziw,Zd4.eq_2,f,oB,Zoz (hr.mono (by omega)),oB,Zr8 (a:=Xc _) (b:=Xc 1) (Zkr g) Zm9 (hr.mono (by omega)),oB,Qk,Qk,V7]
  by_cases h:Wy (l.take c)=1
  ·rw [if_neg (by rw [Zmv.2 h];decide),decide_eq_true h,Bool.true_and]
   exact Zug hr c b m _ (fun x d=>e x (eB d)) (by omega)
  ·rw [if_pos (by rw [decide_eq_false (fun i=>h (Zmv.1 i))];decide),decide_eq_false h,Bool.false_and];rfl
theorem Z3v {N W c m:Nat} {l:List QV} (hr:Xa N (4 * W+40)) (hl:∀ x ∈ l,W3 x) (hq:Xz l≤W) (hc:0<c) (hcs:c≤1048576) (hll:l.length≤1048576) (hm:m * c=l.length) (hN:1048577<N):Zjb N l (c:Int)=some (V7 c m l):=by
 have a:m≤l.length:=by rw [← hm];exact dE m hc
 rw [Zjb,Zme,if_neg (dF (by omega)),Zmg,Zmf,show (0:Int)=((0:Nat):Int) from rfl,Zrk N l c hc hll hcs m N 0 (by omega) (by omega),oB,aX]
 exact Zug hr c false m l hl hq
theorem Zxf {N W c:Nat} {l:List QV} (hr:Xa N (4 * W+40)) (hl:∀ x ∈ l,W3 x) (hq:Xz l≤W) (hc:0<c) (hcs:c≤1048576) (hll:l.length≤1048576) (hN:1048577<N):∀ (m fuel i:Nat),i+m * c=l.length→m<fuel→Zcp N l (c:Int) fuel (i:Int)=some (V7 c m (l.drop i))
 | 0,0,i,_,h=>by omega
 | 0,fuel+1,i,e,_=>by
  rw [Zcp.eq_2,if_neg (dF (by omega))];rfl
 | m+1,0,i,_,h=>by omega
 | m+1,fuel+1,i,e,f=>by
  have n:i+c+m * c=l.length:=by rw [bI,bP] at e;omega
  have o:=Zvi (l.drop i) c
  have p:=Zvf l i
  have d:∀ x ∈ (l.drop i).take c,W3 x:=fun x g=>hl x (eB (fH g))
  obtain ⟨_,j⟩:=Zso (N:=N) (l:=(l.drop i).take c) d (hr.mono (by omega))
  have k:((l.drop i).take c).length≤1048576:=by rw [nK,cA];omega
  rw [Zcp.eq_2,if_pos (dT (by omega)),Zp (by omega),Zz (by omega),show (i:Int)+(c:Int)=((i+c:Nat):Int) by omega,aB,aB,jA,show i+c - i=c by omega,Z5f d (by omega) (by omega) (hr.mono (by omega)),oB,Zw2 (hr.mono (by omega)),oB,Zwj (a:=Xc _) (b:=Xc 1) (Zkr j) Zm9 (hr.mono (by omega)),oB,Qk,Qk,V7]
  by_cases h:Wy ((l.drop i).take c)=1
  ·rw [if_neg (by rw [Zmv.2 h];decide),decide_eq_true h,Bool.true_and,eJ]
   exact Zxf hr hl hq hc hcs hll hN m fuel (i+c) (by omega) (by omega)
  ·rw [if_pos (by rw [decide_eq_false (fun f=>h (Zmv.1 f))];decide),decide_eq_false h,Bool.false_and]
def Zah (vals:List R4) (P:List R2) (T:List (List QV)):Nat→Nat→Int
 | 0,_=>0
 | m+1,v=>if V7 (vals.getD v []).length (Yl vals (P.getD v []) 1) (T.getD v [])=true then Zah vals P T m (v+1) else 46
theorem Zna {vals:List R4} {P:List R2} {T:List (List QV)}:∀ (m v:Nat),V9 vals P T m v=0→∀ i,v≤i→i<v+m→Yl vals (P.getD i []) 1 * (vals.getD i []).length=(T.getD i []).length∧(T.getD i []).length≤65536
 | 0,v,_,i,a,b=>by omega
 | m+1,v,h,i,a,b=>by
  rw [V9] at h
  by_cases h3:65536<Yl vals (P.getD v []) 1 * (vals.getD v []).length
  ·rw [if_pos h3] at h;cases h
  ·rw [if_neg h3] at h
   by_cases h4:Yl vals (P.getD v []) 1 * (vals.getD v []).length=(T.getD v []).length
   ·rw [if_neg (show ¬ Yl vals (P.getD v []) 1 * (vals.getD v []).length≠(T.getD v []).length from fun h=>h h4)] at h
    rcases cI v i with c | c
    ·exact Zna m (v+1) h i (by omega) (by omega)
    ·have:i=v:=by omega
     subst this
     exact ⟨h4,by omega⟩
   ·rw [if_pos h4] at h;cases h
theorem Zo1 {N W:Nat} {n:Z6} (hs:Wr n W) (he:Uy n) (hsh:V9 n.2.2.1 n.2.2.2.1 n.2.2.2.2 n.2.1.length 0=0) (hr:Xa N (8 * W+40)) (hN:1048577<N):∀ (l:List (List QV)) (k:Nat),n.2.2.2.2.drop k=l→k≤n.2.1.length→Zb8 N n l k=some (Zah n.2.2.1 n.2.2.2.1 n.2.2.2.2 l.length k)
 | [],k,_,_=>rfl
 | t :: l,k,f,w=>by
  have A:=he.t;have B:=he.v;have C:=he.p
  have a:k<n.2.2.2.2.length:=by
   rcases cI k n.2.2.2.2.length with h | h
   ·exact h
   ·rw [aF h] at f;cases f
  have e:=aL a
  rw [f] at e
  obtain ⟨b,g⟩:=List.cons.inj e
  have c:k<n.2.2.1.length:=by omega
  have kp:k<n.2.2.2.1.length:=by omega
  have d:t ∈ n.2.2.2.2:=by rw [b];exact aD a
  have j:=hs.vl _ (aD c)
  have o:0<n.2.2.1[k].length:=bV.2 (he.ne _ (aD c))
  obtain ⟨i,q⟩:=Zna _ 0 hsh k (by omega) (by omega)
  rw [Yb c,Yb a,← b] at i
  rw [Yb a,← b] at q
  have r:=hs.tq t d
  have u:=Zpf t
  have D:=Zpe t
  rw [Zb8.eq_2,Zs c,oB,Zsi (W:=W) (hr.mono (by omega)) (hs.lim t d) r (hs.tl t d),oB,
   Z3v (W:=2 * W) (m:=Yl n.2.2.1 (n.2.2.2.1.getD k []) 1) (hr.mono (by omega)) (fun x b=>by
    obtain ⟨y,s,rfl⟩:=cE.1 b
    exact Zsb (hs.lim t d y s)) (by omega) o j (by rw [aH];omega) (by rw [aH];exact i) hN,oB,Zur,nC,Zah,Yb c,Yb a,← b]
  cases V7 n.2.2.1[k].length (Yl n.2.2.1 (n.2.2.2.1.getD k []) 1) t with
  | true=>
   rw [if_neg (by decide),if_pos rfl]
   exact Zo1 hs he hsh hr hN l (k+1) g.symm (by omega)
  | false=>rw [if_pos (by decide),if_neg (by decide)]
theorem Zxb {N W:Nat} {n:Z6} (hs:Wr n W) (he:Uy n) (hsh:V9 n.2.2.1 n.2.2.2.1 n.2.2.2.2 n.2.1.length 0=0) (hr:Xa N (8 * W+40)) (hN:1048577<N):∀ (m fuel v:Nat),m+v=n.2.1.length→m<fuel→
  Zbd N n (n.2.2.1.map fun l=>(l.length:Int)) fuel (v:Int)=some (Zah n.2.2.1 n.2.2.2.1 n.2.2.2.2 m v)
 | 0,0,v,_,h=>by omega
 | 0,fuel+1,v,i,_=>by
  rw [Zbd.eq_2,if_neg (dF (by omega))];rfl
 | m+1,0,v,_,h=>by omega
 | m+1,fuel+1,v,i,r=>by
  have s:=he.t;have u:=he.v;have w:=he.p;have o:=hs.nm
  have a:v<n.2.2.2.2.length:=by omega
  have b:v<n.2.2.1.length:=by omega
  have d:=aD a
  have j:=hs.vl _ (aD b)
  have e:0<n.2.2.1[v].length:=bV.2 (he.ne _ (aD b))
  obtain ⟨f,k⟩:=Zna _ 0 hsh v (by omega) (by omega)
  rw [Yb b,Yb a] at f
  rw [Yb a] at k
  have q:Yl n.2.2.1 (n.2.2.2.1.getD v []) 1≤n.2.2.2.2[v].length:=by rw [← f];exact dE _ e
  have g:=Zxf (N:=N) (W:=W) (c:=n.2.2.1[v].length) (l:=n.2.2.2.2[v]) (hr.mono (by omega)) (hs.lim _ d) (hs.tq _ d) e j (hs.tl _ d) hN (Yl n.2.2.1 (n.2.2.2.1.getD v []) 1) N 0 (by omega) (by omega)
  rw [aX,show ((0:Nat):Int)=0 from rfl] at g
  rw [Zbd.eq_2,if_pos (dT (by omega)),Zs a,oB,Znc b,oB,Zl9,g,oB,Zah,Yb b,Yb a]
  cases V7 n.2.2.1[v].length (Yl n.2.2.1 (n.2.2.2.1.getD v []) 1) n.2.2.2.2[v] with
  | true=>
   rw [if_neg (by decide),if_pos rfl,Zp (by omega)]
   exact Zxb hs he hsh hr hN m fuel (v+1) (by omega) (by omega)
  | false=>rw [if_pos (by decide),if_neg (by decide)]
structure Yv (N:Nat) (n:Z6):Prop where
 ev:Uy n
 le:n.2.1.length≤1024
 nm:U4 n.2.1 n.2.2.1 n.2.1.length 0=0
 sh:V9 n.2.2.1 n.2.2.2.1 n.2.2.2.2 n.2.1.length 0=0
 en:Qt n.2.2.2.2=false
 su:Zah n.2.2.1 n.2.2.2.1 n.2.2.2.2 n.2.1.length 0=0
 tw:Ux n.2.2.2.1=false
 or:∃ l,Zan N n.2.2.2.1=some (l,0)∧Qe N n.2.2.2.1=some l∧Qd N n.2.2.2.1=some 0∧Tc n.2.2.2.1 l∧l.length=n.2.2.2.1.length
theorem Z1f {N W:Nat} {n:Z6} (hs:Wr n W) (hr:Xa N (8 * W+40)) (hN:2000000<N):∃ e,Tf N n=some e∧Zcn N n=some e∧(e=0→Yv N n):=by
 have L:=hs.nm
 -- shapes of the lists
 have J:∀ b:Bool,(b=true→Zat N n b=some 60∧Zco N n b=some 60):=fun b u=>by
  subst u
  exact ⟨by rw [Zat,if_pos rfl],by rw [Zco,if_pos rfl]⟩
 have a:=J true rfl
 rw [Tf,Zcn]
 by_cases hv:n.2.2.1.length=n.2.1.length
 ·by_cases hp:n.2.2.2.1.length=n.2.1.length
  ·by_cases ht:n.2.2.2.2.length=n.2.1.length
   ·rw [if_neg (by rw [decide_eq_true (by omega)];decide),if_neg (by rw [decide_eq_true (by omega)];decide),if_neg (by rw [decide_eq_true (by omega)];decide),if_neg (by rw [decide_eq_true (by omega)];decide),show (!decide ((n.2.2.2.2.length:Int)=(n.2.1.length:Int)))=false by rw [decide_eq_true (by omega)];rfl,Zat,Zco,if_neg (show ¬ (false=true) by decide),if_neg (show ¬ (false=true) by decide)]
    by_cases hk:1024<n.2.1.length
    ·rw [if_pos (dT (by omega)),if_pos (dT (by omega))]
     exact ⟨4,rfl,rfl,fun h=>by cases h⟩
    ·rw [if_neg (dF (by omega)),if_neg (dF (by omega))]
     have v:Zd1 (n.1,n.2.1,n.2.2.1,n.2.2.2.1,n.2.2.2.2)=some (U4 n.2.1 n.2.2.1 n.2.1.length 0):=Zui n hv
     have j:=Zww N n hv (by omega) hs.vl (by omega) n.2.1.length N 0 (by omega) (by omega)
     rw [show ((0:Nat):Int)=0 from rfl] at j
     rw [v,oB,j]
     by_cases hnms:U4 n.2.1 n.2.2.1 n.2.1.length 0=0
     ·rw [if_neg (by rw [decide_eq_true hnms];decide),if_pos hnms]
      obtain ⟨f,w⟩:∃ f,N - n.2.1.length=f+1:=⟨N - n.2.1.length - 1,by omega⟩
      rw [w,Se.eq_2,if_neg (dF (by omega))]
      have k:∀ l ∈ n.2.2.1,l≠[]:=fun l x=>by
       obtain ⟨i,y,rfl⟩:=gZ.1 x
       have:=(Zuk _ 0 hnms i (by omega) (by omega)).1
       rw [Yb y] at this;exact this
      have fin:∀ e,S6 N n.2.2.2.1=some e→Qd N n.2.2.2.1=some e→e≠0→∃ e,((S6 N n.2.2.2.1).bind fun r_17=>if (!decide (r_17=0))=true then some r_17 else Zau N n n.2.2.2.2 0)=some e∧((Qd N n.2.2.2.1).bind fun r_76=>if (!decide (r_76=0))=true then some r_76 else (Zex N (n.1,n.2.1,n.2.2.1,n.2.2.2.1,n.2.2.2.2)).bind fun g=>Zbc N n g N 0)=some e∧(e=0→Yv N n):=fun e A B c=>by
       rw [A,B,oB,oB,if_pos (by rw [decide_eq_false c];decide),if_pos (by rw [decide_eq_false c];decide)]
       exact ⟨e,rfl,rfl,fun h=>absurd h c⟩
      rcases Zxr hs.pn hN with ⟨e,D,R,c⟩ | ⟨_,_,l,_,_,_,_,D,R⟩ | ⟨C,E,l,F,m,M,o,D,R⟩
      ·exact fin e (by rw [S6,D];rfl) R (by rcases c with h | h <;> omega)
      ·exact fin 42 (by rw [S6,D];rfl) R (by decide)
      ·have G:S6 N n.2.2.2.1=some 0:=by rw [S6,D];rfl
       have d:Uy n:=⟨hv,hp,ht,C,k⟩
       have p:Zex N (n.1,n.2.1,n.2.2.1,n.2.2.2.1,n.2.2.2.2)=some (n.2.2.1.map fun l=>(l.length:Int)):=Z5p (n:=n) (by omega) (by omega)
       have H:=Zo0 (N:=N) hs d n.2.2.2.2 0 (by simp) (by omega)
       have q:=Zw8 (N:=N) (by omega) hs d n.2.1.length N 0 (by omega) (by omega)
       rw [show ((0:Nat):Int)=0 from rfl] at q
       rw [G,R,oB,oB,if_neg (by decide),if_neg (by decide),p,oB,H,q,ht]
       by_cases hsh:V9 n.2.2.1 n.2.2.2.1 n.2.2.2.2 n.2.1.length 0=0
       ·have I:=Zoy (N:=N) (n:=n) (W:=W) (hr.mono (by omega)) n.2.2.2.2 (fun t h=>⟨hs.tl t h,hs.tq t h,hs.lim t h⟩)
        have r:=Zwh (N:=N) (n.2.2.1.map fun l=>(l.length:Int)) hs ht (hr.mono (by omega)) (by omega) n.2.1.length N 0 (by omega) (by omega)
        rw [show ((0:Nat):Int)=0 from rfl,aX] at r
        rw [if_pos hsh,if_pos hsh,I,r]
        by_cases hen:Qt n.2.2.2.2=true
        ·rw [if_pos hen,if_pos hen]
         exact ⟨45,rfl,rfl,fun h=>by cases h⟩
        ·have K:=Zo1 (N:=N) hs d hsh hr (by omega) n.2.2.2.2 0 (by simp) (by omega)
         have s:=Zxb (N:=N) hs d hsh hr (by omega) n.2.1.length N 0 (by omega) (by omega)
         rw [show ((0:Nat):Int)=0 from rfl] at s
         rw [if_neg hen,if_neg hen,K,s,ht]
         exact ⟨_,rfl,rfl,fun h=>⟨d,by omega,hnms,hsh,Bool.eq_false_iff.2 hen,h,E,l,D,F,R,m,o⟩⟩
       ·rw [if_neg hsh,if_neg hsh]
        exact ⟨_,rfl,rfl,fun h=>absurd h hsh⟩
     ·rw [if_pos (by rw [decide_eq_false hnms];decide),if_neg hnms]
      exact ⟨_,rfl,rfl,fun h=>absurd h hnms⟩
   ·rw [if_neg (by rw [decide_eq_true (by omega)];decide),if_neg (by rw [decide_eq_true (by omega)];decide),if_neg (by rw [decide_eq_true (by omega)];decide),if_neg (by rw [decide_eq_true (by omega)];decide),decide_eq_false (by omega)]
    exact ⟨60,a.1,a.2,fun h=>by cases h⟩
  ·rw [if_neg (by rw [decide_eq_true (by omega)];decide),if_pos (by rw [decide_eq_false (by omega)];decide),if_neg (by rw [decide_eq_true (by omega)];decide),if_pos (by rw [decide_eq_false (by omega)];decide)]
   exact ⟨60,a.1,a.2,fun h=>by cases h⟩
 ·rw [if_pos (by rw [decide_eq_false (by omega)];decide),if_pos (by rw [decide_eq_false (by omega)];decide)]
  exact ⟨60,a.1,a.2,fun h=>by cases h⟩
def cnt (n:Z6) (v:Nat):Nat:=(n.2.2.1.getD v []).length
def Sq (n:Z6) (w:List Int):List Int→Nat→Nat
 | [],r=>r
 | p :: ps,r=>Sq n w ps (r * cnt n p.toNat+(w.getD p.toNat 0).toNat)
def Vj (n:Z6) (w:List Int) (v:Nat):Nat:=Sq n w (n.2.2.2.1.getD v []) 0
def Vu (n:Z6) (w:List Int) (v:Nat):List QV:=((n.2.2.2.2.getD v []).drop (Vj n w v * cnt n v)).take (cnt n v)
structure Tb (n:Z6) (w:List Int):Prop where
 len:w.length=n.2.1.length
 ok:∀ i,i<w.length→0≤w.getD i 0∧w.getD i 0<(cnt n i:Int)
theorem Zrn {n:Z6} (he:Uy n) {v:Nat} (hv:v<n.2.1.length):0<cnt n v:=by
 have a:v<n.2.2.1.length:=by rw [he.v];exact hv
 rw [cnt,Yb a]
 exact bV.2 (he.ne _ (aD a))
theorem Zw7 {n:Z6} (he:Uy n):∀ (ps:List Int) (k:Nat),(∀ p ∈ ps,0≤p∧p<(n.2.1.length:Int))→k≤1099511627776→k≤Yl n.2.2.1 ps k
 | [],k,_,_=>Nat.le_refl _
 | p :: ps,k,a,b=>by
  have f:=a p aT
  have c:0<(n.2.2.1.getD p.toNat []).length:=Zrn he (by omega)
  rw [Yl]
  have d:k≤min (k * (n.2.2.1.getD p.toNat []).length) 1099511627776:=Nat.le_min.2 ⟨dE k c,b⟩
  exact bA d (Zw7 he ps _ (fun q e=>a q (aP _ e)) (iT _ _))
theorem Zps {n:Z6} (he:Uy n) {w:List Int} (hw:Tb n w) {p:Int} {ps:List Int} {r k:Nat} (hp:∀ q ∈ p :: ps,0≤q∧q<(n.2.1.length:Int)) (hr:r<k) (hk:k≤65536) (hb:Yl n.2.2.1 (p :: ps) k≤65536):
  r * cnt n p.toNat+(w.getD p.toNat 0).toNat<k * cnt n p.toNat∧k * cnt n p.toNat≤65536∧Yl n.2.2.1 ps (k * cnt n p.toNat)≤65536:=by
 have d:=hp p aT
 have e:=hw.ok p.toNat (by rw [hw.len];omega)
 have f:r * cnt n p.toNat+cnt n p.toNat≤k * cnt n p.toNat:=by
  have:=bF (cnt n p.toNat) (show r+1≤k by omega)
  rwa [bI,bP] at this
 rw [Yl] at hb
 have a:=Zw7 he ps (min (k * (n.2.2.1.getD p.toNat []).length) 1099511627776) (fun q b=>hp q (aP _ b)) (iT _ _)
 have c:k * (n.2.2.1.getD p.toNat []).length≤1099511627776:=by
  rcases Nat.le_total (k * (n.2.2.1.getD p.toNat []).length) 1099511627776 with h | h
  ·exact h
  ·rw [dH h] at a hb;omega
 rw [aR c] at a hb
 exact ⟨by omega,bA a hb,hb⟩
theorem Zw4 {n:Z6} (he:Uy n) {w:List Int} (hw:Tb n w):∀ (ps:List Int) (r k:Nat),(∀ q ∈ ps,0≤q∧q<(n.2.1.length:Int))→r<k→k≤65536→Yl n.2.2.1 ps k≤65536→Sq n w ps r<Yl n.2.2.1 ps k
 | [],r,k,_,a,_,_=>a
 | p :: ps,r,k,b,a,d,e=>by
  obtain ⟨f,c,g⟩:=Zps he hw b a d e
  have:=Zw4 he hw ps _ _ (fun q i=>b q (aP _ i)) f c g
  rw [Sq,Yl,aR (by rw [cnt] at c;omega)]
  exact this
section
variable {N:Nat} {n:Z6} (hf:Yv N n)
include hf
theorem Yv.pars {v:Nat} (hv:v<n.2.1.length):∀ p ∈ n.2.2.2.1.getD v [],0≤p∧p<(n.2.1.length:Int):=fun p a=>by
 have b:v<n.2.2.2.1.length:=by rw [hf.ev.p];exact hv
 rw [Yb b] at a
 have:=hf.ev.par (aD b) p a
 rwa [hf.ev.v] at this
theorem Yv.rows {v:Nat} (hv:v<n.2.1.length):Yl n.2.2.1 (n.2.2.2.1.getD v []) 1 * cnt n v=(n.2.2.2.2.getD v []).length∧(n.2.2.2.2.getD v []).length≤65536∧Yl n.2.2.1 (n.2.2.2.1.getD v []) 1≤65536:=by
 have a:=Zna _ 0 hf.sh v (bD _) (by omega)
 have b:=Zrn hf.ev hv
 refine ⟨a.1,a.2,?_⟩
 have c:Yl n.2.2.1 (n.2.2.2.1.getD v []) 1≤Yl n.2.2.1 (n.2.2.2.1.getD v []) 1 * cnt n v:=dE _ b
 have d:Yl n.2.2.1 (n.2.2.2.1.getD v []) 1 * cnt n v≤65536:=by
  have:=a.1;rw [cnt,this];exact a.2
 omega
theorem Yv.row {w:List Int} (hw:Tb n w) {v:Nat} (hv:v<n.2.1.length):Vj n w v * cnt n v+cnt n v≤(n.2.2.2.2.getD v []).length∧Vj n w v<65536:=by
 obtain ⟨d,e,a⟩:=hf.rows hv
 have b:=Zw4 hf.ev hw _ 0 1 (hf.pars hv) (by omega) (by omega) a
 have c:=bF (cnt n v) (show Vj n w v+1≤Yl n.2.2.1 (n.2.2.2.1.getD v []) 1 from b)
 rw [bI,bP,d] at c
 exact ⟨c,aJ b a⟩
theorem Yv.rowT_len {w:List Int} (hw:Tb n w) {v:Nat} (hv:v<n.2.1.length):(Vu n w v).length=cnt n v:=by
 have:=(hf.row hw hv).1
 rw [Vu,nK,cA];omega
end
theorem Zox {n:Z6} {w:List Int} {v:Nat} {x:QV} (h:x ∈ Vu n w v):x ∈ n.2.2.2.2.getD v []:=eB (fH h)
theorem Zw3 {n:Z6} {w:List Int} {v j:Nat} (hj:j<(Vu n w v).length):Zi (n.2.2.2.2.getD v []) ((Vj n w v * cnt n v+j:Nat):Int)=some (Vu n w v)[j]:=by
 have a:Vj n w v * cnt n v+j<(n.2.2.2.2.getD v []).length:=by
  rw [Vu,nK,cA] at hj;omega
 rw [Zs a]
 simp only [Vu,eR,List.getElem_drop]
section
variable {N W:Nat} {n:Z6} (hf:Yv N n) (hs:Wr n W)
include hf hs
theorem Zlo {v:Nat} (hv:v<n.2.1.length):∀ x ∈ n.2.2.2.2.getD v [],W3 x∧max x.1.2.length x.2.length≤W:=fun x a=>by
 have b:v<n.2.2.2.2.length:=by rw [hf.ev.t];exact hv
 rw [Yb b] at a
 have c:=hs.tq _ (aD b)
 exact ⟨hs.lim _ (aD b) x a,bA (Zvh a) c⟩
end
theorem Zn7 {N W:Nat} {n:Z6} (hf:Yv N n) (hs:Wr n W) (hr:Xa N (8 * W+40)) (hN:2000000<N):Tf N n=some 0:=by
 obtain ⟨l,b,k,m,o,q⟩:=hf.or
 have c:=hf.ev.v;have r:=hf.ev.p;have a:=hf.ev.t;have j:=hf.le
 have d:Zd1 (n.1,n.2.1,n.2.2.1,n.2.2.2.1,n.2.2.2.2)=some (U4 n.2.1 n.2.2.1 n.2.1.length 0):=Zui n c
 have e:S6 N n.2.2.2.1=some 0:=by rw [S6,b];rfl
 have f:=Zo0 (N:=N) hs hf.ev n.2.2.2.2 0 (by simp) (by omega)
 have g:=Zoy (N:=N) (n:=n) (W:=W) (hr.mono (by omega)) n.2.2.2.2 (fun t h=>⟨hs.tl t h,hs.tq t h,hs.lim t h⟩)
 have i:=Zo1 (N:=N) hs hf.ev hf.sh hr (by omega) n.2.2.2.2 0 (by simp) (by omega)
 rw [Tf,if_neg (by rw [decide_eq_true (by omega)];decide),if_neg (by rw [decide_eq_true (by omega)];decide),show (!decide ((n.2.2.2.2.length:Int)=(n.2.1.length:Int)))=false by rw [decide_eq_true (by omega)];rfl,Zat,if_neg (show ¬ (false=true) by decide),if_neg (dF (by omega)),
  d,oB,hf.nm,if_neg (by decide),e,oB,if_neg (by decide),f,a,if_pos hf.sh,g,hf.en,if_neg (by decide),i,a,hf.su]
/-! the document's loops -/
/-! a row's entries are 1 together -/
/-! parts side by side -/
def Tw (n:Z6):List Int→Nat→Bool
 | [],_=>true
 | x :: l,k=>!decide (x<0)&&(!decide ((cnt n k:Int)≤x)&&Tw n l (k+1))
theorem Zst {n:Z6}:∀ (l:List Int) (k:Nat),Tw n l k=true→∀ i,i<l.length→0≤l.getD i 0∧l.getD i 0<(cnt n (k+i):Int)
 | [],_,_,i,a=>by simp at a
 | x :: l,k,h,i,a=>by
  simp only [Tw,Bool.and_eq_true,Bool.not_eq_true',decide_eq_false_iff_not] at h
  cases i with
  | zero=>rw [List.getD_cons_zero,bQ];omega
  | succ i=>
   rw [List.getD_cons_succ,show k+(i+1)=k+1+i by omega]
   exact Zst l (k+1) h.2.2 i (by simpa using a)
theorem Z2v {n:Z6} {w:List Int} (hl:w.length=n.2.1.length) (h:Tw n w 0=true):Tb n w:=⟨hl,fun i a=>by have:=Zst w 0 h i a;rwa [cK] at this⟩
def Zas (N:Nat) (ab:R0) (ac:List Int) (aa:Nat) (ah:Bool) (ai aj:List Int) (kk_L2:(Nat→Bool→R2→R2→Option (R1×Int))) (ak:R8):List Int→Int→Option (R1×Int)
  | [],ad=>(Zi ab.2.2.1 (aa:Int)).bind fun am=>(Zi ac (aa:Int)).bind fun an=>(Zi ak (i64.wrap ((i64.wrap (ad * (am.length:Int)))+an))).bind fun ae=>(Zca N ((ae.1.1,ae.1.2),ae.2)).bind fun af=>(Zgk N ((ah,ai),aj) ((af.1.1,af.1.2),af.2)).bind fun ag=>kk_L2 (aa+1) ag.1.1 ag.1.2 ag.2
  | al :: ao,ad=>(Zi ab.2.2.1 al).bind fun ap=>(Zi ac al).bind fun aq=>(Zas N ab ac aa ah ai aj kk_L2 ak ao) (i64.wrap ((i64.wrap (ad * (ap.length:Int)))+aq))
def Zar (N:Nat) (aa:R0) (af:List Int):List R8→Nat→Bool→R2→R2→Option (R1×Int)
  | [],ab,ac,ad,ae=>some (((ac,ad),ae),0)
  | ag :: ah,ab,ac,ad,ae=>(Zi aa.2.2.2.1 (ab:Int)).bind fun ai=>Zas N aa af ab ac ad ae (Zar N aa af ah) ag ai 0
def Zgt (aa:Nat) (ab:Bool) (ac ad:List Int) (kk_L1:(Nat→Bool→R2→R2→Option (R1×Int))) (ae:Bool):Option (R1×Int):=
  if ae=true then (some (((false,([]:List Int)),([]:List Int)),3)) else (kk_L1 (aa+1) ab ac ad)
def S9 (N:Nat) (aa:R0) (ac:List Int):List Int→Nat→Bool→R2→R2→Option (R1×Int)
  | [],ab,ad,ae,af=>(Zd2 N).bind fun ag=>Zar N aa ac aa.2.2.2.2 0 ag.1.1 ag.1.2 ag.2
  | ah :: ai,ab,ad,ae,af=>if (decide (ah<0))=true then (Zgt ab ad ae af (S9 N aa ac ai) true) else ((Zi aa.2.2.1 (ab:Int)).bind fun aj=>Zgt ab ad ae af (S9 N aa ac ai) (decide ((aj.length:Int)≤ah)))
def Zgs (N:Nat) (aa:R0) (ab:List Int):Option (R1×Int):=
  (Tf N (aa.1,aa.2.1,aa.2.2.1,aa.2.2.2.1,aa.2.2.2.2)).bind fun ac=>if (!decide (ac=0))=true then (some (((false,([]:List Int)),([]:List Int)),ac)) else (if (!decide ((ab.length:Int)=(aa.2.1.length:Int)))=true then (some (((false,([]:List Int)),([]:List Int)),60)) else (S9 N aa ab ab 0 false ([]:List Int) ([]:List Int)))
theorem Zzn {N bf bg bh bi cu:Nat} {bj bk bm bn a1:Option Addr} {col:Zd} {w0:World} {ab:R0} {ak:R2} {r:(R1×Int)} (c1 c2:Nat) (hm:Zgs N ab ak=some r) (cd:Sl Za.str col w0 bj bf ab.2.1) (au:Sl rV col w0 bk bg ab.2.2.1) (bt:Sl rP col w0 bm bh ab.2.2.2.1) (bo:Sl (Za.slice rQ) col w0 bn bi ab.2.2.2.2) (h1:Sl rI col w0 a1 cu ak):
    Calls prog 41 #[(.agg #[.string ab.1,.slice bj ab.2.1.length bf,.slice bk ab.2.2.1.length bg,.slice bm ab.2.2.2.1.length bh,.slice bn ab.2.2.2.2.length bi]),.slice a1 ak.length cu] w0 (Zkj 45 c1 c2 col w0 r):=by
 refine Yw (m:=103) func41 rfl rfl rfl ?_;rw [Zgs.eq_1] at hm;have aa:=St.start col w0;refine go ?_;refine Xf (col:=(Zg col)) 1 rfl ?_;intro b7 eq c3 c4 ac;refine Xt (col:=c3) #[.bool false,(nI),(nI)] 2 zeroValue42 ?_;intro b8 c5 cv cw ad;refine go ?_;replace ac:=ac.gr cw;refine lV _ (Xh isAgg27 sizeOf27 ac) ?_;obtain ⟨er,c6,hm⟩:=bZ hm;replace au:=au.k0;replace bt:=bt.k0;replace bo:=bo.k0;replace aa:=(aa.grow c4).grow cw;refine Zh (Zqn c6 (cd.k0.ks aa) (au.ks aa) (bt.ks aa) (bo.ks aa)) fun _ c7 ⟨e',bu⟩=>⟨_,e',?_⟩;replace bu:Zk cv c5 cv c7:=.of_below bu;refine go ?_;replace h1:=h1.k0;replace ac:=ac.gr bu;replace ad:=ad.gr bu;replace aa:=aa.grow bu;refine Zl hm (fun hb hm=>go ?_) fun hb hm=>go ?_
 ·refine lV (.agg #[.bool false,(nI),(nI)]) (Wz (l:=[_,_]) (qs:=[(0,2),(2,1)]) underlying42 zeroValue42 ⟨rfl,sizeOf40,rfl,sizeOf38,trivial⟩ rfl)<|Xe rfl<|Xg ad ?_;intro es c8 c9 da;refine go ?_;cases hm;replace aa:=aa.kp c8 c9;exact ⟨rfl,_,Zae da.atN,_,none,0,none,0,rfl,aa.fin (cm []),Zb.nil,Zb.nil⟩
 refine Zy ac ?_;refine go ?_;refine Zl hm (fun hb hm=>go ?_) fun hb hm=>go ?_
 ·refine lV (.agg #[.bool false,(nI),(nI)]) (Wz (l:=[_,_]) (qs:=[(0,2),(2,1)]) underlying42 zeroValue42 ⟨rfl,sizeOf40,rfl,sizeOf38,trivial⟩ rfl)<|Xg ad ?_;intro et db dc dd;refine go ?_;cases hm;replace aa:=aa.kp db dc;exact ⟨rfl,_,Zae dd.atN,_,none,0,none,0,rfl,aa.fin (cm []),Zb.nil,Zb.nil⟩
 refine Zt [1,2,28,29,4,1000000] (fun n f bp=>∃ a4 a5 a6 av aw al ax ay am bv,n=bv.length∧ak.drop a5=bv∧S9 N ab ak bv a5 a6 al am=some r∧St w0 (Zg col) a4 bp∧Ze 27 1 a4 bp b7 #[.string ab.1,.slice bj ab.2.1.length bf,.slice bk ab.2.2.1.length bg,.slice bm ab.2.2.2.1.length bh,.slice bn ab.2.2.2.2.length bi]∧Zb rU 45 3 a4 bp av aw al∧Zb rU 45 4 a4 bp ax ay am∧Ze 42 2 a4 bp b8 #[.bool a6,.slice av al.length aw,.slice ax am.length ay]∧[30].map f=[.int .i64 a5]) ak.length ⟨_,0,_,none,0,_,none,0,_,_,rfl,rfl,hm,aa,ac,Zb.nil,Zb.nil,ad,rfl⟩ ?_;clear hm;intro n f bp hI;obtain ⟨a4,a5,a6,av,aw,al,ax,ay,am,bv,hn,hl,hm,aa,ac,ae,af,ad,hs⟩:=hI;subst hn;refine .lL [30] hs ?_
 cases bv with
 | nil=>
  have hk:¬ ((a5:Int)<(ak.length:Int)):=by have:=aK.1 hl;omega
  have hkb:=decide_eq_false hk;rw [S9.eq_1] at hm;refine go ?_;refine Yc (congrArg Value.bool hkb)<|go ?_;obtain ⟨eu,de,hm⟩:=bZ hm;refine lc rfl rfl (Zfr call94) (Znu (col:=a4) 5 6 de:) fun _ ew ⟨df,ey,ez,e0,e1,e',bw,ce,cf⟩=>⟨_,e',?_⟩;refine Xt (col:=df) #[.bool false,(nI),(nI)] 7 zeroValue42 ?_;intro cx e2 e3 a7 dg;refine Xg dg ?_;intro e4 a8 dh ah;refine go ?_;refine Z9 ⟨_,_,rfl⟩ ?_;replace ac:=((ac.gr bw).gr a7).kp a8;refine lW ((ac.atN).nth (q:=4) rfl)<|go ?_;replace ae:=((ae.gr bw).gr a7).kp a8;replace af:=((af.gr bw).gr a7).kp a8;replace ad:=((ad.gr bw).gr a7).kp a8;replace aa:=((aa.grow bw).grow a7).kp a8 dh;refine Zt [1,2,4,51,52,9,1000000] (fun n f az=>∃ a0 a9 bx bz b0 ba b1 b2 bb b3,n=b3.length∧ab.2.2.2.2.drop a9=b3∧Zar N ab ak b3 a9 bx ba bb=some r∧St w0 (Zg col) a0 az∧Ze 27 1 a0 az b7 #[.string ab.1,.slice bj ab.2.1.length bf,.slice bk ab.2.2.1.length bg,.slice bm ab.2.2.2.1.length bh,.slice bn ab.2.2.2.2.length bi]∧Zb rU 45 3 a0 az av aw al∧Zb rU 45 4 a0 az ax ay am∧Ze 42 2 a0 az b8 #[.bool a6,.slice av al.length aw,.slice ax am.length ay]∧Zb rU 45 5 a0 az bz b0 ba∧Zb rU 45 6 a0 az b1 b2 bb∧Ze 42 7 a0 az cx #[.bool bx,.slice bz ba.length b0,.slice b1 bb.length b2]∧[53].map f=[.int .i64 a9]) ab.2.2.2.2.length ⟨_,0,_,_,_,_,_,_,_,_,rfl,rfl,hm,aa,ac,ae,af,ad,(ce.gr a7).kp a8,(cf.gr a7).kp a8,ah,rfl⟩ ?_;clear hm;intro n f az hI;obtain ⟨a0,a9,bx,bz,b0,ba,b1,b2,bb,b3,hn,hl,hm,aa,ac,ae,af,ad,ai,aj,ah,hs⟩:=hI;subst hn;refine .lL [53] hs ?_
  cases b3 with
  | nil=>
   have hk:¬ ((a9:Int)<(ab.2.2.2.2.length:Int)):=by have:=aK.1 hl;omega
   have hkb:=decide_eq_false hk;rw [Zar.eq_1] at hm;refine go ?_;refine Yc (congrArg Value.bool hkb)<|go ?_;refine lV _ (Xh isAgg42 sizeOf42 ah)<|Xg ad ?_;intro e5 cg di dj;refine go ?_;cases hm;replace ai:=ai.kp cg;replace aj:=aj.kp cg;replace aa:=aa.kp cg di;exact ⟨rfl,_,Zae dj.atN,_,_,_,_,_,rfl,aa.fin (cm [(5,c1),(6,c2)]),aa.fo ai,aa.fo aj⟩
  | cons cy cz=>
   obtain ⟨an,dk,dl⟩:=Ys hl;have hk:(a9:Int)<(ab.2.2.2.2.length:Int):=by omega
   have hkb:=decide_eq_true hk;rw [Zar.eq_2] at hm;refine go ?_;refine Yd (congrArg Value.bool hkb)<|go ?_;refine lI an ((bo.ks aa).addr an) ?_;obtain ⟨_,dm,dn⟩:=(bo.ks aa).atN an;obtain ⟨⟨dp,dq,rfl,bc⟩,_⟩:=dm;refine lW dn.one<|go ?_;refine Zy ac<|Xe rfl ?_;obtain ⟨b4,ch,hm⟩:=bZ hm;refine lI ch ((bt.ks aa).addr ch) ?_;obtain ⟨_,dr,ds⟩:=(bt.ks aa).atN ch;obtain ⟨⟨dt,du,rfl,a3⟩,_⟩:=dr;refine lW ds.one<|go ?_;refine Zt [1,10,11,2,4,51,52,53,62,63,9,1000000] (fun n f ao=>∃ ag ci b5 b6,n=b6.length∧b4.drop b5=b6∧Zas N ab ak a9 bx ba bb (Zar N ab ak cz) cy b6 ci=some r∧St w0 (Zg col) ag ao∧Sl rQ ag ao dp dq cy∧Ze 27 1 ag ao b7 #[.string ab.1,.slice bj ab.2.1.length bf,.slice bk ab.2.2.1.length bg,.slice bm ab.2.2.2.1.length bh,.slice bn ab.2.2.2.2.length bi]∧Zb rU 45 3 ag ao av aw al∧Zb rU 45 4 ag ao ax ay am∧Ze 42 2 ag ao b8 #[.bool a6,.slice av al.length aw,.slice ax am.length ay]∧Sl rI ag ao dt du b4∧Zb rU 45 5 ag ao bz b0 ba∧Zb rU 45 6 ag ao b1 b2 bb∧Ze 42 7 ag ao cx #[.bool bx,.slice bz ba.length b0,.slice b1 bb.length b2]∧[64,12].map f=[.int .i64 b5,.int .i64 ci]) b4.length ⟨_,0,0,_,rfl,rfl,hm,aa,bc,ac,ae,af,ad,a3,ai,aj,ah,rfl⟩ ?_;clear hm;intro n f ao hI;obtain ⟨ag,ci,b5,b6,hn,hl,hm,aa,bc,ac,ae,af,ad,a3,ai,aj,ah,hs⟩:=hI;subst hn;refine .lL [64,12] hs ?_
   cases b6 with
   | nil=>
    have hk:¬ ((b5:Int)<(b4.length:Int)):=by have:=aK.1 hl;omega
    have hkb:=decide_eq_false hk;rw [Zas.eq_1] at hm;refine go ?_;refine Yc (congrArg Value.bool hkb)<|go ?_;refine Wc (col:=ag) [(0,0),(1,1),(2,1),(3,1),(4,0),(5,1),(6,1),(7,0),(8,1),(9,1),(10,1),(11,1),(12,1),(13,0),(14,1),(15,1),(16,0),(17,3),(18,3),(19,2)] (by kernel_rfl) (by kernel_rfl)<|xv rfl rfl (fun _ hC=>Xh isAgg42 sizeOf42 (ah.gr (hC.bl ag))) ?_;refine xu rfl rfl (fun _=>Vi rfl) ?_;refine xu rfl rfl (fun _=>Wb rfl) ?_;refine xF ⟨_,_,rfl⟩ ?_;refine xW (fun _ hC=>((ac.atN).nth (q:=2) rfl).gr (hC.bl ag)) ?_;refine xu rfl rfl (fun _=>Wb rfl) ?_;obtain ⟨e6,b9,hm⟩:=bZ hm;refine xu rfl rfl (fun _=>Wa underlying23 sizeOf22 rfl rfl (Xm b9).1 (Xm b9).2.1 ((au.ks aa).addr b9)) ?_;obtain ⟨_,dv,dw⟩:=(au.ks aa).atN b9;obtain ⟨⟨e7,e8,rfl,e9⟩,_⟩:=dv;refine xW (fun _ hC=>dw.one.gr (hC.bl ag)) ?_;refine xu rfl rfl (fun _=>Uv underlying22 rfl) ?_;refine xu rfl rfl (fun _=>Zig _ _ rfl rfl) ?_;refine xu rfl rfl (fun _=>Vi rfl) ?_;refine xu rfl rfl (fun _=>Wb rfl) ?_;obtain ⟨fa,ca,hm⟩:=bZ hm;refine xu rfl rfl (fun _=>Wa underlying36 sizeOf3 rfl rfl (Xm ca).1 (Xm ca).2.1 ((h1.ks aa).addr ca)) ?_;refine xW (fun _ hC=>((h1.ks aa).gr (hC.bl ag)).atInt ca) ?_;refine xu rfl rfl (fun _=>Ql _ _ rfl rfl) ?_;obtain ⟨cj,cb,hm⟩:=bZ hm;refine xu rfl rfl (fun _=>Wa underlying29 sizeOf42 rfl rfl (Xm cb).1 (Xm cb).2.1 (bc.addr cb)) ?_;obtain ⟨_,dx,dy⟩:=bc.atN cb;obtain ⟨_,_,rfl,dz,d0⟩:=Yr dx;obtain ⟨_,_,rfl,d1,d2⟩:=Yr dz;obtain ⟨rfl,_⟩:=d1;obtain ⟨⟨d3,d4,rfl,ck⟩,_⟩:=d2;obtain ⟨⟨d5,d6,rfl,cl⟩,_⟩:=d0;refine xv (v:=(.agg #[.bool cj.1.1,.slice d3 cj.1.2.length d4,.slice d5 cj.2.length d6])) rfl rfl (fun _ hC=>Yq isAgg42 sizeOf42 rfl rfl (dy.gr (hC.bl ag))) ?_;refine xe rfl rfl ?_;intro fb hC0;have hC:=hC0.bl ag;obtain ⟨fc,d7,hm⟩:=bZ hm;refine Zh (Zqo d7 (ck.gr hC) (cl.gr hC)) fun _ fd ⟨bq,fe,ff,fg,fh,e',a2,cn,co⟩=>⟨_,e',?_⟩;refine Zj<|Xp bq hC0 a2<|xe rfl rfl ?_;intro d8 hC0;replace ae:=(ae.gr hC).gr a2;replace af:=(af.gr hC).gr a2;replace ai:=(ai.gr hC).gr a2;replace aj:=(aj.gr hC).gr a2;replace ac:=(ac.gr hC).gr a2;replace ad:=(ad.gr hC).gr a2;replace ah:=(ah.gr hC).gr a2;replace aa:=(aa.grow hC).grow a2
    have hC:=hC0.bl bq;obtain ⟨fi,d9,hm⟩:=bZ hm;replace ai:=ai.gr hC;replace aj:=aj.gr hC;refine Zh (Zy8 8 9 d9 ((ai.toSlF (Zm.int .u32)).froz 6) ((aj.froz 5).toSlF (Zm.int .u32)) (((cn.gr hC).froz 5).froz 6) (((co.gr hC).froz 5).froz 6)) fun _ fj ⟨ea,fk,fl,fm,fn,e',ap,aq,ar⟩=>⟨_,e',?_⟩;replace aq:=aq.thaw (Z8 .u32) ap (((Fz.refl (col:=bq)).froz 5).froz 6);replace ar:=ar.thaw (Z8 .u32) ap (((Fz.refl (col:=bq)).froz 5).froz 6);replace ap:=ap.thawR (col:=bq);generalize Xb d8.heap.size bq ea=cc at *;refine Zj<|Xp cc hC0 ap<|xe rfl rfl ?_;intro fp hC0;replace ae:=(ae.gr hC).gr ap;replace af:=(af.gr hC).gr ap;replace ac:=(ac.gr hC).gr ap;replace ad:=(ad.gr hC).gr ap;replace ah:=(ah.gr hC).gr ap;replace aa:=(aa.grow hC).grow ap;have hC:=hC0.bl cc;replace ah:=ah.gr hC;refine Xg ah ?_;intro fq bd eb be;refine Zj<|xk cc<|Y4 ?_;replace ae:=(ae.gr hC).kp bd;replace af:=(af.gr hC).kp bd;replace aq:=(aq.gr hC).kp bd;replace ar:=(ar.gr hC).kp bd;replace ac:=(ac.gr hC).kp bd;replace ad:=(ad.gr hC).kp bd;replace aa:=(aa.grow hC).kp bd eb;intro fr hC;replace hC:=hC.bl cc;refine go ?_;replace ae:=ae.gr hC;replace ae:=ae.recol 8 5;replace af:=af.gr hC;replace af:=af.recol 8 5;replace aq:=aq.gr hC;replace aq:=aq.recolSelf 5 (by decide);replace ar:=ar.gr hC;replace ar:=ar.recol 8 5;replace ac:=ac.gr hC;replace ac:=ac.recol 8 5;replace ad:=ad.gr hC;replace ad:=ad.recol 8 5;replace be:=be.gr hC;replace be:=be.recol 8 5;replace aa:=aa.grow hC;replace aa:=aa.recol 8 5 (by decide) (by decide);replace ae:=ae.recol 9 6;replace af:=af.recol 9 6;replace ar:=ar.recolSelf 6 (by decide);replace ac:=ac.recol 9 6;replace ad:=ad.recol 9 6;replace aa:=aa.recol 9 6 (by decide) (by decide);exact ⟨cz.length,by simp,rfl,⟨_,_,_,_,_,_,_,_,_,_,rfl,dk,hm,aa,ac,ae,af,ad,aq.recol 9 6,ar,be.recol 9 6,(Yx (congrArg (Value.int .i64) (Yt (aJ dl (bo.ks aa).1.1))) rfl)⟩⟩
   | cons ft ec=>
    obtain ⟨an,ed,ee⟩:=Ys hl;have hk:(b5:Int)<(b4.length:Int):=by omega
    have hkb:=decide_eq_true hk;rw [Zas.eq_2] at hm;refine go ?_;refine Yd (congrArg Value.bool hkb)<|go ?_;refine lI an (a3.addr an)<|lW (a3.atInt an) ?_;refine go ?_;refine Y0 (col:=ag) (by kernel_rfl) (by kernel_rfl)<|go ?_;refine qF ⟨_,_,rfl⟩ ?_;refine qW (fun _ hC=>((ac.atN).nth (q:=2) rfl).gr (hC.bl ag)) ?_;refine go ?_;obtain ⟨fu,cp,hm⟩:=bZ hm;refine qI cp ((au.ks aa).addr cp) ?_;obtain ⟨_,ef,eg⟩:=(au.ks aa).atN cp;obtain ⟨⟨fv,fw,rfl,fx⟩,_⟩:=ef;refine qW (fun _ hC=>eg.one.gr (hC.bl ag)) ?_;refine go ?_;obtain ⟨fy,cq,hm⟩:=bZ hm;refine qI cq ((h1.ks aa).addr cq)<|qW (fun _ hC=>((h1.ks aa).gr (hC.bl ag)).atInt cq) ?_;refine go ?_;refine Xw ?_;intro fz hC;replace hC:=hC.bl ag;refine go ?_;replace ae:=ae.gr hC;replace af:=af.gr hC;replace a3:=a3.gr hC;replace ac:=ac.gr hC;replace ad:=ad.gr hC;replace aa:=aa.grow hC;exact ⟨ec.length,by simp,rfl,⟨_,_,_,_,rfl,ed,hm,aa,bc.gr hC,ac,ae,af,ad,a3,ai.gr hC,aj.gr hC,ah.gr hC,(Yx (congrArg (Value.int .i64) (Yt (aJ ee a3.1.1))) rfl)⟩⟩
 | cons eh c0=>
  obtain ⟨an,ei,ej⟩:=Ys hl;have hk:(a5:Int)<(ak.length:Int):=by omega
  have hkb:=decide_eq_true hk;rw [S9.eq_2] at hm;refine go ?_;refine Yd (congrArg Value.bool hkb)<|go ?_;refine lI an ((h1.ks aa).addr an)<|lW ((h1.ks aa).atInt an)<|Yz rfl<|Yz rfl<|Zj<|Zw ?_;refine Wp.cutK [1,2,28,29,30,4,1000000] (fun f br=>∃ bs cr,Zgt a5 a6 al am (S9 N ab ak c0) cr=some r∧St w0 (Zg col) bs br∧Ze 27 1 bs br b7 #[.string ab.1,.slice bj ab.2.1.length bf,.slice bk ab.2.2.1.length bg,.slice bm ab.2.2.2.1.length bh,.slice bn ab.2.2.2.2.length bi]∧Zb rU 45 3 bs br av aw al∧Zb rU 45 4 bs br ax ay am∧Ze 42 2 bs br b8 #[.bool a6,.slice av al.length aw,.slice ax am.length ay]∧[46].map f=[.bool cr]) ?_ ?_
  ·intro f br hJ;obtain ⟨bs,cr,hm,aa,ac,ae,af,ad,hs⟩:=hJ;rw [Zgt.eq_1] at hm;refine .lL [46] hs ?_;refine Zl hm (fun hb hm=>go ?_) fun hb hm=>go ?_
   ·refine lV (.agg #[.bool false,(nI),(nI)]) (Wz (l:=[_,_]) (qs:=[(0,2),(2,1)]) underlying42 zeroValue42 ⟨rfl,sizeOf40,rfl,sizeOf38,trivial⟩ rfl)<|Xg ad ?_;intro f0 ek el em;refine go ?_;cases hm;replace aa:=aa.kp ek el;exact ⟨rfl,_,Zae em.atN,_,none,0,none,0,rfl,aa.fin (cm []),Zb.nil,Zb.nil⟩
   exact ⟨c0.length,by simp,rfl,⟨_,_,_,_,_,_,_,_,_,_,rfl,ei,hm,aa,ac,ae,af,ad,(Yx (congrArg (Value.int .i64) (Yt (aJ ej (h1.ks aa).1.1))) rfl)⟩⟩
  refine go ?_;refine Xo hm (fun cs hm=>go ?_) fun cs hm=>go ?_
  ·refine lV (.bool true) (Z5 (congrArg Value.bool cs) rfl)<|Zj ?_;exact ⟨rfl,_,_,hm,aa,ac,ae,af,ad,rfl⟩
  refine Z9 ⟨_,_,rfl⟩ ?_;refine go ?_;refine lW ((ac.atN).nth (q:=2) rfl)<|go ?_;obtain ⟨en,ct,hm⟩:=bZ hm;refine lI ct ((au.ks aa).addr ct) ?_;refine go ?_;obtain ⟨_,eo,ep⟩:=(au.ks aa).atN ct;obtain ⟨⟨f1,f2,rfl,f3⟩,_⟩:=eo;refine lW ep.one<|go ?_;refine lV (.bool (decide ((en.length:Int)≤eh))) (Xn (congrArg Value.bool cs) rfl)<|Zj ?_;exact ⟨rfl,_,_,hm,aa,ac,ae,af,ad,rfl⟩
def Vt (n:Z6) (w:List Int) (v:Nat):Rat:=Xj ((Vu n w v).getD (w.getD v 0).toNat ((false,[]),[]))
def Ui (n:Z6) (w:List Int):Nat→Nat→Rat→Rat
 | 0,_,q=>q
 | m+1,k,q=>Ui n w m (k+1) (q * Vt n w k)
section
variable {N:Nat} {n:Z6} (hf:Yv N n) {w:List Int} (hw:Tb n w)
include hf hw
variable {W K:Nat} (hs:Wr n W) (hr:Xa N (8 * K+40)) (hWK:1025 * (W+2)+4≤K)
include hs hr hWK
omit hr hWK in
theorem Zog {k:Nat} (hk:k<n.2.1.length):qs (Vt n w k)≤W+1:=by
 have c:=hw.ok k (by rw [hw.len];exact hk)
 have a:(w.getD k 0).toNat<(Vu n w k).length:=by rw [hf.rowT_len hw hk];omega
 rw [Vt,Yb a]
 obtain ⟨b,d⟩:=Zlo hf hs hk _ (Zox (aD a))
 have:=Zpi b
 omega
omit hs hr hWK in
theorem Zrg {k:Nat} (hk:k<n.2.1.length) (a:Bool) (b c:List Int) (kk:Nat→Bool→List Int→List Int→Option (QV×Int)) (t:List QV):∀ (ps:List Int) (r kb:Nat),(∀ q ∈ ps,0≤q∧q<(n.2.1.length:Int))→r<kb→kb≤65536→Yl n.2.2.1 ps kb≤65536→
  Zas N n w k a b c kk t ps (r:Int)=Zas N n w k a b c kk t [] (Sq n w ps r:Int)
 | [],r,kb,_,_,_,_=>rfl
 | p :: ps,r,kb,d,e,f,g=>by
  obtain ⟨i,m,o⟩:=Zps hf.ev hw d e f g
  have A:=d p aT
  have B:=hw.ok p.toNat (by rw [hw.len];omega)
  have C:r * cnt n p.toNat≤kb * cnt n p.toNat:=bF _ (by omega)
  have q1:Zi n.2.2.1 p=some (n.2.2.1.getD p.toNat []):=by
   have:=Vq (l:=n.2.2.1) [] (j:=p.toNat) (by rw [hf.ev.v];omega)
   rwa [show ((p.toNat:Nat):Int)=p by omega] at this
  have s:Zi w p=some (w.getD p.toNat 0):=by
   have:=Vq (l:=w) 0 (j:=p.toNat) (by rw [hw.len];omega)
   rwa [show ((p.toNat:Nat):Int)=p by omega] at this
  have u:i64.wrap ((r:Int) * ((n.2.2.1.getD p.toNat []).length:Int))=((r * cnt n p.toNat:Nat):Int):=by
   rw [show ((n.2.2.1.getD p.toNat []).length:Int)=((cnt n p.toNat:Nat):Int) from rfl,← bT]
   exact Zp (by omega)
  have x:i64.wrap (((r * cnt n p.toNat:Nat):Int)+w.getD p.toNat 0)=((r * cnt n p.toNat+(w.getD p.toNat 0).toNat:Nat):Int):=by
   rw [fA,show (((w.getD p.toNat 0).toNat:Nat):Int)=w.getD p.toNat 0 by omega]
   exact Zp (by omega)
  rw [Zas.eq_2,q1,oB,s,oB,u,x]
  exact Zrg hk a b c kk t ps _ _ (fun q y=>d q (aP _ y)) i m o
theorem Zrf:∀ (l:List (List QV)) (k:Nat) (q:Rat),n.2.2.2.2.drop k=l→k≤n.2.1.length→qs q≤k * (W+1)+1→Zar N n w l k (Xc q).1.1 (Xc q).1.2 (Xc q).2=some (Xc (Ui n w l.length k q),0)
 | [],k,q,_,_,_=>rfl
 | t :: l,k,q,c,P,s=>by
  have Q:=hf.ev.t
  have J:=hf.le
  have e:k<n.2.2.2.2.length:=by
   rcases cI k n.2.2.2.2.length with h | h
   ·exact h
   ·rw [aF h] at c;cases c
  have a:k<n.2.1.length:=by omega
  rw [aL e] at c
  obtain ⟨u,x⟩:=List.cons.inj c
  have j:n.2.2.2.2.getD k []=t:=by rw [Yb e];exact u
  have d:=hf.rows a
  have A:=hf.row hw a
  have L:=hw.ok k (by rw [hw.len];exact a)
  have m:=Zrg hf hw a (Xc q).1.1 (Xc q).1.2 (Xc q).2 (Zar N n w l) t (n.2.2.2.1.getD k []) 0 1 (hf.pars a) (by omega) (by omega) d.2.2
  rw [show ((0:Nat):Int)=0 from rfl] at m
  have f:(w.getD k 0).toNat<(Vu n w k).length:=by rw [hf.rowT_len hw a];omega
  have B:i64.wrap ((Vj n w k:Int) * ((n.2.2.1.getD k []).length:Int))=((Vj n w k * cnt n k:Nat):Int):=by
   rw [show ((n.2.2.1.getD k []).length:Int)=((cnt n k:Nat):Int) from rfl,← bT]
   exact Zp (by omega)
  have C:i64.wrap (((Vj n w k * cnt n k:Nat):Int)+w.getD k 0)=((Vj n w k * cnt n k+(w.getD k 0).toNat:Nat):Int):=by
   rw [fA,show (((w.getD k 0).toNat:Nat):Int)=w.getD k 0 by omega]
   exact Zp (by omega)
  have o:Zi t ((Vj n w k * cnt n k+(w.getD k 0).toNat:Nat):Int)=some (Vu n w k)[(w.getD k 0).toNat]:=by
   rw [← j];exact Zw3 f
  obtain ⟨y,g⟩:∃ y,y=(Vu n w k)[(w.getD k 0).toNat]:=⟨_,rfl⟩
  obtain ⟨i,D⟩:=Zlo hf hs a y (Zox (g ▸ aD f))
  have E:Vt n w k=Xj y:=by rw [Vt,Yb f,g]
  have F:k * (W+1)≤1024 * (W+1):=bF _ (by omega)
  have b:W3 (Wn y):=by
   rw [Wn];split
   ·exact ⟨i.1,by simp [Zn]⟩
   ·exact i
  have r:RV (W+1) (Wn y):=by
   refine ⟨b.1,b.2,?_,?_⟩
   ·rw [Wn];split
    ·simp only;omega
    ·omega
   ·rw [Wn];split
    ·simp
    ·omega
  have G:Zca N ((y.1.1,y.1.2),y.2)=some (Wn y):=Zsg i D (hr.mono (by omega))
  have H:Zgk N (((Xc q).1.1,(Xc q).1.2),(Xc q).2) (((Wn y).1.1,(Wn y).1.2),(Wn y).2)=some (Xc (q * Vt n w k)):=by
   have:=Z2l (Zkr s) r (hr.mono (by omega))
   rwa [Qk,Zoh,← E] at this
  have M:=Zph q (Vt n w k)
  have O:=Zog hf hw hs a
  have I:=Zrf l (k+1) (q * Vt n w k) x (by omega) (by rw [bI,bP];omega)
  rw [Zar.eq_2,Vq [] (by rw [hf.ev.p];exact a),oB,m,← Vj,Zas.eq_1,Vq [] (by rw [hf.ev.v];exact a),oB,Vq 0 (by rw [hw.len];exact a),oB,B,C,o,← g,oB,G,oB,H,oB,nC,Ui]
  exact I
end
theorem Zre {N:Nat} {n:Z6} (he:Uy n) (hl:n.2.1.length≤1048576) (w:List Int) (hw:w.length=n.2.1.length):∀ (l:List Int) (k:Nat) (b:Bool) (l1 l2:List Int),w.drop k=l→k≤w.length→S9 N n w l k b l1 l2=if Tw n l k=true then S9 N n w [] w.length b l1 l2 else some (((false,([]:List Int)),([]:List Int)),3)
 | [],k,b,l1,l2,a,c=>by
  have:=aK.1 a
  rw [Tw,if_pos rfl,show k=w.length by omega]
 | x :: l,k,b,l1,l2,a,c=>by
  have d:k<w.length:=by
   rcases cI k w.length with h | h
   ·exact h
   ·rw [aF h] at a;cases a
  rw [aL d] at a
  obtain ⟨f,e⟩:=List.cons.inj a
  rw [S9.eq_2,Tw]
  by_cases hx:x<0
  ·rw [if_pos (dT hx),Zgt,if_pos rfl,decide_eq_true hx];rfl
  ·rw [if_neg (dF hx),Vq [] (by rw [he.v];omega),oB,Zgt,decide_eq_false hx]
   by_cases hc:(cnt n k:Int)≤x
   ·rw [show ((n.2.2.1.getD k []).length:Int)=(cnt n k:Int) from rfl,decide_eq_true hc,if_pos rfl];rfl
   ·rw [show ((n.2.2.1.getD k []).length:Int)=(cnt n k:Int) from rfl,decide_eq_false hc,if_neg (by decide),Zre he hl w hw l (k+1) b l1 l2 e (by omega)];rfl
theorem Z1e {N W K:Nat} {n:Z6} (hf:Yv N n) (hs:Wr n W) (hr:Xa N (8 * K+40)) (hWK:1025 * (W+2)+4≤K) (hN:2000000<N) (hC:Tf N n=some 0) (w:List Int):
  ∃ p e,Zgs N n w=some (p,e)∧((e≠0∧(decide (w.length=n.2.1.length)&&Tw n w 0)=false)∨(e=0∧Tb n w∧p=Xc (Ui n w n.2.1.length 0 1))):=by
 have a:Tf N (n.1,n.2.1,n.2.2.1,n.2.2.2.1,n.2.2.2.2)=some 0:=hC
 have c:=hf.le
 rw [Zgs,a,oB,if_neg (by decide)]
 by_cases hlen:w.length=n.2.1.length
 ·rw [if_neg (show ¬ (!decide ((w.length:Int)=(n.2.1.length:Int)))=true by rw [decide_eq_true (by omega)];decide),Zre hf.ev (by omega) w hlen w 0 false [] [] rfl (bD _)]
  cases hin:Tw n w 0 with
  | false=>rw [if_neg (show ¬ false=true by decide)];exact ⟨_,3,rfl,.inl ⟨by decide,by simp⟩⟩
  | true=>
   have hw:=Z2v hlen hin
   have b:=Zrf hf hw hs hr hWK n.2.2.2.2 0 1 rfl (bD _) (by rw [Zmw];omega)
   rw [if_pos rfl,S9.eq_1,Zoz (hr.mono (by omega)),oB,b,hf.ev.t]
   exact ⟨_,0,rfl,.inr ⟨rfl,hw,rfl⟩⟩
 ·rw [if_pos (show (!decide ((w.length:Int)=(n.2.1.length:Int)))=true by rw [decide_eq_false (by omega)];rfl)]
  exact ⟨_,60,rfl,.inl ⟨by decide,by rw [decide_eq_false hlen];rfl⟩⟩
def Zb9:List R4→R2→Option R2
  | [],aa=>some aa
  | ab :: ac,aa=>Zv ((aa.length+[(ab.length:Int)].length) * 8≤140737488355328∧aa.length+[(ab.length:Int)].length≤maxLen) ((Zb9 ac) (aa++[(ab.length:Int)]))
def Zd0 (aa:R0):Option R2:=
  Zb9 aa.2.2.1 ([]:List Int)
theorem Zzo {am an ao ap:Nat} {aq ar au av:Option Addr} {col:Zd} {w0:World} {aa:R0} {r:R2} (c1:Nat) (hm:Zd0 aa=some r) (a9:Sl Za.str col w0 aq am aa.2.1) (ac:Sl rV col w0 ar an aa.2.2.1) (ba:Sl rP col w0 au ao aa.2.2.2.1) (bb:Sl (Za.slice rQ) col w0 av ap aa.2.2.2.2):
    Calls prog 90 #[(.agg #[.string aa.1,.slice aq aa.2.1.length am,.slice ar aa.2.2.1.length an,.slice au aa.2.2.2.1.length ao,.slice av aa.2.2.2.2.length ap])] w0 (W2 .i64 3 c1 col w0 r):=by
 refine Z7 2 (m:=20) func90 rfl rfl rfl rfl rfl ?_;rw [Zd0.eq_1] at hm;have ab:=St.start col w0;refine go ?_;refine Xf (col:=(Zg col)) 1 rfl ?_;intro bc bd be ax ay;refine go ?_;refine Zy ay ?_;refine go ?_;replace ab:=ab.grow ax;refine Zt [7,8,1000000] (fun n f ai=>∃ af aj ak ag ad ae,n=ae.length∧aa.2.2.1.drop ad=ae∧Zb9 ae ag=some r∧St w0 (Zg col) af ai∧Zb rI 3 2 af ai aj ak ag∧[9,3].map f=[.int .i64 ad,.slice aj ag.length ak]) aa.2.2.1.length ⟨_,none,0,_,0,_,rfl,rfl,hm,ab,Zb.nil,rfl⟩ ?_;clear hm;intro n f ai hI;obtain ⟨af,aj,ak,ag,ad,ae,hn,hl,hm,ab,ah,hs⟩:=hI;subst hn;refine .lL [9,3] hs ?_;replace ac:=ac.k0
 cases ae with
 | nil=>
  have hk:¬ ((ad:Int)<(aa.2.2.1.length:Int)):=by have:=aK.1 hl;omega
  have hkb:=decide_eq_false hk;rw [Zb9.eq_1] at hm;refine go ?_;refine Yc (congrArg Value.bool hkb)<|go ?_;cases hm;exact ⟨rfl,_,_,_,rfl,ab.fin (cm [(2,c1)]),ab.fo ah⟩
 | cons az a0=>
  obtain ⟨al,a1,a2⟩:=Ys hl;have hk:(ad:Int)<(aa.2.2.1.length:Int):=by omega
  have hkb:=decide_eq_true hk;rw [Zb9.eq_2] at hm;refine go ?_;refine Yd (congrArg Value.bool hkb)<|go ?_;refine lI al ((ac.ks ab).addr al) ?_;obtain ⟨_,a3,a4⟩:=(ac.ks ab).atN al;obtain ⟨⟨bf,bg,rfl,bh⟩,_⟩:=a3;refine lW a4.one<|go ?_;refine Wt (col:=af) [(az.length:Int)] 3 ?_;intro bi bj bk aw a5;obtain ⟨a6,hm⟩:=Zx hm;refine Y9 (ah.gr aw) (a5.srcN (NB.int (k:=.i64))) a6 ?_;intro bm bn bo bp a7 a8;refine go ?_;replace ab:=(ab.grow aw).kpp a7;exact ⟨a0.length,by simp,rfl,⟨_,_,_,_,_,_,rfl,a1,hm,ab,a8,(Yx (congrArg (Value.int .i64) (Yt (aJ a2 (ac.ks ab).1.1))) rfl)⟩⟩
theorem Z19:Y6 prog 3 1 8:=⟨Tryz.t3,_,rfl,rfl,rfl,rfl,rfl⟩
def Zb5 (aa:List Int) (ab:Bool):Option Rf:=
  if ab=true then (some (([]:List Int),4)) else (some (aa,0))
def S7 (aa:List Int):List Int→(List Bool)→Option Rf
  | [],ab=>(Zcy aa).bind fun ac=>if (!decide (ac.2=0))=true then (Zb5 aa true) else (Zb5 aa (decide (65536<ac.1)))
  | ad :: ae,ab=>(Zi ab ad).bind fun af=>if af=true then (some (([]:List Int),40)) else ((some (ab.set (aA ad) true)).bind fun ag=>(S7 aa ae) ag)
def Zap (ab:List Int):List Rc→R2→Option Rf
  | [],aa=>S7 ab aa (aI ab.length (false:Bool))
  | ac :: ad,aa=>Zv ((0:Int)≤0∧0≤(aa.length:Int)∧(aa.length:Int)≤(aa.length:Int)∧(aa.length:Int)≤(aa.length:Int)) (Zv (((aa.take (aA (aa.length:Int))).length+[ac.1].length) * 8≤140737488355328∧(aa.take (aA (aa.length:Int))).length+[ac.1].length≤maxLen) ((Zap ab ad) ((aa.take (aA (aa.length:Int)))++[ac.1])))
def Zgm (kk_L2:(Option Rf)) (aa:Bool):Option Rf:=
  if aa=true then (some (([]:List Int),3)) else kk_L2
def T7 (ab:Rj) (ac aa:List Int):List Int→Option Rf
  | []=>Zv (aa.length * 1≤281474976710656∧aa.length≤maxLen) (Zap aa ab ac)
  | ad :: ae=>if (decide (ad<0))=true then (Zgm (T7 ab ac aa ae) true) else (Zgm (T7 ab ac aa ae) (decide ((aa.length:Int)≤ad)))
def Q1 (kk_L1:(Option Rf)) (aa:Bool):Option Rf:=
  if aa=true then (some (([]:List Int),3)) else kk_L1
def Te (ac:Rj) (ab aa:List Int):List Rc→Option Rf
  | []=>T7 ac ab aa ab
  | ad :: ae=>if (decide (ad.1<0))=true then (Q1 (Te ac ab aa ae) true) else (if (decide ((aa.length:Int)≤ad.1))=true then (Q1 (Te ac ab aa ae) true) else (if (decide (ad.2<0))=true then (Q1 (Te ac ab aa ae) true) else ((Zi aa ad.1).bind fun af=>Q1 (Te ac ab aa ae) (decide (af≤ad.2)))))
def T6 (N:Nat) (aa:R0) (ab:Rj) (ad:List Int):Option Rf:=
  (Tf N (aa.1,aa.2.1,aa.2.2.1,aa.2.2.2.1,aa.2.2.2.2)).bind fun ac=>if (!decide (ac=0))=true then (some (([]:List Int),ac)) else ((Zd0 (aa.1,aa.2.1,aa.2.2.1,aa.2.2.2.1,aa.2.2.2.2)).bind fun ae=>Te ab ad ae ab)
theorem Zzg {N bx bz b0 b1 b2 b3:Nat} {b4 b5 b6 b7 a1 a2:Option Addr} {col:Zd} {w0:World} {af:R0} {ae:Rj} {ah:R2} {r:Rf} (c1:Nat) (hm:T6 N af ae ah=some r) (bf:Sl Za.str col w0 b4 bx af.2.1) (bg:Sl rV col w0 b5 bz af.2.2.1) (bh:Sl rP col w0 b6 b0 af.2.2.2.1) (bi:Sl (Za.slice rQ) col w0 b7 b1 af.2.2.2.2) (h1:Sl (Za.pair rI rI) col w0 a1 b2 ae) (h2:Sl rI col w0 a2 b3 ah):
    Calls prog 36 #[(.agg #[.string af.1,.slice b4 af.2.1.length bx,.slice b5 af.2.2.1.length bz,.slice b6 af.2.2.2.1.length b0,.slice b7 af.2.2.2.2.length b1]),.slice a1 ae.length b2,.slice a2 ah.length b3] w0 (fun e w'=>∃ col' ra1 rc2,e= .returned (.tuple #[.slice ra1 r.1.length rc2,.int .i64 r.2])∧Zk col w0 col' w'∧Zb rI 3 c1 col' w' ra1 rc2 r.1):=by
 refine Zdk 6 7 (m:=121) (args:=[(.agg #[.string af.1,.slice b4 af.2.1.length bx,.slice b5 af.2.2.1.length bz,.slice b6 af.2.2.2.1.length b0,.slice b7 af.2.2.2.2.length b1]),.slice a1 ae.length b2,.slice a2 ah.length b3]) func36 rfl rfl rfl rfl rfl ?_;rw [T6.eq_1] at hm;have aa:=St.start col w0;refine go ?_;refine Xf (col:=(Zg col)) 1 rfl ?_;intro d9 c6 cu c7 bj;refine go ?_;refine lV _ (Xh isAgg27 sizeOf27 bj) ?_;obtain ⟨ea,c8,hm⟩:=bZ hm;replace bf:=bf.k0;replace bg:=bg.k0;replace bh:=bh.k0;replace bi:=bi.k0;replace aa:=aa.grow c7;refine Zh (Zqn c8 (bf.ks aa) (bg.ks aa) (bh.ks aa) (bi.ks aa)) fun _ c9 ⟨e',bk⟩=>⟨_,e',?_⟩;replace bk:Zk cu c6 cu c9:=.of_below bk;refine go ?_;replace h1:=h1.k0;replace h2:=h2.k0;replace aa:=aa.grow bk;refine Zl hm (fun hb hm=>go ?_) fun hb hm=>go ?_
 ·cases hm;exact ⟨rfl,_,none,0,rfl,aa.fin (cm []),Zb.nil⟩
 refine lV _ (Xh isAgg27 sizeOf27 (bj.gr bk)) ?_;obtain ⟨ad,da,hm⟩:=bZ hm;refine Zh (Zzo 2 da (bf.ks aa) (bg.ks aa) (bh.ks aa) (bi.ks aa)) ?_;rintro _ eb ⟨ec,al,am,rfl,db,ab⟩;refine ⟨_,rfl,go ?_⟩;replace aa:=aa.grow db;refine Zt [1,2,28,29,9,1000000] (fun n f b8=>∃ bm aw ax,n=ax.length∧ae.drop aw=ax∧Te ae ah ad ax=some r∧St w0 (Zg col) bm b8∧Zb rI 3 2 bm b8 al am ad∧[30].map f=[.int .i64 aw]) ae.length ⟨_,0,_,rfl,rfl,hm,aa,ab,rfl⟩ ?_;clear hm;intro n f b8 hI;obtain ⟨bm,aw,ax,hn,hl,hm,aa,ab,hs⟩:=hI;subst hn;refine .lL [30] hs ?_
 cases ax with
 | nil=>
  have hk:¬ ((aw:Int)<(ae.length:Int)):=by have:=aK.1 hl;omega
  have hkb:=decide_eq_false hk;rw [Te.eq_1] at hm;refine go ?_;refine Yc (congrArg Value.bool hkb)<|go ?_;refine Zt [1,2,60,61,9,1000000] (fun n f bn=>∃ bo ay az,n=az.length∧ah.drop ay=az∧T7 ae ah ad az=some r∧St w0 (Zg col) bo bn∧Zb rI 3 2 bo bn al am ad∧[62].map f=[.int .i64 ay]) ah.length ⟨_,0,_,rfl,rfl,hm,aa,ab,rfl⟩ ?_;clear hm;intro n f bn hI;obtain ⟨bo,ay,az,hn,hl,hm,aa,ab,hs⟩:=hI;subst hn;refine .lL [62] hs ?_
  cases az with
  | nil=>
   have hk:¬ ((ay:Int)<(ah.length:Int)):=by have:=aK.1 hl;omega
   have hkb:=decide_eq_false hk;rw [T7.eq_1] at hm;refine go ?_;refine Yc (congrArg Value.bool hkb)<|go ?_;obtain ⟨cv,hm⟩:=Zx hm;refine Ty (col:=bo) (w:=bn) (r:=Za.bool) (n:=ad.length) (x0:=false) 3 rfl underlying117 Tryz.t4 rfl rfl rfl rfl rfl rfl rfl cv.1 cv.2 (Zaf false) ?_;intro dc ed ee cw ai;refine go ?_;replace ab:=ab.gr cw;replace aa:=aa.grow cw;refine Zt [14,78,79,9,1000000] (fun n f a0=>∃ ap an bp ac a3 a4,n=a4.length∧ae.drop a3=a4∧Zap ad a4 ac=some r∧St w0 (Zg col) ap a0∧Zb Za.bool 4 3 ap a0 dc ad.length (aI ad.length (false:Bool))∧Sl rI ap a0 an bp ac∧Zb rI 3 2 ap a0 al am ad∧[80,2].map f=[.int .i64 a3,.slice an ac.length bp]) ae.length ⟨_,_,_,_,0,_,rfl,rfl,hm,aa,ai,(h2.ks aa),ab,rfl⟩ ?_;clear hm;intro n f a0 hI;obtain ⟨ap,an,bp,ac,a3,a4,hn,hl,hm,aa,ai,aj,ab,hs⟩:=hI;subst hn;refine .lL [80,2] hs ?_
   cases a4 with
   | nil=>
    have hk:¬ ((a3:Int)<(ae.length:Int)):=by have:=aK.1 hl;omega
    have hkb:=decide_eq_false hk;rw [Zap.eq_1] at hm;refine go ?_;refine Yc (congrArg Value.bool hkb)<|go ?_;refine Zt [9,95,96,1000000] (fun n f aq=>∃ ao a5 a6 ar a7 a8,n=a8.length∧ac.drop a7=a8∧S7 ad a8 ar=some r∧St w0 (Zg col) ao aq∧Zb Za.bool 4 3 ao aq a5 a6 ar∧Zb rI 3 2 ao aq al am ad∧Sl rI ao aq an bp ac∧[97,14].map f=[.int .i64 a7,.slice a5 ar.length a6]) ac.length ⟨_,_,_,_,0,_,rfl,rfl,hm,aa,ai,ab,aj,rfl⟩ ?_;clear hm;intro n f aq hI;obtain ⟨ao,a5,a6,ar,a7,a8,hn,hl,hm,aa,bq,ab,aj,hs⟩:=hI;subst hn;refine .lL [97,14] hs ?_
    cases a8 with
    | nil=>
     have hk:¬ ((a7:Int)<(ac.length:Int)):=by have:=aK.1 hl;omega
     have hkb:=decide_eq_false hk;rw [S7.eq_1] at hm;refine go ?_;refine Yc (congrArg Value.bool hkb)<|go ?_;obtain ⟨a9,dd,hm⟩:=bZ hm;refine Zh (Zq8 dd (ab.toSlF (Zm.int .i64))) fun _ de ⟨e',br⟩=>⟨_,e',?_⟩;replace br:Zk ao aq ao de:=.of_below br;refine lM (.tuple #[.int .i64 a9.1,.int .i64 a9.2])<|lV (.int .i64 a9.1) (X6 rfl rfl)<|lV (.int .i64 a9.2) (X6 rfl rfl)<|Yz rfl<|Yz rfl<|Zj<|Zw ?_;replace ab:=ab.gr br;replace aa:=aa.grow br;refine Wp.cutK [9,1000000] (fun f b9=>∃ ca cb,Zb5 ad cb=some r∧St w0 (Zg col) ca b9∧Zb rI 3 2 ca b9 al am ad∧[119].map f=[.bool cb]) ?_ ?_
     ·intro f b9 hJ;obtain ⟨ca,cb,hm,aa,ab,hs⟩:=hJ;rw [Zb5.eq_1] at hm;refine .lL [119] hs ?_;refine Zl hm (fun hb hm=>go ?_) fun hb hm=>go ?_
      ·cases hm;exact ⟨rfl,_,none,0,rfl,aa.fin (cm []),Zb.nil⟩
      cases hm;exact ⟨rfl,_,_,_,rfl,aa.fin (cm [(2,c1)]),aa.fo ab⟩
     refine go ?_;refine Xo hm (fun cc hm=>go ?_) fun cc hm=>go ?_
     ·refine lV (.bool true) (Z5 (congrArg Value.bool cc) rfl)<|Zj ?_;exact ⟨rfl,_,_,hm,aa,ab,rfl⟩
     refine lV (.bool (decide (65536<a9.1))) (Xn (congrArg Value.bool cc) rfl)<|Zj ?_;exact ⟨rfl,_,_,hm,aa,ab,rfl⟩
    | cons df dg=>
     obtain ⟨ag,dh,di⟩:=Ys hl;have hk:(a7:Int)<(ac.length:Int):=by omega
     have hkb:=decide_eq_true hk;rw [S7.eq_2] at hm;refine go ?_;refine Yd (congrArg Value.bool hkb)<|go ?_;refine lI ag (aj.addr ag)<|lW (aj.atInt ag) ?_;refine go ?_;obtain ⟨ef,au,hm⟩:=bZ hm;refine lI au (bq.addr au)<|lW (bq.atBool au)<|Zj ?_;refine Zl hm (fun hb hm=>go ?_) fun hb hm=>go ?_
     ·cases hm;exact ⟨rfl,_,none,0,rfl,aa.fin (cm []),Zb.nil⟩
     refine lI au (bq.addr au) ?_;obtain ⟨cd,bs,hm⟩:=bZ hm;have bs:cd=ar.set (aA df) true:=(Option.some.inj bs).symm;refine Zlr (x1:=true) (v:=(.bool true)) bq au rfl sizeOf4 (Zaf true) rfl rfl (by decide) ?_;intro eg ce dj cx;rw [← bs] at cx;refine .ld (d:=14) (v:=(.slice a5 cd.length a6)) (congrArg (fun n=>Value.slice a5 n a6) (show ar.length=cd.length by rw [bs,nS])) ?_;refine go ?_;replace ab:=ab.kp ce;replace aj:=aj.kp ce;replace aa:=aa.kp ce dj;exact ⟨dg.length,by simp,rfl,⟨_,_,_,_,_,_,rfl,dh,hm,aa,cx,ab,aj,(Yx (congrArg (Value.int .i64) (Yt (aJ di aj.1.1))) rfl)⟩⟩
   | cons bt dk=>
    obtain ⟨ag,dl,dm⟩:=Ys hl;have hk:(a3:Int)<(ae.length:Int):=by omega
    have hkb:=decide_eq_true hk;rw [Zap.eq_2] at hm;refine go ?_;refine Yd (congrArg Value.bool hkb)<|go ?_;refine lI ag ((h1.ks aa).addr ag) ?_;obtain ⟨_,dn,dp⟩:=(h1.ks aa).atN ag;obtain ⟨_,_,rfl,dq,dr⟩:=Yr dn;obtain ⟨rfl,_⟩:=dq;obtain ⟨rfl,_⟩:=dr;refine lV (.agg #[.int .i64 bt.1,.int .i64 bt.2]) (Yq isAgg66 sizeOf66 rfl rfl dp)<|Xt (col:=ap) #[.int .i64 0,.int .i64 0] 4 zeroValue66 ?_;intro eh ei bu bv ds;refine Xg ds ?_;intro ej bw dt du;refine Zj<|Wc (col:=bu) [(0,1),(1,1),(2,1),(3,1),(4,1),(5,1),(6,1),(7,0),(8,3),(9,2),(10,1)] (by kernel_rfl) (by kernel_rfl)<|xu rfl rfl (fun _=>Vi rfl) ?_;refine xu rfl rfl (fun _=>Vi rfl) ?_;refine xu rfl rfl (fun _=>Uv underlying36 rfl) ?_;refine xu rfl rfl (fun _=>Vi rfl) ?_;refine xu rfl rfl (fun _=>Uv underlying36 rfl) ?_;obtain ⟨ba,hm⟩:=Zx hm;replace aj:=(aj.gr bv).kp bw;have av:=(aj.take (aA (ac.length:Int))).recap (show (ac.take (aA (ac.length:Int))).length≤(aA (ac.length:Int)) by rw [bX (i:=(aA (ac.length:Int))) (l:=ac)];have:=ba.2;omega);refine xu (v:=.slice an (aA (ac.length:Int)) (aA (ac.length:Int))) rfl rfl (fun _=>Z4v underlying36 sizeOf3 rfl rfl rfl ba.2.1 ba.2.2.1 (by have:=aj.1.2;have:=ba.2.2.2;omega)) ?_;refine .ld (d:=89) (v:=(.slice an ((ac.take (aA (ac.length:Int))).length) (aA (ac.length:Int)))) (congrArg (fun n=>Value.slice an n (aA (ac.length:Int))) (show (aA (ac.length:Int))=(ac.take (aA (ac.length:Int))).length by rw [bX (i:=(aA (ac.length:Int))) (l:=ac)];have:=ba.2;omega)) ?_;refine xF ⟨_,_,rfl⟩ ?_;refine xW (fun _ hC=>((du.atN).nth (q:=0) rfl).gr (hC.bl bu)) ?_;refine xe rfl rfl ?_;intro ek hC0;have hC:=hC0.bl bu;refine Wt (col:=bu) [bt.1] 5 ?_;intro el em cf bb cg;refine Zj<|Xp cf hC0 bb<|xe rfl rfl ?_;intro dv hC0;replace ai:=(((ai.gr bv).kp bw).gr hC).gr bb;replace ab:=(((ab.gr bv).kp bw).gr hC).gr bb;replace aa:=(((aa.grow bv).kp bw dt).grow hC).grow bb;replace av:=(av.gr hC).gr bb;have hC:=hC0.bl cf;obtain ⟨cy,hm⟩:=Zx hm;replace av:=av.gr hC;have dw:(aA (ac.length:Int))=(ac.take (aA (ac.length:Int))).length:=by have:=av.1.2;rw [bX (i:=(aA (ac.length:Int))) (l:=ac)] at this ⊢;omega
    refine Z23 (col:=cf) (w:=dv) (r:=rI) (c:=6) (c2:=6) 6 (xs:=ac.take (aA (ac.length:Int))) (ys:=[bt.1]) av dw (NB.int (k:=.i64)) (by simp) ((cg.gr hC).srcN (NB.int (k:=.i64))) rfl underlying36 Z19 rfl rfl rfl cy.1 cy.2 ?_;intro en eo ep cz ch bc;refine Zj<|xk cz<|xu rfl rfl (fun _=>r_aS rfl) ?_;refine Y4 ?_;replace ai:=(ai.gr hC).gr ch;replace ab:=(ab.gr hC).gr ch;replace aa:=(aa.grow hC).grow ch;intro eq hC;replace hC:=hC.bl cz;refine go ?_;replace ai:=ai.gr hC;replace bc:=bc.gr hC;replace ab:=ab.gr hC;replace ab:=ab.froz 6;replace aa:=aa.grow hC;replace aa:=aa.froz 6 (by decide) (by decide);exact ⟨dk.length,by simp,rfl,⟨_,_,_,_,_,_,rfl,dl,hm,aa,ai.froz 6,(bc).toSlF (Zm.int .i64),ab,(Yx (congrArg (Value.int .i64) (Yt (aJ dm (h1.ks aa).1.1))) rfl)⟩⟩
  | cons dx c0=>
   obtain ⟨ag,dy,dz⟩:=Ys hl;have hk:(ay:Int)<(ah.length:Int):=by omega
   have hkb:=decide_eq_true hk;rw [T7.eq_2] at hm;refine go ?_;refine Yd (congrArg Value.bool hkb)<|go ?_;refine lI ag ((h2.ks aa).addr ag)<|lW ((h2.ks aa).atInt ag)<|Yz rfl<|Zj<|Zw ?_;refine Wp.cutK [1,2,60,61,62,9,1000000] (fun f ci=>∃ cj ck,Zgm (T7 ae ah ad c0) ck=some r∧St w0 (Zg col) cj ci∧Zb rI 3 2 cj ci al am ad∧[73].map f=[.bool ck]) ?_ ?_
   ·intro f ci hJ;obtain ⟨cj,ck,hm,aa,ab,hs⟩:=hJ;rw [Zgm.eq_1] at hm;refine .lL [73] hs ?_;refine Zl hm (fun hb hm=>go ?_) fun hb hm=>go ?_
    ·cases hm;exact ⟨rfl,_,none,0,rfl,aa.fin (cm []),Zb.nil⟩
    exact ⟨c0.length,by simp,rfl,⟨_,_,_,rfl,dy,hm,aa,ab,(Yx (congrArg (Value.int .i64) (Yt (aJ dz (h2.ks aa).1.1))) rfl)⟩⟩
   refine go ?_;refine Xo hm (fun cl hm=>go ?_) fun cl hm=>go ?_
   ·refine lV (.bool true) (Z5 (congrArg Value.bool cl) rfl)<|Zj ?_;exact ⟨rfl,_,_,hm,aa,ab,rfl⟩
   refine lV (.bool (decide ((ad.length:Int)≤dx))) (Xn (congrArg Value.bool cl) rfl)<|Zj ?_;exact ⟨rfl,_,_,hm,aa,ab,rfl⟩
 | cons bd c3=>
  obtain ⟨ag,d0,d1⟩:=Ys hl;have hk:(aw:Int)<(ae.length:Int):=by omega
  have hkb:=decide_eq_true hk;rw [Te.eq_2] at hm;refine go ?_;refine Yd (congrArg Value.bool hkb)<|go ?_;refine lI ag ((h1.ks aa).addr ag) ?_;obtain ⟨_,d2,d3⟩:=(h1.ks aa).atN ag;obtain ⟨_,_,rfl,d4,d5⟩:=Yr d2;obtain ⟨rfl,_⟩:=d4;obtain ⟨rfl,_⟩:=d5;refine lV (.agg #[.int .i64 bd.1,.int .i64 bd.2]) (Yq isAgg66 sizeOf66 rfl rfl d3)<|Xt (col:=bm) #[.int .i64 0,.int .i64 0] 7 zeroValue66 ?_;intro er es ak c4 d6;refine Xg d6 ?_;intro et c5 d7 be;refine Zj<|Zw ?_;replace ab:=(ab.gr c4).kp c5;replace aa:=(aa.grow c4).kp c5 d7;refine Wp.cutK [1,2,28,29,30,9,1000000] (fun f cn=>∃ co cp,Q1 (Te ae ah ad c3) cp=some r∧St w0 (Zg col) co cn∧Zb rI 3 2 co cn al am ad∧[58].map f=[.bool cp]) ?_ ?_
  ·intro f cn hJ;obtain ⟨co,cp,hm,aa,ab,hs⟩:=hJ;rw [Q1.eq_1] at hm;refine .lL [58] hs ?_;refine Zl hm (fun hb hm=>go ?_) fun hb hm=>go ?_
   ·cases hm;exact ⟨rfl,_,none,0,rfl,aa.fin (cm []),Zb.nil⟩
   exact ⟨c3.length,by simp,rfl,⟨_,_,_,rfl,d0,hm,aa,ab,(Yx (congrArg (Value.int .i64) (Yt (aJ d1 (h1.ks aa).1.1))) rfl)⟩⟩
  refine Y0 (col:=ak) (by kernel_rfl) (by kernel_rfl)<|qF ⟨_,_,rfl⟩ ?_;refine qW (fun _ hC=>((be.atN).nth (q:=0) rfl).gr (hC.bl ak)) ?_;refine go ?_;refine Xo hm (fun cq hm=>go ?_) fun cq hm=>go ?_
  ·refine qv (v:=(.bool true)) rfl (fun _ hC=>Z5 (congrArg Value.bool cq) rfl) ?_;refine go ?_;refine qP 44 rfl rfl<|qP 44 rfl rfl<|qP 44 rfl rfl<|qv (v:=(.bool true)) rfl (fun _ hC=>Z5 rfl rfl) ?_;refine go ?_;refine qP 49 rfl rfl<|qP 49 rfl rfl<|qP 49 rfl rfl<|qP 49 rfl rfl<|qP 49 rfl rfl<|qP 49 rfl rfl<|qP 49 rfl rfl<|qP 49 rfl rfl<|qv (v:=(.bool true)) rfl (fun _ hC=>Z5 rfl rfl) ?_;refine Xw ?_;intro eu hC;replace hC:=hC.bl ak;replace ab:=ab.gr hC;replace aa:=aa.grow hC;exact ⟨rfl,_,_,hm,aa,ab,rfl⟩
  refine qF ⟨_,_,rfl⟩ ?_;refine go ?_;refine qW (fun _ hC=>((be.atN).nth (q:=0) rfl).gr (hC.bl ak)) ?_;refine go ?_;refine qv (v:=(.bool (decide ((ad.length:Int)≤bd.1)))) rfl (fun _ hC=>Xn (congrArg Value.bool cq) rfl) ?_;refine go ?_;refine Xo hm (fun cr hm=>go ?_) fun cr hm=>go ?_
  ·refine qv (v:=(.bool true)) rfl (fun _ hC=>Z5 (congrArg Value.bool cr) rfl) ?_;refine go ?_;refine qP 49 rfl rfl<|qP 49 rfl rfl<|qP 49 rfl rfl<|qP 49 rfl rfl<|qP 49 rfl rfl<|qP 49 rfl rfl<|qP 49 rfl rfl<|qP 49 rfl rfl<|qv (v:=(.bool true)) rfl (fun _ hC=>Z5 rfl rfl) ?_;refine Xw ?_;intro ew hC;replace hC:=hC.bl ak;replace ab:=ab.gr hC;replace aa:=aa.grow hC;exact ⟨rfl,_,_,hm,aa,ab,rfl⟩
  refine qF ⟨_,_,rfl⟩ ?_;refine go ?_;refine qW (fun _ hC=>((be.atN).nth (q:=1) rfl).gr (hC.bl ak)) ?_;refine go ?_;refine qv (v:=(.bool (decide (bd.2<0)))) rfl (fun _ hC=>Xn (congrArg Value.bool cr) rfl) ?_;refine go ?_;refine Xo hm (fun cs hm=>go ?_) fun cs hm=>go ?_
  ·refine qv (v:=(.bool true)) rfl (fun _ hC=>Z5 (congrArg Value.bool cs) rfl) ?_;refine Xw ?_;intro ey hC;replace hC:=hC.bl ak;replace ab:=ab.gr hC;replace aa:=aa.grow hC;exact ⟨rfl,_,_,hm,aa,ab,rfl⟩
  refine qF ⟨_,_,rfl⟩ ?_;refine go ?_;refine qW (fun _ hC=>((be.atN).nth (q:=1) rfl).gr (hC.bl ak)) ?_;refine go ?_;refine qF ⟨_,_,rfl⟩ ?_;refine go ?_;refine qW (fun _ hC=>((be.atN).nth (q:=0) rfl).gr (hC.bl ak)) ?_;refine go ?_;obtain ⟨d8,ct,hm⟩:=bZ hm;refine qI ct (ab.addr ct) ?_;refine go ?_;refine qW (fun _ hC=>(ab.gr (hC.bl ak)).atInt ct) ?_;refine go ?_;refine qv (v:=(.bool (decide (d8≤bd.2)))) rfl (fun _ hC=>Xn (congrArg Value.bool cs) rfl) ?_;refine Xw ?_;intro ez hC;replace hC:=hC.bl ak;exact ⟨rfl,_,_,hm,aa.grow hC,ab.gr hC,rfl⟩
def Zi5:Option Re:=
  some []
theorem Zze (cy cy2 cy3:Nat) (col:Zd) (w0:World) (r:List (List Int×R1)) (hm:Zi5=some r):
    Zfw prog 2 37 [] (fun (y:List Int×R1) (col:Zd) (w:World) (args:List Value)=>∃ a0 ab a1_0_1 c1_0_1 ac ad,args=[.slice a0 y.1.length ab,.agg #[.bool y.2.1.1,.slice a1_0_1 y.2.1.2.length c1_0_1,.slice ac y.2.2.length ad]]∧Zb rI 3 cy col w a0 ab y.1∧Zb rU 45 cy2 col w a1_0_1 c1_0_1 y.2.1.2∧Zb rU 45 cy3 col w ac ad y.2.2) r col w0:=by
 intro l J X hjs hxs hy aa;refine Zrc (mc:=1998) (m:=2) (args:=[.func (.yield l) #[] #[]]) func37 rfl rfl rfl rfl ?_;rw [Zi5.eq_1] at hm;have hmk:Ym 1998 col w0 []:=.nil;refine X7 ?_;cases hm;refine ⟨_,[],rfl,hmk,?_⟩;intro ag ae af;replace aa:=hjs _ _ _ _ _ aa (ae.toP af rfl);exact ⟨⟨_,rfl⟩,_,.inl aa⟩
theorem Z2e:Y6 prog 9 1 16:=⟨Tryz.t9,_,rfl,rfl,rfl,rfl,rfl⟩
def Zfl (aa:List ByteArray):Option R4:=
  Zv ((([]:List ByteArray).length+aa.length) * 16≤140737488355328∧([]:List ByteArray).length+aa.length≤maxLen) (some (([]:List ByteArray)++aa))
theorem Zq9 {ad:Nat} {a0:Option Addr} {col:Zd} {w0:World} {ac r:R4} (c1:Nat) (hm:Zfl ac=some r) (h0:Sl Za.str col w0 a0 ad ac):
    Calls prog 91 #[.slice a0 ac.length ad] w0 (fun e w'=>∃ col' ra1 rc2,e= .returned ((.slice ra1 r.length rc2))∧Zk col w0 col' w'∧Zb Za.str 9 c1 col' w' ra1 rc2 r):=by
 refine Z7 2 (m:=8) func91 rfl rfl rfl rfl rfl ?_;rw [Zfl.eq_1] at hm;have aa:=St.start col w0;refine go ?_;replace h0:=h0.k0;rcases Zo3 h0 with ab | ab
 ·replace hm:some ([]:List ByteArray)=some r:=by have h0:=ab.2;subst h0;simpa [Zv,maxLen] using hm
  refine lv (v:=.bool a0.isNone) rfl rfl (Zif underlying22 rfl)<|.ld (d:=4) (v:=.bool true) (congrArg Value.bool ab.1)<|Zj<|Yd rfl<|go ?_;cases hm;exact ⟨rfl,_,none,0,rfl,aa.fin (cm []),Zb.nil⟩
 refine lv (v:=.bool a0.isNone) rfl rfl (Zif underlying22 rfl)<|.ld (d:=4) (v:=.bool false) (congrArg Value.bool ab)<|Zj<|Yc rfl<|go ?_;refine Zoq (col:=(Zg col)) (r:=Za.str) 1 rfl underlying22 Z2e rfl ?_;intro aj ak al ae af;refine Y8 rfl ?_;obtain ⟨ag,hm⟩:=Zx hm;refine Y9 af (h0.gr ae).srcC ag ?_;intro am an ao ap ah ai;refine go ?_;cases hm;replace aa:=(aa.grow ae).kpp ah;exact ⟨rfl,_,_,_,rfl,aa.fin (cm [(1,c1)]),aa.fo ai⟩
theorem Z11:Y6 prog 22 1 24:=⟨Tryz.t22,_,rfl,rfl,rfl,rfl,rfl⟩
theorem Z13:Y6 prog 29 1 24:=⟨Tryz.t29,_,rfl,rfl,rfl,rfl,rfl⟩
theorem Z15:Y6 prog 36 1 24:=⟨Tryz.t36,_,rfl,rfl,rfl,rfl,rfl⟩
def Zb6 (N:Nat) (ae:Int) (af:ByteArray) (ag:List ByteArray) (ah:List R4) (ai:List R2) (ac:List R8) (kk_L1:(Int→ByteArray→R4→Ri→Ra→Rh→Option R0)) (aj:List ByteArray) (ak:List Int):List R1→R8→Option R0
  | [],ab=>Zv ((ac.length+[ab].length) * 24≤140737488355328∧ac.length+[ab].length≤maxLen) (kk_L1 (i64.wrap (ae+1)) af ag (ah++[aj]) (ai++[ak]) (ac++[ab]))
  | ad :: al,ab=>(Zdq N ((ad.1.1,ad.1.2),ad.2) ((false,([]:List Int)),([]:List Int))).bind fun aa=>Zv ((ab.length+[((aa.1.1,aa.1.2),aa.2)].length) * 56≤140737488355328∧ab.length+[((aa.1.1,aa.1.2),aa.2)].length≤maxLen) ((Zb6 N ae af ag ah ai ac kk_L1 aj ak al) (ab++[((aa.1.1,aa.1.2),aa.2)]))
def Zaq (N:Nat) (aa:R0):Nat→Int→ByteArray→R4→Ri→Ra→Rh→Option R0
  | 0,_,_,_,_,_,_=>none
  | aj+1,ab,ag,ah,ac,ad,ai=>if (decide (ab<(aa.2.1.length:Int)))=true then ((Zi aa.2.2.1 ab).bind fun ak=>(Zfl ak).bind fun ae=>Zv ((ac.length+[ae].length) * 24≤140737488355328∧ac.length+[ae].length≤maxLen) ((Zi aa.2.2.2.1 ab).bind fun al=>(Zc2 al).bind fun af=>Zv ((ad.length+[af].length) * 24≤140737488355328∧ad.length+[af].length≤maxLen) ((Zi aa.2.2.2.2 ab).bind fun am=>Zb6 N ab ag ah ac ad ai (Zaq N aa aj) ae af am ([]:List R1)))) else (some (ag,ah,ac,ad,ai))
def Zgn (N:Nat) (aa:R0):Option R0:=
  (Zfl aa.2.1).bind fun ab=>Zaq N aa N 0 aa.1 ab ([]:List R4) ([]:List R2) ([]:List R8)
theorem Zzh {N cd bz bu bi:Nat} {ce b0 bv bj:Option Addr} {col:Zd} {w0:World} {af r:R0} (c1 c2 c3 c4:Nat) (hm:Zgn N af=some r) (cv:Sl Za.str col w0 ce cd af.2.1) (cf:Sl rV col w0 b0 bz af.2.2.1) (cg:Sl rP col w0 bv bu af.2.2.2.1) (ch:Sl (Za.slice rQ) col w0 bj bi af.2.2.2.2):
    Calls prog 38 #[(.agg #[.string af.1,.slice ce af.2.1.length cd,.slice b0 af.2.2.1.length bz,.slice bv af.2.2.2.1.length bu,.slice bj af.2.2.2.2.length bi])] w0 (fun e w'=>∃ col' ra1 rc2 ra4 rc5 ra7 rc8 ra10 rc11,e= .returned ((.agg #[.string r.1,.slice ra1 r.2.1.length rc2,.slice ra4 r.2.2.1.length rc5,.slice ra7 r.2.2.2.1.length rc8,.slice ra10 r.2.2.2.2.length rc11]))∧Zk col w0 col' w'∧Zb Za.str 9 c1 col' w' ra1 rc2 r.2.1∧Zb (Za.row 9 Za.str) 22 c2 col' w' ra4 rc5 r.2.2.1∧Zb (Za.row 3 rI) 36 c3 col' w' ra7 rc8 r.2.2.2.1∧Zb (Za.row 42 (rO 45)) 29 c4 col' w' ra10 rc11 r.2.2.2.2):=by
 refine Yw (m:=69) func38 rfl rfl rfl ?_;rw [Zgn.eq_1] at hm;have aa:=St.start col w0;refine go ?_;refine Xf (col:=(Zg col)) 1 rfl ?_;intro dt f4 d9 ea ab;refine Xt (col:=d9) #[.string (⟨#[]⟩),.slice none (([]:List ByteArray).length) 0,.slice none (([]:List R4).length) 0,.slice none (([]:List R2).length) 0,(.slice none (([]:List R8).length) 0)] 2 zeroValue27 ?_;intro du f5 eb dv ac;refine go ?_;replace ab:=ab.gr dv;refine lV _ (Xh isAgg27 sizeOf27 ab)<|Xt (col:=eb) #[.string (⟨#[]⟩),.slice none (([]:List ByteArray).length) 0,.slice none (([]:List R4).length) 0,.slice none (([]:List R2).length) 0,(.slice none (([]:List R8).length) 0)] 3 zeroValue27 ?_;intro a4 f6 f7 cw ec;refine Xg ec ?_;intro f8 cx ed cy;refine go ?_;refine Z9 ⟨_,_,rfl⟩ ?_;replace ab:=(ab.gr cw).kp cx;refine lW ((ab.atN).nth (q:=1) rfl) ?_;obtain ⟨b1,ee,hm⟩:=bZ hm;replace aa:=(((aa.grow ea).grow dv).grow cw).kp cx ed;refine Zh (Zq9 4 ee (cv.k0.ks aa)) fun _ f9 ⟨ci,b2,b3,e',cj,cz⟩=>⟨_,e',?_⟩;refine Z9 ⟨_,_,rfl⟩ ?_;refine U1 (off:=1) (v:=(.slice b2 b1.length b3)) (cy.gr cj) sizeOf22 rfl rfl (by intro u hu;simp only [Value.cells,aM,aO,or_false] at hu;subst hu;rfl) rfl rfl ?_;intro ef ck eg c0;replace c0:Ze 27 3 ci ef a4 #[.string af.1,.slice b2 b1.length b3,.slice b0 af.2.2.1.length bz,.slice bv af.2.2.2.1.length bu,.slice bj af.2.2.2.2.length bi]:=c0;refine go ?_;refine Z9 ⟨_,_,rfl⟩ ?_;refine U1 (off:=2) (v:=(.slice none (([]:List R4).length) 0)) c0 sizeOf23 rfl rfl (by intro u hu;simp only [Value.cells,aM,aO,or_false] at hu;subst hu;rfl) rfl rfl ?_;intro eh cl ei c5;replace c5:Ze 27 3 ci eh a4 #[.string af.1,.slice b2 b1.length b3,.slice none (([]:List R4).length) 0,.slice bv af.2.2.2.1.length bu,.slice bj af.2.2.2.2.length bi]:=c5;refine Z9 ⟨_,_,rfl⟩ ?_;refine U1 (off:=3) (v:=(.slice none (([]:List R2).length) 0)) c5 sizeOf24 rfl rfl (by intro u hu;simp only [Value.cells,aM,aO,or_false] at hu;subst hu;rfl) rfl rfl ?_;intro ej cn ek c6
 replace c6:Ze 27 3 ci ej a4 #[.string af.1,.slice b2 b1.length b3,.slice none (([]:List R4).length) 0,.slice none (([]:List R2).length) 0,.slice bj af.2.2.2.2.length bi]:=c6;refine Z9 ⟨_,_,rfl⟩ ?_;refine U1 (off:=4) (v:=(.slice none (([]:List R8).length) 0)) c6 sizeOf25 rfl rfl (by intro u hu;simp only [Value.cells,aM,aO,or_false] at hu;subst hu;rfl) rfl rfl ?_;intro el co em aj;replace aj:Ze 27 3 ci el a4 #[.string af.1,.slice b2 b1.length b3,.slice none (([]:List R4).length) 0,.slice none (([]:List R2).length) 0,(.slice none (([]:List R8).length) 0)]:=aj;refine go ?_;refine Z9 ⟨_,_,rfl⟩ ?_;replace ab:=((((ab.gr cj).kp ck).kp cl).kp cn).kp co;refine lW ((ab.atN).nth (q:=1) rfl)<|go ?_;replace ac:=((((((ac.gr cw).kp cx).gr cj).kp ck).kp cl).kp cn).kp co;replace aa:=((((aa.grow cj).kp ck eg).kp cl ei).kp cn ek).kp co em;refine Zt [1,18,2,3,1000000] (fun n f a5=>∃ ak cp bd be bf ax c7 c8 ar cq cr au bk bm av bn,bn=n∧Zaq N af bn cp bd ax ar au av=some r∧St w0 (Zg col) ak a5∧Ze 27 1 ak a5 dt #[.string af.1,.slice ce af.2.1.length cd,.slice b0 af.2.2.1.length bz,.slice bv af.2.2.2.1.length bu,.slice bj af.2.2.2.2.length bi]∧Ze 27 2 ak a5 du #[.string (⟨#[]⟩),.slice none (([]:List ByteArray).length) 0,.slice none (([]:List R4).length) 0,.slice none (([]:List R2).length) 0,(.slice none (([]:List R8).length) 0)]∧Zb Za.str 9 4 ak a5 be bf ax∧Zb (Za.row 9 Za.str) 22 5 ak a5 c7 c8 ar∧Zb (Za.row 3 rI) 36 6 ak a5 cq cr au∧Zb (Za.row 42 (rO 45)) 29 7 ak a5 bk bm av∧Ze 27 3 ak a5 a4 #[.string bd,.slice be ax.length bf,.slice c7 ar.length c8,.slice cq au.length cr,.slice bk av.length bm]∧[19].map f=[.int .i64 cp]) N ⟨_,0,_,_,_,_,none,0,_,none,0,_,none,0,_,_,rfl,hm,aa,ab,ac,(((cz.kp ck).kp cl).kp cn).kp co,Zb.nil,Zb.nil,Zb.nil,aj,rfl⟩ ?_;clear hm;intro n f a5 hI;obtain ⟨ak,cp,bd,be,bf,ax,c7,c8,ar,cq,cr,au,bk,bm,av,bn,hn,hm,aa,ab,ac,ad,ay,ah,ae,aj,hs⟩:=hI;subst hn;refine .lL [19] hs ?_;replace cf:=cf.k0
 replace cg:=cg.k0;replace ch:=ch.k0
 cases bn with
 | zero=>rw [Zaq.eq_1] at hm;cases hm
 | succ bn=>
  rw [Zaq.eq_2] at hm;refine go ?_;refine Zl hm (fun hb hm=>go ?_) fun hb hm=>go ?_
  ·refine Wc (col:=ak) [(0,1),(1,0),(2,1),(3,0),(4,1),(5,1),(6,0),(7,3),(8,3),(9,2),(10,1),(11,2)] (by kernel_rfl) (by kernel_rfl)<|xF ⟨_,_,rfl⟩ ?_;refine xW (fun _ hC=>((aj.atN).nth (q:=2) rfl).gr (hC.bl ak)) ?_;refine xF ⟨_,_,rfl⟩ ?_;refine xW (fun _ hC=>((ab.atN).nth (q:=2) rfl).gr (hC.bl ak)) ?_;refine xu rfl rfl (fun _=>Wb rfl) ?_;obtain ⟨ga,ct,hm⟩:=bZ hm;refine xu rfl rfl (fun _=>Wa underlying23 sizeOf22 rfl rfl (Xm ct).1 (Xm ct).2.1 ((cf.ks aa).addr ct)) ?_;obtain ⟨_,en,eo⟩:=(cf.ks aa).atN ct;obtain ⟨⟨gb,gc,rfl,c9⟩,_⟩:=en;refine xW (fun _ hC=>eo.one.gr (hC.bl ak)) ?_;refine xe rfl rfl ?_;intro gd hC0;have hC:=hC0.bl ak;obtain ⟨az,ep,hm⟩:=bZ hm;refine Zh (Zq9 8 ep (c9.gr hC)) fun _ ge ⟨da,dw,dx,e',a6,db⟩=>⟨_,e',?_⟩;refine Zj<|Xp da hC0 a6<|xe rfl rfl ?_;intro gf hC0;replace ad:=(ad.gr hC).gr a6;replace ay:=(ay.gr hC).gr a6;replace ah:=(ah.gr hC).gr a6;replace ae:=(ae.gr hC).gr a6;replace ab:=(ab.gr hC).gr a6;replace ac:=(ac.gr hC).gr a6;replace aj:=(aj.gr hC).gr a6;replace aa:=(aa.grow hC).grow a6;have hC:=hC0.bl da;refine Tx (col:=da) (r:=(Za.row 9 Za.str)) (xs:=[az]) [.slice dw az.length dx] 8 (Wl.cons1 (cs:=[.slice dw az.length dx]) (db.gr hC).has Rows.nil0) ?_;intro gg gh dc a7 dd;refine Zj<|Xp dc hC0 a7<|xe rfl rfl ?_;intro eq hC0;replace ad:=(ad.gr hC).gr a7;replace ay:=(ay.gr hC).gr a7;replace ah:=(ah.gr hC).gr a7;replace ae:=(ae.gr hC).gr a7;replace ab:=(ab.gr hC).gr a7;replace ac:=(ac.gr hC).gr a7;replace aj:=(aj.gr hC).gr a7;replace aa:=(aa.grow hC).grow a7;have hC:=hC0.bl dc;obtain ⟨dy,hm⟩:=Zx hm;replace ay:=ay.gr hC;refine Zak (col:=dc) (w:=eq) (r:=(Za.row 9 Za.str)) (c:=5) (c2:=8) (ay.ex) ((dd.gr hC).srcC (by decide)) rfl underlying23 Z11 rfl rfl rfl dy.1 dy.2 (by decide) ?_;intro bw bx gi a0 bo de;refine Zj<|xk a0<|xF ⟨_,_,rfl⟩ ?_;refine xe rfl rfl ?_;intro gj hC0;replace ad:=(ad.gr hC).kpp bo;replace ah:=(ah.gr hC).kpp bo;replace ae:=(ae.gr hC).kpp bo;replace ab:=(ab.gr hC).kpp bo;replace ac:=(ac.gr hC).kpp bo;replace aj:=(aj.gr hC).kpp bo;replace aa:=(aa.grow hC).kpp bo;have hC:=hC0.bl a0;replace aj:=aj.gr hC
   refine U1 (off:=2) (v:=(.slice bw ((ar++[az]).length) bx)) aj sizeOf23 rfl rfl (by intro u hu;simp only [Value.cells,aM,aO,or_false] at hu;subst hu;rfl) rfl rfl ?_;intro er bp es al;replace al:Ze 27 3 a0 er a4 #[.string bd,.slice be ax.length bf,.slice bw ((ar++[az]).length) bx,.slice cq au.length cr,.slice bk av.length bm]:=al;refine Zj<|xk a0 ?_;have ag:=((de.gr hC).kp bp).new;refine Y4 ?_;replace ad:=(ad.gr hC).kp bp;replace ah:=(ah.gr hC).kp bp;replace ae:=(ae.gr hC).kp bp;replace ab:=(ab.gr hC).kp bp;replace ac:=(ac.gr hC).kp bp;replace aa:=(aa.grow hC).kp bp es;intro gk hC;replace hC:=hC.bl a0;refine Zw<|Wc (col:=a0) [(0,1),(1,0),(2,1),(3,0),(4,1),(5,1),(6,0),(7,3),(8,3),(9,2),(10,1),(11,2)] (by kernel_rfl) (by kernel_rfl)<|xF ⟨_,_,rfl⟩ ?_;replace al:=al.gr hC;refine xW (fun _ hC=>((al.atN).nth (q:=3) rfl).gr (hC.bl a0)) ?_;refine xF ⟨_,_,rfl⟩ ?_;replace ab:=ab.gr hC;refine xW (fun _ hC=>((ab.atN).nth (q:=3) rfl).gr (hC.bl a0)) ?_;refine xu rfl rfl (fun _=>Wb rfl) ?_;obtain ⟨gl,cu,hm⟩:=bZ hm;replace aa:=aa.grow hC;refine xu rfl rfl (fun _=>Wa underlying24 sizeOf36 rfl rfl (Xm cu).1 (Xm cu).2.1 ((cg.ks aa).addr cu)) ?_;obtain ⟨_,et,eu⟩:=(cg.ks aa).atN cu;obtain ⟨⟨gm,gp,rfl,df⟩,_⟩:=et;refine xW (fun _ hC=>eu.one.gr (hC.bl a0)) ?_;refine xe rfl rfl ?_;intro gs hC0;replace ad:=ad.gr hC;replace ag:=ag.gr hC;replace ah:=ah.gr hC;replace ae:=ae.gr hC;replace ac:=ac.gr hC;have hC:=hC0.bl a0;obtain ⟨a8,ew,hm⟩:=bZ hm;refine Zh (Zn5 9 ew (df.gr hC)) fun _ gt ⟨dg,dz,d0,e',a9,dh⟩=>⟨_,e',?_⟩;refine Zj<|Xp dg hC0 a9<|xe rfl rfl ?_;intro gu hC0;replace ad:=(ad.gr hC).gr a9;replace ag:=(ag.gr hC).gr a9;replace ah:=(ah.gr hC).gr a9;replace ae:=(ae.gr hC).gr a9;replace ab:=(ab.gr hC).gr a9;replace ac:=(ac.gr hC).gr a9;replace al:=(al.gr hC).gr a9;replace aa:=(aa.grow hC).grow a9;have hC:=hC0.bl dg;refine Tx (col:=dg) (r:=(Za.row 3 rI)) (xs:=[a8]) [.slice dz a8.length d0] 9 (Wl.cons1 (cs:=[.slice dz a8.length d0]) (dh.gr hC).has Rows.nil0) ?_;intro gv gw di ba dj;refine Zj<|Xp di hC0 ba<|xe rfl rfl ?_;intro ey hC0;replace ad:=(ad.gr hC).gr ba;replace ag:=(ag.gr hC).gr ba
   replace ah:=(ah.gr hC).gr ba;replace ae:=(ae.gr hC).gr ba;replace ab:=(ab.gr hC).gr ba;replace ac:=(ac.gr hC).gr ba;replace al:=(al.gr hC).gr ba;replace aa:=(aa.grow hC).grow ba;have hC:=hC0.bl di;obtain ⟨d1,hm⟩:=Zx hm;replace ah:=ah.gr hC;refine Zak (col:=di) (w:=ey) (r:=(Za.row 3 rI)) (c:=6) (c2:=9) (ah.ex) ((dj.gr hC).srcC (by decide)) rfl underlying24 Z15 rfl rfl rfl d1.1 d1.2 (by decide) ?_;intro b4 b5 gx b6 bq dk;refine Zj<|xk b6<|xF ⟨_,_,rfl⟩ ?_;refine xe rfl rfl ?_;intro gy hC0;replace ad:=(ad.gr hC).kpp bq;replace ag:=(ag.gr hC).kpp bq;replace ae:=(ae.gr hC).kpp bq;replace ab:=(ab.gr hC).kpp bq;replace ac:=(ac.gr hC).kpp bq;replace al:=(al.gr hC).kpp bq;replace aa:=(aa.grow hC).kpp bq;have hC:=hC0.bl b6;refine U1 (off:=3) (v:=(.slice b4 ((au++[a8]).length) b5)) (al.gr hC) sizeOf24 rfl rfl (by intro u hu;simp only [Value.cells,aM,aO,or_false] at hu;subst hu;rfl) rfl rfl ?_;intro ez br e0 ai;replace ai:Ze 27 3 b6 ez a4 #[.string bd,.slice be ax.length bf,.slice bw ((ar++[az]).length) bx,.slice b4 ((au++[a8]).length) b5,.slice bk av.length bm]:=ai;refine Zj<|xk b6 ?_;have am:=((dk.gr hC).kp br).new;refine Y4 ?_;replace ad:=(ad.gr hC).kp br;replace ag:=(ag.gr hC).kp br;replace ae:=(ae.gr hC).kp br;replace ab:=(ab.gr hC).kp br;replace ac:=(ac.gr hC).kp br;replace aa:=(aa.grow hC).kp br e0;intro gz hC;replace hC:=hC.bl b6;refine go ?_;refine Z9 ⟨_,_,rfl⟩ ?_;replace ab:=ab.gr hC;refine lW ((ab.atN).nth (q:=4) rfl)<|Xe rfl ?_;obtain ⟨b7,dl,hm⟩:=bZ hm;replace aa:=aa.grow hC;refine lI dl ((ch.ks aa).addr dl) ?_;obtain ⟨_,e1,e2⟩:=(ch.ks aa).atN dl;obtain ⟨⟨e3,e4,rfl,ao⟩,_⟩:=e1;refine lW e2.one<|go ?_;replace ad:=ad.gr hC;replace ag:=ag.gr hC;replace am:=am.gr hC;replace ae:=ae.gr hC;replace ac:=ac.gr hC;replace ai:=ai.gr hC
   refine Zt [1,18,19,2,3,48,49,1000000] (fun n f aw=>∃ an b8 b9 bb ca cb,n=cb.length∧b7.drop ca=cb∧Zb6 N cp bd ax ar au av (Zaq N af bn) az a8 cb bb=some r∧St w0 (Zg col) an aw∧Ze 27 1 an aw dt #[.string af.1,.slice ce af.2.1.length cd,.slice b0 af.2.2.1.length bz,.slice bv af.2.2.2.1.length bu,.slice bj af.2.2.2.2.length bi]∧Ze 27 2 an aw du #[.string (⟨#[]⟩),.slice none (([]:List ByteArray).length) 0,.slice none (([]:List R4).length) 0,.slice none (([]:List R2).length) 0,(.slice none (([]:List R8).length) 0)]∧Zb Za.str 9 4 an aw be bf ax∧Zb (Za.row 9 Za.str) 22 5 an aw bw bx (ar++[az])∧Zb (Za.row 3 rI) 36 6 an aw b4 b5 (au++[a8])∧Zb (Za.row 42 (rO 45)) 29 7 an aw bk bm av∧Ze 27 3 an aw a4 #[.string bd,.slice be ax.length bf,.slice bw ((ar++[az]).length) bx,.slice b4 ((au++[a8]).length) b5,.slice bk av.length bm]∧Sl rQ an aw e3 e4 b7∧Zb (rO 45) 42 10 an aw b8 b9 bb∧[50,5].map f=[.int .i64 ca,.slice b8 bb.length b9]) b7.length ⟨_,none,0,_,0,_,rfl,rfl,hm,aa,ab,ac,ad,ag,am,ae,ai,ao,Zb.nil,rfl⟩ ?_;clear hm;intro n f aw hI;obtain ⟨an,b8,b9,bb,ca,cb,hn,hl,hm,aa,ab,ac,ad,ag,am,ae,ai,ao,bg,hs⟩:=hI;subst hn;refine .lL [50,5] hs ?_
   cases cb with
   | nil=>
    have hk:¬ ((ca:Int)<(b7.length:Int)):=by have:=aK.1 hl;omega
    have hkb:=decide_eq_false hk;rw [Zb6.eq_1] at hm;refine go ?_;refine Yc (congrArg Value.bool hkb)<|go ?_;refine Zy ai<|Y8 rfl<|Tx (col:=an) (r:=(Za.row 42 (rO 45))) (xs:=[bb]) [.slice b8 bb.length b9] 10 (Wl.cons1 (cs:=[.slice b8 bb.length b9]) bg.has Rows.nil0) ?_;intro g0 e5 e6 bh e7;obtain ⟨d2,hm⟩:=Zx hm;replace ae:=ae.gr bh;refine Zak (col:=e6) (w:=e5) (r:=(Za.row 42 (rO 45))) (c:=7) (c2:=10) (ae.ex) (e7.srcC (by decide)) rfl underlying25 Z13 rfl rfl rfl d2.1 d2.2 (by decide) ?_;intro d3 d4 g1 e8 bs dm;refine Z9 ⟨_,_,rfl⟩ ?_;replace ai:=(ai.gr bh).kpp bs;refine U1 (off:=4) (v:=(.slice d3 ((av++[bb]).length) d4)) ai sizeOf25 rfl rfl (by intro u hu;simp only [Value.cells,aM,aO,or_false] at hu;subst hu;rfl) rfl rfl ?_;intro e9 bt fa dn;replace dn:Ze 27 3 e8 e9 a4 #[.string bd,.slice be ax.length bf,.slice bw ((ar++[az]).length) bx,.slice b4 ((au++[a8]).length) b5,.slice d3 ((av++[bb]).length) d4]:=dn;have fb:=(dm.kp bt).new;refine go ?_;replace ad:=((ad.gr bh).kpp bs).kp bt;replace ag:=((ag.gr bh).kpp bs).kp bt;replace am:=((am.gr bh).kpp bs).kp bt;replace ab:=((ab.gr bh).kpp bs).kp bt;replace ac:=((ac.gr bh).kpp bs).kp bt;replace aa:=((aa.grow bh).kpp bs).kp bt fa;exact ⟨bn,by omega,rfl,⟨_,_,_,_,_,_,_,_,_,_,_,_,_,_,_,_,rfl,hm,aa,ab,ac,ad,ag,am,fb,dn,rfl⟩⟩
   | cons dp fc=>
    obtain ⟨dq,fd,fe⟩:=Ys hl;have hk:(ca:Int)<(b7.length:Int):=by omega
    have hkb:=decide_eq_true hk;rw [Zb6.eq_2] at hm;refine go ?_;refine Yd (congrArg Value.bool hkb)<|go ?_;refine lI dq (ao.addr dq) ?_;obtain ⟨_,ff,fg⟩:=ao.atN dq;obtain ⟨_,_,rfl,fh,fi⟩:=Yr ff;obtain ⟨_,_,rfl,fj,fk⟩:=Yr fh;obtain ⟨rfl,_⟩:=fj;obtain ⟨⟨fl,fm,rfl,dr⟩,_⟩:=fk;obtain ⟨⟨fn,fp,rfl,ds⟩,_⟩:=fi;refine lV (.agg #[.bool dp.1.1,.slice fl dp.1.2.length fm,.slice fn dp.2.length fp]) (Yq isAgg42 sizeOf42 rfl rfl fg)<|Xt (col:=an) #[.bool false,(nI),(nI)] 11 zeroValue42 ?_;intro g2 g3 g4 ap fq;refine Xg fq ?_;intro g5 aq fr ft;refine go ?_;refine lV _ (Xh isAgg42 sizeOf42 ft)<|lV (.agg #[.bool false,(nI),(nI)]) (Wz (l:=[_,_]) (qs:=[(0,2),(2,1)]) underlying42 zeroValue42 ⟨rfl,sizeOf40,rfl,sizeOf38,trivial⟩ rfl) ?_;obtain ⟨a1,fu,hm⟩:=bZ hm;refine Zh (Zqk 12 13 fu ((dr.gr ap).kp aq) ((ds.gr ap).kp aq) Sl.nil Sl.nil) fun _ g6 ⟨fv,d5,d6,d7,d8,e',a2,fw,fx⟩=>⟨_,e',?_⟩;have fy:=X0.join (X0.joinL (Zaf a1.1.1) fw.has) fx.has (by decide) (by decide);replace ad:=((ad.gr ap).kp aq).gr a2;replace ad:=ad.recol 13 12;replace ag:=((ag.gr ap).kp aq).gr a2;replace ag:=ag.recol 13 12;replace am:=((am.gr ap).kp aq).gr a2;replace am:=am.recol 13 12;replace ae:=((ae.gr ap).kp aq).gr a2;replace ae:=ae.recol 13 12;replace ao:=((ao.gr ap).kp aq).gr a2;replace ao:=ao.recol 13 12;replace bg:=((bg.gr ap).kp aq).gr a2;replace bg:=bg.recol 13 12;replace ab:=((ab.gr ap).kp aq).gr a2;replace ab:=ab.recol 13 12;replace ac:=((ac.gr ap).kp aq).gr a2;replace ac:=ac.recol 13 12;replace ai:=((ai.gr ap).kp aq).gr a2;replace ai:=ai.recol 13 12;replace aa:=((aa.grow ap).kp aq fr).grow a2;replace aa:=aa.recol 13 12 (by decide) (by decide)
    refine Tx (col:=(Xr 13 12 fv)) (r:=(rO 45)) (xs:=[((a1.1.1,a1.1.2),a1.2)]) [(.agg #[.bool a1.1.1,.slice d5 a1.1.2.length d6,.slice d7 a1.2.length d8])] 12 (Wl.cons1 (cs:=[.bool a1.1.1,.slice d5 a1.1.2.length d6,.slice d7 a1.2.length d8]) fy Rows.nil0) ?_;intro g7 g8 g9 a3 fz;obtain ⟨f0,hm⟩:=Zx hm;refine Y9 (c:=10) (c2:=12) (bg.gr a3) (fz.srcC (by decide)) f0 ?_;intro ha hc hd he bc f1;refine go ?_;replace ad:=(ad.gr a3).kpp bc;replace ae:=(ae.gr a3).kpp bc;replace ao:=(ao.gr a3).kpp bc;replace ac:=(ac.gr a3).kpp bc;replace aa:=(aa.grow a3).kpp bc;exact ⟨fc.length,by simp,rfl,⟨_,_,_,_,_,_,rfl,fd,hm,aa,(ab.gr a3).kpp bc,ac,ad,(ag.gr a3).kpp bc,(am.gr a3).kpp bc,ae,(ai.gr a3).kpp bc,ao,f1,(Yx (congrArg (Value.int .i64) (Yt (aJ fe ao.1.1))) rfl)⟩⟩
  refine lV _ (Xh isAgg27 sizeOf27 aj)<|Xg ac ?_;intro hf cc f2 f3;refine go ?_;cases hm;replace aa:=aa.kp cc f2;exact ⟨rfl,_,ra f3.atN,_,_,_,_,_,_,_,_,_,rfl,aa.fin (cm [(4,c1),(5,c2),(6,c3),(7,c4)]),aa.fo (ad.kp cc),aa.fo (ay.kp cc),aa.fo (ah.kp cc),aa.fo (ae.kp cc)⟩
def Zds (N:Nat) (aa:R0):List R9→Option Re
  | []=>some []
  | ac :: ad=>(Zgs N (aa.1,aa.2.1,aa.2.2.1,aa.2.2.2.1,aa.2.2.2.2) ac.2).bind fun ab=>(Zc2 ac.2).bind fun ae=>((Zds N aa ad)).bind fun af=>some ((ae,((ab.1.1.1,ab.1.1.2),ab.1.2)) :: af)
def Zlu (N:Nat) (aa:List Int) (ab:R0):Option Re:=
  (Zj5 N aa).bind fun ac=>Zds N ab ac
theorem Zzf (N cy cy2 cy3:Nat) (col:Zd) (w0:World) (g0:Nat) (af0:Option Addr) (capf0:Nat) (a2:List Int) (hf0:Zb rI 3 451 col w0 af0 capf0 a2) (hb0:Ze 36 450 col w0 g0 #[.slice af0 a2.length capf0]) (g1:Nat) (a3:Option Addr) (a4:Nat) (a5:Option Addr) (a6:Nat) (a7:Option Addr) (a8:Nat) (a9:Option Addr) (ba:Nat) (ah:R0) (ab:Zb Za.str 9 451 col w0 a3 a4 ah.2.1) (ac:Zb (Za.row 9 Za.str) 22 451 col w0 a5 a6 ah.2.2.1) (ad:Zb (Za.row 3 rI) 36 451 col w0 a7 a8 ah.2.2.2.1) (ae:Zb (Za.row 42 (rO 45)) 29 451 col w0 a9 ba ah.2.2.2.2) (hb1:Ze 27 450 col w0 g1 #[.string ah.1,.slice a3 ah.2.1.length a4,.slice a5 ah.2.2.1.length a6,.slice a7 ah.2.2.2.1.length a8,.slice a9 ah.2.2.2.2.length ba]) (r:List (List Int×R1)) (hm:Zlu N a2 ah=some r):
    Zfw prog 2 39 [.pointer (some ⟨g0,0,none⟩),.pointer (some ⟨g1,0,none⟩)] (fun (y:List Int×R1) (col:Zd) (w:World) (args:List Value)=>∃ a0 bj a1_0_1 c1_0_1 bk bm,args=[.slice a0 y.1.length bj,.agg #[.bool y.2.1.1,.slice a1_0_1 y.2.1.2.length c1_0_1,.slice bk y.2.2.length bm]]∧Zb rI 3 cy col w a0 bj y.1∧Zb rU 45 cy2 col w a1_0_1 c1_0_1 y.2.1.2∧Zb rU 45 cy3 col w bk bm y.2.2) r col w0:=by
 intro l J X hjs hxs hy aa;refine Zrc (mc:=1998) (m:=24) (args:=[.func (.yield l) #[] #[],.pointer (some ⟨g0,0,none⟩),.pointer (some ⟨g1,0,none⟩)]) func39 rfl rfl rfl rfl ?_;rw [Zlu.eq_1] at hm;have hmk:Ym 1998 col w0 []:=.nil;refine go ?_;refine Zdl (col:=col) (v:=(.func (.yield l) #[] #[])) 1001 rfl rfl ?_;intro bn bo bb ax af;replace hf0:=hf0.gr ax;replace ab:=ab.gr ax;replace ac:=ac.gr ax;replace ad:=ad.gr ax;replace ae:=ae.gr ax;replace hb0:=hb0.gr ax;replace hb1:=hb1.gr ax;replace hmk:=hmk.gr ax;replace aa:=hjs _ _ _ _ _ aa ax.toP;replace af:Ze 75 1001 bb bo bn #[(.func (.yield l) #[] #[])]:=af;refine go ?_;refine lW hb0.at1 ?_;obtain ⟨bv,bw,hm⟩:=bZ hm;refine Zh (Z0y 1002 bw (hf0.toSlF (Zm.int .i64))) fun _ ci ⟨bx,cj,e',aq,bi⟩=>⟨_,e',?_⟩;replace bi:=bi.thaw aq ((Fz.refl (col:=bb)).froz 451);replace aq:=aq.thawR (col:=bb);generalize Xb bo.heap.size bb bx=bz at *;replace ab:=ab.gr aq;replace ac:=ac.gr aq;replace ad:=ad.gr aq;replace ae:=ae.gr aq;replace hf0:=hf0.gr aq;replace hb0:=hb0.gr aq;replace hb1:=hb1.gr aq;replace af:=af.gr aq;replace hmk:=hmk.gr aq;replace aa:=hjs _ _ _ _ _ aa aq.toP;refine go ?_;refine Zkw (psl:=[10,11]) (arr:=(fun (y:Int×List Int) (col:Zd) (w:World) (args:List Value)=>∃ a1 bp,args=[.int .i64 y.1,.slice a1 y.2.length bp]∧Zb rI 3 1002 col w a1 bp y.2)) (ys:=bv) (col:=bz) 1999 rfl bi rfl hmk rfl rfl (by rintro _ _ _ _ ⟨_,_,rfl,_⟩;rfl) (fun ys_ ag aj=>∃ (r:List (List Int×R1)),Zds N ah ys_=some r∧J r ag aj∧Zb Za.str 9 451 ag aj a3 a4 ah.2.1∧Zb (Za.row 9 Za.str) 22 451 ag aj a5 a6 ah.2.2.1∧Zb (Za.row 3 rI) 36 451 ag aj a7 a8 ah.2.2.2.1∧Zb (Za.row 42 (rO 45)) 29 451 ag aj a9 ba ah.2.2.2.2∧Ze 27 450 ag aj g1 #[.string ah.1,.slice a3 ah.2.1.length a4,.slice a5 ah.2.2.1.length a6,.slice a7 ah.2.2.2.1.length a8,.slice a9 ah.2.2.2.2.length ba]∧Ze 75 1001 ag aj bn #[(.func (.yield l) #[] #[])]∧Zb rI 3 451 ag aj af0 capf0 a2∧Ze 36 450 ag aj g0 #[.slice af0 a2.length capf0]) (fun c_ ag aj=>(c_= .ret∧X ag aj)) ?_ ?_ ⟨r,hm,aa,ab,ac,ad,ae,hb1,af,hf0,hb0⟩ ?_ ?_ ?_
 ·intro ys_ ag aj col2_ w2_ hJ hk;obtain ⟨r,hm,aa,ab,ac,ad,ae,hb1,af,hf0,hb0⟩:=hJ;exact ⟨r,hm,(hjs _ _ _ _ _ aa (hk.mono fun _=>Zuz)),ab.kpp hk rfl rfl,ac.kpp hk rfl rfl,ad.kpp hk rfl rfl,ae.kpp hk rfl rfl,hb1.kpp hk rfl,af.kpp hk rfl,hf0.kpp hk rfl rfl,hb0.kpp hk rfl⟩
 ·intro c_ ag aj col2_ w2_ hX hk;obtain ⟨rfl,hX⟩:=hX;exact ⟨rfl,hxs _ _ _ _ hX (hk.mono fun _=>Zuz)⟩
 ·intro ck cl cn co cp ag aj args hJ hrec hmk harr;obtain ⟨r,hm,aa,ab,ac,ad,ae,hb1,af,hf0,hb0⟩:=hJ;rw [Zds.eq_2] at hm;have hki:=Z1.refl (pC 1) ag aj;obtain ⟨cq,cr,rfl,ar⟩:=harr;refine go ?_;refine ⟨_,hrec,?_⟩;intro b0 cs au bq hrec2;replace ab:=ab.kp au;replace ac:=ac.kp au;replace ad:=ad.kp au;replace ae:=ae.kp au;replace ar:=ar.kp au;replace hf0:=hf0.kp au;replace hb1:=hb1.kp au;replace af:=af.kp au;replace hb0:=hb0.kp au;replace hmk:=hmk.kp au;replace hki:=hki.kp au bq rfl;replace aa:=hjs _ _ _ _ _ aa (au.toP bq rfl);have hrec:=hrec2;refine go ?_;refine lV _ (Xh isAgg27 sizeOf27 hb1)<|Y8 rfl ?_;obtain ⟨aw,b1,hm⟩:=bZ hm;refine Zh (Zzn 1003 1004 b1 ((ab.toSlF Zm.str).froz 1002) ((ac.toSlF (Zm.row Zm.str)).froz 1002) ((ad.toSlF (Zm.row (Zm.int .i64))).froz 1002) ((ae.toSlF (Zm.row (Zm.pair (Zm.pair Zm.bool (Zm.row (Zm.int .u32))) (Zm.row (Zm.int .u32))))).froz 1002) ((ar.froz 451).toSlF (Zm.int .i64))) fun _ ct ⟨b2,bc,bd,be,bf,e',ak,al,am⟩=>⟨_,e',?_⟩;replace al:=al.thaw (Z8 .u32) ak (((Fz.refl (col:=ag)).froz 451).froz 1002);replace am:=am.thaw (Z8 .u32) ak (((Fz.refl (col:=ag)).froz 451).froz 1002);replace ak:=ak.thawR (col:=ag);generalize Xb b0.heap.size ag b2=b3 at *;replace ab:=ab.gr ak;replace ac:=ac.gr ak;replace ad:=ad.gr ak;replace ae:=ae.gr ak;replace ar:=ar.gr ak;replace hf0:=hf0.gr ak;replace hb1:=hb1.gr ak;replace af:=af.gr ak;replace hb0:=hb0.gr ak;replace hrec:=hrec.gr ak;replace hmk:=hmk.gr ak;replace hki:=hki.gr ak;replace aa:=hjs _ _ _ _ _ aa ak.toP;refine lM (.tuple #[(.agg #[.bool aw.1.1.1,.slice bc aw.1.1.2.length bd,.slice be aw.1.2.length bf]),.int .i64 aw.2])<|lV (.agg #[.bool aw.1.1.1,.slice bc aw.1.1.2.length bd,.slice be aw.1.2.length bf]) (X6 rfl rfl)<|lV (.int .i64 aw.2) (X6 rfl rfl)<|Xt (col:=b3) #[.bool false,(nI),(nI)] 1005 zeroValue42 ?_;intro cu cv ay an b4;replace ab:=ab.gr an;replace ac:=ac.gr an;replace ad:=ad.gr an;replace ae:=ae.gr an;replace ar:=ar.gr an;replace al:=al.gr an;replace am:=am.gr an;replace hf0:=hf0.gr an;replace hb1:=hb1.gr an
  replace af:=af.gr an;replace hb0:=hb0.gr an;replace hrec:=hrec.gr an;replace hmk:=hmk.gr an;replace hki:=hki.gr an;replace aa:=hjs _ _ _ _ _ aa an.toP;refine Xg b4 ?_;intro cw ao br b5;replace ab:=ab.kp ao;replace ac:=ac.kp ao;replace ad:=ad.kp ao;replace ae:=ae.kp ao;replace ar:=ar.kp ao;replace al:=al.kp ao;replace am:=am.kp ao;replace hf0:=hf0.kp ao;replace hb1:=hb1.kp ao;replace af:=af.kp ao;replace hb0:=hb0.kp ao;replace hrec:=hrec.kp ao;replace hmk:=hmk.kp ao;replace hki:=hki.kp ao br rfl;replace aa:=hjs _ _ _ _ _ aa (ao.toP br rfl);refine go ?_;refine Wc (col:=ay) [(0,0),(1,1),(3,0),(2,3),(4,2),(5,1)] (by kernel_rfl) (by kernel_rfl)<|xW (fun _ hC=>af.at1.gr (hC.bl ay)) ?_;refine xu rfl rfl (fun _=>Vi rfl) ?_;refine xv rfl rfl (fun _ hC=>Xh isAgg42 sizeOf42 (b5.gr (hC.bl ay))) ?_;refine xe rfl rfl ?_;intro b6 hC0;have hC:=hC0.bl ay;replace ab:=ab.gr hC;replace ac:=ac.gr hC;replace ad:=ad.gr hC;replace ae:=ae.gr hC;replace ar:=ar.gr hC;replace al:=al.gr hC;replace am:=am.gr hC;replace hf0:=hf0.gr hC;replace hb1:=hb1.gr hC;replace af:=af.gr hC;replace hb0:=hb0.gr hC;replace hrec:=hrec.gr hC;replace hmk:=hmk.gr hC;replace hki:=hki.gr hC;replace aa:=hjs _ _ _ _ _ aa hC.toP;obtain ⟨b7,b8,hm⟩:=bZ hm;refine Zh (Zn5 1006 b8 (ar.toSlF (Zm.int .i64))) fun _ cx ⟨b9,bs,bt,e',ai,az⟩=>⟨_,e',?_⟩;replace az:=az.thaw (Z8 .i64) ai ((Fz.refl (col:=ay)).froz 1002);replace ai:=ai.thawR (col:=ay);generalize Xb b6.heap.size ay b9=bg at *;replace ab:=ab.gr ai;replace ac:=ac.gr ai;replace ad:=ad.gr ai;replace ae:=ae.gr ai;replace al:=al.gr ai;replace am:=am.gr ai;replace hf0:=hf0.gr ai;replace hb1:=hb1.gr ai;replace af:=af.gr ai;replace hb0:=hb0.gr ai;replace hrec:=hrec.gr ai;replace hmk:=hmk.gr ai;replace hki:=hki.gr ai;replace aa:=hjs _ _ _ _ _ aa ai.toP;refine Zj<|Xp bg hC0 ai<|xe rfl rfl ?_;intro bu hC0;have hC:=hC0.bl bg;replace ab:=ab.gr hC;replace ac:=ac.gr hC;replace ad:=ad.gr hC;replace ae:=ae.gr hC;replace al:=al.gr hC;replace am:=am.gr hC;replace az:=az.gr hC;replace hf0:=hf0.gr hC;replace hb1:=hb1.gr hC;replace af:=af.gr hC;replace hb0:=hb0.gr hC;replace hrec:=hrec.gr hC;replace hmk:=hmk.gr hC;replace hki:=hki.gr hC;replace aa:=hjs _ _ _ _ _ aa hC.toP
  have av:Z1 (pS [1006,1003,1004]) bg bu (rcL [(1006,cy),(1003,cy2),(1004,cy3)] bg) bu:=Z1.rcL [(1006,cy),(1003,cy2),(1004,cy3)];replace ab:=ab.kpp av;replace ac:=ac.kpp av;replace ad:=ad.kpp av;replace ae:=ae.kpp av;replace hf0:=hf0.kpp av;replace hb1:=hb1.kpp av;replace af:=af.kpp av;replace hb0:=hb0.kpp av;replace hrec:=hrec.kpp av;replace hmk:=hmk.kpp av;replace hki:=hki.trans (av.mono (by first | exact pCo_p2 rfl | exact pCo_p1 rfl | exact Zmt rfl | exact fun _=>Zo8 | exact fun _ h=>h | exact fun _ _=>rfl));replace aa:=hjs _ _ _ _ _ aa (av.mono (by first | exact fun _ h=>h | exact pCo_p2 rfl | exact pCo_p1 rfl | exact Zmt rfl | exact fun _ _=>rfl));replace az:=az.rcL [(1006,cy),(1003,cy2),(1004,cy3)] cy;replace al:=al.rcL [(1006,cy),(1003,cy2),(1004,cy3)] cy2;replace am:=am.rcL [(1006,cy),(1003,cy2),(1004,cy3)] cy3;obtain ⟨ca,hc_70m,cb⟩:=bZ hm;cases cb;have hm:=hc_70m;refine ly2 rfl rfl rfl rfl (hy _ _ _ _ [.slice bs b7.length bt,(.agg #[.bool aw.1.1.1,.slice bc aw.1.1.2.length bd,.slice be aw.1.2.length bf])] aa ⟨bs,bt,bc,bd,be,bf,rfl,az,al,am⟩) ?_;rintro _ cz ⟨bh,ap,⟨rfl,hJ⟩ | ⟨rfl,hX⟩⟩
  ·refine ⟨_,rfl,?_⟩;replace ab:=ab.kpp ap;replace ac:=ac.kpp ap;replace ad:=ad.kpp ap;replace ae:=ae.kpp ap;replace hf0:=hf0.kpp ap;replace hb1:=hb1.kpp ap;replace af:=af.kpp ap;replace hb0:=hb0.kpp ap;replace hrec:=hrec.kpp ap;replace hmk:=hmk.kpp ap;replace hki:=hki.trans (ap.mono (by first | exact pCo_p2 rfl | exact pCo_p1 rfl | exact Zmt rfl | exact fun _=>Zo8 | exact fun _ h=>h | exact fun _ _=>rfl));have aa:=hJ;refine Zj<|xk bh<|xu rfl rfl (fun _=>Zkn _ rfl) ?_;refine Y4 ?_;intro c0 hC;replace hC:=hC.bl bh;replace ab:=ab.gr hC;replace ac:=ac.gr hC;replace ad:=ad.gr hC;replace ae:=ae.gr hC;replace hf0:=hf0.gr hC;replace hb1:=hb1.gr hC;replace af:=af.gr hC;replace hb0:=hb0.gr hC;replace hrec:=hrec.gr hC;replace hmk:=hmk.gr hC;replace hki:=hki.gr hC;replace aa:=hjs _ _ _ _ _ aa hC.toP;refine Yc rfl<|X7 ?_;exact ⟨_,hki,⟨ca,hm,aa,ab,ac,ad,ae,hb1,af,hf0,hb0⟩,hrec,hmk⟩
  refine ⟨_,rfl,?_⟩;replace hrec:=hrec.kpp ap;replace hmk:=hmk.kpp ap;replace hki:=hki.trans (ap.mono (by first | exact pCo_p2 rfl | exact pCo_p1 rfl | exact Zmt rfl | exact fun _=>Zo8 | exact fun _ h=>h | exact fun _ _=>rfl));have aa:=hX;refine Zj<|xk bh<|xu rfl rfl (fun _=>Zkn _ rfl) ?_;refine Y4 ?_;intro c1 hC;replace hC:=hC.bl bh;replace hrec:=hrec.gr hC;replace hmk:=hmk.gr hC;replace hki:=hki.gr hC;replace aa:=hxs _ _ _ _ aa hC.toP;refine Yd rfl<|Y1 ?_;exact ⟨_,hki,⟨rfl,aa⟩,hrec,hmk⟩
 ·intro cc ag aj hJ hmk;obtain ⟨r,hm,aa,ab,ac,ad,ae,hb1,af,hf0,hb0⟩:=hJ;rw [Zds.eq_1] at hm;cases hm;refine ⟨_,(cc :: []),rfl,hmk,?_⟩;intro c2 cd ce;replace aa:=hjs _ _ _ _ _ aa (cd.toP ce rfl);exact ⟨⟨_,rfl⟩,_,.inl aa⟩
 intro c_ cf ag aj hX hmk;obtain ⟨rfl,hX⟩:=hX;have aa:=hX;refine Y1 ?_;refine ⟨_,(cf :: []),rfl,hmk,?_⟩;intro c3 cg ch;replace aa:=hxs _ _ _ _ aa (cg.toP ch rfl);exact ⟨⟨_,rfl⟩,_,.inr aa⟩
def Zb4 (N:Nat) (aa:R0):Option Re:=
  (T6 N (aa.1,aa.2.1,aa.2.2.1,aa.2.2.2.1,aa.2.2.2.2) ([]:List Rc) ([]:List Int)).bind fun ac=>if (!decide (ac.2=0))=true then Zi5 else ((Zgn N (aa.1,aa.2.1,aa.2.2.1,aa.2.2.2.1,aa.2.2.2.2)).bind fun ab=>Zlu N ac.1 (ab.1,ab.2.1,ab.2.2.1,ab.2.2.2.1,ab.2.2.2.2))
theorem Zzd {N bb bc bd be:Nat} {bf bg bh bi:Option Addr} {col:Zd} {w0:World} {ab:R0} {r:Re} (cy cy2 cy3:Nat) (hm:Zb4 N ab=some r) (am:Sl Za.str col w0 bf bb ab.2.1) (an:Sl rV col w0 bg bc ab.2.2.1) (ao:Sl rP col w0 bh bd ab.2.2.2.1) (ap:Sl (Za.slice rQ) col w0 bi be ab.2.2.2.2):
    Calls prog 9 #[(.agg #[.string ab.1,.slice bf ab.2.1.length bb,.slice bg ab.2.2.1.length bc,.slice bh ab.2.2.2.1.length bd,.slice bi ab.2.2.2.2.length be])] w0 (fun e w'=>∃ (col':Zd) (rv1:Value),e= .returned (rv1)∧Zk col w0 col' w'∧It prog 2 rv1 (fun (y:List Int×R1) (col:Zd) (w:World) (args:List Value)=>∃ a0 bj a1_0_1 c1_0_1 bk bm,args=[.slice a0 y.1.length bj,.agg #[.bool y.2.1.1,.slice a1_0_1 y.2.1.2.length c1_0_1,.slice bk y.2.2.length bm]]∧Zb rI 3 cy col w a0 bj y.1∧Zb rU 45 cy2 col w a1_0_1 c1_0_1 y.2.1.2∧Zb rU 45 cy3 col w bk bm y.2.2) r q1 col' w'):=by
 refine Z7 2 (m:=16) func9 rfl rfl rfl rfl rfl ?_;rw [Zb4.eq_1] at hm;have aa:=St.start col w0;refine go ?_;refine Xf (col:=(Zg col)) 1 rfl ?_;intro b9 ca cb bo aq;refine lv (v:=_) rfl rfl (Uu rfl)<|go ?_;refine lV _ (Xh isAgg27 sizeOf27 aq) ?_;obtain ⟨ad,bp,hm⟩:=bZ hm;replace am:=am.k0;replace an:=an.k0;replace ao:=ao.k0;replace ap:=ap.k0;replace aa:=aa.grow bo;refine Zh (Zzg 2 bp (am.ks aa) (an.ks aa) (ao.ks aa) (ap.ks aa) Sl.nil Sl.nil) fun _ cc ⟨bq,ah,ai,e',bn,aj⟩=>⟨_,e',?_⟩;refine lM (.tuple #[.slice ah ad.1.length ai,.int .i64 ad.2])<|lV (.slice ah ad.1.length ai) (X6 rfl rfl)<|lV (.int .i64 ad.2) (X6 rfl rfl)<|S3 (col:=bq) (v:=(nI)) 3 rfl zeroValue36 ?_;intro ag br au av aw;replace aw:Ze 36 3 au br ag #[(nI)]:=aw;refine W5 (v:=(.slice ah ad.1.length ai)) aw sizeOf36 rfl rfl (by intro u hu;simp only [Value.cells,aM,aO,or_false] at hu;subst hu;rfl) rfl rfl ?_;intro bs ax bt ak;replace ak:Ze 36 3 au bs ag #[.slice ah ad.1.length ai]:=ak;refine go ?_;replace aa:=((aa.grow bn).grow av).kp ax bt;replace aj:=(aj.gr av).kp ax;refine Zl hm (fun hb hm=>go ?_) fun hb hm=>go ?_
 ·refine lA (.func (.func 37) #[] #[])<|go ?_;refine ⟨rfl,Vs w0.heap.size col au (fun n=>0),_,rfl,aa.fin (fun n=>0),37,[],rfl,call37,?_⟩;intro col9 w9 ac hk9;exact Zze cy cy2 cy3 col9 w9 r hm
 refine lV _ (Xh isAgg27 sizeOf27 (((aq.gr bn).gr av).kp ax)) ?_;obtain ⟨al,bu,hm⟩:=bZ hm;refine Zh (Zzh 4 5 6 7 bu (am.ks aa) (an.ks aa) (ao.ks aa) (ap.ks aa)) fun _ cd ⟨bv,bw,bx,bz,b0,b1,b2,b3,b4,e',ay,az,a1,a2,a3⟩=>⟨_,e',?_⟩;refine Xt (col:=bv) #[.string (⟨#[]⟩),.slice none (([]:List ByteArray).length) 0,.slice none (([]:List R4).length) 0,.slice none (([]:List R2).length) 0,(.slice none (([]:List R8).length) 0)] 8 zeroValue27 ?_;intro ar ce b5 ae b6;refine Xg b6 ?_;intro cf af b7 b8;refine go ?_;refine lV (.func (.func 39) #[] #[.pointer (some ⟨ag,0,none⟩),.pointer (some ⟨ar,0,none⟩)]) (Zpk rfl rfl)<|lA (.func (.func 39) #[] #[.pointer (some ⟨ag,0,none⟩),.pointer (some ⟨ar,0,none⟩)])<|go ?_;replace aa:=((aa.grow ay).grow ae).kp af b7;have a4:=aa.finBox (G:=(fun n=>bif aC n 3 then 450 else bif aC n 2 then 451 else bif aC n 8 then 450 else bif aC n 4 then 451 else bif aC n 5 then 451 else bif aC n 6 then 451 else bif aC n 7 then 451 else 0)) (((ak.gr ay).gr ae).kp af) (by decide) (by decide) (show (fun n=>bif aC n 3 then 450 else bif aC n 2 then 451 else bif aC n 8 then 450 else bif aC n 4 then 451 else bif aC n 5 then 451 else bif aC n 6 then 451 else bif aC n 7 then 451 else 0) 3=450 from rfl);have a5:=aa.finOwn (g:=(fun n=>bif aC n 3 then 450 else bif aC n 2 then 451 else bif aC n 8 then 450 else bif aC n 4 then 451 else bif aC n 5 then 451 else bif aC n 6 then 451 else bif aC n 7 then 451 else 0)) rfl (((aj.gr ay).gr ae).kp af) (by decide) (by decide) (show (fun n=>bif aC n 3 then 450 else bif aC n 2 then 451 else bif aC n 8 then 450 else bif aC n 4 then 451 else bif aC n 5 then 451 else bif aC n 6 then 451 else bif aC n 7 then 451 else 0) 2=451 from rfl);have a6:=aa.finBox (G:=(fun n=>bif aC n 3 then 450 else bif aC n 2 then 451 else bif aC n 8 then 450 else bif aC n 4 then 451 else bif aC n 5 then 451 else bif aC n 6 then 451 else bif aC n 7 then 451 else 0)) b8 (by decide) (by decide) (show (fun n=>bif aC n 3 then 450 else bif aC n 2 then 451 else bif aC n 8 then 450 else bif aC n 4 then 451 else bif aC n 5 then 451 else bif aC n 6 then 451 else bif aC n 7 then 451 else 0) 8=450 from rfl);replace az:=(az.gr ae).kp af
 have a7:=aa.finOwn (g:=(fun n=>bif aC n 3 then 450 else bif aC n 2 then 451 else bif aC n 8 then 450 else bif aC n 4 then 451 else bif aC n 5 then 451 else bif aC n 6 then 451 else bif aC n 7 then 451 else 0)) rfl az (by decide) (by decide) (show (fun n=>bif aC n 3 then 450 else bif aC n 2 then 451 else bif aC n 8 then 450 else bif aC n 4 then 451 else bif aC n 5 then 451 else bif aC n 6 then 451 else bif aC n 7 then 451 else 0) 4=451 from rfl);have a8:=aa.finOwn (g:=(fun n=>bif aC n 3 then 450 else bif aC n 2 then 451 else bif aC n 8 then 450 else bif aC n 4 then 451 else bif aC n 5 then 451 else bif aC n 6 then 451 else bif aC n 7 then 451 else 0)) rfl ((a1.gr ae).kp af) (by decide) (by decide) (show (fun n=>bif aC n 3 then 450 else bif aC n 2 then 451 else bif aC n 8 then 450 else bif aC n 4 then 451 else bif aC n 5 then 451 else bif aC n 6 then 451 else bif aC n 7 then 451 else 0) 5=451 from rfl);have a9:=aa.finOwn (g:=(fun n=>bif aC n 3 then 450 else bif aC n 2 then 451 else bif aC n 8 then 450 else bif aC n 4 then 451 else bif aC n 5 then 451 else bif aC n 6 then 451 else bif aC n 7 then 451 else 0)) rfl ((a2.gr ae).kp af) (by decide) (by decide) (show (fun n=>bif aC n 3 then 450 else bif aC n 2 then 451 else bif aC n 8 then 450 else bif aC n 4 then 451 else bif aC n 5 then 451 else bif aC n 6 then 451 else bif aC n 7 then 451 else 0) 6=451 from rfl);have ba:=aa.finOwn (g:=(fun n=>bif aC n 3 then 450 else bif aC n 2 then 451 else bif aC n 8 then 450 else bif aC n 4 then 451 else bif aC n 5 then 451 else bif aC n 6 then 451 else bif aC n 7 then 451 else 0)) rfl ((a3.gr ae).kp af) (by decide) (by decide) (show (fun n=>bif aC n 3 then 450 else bif aC n 2 then 451 else bif aC n 8 then 450 else bif aC n 4 then 451 else bif aC n 5 then 451 else bif aC n 6 then 451 else bif aC n 7 then 451 else 0) 7=451 from rfl);refine ⟨rfl,Vs w0.heap.size col b5 (fun n=>bif aC n 3 then 450 else bif aC n 2 then 451 else bif aC n 8 then 450 else bif aC n 4 then 451 else bif aC n 5 then 451 else bif aC n 6 then 451 else bif aC n 7 then 451 else 0),_,rfl,aa.fin (fun n=>bif aC n 3 then 450 else bif aC n 2 then 451 else bif aC n 8 then 450 else bif aC n 4 then 451 else bif aC n 5 then 451 else bif aC n 6 then 451 else bif aC n 7 then 451 else 0),39,[.pointer (some ⟨ag,0,none⟩),.pointer (some ⟨ar,0,none⟩)],rfl,call39,?_⟩;intro col9 w9 ac hk9;replace a5:=a5.itk ac hk9 rfl (Z8 .i64)
 exact Zzf N cy cy2 cy3 col9 w9 ag ah ai ad.1 a5 (a4.itk ac hk9 rfl) ar bw bx bz b0 b1 b2 b3 b4 (al.1,al.2.1,al.2.2.1,al.2.2.2.1,al.2.2.2.2) (a7.itk ac hk9 rfl Zsk) (a8.itk ac hk9 rfl (Ziy Zsk)) (a9.itk ac hk9 rfl (Ziy (Z8 .i64))) (ba.itk ac hk9 rfl (Ziy (Zsj (Zsj Z2k (Ziy (Z8 .u32))) (Ziy (Z8 .u32))))) (a6.itk ac hk9 rfl) r hm
/-! a network whose lists are its Zki -/
def Wm (x:QV):QV:=Xc (Xj x)
def Vk (n:Z6):Z6:=(n.1,n.2.1,n.2.2.1,n.2.2.2.1,n.2.2.2.2.map (eG Wm))
theorem Zod (x:QV):Xj (Wm x)=Xj x:=Qk _
theorem Zoc (T:List (List QV)) (v:Nat):(T.map (eG Wm)).getD v []=(T.getD v []).map Wm:=by
 rw [aE,aE,bM]
 cases T[v]? with
 | none=>rfl
 | some t=>rfl
theorem Z1r (l:List QV):Wy (l.map Wm)=Wy l:=by
 rw [Wy,Wy,fG]
 congr 1
 exact eF fun x _=>Zod x
theorem Zrr (c:Nat):∀ (m:Nat) (l:List QV),V7 c m (l.map Wm)=V7 c m l
 | 0,l=>rfl
 | m+1,l=>by rw [V7,V7,← gM,← gN,Z1r,Zrr c m]
theorem Zru (vals:List R4) (P:List R2) (T:List (List QV)):∀ m v,V9 vals P (T.map (eG Wm)) m v=V9 vals P T m v
 | 0,v=>rfl
 | m+1,v=>by rw [V9,V9,Zoc,aH,Zru vals P T m]
theorem Zrv (vals:List R4) (P:List R2) (T:List (List QV)):∀ m v,Zah vals P (T.map (eG Wm)) m v=Zah vals P T m v
 | 0,v=>rfl
 | m+1,v=>by rw [Zah,Zah,Zoc,Zrr,Zrv vals P T m]
theorem Z1o (T:List (List QV)):Qt (T.map (eG Wm))=Qt T:=by
 rw [Qt,Qt,jJ]
 congr 1
 funext t
 show (t.map Wm).any Wx=t.any Wx
 rw [jJ]
 congr 1
 funext x
 show Wx (Wm x)=Wx x
 rw [Wx,Wx,Zod]
theorem Z1q {N:Nat} {n:Z6} (hf:Yv N n):Yv N (Vk n) where
 ev:=⟨hf.ev.v,hf.ev.p,by show (n.2.2.2.2.map (eG Wm)).length=_;rw [aH];exact hf.ev.t,hf.ev.i,hf.ev.ne⟩
 le:=hf.le
 nm:=hf.nm
 sh:=(Zru _ _ _ _ _).trans hf.sh
 en:=(Z1o _).trans hf.en
 su:=(Zrv _ _ _ _ _).trans hf.su
 tw:=hf.tw
 or:=hf.or
theorem Z1s {n:Z6} {W:Nat} (hs:Wr n W) (hq:∀ t ∈ n.2.2.2.2,Xz (t.map Wm)≤W):Wr (Vk n) W:=by
 refine ⟨hs.nm,hs.vl,hs.pn,fun t a=>?_,fun t a=>?_,fun t a x c=>?_⟩
 ·obtain ⟨u,b,rfl⟩:=cE.1 a
  rw [aH];exact hs.tl u b
 ·obtain ⟨u,b,rfl⟩:=cE.1 a
  exact hq u b
 ·obtain ⟨u,b,rfl⟩:=cE.1 a
  obtain ⟨y,d,rfl⟩:=cE.1 c
  exact ⟨Z2 _,Z2 _⟩
theorem Z1p (n:Z6) (w:List Int) (v:Nat):Vt (Vk n) w v=Vt n w v:=by
 have hr:∀ (a:List Int) (r:Nat),Sq (Vk n) w a r=Sq n w a r:=fun a=>by
  induction a with
  | nil=>intro r;rfl
  | cons p a b=>intro r;rw [Sq,Sq,b];rfl
 have c:Vj (Vk n) w v=Vj n w v:=hr _ _
 have d:Vu (Vk n) w v=(Vu n w v).map Wm:=by
  rw [Vu,Vu,c,gM,gN]
  show List.take (cnt n v) (List.drop (Vj n w v * cnt n v) ((n.2.2.2.2.map (eG Wm)).getD v []))=_
  rw [Zoc]
 rw [Vt,Vt,d]
 generalize (w.getD v 0).toNat=j
 rw [aE,aE,bM]
 cases (Vu n w v)[j]? with
 | none=>rfl
 | some x=>exact Zod x
theorem Zrs (n:Z6) (w:List Int):∀ m k q,Ui (Vk n) w m k q=Ui n w m k q
 | 0,k,q=>rfl
 | m+1,k,q=>by rw [Ui,Ui,Z1p,Zrs n w m]
section
variable {N W K:Nat} {n:Z6} (hf:Yv N n) (hs:Wr n W) (hr:Xa N (8 * K+40)) (hWK:1025 * (W+2)+4≤K) (hN:2000000<N)
include hf hs hr hWK hN
omit hf hs hN in
theorem Zrp (v:Int) (m1:ByteArray) (m2:List ByteArray) (m3:List R4) (m4:List R2) (m5:List (List QV)) (h5:m5.length≤1048576) (kk:Int→ByteArray→List ByteArray→List R4→List R2→List (List QV)→Option Z6) (r1:List ByteArray) (r2:List Int):∀ (l out:List QV),(∀ x ∈ l,W3 x∧max x.1.2.length x.2.length≤W)→out.length+l.length≤1048576→
  Zb6 N v m1 m2 m3 m4 m5 kk r1 r2 l out=kk (i64.wrap (v+1)) m1 m2 (m3++[r1]) (m4++[r2]) (m5++[out++l.map Wm])
 | [],out,_,a=>by
  rw [Zb6.eq_1,Zz (by simp only [aN,maxLen];omega),dR,cU]
 | x :: l,out,b,a=>by
  obtain ⟨c,f⟩:=b x aT
  have g:RV 0 ((false,([]:List Int)),([]:List Int)):=⟨by simp [Zn],by simp [Zn],by simp,by simp⟩
  have d:Xj ((false,([]:List Int)),([]:List Int))=0:=by rw [Xj];simp [Zu,Zc]
  have i:Zdq N ((x.1.1,x.1.2),x.2) ((false,([]:List Int)),([]:List Int))=some (Wm x):=by
   have:=Zr7 ((Zdc c.1 c.2).mono f) g (hr.mono (by omega))
   rwa [d,Rat.add_zero] at this
  rw [nC] at a
  rw [Zb6.eq_2,i,oB,Zz (by simp only [aN,maxLen];omega)]
  have e:=Zrp v m1 m2 m3 m4 m5 h5 kk r1 r2 l (out++[Wm x]) (fun y j=>b y (aP _ j)) (by rw [nA,aN];omega)
  rw [bK] at e
  exact e
omit hN in
theorem Zro:∀ (f v:Nat),v≤n.2.1.length→n.2.1.length<f+v→Zaq N n f (v:Int) n.1 n.2.1 (n.2.2.1.take v) (n.2.2.2.1.take v) ((n.2.2.2.2.take v).map (eG Wm))=some (Vk n)
 | 0,v,g,i=>by omega
 | f+1,v,g,i=>by
  have q:=hf.ev.v;have r:=hf.ev.p;have s:=hf.ev.t;have o:=hf.le
  rw [Zaq.eq_2]
  by_cases hk:v<n.2.1.length
  ·have b:v<n.2.2.1.length:=by omega
   have c:v<n.2.2.2.1.length:=by omega
   have a:v<n.2.2.2.2.length:=by omega
   have j:Zfl n.2.2.1[v]=some n.2.2.1[v]:=by
    have:=hs.vl _ (aD b)
    rw [Zfl,Zz (by simp only [nN,maxLen];omega),bO]
   have k:Zc2 n.2.2.2.1[v]=some n.2.2.2.1[v]:=Zoa (by have:=hs.pn.ls _ (aD c);omega)
   have d:=fun x l=>Zlo hf hs hk x (by rw [Yb a];exact l)
   have m:=Zrp hr hWK (v:Int) n.1 n.2.1 (n.2.2.1.take v) (n.2.2.2.1.take v) ((n.2.2.2.2.take v).map (eG Wm)) (by rw [aH,nK];omega) (Zaq N n f) n.2.2.1[v] n.2.2.2.1[v] n.2.2.2.2[v] [] d (by have:=hs.tl _ (aD a);simpa using this)
   have e:=Zro f (v+1) (by omega) (by omega)
   rw [cL b,cL c,cL a,dK,List.map_singleton] at e
   rw [if_pos (dT (by omega)),Zs b,oB,j,oB,Zz (by simp only [nK,aN,maxLen];omega),Zs c,oB,k,oB,Zz (by simp only [nK,aN,maxLen];omega),Zs a,oB,m,wS (by omega),bO]
   exact e
  ·rw [if_neg (dF (by omega)),bJ (by omega),bJ (by omega),bJ (by omega)];rfl
theorem Z1m:Zgn N n=some (Vk n):=by
 have a:=hf.le
 have h:=Zro hf hs hr hWK N 0 (bD _) (by omega)
 rw [eH,eH,eH,dR] at h
 rw [Zgn,Zfl,Zz (by simp only [nN,maxLen];omega),oB,bO]
 exact h
/-! how many -/
def Zq (n:Z6):List Nat:=n.2.2.1.map fX
omit hs hr hWK hN in
theorem Qn:∀ s ∈ Zq n,0<s:=fun s h=>by
 obtain ⟨l,a,rfl⟩:=cE.1 h
 exact bV.2 (hf.ev.ne l a)
omit hr hWK hf hN hs in
theorem Zon:∀ (l:List R4) (out:List Int),out.length+l.length≤1048576→Zb9 l out=some (out++X1 (l.map fX))
 | [],out,_=>by rw [Zb9.eq_1,dR,X1,dR,cU]
 | x :: l,out,h=>by
  rw [nC] at h
  rw [Zb9.eq_2,Zz (by simp only [aN,maxLen];omega),Zon l _ (by rw [nA,aN];omega),bK];rfl
theorem Z20 (hb:Z4 (Zq n)≤65536):T6 N n [] []=some (X1 (Zq n),0):=by
 have b:=hf.ev.v;have f:=hf.le
 have c:Tf N (n.1,n.2.1,n.2.2.1,n.2.2.2.1,n.2.2.2.2)=some 0:=Zn7 hf hs (hr.mono (by omega)) hN
 have d:Zd0 (n.1,n.2.1,n.2.2.1,n.2.2.2.1,n.2.2.2.2)=some (X1 (Zq n)):=by
  have:=Zon n.2.2.1 [] (by simp only [nN];omega)
  rw [bO] at this
  rw [Zd0];exact this
 have a:(X1 (Zq n)).length=n.2.1.length:=by rw [X1,Zq,aH,aH,b]
 have e:=Zxi (Qn hf) hb
 rw [T6,c,oB,if_neg (by decide),d,oB,Te.eq_1,T7.eq_1,Zz (by rw [a];simp only [maxLen];omega),Zap.eq_1,S7.eq_1,e,oB]
 dsimp only
 rw [if_neg (show ¬ (!decide ((0:Int)=0))=true by decide),decide_eq_false (by omega),Zb5,if_neg (by decide)]
omit hs hr hWK hN in
theorem Zll {w:List Int} (h:Su (Zq n) w):Tb n w:=by
 have f:∀ (L:List R4) (w:List Int),Su (L.map fX) w→w.length=L.length∧∀ i,i<w.length→0≤w.getD i 0∧w.getD i 0<((L.getD i []).length:Int):=by
  intro L
  induction L with
  | nil=>
   intro w a
   cases w with
   | nil=>exact ⟨rfl,fun i b=>by simp at b⟩
   | cons d w=>exact a.elim
  | cons l L g=>
   intro w a
   cases w with
   | nil=>exact a.elim
   | cons d w=>
    obtain ⟨c,e⟩:=g w a.2
    refine ⟨by rw [nC,nC,c],fun i b=>?_⟩
    cases i with
    | zero=>exact a.1
    | succ i=>exact e i (by simpa using b)
 obtain ⟨c,e⟩:=f n.2.2.1 w h
 exact ⟨by rw [c,hf.ev.v],e⟩
def Zfz (n:Z6):Nat→Nat→List (List Int×QV)
 | _,0=>[]
 | k,m+1=>(Ye (Zq n) k,Xc (Ui n (Ye (Zq n) k) n.2.1.length 0 1)) :: Zfz n (k+1) m
theorem Zqd (hq:∀ t ∈ n.2.2.2.2,Xz (t.map Wm)≤W) (hb:Z4 (Zq n)≤65536):∀ (m k:Nat),k+m=Z4 (Zq n)→Zds N (Vk n) (Zf7 (Zq n) k m)=some (Zfz n k m)
 | 0,k,_=>rfl
 | m+1,k,h=>by
  have c:=Z1q hf
  have d:=Z1s hs hq
  have i:=Zn7 c d (hr.mono (by omega)) hN
  have D:=hf.le
  have f:=Zll hf (Zlk (Zq n) k (Qn hf) (by omega))
  obtain ⟨p,e,w,y⟩:=Z1e c d hr hWK hN i (Ye (Zq n) k)
  have o:(decide ((Ye (Zq n) k).length=(Vk n).2.1.length)&&Tw (Vk n) (Ye (Zq n) k) 0)=true:=by
   have:∀ (l:List Int) (j:Nat),(Ye (Zq n) k).drop j=l→Tw (Vk n) l j=true:=by
    intro l
    induction l with
    | nil=>intro j _;rfl
    | cons x l q=>
     intro j b
     have a:j<(Ye (Zq n) k).length:=by
      rcases cI j (Ye (Zq n) k).length with h | h
      ·exact h
      ·rw [aF h] at b;cases b
     rw [aL a] at b
     obtain ⟨A,B⟩:=List.cons.inj b
     have r:=f.ok j a
     rw [Yb a,A] at r
     have s:cnt (Vk n) j=cnt n j:=rfl
     rw [Tw,q (j+1) B,s,decide_eq_false (by omega),decide_eq_false (by omega)];rfl
   rw [this (Ye (Zq n) k) 0 (by rw [aX]),Bool.and_true]
   exact decide_eq_true f.len
  rcases y with ⟨_,u⟩ | ⟨_,_,C⟩
  ·rw [o] at u;cases u
  ·have v:Zgs N ((Vk n).1,(Vk n).2.1,(Vk n).2.2.1,(Vk n).2.2.2.1,(Vk n).2.2.2.2) (Ye (Zq n) k)=some (p,e):=w
   have g:(Ye (Zq n) k).length≤1099511627776:=by rw [f.len];omega
   rw [Zf7,Zds.eq_2]
   dsimp only
   rw [v,oB,Zoa g,oB,Zqd hq hb m (k+1) (by omega),oB,C,Zrs]
   rfl
theorem Z2y (hq:∀ t ∈ n.2.2.2.2,Xz (t.map Wm)≤W) (hb:Z4 (Zq n)≤65536):Zb4 N n=some (Zfz n 0 (Z4 (Zq n))):=by
 have c:=hf.le;have d:=hf.ev.v
 have a:T6 N (n.1,n.2.1,n.2.2.1,n.2.2.2.1,n.2.2.2.2) [] []=some (X1 (Zq n),0):=Z20 hf hs hr hWK hN hb
 have b:Zgn N (n.1,n.2.1,n.2.2.1,n.2.2.2.1,n.2.2.2.2)=some (Vk n):=Z1m hf hs hr hWK hN
 have ra:=Z4z (N:=N) (Qn hf) (by rw [Zq,aH];omega) (by omega) hb
 rw [Zb4,a,oB]
 dsimp only
 rw [if_neg (show ¬ (!decide ((0:Int)=0))=true by decide),b,oB,Zlu,ra,oB]
 exact Zqd hf hs hr hWK hN hq hb (Z4 (Zq n)) 0 (by omega)
end
def Zez (N:Nat) (ab:R0) (ac:List Int) (ag:Bool) (ah ai:List Int) (aa:Int) (kk_L1:(Bool→R2→R2→Int→Option R1)):Nat→Int→Int→Option R1
  | 0,_,_=>none
  | am+1,aj,ad=>(Zi ab.2.2.2.1 aa).bind fun ak=>if (decide (ad<(ak.length:Int)))=true then ((Zi ak ad).bind fun al=>(Zi ab.2.2.1 al).bind fun an=>(Zi ac al).bind fun ao=>(Zez N ab ac ag ah ai aa kk_L1 am) (i64.wrap ((i64.wrap (aj * (an.length:Int)))+ao)) (i64.wrap (ad+1))) else ((Zi ab.2.2.2.2 aa).bind fun ap=>(Zi ab.2.2.1 aa).bind fun aq=>(Zi ac aa).bind fun ar=>(Zi ap (i64.wrap ((i64.wrap (aj * (aq.length:Int)))+ar))).bind fun ae=>(Zeo N ((ag,ah),ai) ((ae.1.1,ae.1.2),ae.2)).bind fun af=>kk_L1 af.1.1 af.1.2 af.2 (i64.wrap (aa+1)))
def Zbg (N:Nat) (aa:R0) (ab:List Int):Nat→Bool→R2→R2→Int→Option R1
  | 0,_,_,_,_=>none
  | ag+1,ac,ad,ae,af=>if (decide (af<(aa.2.1.length:Int)))=true then (Zez N aa ab ac ad ae af (Zbg N aa ab ag) N 0 0) else (some ((ac,ad),ae))
def Zh1 (N:Nat) (ab:R0) (ac:List Int):Option R1:=
  (Za7 N 1 1).bind fun aa=>Zbg N ab ac N aa.1.1 aa.1.2 aa.2 0
theorem Z0p {N a8 a9 ba bb b1:Nat} {bc bd be bf a1:Option Addr} {col:Zd} {w0:World} {ad:R0} {au:R2} {r:R1} (c1 c2:Nat) (hm:Zh1 N ad au=some r) (c8:Sl Za.str col w0 bc a8 ad.2.1) (av:Sl rV col w0 bd a9 ad.2.2.1) (aw:Sl rP col w0 be ba ad.2.2.2.1) (bg:Sl (Za.slice rQ) col w0 bf bb ad.2.2.2.2) (h1:Sl rI col w0 a1 b1 au):
    Calls prog 33 #[(.agg #[.string ad.1,.slice bc ad.2.1.length a8,.slice bd ad.2.2.1.length a9,.slice be ad.2.2.2.1.length ba,.slice bf ad.2.2.2.2.length bb]),.slice a1 au.length b1] w0 (Sm 45 c1 c2 col w0 r):=by
 refine Yw (m:=72) func33 rfl rfl rfl ?_;rw [Zh1.eq_1] at hm;have aa:=St.start col w0;refine go ?_;refine Xf (col:=(Zg col)) 1 rfl ?_;intro b2 c9 b8 b9 ab;refine Xt (col:=b8) #[.bool false,(nI),(nI)] 2 zeroValue42 ?_;intro b3 da ca b4 ae;refine go ?_;obtain ⟨db,cb,hm⟩:=bZ hm;refine Zh (Zn1 (col:=ca) 3 4 cb) fun _ dc ⟨cc,dd,de,df,dg,e',bo,bp,bq⟩=>⟨_,e',?_⟩;refine Xt (col:=cc) #[.bool false,(nI),(nI)] 5 zeroValue42 ?_;intro b5 dh di az cd;refine Xg cd ?_;intro dj a0 ce af;refine go ?_;replace aa:=((((aa.grow b9).grow b4).grow bo).grow az).kp a0 ce;replace ab:=(((ab.gr b4).gr bo).gr az).kp a0;replace ae:=((ae.gr bo).gr az).kp a0;refine Zt [1,2,4,5,1000000] (fun n f al=>∃ am a2 a3 a4 an a5 a6 ao bh ap,ap=n∧Zbg N ad au ap a2 an ao bh=some r∧St w0 (Zg col) am al∧Ze 27 1 am al b2 #[.string ad.1,.slice bc ad.2.1.length a8,.slice bd ad.2.2.1.length a9,.slice be ad.2.2.2.1.length ba,.slice bf ad.2.2.2.2.length bb]∧Ze 42 2 am al b3 #[.bool false,(nI),(nI)]∧Zb rU 45 3 am al a3 a4 an∧Zb rU 45 4 am al a5 a6 ao∧Ze 42 5 am al b5 #[.bool a2,.slice a3 an.length a4,.slice a5 ao.length a6]∧[6].map f=[.int .i64 bh]) N ⟨_,_,_,_,_,_,_,_,0,_,rfl,hm,aa,ab,ae,(bp.gr az).kp a0,(bq.gr az).kp a0,af,rfl⟩ ?_;clear hm;intro n f al hI;obtain ⟨am,a2,a3,a4,an,a5,a6,ao,bh,ap,hn,hm,aa,ab,ae,ag,ah,af,hs⟩:=hI;subst hn;refine .lL [6] hs ?_;replace av:=av.k0;replace aw:=aw.k0;replace bg:=bg.k0;replace h1:=h1.k0
 cases ap with
 | zero=>rw [Zbg.eq_1] at hm;cases hm
 | succ ap=>
  rw [Zbg.eq_2] at hm;refine go ?_;refine Zy ab ?_;refine go ?_;refine Zl hm (fun hb hm=>go ?_) fun hb hm=>go ?_
  ·refine Zt [1,2,4,5,6,1000000] (fun n f aq=>∃ ac br bs ax,ax=n∧Zez N ad au a2 an ao bh (Zbg N ad au ap) ax br bs=some r∧St w0 (Zg col) ac aq∧Ze 27 1 ac aq b2 #[.string ad.1,.slice bc ad.2.1.length a8,.slice bd ad.2.2.1.length a9,.slice be ad.2.2.2.1.length ba,.slice bf ad.2.2.2.2.length bb]∧Ze 42 2 ac aq b3 #[.bool false,(nI),(nI)]∧Zb rU 45 3 ac aq a3 a4 an∧Zb rU 45 4 ac aq a5 a6 ao∧Ze 42 5 ac aq b5 #[.bool a2,.slice a3 an.length a4,.slice a5 ao.length a6]∧[7,8].map f=[.int .i64 br,.int .i64 bs]) N ⟨_,0,0,_,rfl,hm,aa,ab,ae,ag,ah,af,rfl⟩ ?_;clear hm;intro n f aq hI;obtain ⟨ac,br,bs,ax,hn,hm,aa,ab,ae,ag,ah,af,hs⟩:=hI;subst hn;refine .lL [7,8] hs ?_
   cases ax with
   | zero=>rw [Zez.eq_1] at hm;cases hm
   | succ ax=>
    rw [Zez.eq_2] at hm;refine go ?_;refine Zy ab<|Xe rfl ?_;obtain ⟨dk,ay,hm⟩:=bZ hm;refine lI ay ((aw.ks aa).addr ay) ?_;obtain ⟨_,cf,cg⟩:=(aw.ks aa).atN ay;obtain ⟨⟨dl,dm,rfl,dn⟩,_⟩:=cf;refine lW cg.one<|go ?_;refine Zl hm (fun hb hm=>go ?_) fun hb hm=>go ?_
    ·refine Zy ab<|Xe rfl<|lI ay ((aw.ks aa).addr ay) ?_;obtain ⟨_,ch,ci⟩:=(aw.ks aa).atN ay;obtain ⟨⟨dp,dq,rfl,b6⟩,_⟩:=ch;refine lW ci.one<|Xe rfl ?_;obtain ⟨dr,bt,hm⟩:=bZ hm;refine lI bt (b6.addr bt)<|lW (b6.atInt bt) ?_;refine go ?_;refine Y0 (col:=ac) (by kernel_rfl) (by kernel_rfl)<|go ?_;refine qF ⟨_,_,rfl⟩ ?_;refine qW (fun _ hC=>((ab.atN).nth (q:=2) rfl).gr (hC.bl ac)) ?_;refine go ?_;obtain ⟨ds,bu,hm⟩:=bZ hm;refine qI bu ((av.ks aa).addr bu) ?_;obtain ⟨_,cj,ck⟩:=(av.ks aa).atN bu;obtain ⟨⟨dt,du,rfl,dv⟩,_⟩:=cj;refine qW (fun _ hC=>ck.one.gr (hC.bl ac)) ?_;refine go ?_;obtain ⟨dw,bv,hm⟩:=bZ hm;refine qI bv ((h1.ks aa).addr bv)<|qW (fun _ hC=>((h1.ks aa).gr (hC.bl ac)).atInt bv) ?_;refine go ?_;refine Xw ?_;intro dx hC;replace hC:=hC.bl ac;refine go ?_;replace ag:=ag.gr hC;replace ah:=ah.gr hC;replace ab:=ab.gr hC;replace ae:=ae.gr hC;replace af:=af.gr hC;replace aa:=aa.grow hC;exact ⟨ax,by omega,rfl,⟨_,_,_,_,rfl,hm,aa,ab,ae,ag,ah,af,rfl⟩⟩
    refine Wc (col:=ac) [(0,0),(1,1),(2,0),(3,1),(4,1),(5,0),(6,1),(7,1),(8,0),(9,1),(10,1),(11,0),(12,1),(13,1),(14,1),(15,1),(16,1),(17,0),(18,1),(19,1),(20,0),(21,3),(22,2)] (by kernel_rfl) (by kernel_rfl)<|xv rfl rfl (fun _ hC=>Xh isAgg42 sizeOf42 (af.gr (hC.bl ac))) ?_;refine xF ⟨_,_,rfl⟩ ?_;refine xW (fun _ hC=>((ab.atN).nth (q:=4) rfl).gr (hC.bl ac)) ?_;refine xu rfl rfl (fun _=>Wb rfl) ?_;obtain ⟨dy,bi,hm⟩:=bZ hm;refine xu rfl rfl (fun _=>Wa underlying25 sizeOf29 rfl rfl (Xm bi).1 (Xm bi).2.1 ((bg.ks aa).addr bi)) ?_;obtain ⟨_,cl,cn⟩:=(bg.ks aa).atN bi;obtain ⟨⟨dz,d0,rfl,b7⟩,_⟩:=cl;refine xW (fun _ hC=>cn.one.gr (hC.bl ac)) ?_;refine xu rfl rfl (fun _=>Wb rfl) ?_;refine xF ⟨_,_,rfl⟩ ?_;refine xW (fun _ hC=>((ab.atN).nth (q:=2) rfl).gr (hC.bl ac)) ?_;refine xu rfl rfl (fun _=>Wb rfl) ?_;obtain ⟨d1,bj,hm⟩:=bZ hm;refine xu rfl rfl (fun _=>Wa underlying23 sizeOf22 rfl rfl (Xm bj).1 (Xm bj).2.1 ((av.ks aa).addr bj)) ?_;obtain ⟨_,co,cp⟩:=(av.ks aa).atN bj;obtain ⟨⟨d2,d3,rfl,d4⟩,_⟩:=co;refine xW (fun _ hC=>cp.one.gr (hC.bl ac)) ?_;refine xu rfl rfl (fun _=>Uv underlying22 rfl) ?_;refine xu rfl rfl (fun _=>Zig _ _ rfl rfl) ?_;refine xu rfl rfl (fun _=>Vi rfl) ?_;refine xu rfl rfl (fun _=>Wb rfl) ?_;obtain ⟨d5,bk,hm⟩:=bZ hm;refine xu rfl rfl (fun _=>Wa underlying36 sizeOf3 rfl rfl (Xm bk).1 (Xm bk).2.1 ((h1.ks aa).addr bk)) ?_;refine xW (fun _ hC=>((h1.ks aa).gr (hC.bl ac)).atInt bk) ?_;refine xu rfl rfl (fun _=>Ql _ _ rfl rfl) ?_;obtain ⟨bw,bm,hm⟩:=bZ hm;refine xu rfl rfl (fun _=>Wa underlying29 sizeOf42 rfl rfl (Xm bm).1 (Xm bm).2.1 (b7.addr bm)) ?_;obtain ⟨_,cq,cr⟩:=b7.atN bm;obtain ⟨_,_,rfl,cs,ct⟩:=Yr cq;obtain ⟨_,_,rfl,cu,cv⟩:=Yr cs;obtain ⟨rfl,_⟩:=cu;obtain ⟨⟨cw,cx,rfl,bx⟩,_⟩:=cv;obtain ⟨⟨cy,cz,rfl,bz⟩,_⟩:=ct;refine xv (v:=(.agg #[.bool bw.1.1,.slice cw bw.1.2.length cx,.slice cy bw.2.length cz])) rfl rfl (fun _ hC=>Yq isAgg42 sizeOf42 rfl rfl (cr.gr (hC.bl ac))) ?_;refine xe rfl rfl ?_;intro c0 hC0;have hC:=hC0.bl ac;obtain ⟨d6,c3,hm⟩:=bZ hm;replace ag:=ag.gr hC;replace ah:=ah.gr hC;replace bz:=bz.gr hC
    refine Zh (Zz8 6 7 c3 ((ag.toSlF (Zm.int .u32)).froz 4) ((ah.froz 3).toSlF (Zm.int .u32)) (((bx.gr hC).froz 3).froz 4) ((bz.froz 3).froz 4)) fun _ d7 ⟨c4,d8,d9,ea,eb,e',ak,ai,aj⟩=>⟨_,e',?_⟩;replace ai:=ai.thaw (Z8 .u32) ak (((Fz.refl (col:=ac)).froz 3).froz 4);replace aj:=aj.thaw (Z8 .u32) ak (((Fz.refl (col:=ac)).froz 3).froz 4);replace ak:=ak.thawR (col:=ac);generalize Xb c0.heap.size ac c4=bn at *;refine Zj<|Xp bn hC0 ak<|xe rfl rfl ?_;intro ec hC0;replace ab:=(ab.gr hC).gr ak;replace ae:=(ae.gr hC).gr ak;replace af:=(af.gr hC).gr ak;replace aa:=(aa.grow hC).grow ak;have hC:=hC0.bl bn;replace af:=af.gr hC;refine Xg af ?_;intro ed a7 c5 ar;refine Zj<|xk bn<|Y4 ?_;replace ai:=(ai.gr hC).kp a7;replace aj:=(aj.gr hC).kp a7;replace ab:=(ab.gr hC).kp a7;replace ae:=(ae.gr hC).kp a7;replace aa:=(aa.grow hC).kp a7 c5;intro ee hC;replace hC:=hC.bl bn;refine go ?_;replace ai:=ai.gr hC;replace ai:=ai.recolSelf 3 (by decide);replace aj:=aj.gr hC;replace aj:=aj.recol 6 3;replace ab:=ab.gr hC;replace ab:=ab.recol 6 3;replace ae:=ae.gr hC;replace ae:=ae.recol 6 3;replace ar:=ar.gr hC;replace ar:=ar.recol 6 3;replace aa:=aa.grow hC;replace aa:=aa.recol 6 3 (by decide) (by decide);replace aj:=aj.recolSelf 4 (by decide);replace ae:=ae.recol 7 4;replace aa:=aa.recol 7 4 (by decide) (by decide);exact ⟨ap,by omega,rfl,⟨_,_,_,_,_,_,_,_,_,_,rfl,hm,aa,ab.recol 7 4,ae,ai.recol 7 4,aj,ar.recol 7 4,rfl⟩⟩
  refine lV _ (Xh isAgg42 sizeOf42 af)<|Xg ae ?_;intro ef b0 c6 c7;refine go ?_;cases hm;replace aa:=aa.kp b0 c6;exact ⟨rfl,_,ra c7.atN,_,_,_,_,_,rfl,aa.fin (cm [(3,c1),(4,c2)]),aa.fo (ag.kp b0),aa.fo (ah.kp b0)⟩
def Zcu (N:Nat) (ac:R0):Nat→R2→Int→Option Rg
  | 0,_,_=>none
  | ae+1,ad,aa=>if (decide (0≤aa))=true then ((Zi ad aa).bind fun af=>(some (ad.set (aA aa) (i64.wrap (af+1)))).bind fun ab=>(Zi ab aa).bind fun ag=>(Zi ac.2.2.1 aa).bind fun ah=>if (decide (ag<(ah.length:Int)))=true then (some (ab,true)) else ((some (ab.set (aA aa) 0)).bind fun ai=>(Zcu N ac ae) ai (i64.wrap (aa - 1)))) else (some (([]:List Int),false))
def Zh7 (N:Nat) (ab:R0) (aa:List Int):Option Rg:=
  Zv ((([]:List Int).length+aa.length) * 8≤140737488355328∧([]:List Int).length+aa.length≤maxLen) (Zcu N ab N (([]:List Int)++aa) (i64.wrap (((([]:List Int)++aa).length:Int) - 1)))
theorem Z0u {N an ao ap aq a4:Nat} {ar au av aw a1:Option Addr} {col:Zd} {w0:World} {aa:R0} {ax:R2} {r:Rg} (c1:Nat) (hm:Zh7 N aa ax=some r) (bk:Sl Za.str col w0 ar an aa.2.1) (ay:Sl rV col w0 au ao aa.2.2.1) (bm:Sl rP col w0 av ap aa.2.2.2.1) (bn:Sl (Za.slice rQ) col w0 aw aq aa.2.2.2.2) (h1:Sl rI col w0 a1 a4 ax):
    Calls prog 34 #[(.agg #[.string aa.1,.slice ar aa.2.1.length an,.slice au aa.2.2.1.length ao,.slice av aa.2.2.2.1.length ap,.slice aw aa.2.2.2.2.length aq]),.slice a1 ax.length a4] w0 (fun e w'=>∃ col' ra1 rc2,e= .returned (.tuple #[.slice ra1 r.1.length rc2,.bool r.2])∧Zk col w0 col' w'∧Zb rI 3 c1 col' w' ra1 rc2 r.1):=by
 refine Zdk 4 5 (m:=41) (args:=[(.agg #[.string aa.1,.slice ar aa.2.1.length an,.slice au aa.2.2.1.length ao,.slice av aa.2.2.2.1.length ap,.slice aw aa.2.2.2.2.length aq]),.slice a1 ax.length a4]) func34 rfl rfl rfl rfl rfl ?_;rw [Zh7.eq_1] at hm;have ab:=St.start col w0;refine go ?_;refine Xf (col:=(Zg col)) 1 rfl ?_;intro bc bo bp bd ac;refine go ?_;obtain ⟨be,hm⟩:=Zx hm;replace ab:=ab.grow bd;refine Y9 (c:=2) Zb.nil (h1.k0.ks ab).srcC be ?_;intro bq br bs bt a7 bf;refine go ?_;replace ac:=ac.kpp a7;replace ab:=ab.kpp a7;refine Zt [2,1000000] (fun n f az=>∃ ad af ag ah al ai,ai=n∧Zcu N aa ai ah al=some r∧St w0 (Zg col) ad az∧Ze 27 1 ad az bc #[.string aa.1,.slice ar aa.2.1.length an,.slice au aa.2.2.1.length ao,.slice av aa.2.2.2.1.length ap,.slice aw aa.2.2.2.2.length aq]∧Zb rI 3 2 ad az af ag ah∧[6,7].map f=[.slice af ah.length ag,.int .i64 al]) N ⟨_,_,_,_,_,_,rfl,hm,ab,ac,bf,rfl⟩ ?_;clear hm;intro n f az hI;obtain ⟨ad,af,ag,ah,al,ai,hn,hm,ab,ac,a0,hs⟩:=hI;subst hn;refine .lL [6,7] hs ?_;replace ay:=ay.k0
 cases ai with
 | zero=>rw [Zcu.eq_1] at hm;cases hm
 | succ ai=>
  rw [Zcu.eq_2] at hm;refine go ?_;refine Zl hm (fun hb hm=>go ?_) fun hb hm=>go ?_
  ·obtain ⟨a8,aj,hm⟩:=bZ hm;refine lI aj (a0.addr aj)<|lW (a0.atInt aj) ?_;refine go ?_;refine lI aj (a0.addr aj) ?_;obtain ⟨am,a2,hm⟩:=bZ hm;have a2:am=ah.set (aA al) (i64.wrap (a8+1)):=(Option.some.inj a2).symm;refine Yp (x1:=i64.wrap (a8+1)) a0 aj ?_;intro bu a9 bg ae;rw [← a2] at ae;refine .ld (d:=6) (v:=(.slice af am.length ag)) (congrArg (fun n=>Value.slice af n ag) (show ah.length=am.length by rw [a2,nS])) ?_;refine go ?_;refine Y0 (col:=ad) (by kernel_rfl) (by kernel_rfl)<|go ?_;obtain ⟨bv,ak,hm⟩:=bZ hm;refine qI ak (ae.addr ak)<|qW (fun _ hC=>(ae.gr (hC.bl ad)).atInt ak) ?_;refine qF ⟨_,_,rfl⟩ ?_;replace ac:=ac.kp a9;refine qW (fun _ hC=>((ac.atN).nth (q:=2) rfl).gr (hC.bl ad)) ?_;refine go ?_;obtain ⟨bw,a5,hm⟩:=bZ hm;replace ab:=ab.kp a9 bg;refine qI a5 ((ay.ks ab).addr a5) ?_;obtain ⟨_,bh,bi⟩:=(ay.ks ab).atN a5;obtain ⟨⟨bx,bz,rfl,b0⟩,_⟩:=bh;refine qW (fun _ hC=>bi.one.gr (hC.bl ad)) ?_;refine go ?_;refine Xw ?_;intro b1 hC;replace hC:=hC.bl ad;replace ae:=ae.gr hC;replace ac:=ac.gr hC;replace ab:=ab.grow hC;refine Zl hm (fun hb hm=>go ?_) fun hb hm=>go ?_
   ·cases hm;exact ⟨rfl,_,_,_,rfl,ab.fin (cm [(2,c1)]),ab.fo ae⟩
   refine lI ak (ae.addr ak) ?_;obtain ⟨a6,a3,hm⟩:=bZ hm;have a3:a6=am.set (aA al) 0:=(Option.some.inj a3).symm;refine Yp (x1:=0) ae ak ?_;intro b2 ba bj bb;rw [← a3] at bb;refine .ld (d:=6) (v:=(.slice af a6.length ag)) (congrArg (fun n=>Value.slice af n ag) (show am.length=a6.length by rw [a3,nS])) ?_;refine go ?_;replace ab:=ab.kp ba bj;exact ⟨ai,by omega,rfl,⟨_,_,_,_,_,_,rfl,hm,ab,ac.kp ba,bb,rfl⟩⟩
  cases hm;exact ⟨rfl,_,none,0,rfl,ab.fin (cm []),Zb.nil⟩
section
variable {N W K:Nat} {n:Z6} (hf:Yv N n) {w:List Int} (hw:Tb n w)
include hf hw
theorem Zv7 {v:Nat} (hv:v<n.2.1.length) (hps:(n.2.2.2.1.getD v []).length≤1048576) (a:Bool) (b c:List Int) (kk:Bool→List Int→List Int→Int→Option QV) {x:QV} (hx:Zi (n.2.2.2.2.getD v []) ((Vj n w v * cnt n v+(w.getD v 0).toNat:Nat):Int)=some x):∀ (f i r k:Nat),i≤(n.2.2.2.1.getD v []).length→(n.2.2.2.1.getD v []).length<f+i→r<k→k≤65536→Yl n.2.2.1 ((n.2.2.2.1.getD v []).drop i) k≤65536→Sq n w ((n.2.2.2.1.getD v []).drop i) r=Vj n w v→
  Zez N n w a b c (v:Int) kk f (r:Int) (i:Int)=(Zeo N ((a,b),c) ((x.1.1,x.1.2),x.2)).bind fun r_104=>kk r_104.1.1 r_104.1.2 r_104.2 (i64.wrap ((v:Int)+1))
 | 0,i,r,k,o,s,_,_,_,_=>by omega
 | f+1,i,r,k,o,s,u,y,g,d=>by
  have L:=hw.ok v (by rw [hw.len];exact hv)
  rw [Zez.eq_2,Vq [] (by rw [hf.ev.p];exact hv),oB]
  by_cases hi:i<(n.2.2.2.1.getD v []).length
  ·have e:∀ q ∈ (n.2.2.2.1.getD v []).drop i,0≤q∧q<(n.2.1.length:Int):=fun q A=>hf.pars hv q (eB A)
   rw [aL hi] at g e d
   obtain ⟨B,C,D⟩:=Zps hf.ev hw e u y g
   rw [Sq] at d
   generalize he:(n.2.2.2.1.getD v [])[i]=p at *
   have M:=e p aT
   have O:=hw.ok p.toNat (by rw [hw.len];omega)
   have P:r * cnt n p.toNat≤k * cnt n p.toNat:=bF _ (by omega)
   have q1:Zi n.2.2.1 p=some (n.2.2.1.getD p.toNat []):=by
    have:=Vq (l:=n.2.2.1) [] (j:=p.toNat) (by rw [hf.ev.v];omega)
    rwa [show ((p.toNat:Nat):Int)=p by omega] at this
   have E:Zi w p=some (w.getD p.toNat 0):=by
    have:=Vq (l:=w) 0 (j:=p.toNat) (by rw [hw.len];omega)
    rwa [show ((p.toNat:Nat):Int)=p by omega] at this
   have F:i64.wrap ((r:Int) * ((n.2.2.1.getD p.toNat []).length:Int))=((r * cnt n p.toNat:Nat):Int):=by
    rw [show ((n.2.2.1.getD p.toNat []).length:Int)=((cnt n p.toNat:Nat):Int) from rfl,← bT]
    exact Zp (by omega)
   have G:i64.wrap (((r * cnt n p.toNat:Nat):Int)+w.getD p.toNat 0)=((r * cnt n p.toNat+(w.getD p.toNat 0).toNat:Nat):Int):=by
    rw [fA,show (((w.getD p.toNat 0).toNat:Nat):Int)=w.getD p.toNat 0 by omega]
    exact Zp (by omega)
   rw [if_pos (dT (by omega)),Zs hi,he,oB,q1,oB,E,oB,F,G,wS (by omega)]
   exact Zv7 hv hps a b c kk hx f (i+1) _ _ (by omega) (by omega) B C D d
  ·rw [aF (by omega),Sq] at d
   have H:=hf.row hw hv
   have m:=hf.rows hv
   have I:i64.wrap ((Vj n w v:Int) * ((n.2.2.1.getD v []).length:Int))=((Vj n w v * cnt n v:Nat):Int):=by
    rw [show ((n.2.2.1.getD v []).length:Int)=((cnt n v:Nat):Int) from rfl,← bT]
    exact Zp (by omega)
   have J:i64.wrap (((Vj n w v * cnt n v:Nat):Int)+w.getD v 0)=((Vj n w v * cnt n v+(w.getD v 0).toNat:Nat):Int):=by
    rw [fA,show (((w.getD v 0).toNat:Nat):Int)=w.getD v 0 by omega]
    exact Zp (by omega)
   rw [if_neg (dF (by omega)),Vq [] (by rw [hf.ev.t];exact hv),oB,Vq [] (by rw [hf.ev.v];exact hv),oB,Vq 0 (by rw [hw.len];exact hv),oB,d,I,J,hx,oB]
variable (hs:Wr n W) (hr:Xa N (8 * K+40)) (hWK:1025 * (W+2)+4≤K) (hN:2000000<N)
include hs hr hWK hN
theorem Zv6:∀ (f k:Nat) (q:Rat),k≤n.2.1.length→n.2.1.length<f+k→qs q≤k * (W+1)+1→Zbg N n w f (Xc q).1.1 (Xc q).1.2 (Xc q).2 (k:Int)=some (Xc (Ui n w (n.2.1.length - k) k q))
 | 0,k,q,j,l,_=>by omega
 | f+1,k,q,j,l,m=>by
  have v:=hf.le
  rw [Zbg.eq_2]
  by_cases hk:k<n.2.1.length
  ·have a:=hf.rows hk
   have e:(n.2.2.2.1.getD k []).length≤1048576:=by
    rw [Yb (by rw [hf.ev.p];exact hk)]
    exact hs.pn.ls _ (aD _)
   have x:=hw.ok k (by rw [hw.len];exact hk)
   have c:(w.getD k 0).toNat<(Vu n w k).length:=by rw [hf.rowT_len hw hk];omega
   have b:=Zw3 (n:=n) (w:=w) c
   obtain ⟨y,d⟩:∃ y,y=(Vu n w k)[(w.getD k 0).toNat]:=⟨_,rfl⟩
   rw [← d] at b
   obtain ⟨g,o⟩:=Zlo hf hs hk y (Zox (d ▸ aD c))
   have r:Vt n w k=Xj y:=by rw [Vt,Yb c,d]
   have s:k * (W+1)≤1024 * (W+1):=bF _ (by omega)
   have t:Zeo N (((Xc q).1.1,(Xc q).1.2),(Xc q).2) ((y.1.1,y.1.2),y.2)=some (Xc (q * Vt n w k)):=by
    have:=Z5d (Zkr m) ((Zdc g.1 g.2).mono o) (hr.mono (by omega))
    rwa [Qk,← r] at this
   have i:=Zv7 hf hw hk e (Xc q).1.1 (Xc q).1.2 (Xc q).2 (Zbg N n w f) b N 0 0 1 (bD _) (by omega) (by omega) (by omega) a.2.2 (by rw [aX];rfl)
   rw [show ((0:Nat):Int)=0 from rfl,t,oB,wS (by omega)] at i
   have A:=Zph q (Vt n w k)
   have B:=Zog hf hw hs hk
   have u:=Zv6 f (k+1) (q * Vt n w k) (by omega) (by omega) (by rw [bI,bP];omega)
   rw [if_pos (dT (by omega)),i,u,show n.2.1.length - k=(n.2.1.length - (k+1))+1 by omega,Ui]
  ·rw [if_neg (dF (by omega)),show n.2.1.length - k=0 by omega,Ui]
theorem Z43:Zh1 N n w=some (Xc (Ui n w n.2.1.length 0 1)):=by
 have a:=hf.le
 have h:=Zv6 hf hw hs hr hWK hN N 0 1 (bD _) (by omega) (by rw [Zmw];omega)
 rw [Zh1,Zxu (hr.mono (by omega)),oB]
 exact h
end
/-! the next one -/
def Zol:List Nat→List Int→Nat→Nat
 | s :: ss,d :: w,a=>Zol ss w (a * s+d.toNat)
 | _,_,a=>a
theorem Zpa:∀ (ss:List Nat) (w:List Int) (v a:Nat),ss.length=w.length→v≤w.length→a * Z4 ss+Wo ss w=Zol (ss.take v) (w.take v) a * Z4 (ss.drop v)+Wo (ss.drop v) (w.drop v)
 | ss,w,0,a,_,_=>by
  rw [eH,eH,aX,aX]
  rfl
 | [],[],v+1,a,_,h=>by simp at h
 | s :: ss,d :: w,v+1,a,b,c=>by
  have e:=Zpa ss w v (a * s+d.toNat) (by simpa using b) (by simpa using c)
  rw [hO,hO,hY,hY,Zol,← e,Z4,Wo,bI,Nat.mul_assoc,dP]
theorem Zu7:∀ ss:List Nat,Wo ss (aI ss.length 0)=0
 | []=>rfl
 | s :: ss=>by rw [nC,iA,Wo,Zu7 ss];simp
theorem Zr3 {ss:List Nat}:∀ {w:List Int},Su ss w→ss.length=w.length∧∀ i,i<w.length→0≤w.getD i 0∧w.getD i 0<((ss.getD i 0:Nat):Int):=by
 induction ss with
 | nil=>
  intro w hw
  cases w with
  | nil=>exact ⟨rfl,fun i a=>by simp at a⟩
  | cons d w=>exact hw.elim
 | cons s ss b=>
  intro w hw
  cases w with
  | nil=>exact hw.elim
  | cons d w=>
   obtain ⟨c,e⟩:=b hw.2
   refine ⟨by rw [nC,nC,c],fun i a=>?_⟩
   cases i with
   | zero=>exact hw.1
   | succ i=>exact e i (by simpa using a)
theorem Z1x {ss:List Nat}:∀ {w:List Int},ss.length=w.length→(∀ i,i<w.length→0≤w.getD i 0∧w.getD i 0<((ss.getD i 0:Nat):Int))→Su ss w:=by
 induction ss with
 | nil=>
  intro w hw _
  cases w with
  | nil=>trivial
  | cons d w=>simp at hw
 | cons s ss b=>
  intro w hw a
  cases w with
  | nil=>simp at hw
  | cons d w=>exact ⟨a 0 (by simp),b (by simpa using hw) fun i c=>by have:=a (i+1) (by simpa using c);simpa using this⟩
theorem Zwx {N:Nat} {n:Z6} (hf:Yv N n) {w:List Int} (hw:Su (Zq n) w) (hP:Z4 (Zq n)≤65536):∀ (v f:Nat),v≤w.length→v<f→Wo ((Zq n).drop v) (w.drop v)+1=Z4 ((Zq n).drop v)→
  Zcu N n f (w.take v++aI (w.length - v) 0) ((v:Int) - 1)=some (if Wo (Zq n) w+1<Z4 (Zq n) then (Ye (Zq n) (Wo (Zq n) w+1),true) else ([],false))
 | v,0,_,h,_=>by omega
 | 0,f+1,H,I,m=>by
  rw [aX,aX] at m
  rw [Zcu.eq_2,if_neg (by decide),if_neg (by omega)]
 | v+1,f+1,H,I,m=>by
  obtain ⟨B,C⟩:=Zr3 hw
  have J:=hf.ev.v;have Q:=hf.le
  have R:(Zq n).length=n.2.1.length:=by rw [Zq,aH,J]
  have b:v<w.length:=by omega
  have q:v<n.2.2.1.length:=by omega
  have g:=C v b
  have r:(Zq n).getD v 0=n.2.2.1[v].length:=by
   rw [Yb (show v<(Zq n).length by omega)];simp only [Zq,dD]
  rw [r,Yb b] at g
  obtain ⟨d,o⟩:∃ d:Nat,w[v]=(d:Int):=⟨(w[v]).toNat,by omega⟩
  have j:(Zq n).drop v=n.2.2.1[v].length :: (Zq n).drop (v+1):=by
   rw [aL (show v<(Zq n).length by omega)]
   simp only [Zq,dD]
  have s:w.drop v=(d:Int) :: w.drop (v+1):=by rw [aL b,o]
  have L:(w.take (v+1)++aI (w.length - (v+1)) 0).length=w.length:=by
   rw [nA,nK,aQ];omega
  have D:Zi (w.take (v+1)++aI (w.length - (v+1)) 0) (v:Int)=some (d:Int):=by
   rw [Zs (by omega),List.getElem_append_left (by rw [nK];omega),eR,o]
  have A:∀ c:Int,(w.take (v+1)++aI (w.length - (v+1)) 0).set v c=w.take v++c :: aI (w.length - (v+1)) 0:=fun c=>by
   rw [cL b,bK,fC (i:=v) c (by rw [nK];omega),nK,aR (by omega),fT,List.singleton_append,fO]
  have a:Zi (w.take v++((d:Int)+1) :: aI (w.length - (v+1)) 0) (v:Int)=some ((d:Int)+1):=by
   rw [Zs (by rw [nA,nK,nC,aQ];omega),List.getElem_append_right (by rw [nK];omega)]
   congr 1
   simp [bX,aR (show v≤w.length by omega)]
  have p:(w.take v++((d:Int)+1) :: aI (w.length - (v+1)) 0).set v 0=w.take v++aI (w.length - v) 0:=by
   rw [fC (i:=v) 0 (by rw [nK];omega),nK,aR (by omega),fT,fO,show w.length - v=(w.length - (v+1))+1 by omega,iA]
  have S:d<4611686018427387904:=by
   have t:v<n.2.1.length:=by omega
   have T:=(hf.row (Zll hf hw) t).1
   have U:=(hf.rows t).2.1
   have V:cnt n v=n.2.2.1[v].length:=by rw [cnt,Yb q]
   rw [o] at g
   omega
  rw [Zcu.eq_2,show ((v+1:Nat):Int) - 1=(v:Int) by omega,if_pos (dT (by omega)),D,oB,aB,Zp (x:=(d:Int)+1) (by omega),A,oB,a,oB,Zs q,oB]
  have k:=Zpa (Zq n) w v 0 B (by omega)
  rw [iC,cK,j,s,Z4,Wo,aB] at k
  by_cases hlt:(d:Int)+1<(n.2.2.1[v].length:Int)
  ·have E:Su (Zq n) (w.take v++((d:Int)+1) :: aI (w.length - (v+1)) 0):=by
    refine Z1x (by rw [nA,nK,nC,aQ];omega) fun i M=>?_
    rw [nA,nK,nC,aQ] at M
    by_cases h:i<v
    ·have:=C i (by omega)
     rw [aE,List.getElem?_append_left (by rw [nK];omega),List.getElem?_take,if_pos h,← aE]
     exact this
    ·by_cases h':i=v
     ·subst h'
      have e:(w.take i++((d:Int)+1) :: aI (w.length - (i+1)) 0).getD i 0=(d:Int)+1:=by
       rw [Zs (by rw [nA,nK,nC,aQ];omega),Option.some.injEq] at a
       rw [Yb (by rw [nA,nK,nC,aQ];omega),a]
      rw [e,r];omega
     ·have e:(w.take v++((d:Int)+1) :: aI (w.length - (v+1)) 0).getD i 0=0:=by
       rw [aE,List.getElem?_append_right (by rw [nK];omega),nK,aR (by omega),show i - v=(i - v - 1)+1 by omega,List.getElem?_cons_succ,List.getElem?_replicate]
       split <;> rfl
      rw [e]
      have X:=Qn hf ((Zq n).getD i 0) (by rw [Yb (show i<(Zq n).length by omega)];exact aD _)
      omega
   have u:Wo (Zq n) (w.take v++((d:Int)+1) :: aI (w.length - (v+1)) 0)=Wo (Zq n) w+1:=by
    have y:=Zpa (Zq n) (w.take v++((d:Int)+1) :: aI (w.length - (v+1)) 0) v 0 (by rw [nA,nK,nC,aQ];omega) (by rw [nA,nK,nC,aQ];omega)
    have O:(w.take v++((d:Int)+1) :: aI (w.length - (v+1)) 0).take v=w.take v:=List.take_left' (by rw [nK];omega)
    have P:(w.take v++((d:Int)+1) :: aI (w.length - (v+1)) 0).drop v=((d:Int)+1) :: aI (w.length - (v+1)) 0:=List.drop_left' (by rw [nK];omega)
    have F:aI (w.length - (v+1)) (0:Int)=aI ((Zq n).drop (v+1)).length 0:=by rw [cA,B]
    rw [iC,cK,O,P,j,Z4,Wo,F,Zu7,show ((d:Int)+1).toNat=d+1 by omega,bI,bP,bQ] at y
    rw [F,y,k,← m];omega
   have l:=Zpb _ _ E
   rw [u] at l
   rw [if_pos (dT hlt),if_pos l,← u,Zr2 _ _ E]
  ·have G:d+1=n.2.2.1[v].length:=by rw [o] at g;omega
   rw [if_neg (dF hlt),p,oB,Zp (by omega)]
   refine Zwx hf hw hP v f (by omega) (by omega) ?_
   rw [j,s,Z4,Wo,aB,dP,m,← G,bI,bP]
def Zfh (aa:Bool):Option Bool:=
  some aa
def Zib (ab:R0) (aa:Rc):Option Bool:=
  if (decide (aa.1<0))=true then (Zfh true) else (if (decide ((ab.2.1.length:Int)≤aa.1))=true then (Zfh true) else (if (decide (aa.2<0))=true then (Zfh true) else ((Zi ab.2.2.1 aa.1).bind fun ac=>Zfh (decide ((ac.length:Int)≤aa.2)))))
theorem Z0x {am an ao ap:Nat} {aq ar au av:Option Addr} {col:Zd} {w0:World} {ac:R0} {ad:Rc} {r:Bool} (hm:Zib ac ad=some r) (a4:Sl Za.str col w0 aq am ac.2.1) (af:Sl rV col w0 ar an ac.2.2.1) (a5:Sl rP col w0 au ao ac.2.2.2.1) (a6:Sl (Za.slice rQ) col w0 av ap ac.2.2.2.2):
    Calls prog 87 #[(.agg #[.string ac.1,.slice aq ac.2.1.length am,.slice ar ac.2.2.1.length an,.slice au ac.2.2.2.1.length ao,.slice av ac.2.2.2.2.length ap]),(.agg #[.int .i64 ad.1,.int .i64 ad.2])] w0 (W1 w0 r):=by
 refine Z7 4 (m:=33) func87 rfl rfl rfl rfl rfl ?_;rw [Zib.eq_1] at hm;have aa:=St.start col w0;refine go ?_;refine Xf (col:=(Zg col)) 1 rfl ?_;intro a7 a8 az a0 ag;refine Xf (col:=az) 2 rfl ?_;intro a9 ba ab aw ae;refine Qu rfl<|Zj<|Zw ?_;replace af:=af.k0;replace aa:=(aa.grow a0).grow aw;replace ag:=ag.gr aw;refine Wp.cutK [1000000] (fun f ax=>∃ ay ah,Zfh ah=some r∧St w0 (Zg col) ay ax∧[4].map f=[.bool ah]) ?_ ?_
 ·intro f ax hJ;obtain ⟨ay,ah,hm,aa,hs⟩:=hJ;rw [Zfh.eq_1] at hm;refine .lL [4] hs<|Y1 ?_;cases hm;exact ⟨rfl,rfl,aa.below⟩
 refine Y0 (col:=ab) (by kernel_rfl) (by kernel_rfl)<|qF ⟨_,_,rfl⟩ ?_;refine qW (fun _ hC=>((ae.atN).nth (q:=0) rfl).gr (hC.bl ab)) ?_;refine go ?_;refine Xo hm (fun ai hm=>go ?_) fun ai hm=>go ?_
 ·refine qv (v:=(.bool true)) rfl (fun _ hC=>Z5 (congrArg Value.bool ai) rfl) ?_;refine go ?_;refine qP 16 rfl rfl<|qP 16 rfl rfl<|qP 16 rfl rfl<|qv (v:=(.bool true)) rfl (fun _ hC=>Z5 rfl rfl) ?_;refine go ?_;refine qP 21 rfl rfl<|qP 21 rfl rfl<|qP 21 rfl rfl<|qP 21 rfl rfl<|qP 21 rfl rfl<|qP 21 rfl rfl<|qP 21 rfl rfl<|qP 21 rfl rfl<|qP 21 rfl rfl<|qP 21 rfl rfl<|qv (v:=(.bool true)) rfl (fun _ hC=>Z5 rfl rfl) ?_;refine go ?_;refine Xw ?_;intro bb hC;replace hC:=hC.bl ab;replace aa:=aa.grow hC;exact ⟨rfl,_,_,hm,aa,rfl⟩
 refine qF ⟨_,_,rfl⟩ ?_;refine go ?_;refine qW (fun _ hC=>((ae.atN).nth (q:=0) rfl).gr (hC.bl ab)) ?_;refine go ?_;refine qF ⟨_,_,rfl⟩ ?_;refine go ?_;refine qW (fun _ hC=>((ag.atN).nth (q:=1) rfl).gr (hC.bl ab)) ?_;refine go ?_;refine qv (v:=(.bool (decide ((ac.2.1.length:Int)≤ad.1)))) rfl (fun _ hC=>Xn (congrArg Value.bool ai) rfl) ?_;refine go ?_;refine Xo hm (fun aj hm=>go ?_) fun aj hm=>go ?_
 ·refine qv (v:=(.bool true)) rfl (fun _ hC=>Z5 (congrArg Value.bool aj) rfl) ?_;refine go ?_;refine qP 21 rfl rfl<|qP 21 rfl rfl<|qP 21 rfl rfl<|qP 21 rfl rfl<|qP 21 rfl rfl<|qP 21 rfl rfl<|qP 21 rfl rfl<|qP 21 rfl rfl<|qP 21 rfl rfl<|qP 21 rfl rfl<|qv (v:=(.bool true)) rfl (fun _ hC=>Z5 rfl rfl) ?_;refine go ?_;refine Xw ?_;intro bc hC;replace hC:=hC.bl ab;replace aa:=aa.grow hC;exact ⟨rfl,_,_,hm,aa,rfl⟩
 refine qF ⟨_,_,rfl⟩ ?_;refine go ?_;refine qW (fun _ hC=>((ae.atN).nth (q:=1) rfl).gr (hC.bl ab)) ?_;refine go ?_;refine qv (v:=(.bool (decide (ad.2<0)))) rfl (fun _ hC=>Xn (congrArg Value.bool aj) rfl) ?_;refine go ?_;refine Xo hm (fun ak hm=>go ?_) fun ak hm=>go ?_
 ·refine qv (v:=(.bool true)) rfl (fun _ hC=>Z5 (congrArg Value.bool ak) rfl) ?_;refine go ?_;refine Xw ?_;intro bd hC;replace hC:=hC.bl ab;replace aa:=aa.grow hC;exact ⟨rfl,_,_,hm,aa,rfl⟩
 refine qF ⟨_,_,rfl⟩ ?_;refine go ?_;refine qW (fun _ hC=>((ae.atN).nth (q:=1) rfl).gr (hC.bl ab)) ?_;refine go ?_;refine qF ⟨_,_,rfl⟩ ?_;refine go ?_;refine qW (fun _ hC=>((ag.atN).nth (q:=2) rfl).gr (hC.bl ab)) ?_;refine go ?_;refine qF ⟨_,_,rfl⟩ ?_;refine go ?_;refine qW (fun _ hC=>((ae.atN).nth (q:=0) rfl).gr (hC.bl ab)) ?_;refine go ?_;obtain ⟨a1,al,hm⟩:=bZ hm;refine qI al ((af.ks aa).addr al) ?_;refine go ?_;obtain ⟨_,a2,a3⟩:=(af.ks aa).atN al;obtain ⟨⟨be,bf,rfl,bg⟩,_⟩:=a2;refine qW (fun _ hC=>a3.one.gr (hC.bl ab)) ?_;refine go ?_;refine qv (v:=(.bool (decide ((a1.length:Int)≤ad.2)))) rfl (fun _ hC=>Xn (congrArg Value.bool ak) rfl) ?_;refine go ?_;refine Xw ?_;intro bh hC;exact ⟨rfl,_,_,hm,aa.grow (hC.bl ab),rfl⟩
def Zh2 (ad:List Int) (ac:Int) (aa:List Int) (kk_L2:(Int→R2→Option Int)) (ae:Bool):Option Int:=
  if ae=true then (some 3) else ((Zi ad ac).bind fun ab=>Zv ((aa.length+[ab].length) * 8≤140737488355328∧aa.length+[ab].length≤maxLen) (kk_L2 (i64.wrap (ac+1)) (aa++[ab])))
def Ze1 (N:Nat) (ab:List Int) (aa:Int) (kk_L3:(Int→Option Int)):Nat→Int→Option Int
  | 0,_=>none
  | ad+1,ac=>if (decide (ac<aa))=true then ((Zi ab aa).bind fun ae=>(Zi ab ac).bind fun af=>if (decide (ae=af))=true then (some 40) else ((Ze1 N ab aa kk_L3 ad) (i64.wrap (ac+1)))) else (kk_L3 (i64.wrap (aa+1)))
def Ze2 (N:Nat) (aa:R0):Nat→Int→Int→Option Int
  | 0,_,_=>none
  | ae+1,ac,ab=>if (decide (ab<(aa.2.1.length:Int)))=true then ((Zi aa.2.2.1 ab).bind fun ad=>if (decide (65536<(i64.wrap (ac * (ad.length:Int)))))=true then (some 4) else ((Ze2 N aa ae) (i64.wrap (ac * (ad.length:Int))) (i64.wrap (ab+1)))) else (some 0)
def Zbi (N:Nat) (ab:R0) (aa:List Int):Nat→Int→Option Int
  | 0,_=>none
  | ad+1,ac=>if (decide (ac<(aa.length:Int)))=true then (Ze1 N aa ac (Zbi N ab aa ad) N 0) else (Ze2 N ab N 1 0)
def Zbh (N:Nat) (ab:R0) (aa:List Int):Nat→Int→R2→Option Int
  | 0,_,_=>none
  | ae+1,ac,ad=>if (decide (ac<(aa.length:Int)))=true then ((Zi aa ac).bind fun af=>if (decide (af<0))=true then (Zh2 aa ac ad (Zbh N ab aa ae) true) else (Zh2 aa ac ad (Zbh N ab aa ae) (decide ((ab.2.1.length:Int)≤af)))) else (Zbi N ab ad N 0)
def Ze0 (N:Nat) (aa:R0) (ad:Rj) (af:List Int):Nat→R2→Int→Option Int
  | 0,_,_=>none
  | ag+1,ac,ae=>if (decide (ae<(ad.length:Int)))=true then ((Zi ad ae).bind fun ab=>(Zib (aa.1,aa.2.1,aa.2.2.1,aa.2.2.2.1,aa.2.2.2.2) (ab.1,ab.2)).bind fun ah=>if ah=true then (some 3) else (Zv ((ac.length+[ab.1].length) * 8≤140737488355328∧ac.length+[ab.1].length≤maxLen) ((Ze0 N aa ad af ag) (ac++[ab.1]) (i64.wrap (ae+1))))) else (Zbh N aa af N 0 ac)
def Tj (N:Nat) (aa:R0) (ac:Rj) (ad:List Int):Option Int:=
  (Zcn N (aa.1,aa.2.1,aa.2.2.1,aa.2.2.2.1,aa.2.2.2.2)).bind fun ab=>if (!decide (ab=0))=true then (some ab) else (Ze0 N aa ac ad N ([]:List Int) 0)
theorem Zq5 {N ah ai aj ak b5 b6:Nat} {al am an ao a1 a2:Option Addr} {col:Zd} {w0:World} {ab:R0} {a8:Rj} {aq:R2} {r:Int} (hm:Tj N ab a8 aq=some r) (a9:Sl Za.str col w0 al ah ab.2.1) (aw:Sl rV col w0 am ai ab.2.2.1) (ba:Sl rP col w0 an aj ab.2.2.2.1) (bb:Sl (Za.slice rQ) col w0 ao ak ab.2.2.2.2) (h1:Sl (Za.pair rI rI) col w0 a1 b5 a8) (h2:Sl rI col w0 a2 b6 aq):
    Calls prog 32 #[(.agg #[.string ab.1,.slice al ab.2.1.length ah,.slice am ab.2.2.1.length ai,.slice an ab.2.2.2.1.length aj,.slice ao ab.2.2.2.2.length ak]),.slice a1 a8.length b5,.slice a2 aq.length b6] w0 (Wq w0 r):=by
 refine Z7 6 (m:=107) func32 rfl rfl rfl rfl rfl ?_;rw [Tj.eq_1] at hm;have aa:=St.start col w0;refine go ?_;refine Xf (col:=(Zg col)) 1 rfl ?_;intro ax ca b7 cb ac;refine go ?_;refine lV _ (Xh isAgg27 sizeOf27 ac) ?_;obtain ⟨cz,cc,hm⟩:=bZ hm;replace a9:=a9.k0;replace aw:=aw.k0;replace ba:=ba.k0;replace bb:=bb.k0;replace aa:=aa.grow cb;refine Zh (Z0i cc (a9.ks aa) (aw.ks aa) (ba.ks aa) (bb.ks aa)) fun _ cd ⟨e',bc⟩=>⟨_,e',?_⟩;replace bc:Zk b7 ca b7 cd:=.of_below bc;refine go ?_;replace h1:=h1.k0;replace h2:=h2.k0;replace ac:=ac.gr bc;replace aa:=aa.grow bc;refine Zl hm (fun hb hm=>go ?_) fun hb hm=>go ?_
 ·cases hm;exact ⟨rfl,rfl,aa.below⟩
 refine Zt [1,2,3,1000000] (fun n f bd=>∃ ae bn bo be bp ay,ay=n∧Ze0 N ab a8 aq ay be bp=some r∧St w0 (Zg col) ae bd∧Ze 27 1 ae bd ax #[.string ab.1,.slice al ab.2.1.length ah,.slice am ab.2.2.1.length ai,.slice an ab.2.2.2.1.length aj,.slice ao ab.2.2.2.2.length ak]∧Zb rI 3 2 ae bd bn bo be∧[8,9].map f=[.slice bn be.length bo,.int .i64 bp]) N ⟨_,none,0,_,0,_,rfl,hm,aa,ac,Zb.nil,rfl⟩ ?_;clear hm;intro n f bd hI;obtain ⟨ae,bn,bo,be,bp,ay,hn,hm,aa,ac,az,hs⟩:=hI;subst hn;refine .lL [8,9] hs ?_
 cases ay with
 | zero=>rw [Ze0.eq_1] at hm;cases hm
 | succ ay=>
  rw [Ze0.eq_2] at hm;refine go ?_;refine Zl hm (fun hb hm=>go ?_) fun hb hm=>go ?_
  ·refine Y0 (col:=ae) (by kernel_rfl) (by kernel_rfl)<|qv rfl (fun _ hC=>Xh isAgg27 sizeOf27 (ac.gr (hC.bl ae))) ?_;refine go ?_;obtain ⟨bq,ar,hm⟩:=bZ hm;refine qI ar ((h1.ks aa).addr ar) ?_;obtain ⟨_,ce,cf⟩:=(h1.ks aa).atN ar;obtain ⟨_,_,rfl,cg,ch⟩:=Yr ce;obtain ⟨rfl,_⟩:=cg;obtain ⟨rfl,_⟩:=ch;refine qv (v:=(.agg #[.int .i64 bq.1,.int .i64 bq.2])) rfl (fun _ hC=>Yq isAgg66 sizeOf66 rfl rfl (cf.gr (hC.bl ae))) ?_;obtain ⟨ci,cj,hm⟩:=bZ hm;refine qc (v:=(.bool ci)) rfl (fun _ hC=>⟨_,_,Sn call87 rfl rfl,(Z0x cj ((a9.ks aa).gr (hC.bl ae)) ((aw.ks aa).gr (hC.bl ae)) ((ba.ks aa).gr (hC.bl ae)) ((bb.ks aa).gr (hC.bl ae)):).mono fun _ _ h=>⟨h.1,hC.trans (.of_below h.2)⟩⟩) ?_;refine go ?_;refine Xw ?_;intro c0 hC;replace hC:=hC.bl ae;refine go ?_;replace az:=az.gr hC;replace ac:=ac.gr hC;replace aa:=aa.grow hC;refine Zl hm (fun hb hm=>go ?_) fun hb hm=>go ?_
   ·cases hm;exact ⟨rfl,rfl,aa.below⟩
   refine lI ar ((h1.ks aa).addr ar)<|Z9 (Wg ((h1.ks aa).addr ar)) ?_;obtain ⟨_,ck,cl⟩:=(h1.ks aa).atN ar;obtain ⟨_,_,rfl,cn,co⟩:=Yr ck;obtain ⟨rfl,_⟩:=cn;obtain ⟨rfl,_⟩:=co;refine lW ((cl).nth (q:=0) rfl)<|Wt (col:=ae) [bq.1] 3 ?_;intro c1 c2 c3 br cp;obtain ⟨cq,hm⟩:=Zx hm;replace az:=az.gr br;refine Y9 az (cp.srcN (NB.int (k:=.i64))) cq ?_;intro c4 c5 c6 c7 b8 cr;refine go ?_;replace ac:=(ac.gr br).kpp b8;replace aa:=(aa.grow br).kpp b8;exact ⟨ay,by omega,rfl,⟨_,_,_,_,_,_,rfl,hm,aa,ac,cr,rfl⟩⟩
  refine Zt [2,3,1000000] (fun n f bf=>∃ ag bg a0 a3 af au,au=n∧Zbh N ab aq au bg af=some r∧St w0 (Zg col) ag bf∧Ze 27 1 ag bf ax #[.string ab.1,.slice al ab.2.1.length ah,.slice am ab.2.2.1.length ai,.slice an ab.2.2.2.1.length aj,.slice ao ab.2.2.2.2.length ak]∧Zb rI 3 2 ag bf a0 a3 af∧[11,8].map f=[.int .i64 bg,.slice a0 af.length a3]) N ⟨_,0,_,_,_,_,rfl,hm,aa,ac,az,rfl⟩ ?_;clear hm;intro n f bf hI;obtain ⟨ag,bg,a0,a3,af,au,hn,hm,aa,ac,ad,hs⟩:=hI;subst hn;refine .lL [11,8] hs ?_
  cases au with
  | zero=>rw [Zbh.eq_1] at hm;cases hm
  | succ au=>
   rw [Zbh.eq_2] at hm;refine go ?_;refine Zl hm (fun hb hm=>?_) fun hb hm=>go ?_
   ·refine X7<|Zw<|Zde<|Zw<|Zw ?_;refine Wp.cutK [11,2,3,8,1000000] (fun f bh=>∃ a7 bs,Zh2 aq bg af (Zbh N ab aq au) bs=some r∧St w0 (Zg col) a7 bh∧Ze 27 1 a7 bh ax #[.string ab.1,.slice al ab.2.1.length ah,.slice am ab.2.2.1.length ai,.slice an ab.2.2.2.1.length aj,.slice ao ab.2.2.2.2.length ak]∧Zb rI 3 2 a7 bh a0 a3 af∧[62].map f=[.bool bs]) ?_ ?_
    ·intro f bh hJ;obtain ⟨a7,bs,hm,aa,ac,ad,hs⟩:=hJ;rw [Zh2.eq_1] at hm;refine .lL [62] hs ?_;refine Zl hm (fun hb hm=>go ?_) fun hb hm=>go ?_
     ·cases hm;exact ⟨rfl,rfl,aa.below⟩
     obtain ⟨cs,bt,hm⟩:=bZ hm;refine lI bt ((h2.ks aa).addr bt)<|lW ((h2.ks aa).atInt bt)<|Wt (col:=a7) [cs] 4 ?_;intro c8 c9 da bu ct;obtain ⟨cu,hm⟩:=Zx hm;replace ad:=ad.gr bu;refine Y9 ad (ct.srcN (NB.int (k:=.i64))) cu ?_;intro db dc dd de b9 cv;refine go ?_;replace ac:=(ac.gr bu).kpp b9;replace aa:=(aa.grow bu).kpp b9;exact ⟨au,by omega,rfl,⟨_,_,_,_,_,_,rfl,hm,aa,ac,cv,rfl⟩⟩
    refine Y0 (col:=ag) (by kernel_rfl) (by kernel_rfl)<|go ?_;obtain ⟨cw,a4,hm⟩:=bZ hm;refine qI a4 ((h2.ks aa).addr a4)<|qW (fun _ hC=>((h2.ks aa).gr (hC.bl ag)).atInt a4) ?_;refine go ?_;refine Xo hm (fun bv hm=>go ?_) fun bv hm=>go ?_
    ·refine qv (v:=(.bool true)) rfl (fun _ hC=>Z5 (congrArg Value.bool bv) rfl) ?_;refine Xw ?_;intro df hC;replace hC:=hC.bl ag;replace ad:=ad.gr hC;replace ac:=ac.gr hC;replace aa:=aa.grow hC;exact ⟨rfl,_,_,hm,aa,ac,ad,rfl⟩
    refine qI a4 ((h2.ks aa).addr a4) ?_;refine go ?_;refine qW (fun _ hC=>((h2.ks aa).gr (hC.bl ag)).atInt a4) ?_;refine go ?_;refine qF ⟨_,_,rfl⟩ ?_;refine go ?_;refine qW (fun _ hC=>((ac.atN).nth (q:=1) rfl).gr (hC.bl ag)) ?_;refine go ?_;refine qv (v:=(.bool (decide ((ab.2.1.length:Int)≤cw)))) rfl (fun _ hC=>Xn (congrArg Value.bool bv) rfl) ?_;refine Xw ?_;intro dg hC;replace hC:=hC.bl ag;replace ad:=ad.gr hC;replace ac:=ac.gr hC;replace aa:=aa.grow hC;exact ⟨rfl,_,_,hm,aa,ac,ad,rfl⟩
   refine Zt [3,8,1000000] (fun n f bi=>∃ bj bk av,av=n∧Zbi N ab af av bk=some r∧St w0 (Zg col) bj bi∧Ze 27 1 bj bi ax #[.string ab.1,.slice al ab.2.1.length ah,.slice am ab.2.2.1.length ai,.slice an ab.2.2.2.1.length aj,.slice ao ab.2.2.2.2.length ak]∧Zb rI 3 2 bj bi a0 a3 af∧[12].map f=[.int .i64 bk]) N ⟨_,0,_,rfl,hm,aa,ac,ad,rfl⟩ ?_;clear hm;intro n f bi hI;obtain ⟨bj,bk,av,hn,hm,aa,ac,ad,hs⟩:=hI;subst hn;refine .lL [12] hs ?_
   cases av with
   | zero=>rw [Zbi.eq_1] at hm;cases hm
   | succ av=>
    rw [Zbi.eq_2] at hm;refine go ?_;refine Zl hm (fun hb hm=>go ?_) fun hb hm=>go ?_
    ·refine Zt [12,3,8,1000000] (fun n f bm=>∃ ap bw a5,a5=n∧Ze1 N af bk (Zbi N ab af av) a5 bw=some r∧St w0 (Zg col) ap bm∧Ze 27 1 ap bm ax #[.string ab.1,.slice al ab.2.1.length ah,.slice am ab.2.2.1.length ai,.slice an ab.2.2.2.1.length aj,.slice ao ab.2.2.2.2.length ak]∧Zb rI 3 2 ap bm a0 a3 af∧[13].map f=[.int .i64 bw]) N ⟨_,0,_,rfl,hm,aa,ac,ad,rfl⟩ ?_;clear hm;intro n f bm hI;obtain ⟨ap,bw,a5,hn,hm,aa,ac,ad,hs⟩:=hI;subst hn;refine .lL [13] hs ?_
     cases a5 with
     | zero=>rw [Ze1.eq_1] at hm;cases hm
     | succ a5=>
      rw [Ze1.eq_2] at hm;refine go ?_;refine Zl hm (fun hb hm=>go ?_) fun hb hm=>go ?_
      ·refine Y0 (col:=ap) (by kernel_rfl) (by kernel_rfl)<|go ?_;obtain ⟨dh,bx,hm⟩:=bZ hm;refine qI bx (ad.addr bx)<|qW (fun _ hC=>(ad.gr (hC.bl ap)).atInt bx) ?_;refine go ?_;obtain ⟨di,bz,hm⟩:=bZ hm;refine qI bz (ad.addr bz)<|qW (fun _ hC=>(ad.gr (hC.bl ap)).atInt bz) ?_;refine go ?_;refine Xw ?_;intro dj hC;replace hC:=hC.bl ap;replace ad:=ad.gr hC;replace ac:=ac.gr hC;replace aa:=aa.grow hC;refine Zl hm (fun hb hm=>go ?_) fun hb hm=>go ?_
       ·cases hm;exact ⟨rfl,rfl,aa.below⟩
       exact ⟨a5,by omega,rfl,⟨_,_,_,rfl,hm,aa,ac,ad,rfl⟩⟩
      exact ⟨av,by omega,rfl,⟨_,_,_,rfl,hm,aa,ac,ad,rfl⟩⟩
    refine Zt [3,1000000] (fun n f b0=>∃ b1 b2 b3 a6,a6=n∧Ze2 N ab a6 b2 b3=some r∧St w0 (Zg col) b1 b0∧Ze 27 1 b1 b0 ax #[.string ab.1,.slice al ab.2.1.length ah,.slice am ab.2.2.1.length ai,.slice an ab.2.2.2.1.length aj,.slice ao ab.2.2.2.2.length ak]∧[14,15].map f=[.int .i64 b2,.int .i64 b3]) N ⟨_,1,0,_,rfl,hm,aa,ac,rfl⟩ ?_;clear hm;intro n f b0 hI;obtain ⟨b1,b2,b3,a6,hn,hm,aa,ac,hs⟩:=hI;subst hn;refine .lL [14,15] hs ?_
    cases a6 with
    | zero=>rw [Ze2.eq_1] at hm;cases hm
    | succ a6=>
     rw [Ze2.eq_2] at hm;refine go ?_;refine Zy ac ?_;refine go ?_;refine Zl hm (fun hb hm=>go ?_) fun hb hm=>go ?_
     ·refine Zy ac<|Xe rfl ?_;obtain ⟨dk,b4,hm⟩:=bZ hm;refine lI b4 ((aw.ks aa).addr b4) ?_;obtain ⟨_,cx,cy⟩:=(aw.ks aa).atN b4;obtain ⟨⟨dl,dm,rfl,dn⟩,_⟩:=cx;refine lW cy.one<|go ?_;refine Zl hm (fun hb hm=>go ?_) fun hb hm=>go ?_
      ·cases hm;exact ⟨rfl,rfl,aa.below⟩
      exact ⟨a6,by omega,rfl,⟨_,_,_,_,rfl,hm,aa,ac,rfl⟩⟩
     cases hm;exact ⟨rfl,rfl,aa.below⟩

end Go.Proofs.YthclpfhncgpnmaaGreat
