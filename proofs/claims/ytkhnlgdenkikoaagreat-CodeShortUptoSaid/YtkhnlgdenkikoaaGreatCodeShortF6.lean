/-
  What functions of the program compute, as plain Lean functions (m_..), and proofs that they compute it (c_..). Printed by a program of the author; no conditions.
-/
import Derived.Test.YtkhnlgdenkikoaaGreatCodeShortBFloat
import Derived.Test.YtkhnlgdenkikoaaGreatProg
import Derived.Test.YtkhnlgdenkikoaaGreatCodeShortBBrief
import Derived.Test.YtkhnlgdenkikoaaGreatCodeShortBBulk
import Derived.Test.YtkhnlgdenkikoaaGreatCodeShortF5
set_option linter.unusedVariables false
set_option maxRecDepth 100000
set_option maxHeartbeats 2000000
namespace Go.Proofs.YtkhnlgdenkikoaaGreat
open Go Go.RowKit
open Go.IntKind (i8 i16 i32 i64 u8 u16 u32 u64)
open Go.Proofs.Tryz

theorem Z1w:Wj prog 9 1 16:=⟨Tryz.t9,_,rfl,rfl,rfl,rfl,rfl⟩
def Zll (aa:Int) (kk_L3:(Int→Bool→Option Bool)) (ab:Bool):Option Bool:=
  kk_L3 (i64.wrap (aa+1)) ab
def Zd5 (aa:Int) (ab:Bool) (kk_L3:(Int→Bool→Option Bool)) (ac:Bool):Option Bool:=
  if ac=true then (some false) else (Zll aa kk_L3 ab)
def S4 (N:Nat) (aa:List ByteArray) (ab:Int) (kk_L2:(Int→Bool→Option Bool)):Nat→Int→Bool→Option Bool
  | 0,_,_=>none
  | af+1,ac,ae=>if (decide (ac<(aa.length:Int)))=true then (if (!decide (ab=ac))=true then ((Zp aa ab).bind fun ad=>(Zp aa ac).bind fun ag=>if (decide ((ad.size:Int)≤(ag.size:Int)))=true then (Z3 ((0:Int)≤0∧0≤(ad.size:Int)∧(ad.size:Int)≤(ag.size:Int)) (Zd5 ac ae (S4 N aa ab kk_L2 af) (decide ((ag.extract (Int.toNat 0) (Int.toNat (ad.size:Int)))=ad)))) else (Zd5 ac ae (S4 N aa ab kk_L2 af) false)) else (Zd5 ac ae (S4 N aa ab kk_L2 af) false)) else (kk_L2 (i64.wrap (ab+1)) ae)
termination_by structural x=>x
def Zak (N:Nat) (aa:List ByteArray):Nat→Int→Bool→Option Bool
  | 0,_,_=>none
  | ac+1,ab,ad=>if (decide (ab<(aa.length:Int)))=true then (S4 N aa ab (Zak N aa ac) N 0 ad) else (some true)
termination_by structural x=>x
def Zit (aa:Bool) (ab:List ByteArray):Option Bool:=
  some aa
def Zd6 (aa:List ByteArray) (kk_L1:(Bool→R4→Option Bool)) (ab:Re) (ac:Bool):Option Bool:=
  Z3 ((aa.length+([ab.1]:List ByteArray).length) * 16≤140737488355328∧aa.length+([ab.1]:List ByteArray).length≤maxLen) (kk_L1 ac (aa++([ab.1]:List ByteArray)))
def Zd7 (N:Nat) (ab:R0) (ae:Bool) (ac:List ByteArray) (kk_L1:(Bool→R4→Option Bool)) (aa:Re) (ad:(R1×Int)):Nat→Int→Bool→R2→R2→Option Bool
  | 0,_,_,_,_=>none
  | ak+1,aj,af,ag,ah=>(U4 N ((af,ag),ah) ((ad.1.1.1,ad.1.1.2),ad.1.2)).bind fun al=>if (decide (al<0))=true then ((V4 N ((af,ag),ah) ((af,ag),ah)).bind fun ai=>(Zd7 N ab ae ac kk_L1 aa ad ak) (i64.wrap (aj+1)) ai.1.1 ai.1.2 ai.2) else (if (decide ((i64.wrap (aj+1))<(aa.1.size:Int)))=true then (Zit false ac) else (if (decide (0<(aa.1.size:Int)))=true then (Z3 ((0:Int)≤0∧0≤(i64.wrap ((aa.1.size:Int) - 1))∧(i64.wrap ((aa.1.size:Int) - 1))≤(aa.1.size:Int)) ((Zcb N (ab.1,ab.2.1,ab.2.2.1,ab.2.2.2.1,ab.2.2.2.2) (aa.1.extract (Int.toNat 0) (Int.toNat (i64.wrap ((aa.1.size:Int) - 1))))).bind fun am=>if (!decide (am.2.2=70))=true then (Zit false ac) else (Zd6 ac kk_L1 aa ae))) else (Zd6 ac kk_L1 aa ae)))
termination_by structural x=>x
def Sb (N:Nat) (aa:R0):List Rf→Bool→R4→Option Bool
  | [],ad,ac=>Zak N ac N 0 ad
  | ab :: ae,ad,ac=>(Zag N ((ab.2.1.1,ab.2.1.2),ab.2.2)).bind fun ag=>if (decide (ag=0))=true then ((Sb N aa ae) ad ac) else ((Q9 N (aa.1,aa.2.1,aa.2.2.1,aa.2.2.2.1,aa.2.2.2.2) ab.1).bind fun af=>if (!decide (af.2=0))=true then (Zit false ac) else ((Zd3 N 1 1).bind fun ah=>Zd7 N aa ad ac (Sb N aa ae) af ah N 0 ab.2.1.1 ab.2.1.2 ab.2.2))
termination_by structural x=>x
def Zis (N:Nat) (aa:R0) (ab:Bool) (ac:Bool):Option Bool:=
  if ac=true then (some ab) else ((Zgd N (aa.1,aa.2.1,aa.2.2.1,aa.2.2.2.1,aa.2.2.2.2)).bind fun ad=>Sb N aa ad false ([]:List ByteArray))
def Zlk (N:Nat) (aa:R0):Option Bool:=
  (Zqf).bind fun ab=>(Zcp N (aa.1,aa.2.1,aa.2.2.1,aa.2.2.2.1,aa.2.2.2.2)).bind fun ac=>if (!ab)=true then (Zis N aa ab true) else (Zis N aa ab (!ac))
theorem Zzf (N:Nat) (col:Ze) (w0:World) (bj:Option Addr) (bk:Nat) (bm:Option Addr) (bn:Nat) (bo:Option Addr) (bp:Nat) (bq:Option Addr) (br:Nat) (ai:R0) (ae:Sl Za.str col w0 bj bk ai.2.1) (af:Sl (Za.slice Za.str) col w0 bm bn ai.2.2.1) (ag:Sl (Za.slice (Za.int .i64)) col w0 bo bp ai.2.2.2.1) (ah:Sl (Za.slice (Za.pair (Za.pair Za.bool (Za.slice (Za.int .u32))) (Za.slice (Za.int .u32)))) col w0 bq br ai.2.2.2.2) (r:Bool) (hm:Zlk N ai=some r):
    Calls prog 3 #[(.agg #[.string ai.1,.slice bj ai.2.1.length bk,.slice bm ai.2.2.1.length bn,.slice bo ai.2.2.2.1.length bp,.slice bq ai.2.2.2.2.length br])] w0 (fun e w'=>e= .returned ((.bool r))∧Below w0.heap.size w0 w'):=by
 refine Zrs (m:=133) (args:=[(.agg #[.string ai.1,.slice bj ai.2.1.length bk,.slice bm ai.2.2.1.length bn,.slice bo ai.2.2.2.1.length bp,.slice bq ai.2.2.2.2.length br])]) func3 rfl rfl rfl ?_;rw [Zlk.eq_1] at hm;have aa:=St.start col w0;replace ae:=ae.keep (Zl.start col w0);replace af:=af.keep (Zl.start col w0);replace ag:=ag.keep (Zl.start col w0);replace ah:=ah.keep (Zl.start col w0);have hmk:Yg 499 (Zk col) w0 []:=.nil;refine go ?_;refine Xv (col:=(Zk col)) 1 rfl ?_;intro cd gk e6 cp aj;refine Za9 (col:=e6) (v:=(.bool false)) 2 rfl zeroValue4 ?_;intro aq d8 cq ch ac;replace ac:Zj 4 2 cq d8 aq #[.bool false]:=ac;refine go ?_;obtain ⟨c0,e7,hm⟩:=bZ hm;refine lc rfl rfl (Zax call9) (Z2s cq _ c0 e7) ?_;rintro _ d9 ⟨rfl,b2⟩;refine ⟨_,rfl,?_⟩;replace b2:Zf cq d8 cq d9:=.of_below b2;refine go ?_;replace aj:=(aj.gr ch).gr b2;refine lV _ (Xb isAgg27 sizeOf27 aj) ?_;obtain ⟨e8,e9,hm⟩:=bZ hm;replace ae:=((ae.gr cp).gr ch).gr b2;replace af:=((af.gr cp).gr ch).gr b2;replace ag:=((ag.gr cp).gr ch).gr b2;replace ah:=((ah.gr cp).gr ch).gr b2;refine Zh (Zzi e9 ae af ag ah) ?_;rintro _ fa ⟨rfl,b3⟩;refine ⟨_,rfl,?_⟩;replace b3:Zf cq d9 cq fa:=.of_below b3;refine Zk7 rfl<|Zm<|Zv<|Zv ?_;replace hmk:=(((hmk.gr cp).gr ch).gr b2).gr b3;replace aa:=(((aa.grow cp).grow ch).grow b2).grow b3;replace ac:=(ac.gr b2).gr b3;replace ae:=ae.gr b3;replace af:=af.gr b3;replace ag:=ag.gr b3;replace ah:=ah.gr b3;replace aj:=aj.gr b3;refine Wp.cutK [] (fun f b7=>∃ bv dh,Zis N ai c0 dh=some r∧St w0 (Zk col) bv b7∧Sl Za.str bv b7 bj bk ai.2.1∧Sl (Za.slice Za.str) bv b7 bm bn ai.2.2.1∧Sl (Za.slice (Za.int .i64)) bv b7 bo bp ai.2.2.2.1∧Sl (Za.slice (Za.pair (Za.pair Za.bool (Za.slice (Za.int .u32))) (Za.slice (Za.int .u32)))) bv b7 bq br ai.2.2.2.2∧Zj 27 1 bv b7 cd #[.string ai.1,.slice bj ai.2.1.length bk,.slice bm ai.2.2.1.length bn,.slice bo ai.2.2.2.1.length bp,.slice bq ai.2.2.2.2.length br]∧Zj 4 2 bv b7 aq #[.bool false]∧Yg 499 bv b7 []∧[1,2,28,3,1000000].map f=[.pointer (some ⟨cd,0,none⟩),.pointer (some ⟨aq,0,none⟩),.bool dh,.bool c0,enc []]) ?_ ?_
 ·intro f b7 hJ;obtain ⟨bv,dh,hm,aa,ae,af,ag,ah,aj,ac,hmk,hs⟩:=hJ;rw [Zis.eq_1] at hm;refine .lL [1,2,28,3,1000000] hs ?_;refine Zq hm (fun hb hm=>go ?_) fun hb hm=>go ?_
  ·refine Ut (v:=(.bool c0)) ac sizeOf4 rfl rfl (by intro u hu;simp only [Value.cells,List.mem_cons,List.not_mem_nil,or_false] at hu;subst hu;rfl) rfl rfl ?_;intro fb ea fc c1;replace c1:Zj 4 2 bv fb aq #[.bool c0]:=c1;refine go ?_;cases hm;replace hmk:=hmk.kp ea;refine ⟨_,[],rfl,hmk,?_⟩;intro gl eb fd;replace aa:=(aa.kp ea fc).kp eb fd;replace c1:=c1.kp eb;exact ⟨_,Zhv rfl rfl isAgg4 rfl c1.at1,rfl,aa.below⟩
  refine Za9 (col:=bv) (v:=(.slice none (([]:List ByteArray).length) 0)) 3 rfl zeroValue22 ?_;intro bf fe ff ce ab;replace ab:Zj 22 3 ff fe bf #[.slice none (([]:List ByteArray).length) 0]:=ab;refine go ?_;replace aj:=aj.gr ce;refine lV _ (Xb isAgg27 sizeOf27 aj) ?_;obtain ⟨fg,fh,hm⟩:=bZ hm;replace ae:=ae.gr ce;replace af:=af.gr ce;replace ag:=ag.gr ce;replace ah:=ah.gr ce;refine Zh (Zza 4 fh ae af ag ah) ?_;rintro _ gm ⟨fi,di,rfl,b8,ec⟩;refine ⟨_,rfl,?_⟩;refine lv (v:=di) rfl rfl (V7 rfl)<|go ?_;refine lv (v:=di) rfl rfl (W2 rfl)<|lV (.bool false) (Z4p ec ⟨_,_,_,underlying31⟩ rfl)<|Zm<|X9 rfl<|go ?_;refine lv (v:=di) rfl rfl (W2 rfl)<|go ?_;replace ac:=(ac.gr ce).gr b8;replace hmk:=(hmk.gr ce).gr b8;replace aa:=(aa.grow ce).grow b8;replace ae:=ae.gr b8;replace af:=af.gr b8;replace ag:=ag.gr b8;replace ah:=ah.gr b8;replace aj:=aj.gr b8;replace ab:=ab.gr b8
  refine Znb (psl:=[35,36]) (arr:=(fun (y:List Int×R1) (col:Ze) (w:World) (args:List Value)=>∃ (a0:Option Addr) (ed:Nat) (a1_0_1:Option Addr) (c1_0_1:Nat) (ee:Option Addr) (ef:Nat),args=[.slice a0 y.1.length ed,.agg #[.bool y.2.1.1,.slice a1_0_1 y.2.1.2.length c1_0_1,.slice ee y.2.2.length ef]]∧Zc (Za.int .i64) 3 4 col w a0 ed y.1∧Sl (Za.int .u32) col w a1_0_1 c1_0_1 y.2.1.2∧Sl (Za.int .u32) col w ee ef y.2.2)) (ys:=fg) (col:=fi) 498 rfl ec rfl hmk rfl rfl (by rintro _ _ _ _ ⟨_,_,_,_,_,_,rfl,_⟩;rfl) (fun ys_ al ao=>∃ (ba:Bool) (am:Option Addr) (an:Nat) (ak:List ByteArray),Sb N ai ys_ ba ak=some r∧St w0 (Zk col) al ao∧Sl Za.str al ao bj bk ai.2.1∧Sl (Za.slice Za.str) al ao bm bn ai.2.2.1∧Sl (Za.slice (Za.int .i64)) al ao bo bp ai.2.2.2.1∧Sl (Za.slice (Za.pair (Za.pair Za.bool (Za.slice (Za.int .u32))) (Za.slice (Za.int .u32)))) al ao bq br ai.2.2.2.2∧Zj 27 1 al ao cd #[.string ai.1,.slice bj ai.2.1.length bk,.slice bm ai.2.2.1.length bn,.slice bo ai.2.2.2.1.length bp,.slice bq ai.2.2.2.2.length br]∧Zj 4 2 al ao aq #[.bool ba]∧Zc Za.str 9 5 al ao am an ak∧Zj 22 3 al ao bf #[.slice am ak.length an]) (fun c_ al ao=>(c_= .ret∧∃ (ba:Bool) (am:Option Addr) (an:Nat) (ak:List ByteArray),Zit ba ak=some r∧St w0 (Zk col) al ao∧Sl Za.str al ao bj bk ai.2.1∧Sl (Za.slice Za.str) al ao bm bn ai.2.2.1∧Sl (Za.slice (Za.int .i64)) al ao bo bp ai.2.2.2.1∧Sl (Za.slice (Za.pair (Za.pair Za.bool (Za.slice (Za.int .u32))) (Za.slice (Za.int .u32)))) al ao bq br ai.2.2.2.2∧Zj 27 1 al ao cd #[.string ai.1,.slice bj ai.2.1.length bk,.slice bm ai.2.2.1.length bn,.slice bo ai.2.2.2.1.length bp,.slice bq ai.2.2.2.2.length br]∧Zj 4 2 al ao aq #[.bool ba]∧Zc Za.str 9 5 al ao am an ak∧Zj 22 3 al ao bf #[.slice am ak.length an])) ?_ ?_ ⟨false,none,0,([]:List ByteArray),hm,aa,ae,af,ag,ah,aj,ac,Zc.nil,ab⟩ ?_ ?_ ?_
  ·intro ys_ al ao col2_ w2_ hJ hk;obtain ⟨ba,am,an,ak,hm,aa,ae,af,ag,ah,aj,ac,ad,ab⟩:=hJ;exact ⟨ba,am,an,ak,hm,aa.kpp hk rfl rfl,ae.kpp hk rfl,af.kpp hk rfl,ag.kpp hk rfl,ah.kpp hk rfl,aj.kpp hk rfl,ac.kpp hk rfl,ad.kpp hk rfl rfl,ab.kpp hk rfl⟩
  ·intro c_ al ao col2_ w2_ hX hk;obtain ⟨rfl,hX⟩:=hX;obtain ⟨ba,am,an,ak,hm,aa,ae,af,ag,ah,aj,ac,ad,ab⟩:=hX;exact ⟨rfl,⟨ba,am,an,ak,hm,aa.kpp hk rfl rfl,ae.kpp hk rfl,af.kpp hk rfl,ag.kpp hk rfl,ah.kpp hk rfl,aj.kpp hk rfl,ac.kpp hk rfl,ad.kpp hk rfl rfl,ab.kpp hk rfl⟩⟩
  ·intro eg gp eh gs ei al ao args hJ hrec hmk harr;obtain ⟨ba,am,an,ak,hm,aa,ae,af,ag,ah,aj,ac,ad,ab⟩:=hJ;rw [Sb.eq_2] at hm;have hki:=Zt.refl (pC 2) al ao;obtain ⟨gt,gu,gv,gw,gx,gy,rfl,dj,b4,b5⟩:=harr;refine go ?_;refine Xj (col:=al) #[.bool false,.slice none (([]:List Int).length) 0,.slice none (([]:List Int).length) 0] 6 zeroValue39 ?_;intro gz g0 cr bb fj;refine Zw fj ?_;intro g1 bc ej b6;refine Zm ?_;replace hrec:=(hrec.gr bb).kp bc;refine ⟨_,hrec,?_⟩;intro fk ek bd el hrec2;have hrec:=hrec2;refine go ?_;replace b6:=b6.kp bd;refine lV _ (Xb isAgg39 sizeOf39 b6) ?_;obtain ⟨g2,fl,hm⟩:=bZ hm;replace b4:=((b4.gr bb).kp bc).kp bd;replace b5:=((b5.gr bb).kp bc).kp bd;refine Zh (Znq fl b4 b5) ?_;rintro _ em ⟨rfl,aw⟩;refine ⟨_,rfl,?_⟩;replace aw:Zf cr fk cr em:=.of_below aw;refine go ?_;replace ae:=(((ae.gr bb).kp bc).kp bd).gr aw;replace af:=(((af.gr bb).kp bc).kp bd).gr aw;replace ag:=(((ag.gr bb).kp bc).kp bd).gr aw;replace ah:=(((ah.gr bb).kp bc).kp bd).gr aw;replace ad:=(((ad.gr bb).kp bc).kp bd).gr aw;replace dj:=(((dj.gr bb).kp bc).kp bd).gr aw;replace aj:=(((aj.gr bb).kp bc).kp bd).gr aw;replace ac:=(((ac.gr bb).kp bc).kp bd).gr aw;replace ab:=(((ab.gr bb).kp bc).kp bd).gr aw;replace hmk:=(((hmk.gr bb).kp bc).kp bd).gr aw;replace hki:=(((hki.gr bb).kp bc ej rfl).kp bd el rfl).gr aw;replace aa:=(((aa.grow bb).kp bc ej).kp bd el).grow aw;replace b4:=b4.gr aw;replace b5:=b5.gr aw;replace b6:=b6.gr aw;replace hrec:=hrec.gr aw;refine Zq hm (fun hb hm=>go ?_) fun hb hm=>go ?_
   ·exact ⟨_,hki,⟨ba,am,an,ak,hm,aa,ae,af,ag,ah,aj,ac,ad,ab⟩,hrec,hmk⟩
   refine lV _ (Xb isAgg27 sizeOf27 aj)<|Wt rfl ?_;obtain ⟨bg,fm,hm⟩:=bZ hm;refine Zh (Zq7 fm (ae.froz 4) (af.froz 4) (ag.froz 4) (ah.froz 4) (dj.toSlF (Zg.int .i64))) ?_;rintro _ fn ⟨rfl,ax⟩;refine ⟨_,rfl,?_⟩;replace ax:Zf cr em cr fn:=.of_below ax;refine lM (.tuple #[.string bg.1,.int .i64 bg.2])<|lV (.string bg.1) (Xf rfl rfl)<|lV (.int .i64 bg.2) (Xf rfl rfl)<|go ?_;replace ae:=ae.gr ax;replace af:=af.gr ax;replace ag:=ag.gr ax;replace ah:=ah.gr ax;replace ad:=ad.gr ax;replace b4:=b4.gr ax;replace b5:=b5.gr ax;replace aj:=aj.gr ax;replace ac:=ac.gr ax;replace ab:=ab.gr ax;replace b6:=b6.gr ax;replace hrec:=hrec.gr ax;replace hmk:=hmk.gr ax;replace hki:=hki.gr ax;replace aa:=aa.grow ax;refine Zq hm (fun hb hm=>go ?_) fun hb hm=>go ?_
   ·refine Ut (v:=(.bool false)) ac sizeOf4 rfl rfl (by intro u hu;simp only [Value.cells,List.mem_cons,List.not_mem_nil,or_false] at hu;subst hu;rfl) rfl rfl ?_;intro fp bw en dl;replace dl:Zj 4 2 cr fp aq #[.bool false]:=dl;refine go ?_;replace ae:=ae.kp bw;replace af:=af.kp bw;replace ag:=ag.kp bw;replace ah:=ah.kp bw;replace ad:=ad.kp bw;replace aj:=aj.kp bw;replace ab:=ab.kp bw;replace hrec:=hrec.kp bw;replace hmk:=hmk.kp bw;replace hki:=hki.kp bw en rfl;replace aa:=aa.kp bw en;exact ⟨_,hki,⟨rfl,⟨false,am,an,ak,hm,aa,ae,af,ag,ah,aj,dl,ad,ab⟩⟩,hrec,hmk⟩
   obtain ⟨bh,fq,hm⟩:=bZ hm;refine Zh (Zrb (col:=cr) 7 8 fq) ?_;rintro _ g3 ⟨fr,c8,c9,da,db,rfl,be,a6,a7⟩;refine ⟨_,rfl,?_⟩;refine lM (.tuple #[(.agg #[.bool bh.1.1.1,.slice c8 bh.1.1.2.length c9,.slice da bh.1.2.length db]),.int .i64 bh.2])<|lV (.agg #[.bool bh.1.1.1,.slice c8 bh.1.1.2.length c9,.slice da bh.1.2.length db]) (Xf rfl rfl)<|lV (.int .i64 bh.2) (Xf rfl rfl)<|Xj (col:=fr) #[.bool false,.slice none (([]:List Int).length) 0,.slice none (([]:List Int).length) 0] 9 zeroValue39 ?_;intro eo g4 ft ay fu;refine Zw fu ?_;intro g5 az ep a8;refine go ?_;replace b6:=((b6.gr be).gr ay).kp az;refine lV _ (Xb isAgg39 sizeOf39 b6)<|Xj (col:=ft) #[.bool false,.slice none (([]:List Int).length) 0,.slice none (([]:List Int).length) 0] 10 zeroValue39 ?_;intro g6 g7 g8 a1 fv;refine Zw fv ?_;intro g9 a2 eq fw;refine go ?_;replace ae:=((((ae.gr be).gr ay).kp az).gr a1).kp a2;replace af:=((((af.gr be).gr ay).kp az).gr a1).kp a2;replace ag:=((((ag.gr be).gr ay).kp az).gr a1).kp a2;replace ah:=((((ah.gr be).gr ay).kp az).gr a1).kp a2;replace ad:=((((ad.gr be).gr ay).kp az).gr a1).kp a2;replace b4:=((((b4.gr be).gr ay).kp az).gr a1).kp a2;replace b5:=((((b5.gr be).gr ay).kp az).gr a1).kp a2;replace aj:=((((aj.gr be).gr ay).kp az).gr a1).kp a2;replace ac:=((((ac.gr be).gr ay).kp az).gr a1).kp a2;replace ab:=((((ab.gr be).gr ay).kp az).gr a1).kp a2;replace hrec:=((((hrec.gr be).gr ay).kp az).gr a1).kp a2;replace hmk:=((((hmk.gr be).gr ay).kp az).gr a1).kp a2;replace hki:=((((hki.gr be).gr ay).kp az ep rfl).gr a1).kp a2 eq rfl;replace aa:=((((aa.grow be).grow ay).kp az ep).grow a1).kp a2 eq;replace a6:=(((a6.gr ay).kp az).gr a1).kp a2;replace a7:=(((a7.gr ay).kp az).gr a1).kp a2;replace a8:=(a8.gr a1).kp a2
   refine Z9 [] (fun n f ar=>∃ ap dm dn dp dq dr dc ds dt dd cs,cs=n∧Zd7 N ai ba ak (Sb N ai ei) bg bh cs dm dp dc dd=some r∧St w0 (Zk col) ap ar∧Sl Za.str ap ar bj bk ai.2.1∧Sl (Za.slice Za.str) ap ar bm bn ai.2.2.1∧Sl (Za.slice (Za.int .i64)) ap ar bo bp ai.2.2.2.1∧Sl (Za.slice (Za.pair (Za.pair Za.bool (Za.slice (Za.int .u32))) (Za.slice (Za.int .u32)))) ap ar bq br ai.2.2.2.2∧Zj 27 1 ap ar cd #[.string ai.1,.slice bj ai.2.1.length bk,.slice bm ai.2.2.1.length bn,.slice bo ai.2.2.2.1.length bp,.slice bq ai.2.2.2.2.length br]∧Zc (Za.int .u32) 95 7 ap ar c8 c9 bh.1.1.2∧Zc (Za.int .u32) 95 8 ap ar da db bh.1.2∧Zj 39 9 ap ar eo #[.bool bh.1.1.1,.slice c8 bh.1.1.2.length c9,.slice da bh.1.2.length db]∧Sl (Za.int .u32) ap ar dq dr dc∧Sl (Za.int .u32) ap ar ds dt dd∧Zj 39 10 ap ar dn #[.bool dp,.slice dq dc.length dr,.slice ds dd.length dt]∧Zj 4 2 ap ar aq #[.bool ba]∧Zc Za.str 9 5 ap ar am an ak∧Zj 22 3 ap ar bf #[.slice am ak.length an]∧Wg 498 ap ar eg ek∧Yg 499 ap ar eh∧Zt (pC 2) al ao ap ar∧[1,11,12,14,2,5,9,1000000].map f=[.pointer (some ⟨cd,0,none⟩),.int .i64 dm,.pointer (some ⟨eo,0,none⟩),.pointer (some ⟨dn,0,none⟩),.pointer (some ⟨aq,0,none⟩),.pointer (some ⟨bf,0,none⟩),.string bg.1,enc []]) N ⟨_,0,_,_,_,_,_,_,_,_,_,rfl,hm,aa,ae,af,ag,ah,aj,a6,a7,a8,b4,b5,fw,ac,ad,ab,hrec,hmk,hki,rfl⟩ ?_;clear hm;intro n f ar hI;obtain ⟨ap,dm,dn,dp,dq,dr,dc,ds,dt,dd,cs,hn,hm,aa,ae,af,ag,ah,aj,a6,a7,a8,ci,cj,de,ac,ad,ab,hrec,hmk,hki,hs⟩:=hI;subst hn;refine .lL [1,11,12,14,2,5,9,1000000] hs ?_
   cases cs with
   | zero=>rw [Zd7.eq_1] at hm;cases hm
   | succ cs=>
    rw [Zd7.eq_2] at hm;refine go ?_;refine lV _ (Xb isAgg39 sizeOf39 de)<|lV _ (Xb isAgg39 sizeOf39 a8) ?_;obtain ⟨ha,fx,hm⟩:=bZ hm;refine Zh (Zdr fx ((ci.froz 7).froz 8) ((cj.froz 7).froz 8) ((a6.toSlF (Zg.int .u32)).froz 8) ((a7.froz 7 (by decide)).toSlF (Zg.int .u32))) ?_;rintro _ fy ⟨rfl,au⟩;refine ⟨_,rfl,?_⟩;replace au:Zf ap ar ap fy:=.of_below au;refine go ?_;replace ae:=ae.gr au;replace af:=af.gr au;replace ag:=ag.gr au;replace ah:=ah.gr au;replace a6:=a6.gr au;replace a7:=a7.gr au;replace ci:=ci.gr au;replace cj:=cj.gr au;replace ad:=ad.gr au;replace aj:=aj.gr au;replace a8:=a8.gr au;replace de:=de.gr au;replace ac:=ac.gr au;replace ab:=ab.gr au;replace hrec:=hrec.gr au;replace hmk:=hmk.gr au;replace hki:=hki.gr au;replace aa:=aa.grow au;refine Zq hm (fun hb hm=>go ?_) fun hb hm=>go ?_
    ·refine lV _ (Xb isAgg39 sizeOf39 de)<|go ?_;refine Xj (col:=ap) #[.bool false,.slice none (([]:List Int).length) 0,.slice none (([]:List Int).length) 0] 11 zeroValue39 ?_;intro hc hd he a3 fz;refine Zw fz ?_;intro hf a4 er c3;refine go ?_;refine lV _ (Xb isAgg39 sizeOf39 c3)<|lV _ (Xb isAgg39 sizeOf39 c3) ?_;obtain ⟨hg,f0,hm⟩:=bZ hm;replace ci:=(ci.gr a3).kp a4;replace cj:=(cj.gr a3).kp a4;refine Zh (Zb2 12 13 f0 ci cj ci cj) ?_;rintro _ hh ⟨hi,hj,hl,ho,hp,rfl,a9,b9,ca⟩;refine ⟨_,rfl,?_⟩;replace c3:=c3.gr a9;refine Zw c3 ?_;intro hq a5 es ck;refine Zm ?_;replace ae:=(((ae.gr a3).kp a4).gr a9).kp a5;replace ae:=ae.froz 12;replace af:=(((af.gr a3).kp a4).gr a9).kp a5;replace af:=af.froz 12;replace ag:=(((ag.gr a3).kp a4).gr a9).kp a5;replace ag:=ag.froz 12;replace ah:=(((ah.gr a3).kp a4).gr a9).kp a5;replace ah:=ah.froz 12;replace a6:=(((a6.gr a3).kp a4).gr a9).kp a5;replace a6:=a6.froz 12 (by decide);replace a7:=(((a7.gr a3).kp a4).gr a9).kp a5;replace a7:=a7.froz 12 (by decide);replace ad:=(((ad.gr a3).kp a4).gr a9).kp a5;replace ad:=ad.froz 12 (by decide);replace b9:=b9.kp a5;replace b9:=(b9).toSlF (Zg.int .u32);replace ca:=ca.kp a5;replace ca:=ca.froz 12 (by decide);replace aj:=(((aj.gr a3).kp a4).gr a9).kp a5;replace aj:=aj.froz 12 (by decide);replace a8:=(((a8.gr a3).kp a4).gr a9).kp a5;replace a8:=a8.froz 12 (by decide);replace ac:=(((ac.gr a3).kp a4).gr a9).kp a5;replace ac:=ac.froz 12 (by decide);replace ab:=(((ab.gr a3).kp a4).gr a9).kp a5;replace ab:=ab.froz 12 (by decide);replace ck:=ck.froz 12 (by decide);replace hrec:=(((hrec.gr a3).kp a4).gr a9).kp a5;replace hrec:=hrec.froz 12 (by decide);replace hmk:=(((hmk.gr a3).kp a4).gr a9).kp a5;replace hmk:=hmk.froz 12 (by decide);replace hki:=(((hki.gr a3).kp a4 er rfl).gr a9).kp a5 es rfl;replace hki:=hki.froz 12 rfl;replace aa:=(((aa.grow a3).kp a4 er).grow a9).kp a5 es;replace aa:=aa.froz 12 (by decide) (by decide);replace ae:=ae.froz 13;replace af:=af.froz 13;replace ag:=ag.froz 13;replace ah:=ah.froz 13;replace a6:=a6.froz 13 (by decide)
     replace a7:=a7.froz 13 (by decide);replace ad:=ad.froz 13 (by decide);replace b9:=b9.froz 13;replace ca:=(ca).toSlF (Zg.int .u32);replace aj:=aj.froz 13 (by decide);replace a8:=a8.froz 13 (by decide);replace ac:=ac.froz 13 (by decide);replace ab:=ab.froz 13 (by decide);replace ck:=ck.froz 13 (by decide);replace hrec:=hrec.froz 13 (by decide);replace hmk:=hmk.froz 13 (by decide);replace hki:=hki.froz 13 rfl;replace aa:=aa.froz 13 (by decide) (by decide);replace ae:=ae.recol 11 10 (by decide);replace af:=af.recol 11 10 (by decide);replace ag:=ag.recol 11 10 (by decide);replace ah:=ah.recol 11 10 (by decide);replace a6:=a6.recol 11 10 (by decide);replace a7:=a7.recol 11 10 (by decide);replace ad:=ad.recol 11 10 (by decide);replace b9:=b9.recol 11 10 (by decide);replace ca:=ca.recol 11 10 (by decide);replace aj:=aj.recol 11 10 (by decide);replace a8:=a8.recol 11 10 (by decide);replace ac:=ac.recol 11 10 (by decide);replace ab:=ab.recol 11 10 (by decide);replace ck:=ck.recolSelf 10;replace hrec:=hrec.recol 11 10 (by decide);replace hmk:=hmk.recol 11 10 (by decide);replace hki:=hki.recol 11 10 rfl;replace aa:=aa.recol 11 10 (by decide) (by decide);exact ⟨cs,by omega,rfl,⟨_,_,_,_,_,_,_,_,_,_,_,rfl,hm,aa,ae,af,ag,ah,aj,a6,a7,a8,b9,ca,ck,ac,ad,ab,hrec,hmk,hki,rfl⟩⟩
    refine Zq hm (fun hb hm=>go ?_) fun hb hm=>?_
    ·refine Ut (v:=(.bool false)) ac sizeOf4 rfl rfl (by intro u hu;simp only [Value.cells,List.mem_cons,List.not_mem_nil,or_false] at hu;subst hu;rfl) rfl rfl ?_;intro f1 bx et du;replace du:Zj 4 2 ap f1 aq #[.bool false]:=du;refine go ?_;replace ae:=ae.kp bx;replace af:=af.kp bx;replace ag:=ag.kp bx;replace ah:=ah.kp bx;replace ad:=ad.kp bx;replace aj:=aj.kp bx;replace ab:=ab.kp bx;replace hrec:=hrec.kp bx;replace hmk:=hmk.kp bx;replace hki:=hki.kp bx et rfl;replace aa:=aa.kp bx et;exact ⟨_,hki,⟨rfl,⟨false,am,an,ak,hm,aa,ae,af,ag,ah,aj,du,ad,ab⟩⟩,hrec,hmk⟩
    refine X3<|Zv ?_;refine Wp.cutK [] (fun f bs=>∃ bi df,Zd6 ak (Sb N ai ei) bg df=some r∧St w0 (Zk col) bi bs∧Sl Za.str bi bs bj bk ai.2.1∧Sl (Za.slice Za.str) bi bs bm bn ai.2.2.1∧Sl (Za.slice (Za.int .i64)) bi bs bo bp ai.2.2.2.1∧Sl (Za.slice (Za.pair (Za.pair Za.bool (Za.slice (Za.int .u32))) (Za.slice (Za.int .u32)))) bi bs bq br ai.2.2.2.2∧Zj 27 1 bi bs cd #[.string ai.1,.slice bj ai.2.1.length bk,.slice bm ai.2.2.1.length bn,.slice bo ai.2.2.2.1.length bp,.slice bq ai.2.2.2.2.length br]∧Zj 4 2 bi bs aq #[.bool df]∧Zc Za.str 9 5 bi bs am an ak∧Zj 22 3 bi bs bf #[.slice am ak.length an]∧Wg 498 bi bs eg ek∧Yg 499 bi bs eh∧Zt (pC 2) al ao bi bs∧[1,2,5,9,1000000].map f=[.pointer (some ⟨cd,0,none⟩),.pointer (some ⟨aq,0,none⟩),.pointer (some ⟨bf,0,none⟩),.string bg.1,enc []]) ?_ ?_
    ·intro f bs hJ;obtain ⟨bi,df,hm,aa,ae,af,ag,ah,aj,ac,ad,ab,hrec,hmk,hki,hs⟩:=hJ;rw [Zd6.eq_1] at hm;refine .lL [1,2,5,9,1000000] hs<|Wq<|lW ab.at1<|lMT rfl<|Zk9 (col:=bi) ([bg.1]:List ByteArray) 14 ?_;intro hr f2 f3 bu f4;obtain ⟨eu,hm⟩:=Z6 hm;replace ad:=ad.gr bu;refine Zfq (col:=f3) (w:=f2) (r:=Za.str) (c:=5) (c2:=5) (ad.ex) (f4.srcN NB.str) rfl underlying22 Z1w rfl rfl rfl eu.1 eu.2 (by decide) ?_;intro dv dw ht f5 bz dx;replace ae:=(ae.gr bu).kpp bz;replace af:=(af.gr bu).kpp bz;replace ag:=(ag.gr bu).kpp bz;replace ah:=(ah.gr bu).kpp bz;replace aj:=(aj.gr bu).kpp bz;replace ac:=(ac.gr bu).kpp bz;replace ab:=(ab.gr bu).kpp bz;replace hrec:=(hrec.gr bu).kpp bz;replace hmk:=(hmk.gr bu).kpp bz;replace hki:=hki.gr bu;replace hki:=hki.trans (bz.mono (by first | exact Zpj rfl | exact pCo_p1 rfl | exact pCo_pS rfl | exact fun _=>Zpi | exact fun _ h=>h | exact fun _ _=>rfl));refine Ut (v:=(.slice dv ((ak++([bg.1]:List ByteArray)).length) dw)) ab sizeOf22 rfl rfl (by intro u hu;simp only [Value.cells,List.mem_cons,List.not_mem_nil,or_false] at hu;subst hu;rfl) rfl rfl ?_;intro f6 b0 ew dy;replace dy:Zj 22 3 f5 f6 bf #[.slice dv ((ak++([bg.1]:List ByteArray)).length) dw]:=dy;replace dx:=dx.kp b0;have f7:=dx.new;refine Zm ?_;replace aa:=((aa.grow bu).kpp bz).kp b0 ew;replace ae:=ae.kp b0;replace af:=af.kp b0;replace ag:=ag.kp b0;replace ah:=ah.kp b0;replace aj:=aj.kp b0;replace ac:=ac.kp b0;replace hrec:=hrec.kp b0;replace hmk:=hmk.kp b0;replace hki:=hki.kp b0 ew rfl;exact ⟨_,hki,⟨df,dv,dw,(ak++([bg.1]:List ByteArray)),hm,aa,ae,af,ag,ah,aj,ac,f7,dy⟩,hrec,hmk⟩
    refine go ?_;refine Zq hm (fun hb hm=>?_) fun hb hm=>?_
    ·refine Zv<|Wi (col:=ap) [(0,0),(1,1),(2,1),(3,1),(4,1),(5,1),(6,3),(7,1),(8,1),(9,1),(10,1),(11,1),(12,1),(13,1)] (by kernel_rfl) (by kernel_rfl)<|xv rfl rfl (fun _ hC=>Xb isAgg27 sizeOf27 (aj.gr (hC.bl ap))) ?_;refine xu rfl rfl (fun _=>Zpy rfl) ?_;refine xu rfl rfl (fun _=>Zpy rfl) ?_;refine xu rfl rfl (fun _=>Zpv underlying9 rfl) ?_;refine xu rfl rfl (fun _=>Zj9 _ _ rfl rfl) ?_;obtain ⟨f8,hm⟩:=Z6 hm;refine xu (v:=(.string (bg.1.extract (Int.toNat 0) (Int.toNat (i64.wrap ((bg.1.size:Int) - 1)))))) rfl rfl (fun _=>Zws underlying9 rfl rfl f8) ?_;refine xe rfl rfl ?_;intro hv hC0;have hC:=hC0.bl ap;obtain ⟨ct,f9,hm⟩:=bZ hm;replace ae:=ae.gr hC;replace af:=af.gr hC;replace ag:=ag.gr hC;replace ah:=ah.gr hC;refine Zh (Zq6 15 f9 ae af ag ah) ?_;rintro _ hw ⟨dz,ey,ez,rfl,bt,hx⟩;refine ⟨_,rfl,?_⟩;refine Zm<|X4 dz hC0 bt<|xu (v:=(.tuple #[.slice ey ct.1.length ez,.int .i64 ct.2.1,.int .i64 ct.2.2])) rfl rfl (fun _=>W2 rfl) ?_;refine xu (v:=(.slice ey ct.1.length ez)) rfl rfl (fun _=>Xf rfl rfl) ?_;refine xu (v:=(.int .i64 ct.2.1)) rfl rfl (fun _=>Xf rfl rfl) ?_;refine xu (v:=(.int .i64 ct.2.2)) rfl rfl (fun _=>Xf rfl rfl) ?_;refine xu rfl rfl (fun _=>Zmv rfl) ?_;refine xu rfl rfl (fun _=>Zhs rfl) ?_;refine xu rfl rfl (fun _=>Zhs rfl) ?_;refine Wf ?_;replace ad:=(ad.gr hC).gr bt;replace aj:=(aj.gr hC).gr bt;replace ac:=(ac.gr hC).gr bt;replace ab:=(ab.gr hC).gr bt;replace hrec:=(hrec.gr hC).gr bt;replace hmk:=(hmk.gr hC).gr bt;replace hki:=(hki.gr hC).gr bt;replace aa:=(aa.grow hC).grow bt;intro hy hC;replace hC:=hC.bl dz;refine go ?_;replace ae:=(ae.gr bt).gr hC;replace af:=(af.gr bt).gr hC;replace ag:=(ag.gr bt).gr hC;replace ah:=(ah.gr bt).gr hC;replace ad:=ad.gr hC;replace aj:=aj.gr hC;replace ac:=ac.gr hC;replace ab:=ab.gr hC;replace hrec:=hrec.gr hC;replace hmk:=hmk.gr hC;replace hki:=hki.gr hC;replace aa:=aa.grow hC;refine Zq hm (fun hb hm=>go ?_) fun hb hm=>?_
     ·refine Ut (v:=(.bool false)) ac sizeOf4 rfl rfl (by intro u hu;simp only [Value.cells,List.mem_cons,List.not_mem_nil,or_false] at hu;subst hu;rfl) rfl rfl ?_;intro ga b1 e0 d0;replace d0:Zj 4 2 dz ga aq #[.bool false]:=d0;refine go ?_;replace ae:=ae.kp b1;replace af:=af.kp b1;replace ag:=ag.kp b1;replace ah:=ah.kp b1;replace ad:=ad.kp b1;replace aj:=aj.kp b1;replace ab:=ab.kp b1;replace hrec:=hrec.kp b1;replace hmk:=hmk.kp b1;replace hki:=hki.kp b1 e0 rfl;replace aa:=aa.kp b1 e0;exact ⟨_,hki,⟨rfl,⟨false,am,an,ak,hm,aa,ae,af,ag,ah,aj,d0,ad,ab⟩⟩,hrec,hmk⟩
     refine X3 ?_;exact ⟨rfl,_,_,hm,aa,ae,af,ag,ah,aj,ac,ad,ab,hrec,hmk,hki,rfl⟩
    refine X3 ?_;exact ⟨rfl,_,_,hm,aa,ae,af,ag,ah,aj,ac,ad,ab,hrec,hmk,hki,rfl⟩
  ·intro cf al ao hJ hmk;obtain ⟨ba,am,an,ak,hm,aa,ae,af,ag,ah,aj,ac,ad,ab⟩:=hJ;rw [Sb.eq_1] at hm;refine go ?_;refine Z9 [] (fun n f cu=>∃ cl cn d1 cb,cb=n∧Zak N ak cb cn d1=some r∧St w0 (Zk col) cl cu∧Zj 4 2 cl cu aq #[.bool d1]∧Zc Za.str 9 5 cl cu am an ak∧Zj 22 3 cl cu bf #[.slice am ak.length an]∧Yg 499 cl cu (cf :: [])∧[18,2,5,1000000].map f=[.int .i64 cn,.pointer (some ⟨aq,0,none⟩),.pointer (some ⟨bf,0,none⟩),enc (cf :: [])]) N ⟨_,0,_,_,rfl,hm,aa,ac,ad,ab,hmk,rfl⟩ ?_;clear hm;intro n f cu hI;obtain ⟨cl,cn,d1,cb,hn,hm,aa,ac,ad,ab,hmk,hs⟩:=hI;subst hn;refine .lL [18,2,5,1000000] hs ?_
   cases cb with
   | zero=>rw [Zak.eq_1] at hm;cases hm
   | succ cb=>
    rw [Zak.eq_2] at hm;refine go ?_;refine lW ab.at1<|go ?_;refine Zq hm (fun hb hm=>go ?_) fun hb hm=>go ?_
    ·refine Z9 [] (fun n f cv=>∃ av c4 c5 cg,cg=n∧S4 N ak cn (Zak N ak cb) cg c4 c5=some r∧St w0 (Zk col) av cv∧Zj 4 2 av cv aq #[.bool c5]∧Zc Za.str 9 5 av cv am an ak∧Zj 22 3 av cv bf #[.slice am ak.length an]∧Yg 499 av cv (cf :: [])∧[18,19,2,5,1000000].map f=[.int .i64 cn,.int .i64 c4,.pointer (some ⟨aq,0,none⟩),.pointer (some ⟨bf,0,none⟩),enc (cf :: [])]) N ⟨_,0,_,_,rfl,hm,aa,ac,ad,ab,hmk,rfl⟩ ?_;clear hm;intro n f cv hI;obtain ⟨av,c4,c5,cg,hn,hm,aa,ac,ad,ab,hmk,hs⟩:=hI;subst hn;refine .lL [18,19,2,5,1000000] hs ?_
     cases cg with
     | zero=>rw [S4.eq_1] at hm;cases hm
     | succ cg=>
      rw [S4.eq_2] at hm;refine go ?_;refine lW ab.at1<|go ?_;refine Zq hm (fun hb hm=>?_) fun hb hm=>go ?_
      ·refine X3<|Zv ?_;refine Wp.cutK [18,19,2,5,1000000] (fun f cw=>∃ cx d2,Zll c4 (S4 N ak cn (Zak N ak cb) cg) d2=some r∧St w0 (Zk col) cx cw∧Zj 4 2 cx cw aq #[.bool d2]∧Zc Za.str 9 5 cx cw am an ak∧Zj 22 3 cx cw bf #[.slice am ak.length an]∧Yg 499 cx cw (cf :: [])) ?_ ?_
       ·intro f cw hJ;obtain ⟨cx,d2,hm,aa,ac,ad,ab,hmk⟩:=hJ;rw [Zll.eq_1] at hm;refine go ?_;exact ⟨cg,by omega,rfl,⟨_,_,_,_,rfl,hm,aa,ac,ad,ab,hmk,rfl⟩⟩
       refine Ze6<|Zv ?_;refine Wp.cutK [18,19,2,5,1000000] (fun f cy=>∃ co d3,Zd5 c4 c5 (S4 N ak cn (Zak N ak cb) cg) d3=some r∧St w0 (Zk col) co cy∧Zj 4 2 co cy aq #[.bool c5]∧Zc Za.str 9 5 co cy am an ak∧Zj 22 3 co cy bf #[.slice am ak.length an]∧Yg 499 co cy (cf :: [])∧[132].map f=[.bool d3]) ?_ ?_
       ·intro f cy hJ;obtain ⟨co,d3,hm,aa,ac,ad,ab,hmk,hs⟩:=hJ;rw [Zd5.eq_1] at hm;refine .lL [132] hs ?_;refine Zq hm (fun hb hm=>go ?_) fun hb hm=>?_
        ·refine Ut (v:=(.bool false)) ac sizeOf4 rfl rfl (by intro u hu;simp only [Value.cells,List.mem_cons,List.not_mem_nil,or_false] at hu;subst hu;rfl) rfl rfl ?_;intro gb e1 gc c6;replace c6:Zj 4 2 co gb aq #[.bool false]:=c6;refine go ?_;cases hm;replace hmk:=hmk.kp e1;refine ⟨_,(cf :: []),rfl,hmk,?_⟩;intro hz e2 gd;replace aa:=(aa.kp e1 gc).kp e2 gd;replace c6:=c6.kp e2;exact ⟨_,Zhv rfl rfl isAgg4 rfl c6.at1,rfl,aa.below⟩
        refine X3 ?_;exact ⟨rfl,_,_,hm,aa,ac,ad,ab,hmk⟩
       refine Un (col:=av) (by kernel_rfl) (by kernel_rfl)<|go ?_;refine X8 hm (fun d4 hm=>go ?_) fun d4 hm=>go ?_
       ·refine qW (fun _ hC=>ab.at1.gr (hC.bl av)) ?_;refine go ?_;obtain ⟨dg,cc,hm⟩:=bZ hm;refine qI cc (ad.addr cc) ?_;refine go ?_;refine qW (fun _ hC=>(ad.gr (hC.bl av)).atStr cc) ?_;refine go ?_;refine qW (fun _ hC=>ab.at1.gr (hC.bl av)) ?_;refine go ?_;obtain ⟨d5,cz,hm⟩:=bZ hm;refine qI cz (ad.addr cz) ?_;refine go ?_;refine qW (fun _ hC=>(ad.gr (hC.bl av)).atStr cz) ?_;refine go ?_;refine qv (v:=(.bool (decide ((dg.size:Int)≤(d5.size:Int))))) rfl (fun _ hC=>Xr (congrArg Value.bool d4) rfl) ?_;refine go ?_;refine X8 hm (fun d6 hm=>go ?_) fun d6 hm=>go ?_
        ·refine qW (fun _ hC=>ab.at1.gr (hC.bl av)) ?_;refine go ?_;refine qI cz (ad.addr cz) ?_;refine go ?_;refine qW (fun _ hC=>(ad.gr (hC.bl av)).atStr cz) ?_;refine go ?_;refine qW (fun _ hC=>ab.at1.gr (hC.bl av)) ?_;refine go ?_;refine qI cc (ad.addr cc) ?_;refine go ?_;refine qW (fun _ hC=>(ad.gr (hC.bl av)).atStr cc) ?_;refine go ?_;obtain ⟨ge,hm⟩:=Z6 hm;refine qv (v:=(.string (d5.extract (Int.toNat 0) (Int.toNat (dg.size:Int))))) rfl (fun _ hC=>Zws underlying9 rfl rfl ge) ?_;refine go ?_;refine qW (fun _ hC=>ab.at1.gr (hC.bl av)) ?_;refine go ?_;refine qI cc (ad.addr cc) ?_;refine go ?_;refine qW (fun _ hC=>(ad.gr (hC.bl av)).atStr cc) ?_;refine go ?_;refine qv (v:=(.bool (decide ((d5.extract (Int.toNat 0) (Int.toNat (dg.size:Int)))=dg)))) rfl (fun _ hC=>Xr (congrArg Value.bool d6) rfl) ?_;refine Wv ?_;intro h0 hC;replace hC:=hC.bl av;replace ad:=ad.gr hC;replace ac:=ac.gr hC;replace ab:=ab.gr hC;replace hmk:=hmk.gr hC;replace aa:=aa.grow hC;exact ⟨rfl,_,_,hm,aa,ac,ad,ab,hmk,rfl⟩
        refine qv (v:=(.bool false)) rfl (fun _ hC=>Xh (congrArg Value.bool d6) rfl) ?_;refine Wv ?_;intro h1 hC;replace hC:=hC.bl av;replace ad:=ad.gr hC;replace ac:=ac.gr hC;replace ab:=ab.gr hC;replace hmk:=hmk.gr hC;replace aa:=aa.grow hC;exact ⟨rfl,_,_,hm,aa,ac,ad,ab,hmk,rfl⟩
       refine qv (v:=(.bool false)) rfl (fun _ hC=>Xh (congrArg Value.bool d4) rfl) ?_;refine go ?_;refine qP 116 rfl rfl<|qP 116 rfl rfl<|qP 116 rfl rfl<|qP 116 rfl rfl<|qP 116 rfl rfl<|qP 116 rfl rfl<|qP 116 rfl rfl<|qP 116 rfl rfl<|qP 116 rfl rfl<|qP 116 rfl rfl<|qP 116 rfl rfl<|qP 116 rfl rfl<|qP 116 rfl rfl<|qP 116 rfl rfl<|qP 116 rfl rfl<|qv (v:=(.bool false)) rfl (fun _ hC=>Xh rfl rfl) ?_;refine Wv ?_;intro h2 hC;replace hC:=hC.bl av;replace ad:=ad.gr hC;replace ac:=ac.gr hC;replace ab:=ab.gr hC;replace hmk:=hmk.gr hC;replace aa:=aa.grow hC;exact ⟨rfl,_,_,hm,aa,ac,ad,ab,hmk,rfl⟩
      exact ⟨cb,by omega,rfl,⟨_,_,_,_,rfl,hm,aa,ac,ad,ab,hmk,rfl⟩⟩
    refine Ut (v:=(.bool true)) ac sizeOf4 rfl rfl (by intro u hu;simp only [Value.cells,List.mem_cons,List.not_mem_nil,or_false] at hu;subst hu;rfl) rfl rfl ?_;intro gf e3 gg c7;replace c7:Zj 4 2 cl gf aq #[.bool true]:=c7;refine go ?_;cases hm;replace hmk:=hmk.kp e3;refine ⟨_,(cf :: []),rfl,hmk,?_⟩;intro h3 e4 gh;replace aa:=(aa.kp e3 gg).kp e4 gh;replace c7:=c7.kp e4;exact ⟨_,Zhv rfl rfl isAgg4 rfl c7.at1,rfl,aa.below⟩
  intro c_ gi al ao hX hmk;obtain ⟨rfl,hX⟩:=hX;obtain ⟨ba,am,an,ak,hm,aa,ae,af,ag,ah,aj,ac,ad,ab⟩:=hX;rw [Zit.eq_1] at hm;refine W4 ?_;cases hm;refine ⟨_,(gi :: []),rfl,hmk,?_⟩;intro h4 e5 gj;replace ac:=ac.kp e5;replace aa:=aa.kp e5 gj;exact ⟨_,Zhv rfl rfl isAgg4 rfl ac.at1,rfl,aa.below⟩
 refine go ?_;refine X8 hm (fun d7 hm=>go ?_) fun d7 hm=>go ?_
 ·refine lV (.bool true) (Xr (congrArg Value.bool d7) rfl)<|Zm ?_;exact ⟨rfl,_,_,hm,aa,ae,af,ag,ah,aj,ac,hmk,rfl⟩
 refine lV (.bool (!e8)) (Xh (congrArg Value.bool d7) rfl)<|Zm ?_;exact ⟨rfl,_,_,hm,aa,ae,af,ag,ah,aj,ac,hmk,rfl⟩
structure Cd (n:Z2) (ord:List Int) (B:Nat) (c:List Int×Nat×Nat):Prop where
 v:X2 n c.1
 b:c.2.2<2 ^ c.2.1
 lo:(Xe n c.1 ord (0,1)).1≤mkRat (c.2.2:Int) (2 ^ c.2.1)
 hi:mkRat ((c.2.2:Int)+1) (2 ^ c.2.1)≤(Xe n c.1 ord (0,1)).2
 sz:c.2.1≤B
def Tn (c:List Int×Nat×Nat):ByteArray:=Yl (Yi c.2.2 c.2.1)
theorem Zqz (c:List Int×Nat×Nat):(Tn c).size=c.2.1:=by rw [Tn,Zh9,Zdo]
/-! doubling -/
theorem Z5z (p:Rat) (k:Nat):p * mkRat ((2 ^ k:Nat):Int) 1+p * mkRat ((2 ^ k:Nat):Int) 1=p * mkRat ((2 ^ (k+1):Nat):Int) 1:=by
 rw [← Rat.mul_add,Zjy _ _ (D:=1) (by decide)]
 congr 2
 rw [Nat.pow_succ];omega
theorem Z5y {p:Rat} {k:Nat} (h:1≤p * mkRat ((2 ^ k:Nat):Int) 1):mkRat 1 (2 ^ k)≤p:=by
 have e1:mkRat ((2 ^ k:Nat):Int) 1 * mkRat 1 (2 ^ k)=1:=by
  rw [Rat.mkRat_mul_mkRat,Int.mul_one,Nat.one_mul,show (1:Rat)=mkRat 1 1 from rfl,Zjz (Sk k) (by decide)]
  generalize (2 ^ k:Nat)=Z
  omega
 have h0:(0:Rat)≤mkRat 1 (2 ^ k):=by
  rw [← Rat.not_lt,show (0:Rat)=mkRat 0 1 from rfl,Ve (Sk k) (by decide)]
  generalize (2 ^ k:Nat)=Z
  omega
 have h1:=Rat.mul_le_mul_of_nonneg_right h h0
 rw [Rat.one_mul,Rat.mul_assoc,e1,Rat.mul_one] at h1
 exact h1
section
variable {N W K B:Nat} {n:Z2} (hf:Yq N n) (hs:Wk n W) (hr:Xi N (8 * K+40)) (hWK:1025 * (W+2)+15≤K) (hN:2199023255552<N) {ord:List Int} (ho:V0 n.2.2.2.1 ord) (hol:ord.length≤12)
variable (hall:∀ i,i<n.2.1.length→(i:Int) ∈ ord)
include hf ho hall hN
omit hN in
theorem Zsc (L:List (List Int×Nat×Nat)) (hL:∀ c ∈ L,Cd n ord B c) (hnd:(L.map (·.1)).Nodup) (hll:L.length≤1048576) {i:Nat} (hi:i<L.length) (kk:Int→Bool→Option Bool):∀ (f k:Nat) (v:Bool),k≤L.length→L.length<f+k→S4 N (L.map Tn) (i:Int) kk f (k:Int) v=kk ((i+1:Nat):Int) v
 | 0,k,v,h1,h2=>by omega
 | f+1,k,v,h1,h2=>by
  rw [S4.eq_2,List.length_map]
  have ih:=Zsc L hL hnd hll hi kk f (k+1) v
  by_cases hk:k<L.length
  ·have ih:=ih (by omega) (by omega)
   have fin:Zd5 (k:Int) v (S4 N (L.map Tn) (i:Int) kk f) false=kk ((i+1:Nat):Int) v:=by
    rw [Zd5,if_neg (by decide),Zll,wS (by omega)]
    exact ih
   rw [if_pos (dT (by omega))]
   by_cases hik:i=k
   ·rw [if_neg (by rw [decide_eq_true (by omega)];decide)];exact fin
   ·have ci:=hL _ (List.getElem_mem hi)
    have ck:=hL _ (List.getElem_mem hk)
    have ai:Zp (L.map Tn) (i:Int)=some (Tn L[i]):=by rw [Xk (by rw [List.length_map];exact hi),List.getElem_map]
    have ak:Zp (L.map Tn) (k:Int)=some (Tn L[k]):=by rw [Xk (by rw [List.length_map];exact hk),List.getElem_map]
    have hne:L[i].1≠L[k].1:=fun e=>by
     have h3:=(List.nodup_iff_pairwise_ne.1 hnd)
     have h4:∀ (a b:Nat) (ha:a<L.length) (hb:b<L.length),a<b→L[a].1≠L[b].1:=fun a b ha hb hab=>by
      have:=(List.pairwise_iff_getElem.1 h3) a b (by rw [List.length_map];exact ha) (by rw [List.length_map];exact hb) hab
      rwa [List.getElem_map,List.getElem_map] at this
     rcases Nat.lt_or_gt_of_ne hik with h | h
     ·exact h4 i k hi hk h e
     ·exact h4 k i hk hi h e.symm
    rw [if_pos (by rw [decide_eq_false (by omega)];rfl),ai,oB,ak,oB,Zqz,Zqz]
    by_cases hsz:L[i].2.1≤L[k].2.1
    ·have hna:=Z3v hf ho hall ci.v ck.v hne ci.b ci.lo ci.hi ck.b ck.lo ck.hi hsz
     have hsi:=ci.sz;have hsk:=ck.sz
     rw [if_pos (dT (by omega)),Xg (by omega),Int.toNat_natCast,show Int.toNat 0=0 from rfl,decide_eq_false (show ¬ (Tn L[k]).extract 0 L[i].2.1=Tn L[i] from hna)]
     exact fin
    ·rw [if_neg (dF (by omega))];exact fin
  ·rw [if_neg (dF (by omega)),wS (by omega)]
theorem Zsb (L:List (List Int×Nat×Nat)) (hL:∀ c ∈ L,Cd n ord B c) (hnd:(L.map (·.1)).Nodup) (hll:L.length≤1048576):∀ (f i:Nat) (v:Bool),i≤L.length→L.length<f+i→Zak N (L.map Tn) f (i:Int) v=some true
 | 0,i,v,h1,h2=>by omega
 | f+1,i,v,h1,h2=>by
  rw [Zak.eq_2,List.length_map]
  by_cases hi:i<L.length
  ·rw [if_pos (dT (by omega))]
   exact (Zsc hf ho hall L hL hnd hll hi _ N 0 v (Nat.zero_le _) (by omega)).trans (Zsb L hL hnd hll f (i+1) v (by omega) (by omega))
  ·rw [if_neg (dF (by omega))]
omit hf ho hall hN in
include hr in
theorem Zsd (l:List ByteArray) (kk:Bool→List ByteArray→Option Bool) (bits:ByteArray) (R:Option Bool) {p:Rat} {P:Nat} (hp:qs p≤P) (hPK:2 * P+12≤K) {E:Nat} (hE:1≤p * mkRat ((2 ^ E:Nat):Int) 1) (hEb:E≤32 * P+2) (hbs:bits.size≤1099511627776)
  (hlen:∀ k,1≤p * mkRat ((2 ^ k:Nat):Int) 1→bits.size≤k+1) (hdec:0<bits.size→Zcb N n (bits.extract 0 (bits.size - 1))=some ([],0,70)) (hR:Zd6 l kk (bits,0) false=R):
  ∀ (m k g:Nat),k+m=E→m<g→Zd7 N n false l kk (bits,0) (Zn 1,0) g (k:Int) (Zn (p * mkRat ((2 ^ k:Nat):Int) 1)).1.1 (Zn (p * mkRat ((2 ^ k:Nat):Int) 1)).1.2 (Zn (p * mkRat ((2 ^ k:Nat):Int) 1)).2=R
 | m,k,0,_,h=>by omega
 | m,k,g+1,hk,hg=>by
  have qk:qs (p * mkRat ((2 ^ k:Nat):Int) 1)≤2 * P+3:=by
   have h1:=Zdi p (mkRat ((2 ^ k:Nat):Int) 1)
   have h2:qs (mkRat ((2 ^ k:Nat):Int) 1)≤k / 32+1:=Zpp k
   omega
  have cm:U4 N (((Zn (p * mkRat ((2 ^ k:Nat):Int) 1)).1.1,(Zn (p * mkRat ((2 ^ k:Nat):Int) 1)).1.2),(Zn (p * mkRat ((2 ^ k:Nat):Int) 1)).2) (((Zn 1).1.1,(Zn 1).1.2),(Zn 1).2)=some (Vt (p * mkRat ((2 ^ k:Nat):Int) 1) 1):=by
   have:=Zdv (N:=N) (Y4 qk) (Y4 (Nat.le_of_eq Zhr)) (hr.mono (by omega))
   rwa [Y3,Y3] at this
  rw [Zd7.eq_2]
  dsimp only
  rw [cm,oB]
  by_cases hlt:p * mkRat ((2 ^ k:Nat):Int) 1<1
  ·have hm:m≠0:=fun h=>by
    subst h
    rw [Nat.add_zero] at hk
    subst hk
    exact absurd hE (Rat.not_le.2 hlt)
   obtain ⟨m,rfl⟩:∃ m',m=m'+1:=⟨m - 1,by omega⟩
   have ad:=Zb7 (N:=N) (Y4 qk) (Y4 qk) (hr.mono (by omega))
   rw [Y3,Z5z] at ad
   have ad':V4 N (((Zn (p * mkRat ((2 ^ k:Nat):Int) 1)).1.1,(Zn (p * mkRat ((2 ^ k:Nat):Int) 1)).1.2),(Zn (p * mkRat ((2 ^ k:Nat):Int) 1)).2) (((Zn (p * mkRat ((2 ^ k:Nat):Int) 1)).1.1,(Zn (p * mkRat ((2 ^ k:Nat):Int) 1)).1.2),(Zn (p * mkRat ((2 ^ k:Nat):Int) 1)).2)=_:=ad
   have hroom:=hr.2
   rw [if_pos (dT (Zmq.2 hlt)),ad',oB,wS (by omega)]
   exact Zsd l kk bits R hp hPK hE hEb hbs hlen hdec hR m (k+1) g (by omega) (by omega)
  ·have h1:1≤p * mkRat ((2 ^ k:Nat):Int) 1:=Rat.not_lt.1 hlt
   have h2:=hlen k h1
   have hroom:=hr.2
   rw [if_neg (by rw [decide_eq_false fun h=>hlt (Zmq.1 h)];decide),wS (by omega),if_neg (dF (by omega))]
   by_cases h0:0<bits.size
   ·have hd:=hdec h0
    have hd':Zcb N (n.1,n.2.1,n.2.2.1,n.2.2.2.1,n.2.2.2.2) (bits.extract (Int.toNat 0) (bits.size - 1))=some ([],0,70):=hd
    rw [if_pos (dT (by omega)),Zz (by omega),Xg (by omega),show Int.toNat ((bits.size:Int) - 1)=bits.size - 1 by omega,hd',oB]
    dsimp only
    rw [if_neg (show ¬ (!decide ((70:Int)=70))=true by decide)]
    exact hR
   ·rw [if_neg (dF (by omega))]
    exact hR
variable (hC:Vn N n=some 0) (o1:Te N n.2.2.2.1=some (ord,0))
include hs hr hWK hol hC o1
theorem Zob (hB2:64 * (12 * (W+2)+2)+65≤B) (hln:n.2.1.length≤12) (hP:Ya (X1 n)≤300):∀ (m k:Nat) (L:List (List Int×Nat×Nat)),k+m=Ya (X1 n)→(∀ c ∈ L,Cd n ord B c∧∃ j,j<k∧c.1=Y5 (X1 n) j)→(L.map (·.1)).Nodup→L.length≤k→
  Sb N n (Za3 n k m) false (L.map Tn)=some true
 | 0,k,L,hk,hL,hnd,hll=>by
  rw [Za3,Sb.eq_1]
  exact Zsb hf hN ho hall L (fun c hc=>(hL c hc).1) hnd (by omega) N 0 false (Nat.zero_le _) (by omega)
 | m+1,k,L,hk,hL,hnd,hll=>by
  have hpos:=Zm6 hf
  have hd:=Zod (X1 n) k hpos (by omega)
  have hw:=Zsx hf hd
  have hin:(decide ((Y5 (X1 n) k).length=n.2.1.length)&&Vm n (Y5 (X1 n) k) 0)=true:=Z2o hw
  obtain ⟨e1,e2⟩:=Z1y hf hs hr hWK hN ho hol hC o1 hw hin
  have hsp:=Z5q hf ho hw hall
  obtain ⟨i1,i2,i3⟩:=Zkc hf ho hw ord (0,1) (fun _ h=>h) (show (0:Rat)≤1 by decide)
  have pq:qs (Vz n (Y5 (X1 n) k) n.2.1.length 0 1)≤12 * (W+1)+1:=by
   have h1:=Zv4 hf hs hw n.2.1.length 0 1 (by omega) (by rw [Zhr];omega)
   have h2:n.2.1.length * (W+1)≤12 * (W+1):=Nat.mul_le_mul_right _ hln
   rw [Nat.zero_add] at h1
   omega
  have sg:Zag N (((Zn (Vz n (Y5 (X1 n) k) n.2.1.length 0 1)).1.1,(Zn (Vz n (Y5 (X1 n) k) n.2.1.length 0 1)).1.2),(Zn (Vz n (Y5 (X1 n) k) n.2.1.length 0 1)).2)=some (Qb (Vz n (Y5 (X1 n) k) n.2.1.length 0 1)):=by
   have:=Zoj (N:=N) (Y4 pq) (hr.mono (by omega))
   rwa [Y3] at this
  rw [Za3,Sb.eq_2]
  dsimp only
  rw [sg,oB]
  generalize hpp:Vz n (Y5 (X1 n) k) n.2.1.length 0 1=p at *
  have hdj:∀ j,j<k→Y5 (X1 n) j≠Y5 (X1 n) k:=fun j hj e=>by
   have a1:=Zpl (X1 n) j hpos (by omega)
   have a2:=Zpl (X1 n) k hpos (by omega)
   rw [e,a2] at a1;omega
  generalize hwk:Y5 (X1 n) k=w at *
  by_cases h0:p=0
  ·rw [if_pos (dT (Zwi.2 h0))]
   exact Zob hB2 hln hP m (k+1) L (by omega) (fun c hc=>⟨(hL c hc).1,by obtain ⟨j,j1,j2⟩:=(hL c hc).2;exact ⟨j,by omega,j2⟩⟩) hnd (by omega)
  ·have hne:(Xe n w ord (0,1)).1≠(Xe n w ord (0,1)).2:=fun e=>h0 (by rw [← hsp,e];grind)
   have hp0:0<p:=by
    have:0≤p:=by rw [← hsp];grind
    rcases Rat.le_iff_lt_or_eq.1 this with h | h
    ·exact h
    ·exact absurd h.symm h0
   obtain ⟨q,b,enc,qK,qB,hb1,lo,hi,mn⟩:=e2 hne
   have enc':Q9 N (n.1,n.2.1,n.2.2.1,n.2.2.2.1,n.2.2.2.2) w=some (Yl (Yi b q),0):=enc
   have fo:Zd3 N 1 1=some (Zn 1,0):=by
    have:=Ztp (N:=N) (a:=1) (b:=1) (by omega) (by omega) (hr.mono (by omega))
    rw [if_neg (by decide)] at this
    rw [this]
    have e:(((1:Int):Rat) / ((1:Int):Rat))=1:=div_one _
    rw [e]
   have hsz:(Yl (Yi b q)).size=q:=by rw [Zh9,Zdo]
   have hcd:Cd n ord B (w,q,b):=⟨hw,hb1,lo,hi,by show q≤B;omega⟩
   have ih:=Zob hB2 hln hP m (k+1) (L++[(w,q,b)]) (by omega) (fun c hc=>by
    rcases List.mem_append.1 hc with h | h
    ·obtain ⟨j,j1,j2⟩:=(hL c h).2
     exact ⟨(hL c h).1,j,by omega,j2⟩
    ·rw [List.mem_singleton] at h;subst h
     exact ⟨hcd,k,by omega,hwk.symm⟩) (by
    rw [List.map_append,List.map_singleton]
    refine List.nodup_append.2 ⟨hnd,by simp,fun a ha c hc=>?_⟩
    rw [List.mem_singleton] at hc;subst hc
    obtain ⟨x,hx,rfl⟩:=List.mem_map.1 ha
    obtain ⟨j,j1,j2⟩:=(hL x hx).2
    rw [j2];exact hdj j j1) (by rw [nA,List.length_singleton];omega)
   rw [List.map_append,List.map_singleton] at ih
   have hJ:Zd6 (L.map Tn) (Sb N n (Za3 n (k+1) m)) (Yl (Yi b q),0) false=some true:=by
    rw [Zd6,Xg (by simp only [List.length_map,List.length_singleton,maxLen];omega)]
    exact ih
   -- how often it is doubled
   have hd0:=p.den_nz
   have hE:1≤p * mkRat ((2 ^ (Z0 p.den+1):Nat):Int) 1:=by
    have h3:p.den<2 ^ Z0 p.den:=Vi.1 (Nat.le_refl _)
    have h4:=Zqx hp0 (Z:=2 ^ (Z0 p.den+1)) (by rw [Nat.pow_succ];omega)
    exact Rat.le_trans (by decide) h4
   have hEb:Z0 p.den+1≤32 * (12 * (W+1)+1)+2:=by
    have h5:=(Zdp p.den).2
    have h6:(Zd p.den).length≤qs p:=Nat.le_max_right _ _
    omega
   have hroom:=hr.2
   have L4:=Zsd (n:=n) hr (L.map Tn) (Sb N n (Za3 n (k+1) m)) (Yl (Yi b q)) (some true) pq (by omega) hE hEb (by rw [hsz];omega) (fun j hj=>by
    rw [hsz]
    have h7:=Z5y hj
    rw [← hsp] at h7
    have h8:=Z13 h7
    rcases Nat.lt_or_ge (j+1) q with h | h
    ·exact absurd h8 (mn (j+1) h)
    ·exact h) (fun h9=>by
    rw [hsz] at h9 ⊢
    exact Z07 hf hs hr hWK hN ho hol hC o1 hall hw h9 qK (by omega) hb1 lo hi mn) hJ (Z0 p.den+1) 0 N (by omega) (by have:=hr.1;omega)
   have e0:p * mkRat ((2 ^ 0:Nat):Int) 1=p:=by
    have:mkRat ((2 ^ 0:Nat):Int) 1=1:=rfl
    rw [this,Rat.mul_one]
   rw [e0] at L4
   rw [if_neg (by rw [decide_eq_false fun h=>h0 (Zwi.1 h)];decide),enc',oB]
   dsimp only
   rw [if_neg (show ¬ (!decide ((0:Int)=0))=true by decide),fo,oB]
   exact L4
end
theorem Zyh {N W K:Nat} {n:Z2} (hs:Wk n W) (hb:Zh3 n) (hq:∀ t ∈ n.2.2.2.2,Yb (t.map Wy)≤W) (hr:Xi N (8 * K+40)) (hWK:1025 * (W+2)+15≤K) (hN:2199023255552<N):Zlk N n=some true:=by
 obtain ⟨b,sm,hb2⟩:=Z5l (N:=N) hs hb (hr.mono (by omega)) (by omega)
 have sm':Zcp N (n.1,n.2.1,n.2.2.1,n.2.2.2.1,n.2.2.2.2)=some b:=sm
 rw [Zlk,Zqf,oB,sm',oB,if_neg (by decide),Zis]
 cases b with
 | false=>rw [if_pos (by decide)]
 | true=>
  obtain ⟨hC,hf,h12⟩:=hb2 rfl
  have few:=Z5m hf hs sm
  obtain ⟨l,o1,o2,o3,o4,o5⟩:=hf.or
  have hp:=hf.ev.p
  have hroom:=hr.2
  have ho:V0 n.2.2.2.1 l:=Z34 (by omega) hs.pn.ls (by omega) o2 o4
  have ja:Zgd N (n.1,n.2.1,n.2.2.1,n.2.2.2.1,n.2.2.2.2)=some (Za3 n 0 (Ya (X1 n))):=Z2q hf hs hr (by omega) (by omega) hq (show Ya (X1 n)≤65536 by omega)
  rw [if_neg (by decide),ja,oB]
  exact Zob (B:=64 * (12 * (W+2)+2)+65) hf hs hr hWK hN ho (by omega) (Z33 o4 o5 hp) hC o1 (Nat.le_refl _) h12 few (Ya (X1 n)) 0 [] (by omega) (fun c hc=>by cases hc) List.nodup_nil (Nat.le_refl _)
theorem Zba {α:Type} {b:α→Nat} (hb:∀ x,1≤b x):∀ (l:List α),l.length+1≤X6 b l
 | []=>by simp [X6]
 | x :: l=>by
  have h:=Zba hb l
  have:=hb x
  simp only [X6,List.map_cons,List.sum_cons,nC] at h ⊢
  omega
theorem Zjx {α:Type} {b:α→Nat} {x:α}:∀ {l:List α},x ∈ l→b x+1≤X6 b l
 | y :: l,h=>by
  simp only [X6,List.map_cons,List.sum_cons]
  rcases List.mem_cons.1 h with rfl | h
  ·omega
  ·have:=Zjx (b:=b) h
   simp only [X6] at this
   omega
theorem Znn {α:Type} {b:α→Nat} (l:List α):1≤X6 b l:=by simp only [X6];omega
theorem Zkp (s:ByteArray):1≤Ur s:=by simp only [Ur];omega
theorem Znl {α:Type} (s:α):1≤Vc s:=by simp only [Vc];omega
theorem Zyt {α:Type} {b:α→Nat} (s:α):1≤U2 b s:=by simp only [U2];omega
abbrev Q4:QV→Nat:=U2 (Vh (U2 (Vh Vc (X6 Vc))) (X6 Vc))
abbrev qQ:QV→Prop:=Sm (Sm (fun _=>True) (Vy (Zb0 .u32))) (Vy (Zb0 .u32))
abbrev Zh5:Z2→Nat:=U2 (Vh Ur (Vh (X6 Ur) (Vh (X6 (X6 Ur)) (Vh (X6 (X6 Vc)) (X6 (X6 Q4))))))
abbrev Zpm:Z2→Prop:=Sm (fun _=>True) (Sm (Vy (fun _=>True)) (Sm (Vy (Vy (fun _=>True))) (Sm (Vy (Vy (Zb0 .i64))) (Vy (Vy qQ)))))
theorem Zun {l:List Int} (h:Vy (Zb0 .u32) l):Zo l:=by
 intro d hd
 have h1:=h d hd
 simp [Zb0,Lit.wf,IntKind.min,IntKind.max,IntKind.signed,IntKind.bits] at h1
 omega
theorem Zum {x:QV} (h:qQ x):Vr x:=⟨Zun h.1.2,Zun h.2⟩
theorem Znm (x:QV):x.1.2.length+x.2.length+4≤Q4 x:=by
 have h1:=Zba (b:=Vc) Znl x.1.2
 have h2:=Zba (b:=Vc) Znl x.2
 simp only [U2,Vh]
 have h3:Vc x.1.1=1:=rfl
 omega
theorem Zwc:∀ t:List QV,Yb t≤X6 Q4 t
 | []=>by rw [Yb];omega
 | x :: t=>by
  have h1:=Zwc t
  have h2:=Znm x
  rw [Yb]
  simp only [X6,List.map_cons,List.sum_cons] at h1 ⊢
  omega
theorem Zx7:∀ P:List R2,Tk P+P.length≤X6 (X6 Vc) P
 | []=>by simp [Tk,X6]
 | l :: P=>by
  have h1:=Zx7 P
  have h2:=Zba (b:=Vc) Znl l
  rw [Zke,nC]
  simp only [X6,List.map_cons,List.sum_cons] at h1 h2 ⊢
  omega
theorem Z3r {n:Z2} (hb:Zh5 n≤1048576) (hq:Zpm n):Wk n 1048576∧Zh3 n:=by
 have a1:=Zkp n.1
 have a2:=Zba (b:=Ur) Zkp n.2.1
 have a3:=Zba (b:=X6 Ur) Znn n.2.2.1
 have a4:=Zx7 n.2.2.2.1
 have a5:=Zba (b:=X6 Q4) Znn n.2.2.2.2
 have a6:=Znn (b:=X6 Vc) n.2.2.2.1
 simp only [Zh5,U2,Vh] at hb
 have b3:∀ l ∈ n.2.2.1,l.length≤1048576:=fun l hl=>by
  have h1:=Zjx (b:=X6 Ur) hl
  have h2:=Zba (b:=Ur) Zkp l
  omega
 have b4:∀ l ∈ n.2.2.2.1,l.length≤1048576:=fun l hl=>by
  have h1:=Zm7 hl
  omega
 have b5:∀ t ∈ n.2.2.2.2,X6 Q4 t≤1048576:=fun t ht=>by
  have h1:=Zjx (b:=X6 Q4) ht
  omega
 have b6:∀ t ∈ n.2.2.2.2,t.length≤1048576:=fun t ht=>by
  have h1:=b5 t ht
  have h2:=Zba (b:=Q4) Zyt t
  omega
 refine ⟨⟨by omega,b3,⟨by omega,by omega⟩,b6,fun t ht=>Nat.le_trans (Zwc t) (b5 t ht),fun t ht x hx=>Zum (hq.2.2.2.2 t ht x hx)⟩,⟨by omega,by omega,b3,by omega,b4,by omega,b6,fun t ht x hx=>?_⟩⟩
 have h1:=b5 t ht
 have h2:=Zjx (b:=Q4) hx
 have h3:=Znm x
 omega
theorem Zr8:∀ t:List QV,(∀ x ∈ t,Vr x)→Yb (t.map Wy)≤X6 Q4 t
 | [],_=>by rw [List.map_nil,Yb];omega
 | x :: t,h=>by
  have h1:=Zr8 t fun y hy=>h y (List.mem_cons_of_mem _ hy)
  have h2:=Znm x
  have hx:=h x List.mem_cons_self
  have h3:=Zwf (Zdk hx.1 hx.2)
  have h4:max (Wy x).1.2.length (Wy x).2.length=qs (Zu x):=rfl
  rw [List.map_cons,Yb,h4]
  simp only [X6,List.map_cons,List.sum_cons] at h1 ⊢
  omega
theorem Z3q {n:Z2} (hb:Zh5 n≤1048576) (hq:Zpm n):∀ t ∈ n.2.2.2.2,Yb (t.map Wy)≤1048576:=fun t ht=>by
 have h1:=Zr8 t fun x hx=>Zum (hq.2.2.2.2 t ht x hx)
 have h2:=Zjx (b:=X6 Q4) ht
 have a1:=Zkp n.1
 simp only [Zh5,U2,Vh] at hb
 omega

end Go.Proofs.YtkhnlgdenkikoaaGreat
