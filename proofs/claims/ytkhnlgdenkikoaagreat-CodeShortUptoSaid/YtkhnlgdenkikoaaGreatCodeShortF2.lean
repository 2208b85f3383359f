/-
  What functions of the program compute, as plain Lean functions (m_..), and proofs that they compute it (c_..). Printed by a program of the author; no conditions.
-/
import Derived.Test.YtkhnlgdenkikoaaGreatCodeShortBFloat
import Derived.Test.YtkhnlgdenkikoaaGreatProg
import Derived.Test.YtkhnlgdenkikoaaGreatCodeShortBBrief
import Derived.Test.YtkhnlgdenkikoaaGreatCodeShortF1
set_option linter.unusedVariables false
set_option maxRecDepth 100000
set_option maxHeartbeats 2000000
namespace Go.Proofs.YtkhnlgdenkikoaaGreat
open Go Go.RowKit
open Go.IntKind (i8 i16 i32 i64 u8 u16 u32 u64)
open Go.Proofs.Tryz

def Qq (N:Nat) (aa:R1) (ab:R1):Option R1:=
  (V5 N ((ab.1.1,ab.1.2),ab.2)).bind fun ag=>(Zai N (aa.1.1,aa.1.2) ag).bind fun ad=>(V5 N ((aa.1.1,aa.1.2),aa.2)).bind fun ah=>(Zai N (ab.1.1,ab.1.2) ah).bind fun ae=>(Zex N (ad.1,ad.2) (ae.1,ae.2)).bind fun af=>(V5 N ((aa.1.1,aa.1.2),aa.2)).bind fun ai=>(V5 N ((ab.1.1,ab.1.2),ab.2)).bind fun aj=>(Zap N ai aj).bind fun ak=>(Zah N af.1 af.2 ak).bind fun ac=>some ((ac.1.1,ac.1.2),ac.2)
theorem Znr {N bo bz bp b0:Nat} {bq b1 br b2:Option Addr} {col:Ze} {w0:World} {aj ak r:R1} (c1 c2:Nat) (hm:Qq N aj ak=some r) (ba:Sl (Za.int .u32) col w0 bq bo aj.1.2) (bs:Sl (Za.int .u32) col w0 b1 bz aj.2) (bb:Sl (Za.int .u32) col w0 br bp ak.1.2) (bt:Sl (Za.int .u32) col w0 b2 b0 ak.2):
    Calls prog 63 #[(.agg #[.bool aj.1.1,.slice bq aj.1.2.length bo,.slice b1 aj.2.length bz]),(.agg #[.bool ak.1.1,.slice br ak.1.2.length bp,.slice b2 ak.2.length b0])] w0 (fun e w'=>∃ (col':Ze) (ra1:Option Addr) (rc2:Nat) (ra4:Option Addr) (rc5:Nat),e= .returned ((.agg #[.bool r.1.1,.slice ra1 r.1.2.length rc2,.slice ra4 r.2.length rc5]))∧Zf col w0 col' w'∧Zc (Za.int .u32) 95 c1 col' w' ra1 rc2 r.1.2∧Zc (Za.int .u32) 95 c2 col' w' ra4 rc5 r.2):=by
 refine Y2 (m:=27) func63 rfl rfl rfl ?_;rw [Qq.eq_1] at hm;have aa:=St.start col w0;refine go ?_;refine Xv (col:=(Zk col)) 1 rfl ?_;intro cd c9 ce cf ae;refine Xv (col:=ce) 2 rfl ?_;intro cg da ch ca af;refine Xj (col:=ch) #[.bool false,.slice none (([]:List Int).length) 0,.slice none (([]:List Int).length) 0] 3 zeroValue39 ?_;intro db a4 ay b3 ab;refine go ?_;have bu:=Zt.clip (fun _=>false) ay a4;refine Zhx (col:=ay) [(0,1),(1,0),(2,0),(5,1),(6,0),(7,0),(3,3),(4,3),(8,3),(9,3),(10,3),(11,4),(12,2)] (by kernel_rfl) (by kernel_rfl) ⟨fun h=>absurd h (by decide),fun h=>absurd h (by decide),fun h=>absurd h (by decide),fun h=>absurd h (by decide),fun h=>absurd h (by decide),fun h=>absurd h (by decide),fun h=>absurd h (by decide),fun h=>absurd h (by decide),fun h=>absurd h (by decide),fun h=>absurd h (by decide),fun h=>absurd h (by decide),fun _=>⟨_,_,_,rfl,Tq zeroValue37⟩,fun h=>absurd h (by decide),trivial⟩<|Yr (v:=(.pointer ((some (⟨cd,0,none⟩:Addr)).map (·.add 0)))) rfl rfl (fun _=>Sn (sz:=2) (off:=0) underlying39 rfl sizeOf37 (by decide) rfl rfl ⟨_,_,rfl⟩) ?_;replace ae:=((ae.gr ca).gr b3).kpp bu;refine W7 (v:=(.agg #[.bool aj.1.1,.slice bq aj.1.2.length bo])) rfl rfl (fun _ hC=>Xt isAgg37 sizeOf37 rfl rfl (((ae.atN).part 0 2 _ rfl).gr (hC.bl (Zi a4 ay)))) ?_;replace af:=(af.gr b3).kpp bu;refine W7 (v:=(.agg #[.bool ak.1.1,.slice br ak.1.2.length bp,.slice b2 ak.2.length b0])) rfl rfl (fun _ hC=>Xt isAgg39 sizeOf39 rfl rfl (af.atN.gr (hC.bl (Zi a4 ay)))) ?_;refine Yr (v:=(.pointer ((some (⟨cg,0,none⟩:Addr)).map (·.add 0)))) rfl rfl (fun _=>Sn (sz:=2) (off:=0) underlying39 rfl sizeOf37 (by decide) rfl rfl ⟨_,_,rfl⟩) ?_;refine W7 (v:=(.agg #[.bool ak.1.1,.slice br ak.1.2.length bp])) rfl rfl (fun _ hC=>Xt isAgg37 sizeOf37 rfl rfl (((af.atN).part 0 2 _ rfl).gr (hC.bl (Zi a4 ay)))) ?_;refine W7 (v:=(.agg #[.bool aj.1.1,.slice bq aj.1.2.length bo,.slice b1 aj.2.length bz])) rfl rfl (fun _ hC=>Xt isAgg39 sizeOf39 rfl rfl (ae.atN.gr (hC.bl (Zi a4 ay)))) ?_;refine Vb rfl rfl ?_;intro dc hC0;have hC:=hC0.bl (Zi a4 ay);obtain ⟨dd,ci,hm⟩:=bZ hm;replace bb:=bb.keep (Zl.start col w0);replace bt:=bt.keep (Zl.start col w0);replace aa:=((((aa.grow cf).grow ca).grow b3).kpp bu).grow hC;refine Zh (Tb 4 ci (bb.ks aa) (bt.ks aa)) ?_;rintro _ ao ⟨au,de,df,rfl,az,b4⟩;refine ⟨_,rfl,?_⟩
 refine Zm ?_;refine ⟨fun w'=>Zf (Zi ao au) ao (Zi ao au) w',fun g=>(Zi ao au) g=497,Zf.refl _ _,W6,fun _=>⟨fun _ h=>Uc hC0 az h,fun b hb=>az.below.block b hb,fun g x1 x2=>Ug az g x1 (by first | exact x2 | (simp only [Xn,x2];rfl) | (simp only [Xn,Xc,x2];rfl))⟩,?_⟩;have bc:=Zt.clip (fun _=>false) au ao;refine Vb rfl rfl ?_;intro cj hC0;replace ab:=(((ab.kpp bu).gr hC).gr az).kpp bc;replace ae:=((ae.gr hC).gr az).kpp bc;replace af:=((af.gr hC).gr az).kpp bc;have hC:=hC0.bl (Zi ao au);obtain ⟨dg,ck,hm⟩:=bZ hm;replace ba:=ba.keep (Zl.start col w0);replace aa:=((aa.grow az).kpp bc).grow hC;replace b4:=(b4.kpp bc).gr hC;refine Zh (Zff 5 ck ((ba.ks aa).froz 4) (b4.toSlF (Zg.int .u32))) ?_;rintro _ a5 ⟨cl,dh,di,rfl,am,ap⟩;refine ⟨_,rfl,?_⟩;replace bs:=bs.keep (Zl.start col w0);replace ap:=ap.thaw (Zy .u32) am ((Fz.refl (col:=(Zi ao au))).froz 4) (by decide);replace am:=am.thawR (col:=(Zi ao au));generalize Z7 cj.heap.size (Zi ao au) cl=bd at *;refine Zm ?_;refine ⟨fun w'=>Zf (Zi a5 bd) a5 (Zi a5 bd) w',fun g=>(Zi a5 bd) g=497,Zf.refl _ _,W6,fun _=>⟨fun _ h=>Uc hC0 am h,fun b hb=>am.below.block b hb,fun g x1 x2=>Ug am g x1 (by first | exact x2 | (simp only [Xn,x2];rfl) | (simp only [Xn,Xc,x2];rfl))⟩,?_⟩;have be:=Zt.clip (fun _=>false) bd a5;refine Vb rfl rfl ?_;intro dj hC0;replace ae:=((ae.gr hC).gr am).kpp be;replace af:=((af.gr hC).gr am).kpp be;replace ab:=((ab.gr hC).gr am).kpp be;have hC:=hC0.bl (Zi a5 bd);obtain ⟨dl,cn,hm⟩:=bZ hm;replace aa:=((aa.grow am).kpp be).grow hC;refine Zh (Tb 6 cn (ba.ks aa) (bs.ks aa)) ?_;rintro _ aq ⟨av,dm,dn,rfl,aw,b5⟩;refine ⟨_,rfl,?_⟩;refine Zm ?_;refine ⟨fun w'=>Zf (Zi aq av) aq (Zi aq av) w',fun g=>(Zi aq av) g=497,Zf.refl _ _,W6,fun _=>⟨fun _ h=>Uc hC0 aw h,fun b hb=>aw.below.block b hb,fun g x1 x2=>Ug aw g x1 (by first | exact x2 | (simp only [Xn,x2];rfl) | (simp only [Xn,Xc,x2];rfl))⟩,?_⟩;have a6:=Zt.clip (fun _=>false) av aq;refine Vb rfl rfl ?_;intro co hC0;replace ap:=(((ap.kpp be).gr hC).gr aw).kpp a6;replace ae:=((ae.gr hC).gr aw).kpp a6;replace af:=((af.gr hC).gr aw).kpp a6;replace ab:=((ab.gr hC).gr aw).kpp a6;have hC:=hC0.bl (Zi aq av)
 obtain ⟨dp,cp,hm⟩:=bZ hm;replace aa:=((aa.grow aw).kpp a6).grow hC;replace b5:=(b5.kpp a6).gr hC;refine Zh (Zff 7 cp ((bb.ks aa).froz 6) (b5.toSlF (Zg.int .u32))) ?_;rintro _ ar ⟨cq,dq,dr,rfl,al,bf⟩;refine ⟨_,rfl,?_⟩;replace bf:=bf.thaw (Zy .u32) al ((Fz.refl (col:=(Zi aq av))).froz 6) (by decide);replace al:=al.thawR (col:=(Zi aq av));generalize Z7 co.heap.size (Zi aq av) cq=ax at *;refine Zm ?_;refine ⟨fun w'=>Zf (Zi ar ax) ar (Zi ar ax) w',fun g=>(Zi ar ax) g=497,Zf.refl _ _,W6,fun _=>⟨fun _ h=>Uc hC0 al h,fun b hb=>al.below.block b hb,fun g x1 x2=>Ug al g x1 (by first | exact x2 | (simp only [Xn,x2];rfl) | (simp only [Xn,Xc,x2];rfl))⟩,?_⟩;have a7:=Zt.clip (fun _=>false) ax ar;refine Vb rfl rfl ?_;intro cr hC0;replace ap:=((ap.gr hC).gr al).kpp a7;replace ae:=((ae.gr hC).gr al).kpp a7;replace af:=((af.gr hC).gr al).kpp a7;replace ab:=((ab.gr hC).gr al).kpp a7;have hC:=hC0.bl (Zi ar ax);obtain ⟨ds,cs,hm⟩:=bZ hm;replace bf:=(bf.kpp a7).gr hC;replace ap:=ap.gr hC;refine Zh (Zrq 8 cs ((ap.toSlF (Zg.int .u32)).froz 7) ((bf.froz 5 (by decide)).toSlF (Zg.int .u32))) ?_;rintro _ ac ⟨ct,dt,du,rfl,an,ag⟩;refine ⟨_,rfl,?_⟩;replace ag:=ag.thaw (Zy .u32) an (((Fz.refl (col:=(Zi ar ax))).froz 5).froz 7) (by decide);replace an:=an.thawR (col:=(Zi ar ax));generalize Z7 cr.heap.size (Zi ar ax) ct=ad at *;refine Zm ?_;refine ⟨fun w'=>Zf (Zi ac ad) ac (Zi ac ad) w',fun g=>(Zi ac ad) g=497,Zf.refl _ _,W6,fun _=>⟨fun _ h=>Uc hC0 an h,fun b hb=>an.below.block b hb,fun g x1 x2=>Ug an g x1 (by first | exact x2 | (simp only [Xn,x2];rfl) | (simp only [Xn,Xc,x2];rfl))⟩,?_⟩;have bg:=Zt.clip (fun _=>false) ad ac;refine Ze7 rfl rfl (Tq zeroValue37) ?_;intro ah cu;refine Vb rfl rfl ?_;intro cv ⟨hC0,hZ0⟩;replace aa:=((((aa.grow al).kpp a7).grow hC).grow an).kpp bg;replace ae:=((ae.gr hC).gr an).kpp bg;replace af:=((af.gr hC).gr an).kpp bg;replace ab:=((ab.gr hC).gr an).kpp bg;have hC:=hC0.bl (Zi ac ad);obtain ⟨bh,b6⟩:=Zdq (col:=(Zi ac ad)) 9 hZ0 cu;replace b6:Zj 37 9 (Xd ah 9 (Zi ac ad)) cv ah #[.bool false,.slice none (([]:List Int).length) 0]:=b6;refine Zw b6 ?_
 intro ai bi cw bv;refine Zm ?_;refine ⟨fun w'=>Zf (Zi ai (Xd ah 9 (Zi ac ad))) ai (Zi ai (Xd ah 9 (Zi ac ad))) w',fun g=>(Zi ai (Xd ah 9 (Zi ac ad))) g=497,Zf.refl _ _,W6,fun h=>absurd h (by decide),?_⟩;have a8:=Zt.clip (fun _=>false) (Xd ah 9 (Zi ac ad)) ai;refine Zhz ?_;replace ag:=((((ag.kpp bg).gr hC).kpp bh).kp bi).kpp a8;replace ae:=(((ae.gr hC).kpp bh).kp bi).kpp a8;replace af:=(((af.gr hC).kpp bh).kp bi).kpp a8;replace ab:=(((ab.gr hC).kpp bh).kp bi).kpp a8;replace aa:=(((aa.grow hC).kpp bh).kp bi cw).kpp a8;intro cb hC;replace hC:Zf (Zi ai (Xd ah 9 (Zi ac ad))) ai (Zi ai (Xd ah 9 (Zi ac ad))) cb:=.of_below hC.below;refine Zv<|Wi (col:=(Zi ai (Xd ah 9 (Zi ac ad)))) [(0,1),(1,0),(2,1),(3,0),(4,0),(6,0),(5,3),(7,3),(8,3),(9,3),(10,2)] (by kernel_rfl) (by kernel_rfl)<|xF ⟨_,_,rfl⟩ ?_;replace bv:=(bv.kpp a8).gr hC;refine xW (fun _ hC=>((bv.atN).nth (q:=0) rfl).gr (hC.bl (Zi ai (Xd ah 9 (Zi ac ad))))) ?_;refine xF ⟨_,_,rfl⟩ ?_;refine xW (fun _ hC=>((bv.atN).nth (q:=1) rfl).gr (hC.bl (Zi ai (Xd ah 9 (Zi ac ad))))) ?_;replace ae:=ae.gr hC;refine xv rfl rfl (fun _ hC=>Xb isAgg39 sizeOf39 (ae.gr (hC.bl (Zi ai (Xd ah 9 (Zi ac ad)))))) ?_;replace af:=af.gr hC;refine xv rfl rfl (fun _ hC=>Xb isAgg39 sizeOf39 (af.gr (hC.bl (Zi ai (Xd ah 9 (Zi ac ad)))))) ?_;refine xe rfl rfl ?_;intro cx hC0;replace ag:=ag.gr hC;replace ab:=ab.gr hC;replace aa:=aa.grow hC;have hC:Zf (Zi ai (Xd ah 9 (Zi ac ad))) cb (Zi ai (Xd ah 9 (Zi ac ad))) cx:=.of_below hC0.below;obtain ⟨dv,cy,hm⟩:=bZ hm;replace aa:=aa.grow hC;refine Zh (Tb 10 cy (ba.ks aa) (bs.ks aa)) ?_;rintro _ dw ⟨cc,dx,dy,rfl,bw,bj⟩;refine ⟨_,rfl,?_⟩;refine Zm<|X4 cc hC0 bw<|xe rfl rfl ?_;intro dz hC0;replace ag:=(ag.gr hC).gr bw;replace ab:=(ab.gr hC).gr bw;have hC:=hC0.bl cc;obtain ⟨d0,cz,hm⟩:=bZ hm;replace aa:=(aa.grow bw).grow hC;refine Zh (Tb 11 cz (bb.ks aa) (bt.ks aa)) ?_;rintro _ d1 ⟨bk,d2,d3,rfl,bm,b7⟩;refine ⟨_,rfl,?_⟩;refine Zm<|X4 bk hC0 bm<|xe rfl rfl ?_;intro c0 hC0;replace ag:=(ag.gr hC).gr bm;replace bj:=(bj.gr hC).gr bm;replace ab:=(ab.gr hC).gr bm;have hC:=hC0.bl bk
 obtain ⟨d4,c3,hm⟩:=bZ hm;replace bj:=bj.gr hC;replace b7:=b7.gr hC;refine Zh (Zib 12 c3 ((bj.toSlF (Zg.int .u32)).froz 11) ((b7.froz 10 (by decide)).toSlF (Zg.int .u32))) ?_;rintro _ d5 ⟨c4,d6,d7,rfl,a0,bn⟩;refine ⟨_,rfl,?_⟩;replace bn:=bn.thaw (Zy .u32) a0 (((Fz.refl (col:=bk)).froz 10).froz 11) (by decide);replace a0:=a0.thawR (col:=bk);generalize Z7 c0.heap.size bk c4=a9 at *;refine Zm<|X4 a9 hC0 a0<|xe rfl rfl ?_;intro c5 hC0;replace aa:=((aa.grow bm).grow hC).grow a0;replace ag:=(ag.gr hC).gr a0;replace ab:=(ab.gr hC).gr a0;have hC:=hC0.bl a9;obtain ⟨d8,c6,hm⟩:=bZ hm;replace ag:=ag.gr hC;replace bn:=bn.gr hC;refine Zh (Zfe 13 14 c6 ((ag.toSlF (Zg.int .u32)).froz 12) ((bn.froz 8 (by decide)).toSlF (Zg.int .u32))) ?_;rintro _ d9 ⟨c7,ea,eb,ec,ed,rfl,a1,a2,a3⟩;refine ⟨_,rfl,?_⟩;replace a2:=a2.thaw (Zy .u32) a1 (((Fz.refl (col:=a9)).froz 8).froz 12) (by decide);replace a3:=a3.thaw (Zy .u32) a1 (((Fz.refl (col:=a9)).froz 8).froz 12) (by decide);replace a1:=a1.thawR (col:=a9);generalize Z7 c5.heap.size a9 c7=bx at *;refine Zm<|X4 bx hC0 a1<|xe rfl rfl ?_;intro ee hC0;replace ab:=(ab.gr hC).gr a1;replace aa:=(aa.grow hC).grow a1;have hC:=hC0.bl bx;replace ab:=ab.gr hC;refine Zw ab ?_;intro ef b8 c8 b9;refine Zm<|xk bx<|Wf ?_;replace a2:=(a2.gr hC).kp b8;replace a3:=(a3.gr hC).kp b8;replace aa:=(aa.grow hC).kp b8 c8;intro eg hC;replace hC:=hC.bl bx;refine W4 ?_;cases hm;replace a2:=a2.gr hC;replace a3:=a3.gr hC;replace b9:=b9.gr hC;replace aa:=aa.grow hC;exact ⟨rfl,_,ra b9.atN,_,_,_,_,_,rfl,aa.fin (cm [(13,c1),(14,c2)]),aa.fo a2,aa.fo a3⟩
def Uv (N:Nat) (aa:R1) (ab:R1):Option R1:=
  (Zap N aa.1.2 ab.1.2).bind fun ad=>(V5 N ((aa.1.1,aa.1.2),aa.2)).bind fun ae=>(V5 N ((ab.1.1,ab.1.2),ab.2)).bind fun af=>(Zap N ae af).bind fun ag=>(Zah N (!decide (aa.1.1=ab.1.1)) ad ag).bind fun ac=>some ((ac.1.1,ac.1.2),ac.2)
theorem Zfd {N a4 a5 a6 a7:Nat} {a8 a9 ba bb:Option Addr} {col:Ze} {w0:World} {ai aj r:R1} (c1 c2:Nat) (hm:Uv N ai aj=some r) (ar:Sl (Za.int .u32) col w0 a8 a4 ai.1.2) (ax:Sl (Za.int .u32) col w0 a9 a5 ai.2) (au:Sl (Za.int .u32) col w0 ba a6 aj.1.2) (ay:Sl (Za.int .u32) col w0 bb a7 aj.2):
    Calls prog 28 #[(.agg #[.bool ai.1.1,.slice a8 ai.1.2.length a4,.slice a9 ai.2.length a5]),(.agg #[.bool aj.1.1,.slice ba aj.1.2.length a6,.slice bb aj.2.length a7])] w0 (fun e w'=>∃ (col':Ze) (ra1:Option Addr) (rc2:Nat) (ra4:Option Addr) (rc5:Nat),e= .returned ((.agg #[.bool r.1.1,.slice ra1 r.1.2.length rc2,.slice ra4 r.2.length rc5]))∧Zf col w0 col' w'∧Zc (Za.int .u32) 95 c1 col' w' ra1 rc2 r.1.2∧Zc (Za.int .u32) 95 c2 col' w' ra4 rc5 r.2):=by
 refine Y2 (m:=25) func28 rfl rfl rfl ?_;rw [Uv.eq_1] at hm;have aa:=St.start col w0;refine go ?_;refine Xv (col:=(Zk col)) 1 rfl ?_;intro bt bu bf bg al;refine Xv (col:=bf) 2 rfl ?_;intro bv bw bh bc am;refine Xj (col:=bh) #[.bool false,.slice none (([]:List Int).length) 0,.slice none (([]:List Int).length) 0] 3 zeroValue39 ?_;intro bx bz ad az ab;refine go ?_;refine Wi (col:=ad) [(0,1),(1,1),(2,0),(3,1),(4,1),(5,0),(6,1),(7,1),(8,1),(9,0),(10,1),(11,1),(12,0),(14,0),(16,0),(13,3),(15,3),(17,3),(18,3),(19,3),(20,2)] (by kernel_rfl) (by kernel_rfl)<|xF ⟨_,_,rfl⟩ ?_;refine xF (Tz ⟨_,_,rfl⟩) ?_;replace al:=(al.gr bc).gr az;refine xW (fun _ hC=>((((al.atN).part 0 2 _ rfl)).nth (q:=0) rfl).gr (hC.bl ad)) ?_;refine xF ⟨_,_,rfl⟩ ?_;refine xF (Tz ⟨_,_,rfl⟩) ?_;replace am:=am.gr az;refine xW (fun _ hC=>((((am.atN).part 0 2 _ rfl)).nth (q:=0) rfl).gr (hC.bl ad)) ?_;refine xu rfl rfl (fun _=>Zj7 _ _ underlying4 rfl rfl) ?_;refine xF ⟨_,_,rfl⟩ ?_;refine xF (Tz ⟨_,_,rfl⟩) ?_;refine xW (fun _ hC=>((((al.atN).part 0 2 _ rfl)).nth (q:=1) rfl).gr (hC.bl ad)) ?_;refine xF ⟨_,_,rfl⟩ ?_;refine xF (Tz ⟨_,_,rfl⟩) ?_;refine xW (fun _ hC=>((((am.atN).part 0 2 _ rfl)).nth (q:=1) rfl).gr (hC.bl ad)) ?_;refine xv rfl rfl (fun _ hC=>Xb isAgg39 sizeOf39 (al.gr (hC.bl ad))) ?_;refine xv rfl rfl (fun _ hC=>Xb isAgg39 sizeOf39 (am.gr (hC.bl ad))) ?_;refine xe rfl rfl ?_;intro b0 hC0;have hC:=hC0.bl ad;obtain ⟨b1,bi,hm⟩:=bZ hm;replace ar:=ar.keep (Zl.start col w0);replace au:=au.keep (Zl.start col w0);replace aa:=(((aa.grow bg).grow bc).grow az).grow hC;refine Zh (Zib 4 bi (ar.ks aa) (au.ks aa)) ?_;rintro _ b2 ⟨bd,b3,b4,rfl,a0,ac⟩;refine ⟨_,rfl,?_⟩;refine Zm<|X4 bd hC0 a0<|xe rfl rfl ?_;intro b5 hC0;replace ab:=(ab.gr hC).gr a0;have hC:=hC0.bl bd;obtain ⟨b6,bj,hm⟩:=bZ hm;replace ax:=ax.keep (Zl.start col w0);replace aa:=(aa.grow a0).grow hC;refine Zh (Tb 5 bj (ar.ks aa) (ax.ks aa)) ?_;rintro _ b7 ⟨be,b8,b9,rfl,av,an⟩;refine ⟨_,rfl,?_⟩;refine Zm<|X4 be hC0 av<|xe rfl rfl ?_;intro ca hC0;replace ac:=(ac.gr hC).gr av;replace ab:=(ab.gr hC).gr av;have hC:=hC0.bl be;obtain ⟨cb,bk,hm⟩:=bZ hm;replace ay:=ay.keep (Zl.start col w0);replace aa:=(aa.grow av).grow hC
 refine Zh (Tb 6 bk (au.ks aa) (ay.ks aa)) ?_;rintro _ cc ⟨ao,cd,ce,rfl,ap,a1⟩;refine ⟨_,rfl,?_⟩;refine Zm<|X4 ao hC0 ap<|xe rfl rfl ?_;intro bm hC0;replace ac:=(ac.gr hC).gr ap;replace an:=(an.gr hC).gr ap;replace ab:=(ab.gr hC).gr ap;have hC:=hC0.bl ao;obtain ⟨cf,bn,hm⟩:=bZ hm;replace an:=an.gr hC;replace a1:=a1.gr hC;refine Zh (Zib 7 bn ((an.toSlF (Zg.int .u32)).froz 6) ((a1.froz 5 (by decide)).toSlF (Zg.int .u32))) ?_;rintro _ cg ⟨bo,ch,ci,rfl,ae,aq⟩;refine ⟨_,rfl,?_⟩;replace aq:=aq.thaw (Zy .u32) ae (((Fz.refl (col:=ao)).froz 5).froz 6) (by decide);replace ae:=ae.thawR (col:=ao);generalize Z7 bm.heap.size ao bo=ak at *;refine Zm<|X4 ak hC0 ae<|xe rfl rfl ?_;intro bp hC0;replace aa:=((aa.grow ap).grow hC).grow ae;replace ac:=(ac.gr hC).gr ae;replace ab:=(ab.gr hC).gr ae;have hC:=hC0.bl ak;obtain ⟨cj,bq,hm⟩:=bZ hm;replace ac:=ac.gr hC;replace aq:=aq.gr hC;refine Zh (Zfe 8 9 bq ((ac.toSlF (Zg.int .u32)).froz 7) ((aq.froz 4 (by decide)).toSlF (Zg.int .u32))) ?_;rintro _ ck ⟨br,cl,cn,co,cp,rfl,af,ag,ah⟩;refine ⟨_,rfl,?_⟩;replace ag:=ag.thaw (Zy .u32) af (((Fz.refl (col:=ak)).froz 4).froz 7) (by decide);replace ah:=ah.thaw (Zy .u32) af (((Fz.refl (col:=ak)).froz 4).froz 7) (by decide);replace af:=af.thawR (col:=ak);generalize Z7 bp.heap.size ak br=aw at *;refine Zm<|X4 aw hC0 af<|xe rfl rfl ?_;intro cq hC0;replace ab:=(ab.gr hC).gr af;replace aa:=(aa.grow hC).grow af;have hC:=hC0.bl aw;replace ab:=ab.gr hC;refine Zw ab ?_;intro cr a2 bs a3;refine Zm<|xk aw<|Wf ?_;replace ag:=(ag.gr hC).kp a2;replace ah:=(ah.gr hC).kp a2;replace aa:=(aa.grow hC).kp a2 bs;intro cs hC;replace hC:=hC.bl aw;refine W4 ?_;cases hm;replace ag:=ag.gr hC;replace ah:=ah.gr hC;replace a3:=a3.gr hC;replace aa:=aa.grow hC;exact ⟨rfl,_,ra a3.atN,_,_,_,_,_,rfl,aa.fin (cm [(8,c1),(9,c2)]),aa.fo ag,aa.fo ah⟩
def Sf (N:Nat) (aa:R3):Option Int:=
  (Zbl N aa.2).bind fun ab=>if (decide (ab=0))=true then (some 0) else (if aa.1=true then (some (-1)) else (some 1))
theorem Zdt {N af:Nat} {ag:Option Addr} {col:Ze} {w0:World} {ab:R3} {r:Int} (hm:Sf N ab=some r) (ae:Sl (Za.int .u32) col w0 ag af ab.2):
    Calls prog 62 #[(.agg #[.bool ab.1,.slice ag ab.2.length af])] w0 (fun e w'=>e= .returned ((.int .i64 r))∧Below w0.heap.size w0 w'):=by
 refine Xm 2 (m:=11) func62 rfl rfl rfl rfl rfl ?_;rw [Sf.eq_1] at hm;have aa:=St.start col w0;refine go ?_;refine Xv (col:=(Zk col)) 1 rfl ?_;intro am ai ah aj ac;refine go ?_;refine Xz ac ?_;obtain ⟨an,ak,hm⟩:=bZ hm;replace ae:=ae.keep (Zl.start col w0);replace aa:=aa.grow aj;refine Zh (Znt ak (ae.ks aa)) ?_;rintro _ al ⟨rfl,ad⟩;refine ⟨_,rfl,?_⟩;replace ad:Zf ah ai ah al:=.of_below ad;refine go ?_;replace ac:=ac.gr ad;replace aa:=aa.grow ad;refine Zq hm (fun hb hm=>go ?_) fun hb hm=>go ?_
 ·cases hm;exact ⟨rfl,rfl,aa.below⟩
 refine Xz ac ?_;refine go ?_;refine Zq hm (fun hb hm=>go ?_) fun hb hm=>go ?_
 ·cases hm;exact ⟨rfl,rfl,aa.below⟩
 cases hm;exact ⟨rfl,rfl,aa.below⟩
def Zjt (N:Nat) (aa:R3) (ab:R3):Option Int:=
  (Sf N (aa.1,aa.2)).bind fun ac=>(Sf N (ab.1,ab.2)).bind fun ad=>if (decide (ac<ad))=true then (some (-1)) else (if (decide (ad<ac))=true then (some 1) else ((Zcw N aa.2 ab.2).bind fun ae=>some (i64.wrap (ac * ae))))
theorem Z0j {N aj ak:Nat} {al am:Option Addr} {col:Ze} {w0:World} {ad ae:R3} {r:Int} (hm:Zjt N ad ae=some r) (af:Sl (Za.int .u32) col w0 al aj ad.2) (ag:Sl (Za.int .u32) col w0 am ak ae.2):
    Calls prog 73 #[(.agg #[.bool ad.1,.slice al ad.2.length aj]),(.agg #[.bool ae.1,.slice am ae.2.length ak])] w0 (fun e w'=>e= .returned ((.int .i64 r))∧Below w0.heap.size w0 w'):=by
 refine Xm 4 (m:=26) func73 rfl rfl rfl rfl rfl ?_;rw [Zjt.eq_1] at hm;have aa:=St.start col w0;refine go ?_;refine Xv (col:=(Zk col)) 1 rfl ?_;intro az a0 ao ap ac;refine Xv (col:=ao) 2 rfl ?_;intro a1 a2 ab an ah;refine go ?_;refine Un (col:=ab) (by kernel_rfl) (by kernel_rfl) ?_;replace ac:=ac.gr an;refine qv rfl (fun _ hC=>Xb isAgg37 sizeOf37 (ac.gr (hC.bl ab))) ?_;obtain ⟨aq,ar,hm⟩:=bZ hm;replace af:=af.keep (Zl.start col w0);replace aa:=(aa.grow ap).grow an;refine qc (v:=(.int .i64 aq)) rfl (fun _ hC=>⟨_,_,Ze1 call62 rfl,(Zdt ar ((af.ks aa).gr (hC.bl ab)):).mono fun _ _ h=>⟨h.1,hC.trans (.of_below h.2)⟩⟩) ?_;refine qv rfl (fun _ hC=>Xb isAgg37 sizeOf37 (ah.gr (hC.bl ab))) ?_;obtain ⟨au,av,hm⟩:=bZ hm;replace ag:=ag.keep (Zl.start col w0);refine qc (v:=(.int .i64 au)) rfl (fun _ hC=>⟨_,_,Ze1 call62 rfl,(Zdt av ((ag.ks aa).gr (hC.bl ab)):).mono fun _ _ h=>⟨h.1,hC.trans (.of_below h.2)⟩⟩) ?_;refine go ?_;refine Wv ?_;intro aw hC;replace hC:=hC.bl ab;refine go ?_;replace ac:=ac.gr hC;replace ah:=ah.gr hC;replace aa:=aa.grow hC;refine Zq hm (fun hb hm=>go ?_) fun hb hm=>go ?_
 ·cases hm;exact ⟨rfl,rfl,aa.below⟩
 refine Zq hm (fun hb hm=>go ?_) fun hb hm=>go ?_
 ·cases hm;exact ⟨rfl,rfl,aa.below⟩
 refine Xz ac<|Xz ah ?_;obtain ⟨a3,ax,hm⟩:=bZ hm;refine Zh (Zkv ax (af.ks aa) (ag.ks aa)) ?_;rintro _ ay ⟨rfl,ai⟩;refine ⟨_,rfl,?_⟩;replace ai:Zf ab aw ab ay:=.of_below ai;refine go ?_;cases hm;replace aa:=aa.grow ai;exact ⟨rfl,rfl,aa.below⟩
def U4 (N:Nat) (aa:R1) (ab:R1):Option Int:=
  (V5 N ((ab.1.1,ab.1.2),ab.2)).bind fun ae=>(Zai N (aa.1.1,aa.1.2) ae).bind fun ac=>(V5 N ((aa.1.1,aa.1.2),aa.2)).bind fun af=>(Zai N (ab.1.1,ab.1.2) af).bind fun ad=>(Zjt N (ac.1,ac.2) (ad.1,ad.2)).bind fun ag=>some ag
theorem Zdr {N ap a0 aq a1:Nat} {ar a2 au a3:Option Addr} {col:Ze} {w0:World} {ac ad:R1} {r:Int} (hm:U4 N ac ad=some r) (al:Sl (Za.int .u32) col w0 ar ap ac.1.2) (av:Sl (Za.int .u32) col w0 a2 a0 ac.2) (am:Sl (Za.int .u32) col w0 au aq ad.1.2) (aw:Sl (Za.int .u32) col w0 a3 a1 ad.2):
    Calls prog 15 #[(.agg #[.bool ac.1.1,.slice ar ac.1.2.length ap,.slice a2 ac.2.length a0]),(.agg #[.bool ad.1.1,.slice au ad.1.2.length aq,.slice a3 ad.2.length a1])] w0 (fun e w'=>e= .returned ((.int .i64 r))∧Below w0.heap.size w0 w'):=by
 refine Xm 4 (m:=16) func15 rfl rfl rfl rfl rfl ?_;rw [U4.eq_1] at hm;have aa:=St.start col w0;refine go ?_;refine Xv (col:=(Zk col)) 1 rfl ?_;intro bm bn a8 a9 an;refine Xv (col:=a8) 2 rfl ?_;intro bo bp ae a4 a5;refine go ?_;refine Wi (col:=ae) [(0,1),(1,0),(2,0),(5,1),(6,0),(7,0),(3,3),(4,3),(8,3),(9,3),(10,3),(11,1)] (by kernel_rfl) (by kernel_rfl)<|xF ⟨_,_,rfl⟩ ?_;replace an:=an.gr a4;refine xv (v:=(.agg #[.bool ac.1.1,.slice ar ac.1.2.length ap])) rfl rfl (fun _ hC=>Xt isAgg37 sizeOf37 rfl rfl (((an.atN).part 0 2 _ rfl).gr (hC.bl ae))) ?_;refine xv rfl rfl (fun _ hC=>Xb isAgg39 sizeOf39 (a5.gr (hC.bl ae))) ?_;refine xF ⟨_,_,rfl⟩ ?_;refine xv (v:=(.agg #[.bool ad.1.1,.slice au ad.1.2.length aq])) rfl rfl (fun _ hC=>Xt isAgg37 sizeOf37 rfl rfl (((a5.atN).part 0 2 _ rfl).gr (hC.bl ae))) ?_;refine xv rfl rfl (fun _ hC=>Xb isAgg39 sizeOf39 (an.gr (hC.bl ae))) ?_;refine xe rfl rfl ?_;intro bq hC0;have hC:=hC0.bl ae;obtain ⟨br,ba,hm⟩:=bZ hm;replace am:=am.keep (Zl.start col w0);replace aw:=aw.keep (Zl.start col w0);replace aa:=((aa.grow a9).grow a4).grow hC;refine Zh (Tb 3 ba (am.ks aa) (aw.ks aa)) ?_;rintro _ bs ⟨ah,bt,bu,rfl,a6,ax⟩;refine ⟨_,rfl,?_⟩;refine Zm<|X4 ah hC0 a6<|xe rfl rfl ?_;intro bb hC0;have hC:=hC0.bl ah;obtain ⟨bv,bc,hm⟩:=bZ hm;replace al:=al.keep (Zl.start col w0);replace aa:=(aa.grow a6).grow hC;replace ax:=ax.gr hC;refine Zh (Zff 4 bc ((al.ks aa).froz 3) (ax.toSlF (Zg.int .u32))) ?_;rintro _ bw ⟨bd,bx,bz,rfl,ai,ab⟩;refine ⟨_,rfl,?_⟩;replace av:=av.keep (Zl.start col w0);replace ab:=ab.thaw (Zy .u32) ai ((Fz.refl (col:=ah)).froz 3) (by decide);replace ai:=ai.thawR (col:=ah);generalize Z7 bb.heap.size ah bd=a7 at *;refine Zm<|X4 a7 hC0 ai<|xe rfl rfl ?_;intro b0 hC0;have hC:=hC0.bl a7;obtain ⟨b1,be,hm⟩:=bZ hm;replace aa:=(aa.grow ai).grow hC;refine Zh (Tb 5 be (al.ks aa) (av.ks aa)) ?_;rintro _ b2 ⟨aj,b3,b4,rfl,ay,az⟩;refine ⟨_,rfl,?_⟩;refine Zm<|X4 aj hC0 ay<|xe rfl rfl ?_;intro bf hC0;replace ab:=(ab.gr hC).gr ay;have hC:=hC0.bl aj;obtain ⟨b5,bg,hm⟩:=bZ hm;replace aa:=(aa.grow ay).grow hC;replace az:=az.gr hC
 refine Zh (Zff 6 bg ((am.ks aa).froz 5) (az.toSlF (Zg.int .u32))) ?_;rintro _ b6 ⟨bh,b7,b8,rfl,af,ak⟩;refine ⟨_,rfl,?_⟩;replace ak:=ak.thaw (Zy .u32) af ((Fz.refl (col:=aj)).froz 5) (by decide);replace af:=af.thawR (col:=aj);generalize Z7 bf.heap.size aj bh=ag at *;refine Zm<|X4 ag hC0 af<|xe rfl rfl ?_;intro bi hC0;replace ab:=(ab.gr hC).gr af;have hC:=hC0.bl ag;obtain ⟨b9,bj,hm⟩:=bZ hm;replace ab:=ab.gr hC;replace ak:=ak.gr hC;refine Zh (Z0j bj ((ab.toSlF (Zg.int .u32)).froz 6) ((ak.froz 4 (by decide)).toSlF (Zg.int .u32))) ?_;rintro _ bk ⟨rfl,ao⟩;refine ⟨_,rfl,?_⟩;replace ao:Zf ag bi ag bk:=.of_below ao;refine Zm<|X4 ag hC0 ao<|xu rfl rfl (fun _=>Zhs rfl) ?_;refine Wf ?_;replace aa:=((aa.grow af).grow hC).grow ao;intro ca hC;replace hC:=hC.bl ag;refine W4 ?_;cases hm;replace aa:=aa.grow hC;exact ⟨rfl,rfl,aa.below⟩
def Zcm (N:Nat):List R1→Bool→R2→R2→Option R1
  | [],aa,ab,ac=>some ((aa,ab),ac)
  | ad :: af,aa,ab,ac=>(V4 N ((aa,ab),ac) ((ad.1.1,ad.1.2),ad.2)).bind fun ae=>(Zcm N af) ae.1.1 ae.1.2 ae.2
termination_by structural x=>x
def Zbe (N:Nat) (aa:R6):Option R1:=
  (Zar N 1).bind fun ab=>Zcm N aa false ([]:List Int) ab
theorem Zku {N ba:Nat} {a0:Option Addr} {col:Ze} {w0:World} {af:R6} {r:R1} (c1 c2:Nat) (hm:Zbe N af=some r) (h0:Sl (Za.pair (Za.pair Za.bool (Za.slice (Za.int .u32))) (Za.slice (Za.int .u32))) col w0 a0 ba af):
    Calls prog 80 #[.slice a0 af.length ba] w0 (fun e w'=>∃ (col':Ze) (ra1:Option Addr) (rc2:Nat) (ra4:Option Addr) (rc5:Nat),e= .returned ((.agg #[.bool r.1.1,.slice ra1 r.1.2.length rc2,.slice ra4 r.2.length rc5]))∧Zf col w0 col' w'∧Zc (Za.int .u32) 95 c1 col' w' ra1 rc2 r.1.2∧Zc (Za.int .u32) 95 c2 col' w' ra4 rc5 r.2):=by
 refine Y2 (m:=19) func80 rfl rfl rfl ?_;rw [Zbe.eq_1] at hm;have aa:=St.start col w0;refine go ?_;refine Xj (col:=(Zk col)) #[.bool false,.slice none (([]:List Int).length) 0,.slice none (([]:List Int).length) 0] 1 zeroValue39 ?_;intro bc cb bd be ab;refine go ?_;obtain ⟨bf,bg,hm⟩:=bZ hm;refine Zh (Zfg (col:=bd) 2 bg) ?_;rintro _ cc ⟨bh,bi,bj,rfl,bb,aw⟩;refine ⟨_,rfl,?_⟩;refine lV (.agg #[.bool false,.slice none (([]:List Int).length) 0,.slice bi bf.length bj]) (Yo (l:=[_,_]) (qs:=[(0,2),(2,1)]) underlying39 zeroValue39 ⟨rfl,sizeOf37,rfl,sizeOf35,trivial⟩ rfl)<|Xj (col:=bh) #[.bool false,.slice none (([]:List Int).length) 0,.slice none (([]:List Int).length) 0] 3 zeroValue39 ?_;intro bk cd ce ax bm;refine Zw bm ?_;intro cf ay bn ac;refine go ?_;replace aa:=(((aa.grow be).grow bb).grow ax).kp ay bn;replace ab:=((ab.gr bb).gr ax).kp ay;replace aw:=(aw.gr ax).kp ay;refine Z9 [2,3,8,9,1000000] (fun n f ak=>∃ ag an az a1 a2 aq a3 a4 ar ao,n=ao.length∧af.drop an=ao∧Zcm N ao az aq ar=some r∧St w0 (Zk col) ag ak∧Zj 39 1 ag ak bc #[.bool false,.slice none (([]:List Int).length) 0,.slice none (([]:List Int).length) 0]∧Zc (Za.int .u32) 95 4 ag ak a1 a2 aq∧Zc (Za.int .u32) 95 2 ag ak a3 a4 ar∧Zj 39 3 ag ak bk #[.bool az,.slice a1 aq.length a2,.slice a3 ar.length a4]∧[10].map f=[.int .i64 an]) af.length ⟨_,0,_,none,0,_,_,_,_,_,rfl,rfl,hm,aa,ab,Zc.nil,aw,ac,rfl⟩ ?_;clear hm;intro n f ak hI;obtain ⟨ag,an,az,a1,a2,aq,a3,a4,ar,ao,hn,hl,hm,aa,ab,al,am,ac,hs⟩:=hI;subst hn;refine .lL [10] hs ?_;replace h0:=h0.keep (Zl.start col w0)
 cases ao with
 | nil=>
  have hk:¬ ((an:Int)<(af.length:Int)):=by have:=List.drop_eq_nil_iff.1 hl;omega
  have hkb:=decide_eq_false hk;rw [Zcm.eq_1] at hm;refine go ?_;refine X9 (congrArg Value.bool hkb)<|go ?_;refine lV _ (Xb isAgg39 sizeOf39 ac)<|Zw ab ?_;intro cg a5 bo bp;refine go ?_;cases hm;replace al:=al.kp a5;replace am:=am.kp a5;replace aa:=aa.kp a5 bo;exact ⟨rfl,_,ra bp.atN,_,_,_,_,_,rfl,aa.fin (cm [(4,c1),(2,c2)]),aa.fo al,aa.fo am⟩
 | cons a6 bq=>
  obtain ⟨a7,br,bs⟩:=Ym hl;have hk:(an:Int)<(af.length:Int):=by omega
  have hkb:=decide_eq_true hk;rw [Zcm.eq_2] at hm;refine go ?_;refine Yc (congrArg Value.bool hkb)<|go ?_;refine lI a7 ((h0.ks aa).addr a7) ?_;obtain ⟨_,bt,bu⟩:=(h0.ks aa).atN a7;obtain ⟨_,_,rfl,bv,bw⟩:=Va bt;obtain ⟨_,_,rfl,bx,bz⟩:=Va bv;obtain ⟨rfl,_⟩:=bx;obtain ⟨⟨b0,b1,rfl,a8⟩,_⟩:=bz;obtain ⟨⟨b2,b3,rfl,a9⟩,_⟩:=bw;refine lV (.agg #[.bool a6.1.1,.slice b0 a6.1.2.length b1,.slice b2 a6.2.length b3]) (Xt isAgg39 sizeOf39 rfl rfl bu)<|Xj (col:=ag) #[.bool false,.slice none (([]:List Int).length) 0,.slice none (([]:List Int).length) 0] 5 zeroValue39 ?_;intro ch ci au ah b4;refine Zw b4 ?_;intro b5 ai b6 b7;refine go ?_;replace ac:=(ac.gr ah).kp ai;refine lV _ (Xb isAgg39 sizeOf39 ac)<|lV _ (Xb isAgg39 sizeOf39 b7) ?_;obtain ⟨cj,b8,hm⟩:=bZ hm;replace al:=(al.gr ah).kp ai;replace am:=(am.gr ah).kp ai;replace a8:=(a8.gr ah).kp ai;replace a9:=(a9.gr ah).kp ai;refine Zh (Zb2 6 7 b8 ((al.toSlF (Zg.int .u32)).froz 2) ((am.froz 4 (by decide)).toSlF (Zg.int .u32)) ((a8.froz 4).froz 2) ((a9.froz 4).froz 2)) ?_;rintro _ ck ⟨b9,cl,cn,co,cp,rfl,aj,ad,ae⟩;refine ⟨_,rfl,?_⟩;replace ad:=ad.thaw (Zy .u32) aj (((Fz.refl (col:=au)).froz 4).froz 2) (by decide);replace ae:=ae.thaw (Zy .u32) aj (((Fz.refl (col:=au)).froz 4).froz 2) (by decide);replace aj:=aj.thawR (col:=au);generalize Z7 b5.heap.size au b9=cq at *;replace ac:=ac.gr aj;refine Zw ac ?_;intro cr av ca ap;refine go ?_;replace ad:=ad.kp av;replace ad:=ad.recolSelf 4 (by decide);replace ae:=ae.kp av;replace ae:=ae.recol 6 4 (by decide);replace ab:=(((ab.gr ah).kp ai).gr aj).kp av;replace ab:=ab.recol 6 4 (by decide);replace ap:=ap.recol 6 4 (by decide);replace aa:=(((aa.grow ah).kp ai b6).grow aj).kp av ca;replace aa:=aa.recol 6 4 (by decide) (by decide);replace ad:=ad.recol 7 2 (by decide);replace ae:=ae.recolSelf 2 (by decide);replace ab:=ab.recol 7 2 (by decide);replace ap:=ap.recol 7 2 (by decide);replace aa:=aa.recol 7 2 (by decide) (by decide);exact ⟨bq.length,by simp,rfl,⟨_,_,_,_,_,_,_,_,_,_,rfl,br,hm,aa,ab,ad,ae,ap,(Ys (congrArg (Value.int .i64) (Yp (Nat.lt_of_lt_of_le bs (h0.ks aa).1.1))) rfl)⟩⟩
def Zde (N:Nat) (aa:Int):Option R3:=
  if (decide (aa<0))=true then ((Zar N (u64.wrap (-(u64.wrap aa)))).bind fun ad=>(Tt N true ad).bind fun ab=>some (ab.1,ab.2)) else ((Zar N (u64.wrap aa)).bind fun ae=>(Tt N false ae).bind fun ac=>some (ac.1,ac.2))
theorem Zn2 {N:Nat} {col:Ze} {w0:World} {ai:Int} {r:R3} (c1:Nat) (hm:Zde N ai=some r):
    Calls prog 72 #[.int .i64 ai] w0 (fun e w'=>∃ (col':Ze) (ra1:Option Addr) (rc2:Nat),e= .returned ((.agg #[.bool r.1,.slice ra1 r.2.length rc2]))∧Zf col w0 col' w'∧Zc (Za.int .u32) 95 c1 col' w' ra1 rc2 r.2):=by
 refine Y2 (m:=14) func72 rfl rfl rfl ?_;rw [Zde.eq_1] at hm;have aa:=St.start col w0;refine go ?_;refine Xj (col:=(Zk col)) #[.bool false,.slice none (([]:List Int).length) 0] 1 zeroValue37 ?_;intro a5 a6 aj ao ab;refine go ?_;replace aa:=aa.grow ao;refine Zq hm (fun hb hm=>go ?_) fun hb hm=>go ?_
 ·obtain ⟨a7,ap,hm⟩:=bZ hm;refine Zh (Zfg (col:=aj) 2 ap) ?_;rintro _ aq ⟨ag,a8,a9,rfl,ak,ar⟩;refine ⟨_,rfl,?_⟩;obtain ⟨ba,au,hm⟩:=bZ hm;refine Zh (Q5 3 au (ar.toSlF (Zg.int .u32))) ?_;rintro _ bb ⟨av,bc,bd,rfl,ac,ad⟩;refine ⟨_,rfl,?_⟩;replace ad:=ad.thaw (Zy .u32) ac ((Fz.refl (col:=ag)).froz 2) (by decide);replace ac:=ac.thawR (col:=ag);generalize Z7 aq.heap.size ag av=be at *;replace ab:=(ab.gr ak).gr ac;refine Zw ab ?_;intro bf al aw ax;refine go ?_;cases hm;replace aa:=((aa.grow ak).grow ac).kp al aw;replace ad:=ad.kp al;exact ⟨rfl,_,ra ax.atN,_,_,_,rfl,aa.fin (cm [(3,c1)]),aa.fo ad⟩
 obtain ⟨bg,ay,hm⟩:=bZ hm;refine Zh (Zfg (col:=aj) 4 ay) ?_;rintro _ az ⟨ah,bh,bi,rfl,am,a0⟩;refine ⟨_,rfl,?_⟩;obtain ⟨bj,a1,hm⟩:=bZ hm;refine Zh (Q5 5 a1 (a0.toSlF (Zg.int .u32))) ?_;rintro _ bk ⟨a2,bm,bn,rfl,ae,af⟩;refine ⟨_,rfl,?_⟩;replace af:=af.thaw (Zy .u32) ae ((Fz.refl (col:=ah)).froz 4) (by decide);replace ae:=ae.thawR (col:=ah);generalize Z7 az.heap.size ah a2=bo at *;replace ab:=(ab.gr am).gr ae;refine Zw ab ?_;intro bp an a3 a4;refine go ?_;cases hm;replace aa:=((aa.grow am).grow ae).kp an a3;replace af:=af.kp an;exact ⟨rfl,_,ra a4.atN,_,_,_,rfl,aa.fin (cm [(5,c1)]),aa.fo af⟩
def Ziq (N:Nat) (ac:R3) (aa:R3):Option (R1×Int):=
  (Sf N (aa.1,aa.2)).bind fun ad=>if (decide (ad=0))=true then (some (((false,([]:List Int)),([]:List Int)),11)) else ((Zah N (!decide (ac.1=aa.1)) ac.2 aa.2).bind fun ab=>some (((ab.1.1,ab.1.2),ab.2),0))
theorem Zy9 {N an ao:Nat} {ap aq:Option Addr} {col:Ze} {w0:World} {ae af:R3} {r:(R1×Int)} (c1 c2:Nat) (hm:Ziq N ae af=some r) (ai:Sl (Za.int .u32) col w0 ap an ae.2) (ag:Sl (Za.int .u32) col w0 aq ao af.2):
    Calls prog 71 #[(.agg #[.bool ae.1,.slice ap ae.2.length an]),(.agg #[.bool af.1,.slice aq af.2.length ao])] w0 (fun e w'=>∃ (col':Ze) (ra1:Option Addr) (rc2:Nat) (ra4:Option Addr) (rc5:Nat),e= .returned (.tuple #[(.agg #[.bool r.1.1.1,.slice ra1 r.1.1.2.length rc2,.slice ra4 r.1.2.length rc5]),.int .i64 r.2])∧Zf col w0 col' w'∧Zc (Za.int .u32) 95 c1 col' w' ra1 rc2 r.1.1.2∧Zc (Za.int .u32) 95 c2 col' w' ra4 rc5 r.1.2):=by
 refine Y2 (m:=20) func71 rfl rfl rfl ?_;rw [Ziq.eq_1] at hm;have aa:=St.start col w0;refine go ?_;refine Xv (col:=(Zk col)) 1 rfl ?_;intro a8 a9 aw ax ah;refine Xv (col:=aw) 2 rfl ?_;intro ba bb ay ar ab;refine Xj (col:=ay) #[.bool false,.slice none (([]:List Int).length) 0,.slice none (([]:List Int).length) 0] 3 zeroValue39 ?_;intro bc az au aj ac;refine go ?_;replace ab:=ab.gr aj;refine lV _ (Xb isAgg37 sizeOf37 ab) ?_;obtain ⟨bd,a0,hm⟩:=bZ hm;replace ag:=ag.keep (Zl.start col w0);replace aa:=((aa.grow ax).grow ar).grow aj;refine Zh (Zdt a0 (ag.ks aa)) ?_;rintro _ a1 ⟨rfl,ad⟩;refine ⟨_,rfl,?_⟩;replace ad:Zf au az au a1:=.of_below ad;refine go ?_;replace ai:=ai.keep (Zl.start col w0);replace ah:=((ah.gr ar).gr aj).gr ad;replace ab:=ab.gr ad;replace ac:=ac.gr ad;replace aa:=aa.grow ad;refine Zq hm (fun hb hm=>go ?_) fun hb hm=>go ?_
 ·refine lV (.agg #[.bool false,.slice none (([]:List Int).length) 0,.slice none (([]:List Int).length) 0]) (Yo (l:=[_,_]) (qs:=[(0,2),(2,1)]) underlying39 zeroValue39 ⟨rfl,sizeOf37,rfl,sizeOf35,trivial⟩ rfl)<|Zw ac ?_;intro be a2 a3 a4;refine go ?_;cases hm;replace aa:=aa.kp a2 a3;exact ⟨rfl,_,Tw a4.atN,_,none,0,none,0,rfl,aa.fin (cm []),Zc.nil,Zc.nil⟩
 refine Xz ah<|Xz ab ?_;refine go ?_;refine Xz ah<|Xz ab ?_;obtain ⟨bf,a5,hm⟩:=bZ hm;refine Zh (Zfe 4 5 a5 (ai.ks aa) (ag.ks aa)) ?_;rintro _ bg ⟨bh,bi,bj,bk,bm,rfl,av,ak,al⟩;refine ⟨_,rfl,?_⟩;replace ac:=ac.gr av;refine Zw ac ?_;intro bn am a6 a7;refine go ?_;cases hm;replace aa:=(aa.grow av).kp am a6;replace ak:=ak.kp am;replace al:=al.kp am;exact ⟨rfl,_,Tw a7.atN,_,_,_,_,_,rfl,aa.fin (cm [(4,c1),(5,c2)]),aa.fo ak,aa.fo al⟩
def Zd3 (N:Nat) (ad:Int) (ae:Int):Option (R1×Int):=
  (Zde N ad).bind fun ab=>(Zde N ae).bind fun ac=>(Ziq N (ab.1,ab.2) (ac.1,ac.2)).bind fun aa=>some (((aa.1.1.1,aa.1.1.2),aa.1.2),aa.2)
theorem Zrb {N:Nat} {col:Ze} {w0:World} {ak al:Int} {r:(R1×Int)} (c1 c2:Nat) (hm:Zd3 N ak al=some r):
    Calls prog 14 #[.int .i64 ak,.int .i64 al] w0 (fun e w'=>∃ (col':Ze) (ra1:Option Addr) (rc2:Nat) (ra4:Option Addr) (rc5:Nat),e= .returned (.tuple #[(.agg #[.bool r.1.1.1,.slice ra1 r.1.1.2.length rc2,.slice ra4 r.1.2.length rc5]),.int .i64 r.2])∧Zf col w0 col' w'∧Zc (Za.int .u32) 95 c1 col' w' ra1 rc2 r.1.1.2∧Zc (Za.int .u32) 95 c2 col' w' ra4 rc5 r.1.2):=by
 refine Y2 (m:=13) func14 rfl rfl rfl ?_;rw [Zd3.eq_1] at hm;have ab:=St.start col w0;refine go ?_;refine Xj (col:=(Zk col)) #[.bool false,.slice none (([]:List Int).length) 0,.slice none (([]:List Int).length) 0] 1 zeroValue39 ?_;intro a4 a5 an ao ag;refine go ?_;obtain ⟨a6,ap,hm⟩:=bZ hm;refine Zh (Zn2 (col:=an) 2 ap) ?_;rintro _ a7 ⟨aq,a8,a9,rfl,am,ah⟩;refine ⟨_,rfl,?_⟩;refine Yf rfl ?_;obtain ⟨ba,ar,hm⟩:=bZ hm;refine Zh (Zn2 (col:=aq) 3 ar) ?_;rintro _ au ⟨ae,bb,bc,rfl,ai,av⟩;refine ⟨_,rfl,?_⟩;obtain ⟨af,aw,hm⟩:=bZ hm;replace ah:=ah.gr ai;refine Zh (Zy9 4 5 aw ((ah.toSlF (Zg.int .u32)).froz 3) ((av.froz 2 (by decide)).toSlF (Zg.int .u32))) ?_;rintro _ bd ⟨ax,ay,az,a0,a1,rfl,aa,ac,ad⟩;refine ⟨_,rfl,?_⟩;replace ac:=ac.thaw (Zy .u32) aa (((Fz.refl (col:=ae)).froz 2).froz 3) (by decide);replace ad:=ad.thaw (Zy .u32) aa (((Fz.refl (col:=ae)).froz 2).froz 3) (by decide);replace aa:=aa.thawR (col:=ae);generalize Z7 au.heap.size ae ax=be at *;refine lV (.agg #[.bool af.1.1.1,.slice ay af.1.1.2.length az,.slice a0 af.1.2.length a1]) (Xf rfl rfl)<|lV (.int .i64 af.2) (Xf rfl rfl) ?_;replace ag:=((ag.gr am).gr ai).gr aa;refine Zw ag ?_;intro bf aj a2 a3;refine go ?_;cases hm;replace ab:=((((ab.grow ao).grow am).grow ai).grow aa).kp aj a2;replace ac:=ac.kp aj;replace ad:=ad.kp aj;exact ⟨rfl,_,Tw a3.atN,_,_,_,_,_,rfl,ab.fin (cm [(4,c1),(5,c2)]),ab.fo ac,ab.fo ad⟩
def Zag (N:Nat) (aa:R1):Option Int:=
  (Sf N (aa.1.1,aa.1.2)).bind fun ab=>some ab
theorem Znq {N ac ag:Nat} {ad ah:Option Addr} {col:Ze} {w0:World} {aa:R1} {r:Int} (hm:Zag N aa=some r) (ae:Sl (Za.int .u32) col w0 ad ac aa.1.2) (ao:Sl (Za.int .u32) col w0 ah ag aa.2):
    Calls prog 12 #[(.agg #[.bool aa.1.1,.slice ad aa.1.2.length ac,.slice ah aa.2.length ag])] w0 (fun e w'=>e= .returned ((.int .i64 r))∧Below w0.heap.size w0 w'):=by
 refine Xm 2 (m:=6) func12 rfl rfl rfl rfl rfl ?_;rw [Zag.eq_1] at hm;have ab:=St.start col w0;refine go ?_;refine Xv (col:=(Zk col)) 1 rfl ?_;intro ap aj ai ak al;refine go ?_;refine Xx ⟨_,_,rfl⟩ ?_;refine lV (.agg #[.bool aa.1.1,.slice ad aa.1.2.length ac]) (Xt isAgg37 sizeOf37 rfl rfl ((al.atN).part 0 2 _ rfl)) ?_;obtain ⟨aq,am,hm⟩:=bZ hm;replace ae:=ae.keep (Zl.start col w0);replace ab:=ab.grow ak;refine Zh (Zdt am (ae.ks ab)) ?_;rintro _ an ⟨rfl,af⟩;refine ⟨_,rfl,?_⟩;replace af:Zf ai aj ai an:=.of_below af;refine go ?_;cases hm;replace ab:=ab.grow af;exact ⟨rfl,rfl,ab.below⟩
def Zgc (N:Nat) (aa:R1):Option R1:=
  (V5 N ((aa.1.1,aa.1.2),aa.2)).bind fun ac=>(Zah N (!aa.1.1) aa.1.2 ac).bind fun ab=>some ((ab.1.1,ab.1.2),ab.2)
theorem Zy8 {N aq ar:Nat} {au av:Option Addr} {col:Ze} {w0:World} {af r:R1} (c1 c2:Nat) (hm:Zgc N af=some r) (aj:Sl (Za.int .u32) col w0 au aq af.1.2) (al:Sl (Za.int .u32) col w0 av ar af.2):
    Calls prog 68 #[(.agg #[.bool af.1.1,.slice au af.1.2.length aq,.slice av af.2.length ar])] w0 (fun e w'=>∃ (col':Ze) (ra1:Option Addr) (rc2:Nat) (ra4:Option Addr) (rc5:Nat),e= .returned ((.agg #[.bool r.1.1,.slice ra1 r.1.2.length rc2,.slice ra4 r.2.length rc5]))∧Zf col w0 col' w'∧Zc (Za.int .u32) 95 c1 col' w' ra1 rc2 r.1.2∧Zc (Za.int .u32) 95 c2 col' w' ra4 rc5 r.2):=by
 refine Y2 (m:=13) func68 rfl rfl rfl ?_;rw [Zgc.eq_1] at hm;have aa:=St.start col w0;refine go ?_;refine Xv (col:=(Zk col)) 1 rfl ?_;intro a4 a5 ax ay ah;refine Xj (col:=ax) #[.bool false,.slice none (([]:List Int).length) 0,.slice none (([]:List Int).length) 0] 2 zeroValue39 ?_;intro a6 a7 ai aw ab;refine go ?_;refine Wi (col:=ai) [(0,1),(1,1),(2,0),(3,1),(4,1),(5,1),(6,0),(7,0),(8,3),(9,3),(10,2)] (by kernel_rfl) (by kernel_rfl)<|xF ⟨_,_,rfl⟩ ?_;refine xF (Tz ⟨_,_,rfl⟩) ?_;replace ah:=ah.gr aw;refine xW (fun _ hC=>((((ah.atN).part 0 2 _ rfl)).nth (q:=0) rfl).gr (hC.bl ai)) ?_;refine xu rfl rfl (fun _=>Zhu _ rfl) ?_;refine xF ⟨_,_,rfl⟩ ?_;refine xF (Tz ⟨_,_,rfl⟩) ?_;refine xW (fun _ hC=>((((ah.atN).part 0 2 _ rfl)).nth (q:=1) rfl).gr (hC.bl ai)) ?_;refine xv rfl rfl (fun _ hC=>Xb isAgg39 sizeOf39 (ah.gr (hC.bl ai))) ?_;refine xe rfl rfl ?_;intro a8 hC0;have hC:=hC0.bl ai;obtain ⟨a9,az,hm⟩:=bZ hm;replace aj:=aj.keep (Zl.start col w0);replace al:=al.keep (Zl.start col w0);replace aa:=((aa.grow ay).grow aw).grow hC;refine Zh (Tb 3 az (aj.ks aa) (al.ks aa)) ?_;rintro _ ba ⟨ag,bb,bc,rfl,am,an⟩;refine ⟨_,rfl,?_⟩;refine Zm<|X4 ag hC0 am<|xe rfl rfl ?_;intro a0 hC0;replace ab:=(ab.gr hC).gr am;have hC:=hC0.bl ag;obtain ⟨bd,a1,hm⟩:=bZ hm;replace aa:=(aa.grow am).grow hC;replace an:=an.gr hC;refine Zh (Zfe 4 5 a1 ((aj.ks aa).froz 3) (an.toSlF (Zg.int .u32))) ?_;rintro _ be ⟨a2,bf,bg,bh,bi,rfl,ac,ad,ae⟩;refine ⟨_,rfl,?_⟩;replace ad:=ad.thaw (Zy .u32) ac ((Fz.refl (col:=ag)).froz 3) (by decide);replace ae:=ae.thaw (Zy .u32) ac ((Fz.refl (col:=ag)).froz 3) (by decide);replace ac:=ac.thawR (col:=ag);generalize Z7 a0.heap.size ag a2=ak at *;refine Zm<|X4 ak hC0 ac<|xe rfl rfl ?_;intro bj hC0;replace ab:=(ab.gr hC).gr ac;have hC:=hC0.bl ak;replace ab:=ab.gr hC;refine Zw ab ?_;intro bk ao a3 ap;refine Zm<|xk ak<|Wf ?_;replace aa:=((aa.grow ac).grow hC).kp ao a3;replace ad:=(ad.gr hC).kp ao;replace ae:=(ae.gr hC).kp ao;intro bm hC;replace hC:=hC.bl ak;refine W4 ?_;cases hm;replace ad:=ad.gr hC;replace ae:=ae.gr hC;replace ap:=ap.gr hC;replace aa:=aa.grow hC;exact ⟨rfl,_,ra ap.atN,_,_,_,_,_,rfl,aa.fin (cm [(4,c1),(5,c2)]),aa.fo ad,aa.fo ae⟩
def Zhl (N:Nat) (aa:R3):Option R3:=
  (Tt N (!aa.1) aa.2).bind fun ab=>some (ab.1,ab.2)
theorem Z0m {N ag:Nat} {ah:Option Addr} {col:Ze} {w0:World} {ab r:R3} (c1:Nat) (hm:Zhl N ab=some r) (ad:Sl (Za.int .u32) col w0 ah ag ab.2):
    Calls prog 66 #[(.agg #[.bool ab.1,.slice ah ab.2.length ag])] w0 (fun e w'=>∃ (col':Ze) (ra1:Option Addr) (rc2:Nat),e= .returned ((.agg #[.bool r.1,.slice ra1 r.2.length rc2]))∧Zf col w0 col' w'∧Zc (Za.int .u32) 95 c1 col' w' ra1 rc2 r.2):=by
 refine Y2 (m:=9) func66 rfl rfl rfl ?_;rw [Zhl.eq_1] at hm;have aa:=St.start col w0;refine go ?_;refine Xv (col:=(Zk col)) 1 rfl ?_;intro aq ar al am ac;refine Xj (col:=al) #[.bool false,.slice none (([]:List Int).length) 0] 2 zeroValue37 ?_;intro au av aw ai ae;refine go ?_;refine Xx ⟨_,_,rfl⟩ ?_;replace ac:=ac.gr ai;refine lW ((ac.atN).nth (q:=0) rfl)<|go ?_;refine Xz ac ?_;obtain ⟨ax,an,hm⟩:=bZ hm;replace ad:=ad.keep (Zl.start col w0);replace aa:=(aa.grow am).grow ai;refine Zh (Q5 3 an (ad.ks aa)) ?_;rintro _ ay ⟨az,a0,a1,rfl,aj,af⟩;refine ⟨_,rfl,?_⟩;replace ae:=ae.gr aj;refine Zw ae ?_;intro a2 ak ao ap;refine go ?_;cases hm;replace aa:=(aa.grow aj).kp ak ao;replace af:=af.kp ak;exact ⟨rfl,_,ra ap.atN,_,_,_,rfl,aa.fin (cm [(3,c1)]),aa.fo af⟩
theorem Za2 {N k:Nat} {neg:Bool} {m:List Int} (hm:Zo m) (hk:m.length≤k) (hr:Xi N k):Tt N neg m=some (Xa (Zr (neg,m))):=by
 obtain ⟨r1,r2⟩:=hr
 rw [Tt,Zpd hm (by omega) (by omega),oB,Zj1]
 have e:decide (0<((Zd (Zb m)).length:Int))=decide (Zb m≠0):=by
  by_cases h:Zb m=0
  ·rw [h,Vd];decide
  ·have:=Sz h
   rw [decide_eq_true (by omega),decide_eq_true h]
 cases neg
 ·rw [if_neg (by decide),Zhn,Bool.false_and]
 ·rw [if_pos rfl,Zhn,e,Bool.true_and]
theorem Z56 {N k:Nat} {a:ZV} (hm:Zo a.2) (hk:a.2.length≤k) (hr:Xi N k):Zjw N a=some (Xa (Zr a)):=by
 rw [Zjw,Za2 hm hk hr];rfl
theorem Zhy {N k:Nat} {a:ZV} (hm:Zo a.2) (hk:a.2.length≤k) (hr:Xi N k):Sf N a=some (Zr a).sign:=by
 obtain ⟨r1,r2⟩:=hr
 rw [Sf,Znk hm (by omega) (by omega),oB,Zr]
 by_cases h:Zb a.2=0
 ·rw [h,Zfb,if_pos (by decide)];simp
 ·have h1:Z0 (Zb a.2)≠0:=by rw [Z0,if_neg h];omega
  rw [if_neg (dF (by omega))]
  by_cases h2:a.1=true
  ·rw [if_pos h2,if_pos h2,Int.sign_eq_neg_one_of_neg (by omega)]
  ·rw [if_neg h2,if_neg h2,Int.sign_eq_one_of_pos (by omega)]
theorem Zqm {a b:ZV}:(a.1=b.1→Zr (a.1,Zd (Zb a.2+Zb b.2))=Zr a+Zr b)∧(a.1≠b.1→(Zb b.2≤Zb a.2→Zr (a.1,Zd (Zb a.2 - Zb b.2))=Zr a+Zr b)∧(Zb a.2<Zb b.2→Zr (b.1,Zd (Zb b.2 - Zb a.2))=Zr a+Zr b)):=by
 obtain ⟨s,x⟩:=a
 obtain ⟨t,y⟩:=b
 simp only [Zr,Z5]
 cases s <;> cases t <;> simp <;> (try constructor) <;> intros <;> omega
theorem Zqg {N k l:Nat} {a b:ZV} (ha:Zo a.2) (hb:Zo b.2) (hk:a.2.length≤k) (hl:b.2.length≤l) (hr:Xi N (k+l+1)):Zdd N a b=some (Xa (Zr a+Zr b)):=by
 have hr':=hr
 obtain ⟨r1,r2⟩:=hr'
 have la:=Yu ha
 have lb:=Yu hb
 have lsum:(Zd (Zb a.2+Zb b.2)).length≤k+l+1:=Zik (by omega) (by omega)
 have ls1:(Zd (Zb a.2 - Zb b.2)).length≤k+l+1:=by have:=Wm (Nat.sub_le (Zb a.2) (Zb b.2));omega
 have ls2:(Zd (Zb b.2 - Zb a.2)).length≤k+l+1:=by have:=Wm (Nat.sub_le (Zb b.2) (Zb a.2));omega
 rw [Zdd]
 by_cases h:a.1=b.1
 ·rw [if_pos (dT h),Zyj ha hb (by omega) (by omega) (by omega) (by omega),oB,Za2 (Z8 _) lsum hr,oB,Zqm.1 h]
 ·rw [if_neg (dF h),Zxx ha hb (by omega) (by omega) (by omega) (by omega),oB]
  by_cases hlt:Zb a.2<Zb b.2
  ·rw [if_pos hlt,if_neg (by decide),Zxx hb ha (by omega) (by omega) (by omega) (by omega),oB,if_neg (by omega),Za2 (Z8 _) ls2 hr,oB,(Zqm.2 h).2 hlt]
  ·rw [if_neg hlt,if_pos rfl,Za2 (Z8 _) ls1 hr,oB,(Zqm.2 h).1 (by omega)]
theorem Zqo (b:ZV):Zr (!b.1,b.2)= -Zr b:=by
 obtain ⟨s,x⟩:=b
 cases s <;> simp [Zr]
theorem Zyf {N k l:Nat} {a b:ZV} (ha:Zo a.2) (hb:Zo b.2) (hk:a.2.length≤k) (hl:b.2.length≤l) (hr:Xi N (k+l+1)):Zex N a b=some (Xa (Zr a - Zr b)):=by
 rw [Zex,Zqg (a:=(a.1,a.2)) (b:=(!b.1,b.2)) ha hb hk hl hr,oB,Zqo,Int.sub_eq_add_neg]
theorem Z55 {N k:Nat} {a:ZV} (hm:Zo a.2) (hk:a.2.length≤k) (hr:Xi N k):Zhl N a=some (Xa (-Zr a)):=by
 rw [Zhl,Za2 hm hk hr,oB,Zqo]
theorem Zyg (a b:ZV):Zr (!decide (a.1=b.1),Zd (Zb a.2 * Zb b.2))=Zr a * Zr b:=by
 obtain ⟨s,x⟩:=a
 obtain ⟨t,y⟩:=b
 simp only [Zr,Z5]
 cases s <;> cases t <;> simp [Int.natCast_mul,Int.neg_mul,Int.mul_neg]
theorem Z54 {N k l:Nat} {a b:ZV} (ha:Zo a.2) (hb:Zo b.2) (hk:a.2.length≤k) (hl:b.2.length≤l) (hr:Xi N (k+l)):Zjv N a b=some (Xa (Zr a * Zr b)):=by
 have hr':=hr
 obtain ⟨r1,r2⟩:=hr'
 have la:=Yu ha
 have lb:=Yu hb
 have:=Sa (Zb a.2) (Zb b.2)
 rw [Zjv,Zo9 ha hb (by omega) (by omega),oB,Za2 (k:=k+l) (Z8 _) (by omega) hr,oB,Zyg]
theorem Z6b (a b:ZV):(if (Zr a).sign<(Zr b).sign then -1 else if (Zr b).sign<(Zr a).sign then 1 else (Zr a).sign * (if Zb a.2<Zb b.2 then -1 else if Zb b.2<Zb a.2 then 1 else 0))=Zdm (Zr a) (Zr b):=by
 obtain ⟨s,x⟩:=a
 obtain ⟨t,y⟩:=b
 have key:∀ z:Int,z.sign=if z<0 then -1 else if 0<z then 1 else 0:=fun z=>(Zqn z).symm
 rw [key,key]
 unfold Zdm
 simp only [Zr]
 generalize Zb x=X
 generalize Zb y=Y
 cases s <;> cases t <;> simp only [if_true,Bool.false_eq_true,if_false] <;> (repeat' split) <;> omega
theorem Z51 {N k l:Nat} {a b:ZV} (ha:Zo a.2) (hb:Zo b.2) (hk:a.2.length≤k) (hl:b.2.length≤l) (hr:Xi N (k+l)):Zjt N a b=some (Zdm (Zr a) (Zr b)):=by
 have hr':=hr
 obtain ⟨r1,r2⟩:=hr'
 have sa:-1≤(Zr a).sign∧(Zr a).sign≤1:=by rw [← Zqn];unfold Zdm;(repeat' split) <;> omega
 rw [Zjt,Zhy ha hk (hr.mono (by omega)),oB,Zhy hb hl (hr.mono (by omega)),oB,← Z6b a b]
 by_cases h1:(Zr a).sign<(Zr b).sign
 ·rw [if_pos (dT h1),if_pos h1]
 ·rw [if_neg (dF h1),if_neg h1]
  by_cases h2:(Zr b).sign<(Zr a).sign
  ·rw [if_pos (dT h2),if_pos h2]
  ·rw [if_neg (dF h2),if_neg h2,Zn7 ha hb (by omega) (by omega) (by omega) (by omega),oB]
   congr 1
   refine Zz ?_
   have:(Zr a).sign= -1∨(Zr a).sign=0∨(Zr a).sign=1:=by omega
   rcases this with h | h | h <;> rw [h] <;> (repeat' split) <;> decide
theorem Zqj {N:Nat} {z:Int} (h:-9223372036854775808≤z∧z≤9223372036854775807) (hr:Xi N 2):Zde N z=some (Xa z):=by
 have hr':=hr
 obtain ⟨r1,r2⟩:=hr'
 have l2:∀ n:Nat,n<18446744073709551616→(Zd n).length≤2:=fun n hn=>W0.2 (by simpa using hn)
 rw [Zde]
 by_cases hz:z<0
 ·have e:u64.wrap (-u64.wrap z)= -z:=by rw [IntKind.wrap_u64,IntKind.wrap_u64];omega
  rw [if_pos (dT hz),e,Zj2 (by omega) (by omega),oB,Za2 (Z8 _) (l2 _ (by omega)) hr,oB]
  have e2:Zr (true,Zd (-z).toNat)=z:=by simp only [Zr,Z5,if_true];omega
  rw [e2]
 ·rw [if_neg (dF hz),Xo (by omega),Zj2 (by omega) (by omega),oB,Za2 (Z8 _) (l2 _ (by omega)) hr,oB]
  have e2:Zr (false,Zd z.toNat)=z:=by simp only [Zr,Z5];simp;omega
  rw [e2]
theorem Za1 {N k:Nat} {a:QV} (ha:RV k a) (hr:Xi N k):V5 N a=some (Zd (Yn a.2)):=by
 obtain ⟨r1,r2⟩:=hr
 have:=ha.ld
 rw [V5,Zpd ha.d (by omega) (by omega),oB,Yn]
 by_cases h:Zb a.2=0
 ·rw [h,Vd,if_neg (by decide),if_pos rfl,Zj2 (by decide) (by omega)];rfl
 ·have:=Sz h
  rw [if_pos (dT (by omega)),if_neg h]
theorem Q7 {k:Nat} {a:QV} (ha:RV k a):(Zd (Yn a.2)).length≤k+1:=by
 have h1:=Yu ha.d
 have h2:=ha.ld
 rw [Yn]
 split
 ·rw [Uj];simp
 ·omega
theorem Zhq {N k l n:Nat} {a:ZV} (ha:Zo a.2) (hk:a.2.length≤k) (hl:(Zd n).length≤l) (hr:Xi N (k+l)):Zai N a (Zd n)=some (Xa (Zr a * n)):=by
 rw [Zai,Z54 (a:=(a.1,a.2)) (b:=(false,Zd n)) ha (Z8 _) hk hl hr,oB]
 have e:Zr (false,Zd n)=n:=by simp [Zr,Z5]
 rw [e]
theorem Zil {N k l:Nat} {neg:Bool} {num den:List Int} (hn:Zo num) (hd:Zo den) (h0:Zb den≠0) (hk:num.length≤k) (hl:den.length≤l) (hr:Xi N (k+l)):
  Zah N neg num den=some (Zn (mkRat (Zr (neg,num)) (Zb den))):=by
 have hr':=hr
 obtain ⟨r1,r2⟩:=hr'
 have l1:=Yu hn
 have l2:=Yu hd
 have hg:Nat.gcd (Zb num) (Zb den)≠0:=fun h=>h0 (Nat.gcd_eq_zero_iff.1 h).2
 have lg:(Zd (Nat.gcd (Zb num) (Zb den))).length≤den.length:=Nat.le_trans (Wm (Nat.gcd_le_right _ (by omega))) l2
 have lq:=Wm (Nat.div_le_self (Zb num) (Nat.gcd (Zb num) (Zb den)))
 rw [Zah,Z2f hn hd (by omega) (by omega),oB,Zif hn (Z8 _) (by omega) (by omega),oB,Zif hd (Z8 _) (by omega) (by omega),oB,Z5,if_neg hg,if_neg hg,
  Z56 (k:=k) (a:=(neg,Zd (Zb num / Nat.gcd (Zb num) (Zb den)))) (Z8 _) (by simp only;omega) (hr.mono (by omega)),oB,Zvh h0,Zj1,Z5]
theorem Z2b {N k:Nat} {a:QV} (ha:RV k a) (hr:Xi N (2 * k+1)):Zgc N a=some (Zn (-Zu a)):=by
 have ld:=Q7 ha
 rw [Zgc,Za1 ha (hr.mono (by omega)),oB,Zil (k:=k) (l:=k+1) ha.m (Z8 _) (by rw [Z5];exact T7 _) ha.lm ld (hr.mono (by omega)),oB,Z5,Zqo a.1,Zu,Rat.neg_mkRat]
theorem Zoj {N k:Nat} {a:QV} (ha:RV k a) (hr:Xi N k):Zag N a=some (Qb (Zu a)):=by
 rw [Zag,Zhy (a:=(a.1.1,a.1.2)) ha.m ha.lm hr,oB,Z4g]
theorem Q8 (z:Int):(Xa z).2=Zd z.natAbs:=rfl
theorem Zfs {k l n:Nat} {a:ZV} (ha:Zo a.2) (hk:a.2.length≤k) (hl:(Zd n).length≤l):(Xa (Zr a * n)).2.length≤k+l:=by
 rw [Q8,Int.natAbs_mul,Int.natAbs_natCast,Zh0]
 have h1:=Sa (Zb a.2) n
 have h2:=Yu ha
 omega
theorem Zdv {N k l:Nat} {a b:QV} (ha:RV k a) (hb:RV l b) (hr:Xi N (2 * (k+l+2))):U4 N a b=some (Vt (Zu a) (Zu b)):=by
 have da:=Q7 ha
 have db:=Q7 hb
 have o1:=Zfs (n:=Yn b.2) ha.m ha.lm db
 have o2:=Zfs (n:=Yn a.2) hb.m hb.lm da
 rw [U4,Za1 hb (hr.mono (by omega)),oB,Zhq (k:=k) (l:=l+1) ha.m ha.lm db (hr.mono (by omega)),oB,Za1 ha (hr.mono (by omega)),oB,Zhq (k:=l) (l:=k+1) hb.m hb.lm da (hr.mono (by omega)),oB,
  Z51 (a:=Xa _) (b:=Xa _) (V3 _) (V3 _) o1 o2 (hr.mono (by omega)),oB,V8,V8,Zu,Zu,Zv8 (T7 _) (T7 _)]
theorem Zoc {N k l:Nat} {a b:QV} (ha:RV k a) (hb:RV l b) (hr:Xi N (k+l+2)):Zap N (Zd (Yn a.2)) (Zd (Yn b.2))=some (Zd (Yn a.2 * Yn b.2))∧(Zd (Yn a.2 * Yn b.2)).length≤k+l+2∧Yn a.2 * Yn b.2≠0:=by
 have da:=Q7 ha
 have db:=Q7 hb
 have hr':=hr
 obtain ⟨r1,r2⟩:=hr'
 have:=Sa (Yn a.2) (Yn b.2)
 refine ⟨by rw [Zo9 (Z8 _) (Z8 _) (by omega) (by omega),Z5,Z5],by omega,Nat.mul_ne_zero (T7 _) (T7 _)⟩
theorem Zxz {x y:Int} {k:Nat} (hx:(Xa x).2.length≤k) (hy:(Xa y).2.length≤k):(Xa (x+y)).2.length≤k+1:=by
 rw [Q8] at *
 exact Nat.le_trans (Wm (Int.natAbs_add_le _ _)) (Zik hx hy)
theorem Z5s {x y:Int} {k:Nat} (hx:(Xa x).2.length≤k) (hy:(Xa y).2.length≤k):(Xa (x - y)).2.length≤k+1:=by
 rw [Int.sub_eq_add_neg]
 refine Zxz hx ?_
 rw [Q8,Int.natAbs_neg];exact hy
theorem Zvi (z:Int):((Xa z).1,(Xa z).2)=Xa z:=rfl
theorem Zb7 {N k l:Nat} {a b:QV} (ha:RV k a) (hb:RV l b) (hr:Xi N (2 * (k+l+3))):V4 N a b=some (Zn (Zu a+Zu b)):=by
 have da:=Q7 ha
 have db:=Q7 hb
 have o1:=Zfs (n:=Yn b.2) ha.m ha.lm db
 have o2:=Zfs (n:=Yn a.2) hb.m hb.lm da
 obtain ⟨m1,m2,m3⟩:=Zoc ha hb (hr.mono (by omega))
 have sl:=Zxz (k:=k+l+1) (by omega) (Nat.le_trans o2 (by omega))
 rw [V4,Za1 hb (hr.mono (by omega)),oB,Zhq (k:=k) (l:=l+1) ha.m ha.lm db (hr.mono (by omega)),oB,Za1 ha (hr.mono (by omega)),oB,Zhq (k:=l) (l:=k+1) hb.m hb.lm da (hr.mono (by omega)),oB,
  Zqg (a:=Xa _) (b:=Xa _) (V3 _) (V3 _) o1 o2 (hr.mono (by omega)),oB,V8,V8,oB,oB,m1,oB,
  Zil (V3 _) (Z8 _) (by rw [Z5];exact m3) sl m2 (hr.mono (by omega)),oB,Zvi,V8,Z5,Zu,Zu,Rat.mkRat_add_mkRat _ _ (T7 _) (T7 _)]
theorem Z3k (n₁ n₂:Int) {d₁ d₂:Nat} (z₁:d₁≠0) (z₂:d₂≠0):mkRat n₁ d₁ - mkRat n₂ d₂=mkRat (n₁ * d₂ - n₂ * d₁) (d₁ * d₂):=by
 rw [Rat.sub_eq_add_neg,Rat.neg_mkRat,Rat.mkRat_add_mkRat _ _ z₁ z₂,Int.neg_mul,Int.sub_eq_add_neg]
theorem Zok {N k l:Nat} {a b:QV} (ha:RV k a) (hb:RV l b) (hr:Xi N (2 * (k+l+3))):Qq N a b=some (Zn (Zu a - Zu b)):=by
 have da:=Q7 ha
 have db:=Q7 hb
 have o1:=Zfs (n:=Yn b.2) ha.m ha.lm db
 have o2:=Zfs (n:=Yn a.2) hb.m hb.lm da
 obtain ⟨m1,m2,m3⟩:=Zoc ha hb (hr.mono (by omega))
 have sl:=Z5s (k:=k+l+1) (by omega) (Nat.le_trans o2 (by omega))
 rw [Qq,Za1 hb (hr.mono (by omega)),oB,Zhq (k:=k) (l:=l+1) ha.m ha.lm db (hr.mono (by omega)),oB,Za1 ha (hr.mono (by omega)),oB,Zhq (k:=l) (l:=k+1) hb.m hb.lm da (hr.mono (by omega)),oB,
  Zyf (a:=Xa _) (b:=Xa _) (V3 _) (V3 _) o1 o2 (hr.mono (by omega)),oB,V8,V8,oB,oB,m1,oB,
  Zil (V3 _) (Z8 _) (by rw [Z5];exact m3) sl m2 (hr.mono (by omega)),oB,Zvi,V8,Z5,Zu,Zu,Z3k _ _ (T7 _) (T7 _)]
theorem Zih {N k l:Nat} {a b:QV} (ha:RV k a) (hb:RV l b) (hr:Xi N (2 * (k+l+3))):Uv N a b=some (Zn (Zu a * Zu b)):=by
 have hr':=hr
 obtain ⟨r1,r2⟩:=hr'
 have h1:=ha.lm
 have h2:=hb.lm
 have la:=Yu ha.m
 have lb:=Yu hb.m
 have lm:=Sa (Zb a.1.2) (Zb b.1.2)
 obtain ⟨m1,m2,m3⟩:=Zoc ha hb (hr.mono (by omega))
 rw [Uv,Zo9 ha.m hb.m (by omega) (by omega),oB,Za1 ha (hr.mono (by omega)),oB,Za1 hb (hr.mono (by omega)),oB,m1,oB,
  Zil (k:=k+l) (Z8 _) (Z8 _) (by rw [Z5];exact m3) (by omega) m2 (hr.mono (by omega)),oB,Zyg,Z5,Zu,Zu,Rat.mkRat_mul_mkRat]
theorem Zu4 (n₁:Int) (d₁:Nat) (b:ZV) (d₂:Nat) (s:Bool) (x:List Int) (h:n₁=Zr (s,x)) (hb:Zb b.2≠0):mkRat n₁ d₁ / mkRat (Zr b) d₂=mkRat (Zr (!decide (s=b.1),Zd (Zb x * d₂))) (d₁ * Zb b.2):=by
 have e1:mkRat (Zr b) d₂=(Zr b:Rat) / (d₂:Rat):=Rat.mkRat_eq_div _ _
 have hz:(Zr b:Rat)=(if b.1=true then -1 else 1) * (Zb b.2:Rat):=by
  rw [Zr];split
  ·rw [Rat.intCast_neg,Rat.neg_mul,Rat.one_mul];rfl
  ·rw [Rat.one_mul];rfl
 have hn:(Zr (!decide (s=b.1),Zd (Zb x * d₂)):Rat)=(if b.1=true then -1 else 1) * (n₁:Rat) * (d₂:Rat):=by
  subst h
  have:Zr (!decide (s=b.1),Zd (Zb x * d₂))=(if b.1=true then -1 else 1) * Zr (s,x) * (d₂:Int):=by
   obtain ⟨t,y⟩:=b
   simp only [Zr,Z5]
   cases s <;> cases t <;> simp [Int.natCast_mul,Int.neg_mul]
  rw [this,Rat.intCast_mul,Rat.intCast_mul]
  congr 2
  split <;> rfl
 have hbr:(Zb b.2:Rat)≠0:=fun h=>hb (Rat.natCast_eq_zero_iff.1 h)
 rw [Rat.mkRat_eq_div,e1,Rat.mkRat_eq_div,hn,hz,Rat.natCast_mul]
 have hs:(if b.1=true then (-1:Rat) else 1) * (if b.1=true then (-1:Rat) else 1)=1:=by split <;> grind
 generalize (if b.1=true then (-1:Rat) else 1)=sg at *
 generalize (n₁:Rat)=p
 generalize (d₁:Rat)=q
 generalize (d₂:Rat)=r
 generalize (Zb b.2:Rat)=m at *
 have hsg:sg≠0:=fun h=>by rw [h] at hs;grind
 have hinv:sg⁻¹=sg:=Rat.inv_eq_of_mul_eq_one hs
 simp only [Rat.div_def,Rat.inv_mul_rev,Rat.inv_inv,hinv]
 grind
theorem Z2c {N k l:Nat} {a b:ZV} (ha:Zo a.2) (hb:Zo b.2) (hk:a.2.length≤k) (hl:b.2.length≤l) (hr:Xi N (k+l)):Ziq N a b=some (if Zr b=0 then (((false,[]),[]),11) else (Zn ((Zr a:Rat) / (Zr b:Rat)),0)):=by
 rw [Ziq,Zhy (a:=(b.1,b.2)) hb hl (hr.mono (by omega)),oB]
 by_cases h0:Zr b=0
 ·rw [if_pos h0,h0,if_pos (by decide)]
 ·have hb0:Zb b.2≠0:=fun h=>h0 (by have:=Zh0 b;omega)
  have e:=Zu4 (Zr a) 1 b 1 a.1 a.2 rfl hb0
  have hs:¬ (Zr b).sign=0:=fun h=>h0 (Int.sign_eq_zero_iff_zero.1 h)
  rw [if_neg (dF hs),if_neg h0,Zil ha hb hb0 hk hl hr,oB]
  rw [Rat.mkRat_eq_div,Rat.mkRat_eq_div] at e
  have e1:(Zr a:Rat) / ((1:Nat):Rat) / ((Zr b:Rat) / ((1:Nat):Rat))=(Zr a:Rat) / (Zr b:Rat):=by
   have h1:((1:Nat):Rat)=1:=rfl
   have h2:(1:Rat)⁻¹=1:=Rat.inv_eq_of_mul_eq_one (by grind)
   simp only [h1,Rat.div_def,h2,Rat.mul_one]
  rw [e1,Nat.one_mul,Nat.mul_one] at e
  rw [e]
  have e2:Zr (!decide (a.1=b.1),Zd (Zb a.2))=Zr (!decide (a.1=b.1),a.2):=by simp only [Zr,Z5]
  rw [e2]
theorem Ztp {N:Nat} {a b:Int} (h:-9223372036854775808≤a∧a≤9223372036854775807) (g:-9223372036854775808≤b∧b≤9223372036854775807) (hr:Xi N 4):Zd3 N a b=some (if b=0 then (((false,[]),[]),11) else (Zn ((a:Rat) / (b:Rat)),0)):=by
 have l2:∀ z:Int,-9223372036854775808≤z∧z≤9223372036854775807→(Xa z).2.length≤2:=fun z hz=>W0.2 (by simp;omega)
 rw [Zd3,Zqj h (hr.mono (by omega)),oB,Zqj g (hr.mono (by omega)),oB,Z2c (a:=Xa a) (b:=Xa b) (V3 _) (V3 _) (l2 _ h) (l2 _ g) hr,oB,V8,V8]
def Wo (l:List QV):Rat:=(l.map Zu).sum
def Yb:List QV→Nat
 | []=>0
 | a :: l=>max a.1.2.length a.2.length+2+Yb l
theorem Zdk {a:QV} (hm:Zo a.1.2) (hd:Zo a.2):RV (max a.1.2.length a.2.length) a:=⟨hm,hd,Nat.le_max_left _ _,Nat.le_max_right _ _⟩
def Vr (a:QV):Prop:=Zo a.1.2∧Zo a.2
theorem Zmt {a:QV} (h:Vr a):qs (Zu a)≤max a.1.2.length a.2.length+1:=by
 have:=Zwf (Zdk h.1 h.2)
 omega
theorem Ztt {N:Nat}:∀ (l:List QV) (q:Rat),(∀ a ∈ l,Vr a)→Xi N (4 * (qs q+Yb l+3))→Zcm N l (Zn q).1.1 (Zn q).1.2 (Zn q).2=some (Zn (q+Wo l))∧qs (q+Wo l)≤qs q+Yb l
 | [],q,_,_=>by
  rw [Zcm.eq_1,Wo]
  simp only [List.map_nil,List.sum_nil,Rat.add_zero,Yb]
  exact ⟨trivial,by omega⟩
 | a :: l,q,hl,hr=>by
  have ha:=hl a List.mem_cons_self
  have hs:=Zmt ha
  rw [Yb] at hr ⊢
  rw [Zcm.eq_2,Zb7 (k:=qs q) (l:=max a.1.2.length a.2.length) (Zxi q) (Zdk ha.1 ha.2) (hr.mono (by omega)),oB]
  have e:Zu ((((Zn q).1.1,(Zn q).1.2),(Zn q).2):QV)=q:=Y3 q
  have e2:Zu (((a.1.1,a.1.2),a.2):QV)=Zu a:=rfl
  have h1:=Zmr q (Zu a)
  obtain ⟨h2,h3⟩:=Ztt l (q+Zu a) (fun x hx=>hl x (List.mem_cons_of_mem _ hx)) (hr.mono (by omega))
  rw [e,e2,h2]
  have e3:q+Zu a+Wo l=q+Wo (a :: l):=by rw [Wo,Wo,List.map_cons,List.sum_cons,Rat.add_assoc]
  rw [e3] at h3 ⊢
  exact ⟨rfl,by omega⟩
theorem Ztu {N:Nat} {l:List QV} (hl:∀ a ∈ l,Vr a) (hr:Xi N (4 * (Yb l+4))):Zbe N l=some (Zn (Wo l))∧qs (Wo l)≤Yb l+1:=by
 have hr':=hr
 obtain ⟨r1,r2⟩:=hr'
 obtain ⟨h1,h2⟩:=Ztt (N:=N) l 0 hl (hr.mono (by rw [Zwg];omega))
 rw [Rat.zero_add] at h1 h2
 rw [Zwg] at h2
 have e:Zn 0=((false,[]),[1]):=by
  rw [Zn,Xa]
  simp only [Rat.zero_num,Rat.zero_den,Int.natAbs_zero,Vd,Uj]
  rfl
 rw [e] at h1
 refine ⟨?_,by omega⟩
 rw [Zbe,Zj2 (by decide) (by omega),oB,← h1]
 rw [show (1:Int).toNat=1 from rfl,Uj]
def Bd (D M:Nat) (q:Rat):Prop:=∃ z:Int,q=mkRat z D∧z.natAbs≤M * D
theorem Bd.qs {D M:Nat} {q:Rat} (h:Bd D M q) (hD:D≠0) (hM:1≤M):qs q≤(Zd (M * D)).length:=by
 obtain ⟨z,rfl,hz⟩:=h
 have h1:D≤M * D:=Nat.le_mul_of_pos_left D hM
 exact Zdh (Wm hz) (Wm h1) (Sz (by omega))
theorem Bd.up {D M K:Nat} {q:Rat} (h:Bd D M q) (hK:M≤K):Bd D K q:=by
 obtain ⟨z,e,hz⟩:=h
 exact ⟨z,e,Nat.le_trans hz (Nat.mul_le_mul_right D hK)⟩
theorem Bd.lift {D M:Nat} (E:Nat) {q:Rat} (h:Bd D M q) (hD:D≠0) (hE:E≠0):Bd (D * E) M q:=by
 obtain ⟨z,rfl,hz⟩:=h
 refine ⟨z * E,?_,?_⟩
 ·rw [Zjz hD (Nat.mul_ne_zero hD hE),Int.natCast_mul,Int.mul_assoc,Int.mul_comm (E:Int)]
 ·rw [Int.natAbs_mul,Int.natAbs_natCast,← Nat.mul_assoc]
  exact Nat.mul_le_mul_right E hz
theorem Zjy (a b:Int) {D:Nat} (hD:D≠0):mkRat a D+mkRat b D=mkRat (a+b) D:=by
 rw [Rat.mkRat_add_mkRat _ _ hD hD,← Int.add_mul,Zjz (Nat.mul_ne_zero hD hD) hD,Int.natCast_mul,Int.mul_assoc]
theorem Bd.add {D M K:Nat} {a b:Rat} (ha:Bd D M a) (hb:Bd D K b) (hD:D≠0):Bd D (M+K) (a+b):=by
 obtain ⟨x,rfl,hx⟩:=ha
 obtain ⟨y,rfl,hy⟩:=hb
 refine ⟨x+y,Zjy x y hD,Nat.le_trans (Int.natAbs_add_le _ _) ?_⟩
 rw [Nat.add_mul];omega
theorem Bd.neg {D M:Nat} {a:Rat} (ha:Bd D M a):Bd D M (-a):=by
 obtain ⟨x,rfl,hx⟩:=ha
 exact ⟨-x,by rw [Rat.neg_mkRat],by rw [Int.natAbs_neg];exact hx⟩
theorem Bd.sub {D M K:Nat} {a b:Rat} (ha:Bd D M a) (hb:Bd D K b) (hD:D≠0):Bd D (M+K) (a - b):=by
 rw [Rat.sub_eq_add_neg]
 exact ha.add hb.neg hD
theorem Bd.mul {D E M K:Nat} {a b:Rat} (ha:Bd D M a) (hb:Bd E K b):Bd (D * E) (M * K) (a * b):=by
 obtain ⟨x,rfl,hx⟩:=ha
 obtain ⟨y,rfl,hy⟩:=hb
 refine ⟨x * y,Rat.mkRat_mul_mkRat _ _ _ _,?_⟩
 rw [Int.natAbs_mul,Nat.mul_mul_mul_comm M K D E]
 exact Nat.mul_le_mul hx hy
theorem Bd.zero (D M:Nat):Bd D M 0:=⟨0,by rw [Rat.zero_mkRat],by simp⟩
theorem Bd.one:Bd 1 1 1:=⟨1,rfl,by simp⟩
def To:List QV→Nat
 | []=>1
 | x :: t=>Yn x.2 * To t
theorem Zk1:∀ t:List QV,To t≠0
 | []=>by simp [To]
 | x :: t=>Nat.mul_ne_zero (T7 x.2) (Zk1 t)
theorem Zs0:∀ (t:List QV),(∀ x ∈ t,Vr x)→(Zd (To t)).length≤Yb t+1
 | [],_=>by rw [To,Uj];simp
 | x :: t,h=>by
  have hx:=h x List.mem_cons_self
  have h1:=Q7 (Zdk hx.1 hx.2)
  have h2:=Zs0 t fun y hy=>h y (List.mem_cons_of_mem _ hy)
  have h3:=Sa (Yn x.2) (To t)
  rw [To,Yb];omega
theorem Zyr {x:QV} (h:0≤Zu x) (g:Zu x≤1):Bd (Yn x.2) 1 (Zu x):=by
 refine ⟨Zr x.1,rfl,?_⟩
 have hd:=T7 x.2
 have h1:¬ Zr x.1<0:=fun hn=>by
  have:Zu x<0:=by
   rw [Zu,show (0:Rat)=mkRat 0 1 from rfl,Ve hd (by decide)];omega
  exact absurd h (Rat.not_le.2 this)
 have h2:¬ (Yn x.2:Int)<Zr x.1:=fun hn=>by
  have:1<Zu x:=by
   rw [Zu,show (1:Rat)=mkRat 1 1 from rfl,Ve (by decide) hd];omega
  exact absurd g (Rat.not_le.2 this)
 omega
def Xs (long:Rat):List QV→Rat→List (Rat×Rat)
 | [],_=>[]
 | x :: t,at_=>(at_,at_+long * Zu x) :: Xs long t (at_+long * Zu x)
theorem Tu (long:Rat):∀ (t:List QV) (a:Rat),(Xs long t a).length=t.length
 | [],_=>rfl
 | x :: t,a=>by rw [Xs,nC,Tu long t,nC]
theorem Zvy {D M L:Nat} {long:Rat} (hD:D≠0) (hl:Bd D L long):∀ (t:List QV) (F:Nat) (a:Rat) (M:Nat),F≠0→(∀ x ∈ t,0≤Zu x∧Zu x≤1)→Bd (D * F) M a→∀ p ∈ Xs long t a,Bd (D * (F * To t)) (M+L * t.length) p.1∧Bd (D * (F * To t)) (M+L * t.length) p.2
 | [],F,a,M,hF,_,ha,p,hp=>by rw [Xs] at hp;cases hp
 | x :: t,F,a,M,hF,ht,ha,p,hp=>by
  have hx:=ht x List.mem_cons_self
  have hdx:=T7 x.2
  have h1:Bd (D * (F * Yn x.2)) (M+L) (a+long * Zu x):=by
   have e1:Bd (D * F * Yn x.2) M a:=ha.lift _ (Nat.mul_ne_zero hD hF) hdx
   have e2:Bd (D * Yn x.2 * F) (L * 1) (long * Zu x):=(hl.mul (Zyr hx.1 hx.2)).lift _ (Nat.mul_ne_zero hD hdx) hF
   rw [Nat.mul_one,Nat.mul_assoc,Nat.mul_comm (Yn x.2) F] at e2
   rw [Nat.mul_assoc] at e1
   exact e1.add e2 (Nat.mul_ne_zero hD (Nat.mul_ne_zero hF hdx))
  have hle:L≤L * (t.length+1):=by rw [Nat.mul_succ];omega
  rw [Xs] at hp
  rw [To,← Nat.mul_assoc F,nC]
  rcases List.mem_cons.1 hp with rfl | hp
  ·have e1:Bd (D * (F * Yn x.2)) M a:=by
    have:=ha.lift (Yn x.2) (Nat.mul_ne_zero hD hF) hdx
    rwa [Nat.mul_assoc] at this
   have nz:=Nat.mul_ne_zero hD (Nat.mul_ne_zero hF hdx)
   have e3:=(e1.lift (To t) nz (Zk1 t)).up (K:=M+L * (t.length+1)) (by omega)
   have e4:=(h1.lift (To t) nz (Zk1 t)).up (K:=M+L * (t.length+1)) (by omega)
   rw [Nat.mul_assoc] at e3 e4
   exact ⟨e3,e4⟩
  ·have:=Zvy (M:=M) hD hl t (F * Yn x.2) _ (M+L) (Nat.mul_ne_zero hF hdx) (fun y hy=>ht y (List.mem_cons_of_mem _ hy)) h1 p hp
   rw [show M+L+L * t.length=M+L * (t.length+1) by rw [Nat.mul_succ];omega] at this
   exact this
def Zck (kk_L2:(Option Int)):List Int→Ri→Option Int
  | [],aa=>kk_L2
  | ab :: ac,aa=>if (decide (0<((Wn aa ab).getD 0)))=true then (some 40) else ((some (S9 aa ab 1)).bind fun ad=>(Zck kk_L2 ac) ad)
termination_by structural x=>x
def Zac:List R2→Option Int
  | []=>some 0
  | aa :: ab=>Zck (Zac ab) aa ([]:List Rb)
termination_by structural x=>x
def Zf5 (kk_L4:(Option Int)) (aa:Bool):Option Int:=
  if aa=true then (some 3) else kk_L4
def Zad (aa:Ra) (kk_L1:(Option Int)):List Int→Option Int
  | []=>kk_L1
  | ab :: ac=>if (decide (ab<0))=true then (Zf5 (Zad aa kk_L1 ac) true) else (Zf5 (Zad aa kk_L1 ac) (decide ((aa.length:Int)≤ab)))
termination_by structural x=>x
def Zab (aa:Ra):List R2→Option Int
  | []=>Zac aa
  | ab :: ac=>Zad aa (Zab aa ac) ab
termination_by structural x=>x
def Zf4 (aa:Ra):Option Int:=
  Zab aa aa
theorem Zy4 {a6:Nat} {a0:Option Addr} {col:Ze} {w0:World} {ab:Ra} {r:Int} (hm:Zf4 ab=some r) (h0:Sl (Za.slice (Za.int .i64)) col w0 a0 a6 ab):
    Calls prog 155 #[.slice a0 ab.length a6] w0 (fun e w'=>e= .returned ((.int .i64 r))∧Below w0.heap.size w0 w'):=by
 refine Xm 2 (m:=57) func155 rfl rfl rfl rfl rfl ?_;rw [Zf4.eq_1] at hm;have aa:=St.start col w0;refine go ?_;refine Z9 [0,12,13,1000000] (fun n f a7=>∃ a8 ag ah,n=ah.length∧ab.drop ag=ah∧Zab ab ah=some r∧St w0 (Zk col) a8 a7∧[14].map f=[.int .i64 ag]) ab.length ⟨_,0,_,rfl,rfl,hm,aa,rfl⟩ ?_;clear hm;intro n f a7 hI;obtain ⟨a8,ag,ah,hn,hl,hm,aa,hs⟩:=hI;subst hn;refine .lL [14] hs ?_;replace h0:=h0.keep (Zl.start col w0)
 cases ah with
 | nil=>
  have hk:¬ ((ag:Int)<(ab.length:Int)):=by have:=List.drop_eq_nil_iff.1 hl;omega
  have hkb:=decide_eq_false hk;rw [Zab.eq_1] at hm;refine go ?_;refine X9 (congrArg Value.bool hkb)<|go ?_;refine Z9 [34,35,1000000] (fun n f a9=>∃ au ai aj,n=aj.length∧ab.drop ai=aj∧Zac aj=some r∧St w0 (Zk col) au a9∧[36].map f=[.int .i64 ai]) ab.length ⟨_,0,_,rfl,rfl,hm,aa,rfl⟩ ?_;clear hm;intro n f a9 hI;obtain ⟨au,ai,aj,hn,hl,hm,aa,hs⟩:=hI;subst hn;refine .lL [36] hs ?_
  cases aj with
  | nil=>
   have hk:¬ ((ai:Int)<(ab.length:Int)):=by have:=List.drop_eq_nil_iff.1 hl;omega
   have hkb:=decide_eq_false hk;rw [Zac.eq_1] at hm;refine go ?_;refine X9 (congrArg Value.bool hkb)<|go ?_;cases hm;exact ⟨rfl,rfl,aa.below⟩
  | cons ak ba=>
   obtain ⟨ac,bi,bj⟩:=Ym hl;have hk:(ai:Int)<(ab.length:Int):=by omega
   have hkb:=decide_eq_true hk;rw [Zac.eq_2] at hm;refine go ?_;refine Yc (congrArg Value.bool hkb)<|go ?_;refine lI ac ((h0.ks aa).addr ac) ?_;obtain ⟨_,bk,bm⟩:=(h0.ks aa).atN ac;obtain ⟨⟨bn,bo,rfl,ad⟩,_⟩:=bk;refine lW bm.one<|go ?_;refine Z2y (col:=au) (fk:=(Value.int .i64)) (fv:=(Value.int .i64)) 1 rfl underlying191 rfl ?_;intro b3 b4 b5 bb bp;refine go ?_;replace ad:=ad.gr bb;replace aa:=aa.grow bb;refine Z9 [34,35,36,43,44,1000000] (fun n f aq=>∃ ar al av am an,n=an.length∧ak.drop al=an∧Zck (Zac ba) an am=some r∧St w0 (Zk col) ar aq∧Sl (Za.int .i64) ar aq bn bo ak∧Vw (Value.int .i64) (Value.int .i64) 1 ar aq av am∧[45,9].map f=[.int .i64 al,.map (some av)]) ak.length ⟨_,0,_,_,_,rfl,rfl,hm,aa,ad,bp,rfl⟩ ?_;clear hm;intro n f aq hI;obtain ⟨ar,al,av,am,an,hn,hl,hm,aa,ad,bc,hs⟩:=hI;subst hn;refine .lL [45,9] hs ?_
   cases an with
   | nil=>
    have hk:¬ ((al:Int)<(ak.length:Int)):=by have:=List.drop_eq_nil_iff.1 hl;omega
    have hkb:=decide_eq_false hk;rw [Zck.eq_1] at hm;refine go ?_;refine X9 (congrArg Value.bool hkb)<|go ?_;exact ⟨ba.length,by simp,rfl,⟨_,_,_,rfl,bi,hm,aa,(Ys (congrArg (Value.int .i64) (Yp (Nat.lt_of_lt_of_le bj (h0.ks aa).1.1))) rfl)⟩⟩
   | cons aw bq=>
    obtain ⟨ac,br,bs⟩:=Ym hl;have hk:(al:Int)<(ak.length:Int):=by omega
    have hkb:=decide_eq_true hk;rw [Zck.eq_2] at hm;refine go ?_;refine Yc (congrArg Value.bool hkb)<|go ?_;refine lI ac (ad.addr ac)<|lW (ad.atInt ac) ?_;refine go ?_;refine lV (.int .i64 ((Wn am aw).getD 0)) (Zwp Sr.int bc underlying191 underlying3 zeroValue3 rfl rfl)<|go ?_;refine Zq hm (fun hb hm=>go ?_) fun hb hm=>go ?_
    ·cases hm;exact ⟨rfl,rfl,aa.below⟩
    obtain ⟨bt,ax,hm⟩:=bZ hm;have ax:bt=S9 am aw 1:=(Option.some.inj ax).symm;refine Zua (k:=aw) (v:=1) Sr.int bc underlying191 underlying3 rfl rfl rfl ?_;intro b6 bd bu be;rw [← ax] at be;refine go ?_;replace ad:=ad.kp bd;replace aa:=aa.kp bd bu;exact ⟨bq.length,by simp,rfl,⟨_,_,_,_,_,rfl,br,hm,aa,ad,be,(Ys (congrArg (Value.int .i64) (Yp (Nat.lt_of_lt_of_le bs ad.1.1))) rfl)⟩⟩
 | cons af ay=>
  obtain ⟨ac,bv,bw⟩:=Ym hl;have hk:(ag:Int)<(ab.length:Int):=by omega
  have hkb:=decide_eq_true hk;rw [Zab.eq_2] at hm;refine go ?_;refine Yc (congrArg Value.bool hkb)<|go ?_;refine lI ac ((h0.ks aa).addr ac) ?_;obtain ⟨_,bx,bz⟩:=(h0.ks aa).atN ac;obtain ⟨⟨bf,bg,rfl,ae⟩,_⟩:=bx;refine lW bz.one<|go ?_;refine Z9 [0,12,13,14,18,19,1000000] (fun n f az=>∃ a1 ao ap,n=ap.length∧af.drop ao=ap∧Zad ab (Zab ab ay) ap=some r∧St w0 (Zk col) a1 az∧Sl (Za.int .i64) a1 az bf bg af∧[20].map f=[.int .i64 ao]) af.length ⟨_,0,_,rfl,rfl,hm,aa,ae,rfl⟩ ?_;clear hm;intro n f az hI;obtain ⟨a1,ao,ap,hn,hl,hm,aa,ae,hs⟩:=hI;subst hn;refine .lL [20] hs ?_
  cases ap with
  | nil=>
   have hk:¬ ((ao:Int)<(af.length:Int)):=by have:=List.drop_eq_nil_iff.1 hl;omega
   have hkb:=decide_eq_false hk;rw [Zad.eq_1] at hm;refine go ?_;refine X9 (congrArg Value.bool hkb)<|go ?_;exact ⟨ay.length,by simp,rfl,⟨_,_,_,rfl,bv,hm,aa,(Ys (congrArg (Value.int .i64) (Yp (Nat.lt_of_lt_of_le bw (h0.ks aa).1.1))) rfl)⟩⟩
  | cons b0 bh=>
   obtain ⟨ac,b1,b2⟩:=Ym hl;have hk:(ao:Int)<(af.length:Int):=by omega
   have hkb:=decide_eq_true hk;rw [Zad.eq_2] at hm;refine go ?_;refine Yc (congrArg Value.bool hkb)<|go ?_;refine lI ac (ae.addr ac)<|lW (ae.atInt ac)<|Yx rfl<|Zm<|Zv ?_;refine Wp.cutK [0,12,13,14,18,19,20,1000000] (fun f a2=>∃ a3 a4,Zf5 (Zad ab (Zab ab ay) bh) a4=some r∧St w0 (Zk col) a3 a2∧Sl (Za.int .i64) a3 a2 bf bg af∧[31].map f=[.bool a4]) ?_ ?_
   ·intro f a2 hJ;obtain ⟨a3,a4,hm,aa,ae,hs⟩:=hJ;rw [Zf5.eq_1] at hm;refine .lL [31] hs ?_;refine Zq hm (fun hb hm=>go ?_) fun hb hm=>go ?_
    ·cases hm;exact ⟨rfl,rfl,aa.below⟩
    exact ⟨bh.length,by simp,rfl,⟨_,_,_,rfl,b1,hm,aa,ae,(Ys (congrArg (Value.int .i64) (Yp (Nat.lt_of_lt_of_le b2 ae.1.1))) rfl)⟩⟩
   refine go ?_;refine X8 hm (fun a5 hm=>go ?_) fun a5 hm=>go ?_
   ·refine lV (.bool true) (Xr (congrArg Value.bool a5) rfl)<|Zm ?_;exact ⟨rfl,_,_,hm,aa,ae,rfl⟩
   refine lV (.bool (decide ((ab.length:Int)≤b0))) (Xh (congrArg Value.bool a5) rfl)<|Zm ?_;exact ⟨rfl,_,_,hm,aa,ae,rfl⟩
theorem Z1p:Wj prog 3 1 8:=⟨Tryz.t3,_,rfl,rfl,rfl,rfl,rfl⟩
def Zcj (aa:Nat) (kk_L1:(Nat→Ra→Option Ra)):List Int→Ra→Option Ra
  | [],ab=>kk_L1 (aa+1) ab
  | ad :: ae,ab=>(Zp ab ad).bind fun ac=>Z3 ((ac.length+[(aa:Int)].length) * 8≤140737488355328∧ac.length+[(aa:Int)].length≤maxLen) ((Zcj aa kk_L1 ae) (ab.set (Int.toNat ad) (ac++[(aa:Int)])))
termination_by structural x=>x
def Zaa:List R2→Nat→Ra→Option Ra
  | [],ab,aa=>some aa
  | ac :: ad,ab,aa=>Zcj ab (Zaa ad) ac aa
termination_by structural x=>x
def Zf3 (aa:Ra):Option Ra:=
  Z3 (aa.length * 24≤281474976710656∧aa.length≤maxLen) (Zaa aa 0 (List.replicate aa.length (([]:List Int):List Int)))
theorem Zy3 {a7:Nat} {a0:Option Addr} {col:Ze} {w0:World} {ae r:Ra} (c1:Nat) (hm:Zf3 ae=some r) (h0:Sl (Za.slice (Za.int .i64)) col w0 a0 a7 ae):
    Calls prog 157 #[.slice a0 ae.length a7] w0 (fun e w'=>∃ (col':Ze) (ra1:Option Addr) (rc2:Nat),e= .returned ((.slice ra1 r.length rc2))∧Zf col w0 col' w'∧Zc (Za.row 3 (Za.int .i64)) 33 c1 col' w' ra1 rc2 r):=by
 refine Xm 2 (m:=37) func157 rfl rfl rfl rfl rfl ?_;rw [Zf3.eq_1] at hm;have aa:=St.start col w0;refine go ?_;obtain ⟨a8,hm⟩:=Z6 hm;refine T9 (col:=(Zk col)) (w:=w0) (r:=(Za.row 3 (Za.int .i64))) (n:=ae.length) (x0:=([]:List Int)) 1 rfl underlying24 Tryz.t33 rfl rfl rfl rfl rfl rfl rfl a8.1 a8.2 Z47 ?_;intro b4 b5 b6 bg bh;refine go ?_;replace aa:=aa.grow bg;refine Z9 [11,12,1000000] (fun n f aw=>∃ ax ab ay az ap aj,n=aj.length∧ae.drop ab=aj∧Zaa aj ab ap=some r∧St w0 (Zk col) ax aw∧Zc (Za.row 3 (Za.int .i64)) 33 1 ax aw ay az ap∧[13,3].map f=[.int .i64 ab,.slice ay ap.length az]) ae.length ⟨_,0,_,_,_,_,rfl,rfl,hm,aa,bh,rfl⟩ ?_;clear hm;intro n f aw hI;obtain ⟨ax,ab,ay,az,ap,aj,hn,hl,hm,aa,a9,hs⟩:=hI;subst hn;refine .lL [13,3] hs ?_;replace h0:=h0.keep (Zl.start col w0)
 cases aj with
 | nil=>
  have hk:¬ ((ab:Int)<(ae.length:Int)):=by have:=List.drop_eq_nil_iff.1 hl;omega
  have hkb:=decide_eq_false hk;rw [Zaa.eq_1] at hm;refine go ?_;refine X9 (congrArg Value.bool hkb)<|go ?_;cases hm;exact ⟨rfl,_,_,_,rfl,aa.fin (cm [(1,c1)]),aa.fo a9⟩
 | cons ak ba=>
  obtain ⟨af,bi,bj⟩:=Ym hl;have hk:(ab:Int)<(ae.length:Int):=by omega
  have hkb:=decide_eq_true hk;rw [Zaa.eq_2] at hm;refine go ?_;refine Yc (congrArg Value.bool hkb)<|go ?_;refine lI af ((h0.ks aa).addr af) ?_;obtain ⟨_,bk,bm⟩:=(h0.ks aa).atN af;obtain ⟨⟨bn,bo,rfl,ac⟩,_⟩:=bk;refine lW bm.one<|go ?_;refine Z9 [11,12,13,18,19,4,1000000] (fun n f al=>∃ aq am ag ah ad an,n=an.length∧ak.drop am=an∧Zcj ab (Zaa ba) an ad=some r∧St w0 (Zk col) aq al∧Sl (Za.int .i64) aq al bn bo ak∧Zc (Za.row 3 (Za.int .i64)) 33 1 aq al ag ah ad∧[20,3].map f=[.int .i64 am,.slice ag ad.length ah]) ak.length ⟨_,0,_,_,_,_,rfl,rfl,hm,aa,ac,a9,rfl⟩ ?_;clear hm;intro n f al hI;obtain ⟨aq,am,ag,ah,ad,an,hn,hl,hm,aa,ac,a1,hs⟩:=hI;subst hn;refine .lL [20,3] hs ?_
  cases an with
  | nil=>
   have hk:¬ ((am:Int)<(ak.length:Int)):=by have:=List.drop_eq_nil_iff.1 hl;omega
   have hkb:=decide_eq_false hk;rw [Zcj.eq_1] at hm;refine go ?_;refine X9 (congrArg Value.bool hkb)<|go ?_;exact ⟨ba.length,by simp,rfl,⟨_,_,_,_,_,_,rfl,bi,hm,aa,a1,(Ys (congrArg (Value.int .i64) (Yp (Nat.lt_of_lt_of_le bj (h0.ks aa).1.1))) rfl)⟩⟩
  | cons ar bp=>
   obtain ⟨af,bq,br⟩:=Ym hl;have hk:(am:Int)<(ak.length:Int):=by omega
   have hkb:=decide_eq_true hk;rw [Zcj.eq_2] at hm;refine go ?_;refine Yc (congrArg Value.bool hkb)<|go ?_;refine lI af (ac.addr af)<|lW (ac.atInt af) ?_;refine go ?_;obtain ⟨ao,au,hm⟩:=bZ hm;refine lI au (a1.addr au) ?_;obtain ⟨_,bb,bc,ai,bs⟩:=a1.open_ 2 (by decide) au;obtain ⟨bt,bu,rfl,a2⟩:=bs.row;replace ai:Ww (Za.row 3 (Za.int .i64)) 33 1 bb al ag ah ad (Int.toNat ar) [.slice bt ao.length bu]:=ai;refine lW ai.atN.one<|Yf rfl<|W8 (col:=bb) [(ab:Int)] 3 ?_;intro b7 bv bw av bx;obtain ⟨bd,hm⟩:=Z6 hm;replace a2:=a2.gr av;refine Zfq (col:=bw) (w:=bv) (r:=(Za.int .i64)) (c:=2) (c2:=2) (a2.ex) (bx.srcN (NB.int (k:=.i64))) rfl underlying33 Z1p rfl rfl rfl bd.1 bd.2 (by decide) ?_;intro be bf b8 bz a3 a4;replace ai:=(ai.gr av).kpp a3;refine lI au (ai.addr)<|Z20 (v:=(.slice be ((ao++[(ab:Int)]).length) bf)) ai rfl sizeOf33 rfl (by intro u hu;simp only [Value.cells,List.mem_cons,List.not_mem_nil,or_false] at hu;subst hu;rfl) rfl rfl (by decide) ?_;intro b0 a5 b1 a6;replace a6:Ww (Za.row 3 (Za.int .i64)) 33 1 bz b0 ag ah ad (Int.toNat ar) [.slice be ((ao++[(ab:Int)]).length) bf]:=a6;replace a4:=a4.kp a5;have b2:=a4.new;have b3:=a6.close b2.has (by decide) (by decide);replace ac:=(((ac.kpp bc).gr av).kpp a3).kp a5;replace ac:=ac.recol 2 1 (by decide);replace aa:=(((aa.kpp bc).grow av).kpp a3).kp a5 b1;replace aa:=aa.recol 2 1 (by decide) (by decide);refine .ld (d:=3) (v:=(.slice ag ((ad.set (Int.toNat ar) (ao++[(ab:Int)])).length) ah)) (congrArg (fun n=>Value.slice ag n ah) (show ad.length=(ad.set (Int.toNat ar) (ao++[(ab:Int)])).length by simp only [nS])) ?_;refine go ?_;exact ⟨bp.length,by simp,rfl,⟨_,_,_,_,_,_,rfl,bq,hm,aa,ac,b3,(Ys (congrArg (Value.int .i64) (Yp (Nat.lt_of_lt_of_le br ac.1.1))) rfl)⟩⟩
def Zcl (aa:Int) (kk_L2:(Int→Int→Option R5)) (ab:Int):Option R5:=
  kk_L2 (i64.wrap (aa+1)) ab
def Zf6 (aa:Int) (ab:Int) (kk_L2:(Int→Int→Option R5)) (ac:Int) (ad:Bool):Option R5:=
  if ad=true then (Zcl aa kk_L2 ac) else (Zcl aa kk_L2 ab)
def S3 (N:Nat) (ad:List Int) (ag:Int) (aa:List Int) (ac:Int) (kk_L1:(List Int→Int→Option R5)):Nat→Int→Int→Option R5
  | 0,_,_=>none
  | ah+1,ae,ab=>if (decide (ae<2))=true then ((Zp [i64.wrap ((i64.wrap (2 * ac))+1),i64.wrap ((i64.wrap (2 * ac))+2)] ae).bind fun af=>if (decide (af<(i64.wrap ((ad.length:Int) - 1))))=true then ((Zp aa af).bind fun aj=>(Zp aa ab).bind fun ak=>Zf6 ae ab (S3 N ad ag aa ac kk_L1 ah) af (decide (aj<ak))) else (Zf6 ae ab (S3 N ad ag aa ac kk_L1 ah) af false)) else (if (decide (ab=ac))=true then (some (ag,aa.take (Int.toNat (i64.wrap ((ad.length:Int) - 1))))) else ((Zp aa ab).bind fun al=>(Zp aa ac).bind fun am=>(some (aa.set (Int.toNat ac) al)).bind fun ai=>(Zp ai ab).bind fun ao=>(some (ai.set (Int.toNat ab) am)).bind fun an=>kk_L1 an ab))
termination_by structural x=>x
def S1 (N:Nat) (aa:List Int) (ab:Int):Nat→R2→Int→Option R5
  | 0,_,_=>none
  | ad+1,ae,ac=>S3 N aa ab ae ac (S1 N aa ab ad) N 0 ac
termination_by structural x=>x
def Zio (N:Nat) (aa:List Int):Option R5:=
  (Zp aa 0).bind fun ac=>(Zp aa (i64.wrap ((aa.length:Int) - 1))).bind fun ad=>(some (aa.set (Int.toNat 0) ad)).bind fun ab=>Z3 ((0:Int)≤(i64.wrap ((aa.length:Int) - 1))∧(i64.wrap ((aa.length:Int) - 1))≤(ab.length:Int)) (S1 N aa ac N ab 0)
theorem Zy5 {N g0 al:Nat} {am:Option Addr} {col:Ze} {w0:World} {aa:R2} {r:R5} (qc0 ai:Nat) (hm:Zio N aa=some r) (hd:Qj [qc0,ai]=true) (ap:Zc (Za.int .i64) 3 ai col w0 am al aa) (hb0:Zj 192 qc0 col w0 g0 #[.slice am aa.length al]):
    Calls prog 194 #[.pointer (some ⟨g0,0,none⟩)] w0 (fun e w'=>∃ (col':Ze) (oa1:Option Addr) (oc2:Nat),e= .returned ((.int .i64 r.1))∧Zt (pS [qc0,ai]) col w0 col' w'∧Zc (Za.int .i64) 3 ai col' w' oa1 oc2 r.2∧Zj 192 qc0 col' w' g0 #[.slice oa1 r.2.length oc2]):=by
 refine Xm 2 (m:=76) func194 rfl rfl rfl rfl rfl ?_;rw [Zio.eq_1] at hm;have ac:=St.startL (l:=[qc0,ai]) rfl col w0;replace hb0:=hb0.startL (Za6 hd 0 rfl) (Za5 hd 0 rfl);replace ap:=ap.startL (Za6 hd 1 rfl) (Za5 hd 1 rfl);refine go ?_;refine lV (.pointer (some ⟨g0,0,none⟩)) (Qz rfl)<|lW hb0.at1<|go ?_;obtain ⟨au,av,hm⟩:=bZ hm;refine lI av (ap.addr av)<|lW (ap.atInt av) ?_;refine go ?_;obtain ⟨bm,be,hm⟩:=bZ hm;refine lI be (ap.addr be)<|lW (ap.atInt be)<|lI av (ap.addr av) ?_;obtain ⟨an,ay,hm⟩:=bZ hm;have ay:an=aa.set (Int.toNat 0) bm:=(Option.some.inj ay).symm;refine Y7 (x1:=bm) ap av ?_;intro bu bn bv az;rw [← ay] at az;refine .ld (d:=3) (v:=(.slice am an.length al)) (congrArg (fun n=>Value.slice am n al) (show aa.length=an.length by rw [ay,nS])) ?_;replace hb0:=hb0.kp bn;replace hb0:Zj 192 440 (Xw [qc0,ai] col) bu g0 #[.slice am an.length al]:=by rw [← (show aa.length=an.length by rw [ay,nS])];exact hb0
 refine go ?_;obtain ⟨bf,hm⟩:=Z6 hm;refine lv (v:=.slice am (Int.toNat (i64.wrap ((aa.length:Int) - 1))) al) rfl rfl (Zj8 underlying192 sizeOf3 rfl rfl bf.1 (by have:=az.lecap;have:=bf.2;omega))<|.ld (d:=28) (v:=(.slice am ((an.take (Int.toNat (i64.wrap ((aa.length:Int) - 1)))).length) al)) (congrArg (fun n=>Value.slice am n al) (List.length_take_of_le (show (Int.toNat (i64.wrap ((aa.length:Int) - 1)))≤an.length by have:=bf.2;omega)).symm) ?_;refine lV (.pointer (some ⟨g0,0,none⟩)) (Qz rfl)<|Ut (v:=(.slice am ((an.take (Int.toNat (i64.wrap ((aa.length:Int) - 1)))).length) al)) hb0 sizeOf192 rfl rfl (by intro u hu;simp only [Value.cells,List.mem_cons,List.not_mem_nil,or_false] at hu;subst hu;rfl) rfl rfl ?_;intro bw bo bx ab;replace ab:Zj 192 440 (Xw [qc0,ai] col) bw g0 #[(.slice am ((an.take (Int.toNat (i64.wrap ((aa.length:Int) - 1)))).length) al)]:=ab;refine go ?_;replace ac:=(ac.kp bn bv).kp bo bx;replace az:=az.kp bo;refine Z9 [4,5,1000000] (fun n f a4=>∃ a5 af ag ah ak ao,ao=n∧S1 N aa au ao ah ak=some r∧St w0 (Xw [qc0,ai] col) a5 a4∧Zc (Za.int .i64) 3 441 a5 a4 af ag ah∧Zj 192 440 a5 a4 g0 #[(.slice af ((ah.take (Int.toNat (i64.wrap ((aa.length:Int) - 1)))).length) ag)]∧[3,6].map f=[.slice af ah.length ag,.int .i64 ak]) N ⟨_,_,_,_,0,_,rfl,hm,ac,az,ab,rfl⟩ ?_;clear hm;intro n f a4 hI;obtain ⟨a5,af,ag,ah,ak,ao,hn,hm,ac,ad,ab,hs⟩:=hI;subst hn;refine .lL [3,6] hs ?_
 cases ao with
 | zero=>rw [S1.eq_1] at hm;cases hm
 | succ ao=>
  rw [S1.eq_2] at hm;refine go ?_;refine lV (.agg #[(.int .i64 (i64.wrap ((i64.wrap (2 * ak))+1))),(.int .i64 (i64.wrap ((i64.wrap (2 * ak))+2)))]) (Z4l underlying206 sizeOf3 zeroValue206 rfl)<|go ?_;refine Z9 [3,37,4,5,6,1000000] (fun n f a6=>∃ ae a0 a1 aq,aq=n∧S3 N aa au ah ak (S1 N aa au ao) aq a0 a1=some r∧St w0 (Xw [qc0,ai] col) ae a6∧Zc (Za.int .i64) 3 441 ae a6 af ag ah∧Zj 192 440 ae a6 g0 #[(.slice af ((ah.take (Int.toNat (i64.wrap ((aa.length:Int) - 1)))).length) ag)]∧[38,7].map f=[.int .i64 a0,.int .i64 a1]) N ⟨_,0,_,_,rfl,hm,ac,ad,ab,rfl⟩ ?_;clear hm;intro n f a6 hI;obtain ⟨ae,a0,a1,aq,hn,hm,ac,ad,ab,hs⟩:=hI;subst hn;refine .lL [38,7] hs ?_
  cases aq with
  | zero=>rw [S3.eq_1] at hm;cases hm
  | succ aq=>
   rw [S3.eq_2] at hm;refine go ?_;refine Zq hm (fun hb hm=>?_) fun hb hm=>go ?_
   ·refine X3<|Zv ?_;refine Wp.cutK [3,37,38,4,5,6,1000000] (fun f a7=>∃ a8 bg,Zcl a0 (S3 N aa au ah ak (S1 N aa au ao) aq) bg=some r∧St w0 (Xw [qc0,ai] col) a8 a7∧Zc (Za.int .i64) 3 441 a8 a7 af ag ah∧Zj 192 440 a8 a7 g0 #[(.slice af ((ah.take (Int.toNat (i64.wrap ((aa.length:Int) - 1)))).length) ag)]∧[7].map f=[.int .i64 bg]) ?_ ?_
    ·intro f a7 hJ;obtain ⟨a8,bg,hm,ac,ad,ab,hs⟩:=hJ;rw [Zcl.eq_1] at hm;refine .lL [7] hs<|go ?_;exact ⟨aq,by omega,rfl,⟨_,_,_,_,rfl,hm,ac,ad,ab,rfl⟩⟩
    refine go ?_;obtain ⟨bp,bz,hm⟩:=bZ hm;refine lV (.int .i64 bp) (Z4r (l:=[i64.wrap ((i64.wrap (2 * ak))+1),i64.wrap ((i64.wrap (2 * ak))+2)]) (k:=.i64) underlying206 sizeOf3 isAgg3 rfl rfl rfl bz)<|Yx rfl<|Zm<|Zv ?_;refine Wp.cutK [3,37,38,4,5,6,7,9,1000000] (fun f a9=>∃ ba bh,Zf6 a0 a1 (S3 N aa au ah ak (S1 N aa au ao) aq) bp bh=some r∧St w0 (Xw [qc0,ai] col) ba a9∧Zc (Za.int .i64) 3 441 ba a9 af ag ah∧Zj 192 440 ba a9 g0 #[(.slice af ((ah.take (Int.toNat (i64.wrap ((aa.length:Int) - 1)))).length) ag)]∧[54].map f=[.bool bh]) ?_ ?_
    ·intro f a9 hJ;obtain ⟨ba,bh,hm,ac,ad,ab,hs⟩:=hJ;rw [Zf6.eq_1] at hm;refine .lL [54] hs ?_;refine Zq hm (fun hb hm=>go ?_) fun hb hm=>?_
     ·exact ⟨rfl,_,_,hm,ac,ad,ab,rfl⟩
     refine X3 ?_;exact ⟨rfl,_,_,hm,ac,ad,ab,rfl⟩
    refine Un (col:=ae) (by kernel_rfl) (by kernel_rfl)<|go ?_;refine X8 hm (fun bi hm=>go ?_) fun bi hm=>go ?_
    ·obtain ⟨b0,bj,hm⟩:=bZ hm;refine qI bj (ad.addr bj) ?_;refine go ?_;refine qW (fun _ hC=>(ad.gr (hC.bl ae)).atInt bj) ?_;refine go ?_;obtain ⟨b1,bk,hm⟩:=bZ hm;refine qI bk (ad.addr bk) ?_;refine go ?_;refine qW (fun _ hC=>(ad.gr (hC.bl ae)).atInt bk) ?_;refine go ?_;refine qv (v:=(.bool (decide (b0<b1)))) rfl (fun _ hC=>Xr (congrArg Value.bool bi) rfl) ?_;refine Wv ?_;intro b6 hC;replace hC:=hC.bl ae;replace ad:=ad.gr hC;replace ab:=ab.gr hC;replace ac:=ac.grow hC;exact ⟨rfl,_,_,hm,ac,ad,ab,rfl⟩
    refine qv (v:=(.bool false)) rfl (fun _ hC=>Xh (congrArg Value.bool bi) rfl) ?_;refine Wv ?_;intro b7 hC;replace hC:=hC.bl ae;replace ad:=ad.gr hC;replace ab:=ab.gr hC;replace ac:=ac.grow hC;exact ⟨rfl,_,_,hm,ac,ad,ab,rfl⟩
   refine Zq hm (fun hb hm=>go ?_) fun hb hm=>go ?_
   ·cases hm;exact ⟨rfl,Qi w0.heap.size [qc0,ai] col ae (fun n=>bif Nat.beq n 441 then ai else bif Nat.beq n 440 then qc0 else 0),af,ag,rfl,ac.finL rfl (fun n=>bif Nat.beq n 441 then ai else bif Nat.beq n 440 then qc0 else 0),ac.finOwnL (g:=(fun n=>bif Nat.beq n 441 then ai else bif Nat.beq n 440 then qc0 else 0)) rfl (ad.take (Int.toNat (i64.wrap ((aa.length:Int) - 1)))) (by decide) (by decide) rfl,ac.finBoxL (g:=(fun n=>bif Nat.beq n 441 then ai else bif Nat.beq n 440 then qc0 else 0)) ab (by decide) (by decide) rfl⟩
   refine Wi (col:=ae) [(0,1),(1,1),(2,1),(3,1),(4,1),(5,1),(6,1),(7,0),(8,1),(9,1),(10,1),(11,0),(12,1),(13,2),(14,1),(15,2)] (by kernel_rfl) (by kernel_rfl)<|xu rfl rfl (fun _=>Vu rfl) ?_;refine xu rfl rfl (fun _=>W1 rfl) ?_;refine xu rfl rfl (fun _=>Vu rfl) ?_;refine xu rfl rfl (fun _=>W1 rfl) ?_;refine xu rfl rfl (fun _=>Vu rfl) ?_;refine xu rfl rfl (fun _=>W1 rfl) ?_;obtain ⟨bq,bb,hm⟩:=bZ hm;refine xu rfl rfl (fun _=>We underlying192 sizeOf3 rfl rfl (Xl bb).1 (Xl bb).2.1 (ad.addr bb)) ?_;refine xW (fun _ hC=>(ad.gr (hC.bl ae)).atInt bb) ?_;refine xu rfl rfl (fun _=>Vu rfl) ?_;refine xu rfl rfl (fun _=>W1 rfl) ?_;obtain ⟨br,ar,hm⟩:=bZ hm;refine xu rfl rfl (fun _=>We underlying192 sizeOf3 rfl rfl (Xl ar).1 (Xl ar).2.1 (ad.addr ar)) ?_;refine xW (fun _ hC=>(ad.gr (hC.bl ae)).atInt ar) ?_;refine xu rfl rfl (fun _=>We underlying192 sizeOf3 rfl rfl (Xl ar).1 (Xl ar).2.1 (ad.addr ar)) ?_;refine xe rfl rfl ?_;intro b8 hC0;have hC:=hC0.bl ae;obtain ⟨aj,aw,hm⟩:=bZ hm;have aw:aj=ah.set (Int.toNat ak) bq:=(Option.some.inj aw).symm;replace ad:=ad.gr hC;refine Y7 (x1:=bq) ad ar ?_;intro b2 bs b3 a2;rw [← aw] at a2;refine .ld (d:=3) (v:=(.slice af aj.length ag)) (congrArg (fun n=>Value.slice af n ag) (show ah.length=aj.length by rw [aw,nS])) ?_;refine .ld (d:=63) (v:=(.slice af aj.length ag)) (congrArg (fun n=>Value.slice af n ag) (show ah.length=aj.length by rw [aw,nS])) ?_;replace ab:=(ab.gr hC).kp bs;replace ab:Zj 192 440 ae b2 g0 #[(.slice af ((aj.take (Int.toNat (i64.wrap ((aa.length:Int) - 1)))).length) ag)]:=by rw [← (show (ah.take (Int.toNat (i64.wrap ((aa.length:Int) - 1)))).length=(aj.take (Int.toNat (i64.wrap ((aa.length:Int) - 1)))).length by rw [nK,nK,(show ah.length=aj.length by rw [aw,nS])])];exact ab
   refine Zm<|xk ae ?_;obtain ⟨b9,bc,hm⟩:=bZ hm;refine xu rfl rfl (fun _=>We underlying192 sizeOf3 rfl rfl (Xl bc).1 (Xl bc).2.1 (a2.addr bc)) ?_;refine xe rfl rfl ?_;intro ca hC0;replace ac:=(ac.grow hC).kp bs b3;have hC:=hC0.bl ae;obtain ⟨ax,a3,hm⟩:=bZ hm;have a3:ax=aj.set (Int.toNat a1) br:=(Option.some.inj a3).symm;replace a2:=a2.gr hC;refine Y7 (x1:=br) a2 bc ?_;intro b4 bt b5 bd;rw [← a3] at bd;refine .ld (d:=3) (v:=(.slice af ax.length ag)) (congrArg (fun n=>Value.slice af n ag) (show aj.length=ax.length by rw [a3,nS])) ?_;replace ab:=(ab.gr hC).kp bt;replace ab:Zj 192 440 ae b4 g0 #[(.slice af ((ax.take (Int.toNat (i64.wrap ((aa.length:Int) - 1)))).length) ag)]:=by rw [← (show (aj.take (Int.toNat (i64.wrap ((aa.length:Int) - 1)))).length=(ax.take (Int.toNat (i64.wrap ((aa.length:Int) - 1)))).length by rw [nK,nK,(show aj.length=ax.length by rw [a3,nS])])];exact ab
   refine Zm<|xk ae<|Wf ?_;replace ac:=(ac.grow hC).kp bt b5;intro cb hC;replace hC:=hC.bl ae;refine go ?_;replace bd:=bd.gr hC;replace ab:=ab.gr hC;replace ac:=ac.grow hC;exact ⟨ao,by omega,rfl,⟨_,_,_,_,_,_,rfl,hm,ac,bd,ab,rfl⟩⟩
theorem Z1q:Wj prog 3 1 8:=⟨Tryz.t3,_,rfl,rfl,rfl,rfl,rfl⟩
def Zf8 (ab:List Int) (aa:Int) (kk_L1:(List Int→Int→Option R2)) (ad:Bool):Option R2:=
  if ad=true then ((Zp ab (i64.wrap (Int.tdiv (i64.wrap (aa - 1)) 2))).bind fun ae=>(Zp ab aa).bind fun af=>(some (ab.set (Int.toNat aa) ae)).bind fun ac=>(Zp ac (i64.wrap (Int.tdiv (i64.wrap (aa - 1)) 2))).bind fun ah=>(some (ac.set (Int.toNat (i64.wrap (Int.tdiv (i64.wrap (aa - 1)) 2))) af)).bind fun ag=>kk_L1 ag (i64.wrap (Int.tdiv (i64.wrap (aa - 1)) 2))) else (some ab)
def Zbd (N:Nat):Nat→R2→Int→Option R2
  | 0,_,_=>none
  | ac+1,ab,aa=>if (decide (0<aa))=true then ((Zp ab aa).bind fun ad=>(Zp ab (i64.wrap (Int.tdiv (i64.wrap (aa - 1)) 2))).bind fun ae=>Zf8 ab aa (Zbd N ac) (decide (ad<ae))) else (Zf8 ab aa (Zbd N ac) false)
termination_by structural x=>x
def Zf7 (N:Nat) (aa:List Int) (ab:Int):Option R2:=
  Z3 ((aa.length+[ab].length) * 8≤140737488355328∧aa.length+[ab].length≤maxLen) (Zbd N N (aa++[ab]) (i64.wrap (((aa++[ab]).length:Int) - 1)))
theorem Zra {N g0 a7:Nat} {a8:Option Addr} {col:Ze} {w0:World} {ao:R2} {an:Int} {r:R2} (qc0 af:Nat) (hm:Zf7 N ao an=some r) (hd:Qj [qc0,af]=true) (ap:Zc (Za.int .i64) 3 af col w0 a8 a7 ao) (hb0:Zj 192 qc0 col w0 g0 #[.slice a8 ao.length a7]):
    Calls prog 193 #[.pointer (some ⟨g0,0,none⟩),.int .i64 an] w0 (fun e w'=>∃ (col':Ze) (oa1:Option Addr) (oc2:Nat),e= .returned (.tuple #[])∧Zt (pS [qc0,af]) col w0 col' w'∧Zc (Za.int .i64) 3 af col' w' oa1 oc2 r∧Zj 192 qc0 col' w' g0 #[.slice oa1 r.length oc2]):=by
 refine Zfi (m:=66) (args:=[.pointer (some ⟨g0,0,none⟩),.int .i64 an]) func193 rfl rfl rfl rfl ?_;rw [Zf7.eq_1] at hm;have ab:=St.startL (l:=[qc0,af]) rfl col w0;replace hb0:=hb0.startL (Za6 hd 0 rfl) (Za5 hd 0 rfl);replace ap:=ap.startL (Za6 hd 1 rfl) (Za5 hd 1 rfl);refine go ?_;refine lV (.pointer (some ⟨g0,0,none⟩)) (Qz rfl)<|lW hb0.at1<|Yf rfl<|W8 (col:=(Xw [qc0,af] col)) [an] 1 ?_;intro bw bi bj a0 bk;obtain ⟨a9,hm⟩:=Z6 hm;replace ap:=ap.gr a0;refine Zfq (col:=bj) (w:=bi) (r:=(Za.int .i64)) (c:=441) (c2:=441) (ap.ex) (bk.srcN (NB.int (k:=.i64))) rfl underlying192 Z1q rfl rfl rfl a9.1 a9.2 (by decide) ?_;intro ba bb bx bm bc a1;refine lV (.pointer (some ⟨g0,0,none⟩)) (Qz rfl) ?_;replace hb0:=(hb0.gr a0).kpp bc;refine Ut (v:=(.slice ba ((ao++[an]).length) bb)) hb0 sizeOf192 rfl rfl (by intro u hu;simp only [Value.cells,List.mem_cons,List.not_mem_nil,or_false] at hu;subst hu;rfl) rfl rfl ?_;intro bn bd bo aa;replace aa:Zj 192 440 bm bn g0 #[.slice ba ((ao++[an]).length) bb]:=aa;replace a1:=a1.kp bd;have bp:=a1.new;refine go ?_;refine lV (.pointer (some ⟨g0,0,none⟩)) (Qz rfl)<|lW aa.at1<|go ?_;replace ab:=((ab.grow a0).kpp bc).kp bd bo;refine Z9 [0,1000000] (fun n f au=>∃ ag ah ai aj ae al,al=n∧Zbd N al aj ae=some r∧St w0 (Xw [qc0,af] col) ag au∧Zc (Za.int .i64) 3 441 ag au ah ai aj∧Zj 192 440 ag au g0 #[.slice ah aj.length ai]∧[4].map f=[.int .i64 ae]) N ⟨_,_,_,_,_,_,rfl,hm,ab,bp,aa,rfl⟩ ?_;clear hm;intro n f au hI;obtain ⟨ag,ah,ai,aj,ae,al,hn,hm,ab,ac,aa,hs⟩:=hI;subst hn;refine .lL [4] hs ?_
 cases al with
 | zero=>rw [Zbd.eq_1] at hm;cases hm
 | succ al=>
  rw [Zbd.eq_2] at hm;refine Zv<|Zv ?_;refine Wp.cutK [0,4,1000000] (fun f av=>∃ ad a2,Zf8 aj ae (Zbd N al) a2=some r∧St w0 (Xw [qc0,af] col) ad av∧Zc (Za.int .i64) 3 441 ad av ah ai aj∧Zj 192 440 ad av g0 #[.slice ah aj.length ai]∧[36].map f=[.bool a2]) ?_ ?_
  ·intro f av hJ;obtain ⟨ad,a2,hm,ab,ac,aa,hs⟩:=hJ;rw [Zf8.eq_1] at hm;refine .lL [36] hs ?_;refine Zq hm (fun hb hm=>go ?_) fun hb hm=>go ?_
   ·refine Wi (col:=ad) [(0,1),(1,1),(2,0),(3,1),(4,1),(5,1),(6,0),(7,1),(8,1),(9,1),(10,1),(11,1),(12,0),(13,1),(14,1),(15,1),(16,1),(17,0),(18,1),(19,1),(20,0),(21,1),(22,1),(23,0),(24,1),(25,2),(26,1),(27,2)] (by kernel_rfl) (by kernel_rfl)<|xu rfl rfl (fun _=>Zmy rfl) ?_;refine xu (v:=(.pointer (some ⟨g0,0,none⟩))) rfl rfl (fun _=>Qz rfl) ?_;refine xW (fun _ hC=>aa.at1.gr (hC.bl ad)) ?_;refine xu rfl rfl (fun _=>W1 rfl) ?_;refine xu rfl rfl (fun _=>Zmy rfl) ?_;refine xu (v:=(.pointer (some ⟨g0,0,none⟩))) rfl rfl (fun _=>Qz rfl) ?_;refine xW (fun _ hC=>aa.at1.gr (hC.bl ad)) ?_;refine xu rfl rfl (fun _=>W1 rfl) ?_;refine xu rfl rfl (fun _=>Zj9 _ _ rfl rfl) ?_;refine xu (v:=(.int .i64 (i64.wrap (Int.tdiv (i64.wrap (ae - 1)) 2)))) rfl rfl (fun _=>Vf (i64.wrap (ae - 1)) 2 rfl rfl (by decide)) ?_;refine xu rfl rfl (fun _=>Zmy rfl) ?_;refine xu (v:=(.pointer (some ⟨g0,0,none⟩))) rfl rfl (fun _=>Qz rfl) ?_;refine xW (fun _ hC=>aa.at1.gr (hC.bl ad)) ?_;refine xu rfl rfl (fun _=>W1 rfl) ?_;refine xu rfl rfl (fun _=>Zj9 _ _ rfl rfl) ?_;refine xu (v:=(.int .i64 (i64.wrap (Int.tdiv (i64.wrap (ae - 1)) 2)))) rfl rfl (fun _=>Vf (i64.wrap (ae - 1)) 2 rfl rfl (by decide)) ?_;obtain ⟨be,aw,hm⟩:=bZ hm;refine xu rfl rfl (fun _=>We underlying192 sizeOf3 rfl rfl (Xl aw).1 (Xl aw).2.1 (ac.addr aw)) ?_;refine xW (fun _ hC=>(ac.gr (hC.bl ad)).atInt aw) ?_;refine xu rfl rfl (fun _=>Zmy rfl) ?_;refine xu (v:=(.pointer (some ⟨g0,0,none⟩))) rfl rfl (fun _=>Qz rfl) ?_;refine xW (fun _ hC=>aa.at1.gr (hC.bl ad)) ?_;refine xu rfl rfl (fun _=>W1 rfl) ?_;obtain ⟨bf,ak,hm⟩:=bZ hm;refine xu rfl rfl (fun _=>We underlying192 sizeOf3 rfl rfl (Xl ak).1 (Xl ak).2.1 (ac.addr ak)) ?_;refine xW (fun _ hC=>(ac.gr (hC.bl ad)).atInt ak) ?_;refine xu rfl rfl (fun _=>We underlying192 sizeOf3 rfl rfl (Xl ak).1 (Xl ak).2.1 (ac.addr ak)) ?_;refine xe rfl rfl ?_;intro bz hC0;have hC:=hC0.bl ad;obtain ⟨am,aq,hm⟩:=bZ hm;have aq:am=aj.set (Int.toNat ae) be:=(Option.some.inj aq).symm;replace ac:=ac.gr hC;refine Y7 (x1:=be) ac ak ?_;intro bq bg br ar;rw [← aq] at ar;refine .ld (d:=46) (v:=(.slice ah am.length ai)) (congrArg (fun n=>Value.slice ah n ai) (show aj.length=am.length by rw [aq,nS])) ?_;replace aa:=(aa.gr hC).kp bg;replace aa:Zj 192 440 ad bq g0 #[.slice ah am.length ai]:=by rw [← (show aj.length=am.length by rw [aq,nS])];exact aa
    refine Zm<|xk ad ?_;obtain ⟨b0,ax,hm⟩:=bZ hm;refine xu rfl rfl (fun _=>We underlying192 sizeOf3 rfl rfl (Xl ax).1 (Xl ax).2.1 (ar.addr ax)) ?_;refine xe rfl rfl ?_;intro b1 hC0;replace ab:=(ab.grow hC).kp bg br;have hC:=hC0.bl ad;obtain ⟨a3,ay,hm⟩:=bZ hm;have ay:a3=am.set (Int.toNat (i64.wrap (Int.tdiv (i64.wrap (ae - 1)) 2))) bf:=(Option.some.inj ay).symm;replace ar:=ar.gr hC;refine Y7 (x1:=bf) ar ax ?_;intro bs bh bt az;rw [← ay] at az;replace aa:=(aa.gr hC).kp bh;replace aa:Zj 192 440 ad bs g0 #[.slice ah a3.length ai]:=by rw [← (show am.length=a3.length by rw [ay,nS])];exact aa
    refine Zm<|xk ad<|Wf ?_;replace ab:=(ab.grow hC).kp bh bt;intro b2 hC;replace hC:=hC.bl ad;refine go ?_;refine lV (.int .i64 (i64.wrap (Int.tdiv (i64.wrap (ae - 1)) 2))) (Vf (i64.wrap (ae - 1)) 2 rfl rfl (by decide))<|go ?_;replace az:=az.gr hC;replace aa:=aa.gr hC;replace ab:=ab.grow hC;exact ⟨al,by omega,rfl,⟨_,_,_,_,_,_,rfl,hm,ab,az,aa,rfl⟩⟩
   cases hm;exact ⟨rfl,Qi w0.heap.size [qc0,af] col ad (fun n=>bif Nat.beq n 441 then af else bif Nat.beq n 440 then qc0 else 0),ah,ai,rfl,ab.finL rfl (fun n=>bif Nat.beq n 441 then af else bif Nat.beq n 440 then qc0 else 0),ab.finOwnL (g:=(fun n=>bif Nat.beq n 441 then af else bif Nat.beq n 440 then qc0 else 0)) rfl ac (by decide) (by decide) rfl,ab.finBoxL (g:=(fun n=>bif Nat.beq n 441 then af else bif Nat.beq n 440 then qc0 else 0)) aa (by decide) (by decide) rfl⟩
  refine Un (col:=ag) (by kernel_rfl) (by kernel_rfl)<|go ?_;refine X8 hm (fun a4 hm=>go ?_) fun a4 hm=>go ?_
  ·refine qv (v:=(.pointer (some ⟨g0,0,none⟩))) rfl (fun _ hC=>Qz rfl) ?_;refine go ?_;refine qW (fun _ hC=>aa.at1.gr (hC.bl ag)) ?_;refine go ?_;obtain ⟨bu,a5,hm⟩:=bZ hm;refine qI a5 (ac.addr a5) ?_;refine go ?_;refine qW (fun _ hC=>(ac.gr (hC.bl ag)).atInt a5) ?_;refine go ?_;refine qv (v:=(.pointer (some ⟨g0,0,none⟩))) rfl (fun _ hC=>Qz rfl) ?_;refine go ?_;refine qW (fun _ hC=>aa.at1.gr (hC.bl ag)) ?_;refine go ?_;refine qv (v:=(.int .i64 (i64.wrap (Int.tdiv (i64.wrap (ae - 1)) 2)))) rfl (fun _ hC=>Vf (i64.wrap (ae - 1)) 2 rfl rfl (by decide)) ?_;refine go ?_;obtain ⟨bv,a6,hm⟩:=bZ hm;refine qI a6 (ac.addr a6) ?_;refine go ?_;refine qW (fun _ hC=>(ac.gr (hC.bl ag)).atInt a6) ?_;refine go ?_;refine qv (v:=(.bool (decide (bu<bv)))) rfl (fun _ hC=>Xr (congrArg Value.bool a4) rfl) ?_;refine Wv ?_;intro b3 hC;replace hC:=hC.bl ag;replace ac:=ac.gr hC;replace aa:=aa.gr hC;replace ab:=ab.grow hC;exact ⟨rfl,_,_,hm,ab,ac,aa,rfl⟩
  refine qv (v:=(.bool false)) rfl (fun _ hC=>Xh (congrArg Value.bool a4) rfl) ?_;refine Wv ?_;intro b4 hC;replace hC:=hC.bl ag;replace ac:=ac.gr hC;replace aa:=aa.gr hC;replace ab:=ab.grow hC;exact ⟨rfl,_,_,hm,ab,ac,aa,rfl⟩
def Zga (kk_L3:(List Int→R2→Option R2)) (aa:List Int) (ab:List Int):Option R2:=
  kk_L3 aa ab
def Zaf (N:Nat) (ad:List Int) (kk_L2:(List Int→R2→R2→Option R2)) (ae:R5):List Int→R2→R2→Option R2
  | [],aa,ab=>kk_L2 aa ab (ad++[ae.1])
  | ac :: ag,aa,ab=>(Zp aa ac).bind fun ah=>(some (aa.set (Int.toNat ac) (i64.wrap (ah - 1)))).bind fun af=>(Zp af ac).bind fun ai=>if (decide (ai=0))=true then ((Zf7 N ab ac).bind fun aj=>Zga (Zaf N ad kk_L2 ae ag) af aj) else (Zga (Zaf N ad kk_L2 ae ag) af ab)
termination_by structural x=>x
def Tf (N:Nat) (ac:Ra):Nat→R2→R2→R2→Option R2
  | 0,_,_,_=>none
  | ae+1,af,ad,ab=>if (decide (0<(ad.length:Int)))=true then ((Zio N ad).bind fun aa=>Z3 ((ab.length+[aa.1].length) * 8≤140737488355328∧ab.length+[aa.1].length≤maxLen) ((Zp ac aa.1).bind fun ag=>Zaf N ab (Tf N ac ae) aa ag af aa.2)) else (some ab)
termination_by structural x=>x
def Zgb (aa:Nat) (kk_L1:(Nat→R2→R2→Option R2)) (ab:List Int) (ac:List Int):Option R2:=
  kk_L1 (aa+1) ab ac
def Zae (N:Nat) (ad:Ra):List R2→Nat→R2→R2→Option R2
  | [],aa,ab,ac=>Tf N ad N ab ac ([]:List Int)
  | ae :: af,aa,ab,ac=>(Zp ab (aa:Int)).bind fun ai=>(some (ab.set (Int.toNat (aa:Int)) (ae.length:Int))).bind fun ag=>if (decide ((ae.length:Int)=0))=true then ((Zf7 N ac (aa:Int)).bind fun ah=>Zgb aa (Zae N ad af) ag ah) else (Zgb aa (Zae N ad af) ag ac)
termination_by structural x=>x
def Zf9 (N:Nat) (aa:Ra) (ab:Ra):Option R2:=
  Z3 (aa.length * 8≤281474976710656∧aa.length≤maxLen) (Zae N ab aa 0 (List.replicate aa.length (0:Int)) ([]:List Int))
theorem Zy6 {N cs ct:Nat} {a0 a1:Option Addr} {col:Ze} {w0:World} {af ag:Ra} {r:R2} (c1:Nat) (hm:Zf9 N af ag=some r) (h0:Sl (Za.slice (Za.int .i64)) col w0 a0 cs af) (h1:Sl (Za.slice (Za.int .i64)) col w0 a1 ct ag):
    Calls prog 156 #[.slice a0 af.length cs,.slice a1 ag.length ct] w0 (fun e w'=>∃ (col':Ze) (ra1:Option Addr) (rc2:Nat),e= .returned ((.slice ra1 r.length rc2))∧Zf col w0 col' w'∧Zc (Za.int .i64) 3 c1 col' w' ra1 rc2 r):=by
 refine Xm 4 (m:=66) func156 rfl rfl rfl rfl rfl ?_;rw [Zf9.eq_1] at hm;have aa:=St.start col w0;refine go ?_;obtain ⟨cu,hm⟩:=Z6 hm;refine T9 (col:=(Zk col)) (w:=w0) (r:=(Za.int .i64)) (n:=af.length) (x0:=0) 1 rfl underlying33 Tryz.t3 rfl rfl rfl rfl rfl rfl rfl cu.1 cu.2 (Qe .i64 0) ?_;intro d2 d3 c6 c7 bx;refine go ?_;refine Za9 (col:=c6) (v:=(.slice none (([]:List Int).length) 0)) 2 rfl zeroValue192 ?_;intro aq c8 c9 cv ab;replace ab:Zj 192 2 c9 c8 aq #[.slice none (([]:List Int).length) 0]:=ab;refine go ?_;replace aa:=(aa.grow c7).grow cv;replace bx:=bx.gr cv;refine Z9 [1,16,17,6,1000000] (fun n f az=>∃ a2 ah a3 a4 ar bz b0 bj a5,n=a5.length∧af.drop ah=a5∧Zae N ag a5 ah ar bj=some r∧St w0 (Zk col) a2 az∧Zc (Za.int .i64) 3 1 a2 az a3 a4 ar∧Zc (Za.int .i64) 3 3 a2 az bz b0 bj∧Zj 192 2 a2 az aq #[.slice bz bj.length b0]∧[18,5].map f=[.int .i64 ah,.slice a3 ar.length a4]) af.length ⟨_,0,_,_,_,none,0,_,_,rfl,rfl,hm,aa,bx,Zc.nil,ab,rfl⟩ ?_;clear hm;intro n f az hI;obtain ⟨a2,ah,a3,a4,ar,bz,b0,bj,a5,hn,hl,hm,aa,b1,a6,ab,hs⟩:=hI;subst hn;refine .lL [18,5] hs ?_;replace h0:=h0.keep (Zl.start col w0);replace h1:=h1.keep (Zl.start col w0)
 cases a5 with
 | nil=>
  have hk:¬ ((ah:Int)<(af.length:Int)):=by have:=List.drop_eq_nil_iff.1 hl;omega
  have hkb:=decide_eq_false hk;rw [Zae.eq_1] at hm;refine go ?_;refine X9 (congrArg Value.bool hkb)<|go ?_;refine Z9 [1,6,1000000] (fun n f au=>∃ av b2 b3 bk b4 b5 bm b6 b7 ai aj,aj=n∧Tf N ag aj bk bm ai=some r∧St w0 (Zk col) av au∧Zc (Za.int .i64) 3 1 av au b2 b3 bk∧Zc (Za.int .i64) 3 3 av au b4 b5 bm∧Zj 192 2 av au aq #[.slice b4 bm.length b5]∧Zc (Za.int .i64) 3 4 av au b6 b7 ai∧[5,9].map f=[.slice b2 bk.length b3,.slice b6 ai.length b7]) N ⟨_,_,_,_,_,_,_,none,0,_,_,rfl,hm,aa,b1,a6,ab,Zc.nil,rfl⟩ ?_;clear hm;intro n f au hI;obtain ⟨av,b2,b3,bk,b4,b5,bm,b6,b7,ai,aj,hn,hm,aa,b8,da,ab,bn,hs⟩:=hI;subst hn;refine .lL [5,9] hs ?_
  cases aj with
  | zero=>rw [Tf.eq_1] at hm;cases hm
  | succ aj=>
   rw [Tf.eq_2] at hm;refine go ?_;refine lW ab.at1<|go ?_;refine Zq hm (fun hb hm=>go ?_) fun hb hm=>go ?_
   ·obtain ⟨a7,db,hm⟩:=bZ hm;refine Zh (Zy5 2 3 db rfl da ab) ?_;rintro _ d4 ⟨dc,d5,d6,rfl,b9,ca,ad⟩;refine ⟨_,rfl,go ?_⟩;refine W8 (col:=dc) [a7.1] 5 ?_;intro d7 d8 d9 a8 dd;obtain ⟨de,hm⟩:=Z6 hm;replace bn:=(bn.kpp b9).gr a8;refine U3 bn (dd.srcN (NB.int (k:=.i64))) de ?_;intro cw cx ea eb bo ae;refine go ?_;obtain ⟨aw,cb,hm⟩:=bZ hm;replace aa:=((aa.kpp b9).grow a8).kpp bo;refine lI cb ((h1.ks aa).addr cb) ?_;obtain ⟨_,df,dg⟩:=(h1.ks aa).atN cb;obtain ⟨⟨cy,cz,rfl,ac⟩,_⟩:=df;refine lW dg.one<|go ?_;replace b8:=((b8.kpp b9).gr a8).kpp bo;replace ca:=(ca.gr a8).kpp bo;replace ad:=(ad.gr a8).kpp bo;refine Z9 [1,45,46,6,9,1000000] (fun n f ak=>∃ al a9 ba bb ax cc cd bp bc,n=bc.length∧aw.drop a9=bc∧Zaf N ai (Tf N ag aj) a7 bc ax bp=some r∧St w0 (Zk col) al ak∧Sl (Za.int .i64) al ak cy cz aw∧Zc (Za.int .i64) 3 1 al ak ba bb ax∧Zc (Za.int .i64) 3 3 al ak cc cd bp∧Zj 192 2 al ak aq #[.slice cc bp.length cd]∧Zc (Za.int .i64) 3 4 al ak cw cx (ai++[a7.1])∧[47,5].map f=[.int .i64 a9,.slice ba ax.length bb]) aw.length ⟨_,0,_,_,_,_,_,_,_,rfl,rfl,hm,aa,ac,b8,ca,ad,ae,rfl⟩ ?_;clear hm;intro n f ak hI;obtain ⟨al,a9,ba,bb,ax,cc,cd,bp,bc,hn,hl,hm,aa,ac,bd,be,ad,ae,hs⟩:=hI;subst hn;refine .lL [47,5] hs ?_
    cases bc with
    | nil=>
     have hk:¬ ((a9:Int)<(aw.length:Int)):=by have:=List.drop_eq_nil_iff.1 hl;omega
     have hkb:=decide_eq_false hk;rw [Zaf.eq_1] at hm;refine go ?_;refine X9 (congrArg Value.bool hkb)<|go ?_;exact ⟨aj,by omega,rfl,⟨_,_,_,_,_,_,_,_,_,_,_,rfl,hm,aa,bd,be,ad,ae,rfl⟩⟩
    | cons dh c0=>
     obtain ⟨am,di,dj⟩:=Ym hl;have hk:(a9:Int)<(aw.length:Int):=by omega
     have hkb:=decide_eq_true hk;rw [Zaf.eq_2] at hm;refine go ?_;refine Yc (congrArg Value.bool hkb)<|X3<|Zv ?_;refine Wp.cutK [1,45,46,47,6,9,1000000] (fun f an=>∃ ao ce cf bq cg ch br,Zga (Zaf N ai (Tf N ag aj) a7 c0) bq br=some r∧St w0 (Zk col) ao an∧Sl (Za.int .i64) ao an cy cz aw∧Zc (Za.int .i64) 3 1 ao an ce cf bq∧Zc (Za.int .i64) 3 3 ao an cg ch br∧Zj 192 2 ao an aq #[.slice cg br.length ch]∧Zc (Za.int .i64) 3 4 ao an cw cx (ai++[a7.1])∧[5].map f=[.slice ce bq.length cf]) ?_ ?_
     ·intro f an hJ;obtain ⟨ao,ce,cf,bq,cg,ch,br,hm,aa,ac,dl,dm,ad,ae,hs⟩:=hJ;rw [Zga.eq_1] at hm;refine .lL [5] hs<|go ?_;exact ⟨c0.length,by simp,rfl,⟨_,_,_,_,_,_,_,_,_,rfl,di,hm,aa,ac,dl,dm,ad,ae,(Ys (congrArg (Value.int .i64) (Yp (Nat.lt_of_lt_of_le dj ac.1.1))) rfl)⟩⟩
     refine go ?_;refine lI am (ac.addr am)<|lW (ac.atInt am) ?_;refine go ?_;obtain ⟨c2,ay,hm⟩:=bZ hm;refine lI ay (bd.addr ay)<|lW (bd.atInt ay) ?_;refine go ?_;refine lI ay (bd.addr ay) ?_;obtain ⟨ci,bs,hm⟩:=bZ hm;have bs:ci=ax.set (Int.toNat dh) (i64.wrap (c2 - 1)):=(Option.some.inj bs).symm;refine Y7 (x1:=i64.wrap (c2 - 1)) bd ay ?_;intro ec bf dn ap;rw [← bs] at ap;refine .ld (d:=5) (v:=(.slice ba ci.length bb)) (congrArg (fun n=>Value.slice ba n bb) (show ax.length=ci.length by rw [bs,nS])) ?_;refine go ?_;obtain ⟨ed,cj,hm⟩:=bZ hm;refine lI cj (ap.addr cj)<|lW (ap.atInt cj) ?_;refine go ?_;replace ac:=ac.kp bf;replace be:=be.kp bf;replace ae:=ae.kp bf;replace ad:=ad.kp bf;replace aa:=aa.kp bf dn;refine Zq hm (fun hb hm=>go ?_) fun hb hm=>?_
     ·obtain ⟨ee,dp,hm⟩:=bZ hm;refine Zh (Zra 2 3 dp rfl be ad) ?_;rintro _ ef ⟨eg,eh,ei,rfl,bt,dq,dr⟩;refine ⟨_,rfl,?_⟩;refine Zm ?_;replace ac:=ac.kpp bt;replace ap:=ap.kpp bt;replace ae:=ae.kpp bt;replace aa:=aa.kpp bt;exact ⟨rfl,_,_,_,_,_,_,_,hm,aa,ac,ap,dq,dr,ae,rfl⟩
     refine X3 ?_;exact ⟨rfl,_,_,_,_,_,_,_,hm,aa,ac,ap,be,ad,ae,rfl⟩
   cases hm;exact ⟨rfl,_,_,_,rfl,aa.fin (cm [(4,c1)]),aa.fo bn⟩
 | cons c3 c4=>
  obtain ⟨am,ds,dt⟩:=Ym hl;have hk:(ah:Int)<(af.length:Int):=by omega
  have hkb:=decide_eq_true hk;rw [Zae.eq_2] at hm;refine go ?_;refine Yc (congrArg Value.bool hkb)<|X3<|Zv ?_;refine Wp.cutK [1,16,17,18,6,1000000] (fun f bg=>∃ bh ck cl bu cn co bv,Zgb ah (Zae N ag c4) bu bv=some r∧St w0 (Zk col) bh bg∧Zc (Za.int .i64) 3 1 bh bg ck cl bu∧Zc (Za.int .i64) 3 3 bh bg cn co bv∧Zj 192 2 bh bg aq #[.slice cn bv.length co]∧[5].map f=[.slice ck bu.length cl]) ?_ ?_
  ·intro f bg hJ;obtain ⟨bh,ck,cl,bu,cn,co,bv,hm,aa,du,dv,ab,hs⟩:=hJ;rw [Zgb.eq_1] at hm;refine .lL [5] hs<|go ?_;exact ⟨c4.length,by simp,rfl,⟨_,_,_,_,_,_,_,_,_,rfl,ds,hm,aa,du,dv,ab,(Ys (congrArg (Value.int .i64) (Yp (Nat.lt_of_lt_of_le dt (h0.ks aa).1.1))) rfl)⟩⟩
  refine go ?_;refine lI am ((h0.ks aa).addr am) ?_;obtain ⟨_,dw,dx⟩:=(h0.ks aa).atN am;obtain ⟨⟨ej,ek,rfl,el⟩,_⟩:=dw;refine lW dx.one<|go ?_;obtain ⟨em,cp,hm⟩:=bZ hm;refine lI cp (b1.addr cp) ?_;obtain ⟨cq,bw,hm⟩:=bZ hm;have bw:cq=ar.set (Int.toNat (ah:Int)) (c3.length:Int):=(Option.some.inj bw).symm;refine Y7 (x1:=(c3.length:Int)) b1 cp ?_;intro en cr dy bi;rw [← bw] at bi;refine .ld (d:=5) (v:=(.slice a3 cq.length a4)) (congrArg (fun n=>Value.slice a3 n a4) (show ar.length=cq.length by rw [bw,nS])) ?_;refine go ?_;replace a6:=a6.kp cr;replace ab:=ab.kp cr;replace aa:=aa.kp cr dy;refine Zq hm (fun hb hm=>go ?_) fun hb hm=>?_
  ·obtain ⟨eo,dz,hm⟩:=bZ hm;refine Zh (Zra 2 3 dz rfl a6 ab) ?_;rintro _ ep ⟨eq,er,es,rfl,c5,d0,d1⟩;refine ⟨_,rfl,?_⟩;refine Zm ?_;replace bi:=bi.kpp c5;replace aa:=aa.kpp c5;exact ⟨rfl,_,_,_,_,_,_,_,hm,aa,bi,d0,d1,rfl⟩
  refine X3 ?_;exact ⟨rfl,_,_,_,_,_,_,_,hm,aa,bi,a6,ab,rfl⟩
def Te (N:Nat) (aa:Ra):Option R9:=
  (Zf4 aa).bind fun ab=>if (!decide (ab=0))=true then (some (([]:List Int),ab)) else ((Zf3 aa).bind fun ad=>(Zf9 N aa ad).bind fun ac=>if (decide ((ac.length:Int)<(aa.length:Int)))=true then (some (([]:List Int),42)) else (some (ac,0)))
theorem Znp {N ad:Nat} {a0:Option Addr} {col:Ze} {w0:World} {ab:Ra} {r:R9} (c1:Nat) (hm:Te N ab=some r) (h0:Sl (Za.slice (Za.int .i64)) col w0 a0 ad ab):
    Calls prog 79 #[.slice a0 ab.length ad] w0 (fun e w'=>∃ (col':Ze) (ra1:Option Addr) (rc2:Nat),e= .returned (.tuple #[.slice ra1 r.1.length rc2,.int .i64 r.2])∧Zf col w0 col' w'∧Zc (Za.int .i64) 3 c1 col' w' ra1 rc2 r.1):=by
 refine Zdu 2 3 (m:=21) (args:=[.slice a0 ab.length ad]) func79 rfl rfl rfl rfl rfl ?_;rw [Te.eq_1] at hm;have aa:=St.start col w0;refine go ?_;obtain ⟨ap,ah,hm⟩:=bZ hm;replace h0:=h0.keep (Zl.start col w0);refine Zh (Zy4 ah (h0.ks aa)) ?_;rintro _ ai ⟨rfl,ae⟩;refine ⟨_,rfl,?_⟩;replace ae:Zf (Zk col) w0 (Zk col) ai:=.of_below ae;refine go ?_;replace aa:=aa.grow ae;refine Zq hm (fun hb hm=>go ?_) fun hb hm=>go ?_
 ·cases hm;exact ⟨rfl,_,none,0,rfl,aa.fin (cm []),Zc.nil⟩
 obtain ⟨aq,aj,hm⟩:=bZ hm;refine Zh (Zy3 1 aj (h0.ks aa)) ?_;rintro _ ak ⟨af,ar,au,rfl,al,am⟩;refine ⟨_,rfl,?_⟩;obtain ⟨av,an,hm⟩:=bZ hm;replace aa:=aa.grow al;refine Zh (Zy6 2 an ((h0.ks aa).froz 1) (am.toSlF (Zg.row (Zg.int .i64)))) ?_;rintro _ aw ⟨ao,ax,ay,rfl,ac,ag⟩;refine ⟨_,rfl,?_⟩;replace ag:=ag.thaw (Zy .i64) ac ((Fz.refl (col:=af)).froz 1) (by decide);replace ac:=ac.thawR (col:=af);generalize Z7 ak.heap.size af ao=az at *;refine go ?_;replace aa:=aa.grow ac;refine Zq hm (fun hb hm=>go ?_) fun hb hm=>go ?_
 ·cases hm;exact ⟨rfl,_,none,0,rfl,aa.fin (cm []),Zc.nil⟩
 cases hm;exact ⟨rfl,_,_,_,rfl,aa.fin (cm [(2,c1)]),aa.fo ag⟩
def Qp (N:Nat) (aa:Ra):Option Int:=
  (Te N aa).bind fun ab=>some ab.2
theorem Zy2 {N ad:Nat} {a0:Option Addr} {col:Ze} {w0:World} {ac:Ra} {r:Int} (hm:Qp N ac=some r) (h0:Sl (Za.slice (Za.int .i64)) col w0 a0 ad ac):
    Calls prog 86 #[.slice a0 ac.length ad] w0 (fun e w'=>e= .returned ((.int .i64 r))∧Below w0.heap.size w0 w'):=by
 refine Xm 2 (m:=11) func86 rfl rfl rfl rfl rfl ?_;rw [Qp.eq_1] at hm;have aa:=St.start col w0;refine go ?_;obtain ⟨ab,ag,hm⟩:=bZ hm;replace h0:=h0.keep (Zl.start col w0);refine Zh (Znp 1 ag (h0.ks aa)) ?_;rintro _ ai ⟨aj,ae,af,rfl,ah,ak⟩;refine ⟨_,rfl,?_⟩;refine lM (.tuple #[.slice ae ab.1.length af,.int .i64 ab.2])<|lV (.slice ae ab.1.length af) (Xf rfl rfl)<|lV (.int .i64 ab.2) (Xf rfl rfl)<|go ?_;cases hm;replace aa:=aa.grow ah;exact ⟨rfl,rfl,aa.below⟩
def Zlx (aa:Int) (kk_L2:(Int→Option Bool)) (ab:Bool):Option Bool:=
  if ab=true then (some false) else (kk_L2 (i64.wrap (aa+1)))
def Zjk (N:Nat) (aa:Ra) (ab:Int) (kk_L1:(Int→Option Bool)):Nat→Int→Option Bool
  | 0,_=>none
  | ad+1,ac=>(Zp aa ab).bind fun ae=>if (decide (ac<(ae.length:Int)))=true then ((Zp ae ac).bind fun af=>if (decide (af<0))=true then (Zlx ac (Zjk N aa ab kk_L1 ad) true) else (Zlx ac (Zjk N aa ab kk_L1 ad) (decide ((aa.length:Int)≤af)))) else (kk_L1 (i64.wrap (ab+1)))
termination_by structural x=>x
def Zjj (N:Nat) (aa:Ra):Nat→Int→Option Bool
  | 0,_=>none
  | ac+1,ab=>if (decide (ab<(aa.length:Int)))=true then (Zjk N aa ab (Zjj N aa ac) N 0) else (some true)
termination_by structural x=>x
def Zlw (N:Nat) (aa:Ra):Option Bool:=
  Zjj N aa N 0
def Zlv (N:Nat) (aa:List Int) (ac:Int):Nat→Int→Option Bool
  | 0,_=>none
  | ad+1,ab=>if (decide (ab<(aa.length:Int)))=true then ((Zp aa ab).bind fun ae=>if (decide (ae=ac))=true then (some true) else ((Zlv N aa ac ad) (i64.wrap (ab+1)))) else (some false)
termination_by structural x=>x
def Zji (N:Nat) (aa:List Int) (ab:Int):Option Bool:=
  Zlv N aa ab N 0
def Zl1 (N:Nat) (ad:Ra) (ac:Int) (kk_L1:(Int→Option Bool)):Nat→Int→Option Bool
  | 0,_=>none
  | ae+1,aa=>(Zp ad ac).bind fun ab=>if (decide (aa<(ab.length:Int)))=true then (Z3 ((0:Int)≤aa∧aa≤(ab.length:Int)) ((Zp ab aa).bind fun af=>(Zji N (ab.take (Int.toNat aa)) af).bind fun ag=>if ag=true then (some true) else ((Zl1 N ad ac kk_L1 ae) (i64.wrap (aa+1))))) else (kk_L1 (i64.wrap (ac+1)))
termination_by structural x=>x
def Zjm (N:Nat) (aa:Ra):Nat→Int→Option Bool
  | 0,_=>none
  | ac+1,ab=>if (decide (ab<(aa.length:Int)))=true then (Zl1 N aa ab (Zjm N aa ac) N 0) else (some false)
termination_by structural x=>x
def Zl0 (N:Nat) (aa:Ra):Option Bool:=
  Zjm N aa N 0
def Zly (aa:Int) (kk_L2:(Int→Int→Option R2)) (ab:Int):Option R2:=
  kk_L2 ab (i64.wrap (aa+1))
def Zlz (aa:Int) (kk_L3:(Bool→Int→Option R2)) (ab:Bool):Option R2:=
  kk_L3 ab (i64.wrap (aa+1))
def Zjl (N:Nat) (ac:Ra) (ad:List Int) (ae:Int) (aa:Int) (kk_L2:(Int→Int→Option R2)):Nat→Bool→Int→Option R2
  | 0,_,_=>none
  | af+1,ag,ab=>(Zp ac aa).bind fun ah=>if (decide (ab<(ah.length:Int)))=true then (if ag=true then ((Zp ah ab).bind fun ai=>(Zji N ad ai).bind fun aj=>Zlz ab (Zjl N ac ad ae aa kk_L2 af) aj) else (Zlz ab (Zjl N ac ad ae aa kk_L2 af) false)) else (if ag=true then (Zly aa kk_L2 aa) else (Zly aa kk_L2 ae))
termination_by structural x=>x
def Zhh (N:Nat) (ad:Ra) (aa:List Int) (kk_L1:(List Int→Option R2)) (ab:Int) (ac:Int) (kk_L2:(Int→Int→Option R2)) (ae:Bool):Option R2:=
  if ae=true then ((Zji N aa ac).bind fun af=>Zjl N ad aa ab ac kk_L2 N (!af) 0) else (if (decide (ab<0))=true then (some aa) else (Z3 ((aa.length+[ab].length) * 8≤140737488355328∧aa.length+[ab].length≤maxLen) (kk_L1 (aa++[ab]))))
def Zet (N:Nat) (aa:Ra) (ab:List Int) (kk_L1:(List Int→Option R2)):Nat→Int→Int→Option R2
  | 0,_,_=>none
  | ae+1,ac,ad=>if (decide (ad<(aa.length:Int)))=true then (Zhh N aa ab kk_L1 ac ad (Zet N aa ab kk_L1 ae) (decide (ac<0))) else (Zhh N aa ab kk_L1 ac ad (Zet N aa ab kk_L1 ae) false)
termination_by structural x=>x
def Zbu (N:Nat) (aa:Ra):Nat→R2→Option R2
  | 0,_=>none
  | ab+1,ac=>Zet N aa ac (Zbu N aa ab) N (-1) 0
termination_by structural x=>x
def Qv (N:Nat) (aa:Ra):Option R2:=
  Zbu N aa N ([]:List Int)
def Zhg (N:Nat) (aa:Ra):Option Int:=
  (Zlw N aa).bind fun ab=>if (!ab)=true then (some 3) else ((Zl0 N aa).bind fun ac=>if ac=true then (some 40) else ((Qv N aa).bind fun ad=>if (decide ((ad.length:Int)<(aa.length:Int)))=true then (some 42) else (some 0)))
theorem Zqr (N:Nat) (l:List Int) (x:Int) (hl:l.length≤1048576):∀ (n k:Nat),l.length<n+k→k≤l.length→Zlv N l x n (k:Int)=some (decide (x ∈ l.drop k))
 | 0,k,h,hk=>by omega
 | n+1,k,h,hk=>by
  rw [Zlv.eq_2]
  by_cases hlt:k<l.length
  ·rw [if_pos (by simpa using hlt),Xk hlt,oB,wS (by omega),Zqr N l x hl n (k+1) (by omega) (by omega),List.drop_eq_getElem_cons hlt]
   by_cases he:l[k]=x
   ·rw [if_pos (by simpa using he),decide_eq_true (by rw [he];exact List.mem_cons_self)]
   ·rw [if_neg (by simpa using he)]
    exact congrArg some (decide_eq_decide.2 ⟨fun h=>List.mem_cons_of_mem _ h,fun h=>(List.mem_cons.1 h).resolve_left (Ne.symm he)⟩)
  ·rw [if_neg (by simpa using hlt),List.drop_eq_nil_of_le (by omega)];simp
theorem Znf {N:Nat} {l:List Int} {x:Int} (hl:l.length≤1048576) (hN:1048576<N):Zji N l x=some (decide (x ∈ l)):=by
 rw [Zji];simpa using Zqr N l x hl N 0 (by omega) (by omega)
def Us (m:Int) (P:List R2):Bool:=P.all fun l=>l.all fun p=>decide (0≤p∧p<m)
theorem Zt6 (N:Nat) (P:List R2) (i:Nat) (hi:i<P.length) (hP:P.length≤1048576) (hl:P[i].length≤1048576) (kk:Int→Option Bool):∀ (n k:Nat),P[i].length<n+k→k≤P[i].length→
  Zjk N P (i:Int) kk n (k:Int)=if (P[i].drop k).all (fun p=>decide (0≤p∧p<(P.length:Int))) then kk ((i+1:Nat):Int) else some false
 | 0,k,h,hk=>by omega
 | n+1,k,h,hk=>by
  rw [Zjk.eq_2,Xk hi,oB]
  by_cases hlt:k<P[i].length
  ·rw [if_pos (by simpa using hlt),Xk hlt,oB,Zlx,Zlx,wS (by omega),Zt6 N P i hi hP hl kk n (k+1) (by omega) (by omega),List.drop_eq_getElem_cons hlt]
   by_cases h1:P[i][k]<0
   ·rw [if_pos (by simpa using h1),if_pos rfl,if_neg (fun h=>by rw [List.all_cons,Bool.and_eq_true,decide_eq_true_eq] at h;omega)]
   ·rw [if_neg (by simpa using h1)]
    by_cases h2:(P.length:Int)≤P[i][k]
    ·rw [if_pos (by simpa using h2),if_neg (fun h=>by rw [List.all_cons,Bool.and_eq_true,decide_eq_true_eq] at h;omega)]
    ·rw [if_neg (by simpa using h2)]
     simp only [List.all_cons,Bool.and_eq_true]
     have h3:decide (0≤P[i][k]∧P[i][k]<(P.length:Int))=true:=by simp;omega
     simp only [h3,true_and]
  ·rw [if_neg (by simpa using hlt),List.drop_eq_nil_of_le (by omega),wS (by omega)];simp
theorem Zt5 (N:Nat) (P:List R2) (hP:P.length≤1048576) (hl:∀ l ∈ P,l.length≤1048576) (hN:1048576<N):∀ (n i:Nat),P.length<n+i→i≤P.length→
  Zjj N P n (i:Int)=some (Us P.length (P.drop i))
 | 0,i,h,hi=>by omega
 | n+1,i,h,hi=>by
  rw [Zjj.eq_2]
  by_cases hlt:i<P.length
  ·have h0:=Zt6 N P i hlt hP (hl _ (List.getElem_mem hlt)) (Zjj N P n) N 0 (by have:=hl _ (List.getElem_mem hlt);omega) (by omega)
   rw [if_pos (by simpa using hlt)]
   rw [show (0:Int)=((0:Nat):Int) from rfl,h0,Zt5 N P hP hl hN n (i+1) (by omega) (by omega),List.drop_eq_getElem_cons hlt]
   simp only [Us,List.all_cons,List.drop_zero]
   by_cases h1:(P[i].all fun p=>decide (0≤p∧p<(P.length:Int)))=true
   ·rw [if_pos h1,h1,Bool.true_and]
   ·rw [if_neg h1,Bool.eq_false_iff.2 h1,Bool.false_and]
  ·rw [if_neg (by simpa using hlt),List.drop_eq_nil_of_le (by omega)];rfl
theorem Z2p {N:Nat} {P:List R2} (hP:P.length≤1048576) (hl:∀ l ∈ P,l.length≤1048576) (hN:1048576<N):Zlw N P=some (Us P.length P):=by
 rw [Zlw];simpa using Zt5 N P hP hl hN N 0 (by omega) (by omega)
def Tl (P:List R2):Bool:=P.any fun l=>!decide l.Nodup
theorem Zvf (l:List Int) (k:Nat) (hk:k<l.length):(l.take (k+1)).Nodup↔(l.take k).Nodup∧l[k] ∉ l.take k:=by
 rw [List.take_succ_eq_append_getElem hk,List.nodup_append]
 simp only [List.nodup_cons,List.not_mem_nil,not_false_eq_true,List.nodup_nil,and_self,List.mem_singleton,true_and]
 constructor
 ·rintro ⟨h1,h2⟩;exact ⟨h1,fun h=>h2 _ h _ rfl rfl⟩
 ·rintro ⟨h1,h2⟩;exact ⟨h1,fun a ha b hb e=>h2 (by rw [← hb,← e];exact ha)⟩
theorem Zyb (N:Nat) (P:List R2) (i:Nat) (hi:i<P.length) (hP:P.length≤1048576) (hl:P[i].length≤1048576) (hN:1048576<N) (kk:Int→Option Bool):∀ (n k:Nat),P[i].length<n+k→k≤P[i].length→(P[i].take k).Nodup→
  Zl1 N P (i:Int) kk n (k:Int)=if P[i].Nodup then kk ((i+1:Nat):Int) else some true
 | 0,k,h,hk,_=>by omega
 | n+1,k,h,hk,hnd=>by
  rw [Zl1.eq_2,Xk hi,oB]
  by_cases hlt:k<P[i].length
  ·rw [if_pos (by simpa using hlt),Xg (by omega),Xk hlt,oB,Znf (by simp;omega) hN,oB,Int.toNat_natCast]
   by_cases h1:P[i][k] ∈ P[i].take k
   ·rw [if_pos (by simpa using h1),if_neg]
    intro h2
    exact ((Zvf _ k hlt).1 (h2.sublist (List.take_sublist _ _))).2 h1
   ·rw [if_neg (by simpa using h1),wS (by omega)]
    exact Zyb N P i hi hP hl hN kk n (k+1) (by omega) (by omega) ((Zvf _ k hlt).2 ⟨hnd,h1⟩)
  ·rw [if_neg (by simpa using hlt),wS (by omega)]
   rw [List.take_of_length_le (by omega)] at hnd
   rw [if_pos hnd]
theorem Zya (N:Nat) (P:List R2) (hP:P.length≤1048576) (hl:∀ l ∈ P,l.length≤1048576) (hN:1048576<N):∀ (n i:Nat),P.length<n+i→i≤P.length→
  Zjm N P n (i:Int)=some (Tl (P.drop i))
 | 0,i,h,hi=>by omega
 | n+1,i,h,hi=>by
  rw [Zjm.eq_2]
  by_cases hlt:i<P.length
  ·have h0:=Zyb N P i hlt hP (hl _ (List.getElem_mem hlt)) hN (Zjm N P n) N 0 (by have:=hl _ (List.getElem_mem hlt);omega) (by omega) (by simp)
   rw [if_pos (by simpa using hlt)]
   rw [show (0:Int)=((0:Nat):Int) from rfl,h0,Zya N P hP hl hN n (i+1) (by omega) (by omega),List.drop_eq_getElem_cons hlt]
   simp only [Tl,List.any_cons]
   by_cases h1:P[i].Nodup
   ·rw [if_pos h1];simp [h1]
   ·rw [if_neg h1];simp [h1]
  ·rw [if_neg (by simpa using hlt),List.drop_eq_nil_of_le (by omega)];rfl
theorem Z5x {N:Nat} {P:List R2} (hP:P.length≤1048576) (hl:∀ l ∈ P,l.length≤1048576) (hN:1048576<N):Zl0 N P=some (Tl P):=by
 rw [Zl0];simpa using Zya N P hP hl hN N 0 (by omega) (by omega)
def Tk (P:List R2):Nat:=(P.map List.length).sum
theorem Zke (l:List Int) (P:List R2):Tk (l :: P)=l.length+Tk P:=by simp [Tk]
theorem Zm7 {l:List Int}:∀ {P:List R2},l ∈ P→l.length≤Tk P
 | x :: P,h=>by
  rw [Zke]
  rcases List.mem_cons.1 h with rfl | h
  ·omega
  ·have:=Zm7 h;omega
def Zog:Nat→List R2→List Rb
 | _,[]=>[]
 | k,l :: P=>l.map (fun p=>(p,(k:Int)))++Zog (k+1) P
theorem Z1k:∀ (k:Nat) (P:List R2),(Zog k P).length=Tk P
 | _,[]=>rfl
 | k,l :: P=>by rw [Zog,nA,List.length_map,Z1k,Zke]
def Ty (P:List R2) (l:List Int) (i:Nat):Bool:=!decide ((i:Int) ∈ l)&&(P.getD i []).all fun p=>decide (p ∈ l)
def Vo (P:List R2) (l:List Int) (i:Nat):Option Nat:=(List.range' i (P.length - i)).find? (Ty P l)
theorem Z3s (P:List R2) (l:List Int) (i:Nat) (h:P.length≤i):Vo P l i=none:=by
 rw [Vo,Nat.sub_eq_zero_of_le h];rfl
theorem Z3u (P:List R2) (l:List Int) (i:Nat) (h:i<P.length):Vo P l i=if Ty P l i then some i else Vo P l (i+1):=by
 rw [Vo,Vo,show P.length - i=(P.length - (i+1))+1 by omega,List.range'_succ,List.find?_cons]
 cases Ty P l i <;> simp
section
variable (N:Nat) (P:List R2) (l:List Int)
theorem Zpf (hP:P.length≤1048576) (hl:l.length≤1048576) (hN:1048576<N) (next:Int) (i:Nat) (hi:i<P.length) (hli:P[i].length≤1048576) (kk:Int→Int→Option R2):∀ (n:Nat) (b:Bool) (k:Nat),P[i].length<n+k→k≤P[i].length→
  Zjl N P l next (i:Int) kk n b (k:Int)=kk (if (b&&(P[i].drop k).all fun p=>decide (p ∈ l))=true then (i:Int) else next) ((i+1:Nat):Int)
 | 0,b,k,h,hk=>by omega
 | n+1,b,k,h,hk=>by
  rw [Zjl.eq_2,Xk hi,oB]
  by_cases hlt:k<P[i].length
  ·rw [if_pos (by simpa using hlt),Xk hlt,oB,Znf hl hN,oB,Zlz,Zlz,wS (by omega),Zpf hP hl hN next i hi hli kk n _ (k+1) (by omega) (by omega),Zpf hP hl hN next i hi hli kk n _ (k+1) (by omega) (by omega),List.drop_eq_getElem_cons hlt,List.all_cons]
   cases b
   ·rw [if_neg (by decide),Bool.false_and,Bool.false_and]
   ·rw [if_pos rfl,Bool.true_and]
  ·rw [if_neg (by simpa using hlt),List.drop_eq_nil_of_le (by omega),Zly,Zly,wS (by omega),List.all_nil,Bool.and_true]
   cases b
   ·rw [if_neg (by decide),if_neg (by decide)]
   ·rw [if_pos rfl,if_pos rfl]
def Zv7 (kk:List Int→Option R2):Option Nat→Option R2
 | none=>some l
 | some i=>kk (l++[(i:Int)])
theorem Zvp (hl:l.length<1048576) (kk:List Int→Option R2) (i:Nat) (i':Int) (kk2:Int→Int→Option R2):Zhh N P l kk (i:Int) i' kk2 false=kk (l++[(i:Int)]):=by
 rw [Zhh,if_neg (by decide),if_neg (by rw [decide_eq_true_eq];omega),Xg (by simp only [nC,nN,maxLen];omega)]
theorem Zvo (hP:P.length≤1048576) (hls:∀ x ∈ P,x.length≤1048576) (hl:l.length<1048576) (hN:1048576<N) (kk:List Int→Option R2):∀ (n i:Nat),P.length<n+i→i≤P.length→
  Zet N P l kk n (-1) (i:Int)=Zv7 l kk (Vo P l i)
 | 0,i,h,hi=>by omega
 | n+1,i,h,hi=>by
  rw [Zet.eq_2]
  by_cases hlt:i<P.length
  ·have h3:=Zpf N P l hP (by omega) hN (-1) i hlt (hls _ (List.getElem_mem hlt)) (Zet N P l kk n) N (!decide ((i:Int) ∈ l)) 0 (by have:=hls _ (List.getElem_mem hlt);omega) (by omega)
   rw [if_pos (by simpa using hlt),Zhh,if_pos (by decide),Znf (by omega) hN,oB]
   rw [show (0:Int)=((0:Nat):Int) from rfl,h3,Z3u P l i hlt,List.drop_zero]
   have hb:(!decide ((i:Int) ∈ l)&&P[i].all fun p=>decide (p ∈ l))=Ty P l i:=by
    rw [Ty,List.getD_eq_getElem?_getD,List.getElem?_eq_getElem hlt];rfl
   rw [hb]
   by_cases hr:Ty P l i=true
   ·rw [if_pos hr,if_pos hr]
    match n,h with
    | 0,h=>omega
    | n+1,h=>
     rw [Zet.eq_2]
     by_cases h2:i+1<P.length
     ·rw [if_pos (dT (by omega)),show decide ((i:Int)<0)=false from decide_eq_false (by omega)]
      exact Zvp N P l hl kk i _ _
     ·rw [if_neg (by rw [decide_eq_true_eq];omega)]
      exact Zvp N P l hl kk i _ _
   ·rw [if_neg hr,if_neg hr]
    exact Zvo hP hls hl hN kk n (i+1) (by omega) (by omega)
  ·rw [if_neg (by simpa using hlt),Z3s P l i (by omega),Zhh,if_neg (by decide),if_pos (by decide)];rfl
end
theorem Zpg {N:Nat} {P:List R2} {l:List Int} (hP:P.length≤1048576) (hls:∀ x ∈ P,x.length≤1048576) (hl:l.length<1048576) (hN:1048576<N) (n:Nat):
  Zbu N P (n+1) l=Zv7 l (Zbu N P n) (Vo P l 0):=by
 rw [Zbu.eq_2]
 exact Zvo N P l hP hls hl hN _ N 0 (by omega) (by omega)
theorem Zpa {P:List R2} {l:List Int} {i j:Nat} (h:Vo P l i=some j):i≤j∧j<P.length∧Ty P l j=true∧∀ k,i≤k→k<j→Ty P l k=false:=by
 rw [Vo,List.find?_range'_eq_some] at h
 obtain ⟨h1,h2,h3⟩:=h
 rw [List.mem_range'] at h2
 obtain ⟨q,h4,h5⟩:=h2
 refine ⟨by omega,by omega,h1,fun k hk1 hk2=>?_⟩
 have:=h3 k hk1 hk2
 simpa using this
theorem Z3t {P:List R2} {l:List Int} {i:Nat} (h:Vo P l i=none):∀ k,i≤k→k<P.length→Ty P l k=false:=by
 rw [Vo,List.find?_eq_none] at h
 intro k hk1 hk2
 have:=h k (by rw [List.mem_range'];exact ⟨k - i,by omega,by omega⟩)
 simpa using this
theorem Zw0 {P:List R2} {l:List Int} {i:Nat} (hi:i<P.length):Ty P l i=true↔(i:Int) ∉ l∧∀ p ∈ P[i],p ∈ l:=by
 rw [Ty,List.getD_eq_getElem?_getD,List.getElem?_eq_getElem hi]
 simp
def U1 (P:List R2) (l:List Int):Prop:=l.Nodup∧(∀ x ∈ l,0≤x∧x<(P.length:Int))∧∀ (i:Nat) (hi:i<P.length),(i:Int) ∈ l→∀ p ∈ P[i],p ∈ l
theorem U1.len {P:List R2} {l:List Int} (h:U1 P l):l.length≤P.length:=by
 have h1:=Zhp (r:=(List.range P.length).map fun i:Nat=>(i:Int)) h.1 fun x hx=>by
  have:=h.2.1 x hx
  exact List.mem_map.2 ⟨x.toNat,List.mem_range.2 (by omega),by omega⟩
 simpa using h1
theorem U1.step {P:List R2} {l:List Int} {j:Nat} (h:U1 P l) (hn:Vo P l 0=some j):U1 P (l++[(j:Int)])∧l.length<P.length:=by
 obtain ⟨_,h2,h3,_⟩:=Zpa hn
 obtain ⟨h4,h5⟩:=(Zw0 h2).1 h3
 have h6:U1 P (l++[(j:Int)]):=by
  refine ⟨?_,?_,?_⟩
  ·rw [List.nodup_append]
   refine ⟨h.1,by simp,fun a ha b hb e=>?_⟩
   rw [List.mem_singleton] at hb;subst hb;subst e;exact h4 ha
  ·intro x hx
   rcases List.mem_append.1 hx with hx | hx
   ·exact h.2.1 x hx
   ·rw [List.mem_singleton] at hx;omega
  ·intro i hi hm p hp
   rcases List.mem_append.1 hm with hm | hm
   ·exact List.mem_append_left _ (h.2.2 i hi hm p hp)
   ·rw [List.mem_singleton] at hm
    have:i=j:=by omega
    subst this
    exact List.mem_append_left _ (h5 p hp)
 exact ⟨h6,by have:=h6.len;rw [nA,nC,nN] at this;omega⟩
theorem Zvq {N:Nat} {P:List R2} (hP:P.length<1048576) (hls:∀ x ∈ P,x.length≤1048576) (hN:1048576<N):∀ (n:Nat) (l:List Int),U1 P l→P.length<n+l.length→
  ∃ r,Zbu N P n l=some r∧U1 P r∧Vo P r 0=none
 | 0,l,h,hn=>by have:=h.len;omega
 | n+1,l,h,hn=>by
  have hl:=h.len
  rw [Zpg (by omega) hls (by omega) hN]
  cases hnx:Vo P l 0 with
  | none=>exact ⟨l,rfl,h,hnx⟩
  | some j=>
   obtain ⟨h1,h2⟩:=h.step hnx
   exact Zvq hP hls hN n _ h1 (by simp;omega)
theorem Z37 {N:Nat} {P:List R2} (hP:P.length<1048576) (hls:∀ x ∈ P,x.length≤1048576) (hN:1048576<N):∃ r,Qv N P=some r∧U1 P r∧Vo P r 0=none:=by
 rw [Qv]
 exact Zvq hP hls hN N [] ⟨.nil,by simp,by simp⟩ (by simp;omega)
def gD (h:List Int) (j:Nat):Int:=h.getD j 0
theorem Qk {h:List Int} {j:Nat} (hj:j<h.length):gD h j=h[j]:=by rw [gD,List.getD_eq_getElem?_getD,List.getElem?_eq_getElem hj];rfl
theorem Q3 {h:List Int} {j:Nat} (hj:j<h.length):Zp h (j:Int)=some (gD h j):=by rw [Xk hj,Qk hj]
def T0 (h:List Int) (i p:Nat):List Int:=(h.set i (gD h p)).set p (gD h i)
theorem Zkd (h:List Int) (i p:Nat):(T0 h i p).length=h.length:=by simp [T0]
theorem Zx0 {h:List Int} {i p:Nat} (hi:i<h.length) (hp:p<h.length):(T0 h i p).Perm h:=by
 rw [T0,Qk hi,Qk hp];exact List.set_set_perm hi hp
theorem Zk6 (h:List Int) (i j:Nat) (x:Int) (hi:i<h.length):gD (h.set i x) j=if j=i then x else gD h j:=by
 rw [gD,gD,List.getD_eq_getElem?_getD,List.getD_eq_getElem?_getD,List.getElem?_set]
 by_cases h1:i=j
 ·subst h1;rw [if_pos rfl,if_pos hi,if_pos rfl];rfl
 ·rw [if_neg h1,if_neg (Ne.symm h1)]
theorem Zb8 {h:List Int} {i p:Nat} (hi:i<h.length) (hp:p<h.length) (j:Nat):gD (T0 h i p) j=if j=p then gD h i else if j=i then gD h p else gD h j:=by
 rw [T0,Zk6 _ _ _ _ (by simpa using hp),Zk6 _ _ _ _ hi]
def Sq (h:List Int) (n:Nat):Prop:=∀ j,0<j→j<n→gD h ((j - 1) / 2)≤gD h j
theorem Sq.min {h:List Int} {n:Nat} (hh:Sq h n):∀ j,j<n→gD h 0≤gD h j:=by
 intro j
 induction j using Nat.strongRecOn with
 | ind j ih=>
  intro hj
  by_cases h0:j=0
  ·subst h0;exact Int.le_refl _
  ·exact Int.le_trans (ih ((j - 1) / 2) (by omega) (by omega)) (hh j (by omega) hj)
/-! ### push -/
def Zko (h:List Int) (i:Nat):Prop:=(∀ j,0<j→j<h.length→j≠i→gD h ((j - 1) / 2)≤gD h j)∧∀ j,0<j→j<h.length→(j - 1) / 2=i→0<i→gD h ((i - 1) / 2)≤gD h j
theorem Zko.step {h:List Int} {i:Nat} (hu:Zko h i) (hi:i<h.length) (h0:0<i) (hlt:gD h i<gD h ((i - 1) / 2)):Zko (T0 h i ((i - 1) / 2)) ((i - 1) / 2):=by
 have hp:(i - 1) / 2<h.length:=by omega
 refine ⟨fun j hj0 hj hjp=>?_,fun j hj0 hj hjp hp0=>?_⟩
 ·rw [Zkd] at hj
  rw [Zb8 hi hp,Zb8 hi hp,if_neg hjp]
  by_cases hji:j=i
  ·subst hji;rw [if_pos rfl,if_pos rfl];omega
  ·rw [if_neg hji]
   have h1:=hu.1 j hj0 hj hji
   by_cases hq:(j - 1) / 2=(i - 1) / 2
   ·rw [if_pos hq];rw [hq] at h1;omega
   ·rw [if_neg hq]
    by_cases hq2:(j - 1) / 2=i
    ·rw [if_pos hq2];exact hu.2 j hj0 hj hq2 h0
    ·rw [if_neg hq2];exact h1
 ·rw [Zkd] at hj
  rw [Zb8 hi hp,Zb8 hi hp,if_neg (by omega),if_neg (by omega),if_neg (by omega)]
  have h1:=hu.1 ((i - 1) / 2) hp0 hp (by omega)
  by_cases hji:j=i
  ·rw [if_pos hji];exact h1
  ·rw [if_neg hji]
   have h2:=hu.1 j hj0 hj hji
   rw [hjp] at h2;omega
theorem Zvx {i:Nat} (h0:0<i) (h1:i≤9000000):i64.wrap (Int.tdiv (i64.wrap ((i:Int) - 1)) 2)=(((i - 1) / 2:Nat):Int):=by
 rw [Zz (x:=(i:Int) - 1) (by omega),Int.tdiv_eq_ediv_of_nonneg (by omega),Zz (by omega)];omega
theorem Zv5 (N:Nat):∀ (n:Nat) (h:List Int) (i:Nat),i<n→i<h.length→h.length≤9000000→Zko h i→
  ∃ h',Zbd N n h (i:Int)=some h'∧h'.Perm h∧Sq h' h'.length
 | 0,h,i,hn,_,_,_=>by omega
 | n+1,h,i,hn,hi,hl,hu=>by
  rw [Zbd.eq_2]
  by_cases h0:0<i
  ·have hp:(i - 1) / 2<h.length:=by omega
   rw [if_pos (dT (by omega)),Q3 hi,oB,Zvx h0 (by omega),Q3 hp,oB,Zf8,Zvx h0 (by omega)]
   by_cases hlt:gD h i<gD h ((i - 1) / 2)
   ·obtain ⟨h',h1,h2,h3⟩:=Zv5 N n (T0 h i ((i - 1) / 2)) ((i - 1) / 2) (by omega) (by rw [Zkd];exact hp) (by rw [Zkd];exact hl) (hu.step hi h0 hlt)
    refine ⟨h',?_,h2.trans (Zx0 hi hp),h3⟩
    rw [if_pos (dT hlt),Q3 hp,oB,Q3 hi,oB,oB,Int.toNat_natCast,Int.toNat_natCast,Xk (by simpa using hp),oB,oB]
    exact h1
   ·refine ⟨h,by rw [if_neg (by simpa using hlt)],.refl _,fun j hj0 hj=>?_⟩
    by_cases hji:j=i
    ·subst hji;omega
    ·exact hu.1 j hj0 hj hji
  ·have:i=0:=by omega
   subst this
   rw [if_neg (by decide),Zf8,if_neg (by decide)]
   exact ⟨h,rfl,.refl _,fun j hj0 hj=>hu.1 j hj0 hj (by omega)⟩
theorem Ztv {h:List Int} {x:Int} {j:Nat} (hj:j<h.length):gD (h++[x]) j=gD h j:=by
 rw [Qk hj,Qk (by simp;omega),List.getElem_append_left hj]
theorem Zv6 {N:Nat} {h:List Int} (x:Int) (hl:h.length<2000000) (hh:Sq h h.length) (hN:2000000<N):∃ h',Zf7 N h x=some h'∧h'.Perm (x :: h)∧Sq h' h'.length:=by
 rw [Zf7,Xg (by simp only [nC,nN,maxLen];omega)]
 have hle:(h++[x]).length=h.length+1:=by simp
 rw [Zz (by omega),show (((h++[x]).length:Int) - 1)=((h.length:Nat):Int) by omega]
 obtain ⟨h',h1,h2,h3⟩:=Zv5 N N (h++[x]) h.length (by omega) (by omega) (by omega) ⟨fun j hj0 hj hji=>by rw [Ztv (by omega),Ztv (by omega)];exact hh j hj0 (by omega),fun j hj0 hj hji h0=>by omega⟩
 exact ⟨h',h1,h2.trans (List.perm_append_singleton x h),h3⟩
/-! ### pop -/
def Zh1 (l:List Int) (n i:Nat):Prop:=(∀ j,0<j→j<n→(j - 1) / 2≠i→gD l ((j - 1) / 2)≤gD l j)∧∀ j,0<j→j<n→(j - 1) / 2=i→0<i→gD l ((i - 1) / 2)≤gD l j
theorem Zh1.step {l:List Int} {n i q:Nat} (hu:Zh1 l n i) (hn:n≤l.length) (hi:i<n) (hq:q<n) (hqi:(q - 1) / 2=i) (hq0:0<q) (hlt:gD l q<gD l i) (hle:∀ j,0<j→j<n→(j - 1) / 2=i→gD l q≤gD l j):Zh1 (T0 l i q) n q:=by
 have hi':i<l.length:=by omega
 have hq':q<l.length:=by omega
 refine ⟨fun j hj0 hj hjp=>?_,fun j hj0 hj hjp _=>?_⟩
 ·rw [Zb8 hi' hq',Zb8 hi' hq',if_neg hjp]
  by_cases h1:(j - 1) / 2=i
  ·rw [if_pos h1]
   by_cases h2:j=q
   ·rw [if_pos h2];omega
   ·rw [if_neg h2,if_neg (by omega)];exact hle j hj0 hj h1
  ·rw [if_neg h1,if_neg (show j≠q by omega)]
   by_cases h2:j=i
   ·subst h2
    rw [if_pos rfl];exact hu.2 q hq0 hq hqi hj0
   ·rw [if_neg h2];exact hu.1 j hj0 hj h1
 ·rw [Zb8 hi' hq',Zb8 hi' hq',hqi,if_neg (by omega),if_pos rfl,if_neg (by omega),if_neg (by omega)]
  have:=hu.1 j hj0 hj (by omega)
  rwa [hjp] at this
theorem Z5u {l:List Int} {n i q:Nat} (hn:n≤l.length) (hi:i<n) (hq:q<n):(T0 l i q).take n=T0 (l.take n) i q:=by
 have h1:∀ j,j<n→gD (l.take n) j=gD l j:=fun j hj=>by rw [Qk (by simp;omega),Qk (by omega),List.getElem_take]
 rw [T0,T0,List.take_set,List.take_set,h1 i hi,h1 q hq]
theorem Zv1 (N:Nat) (p0:List Int) (x0:Int) (n:Nat) (hp0:p0.length=n+1) (hn:n≤2000000) (hN:2000000<N):∀ (m:Nat) (l:List Int) (i:Nat),n<m+i→(i<n∨n=0∧i=0)→l.length=n+1→Zh1 l n i→
  ∃ t,S1 N p0 x0 m l (i:Int)=some (x0,t)∧t.Perm (l.take n)∧Sq t n
 | 0,l,i,hm,hi,hl,hu=>by omega
 | m+1,l,i,hm,hi,hl,hu=>by
  rw [S1.eq_2]
  obtain ⟨N,rfl⟩:∃ N',N=N'+1+1+1:=⟨N - 3,by omega⟩
  have w1:i64.wrap ((p0.length:Int) - 1)=(n:Int):=by rw [Zz (by omega)];omega
  have wa:i64.wrap (i64.wrap (2 * (i:Int))+1)=((2 * i+1:Nat):Int):=by rw [Zz (x:=2 * (i:Int)) (by omega),Zz (by omega)];omega
  have wb:i64.wrap (i64.wrap (2 * (i:Int))+2)=((2 * i+2:Nat):Int):=by rw [Zz (x:=2 * (i:Int)) (by omega),Zz (by omega)];omega
  -- one child after the other
  have stepv:∀ (v:Nat) (k least:Nat),v<2→k=2 * i+1+v→(least<n∨n=0)→least<l.length→∀ f kk,S3 (N+1+1+1) p0 x0 l (i:Int) kk (f+1) (v:Int) (least:Int)=
    S3 (N+1+1+1) p0 x0 l (i:Int) kk f ((v+1:Nat):Int) ((if k<n∧gD l k<gD l least then k else least:Nat):Int):=by
   intro v k least hv hk hle hll f kk
   rw [S3.eq_2,if_pos (dT (by omega)),wa,wb,w1]
   have hat:Zp [((2 * i+1:Nat):Int),((2 * i+2:Nat):Int)] (v:Int)=some (k:Int):=by
    rw [Ze9]
    match v,hv with
    | 0,_=>simp [hk]
    | 1,_=>simp [hk];omega
   rw [hat,oB]
   by_cases h1:k<n
   ·rw [if_pos (dT (by omega)),Q3 (by omega),oB,Q3 hll,oB,Zf6,Zcl,Zcl,wS (by omega)]
    by_cases h2:gD l k<gD l least
    ·rw [if_pos (dT h2),if_pos ⟨h1,h2⟩]
    ·rw [if_neg (by simpa using h2),if_neg (fun h=>h2 h.2)]
   ·rw [if_neg (by rw [decide_eq_true_eq];omega),Zf6,Zcl,Zcl,if_neg (by decide),wS (by omega),if_neg (fun h=>h1 h.1)]
  have hil:i<l.length:=by omega
  have e1:=stepv 0 (2 * i+1) i (by omega) (by omega) (by omega) hil (N+1+1) (S1 (N+1+1+1) p0 x0 m)
  generalize hq1:(if 2 * i+1<n∧gD l (2 * i+1)<gD l i then 2 * i+1 else i)=q1 at e1
  have hq1':(q1=i∧(2 * i+1<n→gD l i≤gD l (2 * i+1)))∨(q1=2 * i+1∧q1<n∧gD l q1<gD l i):=by
   by_cases hc:2 * i+1<n∧gD l (2 * i+1)<gD l i
   ·rw [if_pos hc] at hq1;subst hq1;exact .inr ⟨rfl,hc.1,hc.2⟩
   ·rw [if_neg hc] at hq1;subst hq1;exact .inl ⟨rfl,fun h=>by omega⟩
  have e2:=stepv 1 (2 * i+2) q1 (by omega) (by omega) (by omega) (by omega) (N+1) (S1 (N+1+1+1) p0 x0 m)
  generalize hq2:(if 2 * i+2<n∧gD l (2 * i+2)<gD l q1 then 2 * i+2 else q1)=q2 at e2
  have hq2':(q2=i∧(2 * i+1<n→gD l i≤gD l (2 * i+1))∧(2 * i+2<n→gD l i≤gD l (2 * i+2)))∨((q2=2 * i+1∨q2=2 * i+2)∧q2<n∧gD l q2<gD l i∧(2 * i+1<n→gD l q2≤gD l (2 * i+1))∧(2 * i+2<n→gD l q2≤gD l (2 * i+2))):=by
   by_cases hc:2 * i+2<n∧gD l (2 * i+2)<gD l q1
   ·rw [if_pos hc] at hq2;subst hq2
    rcases hq1' with ⟨rfl,h3⟩ | ⟨rfl,h3,h4⟩
    ·exact .inr ⟨.inr rfl,hc.1,hc.2,fun h=>by have:=h3 h;omega,fun _=>Int.le_refl _⟩
    ·exact .inr ⟨.inr rfl,hc.1,by omega,fun _=>by omega,fun _=>Int.le_refl _⟩
   ·rw [if_neg hc] at hq2;subst hq2
    rcases hq1' with ⟨rfl,h3⟩ | ⟨rfl,h3,h4⟩
    ·exact .inl ⟨rfl,h3,fun h=>by omega⟩
    ·exact .inr ⟨.inl rfl,h3,h4,fun _=>Int.le_refl _,fun h=>by omega⟩
  rw [show (0:Int)=((0:Nat):Int) from rfl,e1]
  rw [show ((0+1:Nat):Int)=((1:Nat):Int) from rfl,e2,S3.eq_2,if_neg (by decide),w1,Int.toNat_natCast]
  rcases hq2' with ⟨rfl,h3,h4⟩ | ⟨h2,h3,h4,h5,h6⟩
  ·rw [if_pos (by simp)]
   refine ⟨_,rfl,.refl _,fun j hj0 hj=>?_⟩
   have ht:∀ k,k<n→gD (l.take n) k=gD l k:=fun k hk=>by rw [Qk (by simp;omega),Qk (by omega),List.getElem_take]
   rw [ht _ (by omega),ht _ hj]
   by_cases hq:(j - 1) / 2=q2
   ·rw [hq]
    rcases (show j=2 * q2+1∨j=2 * q2+2 by omega) with rfl | rfl
    ·exact h3 hj
    ·exact h4 hj
   ·exact hu.1 j hj0 hj hq
  ·have hq2l:q2<l.length:=by omega
   have hin:i<n:=by omega
   have hd:=hu.step (by omega) hin h3 (by omega) (by omega) h4 (fun j hj0 hj hji=>by
    rcases (show j=2 * i+1∨j=2 * i+2 by omega) with rfl | rfl
    ·exact h5 hj
    ·exact h6 hj)
   obtain ⟨t,k1,k2,k3⟩:=Zv1 (N+1+1+1) p0 x0 n hp0 hn hN m (T0 l i q2) q2 (by omega) (.inl h3) (by rw [Zkd];exact hl) hd
   refine ⟨t,?_,k2.trans ?_,k3⟩
   ·rw [if_neg (by simp;omega),Q3 hq2l,oB,Q3 hil,oB,oB,Int.toNat_natCast,Int.toNat_natCast,Xk (by simpa using hq2l),oB,oB]
    exact k1
   ·rw [Z5u (by omega) hin h3];exact Zx0 (by simp;omega) (by simp;omega)
theorem Z39 {N:Nat} {h:List Int} (hl:h.length≤2000000) (h0:0<h.length) (hh:Sq h h.length) (hN:2000000<N):∃ x t,Zio N h=some (x,t)∧h.Perm (x :: t)∧(∀ y ∈ h,x≤y)∧Sq t t.length:=by
 rw [Zio]
 obtain ⟨n,hn⟩:∃ n,h.length=n+1:=⟨h.length - 1,by omega⟩
 have w1:i64.wrap ((h.length:Int) - 1)=(n:Int):=by rw [Zz (by omega)];omega
 rw [w1,show (0:Int)=((0:Nat):Int) from rfl,Q3 h0,oB,Q3 (by omega),oB,oB,Xg (by simp;omega),Int.toNat_natCast]
 have hd:Zh1 (h.set 0 (gD h n)) n 0:=by
  refine ⟨fun j hj0 hj hji=>?_,fun j _ _ _ h=>by omega⟩
  rw [Zk6 _ _ _ _ h0,Zk6 _ _ _ _ h0,if_neg (by omega),if_neg (by omega)]
  exact hh j hj0 (by omega)
 obtain ⟨t,h1,h2,h3⟩:=Zv1 N h (gD h 0) n hn (by omega) hN N (h.set 0 (gD h n)) 0 (by omega) (by omega) (by simpa using hn) hd
 have hpm:h.Perm (gD h 0 :: (h.set 0 (gD h n)).take n):=by
  match h,hn with
  | x :: r,hn=>
   have hr:r.length=n:=by simpa using hn
   match n,hr with
   | 0,hr=>rw [List.length_eq_zero_iff.1 hr];exact .refl _
   | n+1,hr=>
    have e:gD (x :: r) (n+1)=gD r n:=rfl
    rw [e,List.set_cons_zero,List.take_succ_cons]
    refine List.Perm.cons x ?_
    have:r=r.take n++[gD r n]:=by
     have:=List.take_succ_eq_append_getElem (show n<r.length by omega)
     rw [List.take_of_length_le (by omega)] at this
     rw [Qk (by omega)];exact this
    conv=>lhs;rw [this]
    exact List.perm_append_singleton _ _
 have hp2:h.Perm (gD h 0 :: t):=hpm.trans (List.Perm.cons _ h2.symm)
 refine ⟨gD h 0,t,h1,hp2,fun y hy=>?_,?_⟩
 ·obtain ⟨j,hj,rfl⟩:=List.getElem_of_mem hy
  rw [← Qk hj];exact hh.min j hj
 ·have:=hp2.length_eq
  rw [nC,hn] at this
  rw [show t.length=n by omega];exact h3
theorem Yz {α:Type} {l:List α} {d:α} {j:Nat} (hj:j<l.length):l.getD j d=l[j]:=by rw [List.getD_eq_getElem?_getD,List.getElem?_eq_getElem hj];rfl
theorem Wx {α:Type} {l:List α} (d:α) {j:Nat} (hj:j<l.length):Zp l (j:Int)=some (l.getD j d):=by rw [Xk hj,Yz hj]
theorem Uu {α:Type} (l:List α) (d:α) (i j:Nat) (x:α) (hi:i<l.length):(l.set i x).getD j d=if j=i then x else l.getD j d:=by
 rw [List.getD_eq_getElem?_getD,List.getD_eq_getElem?_getD,List.getElem?_set]
 by_cases h1:i=j
 ·subst h1;rw [if_pos rfl,if_pos hi,if_pos rfl];rfl
 ·rw [if_neg h1,if_neg (Ne.symm h1)]
def Ui:Nat→List R2→Int→List Int
 | _,[],_=>[]
 | k,l :: P,p=>List.replicate (l.count p) (k:Int)++Ui (k+1) P p
def Zkj (n:Nat) (l:List Int):Prop:=∀ x ∈ l,0≤x∧x<(n:Int)
theorem Zrz (k:Nat) (kk:Nat→List R2→Option Ra):∀ (l:List Int) (out:List R2),Zkj out.length l→(∀ p:Nat,(out.getD p []).length+l.length≤1048576)→
  ∃ out',Zcj k kk l out=kk (k+1) out'∧out'.length=out.length∧∀ p:Nat,p<out.length→out'.getD p []=out.getD p []++List.replicate (l.count (p:Int)) (k:Int)
 | [],out,h,hb=>⟨out,by rw [Zcj.eq_1],rfl,fun p hp=>by simp⟩
 | x :: l,out,h,hb=>by
  obtain ⟨h0,h1⟩:=h x List.mem_cons_self
  obtain ⟨q,rfl⟩:=Int.eq_ofNat_of_zero_le h0
  have hq:q<out.length:=by omega
  have hbq:=hb q
  simp only [nC] at hbq hb
  rw [Zcj.eq_2,Wx [] hq,oB,Xg (by simp only [nC,nN,maxLen];omega),Int.toNat_natCast]
  obtain ⟨out',h2,h3,h4⟩:=Zrz k kk l (out.set q (out.getD q []++[(k:Int)])) (by rw [nS];exact fun y hy=>h y (List.mem_cons_of_mem _ hy)) (fun p=>by
   rw [Uu _ _ _ _ _ hq]
   have:=hb p
   split
   ·simp only [nA,nC,nN];omega
   ·omega)
  refine ⟨out',h2,by rw [h3,nS],fun p hp=>?_⟩
  rw [h4 p (by rw [nS];exact hp),Uu _ _ _ _ _ hq,List.count_cons]
  by_cases hpq:p=q
  ·subst hpq
   rw [if_pos rfl,if_pos (by simp),List.append_assoc,show l.count (p:Int)+1=1+l.count (p:Int) by omega,show [(k:Int)]=List.replicate 1 (k:Int) from rfl,List.replicate_append_replicate]
  ·rw [if_neg hpq,if_neg (by simp;omega),Nat.add_zero]
theorem Zt8 (p:Int):∀ (k:Nat) (P:List R2),(Ui k P p).length≤Tk P
 | _,[]=>by simp [Ui]
 | k,l :: P=>by
  rw [Ui,nA,List.length_replicate,Zke]
  have:=Zt8 p (k+1) P
  have:=List.count_le_length (a:=p) (l:=l)
  omega
theorem Zry (n:Nat):∀ (P:List R2) (k:Nat) (out:List R2),out.length=n→(∀ l ∈ P,Zkj n l)→(∀ p:Nat,(out.getD p []).length+Tk P≤1048576)→
  ∃ out',Zaa P k out=some out'∧out'.length=n∧∀ p:Nat,p<n→out'.getD p []=out.getD p []++Ui k P p
 | [],k,out,hn,_,_=>⟨out,by rw [Zaa.eq_1],hn,fun p hp=>by simp [Ui]⟩
 | l :: P,k,out,hn,h,hb=>by
  simp only [Zke] at hb
  rw [Zaa.eq_2]
  obtain ⟨out1,h1,h2,h3⟩:=Zrz k (Zaa P) l out (by rw [hn];exact h l List.mem_cons_self) (fun p=>by have:=hb p;omega)
  obtain ⟨out',h4,h5,h6⟩:=Zry n P (k+1) out1 (by omega) (fun x hx=>h x (List.mem_cons_of_mem _ hx)) (fun p=>by
   have:=hb p
   by_cases hp:p<out.length
   ·rw [h3 p hp,nA,List.length_replicate]
    have:=List.count_le_length (a:=(p:Int)) (l:=l)
    omega
   ·rw [List.getD_eq_getElem?_getD,List.getElem?_eq_none (by omega)];simp;omega)
  refine ⟨out',by rw [h1,h4],h5,fun p hp=>?_⟩
  rw [h6 p hp,h3 p (by omega),List.append_assoc,Ui]
theorem Z0t {P:List R2} (hP:P.length≤1048576) (ht:Tk P≤1048576) (h:∀ l ∈ P,Zkj P.length l):∃ D,Zf3 P=some D∧D.length=P.length∧∀ p:Nat,p<P.length→D.getD p []=Ui 0 P p:=by
 rw [Zf3,Xg (by simp only [maxLen];omega)]
 have hr:∀ p:Nat,(List.replicate P.length ([]:List Int)).getD p []=[]:=fun p=>by
  rw [List.getD_eq_getElem?_getD,List.getElem?_replicate];split <;> rfl
 obtain ⟨D,h1,h2,h3⟩:=Zry P.length P 0 (List.replicate P.length []) (by simp) h (fun p=>by rw [hr];simpa using ht)
 exact ⟨D,h1,h2,fun p hp=>by rw [h3 p hp,hr];rfl⟩
theorem Zoo (p:Int):∀ (k:Nat) (P:List R2) (c:Nat),(Ui k P p).count (c:Int)=if k≤c then (P.getD (c - k) []).count p else 0
 | k,[],c=>by simp [Ui]
 | k,l :: P,c=>by
  rw [Ui,List.count_append,Zoo p (k+1) P c,List.count_replicate]
  by_cases h1:k=c
  ·subst h1
   rw [if_pos (by simp),if_neg (by omega),if_pos (Nat.le_refl _),Nat.sub_self];rfl
  ·rw [if_neg (by simp;omega)]
   by_cases h2:k≤c
   ·rw [if_pos (by omega),if_pos h2,show c - k=(c - (k+1))+1 by omega];simp
   ·rw [if_neg (by omega),if_neg h2]
theorem Zt9 (p:Int):∀ (k:Nat) (P:List R2) (x:Int),x ∈ Ui k P p→∃ c:Nat,x=(c:Int)∧k≤c∧c<k+P.length
 | k,[],x,h=>by simp [Ui] at h
 | k,l :: P,x,h=>by
  rw [Ui] at h
  rcases List.mem_append.1 h with h | h
  ·exact ⟨k,(List.mem_replicate.1 h).2,Nat.le_refl _,by simp⟩
  ·obtain ⟨c,h1,h2,h3⟩:=Zt9 p (k+1) P x h
   exact ⟨c,h1,by omega,by rw [nC];omega⟩
def T6 (P:List R2) (out:List Int) (c:Nat):Nat:=(P.getD c []).countP fun q=>!decide (q ∈ out)
theorem Zr5 (out:List Int) (p:Int) (hp:p ∉ out):∀ l:List Int,(l.countP fun q=>!decide (q ∈ out))=(l.countP fun q=>!decide (q ∈ out++[p]))+l.count p
 | []=>rfl
 | x :: l=>by
  rw [List.countP_cons,List.countP_cons,List.count_cons,Zr5 out p hp l]
  by_cases h1:x=p
  ·subst h1
   have h2:(!decide (x ∈ out))=true:=by simp [hp]
   have h3:(!decide (x ∈ out++[x]))=false:=by simp
   rw [h2,h3];simp;omega
  ·have h3:(x ∈ out++[p])↔x ∈ out:=by simp [h1]
   rw [show (!decide (x ∈ out++[p]))=(!decide (x ∈ out)) from congrArg _ (decide_eq_decide.2 h3),if_neg (show ¬ ((x==p)=true) by simpa using h1)];omega
theorem Zr2 {P:List R2} {out:List Int} {p:Int} (hp:p ∉ out) (c:Nat):T6 P out c=T6 P (out++[p]) c+(P.getD c []).count p:=Zr5 out p hp _
theorem Zwz (P:List R2) (out:List Int) (c:Nat):Ty P out c=true↔(c:Int) ∉ out∧T6 P out c=0:=by
 rw [Ty,T6,List.countP_eq_zero]
 simp
structure Zkk (P:List R2) (out left ready:List Int):Prop where
 ok:U1 P out
 len:left.length=P.length
 cnt:∀ c:Nat,c<P.length→left.getD c 0=(T6 P out c:Int)
 heap:Sq ready ready.length
 nd:ready.Nodup
 mem:∀ y:Int,y ∈ ready↔∃ c:Nat,c<P.length∧y=(c:Int)∧(c:Int) ∉ out∧left.getD c 0=0
theorem Zqc (N:Nat) (P:List R2) (hP:P.length≤1048576) (ht:Tk P≤1048576) (hN:2000000<N) (out:List Int) (p:Nat) (r2:List Int) (kk:List Int→List Int→List Int→Option R2):
  ∀ (rest left ready:List Int),rest.length≤9000000000000000000→left.length=P.length→(∀ c:Nat,c<P.length→left.getD c 0=((T6 P (out++[(p:Int)]) c+rest.count (c:Int):Nat):Int))→
   Sq ready ready.length→ready.Nodup→(∀ y:Int,y ∈ ready↔∃ c:Nat,c<P.length∧y=(c:Int)∧(c:Int) ∉ out++[(p:Int)]∧left.getD c 0=0)→
   (∀ x ∈ rest,∃ c:Nat,c<P.length∧x=(c:Int)∧x ∉ out++[(p:Int)])→
   ∃ left' ready',Zaf N out kk ((p:Int),r2) rest left ready=kk left' ready' (out++[(p:Int)])∧left'.length=P.length∧(∀ c:Nat,c<P.length→left'.getD c 0=(T6 P (out++[(p:Int)]) c:Int))∧
    Sq ready' ready'.length∧ready'.Nodup∧∀ y:Int,y ∈ ready'↔∃ c:Nat,c<P.length∧y=(c:Int)∧(c:Int) ∉ out++[(p:Int)]∧left'.getD c 0=0
 | [],left,ready,_,h1,h2,h3,h4,h5,_=>⟨left,ready,by rw [Zaf.eq_1],h1,fun c hc=>by rw [h2 c hc];simp,h3,h4,h5⟩
 | x :: rest,left,ready,hrest,h1,h2,h3,h4,h5,h6=>by
  obtain ⟨c0,hc0,rfl,hx⟩:=h6 x List.mem_cons_self
  have hc0l:c0<left.length:=by omega
  have hcx:=h2 c0 hc0
  rw [List.count_cons,if_pos (by simp)] at hcx
  have hle:T6 P (out++[(p:Int)]) c0≤1048576:=by
   have h7:=List.countP_le_length (p:=fun q=>!decide (q ∈ out++[(p:Int)])) (l:=P.getD c0 [])
   rw [Yz hc0] at h7
   have h8:=Zm7 (P:=P) (List.getElem_mem hc0)
   rw [T6,Yz hc0];omega
  have hrl:ready.length≤P.length:=by
   have h7:=Zhp (r:=(List.range P.length).map fun i:Nat=>(i:Int)) h4 fun y hy=>by
    obtain ⟨c,h8,h9,_⟩:=(h5 y).1 hy
    exact List.mem_map.2 ⟨c,List.mem_range.2 h8,h9.symm⟩
   simpa using h7
  have hv:i64.wrap (left.getD c0 0 - 1)=((T6 P (out++[(p:Int)]) c0+rest.count (c0:Int):Nat):Int):=by
   have h9:=List.count_le_length (a:=(c0:Int)) (l:=rest)
   rw [hcx,Zz]
   ·omega
   ·simp only [nC] at hrest
    omega
  have hl1:∀ c:Nat,c<P.length→(left.set c0 (i64.wrap (left.getD c0 0 - 1))).getD c 0=((T6 P (out++[(p:Int)]) c+rest.count (c:Int):Nat):Int):=fun c hc=>by
   rw [Uu _ _ _ _ _ hc0l]
   by_cases hcc:c=c0
   ·subst hcc;rw [if_pos rfl,hv]
   ·rw [if_neg hcc,h2 c hc,List.count_cons,if_neg (by simp;omega),Nat.add_zero]
  have hne:left.getD c0 0≠0:=by rw [hcx];omega
  have hnr:(c0:Int) ∉ ready:=fun h=>by
   obtain ⟨c,h8,h9,_,h10⟩:=(h5 _).1 h
   have:c=c0:=by omega
   subst this;exact hne h10
  have h6':∀ x ∈ rest,∃ c:Nat,c<P.length∧x=(c:Int)∧x ∉ out++[(p:Int)]:=fun x hx=>h6 x (List.mem_cons_of_mem _ hx)
  have hr':rest.length≤9000000000000000000:=by simp only [nC] at hrest;omega
  rw [Zaf.eq_2,Wx 0 hc0l,oB,oB,Int.toNat_natCast,Wx 0 (by rw [nS];exact hc0l),oB,Zga,Uu _ _ _ _ _ hc0l,if_pos rfl]
  by_cases hz:i64.wrap (left.getD c0 0 - 1)=0
  ·obtain ⟨ready1,k1,k2,k3⟩:=Zv6 (N:=N) (c0:Int) (by omega:ready.length<2000000) h3 hN
   rw [if_pos (by simpa using hz),k1,oB,Zga]
   refine Zqc N P hP ht hN out p r2 kk rest _ ready1 hr' (by rw [nS];exact h1) hl1 k3 (k2.nodup_iff.2 (List.nodup_cons.2 ⟨hnr,h4⟩)) (fun y=>?_) h6'
   rw [k2.mem_iff,List.mem_cons]
   constructor
   ·rintro (rfl | hy)
    ·exact ⟨c0,hc0,rfl,hx,by rw [Uu _ _ _ _ _ hc0l,if_pos rfl,hz]⟩
    ·obtain ⟨c,h8,h9,h10,h11⟩:=(h5 y).1 hy
     refine ⟨c,h8,h9,h10,?_⟩
     rw [Uu _ _ _ _ _ hc0l]
     split
     ·exact hz
     ·exact h11
   ·rintro ⟨c,h8,h9,h10,h11⟩
    by_cases hcc:c=c0
    ·subst hcc;exact .inl h9
    ·rw [Uu _ _ _ _ _ hc0l,if_neg hcc] at h11
     exact .inr ((h5 y).2 ⟨c,h8,h9,h10,h11⟩)
  ·rw [if_neg (by simpa using hz)]
   refine Zqc N P hP ht hN out p r2 kk rest _ ready hr' (by rw [nS];exact h1) hl1 h3 h4 (fun y=>?_) h6'
   rw [h5 y]
   constructor
   ·rintro ⟨c,h8,h9,h10,h11⟩
    refine ⟨c,h8,h9,h10,?_⟩
    rw [Uu _ _ _ _ _ hc0l,if_neg (fun h=>hne (by rw [← h];exact h11))];exact h11
   ·rintro ⟨c,h8,h9,h10,h11⟩
    refine ⟨c,h8,h9,h10,?_⟩
    rw [Uu _ _ _ _ _ hc0l] at h11
    split at h11
    ·exact absurd h11 hz
    ·exact h11
theorem Z5o {N:Nat} {P D:List R2} (hP:P.length≤1048576) (ht:Tk P≤1048576) (hN:2000000<N) (hD:D.length=P.length) (hDk:∀ p:Nat,p<P.length→D.getD p []=Ui 0 P p) {out left ready:List Int} (hi:Zkk P out left ready) (n:Nat):
  (Vo P out 0=none→Tf N D (n+1) left ready out=some out)∧
  ∀ p,Vo P out 0=some p→∃ left' ready',Zkk P (out++[(p:Int)]) left' ready'∧Tf N D (n+1) left ready out=Tf N D n left' ready' (out++[(p:Int)]):=by
 have hrl:ready.length≤P.length:=by
  have h7:=Zhp (r:=(List.range P.length).map fun i:Nat=>(i:Int)) hi.nd fun y hy=>by
   obtain ⟨c,h8,h9,_⟩:=(hi.mem y).1 hy
   exact List.mem_map.2 ⟨c,List.mem_range.2 h8,h9.symm⟩
  simpa using h7
 have hrd:∀ c:Nat,c<P.length→(Ty P out c=true↔(c:Int) ∈ ready):=fun c hc=>by
  rw [Zwz,hi.mem]
  constructor
  ·rintro ⟨h1,h2⟩;exact ⟨c,hc,rfl,h1,by rw [hi.cnt c hc,h2];rfl⟩
  ·rintro ⟨c',h1,h2,h3,h4⟩
   have:c'=c:=by omega
   subst this
   rw [hi.cnt c' h1] at h4
   exact ⟨h3,by omega⟩
 refine ⟨fun hn=>?_,fun p hn=>?_⟩
 ·have h0:ready=[]:=by
   cases hr:ready with
   | nil=>rfl
   | cons y l=>
    obtain ⟨c,h1,h2,_⟩:=(hi.mem y).1 (by rw [hr];exact List.mem_cons_self)
    have h3:=Z3t hn c (Nat.zero_le _) h1
    have h4:=(hrd c h1).2 (by rw [← h2,hr];exact List.mem_cons_self)
    rw [h3] at h4;cases h4
  rw [Tf.eq_2,h0,if_neg (by decide)]
 ·obtain ⟨_,hp,hr,hmin⟩:=Zpa hn
  have hpr:=(hrd p hp).1 hr
  have hpos:0<ready.length:=List.length_pos_of_mem hpr
  obtain ⟨x,t,k1,k2,k3,k4⟩:=Z39 (N:=N) (by omega:ready.length≤2000000) hpos hi.heap hN
  have hxr:x ∈ ready:=k2.mem_iff.2 List.mem_cons_self
  have hxp:x=(p:Int):=by
   obtain ⟨c,h1,h2,_⟩:=(hi.mem x).1 hxr
   have h3:=k3 _ hpr
   have h4:¬ c<p:=fun hlt=>by
    have h5:=hmin c (Nat.zero_le _) hlt
    have h6:=(hrd c h1).2 (by rw [← h2];exact hxr)
    rw [h5] at h6;cases h6
   omega
  subst hxp
  have hnd:((p:Int) :: t).Nodup:=k2.nodup_iff.1 hi.nd
  obtain ⟨hp1,hp2⟩:=(Zwz P out p).1 hr
  obtain ⟨hok,hlt⟩:=hi.ok.step hn
  have hol:=hi.ok.len
  have hself:(P.getD p []).count (p:Int)=0:=by have:=Zr2 (P:=P) hp1 p;omega
  rw [Tf.eq_2,if_pos (dT (by omega)),k1,oB,Xg (by simp only [nC,nN,maxLen];omega),Wx [] (by rw [hD];exact hp),oB,hDk p hp]
  have hkl:=Zt8 (p:Int) 0 P
  obtain ⟨left',ready',h1,h2,h3,h4,h5,h6⟩:=Zqc N P hP ht hN out p t (Tf N D n) (Ui 0 P p) left t (by omega) hi.len (fun c hc=>by
    rw [hi.cnt c hc,Zr2 hp1 c,Zoo (p:Int) 0 P c,if_pos (Nat.zero_le _),Nat.sub_zero]) k4 (List.nodup_cons.1 hnd).2 (fun y=>by
    have h7:y ∈ t↔y ∈ ready∧y≠(p:Int):=by
     rw [k2.mem_iff,List.mem_cons]
     exact ⟨fun h=>⟨.inr h,fun e=>(List.nodup_cons.1 hnd).1 (by rw [← e];exact h)⟩,fun h=>h.1.resolve_left h.2⟩
    rw [h7,hi.mem]
    constructor
    ·rintro ⟨⟨c,h8,h9,h10,h11⟩,h12⟩
     exact ⟨c,h8,h9,by rw [List.mem_append,List.mem_singleton];exact fun h=>h.elim h10 fun h=>h12 (by rw [h9,h]),h11⟩
    ·rintro ⟨c,h8,h9,h10,h11⟩
     rw [List.mem_append,List.mem_singleton] at h10
     exact ⟨⟨c,h8,h9,fun h=>h10 (.inl h),h11⟩,fun h=>h10 (.inr (by rw [← h9,h]))⟩) (fun x hx=>by
    obtain ⟨c,h7,_,h8⟩:=Zt9 (p:Int) 0 P x hx
    have h8:c<P.length:=by omega
    have h9:=Zoo (p:Int) 0 P c
    rw [if_pos (Nat.zero_le _),Nat.sub_zero] at h9
    have h10:0<(P.getD c []).count (p:Int):=by rw [← h9,← h7];exact List.count_pos_iff.2 hx
    refine ⟨c,h8,h7,fun h=>?_⟩
    rcases List.mem_append.1 h with h | h
    ·rw [h7] at h
     have h11:=hi.ok.2.2 c h8 h (p:Int) (by rw [Yz h8] at h10;exact List.count_pos_iff.1 h10)
     exact hp1 h11
    ·rw [List.mem_singleton] at h
     have:c=p:=by omega
     subst this
     omega)
  exact ⟨left',ready',⟨hok,h2,h3,h4,h5,h6⟩,h1⟩
theorem Zxt {N:Nat} {P D:List R2} (hP:P.length<1048576) (hls:∀ x ∈ P,x.length≤1048576) (ht:Tk P≤1048576) (hN:2000000<N) (hD:D.length=P.length) (hDk:∀ p:Nat,p<P.length→D.getD p []=Ui 0 P p):∀ (n:Nat) (out left ready:List Int),Zkk P out left ready→P.length<n+out.length→
  Tf N D n left ready out=Zbu N P n out
 | 0,out,left,ready,hi,hn=>by have:=hi.ok.len;omega
 | n+1,out,left,ready,hi,hn=>by
  have hl:=hi.ok.len
  obtain ⟨h1,h2⟩:=Z5o (N:=N) (by omega) ht hN hD hDk hi n
  rw [Zpg (by omega) hls (by omega) (by omega)]
  cases hnx:Vo P out 0 with
  | none=>rw [h1 hnx];rfl
  | some p=>
   obtain ⟨left',ready',h3,h4⟩:=h2 p hnx
   rw [h4]
   exact Zxt hP hls ht hN hD hDk n _ _ _ h3 (by simp;omega)
theorem Zqb {N:Nat} (P D:List R2) (hP:P.length<1048576) (hN:2000000<N) (hl:∀ l ∈ P,l.length≤1048576):∀ (Q:List R2) (k:Nat) (left ready:List Int),P.drop k=Q→k≤P.length→left.length=P.length→
  (∀ c:Nat,c<k→left.getD c 0=((P.getD c []).length:Int))→Sq ready ready.length→ready.Nodup→(∀ y:Int,y ∈ ready↔∃ c:Nat,c<k∧y=(c:Int)∧(P.getD c []).length=0)→
  ∃ left' ready',Zae N D Q k left ready=Tf N D N left' ready' []∧Zkk P [] left' ready'
 | [],k,left,ready,hQ,hk,h1,h2,h3,h4,h5=>by
  have hkP:k=P.length:=by have:=congrArg List.length hQ;simp at this;omega
  subst hkP
  have hc0:∀ c,T6 P [] c=(P.getD c []).length:=fun c=>by
   rw [T6,List.countP_eq_length.2 (fun a _=>by simp)]
  refine ⟨left,ready,by rw [Zae.eq_1],⟨⟨.nil,by simp,by simp⟩,h1,fun c hc=>by rw [h2 c hc,hc0],h3,h4,fun y=>?_⟩⟩
  rw [h5]
  constructor
  ·rintro ⟨c,h6,h7,h8⟩;exact ⟨c,h6,h7,by simp,by rw [h2 c h6,h8];rfl⟩
  ·rintro ⟨c,h6,h7,_,h8⟩;exact ⟨c,h6,h7,by rw [h2 c h6] at h8;omega⟩
 | x :: Q,k,left,ready,hQ,hk,h1,h2,h3,h4,h5=>by
  have hkl:k<P.length:=by
   rcases Nat.lt_or_ge k P.length with h | h
   ·exact h
   ·rw [List.drop_eq_nil_of_le h] at hQ;cases hQ
  rw [List.drop_eq_getElem_cons hkl] at hQ
  obtain ⟨hx,hQ⟩:=List.cons.inj hQ
  have hxd:P.getD k []=x:=by rw [Yz hkl,hx]
  have hkl':k<left.length:=by omega
  have hrl:ready.length≤k:=by
   have h7:=Zhp (r:=(List.range k).map fun i:Nat=>(i:Int)) h4 fun y hy=>by
    obtain ⟨c,h8,h9,_⟩:=(h5 y).1 hy
    exact List.mem_map.2 ⟨c,List.mem_range.2 h8,h9.symm⟩
   simpa using h7
  have hl1:∀ c:Nat,c<k+1→(left.set k (x.length:Int)).getD c 0=((P.getD c []).length:Int):=fun c hc=>by
   rw [Uu _ _ _ _ _ hkl']
   by_cases hck:c=k
   ·subst hck;rw [if_pos rfl,hxd]
   ·rw [if_neg hck,h2 c (by omega)]
  have hnr:(k:Int) ∉ ready:=fun h=>by obtain ⟨c,h6,h7,_⟩:=(h5 _).1 h;omega
  rw [Zae.eq_2,Wx 0 hkl',oB,oB,Int.toNat_natCast]
  by_cases h0:x.length=0
  ·obtain ⟨ready1,k1,k2,k3⟩:=Zv6 (N:=N) (k:Int) (by omega:ready.length<2000000) h3 hN
   rw [if_pos (dT (by omega)),k1,oB,Zgb]
   refine Zqb P D hP hN hl Q (k+1) _ ready1 hQ (by omega) (by rw [nS];exact h1) hl1 k3 (k2.nodup_iff.2 (List.nodup_cons.2 ⟨hnr,h4⟩)) (fun y=>?_)
   rw [k2.mem_iff,List.mem_cons,h5]
   constructor
   ·rintro (rfl | ⟨c,h6,h7,h8⟩)
    ·exact ⟨k,by omega,rfl,by rw [hxd];exact h0⟩
    ·exact ⟨c,by omega,h7,h8⟩
   ·rintro ⟨c,h6,h7,h8⟩
    by_cases hck:c=k
    ·subst hck;exact .inl h7
    ·exact .inr ⟨c,by omega,h7,h8⟩
  ·rw [if_neg (by rw [decide_eq_true_eq];omega),Zgb]
   refine Zqb P D hP hN hl Q (k+1) _ ready hQ (by omega) (by rw [nS];exact h1) hl1 h3 h4 (fun y=>?_)
   rw [h5]
   constructor
   ·rintro ⟨c,h6,h7,h8⟩;exact ⟨c,by omega,h7,h8⟩
   ·rintro ⟨c,h6,h7,h8⟩
    by_cases hck:c=k
    ·subst hck;rw [hxd] at h8;exact absurd h8 h0
    ·exact ⟨c,by omega,h7,h8⟩
theorem Z5n {N:Nat} {P D:List R2} (hP:P.length<1048576) (hls:∀ x ∈ P,x.length≤1048576) (ht:Tk P≤1048576) (hN:2000000<N) (hD:D.length=P.length) (hDk:∀ p:Nat,p<P.length→D.getD p []=Ui 0 P p):Zf9 N P D=Qv N P:=by
 rw [Zf9,Xg (by simp only [maxLen];omega),Qv]
 obtain ⟨left,ready,h1,h2⟩:=Zqb (N:=N) P D hP hN hls P 0 (List.replicate P.length 0) [] rfl (Nat.zero_le _) (by simp) (fun c hc=>by omega) (fun j _ hj=>by simp at hj) .nil (fun y=>by simp)
 rw [h1]
 exact Zxt hP hls ht hN hD hDk N [] _ _ h2 (by simp;omega)
theorem Zti (kk:Option Int):∀ (l:List Int) (seen:List Rb) (S:List Int),S.Nodup→(∀ k,Wn seen k=if k ∈ S then some 1 else none)→Zck kk l seen=if (S++l).Nodup then kk else some 40
 | [],seen,S,h1,h2=>by rw [Zck.eq_1,List.append_nil,if_pos h1]
 | x :: l,seen,S,h1,h2=>by
  rw [Zck.eq_2,h2 x]
  by_cases hx:x ∈ S
  ·rw [if_pos hx,if_pos (by decide),if_neg]
   intro h
   exact (List.nodup_append.1 h).2.2 x hx x List.mem_cons_self rfl
  ·rw [if_neg hx,if_neg (by decide),oB,Zti kk l _ (S++[x]) (by
    rw [List.nodup_append]
    refine ⟨h1,by simp,fun a ha b hb e=>?_⟩
    rw [List.mem_singleton] at hb;subst hb;subst e;exact hx ha) (fun k=>by
    rw [Zu0,h2 k]
    by_cases hk:k=x
    ·subst hk;rw [if_pos rfl,if_pos (by simp)]
    ·rw [if_neg hk]
     by_cases hs:k ∈ S
     ·rw [if_pos hs,if_pos (by simp [hs])]
     ·rw [if_neg hs,if_neg (by simp [hs,hk])])]
   rw [List.append_assoc];rfl
theorem Zth:∀ P:List R2,Zac P=if Tl P then some 40 else some 0
 | []=>by rw [Zac.eq_1];rfl
 | l :: P=>by
  rw [Zac.eq_2,Zti _ l [] [] .nil (fun k=>by simp [Wn]),Zth P,List.nil_append]
  by_cases h:l.Nodup
  ·rw [if_pos h]
   have:Tl (l :: P)=Tl P:=by rw [Tl,Tl,List.any_cons,decide_eq_true h];rfl
   rw [this]
  ·rw [if_neg h]
   have:Tl (l :: P)=true:=by rw [Tl,List.any_cons,decide_eq_false h];rfl
   rw [this];rfl
theorem Ztj (P:List R2) (kk:Option Int):∀ l:List Int,Zad P kk l=if (l.all fun p=>decide (0≤p∧p<(P.length:Int)))=true then kk else some 3
 | []=>by rw [Zad.eq_1];rfl
 | x :: l=>by
  rw [Zad.eq_2,Ztj P kk l,Zf5,Zf5,List.all_cons]
  by_cases h1:x<0
  ·rw [if_pos (by simpa using h1),if_pos rfl,decide_eq_false (by omega),Bool.false_and,if_neg (by decide)]
  ·rw [if_neg (by simpa using h1)]
   by_cases h2:(P.length:Int)≤x
   ·rw [if_pos (by simpa using h2),decide_eq_false (by omega),Bool.false_and,if_neg (by decide)]
   ·rw [if_neg (by simpa using h2),decide_eq_true (by omega),Bool.true_and]
theorem Ztg (P:List R2):∀ Q:List R2,Zab P Q=if Us P.length Q=true then Zac P else some 3
 | []=>by rw [Zab.eq_1];rfl
 | l :: Q=>by
  rw [Zab.eq_2,Ztj,Ztg P Q]
  by_cases h:(l.all fun p=>decide (0≤p∧p<(P.length:Int)))=true
  ·rw [if_pos h]
   have:Us P.length (l :: Q)=Us P.length Q:=by rw [Us,Us,List.all_cons,h,Bool.true_and]
   rw [this]
  ·rw [if_neg h]
   have:Us P.length (l :: Q)=false:=by rw [Us,List.all_cons,Bool.eq_false_iff.2 h,Bool.false_and]
   rw [this,if_neg (by decide)]
theorem Z19 (P:List R2):Zf4 P=if Us P.length P=true then (if Tl P=true then some 40 else some 0) else some 3:=by
 rw [Zf4,Ztg,Zth]
structure Zkm (P:List R2):Prop where
 n:P.length≤1048575
 t:Tk P≤1048576
theorem Zkm.ls {P:List R2} (h:Zkm P):∀ x ∈ P,x.length≤1048576:=fun x hx=>Nat.le_trans (Zm7 hx) h.t
theorem Zt4 {P:List R2} {n:Nat} (h:Us n P=true):∀ l ∈ P,Zkj n l:=by
 intro l hl x hx
 rw [Us,List.all_eq_true] at h
 have:=List.all_eq_true.1 (h l hl) x hx
 simpa using this
inductive Zkl (N:Nat) (P:List R2):Prop
 | err (e:Int) (D:Te N P=some ([],e)) (R:Zhg N P=some e) (ne:e=3∨e=40):Zkl N P
 | cyc (I:Us P.length P=true) (T:Tl P=false) (l:List Int) (o:Qv N P=some l) (ok:U1 P l) (mx:Vo P l 0=none) (lt:l.length<P.length) (D:Te N P=some ([],42)) (R:Zhg N P=some 42):Zkl N P
 | ord (I:Us P.length P=true) (T:Tl P=false) (l:List Int) (o:Qv N P=some l) (ok:U1 P l) (mx:Vo P l 0=none) (eq:l.length=P.length) (D:Te N P=some (l,0)) (R:Zhg N P=some 0):Zkl N P
theorem Zxp {N:Nat} {P:List R2} (h:Zkm P) (hN:2000000<N):Zkl N P:=by
 have hn:=h.n
 have ht:=h.t
 have hls:=h.ls
 have hls':∀ x ∈ P,x.length≤1048576:=fun x hx=>by have:=hls x hx;omega
 have hD:Te N P=(Zf4 P).bind fun r_1=>if (!decide (r_1=0))=true then (some (([]:List Int),r_1)) else ((Zf3 P).bind fun r_5=>(Zf9 N P r_5).bind fun r_13=>if (decide ((r_13.length:Int)<(P.length:Int)))=true then (some (([]:List Int),42)) else (some (r_13,0))):=by rw [Te]
 have hR:Zhg N P=(Zlw N P).bind fun r_1=>if (!r_1)=true then (some 3) else ((Zl0 N P).bind fun r_5=>if r_5=true then (some 40) else ((Qv N P).bind fun r_9=>if (decide ((r_9.length:Int)<(P.length:Int)))=true then (some 42) else (some 0))):=by rw [Zhg]
 rw [Z19] at hD
 rw [Z2p (by omega) hls' (by omega),oB] at hR
 by_cases hI:Us P.length P=true
 ·rw [hI,if_neg (by decide),Z5x (by omega) hls' (by omega),oB] at hR
  rw [if_pos hI] at hD
  by_cases hT:Tl P=true
  ·rw [if_pos hT] at hD hR
   exact .err 40 (by rw [hD];rfl) hR (.inr rfl)
  ·rw [if_neg hT] at hD hR
   obtain ⟨l,h1,h2,h3⟩:=Z37 (N:=N) (P:=P) (by omega) hls' (by omega)
   obtain ⟨D,h4,h5,h6⟩:=Z0t (P:=P) (by omega) (by omega) (Zt4 hI)
   rw [h1,oB] at hR
   rw [oB,if_neg (by decide),h4,oB,Z5n (by omega) hls' (by omega) hN h5 h6,h1,oB] at hD
   have hT:=Bool.eq_false_iff.2 hT
   have hle:=h2.len
   by_cases hlt:l.length<P.length
   ·rw [if_pos (dT (by omega))] at hR hD
    exact .cyc hI hT l h1 h2 h3 hlt hD hR
   ·rw [if_neg (by rw [decide_eq_true_eq];omega)] at hR hD
    exact .ord hI hT l h1 h2 h3 (by omega) hD hR
 ·rw [Bool.eq_false_iff.2 hI,if_pos (by decide)] at hR
  rw [if_neg hI] at hD
  exact .err 3 (by rw [hD];rfl) hR (.inl rfl)
def Zg7 (ab:List Int) (aa:Int) (kk_L1:(Int→Option R2)) (ac:Bool):Option R2:=
  if ac=true then (kk_L1 (i64.wrap (aa - 1))) else (Z3 ((0:Int)≤aa∧aa≤(ab.length:Int)) (Z3 ((([]:List Int).length+(ab.take (Int.toNat aa)).length) * 4≤140737488355328∧([]:List Int).length+(ab.take (Int.toNat aa)).length≤maxLen) (some (([]:List Int)++(ab.take (Int.toNat aa))))))
def Zbt (N:Nat) (aa:List Int):Nat→Int→Option R2
  | 0,_=>none
  | ac+1,ab=>if (decide (0<ab))=true then ((Zp aa (i64.wrap (ab - 1))).bind fun ad=>Zg7 aa ab (Zbt N aa ac) (decide (ad=0))) else (Zg7 aa ab (Zbt N aa ac) false)
termination_by structural x=>x
def U5 (N:Nat) (aa:List Int):Option R2:=
  Zbt N aa N (aa.length:Int)
theorem Sw {N ae:Nat} {a0:Option Addr} {col:Ze} {w0:World} {ab r:R2} (c1:Nat) (hm:U5 N ab=some r) (h0:Sl (Za.int .u32) col w0 a0 ae ab):
    Calls prog 175 #[.slice a0 ab.length ae] w0 (fun e w'=>∃ (col':Ze) (ra1:Option Addr) (rc2:Nat),e= .returned ((.slice ra1 r.length rc2))∧Zf col w0 col' w'∧Zc (Za.int .u32) 95 c1 col' w' ra1 rc2 r):=by
 refine Xm 2 (m:=24) func175 rfl rfl rfl rfl rfl ?_;rw [U5.eq_1] at hm;have aa:=St.start col w0;refine go ?_;refine Z9 [0,1000000] (fun n f aj=>∃ ak ac ad,ad=n∧Zbt N ab ad ac=some r∧St w0 (Zk col) ak aj∧[3].map f=[.int .i64 ac]) N ⟨_,_,_,rfl,hm,aa,rfl⟩ ?_;clear hm;intro n f aj hI;obtain ⟨ak,ac,ad,hn,hm,aa,hs⟩:=hI;subst hn;refine .lL [3] hs ?_;replace h0:=h0.keep (Zl.start col w0)
 cases ad with
 | zero=>rw [Zbt.eq_1] at hm;cases hm
 | succ ad=>
  rw [Zbt.eq_2] at hm;refine Zv<|Zv ?_;refine Wp.cutK [0,3,1000000] (fun f al=>∃ am af,Zg7 ab ac (Zbt N ab ad) af=some r∧St w0 (Zk col) am al∧[16].map f=[.bool af]) ?_ ?_
  ·intro f al hJ;obtain ⟨am,af,hm,aa,hs⟩:=hJ;rw [Zg7.eq_1] at hm;refine .lL [16] hs ?_;refine Zq hm (fun hb hm=>go ?_) fun hb hm=>go ?_
   ·exact ⟨ad,by omega,rfl,⟨_,_,_,rfl,hm,aa,rfl⟩⟩
   obtain ⟨ag,hm⟩:=Z6 hm;refine lv (v:=.slice a0 (Int.toNat ac) ae) rfl rfl (Zj8 underlying35 sizeOf95 rfl rfl ag.1 (by have:=(h0.ks aa).1.2;have:=ag.2;omega))<|.ld (d:=22) (v:=(.slice a0 ((ab.take (Int.toNat ac)).length) ae)) (congrArg (fun n=>Value.slice a0 n ae) (List.length_take_of_le (show (Int.toNat ac)≤ab.length by have:=ag.2;omega)).symm) ?_;obtain ⟨an,hm⟩:=Z6 hm;refine U3 (c:=1) Zc.nil ((h0.ks aa).take (Int.toNat ac)).srcC an ?_;intro ar au av aw ao ap;refine go ?_;cases hm;replace aa:=aa.kpp ao;exact ⟨rfl,_,_,_,rfl,aa.fin (cm [(1,c1)]),aa.fo ap⟩
  refine go ?_;refine X8 hm (fun ah hm=>go ?_) fun ah hm=>go ?_
  ·obtain ⟨aq,ai,hm⟩:=bZ hm;refine lI ai ((h0.ks aa).addr ai) ?_;refine go ?_;refine lW ((h0.ks aa).atInt ai)<|go ?_;refine lV (.bool (decide (aq=0))) (Xr (congrArg Value.bool ah) rfl)<|Zm ?_;exact ⟨rfl,_,_,hm,aa,rfl⟩
  refine lV (.bool false) (Xh (congrArg Value.bool ah) rfl)<|Zm ?_;exact ⟨rfl,_,_,hm,aa,rfl⟩
def Zel (N:Nat):Nat→Int→Int→Option Int
  | 0,_,_=>none
  | ac+1,aa,ab=>if (decide (0<ab))=true then ((Zel N ac) (i64.wrap (aa+1)) (u32.wrap (Int.tdiv ab 2))) else (some aa)
termination_by structural x=>x
def Zjc (N:Nat) (ab:List Int):Option Int:=
  (U5 N ab).bind fun aa=>if (decide ((aa.length:Int)=0))=true then (some 0) else ((Zp aa (i64.wrap ((aa.length:Int) - 1))).bind fun ac=>Zel N N (i64.wrap (32 * (i64.wrap ((aa.length:Int) - 1)))) ac)
theorem Zzy {N ag:Nat} {a0:Option Addr} {col:Ze} {w0:World} {ad:R2} {r:Int} (hm:Zjc N ad=some r) (h0:Sl (Za.int .u32) col w0 a0 ag ad):
    Calls prog 211 #[.slice a0 ad.length ag] w0 (fun e w'=>e= .returned ((.int .i64 r))∧Below w0.heap.size w0 w'):=by
 refine Xm 2 (m:=28) func211 rfl rfl rfl rfl rfl ?_;rw [Zjc.eq_1] at hm;have aa:=St.start col w0;refine go ?_;obtain ⟨am,ak,hm⟩:=bZ hm;replace h0:=h0.keep (Zl.start col w0);refine Zh (Sw 1 ak (h0.ks aa)) ?_;rintro _ an ⟨ao,ap,aq,rfl,al,ah⟩;refine ⟨_,rfl,go ?_⟩;replace aa:=aa.grow al;refine Zq hm (fun hb hm=>go ?_) fun hb hm=>go ?_
 ·cases hm;exact ⟨rfl,rfl,aa.below⟩
 obtain ⟨ar,ae,hm⟩:=bZ hm;refine lI ae (ah.addr ae)<|lW (ah.atInt ae) ?_;refine go ?_;refine Z9 [1000000] (fun n f ai=>∃ aj af ac ab,ab=n∧Zel N ab af ac=some r∧St w0 (Zk col) aj ai∧[4,5].map f=[.int .i64 af,.int .u32 ac]) N ⟨_,_,_,_,rfl,hm,aa,rfl⟩ ?_;clear hm;intro n f ai hI;obtain ⟨aj,af,ac,ab,hn,hm,aa,hs⟩:=hI;subst hn;refine .lL [4,5] hs ?_
 cases ab with
 | zero=>rw [Zel.eq_1] at hm;cases hm
 | succ ab=>
  rw [Zel.eq_2] at hm;refine go ?_;refine Zq hm (fun hb hm=>go ?_) fun hb hm=>go ?_
  ·refine lV (.int .u32 (u32.wrap (Int.tdiv ac 2))) (Vf ac 2 rfl rfl (by decide))<|go ?_;exact ⟨ab,by omega,rfl,⟨_,_,_,_,rfl,hm,aa,rfl⟩⟩
  cases hm;exact ⟨rfl,rfl,aa.below⟩
def Qu (aa:List Int) (ab:Int):Option Int:=
  if (decide (ab<(aa.length:Int)))=true then ((Zp aa ab).bind fun ac=>some (u64.wrap ac)) else (some 0)
theorem Zds {ad:Nat} {a0:Option Addr} {col:Ze} {w0:World} {ab:R2} {ae r:Int} (hm:Qu ab ae=some r) (h0:Sl (Za.int .u32) col w0 a0 ad ab):
    Calls prog 213 #[.slice a0 ab.length ad,.int .i64 ae] w0 (fun e w'=>e= .returned ((.int .u64 r))∧Below w0.heap.size w0 w'):=by
 refine Xm 4 (m:=14) func213 rfl rfl rfl rfl rfl ?_;rw [Qu.eq_1] at hm;have aa:=St.start col w0;refine go ?_;replace h0:=h0.keep (Zl.start col w0);refine Zq hm (fun hb hm=>go ?_) fun hb hm=>go ?_
 ·obtain ⟨af,ac,hm⟩:=bZ hm;refine lI ac ((h0.ks aa).addr ac)<|lW ((h0.ks aa).atInt ac) ?_;refine go ?_;cases hm;exact ⟨rfl,rfl,aa.below⟩
 cases hm;exact ⟨rfl,rfl,aa.below⟩
def Zjb (ab:List Int) (aa:Int):Option Int:=
  (Qu ab (i64.wrap (Int.tdiv aa 32))).bind fun ac=>Z3 (0≤(Int.tmod aa 32)) (some (Int.tmod (u32.wrap (Yd .u64 ac (Int.tmod aa 32))) 2))
theorem Zzx {af:Nat} {a0:Option Addr} {col:Ze} {w0:World} {ad:R2} {aa r:Int} (hm:Zjb ad aa=some r) (h0:Sl (Za.int .u32) col w0 a0 af ad):
    Calls prog 212 #[.slice a0 ad.length af,.int .i64 aa] w0 (fun e w'=>e= .returned ((.int .u32 r))∧Below w0.heap.size w0 w'):=by
 refine Xm 4 (m:=14) func212 rfl rfl rfl rfl rfl ?_;rw [Zjb.eq_1] at hm;have ab:=St.start col w0;refine go ?_;refine lV (.int .i64 (i64.wrap (Int.tdiv aa 32))) (Vf aa 32 rfl rfl (by decide)) ?_;obtain ⟨ac,ag,hm⟩:=bZ hm;replace h0:=h0.keep (Zl.start col w0);refine Zh (Zds ag (h0.ks ab)) ?_;rintro _ ah ⟨rfl,ae⟩;refine ⟨_,rfl,?_⟩;replace ae:Zf (Zk col) w0 (Zk col) ah:=.of_below ae;refine Yf rfl<|lV (.int .i64 (Int.tmod aa 32)) (Ti aa 32 rfl rfl (by decide)) ?_;obtain ⟨ai,hm⟩:=Z6 hm;refine lV (.int .u64 (Yd .u64 ac (Int.tmod aa 32))) (Tv ac (Int.tmod aa 32) rfl rfl ai)<|go ?_;refine lV (.int .u32 (Int.tmod (u32.wrap (Yd .u64 ac (Int.tmod aa 32))) 2)) (Ti (u32.wrap (Yd .u64 ac (Int.tmod aa 32))) 2 rfl rfl (by decide))<|go ?_;cases hm;replace ab:=ab.grow ae;exact ⟨rfl,rfl,ab.below⟩
def Zhc (aa:List Int):Option R2:=
  some aa
def Zeq (N:Nat) (ad:List Int):Nat→R2→Int→Int→Option R2
  | 0,_,_,_=>none
  | af+1,ab,aa,ae=>if (decide (ae<(ad.length:Int)))=true then ((Zp ad ae).bind fun ac=>Z3 ((ab.length+[u32.wrap (Int.tmod (u64.wrap (aa+(u64.wrap (2 * (u64.wrap ac))))) 4294967296)].length) * 4≤140737488355328∧ab.length+[u32.wrap (Int.tmod (u64.wrap (aa+(u64.wrap (2 * (u64.wrap ac))))) 4294967296)].length≤maxLen) ((Zeq N ad af) (ab++[u32.wrap (Int.tmod (u64.wrap (aa+(u64.wrap (2 * (u64.wrap ac))))) 4294967296)]) (u64.wrap (Int.tdiv (u64.wrap (aa+(u64.wrap (2 * (u64.wrap ac))))) 4294967296)) (i64.wrap (ae+1)))) else (if (decide (0<aa))=true then (Z3 ((ab.length+[u32.wrap aa].length) * 4≤140737488355328∧ab.length+[u32.wrap aa].length≤maxLen) (Zhc (ab++[u32.wrap aa]))) else (Zhc ab))
termination_by structural x=>x
def Zhb (N:Nat) (aa:List Int) (ab:Int):Option R2:=
  Zeq N aa N ([]:List Int) (u64.wrap ab) 0
theorem Zrl {N au:Nat} {a0:Option Addr} {col:Ze} {w0:World} {ag:R2} {av:Int} {r:R2} (c1:Nat) (hm:Zhb N ag av=some r) (h0:Sl (Za.int .u32) col w0 a0 au ag):
    Calls prog 210 #[.slice a0 ag.length au,.int .u32 av] w0 (fun e w'=>∃ (col':Ze) (ra1:Option Addr) (rc2:Nat),e= .returned ((.slice ra1 r.length rc2))∧Zf col w0 col' w'∧Zc (Za.int .u32) 95 c1 col' w' ra1 rc2 r):=by
 refine Xm 4 (m:=40) func210 rfl rfl rfl rfl rfl ?_;rw [Zhb.eq_1] at hm;have aa:=St.start col w0;refine go ?_;refine Z9 [0,1000000] (fun n f aj=>∃ ae ak al ah ab am ad,ad=n∧Zeq N ag ad ah ab am=some r∧St w0 (Zk col) ae aj∧Zc (Za.int .u32) 95 1 ae aj ak al ah∧[5,6,7].map f=[.slice ak ah.length al,.int .u64 ab,.int .i64 am]) N ⟨_,none,0,_,_,0,_,rfl,hm,aa,Zc.nil,rfl⟩ ?_;clear hm;intro n f aj hI;obtain ⟨ae,ak,al,ah,ab,am,ad,hn,hm,aa,ac,hs⟩:=hI;subst hn;refine .lL [5,6,7] hs ?_;replace h0:=h0.keep (Zl.start col w0)
 cases ad with
 | zero=>rw [Zeq.eq_1] at hm;cases hm
 | succ ad=>
  rw [Zeq.eq_2] at hm;refine go ?_;refine Zq hm (fun hb hm=>go ?_) fun hb hm=>?_
  ·obtain ⟨af,an,hm⟩:=bZ hm;refine lI an ((h0.ks aa).addr an)<|lW ((h0.ks aa).atInt an) ?_;refine go ?_;refine lV (.int .u64 (Int.tmod (u64.wrap (ab+(u64.wrap (2 * (u64.wrap af))))) 4294967296)) (Ti (u64.wrap (ab+(u64.wrap (2 * (u64.wrap af))))) 4294967296 rfl rfl (by decide))<|go ?_;refine W8 (col:=ae) [u32.wrap (Int.tmod (u64.wrap (ab+(u64.wrap (2 * (u64.wrap af))))) 4294967296)] 2 ?_;intro a8 a9 ba aw ay;obtain ⟨az,hm⟩:=Z6 hm;replace ac:=ac.gr aw;refine U3 ac (ay.srcN (NB.int (k:=.u32))) az ?_;intro bb bc bd be a1 a2;refine go ?_;refine lV (.int .u64 (u64.wrap (Int.tdiv (u64.wrap (ab+(u64.wrap (2 * (u64.wrap af))))) 4294967296))) (Vf (u64.wrap (ab+(u64.wrap (2 * (u64.wrap af))))) 4294967296 rfl rfl (by decide))<|go ?_;replace aa:=(aa.grow aw).kpp a1;exact ⟨ad,by omega,rfl,⟨_,_,_,_,_,_,_,rfl,hm,aa,a2,rfl⟩⟩
  refine Zkh (Zii ?_);refine Zv ?_;refine Wp.cutK [1000000] (fun f ao=>∃ ap aq ar ai,Zhc ai=some r∧St w0 (Zk col) ap ao∧Zc (Za.int .u32) 95 1 ap ao aq ar ai∧[5].map f=[.slice aq ai.length ar]) ?_ ?_
  ·intro f ao hJ;obtain ⟨ap,aq,ar,ai,hm,aa,a3,hs⟩:=hJ;rw [Zhc.eq_1] at hm;refine .lL [5] hs<|go ?_;cases hm;exact ⟨rfl,_,_,_,rfl,aa.fin (cm [(1,c1)]),aa.fo a3⟩
  refine go ?_;refine Zq hm (fun hb hm=>go ?_) fun hb hm=>?_
  ·refine W8 (col:=ae) [u32.wrap ab] 3 ?_;intro bf bg bh ax a4;obtain ⟨a5,hm⟩:=Z6 hm;replace ac:=ac.gr ax;refine U3 ac (a4.srcN (NB.int (k:=.u32))) a5 ?_;intro bi bj bk bm a6 a7;refine go ?_;replace aa:=(aa.grow ax).kpp a6;exact ⟨rfl,_,_,_,_,hm,aa,a7,rfl⟩
  refine X3 ?_;exact ⟨rfl,_,_,_,_,hm,aa,ac,rfl⟩
def Zen (N:Nat) (ab:List Int) (ac:List Int):Nat→Int→Option Int
  | 0,_=>none
  | af+1,aa=>if (decide (0≤aa))=true then ((Qu ab aa).bind fun ad=>(Qu ac aa).bind fun ae=>if (decide (ad<ae))=true then (some (-1)) else (if (decide (ae<ad))=true then (some 1) else ((Zen N ab ac af) (i64.wrap (aa - 1))))) else (some 0)
termination_by structural x=>x
def Zg2 (N:Nat) (aa:List Int) (ab:List Int) (ac:Int):Option Int:=
  Zen N aa ab N (i64.wrap (ac - 1))
def Zem (N:Nat) (aa:List Int) (ab:List Int):Option Int:=
  if (decide ((aa.length:Int)<(ab.length:Int)))=true then (Zg2 N aa ab (ab.length:Int)) else (Zg2 N aa ab (aa.length:Int))
theorem Zny {N ak al:Nat} {a0 a1:Option Addr} {col:Ze} {w0:World} {ad ae:R2} {r:Int} (hm:Zem N ad ae=some r) (h0:Sl (Za.int .u32) col w0 a0 ak ad) (h1:Sl (Za.int .u32) col w0 a1 al ae):
    Calls prog 209 #[.slice a0 ad.length ak,.slice a1 ae.length al] w0 (fun e w'=>e= .returned ((.int .i64 r))∧Below w0.heap.size w0 w'):=by
 refine Xm 4 (m:=35) func209 rfl rfl rfl rfl rfl ?_;rw [Zem.eq_1] at hm;have aa:=St.start col w0;refine Zv<|Wq<|Yx rfl<|Zm<|Zv<|Wq<|Wt rfl<|lV _ (Zay underlying35 rfl)<|Yx rfl<|Zm<|Zv ?_;replace h0:=h0.keep (Zl.start col w0);replace h1:=h1.keep (Zl.start col w0);refine Wp.cutK [0,1,1000000] (fun f am=>∃ an af,Zg2 N ad ae af=some r∧St w0 (Zk col) an am∧[5].map f=[.int .i64 af]) ?_ ?_
 ·intro f am hJ;obtain ⟨an,af,hm,aa,hs⟩:=hJ;rw [Zg2.eq_1] at hm;refine .lL [5] hs<|go ?_;refine Z9 [0,1,1000000] (fun n f ag=>∃ ab ah ac,ac=n∧Zen N ad ae ac ah=some r∧St w0 (Zk col) ab ag∧[6].map f=[.int .i64 ah]) N ⟨_,_,_,rfl,hm,aa,rfl⟩ ?_;clear hm;intro n f ag hI;obtain ⟨ab,ah,ac,hn,hm,aa,hs⟩:=hI;subst hn;refine .lL [6] hs ?_
  cases ac with
  | zero=>rw [Zen.eq_1] at hm;cases hm
  | succ ac=>
   rw [Zen.eq_2] at hm;refine go ?_;refine Zq hm (fun hb hm=>go ?_) fun hb hm=>go ?_
   ·obtain ⟨au,ap,hm⟩:=bZ hm;refine Zh (Zds ap (h0.ks aa)) ?_;rintro _ ao ⟨rfl,ai⟩;refine ⟨_,rfl,?_⟩;replace ai:Zf ab ag ab ao:=.of_below ai;refine go ?_;obtain ⟨av,aq,hm⟩:=bZ hm;replace aa:=aa.grow ai;refine Zh (Zds aq (h1.ks aa)) ?_;rintro _ ar ⟨rfl,aj⟩;refine ⟨_,rfl,?_⟩;replace aj:Zf ab ao ab ar:=.of_below aj;refine go ?_;replace aa:=aa.grow aj;refine Zq hm (fun hb hm=>go ?_) fun hb hm=>go ?_
    ·cases hm;exact ⟨rfl,rfl,aa.below⟩
    refine Zq hm (fun hb hm=>go ?_) fun hb hm=>go ?_
    ·cases hm;exact ⟨rfl,rfl,aa.below⟩
    exact ⟨ac,by omega,rfl,⟨_,_,_,rfl,hm,aa,rfl⟩⟩
   cases hm;exact ⟨rfl,rfl,aa.below⟩
 refine go ?_;refine Zq hm (fun hb hm=>go ?_) fun hb hm=>?_
 ·exact ⟨rfl,_,_,hm,aa,rfl⟩
 refine X3 ?_;exact ⟨rfl,_,_,hm,aa,rfl⟩
def Zls (aa:Int) (kk_L1:(List Int→Int→Int→Option Rd)) (ab:List Int) (ac:Int):Option Rd:=
  kk_L1 ab ac (i64.wrap (aa+1))
def Zha (aa:List Int) (ab:Int) (ae:Int) (kk_L1:(List Int→Int→Int→Option Rd)) (ac:Int) (af:Int) (ad:Int):Option Rd:=
  Z3 ((aa.length+[u32.wrap (u64.wrap (ad - (u64.wrap (ac+ab))))].length) * 4≤140737488355328∧aa.length+[u32.wrap (u64.wrap (ad - (u64.wrap (ac+ab))))].length≤maxLen) (Zls ae kk_L1 (aa++[u32.wrap (u64.wrap (ad - (u64.wrap (ac+ab))))]) af)
def Qt (N:Nat) (ab:List Int) (ac:List Int):Nat→R2→Int→Int→Option Rd
  | 0,_,_,_=>none
  | ah+1,ad,ae,aa=>if (decide (aa<(ab.length:Int)))=true then ((Qu ab aa).bind fun af=>(Qu ac aa).bind fun ag=>if (decide (af<(u64.wrap (ag+ae))))=true then (Zha ad ae aa (Qt N ab ac ah) ag 1 (u64.wrap (af+4294967296))) else (Zha ad ae aa (Qt N ab ac ah) ag 0 af)) else ((U5 N ad).bind fun ai=>some (ai,true))
termination_by structural x=>x
def Zg9 (N:Nat) (aa:List Int) (ab:List Int):Option Rd:=
  (Zem N aa ab).bind fun ac=>if (decide (ac<0))=true then (some (([]:List Int),false)) else (Qt N aa ab N ([]:List Int) 0 0)
theorem Zrk {N au av:Nat} {a0 a1:Option Addr} {col:Ze} {w0:World} {ae af:R2} {r:Rd} (c1:Nat) (hm:Zg9 N ae af=some r) (h0:Sl (Za.int .u32) col w0 a0 au ae) (h1:Sl (Za.int .u32) col w0 a1 av af):
    Calls prog 181 #[.slice a0 ae.length au,.slice a1 af.length av] w0 (fun e w'=>∃ (col':Ze) (ra1:Option Addr) (rc2:Nat),e= .returned (.tuple #[.slice ra1 r.1.length rc2,.bool r.2])∧Zf col w0 col' w'∧Zc (Za.int .u32) 95 c1 col' w' ra1 rc2 r.1):=by
 refine Zdu 4 5 (m:=43) (args:=[.slice a0 ae.length au,.slice a1 af.length av]) func181 rfl rfl rfl rfl rfl ?_;rw [Zg9.eq_1] at hm;have aa:=St.start col w0;refine go ?_;obtain ⟨bn,ba,hm⟩:=bZ hm;replace h0:=h0.keep (Zl.start col w0);replace h1:=h1.keep (Zl.start col w0);refine Zh (Zny ba (h0.ks aa) (h1.ks aa)) ?_;rintro _ bb ⟨rfl,aw⟩;refine ⟨_,rfl,?_⟩;replace aw:Zf (Zk col) w0 (Zk col) bb:=.of_below aw;refine go ?_;replace aa:=aa.grow aw;refine Zq hm (fun hb hm=>go ?_) fun hb hm=>go ?_
 ·cases hm;exact ⟨rfl,_,none,0,rfl,aa.fin (cm []),Zc.nil⟩
 refine Z9 [0,1,1000000] (fun n f ah=>∃ ab ak al ag ai aj ad,ad=n∧Qt N ae af ad ag ai aj=some r∧St w0 (Zk col) ab ah∧Zc (Za.int .u32) 95 1 ab ah ak al ag∧[6,7,8].map f=[.slice ak ag.length al,.int .u64 ai,.int .i64 aj]) N ⟨_,none,0,_,0,0,_,rfl,hm,aa,Zc.nil,rfl⟩ ?_;clear hm;intro n f ah hI;obtain ⟨ab,ak,al,ag,ai,aj,ad,hn,hm,aa,ac,hs⟩:=hI;subst hn;refine .lL [6,7,8] hs ?_
 cases ad with
 | zero=>rw [Qt.eq_1] at hm;cases hm
 | succ ad=>
  rw [Qt.eq_2] at hm;refine go ?_;refine Zq hm (fun hb hm=>?_) fun hb hm=>go ?_
  ·refine X3<|Zv ?_;refine Wp.cutK [0,1,8,1000000] (fun f ax=>∃ ay az a2 am a3,Zls aj (Qt N ae af ad) am a3=some r∧St w0 (Zk col) ay ax∧Zc (Za.int .u32) 95 1 ay ax az a2 am∧[6,7].map f=[.slice az am.length a2,.int .u64 a3]) ?_ ?_
   ·intro f ax hJ;obtain ⟨ay,az,a2,am,a3,hm,aa,bc,hs⟩:=hJ;rw [Zls.eq_1] at hm;refine .lL [6,7] hs<|go ?_;exact ⟨ad,by omega,rfl,⟨_,_,_,_,_,_,_,rfl,hm,aa,bc,rfl⟩⟩
   refine go ?_;obtain ⟨bo,bd,hm⟩:=bZ hm;refine Zh (Zds bd (h0.ks aa)) ?_;rintro _ a7 ⟨rfl,an⟩;refine ⟨_,rfl,?_⟩;replace an:Zf ab ah ab a7:=.of_below an;refine go ?_;obtain ⟨a8,be,hm⟩:=bZ hm;replace aa:=aa.grow an;refine Zh (Zds be (h1.ks aa)) ?_;rintro _ bf ⟨rfl,ao⟩;refine ⟨_,rfl,?_⟩;replace ao:Zf ab a7 ab bf:=.of_below ao;refine Yf rfl<|lV _ (Qc _ _ rfl rfl)<|Yx rfl<|Zm<|Zv<|Wq<|Yx rfl<|Zm<|Zv ?_;replace ac:=(ac.gr an).gr ao;replace aa:=aa.grow ao;refine Wp.cutK [0,1,10,6,8,1000000] (fun f a4=>∃ ap a5 aq,Zha ag ai aj (Qt N ae af ad) a8 a5 aq=some r∧St w0 (Zk col) ap a4∧Zc (Za.int .u32) 95 1 ap a4 ak al ag∧[7,9].map f=[.int .u64 a5,.int .u64 aq]) ?_ ?_
   ·intro f a4 hJ;obtain ⟨ap,a5,aq,hm,aa,ac,hs⟩:=hJ;rw [Zha.eq_1] at hm;refine .lL [7,9] hs<|go ?_;refine W8 (col:=ap) [u32.wrap (u64.wrap (aq - (u64.wrap (a8+ai))))] 2 ?_;intro bp bq br a9 bg;obtain ⟨bh,hm⟩:=Z6 hm;replace ac:=ac.gr a9;refine U3 ac (bg.srcN (NB.int (k:=.u32))) bh ?_;intro bs bt bu bv bi bj;refine go ?_;replace aa:=(aa.grow a9).kpp bi;exact ⟨rfl,_,_,_,_,_,hm,aa,bj,rfl⟩
   refine go ?_;refine Zq hm (fun hb hm=>go ?_) fun hb hm=>?_
   ·exact ⟨rfl,_,1,_,hm,aa,ac,rfl⟩
   refine X3 ?_;exact ⟨rfl,_,0,_,hm,aa,ac,rfl⟩
  obtain ⟨bw,bk,hm⟩:=bZ hm;refine Zh (Sw 3 bk (ac.toSlF (Zg.int .u32))) ?_;rintro _ bx ⟨bm,bz,b0,rfl,ar,a6⟩;refine ⟨_,rfl,?_⟩;replace a6:=a6.thaw (Zy .u32) ar ((Fz.refl (col:=ab)).froz 1) (by decide);replace ar:=ar.thawR (col:=ab);generalize Z7 ah.heap.size ab bm=b1 at *;refine go ?_;cases hm;replace aa:=aa.grow ar;exact ⟨rfl,_,_,_,rfl,aa.fin (cm [(3,c1)]),aa.fo a6⟩
def Zg4 (aa:Int) (kk_L1:(List Int→Int→R2→Option R8)) (ab:List Int) (ac:List Int):Option R8:=
  kk_L1 ab (i64.wrap (aa - 1)) ac
def Zbr (N:Nat) (ad:List Int) (ab:List Int):Nat→R2→Int→R2→Option R8
  | 0,_,_,_=>none
  | af+1,ag,aa,ac=>if (decide (0≤aa))=true then ((Zjb ad aa).bind fun ah=>(Zhb N ag ah).bind fun ai=>(U5 N ai).bind fun ae=>(Zem N ae ab).bind fun aj=>if (decide (0≤aj))=true then ((Zg9 N ae ab).bind fun ak=>(Zp ac (i64.wrap (Int.tdiv aa 32))).bind fun al=>Z3 (0≤(Int.tmod aa 32)) ((some (ac.set (Int.toNat (i64.wrap (Int.tdiv aa 32))) (u32.wrap (al+(Xu .u32 1 (Int.tmod aa 32)))))).bind fun am=>Zg4 aa (Zbr N ad ab af) ak.1 am)) else (Zg4 aa (Zbr N ad ab af) ae ac)) else ((U5 N ac).bind fun an=>some (an,ag,0))
termination_by structural x=>x
def Zg3 (N:Nat) (ab:List Int) (ad:List Int):Option R8:=
  (U5 N ad).bind fun ac=>if (decide ((ac.length:Int)=0))=true then (some (([]:List Int),([]:List Int),11)) else ((Zjc N ab).bind fun aa=>Z3 ((Int.toNat (i64.wrap (Int.tdiv (i64.wrap (aa+31)) 32))) * 4≤281474976710656∧(Int.toNat (i64.wrap (Int.tdiv (i64.wrap (aa+31)) 32)))≤maxLen∧0≤(i64.wrap (Int.tdiv (i64.wrap (aa+31)) 32))) (Zbr N ab ac N ([]:List Int) (i64.wrap (aa - 1)) (List.replicate (Int.toNat (i64.wrap (Int.tdiv (i64.wrap (aa+31)) 32))) (0:Int))))
theorem Zri {N bd be:Nat} {a0 a1:Option Addr} {col:Ze} {w0:World} {ak a4:R2} {r:R8} (c1 c2:Nat) (hm:Zg3 N ak a4=some r) (h0:Sl (Za.int .u32) col w0 a0 bd ak) (h1:Sl (Za.int .u32) col w0 a1 be a4):
    Calls prog 178 #[.slice a0 ak.length bd,.slice a1 a4.length be] w0 (fun e w'=>∃ (col':Ze) (ra1:Option Addr) (rc2:Nat) (ra4:Option Addr) (rc5:Nat),e= .returned (.tuple #[.slice ra1 r.1.length rc2,.slice ra4 r.2.1.length rc5,.int .i64 r.2.2])∧Zf col w0 col' w'∧Zc (Za.int .u32) 95 c1 col' w' ra1 rc2 r.1∧Zc (Za.int .u32) 95 c2 col' w' ra4 rc5 r.2.1):=by
 refine Zn4 4 5 6 (m:=61) (args:=[.slice a0 ak.length bd,.slice a1 a4.length be]) func178 rfl rfl rfl rfl rfl ?_;rw [Zg3.eq_1] at hm;have aa:=St.start col w0;refine go ?_;obtain ⟨a5,b3,hm⟩:=bZ hm;replace h1:=h1.keep (Zl.start col w0);refine Zh (Sw 1 b3 (h1.ks aa)) ?_;rintro _ b4 ⟨bf,bt,bu,rfl,b5,ab⟩;refine ⟨_,rfl,go ?_⟩;replace h0:=h0.keep (Zl.start col w0);replace aa:=aa.grow b5;refine Zq hm (fun hb hm=>go ?_) fun hb hm=>go ?_
 ·cases hm;exact ⟨rfl,_,none,0,none,0,rfl,aa.fin (cm []),Zc.nil,Zc.nil⟩
 obtain ⟨bg,b6,hm⟩:=bZ hm;refine Zh (Zzy b6 (h0.ks aa)) ?_;rintro _ bv ⟨rfl,a6⟩;refine ⟨_,rfl,?_⟩;replace a6:Zf bf b4 bf bv:=.of_below a6;refine go ?_;refine lV (.int .i64 (i64.wrap (Int.tdiv (i64.wrap (bg+31)) 32))) (Vf (i64.wrap (bg+31)) 32 rfl rfl (by decide)) ?_;obtain ⟨a7,hm⟩:=Z6 hm;refine T9 (col:=bf) (w:=bv) (r:=(Za.int .u32)) (n:=(Int.toNat (i64.wrap (Int.tdiv (i64.wrap (bg+31)) 32)))) (x0:=0) 2 rfl underlying35 Tryz.t95 rfl rfl rfl rfl rfl (congrArg (Value.int _) (Int.toNat_of_nonneg a7.2.2).symm) (congrArg (Value.int _) (Int.toNat_of_nonneg a7.2.2).symm) a7.1 a7.2.1 (Qe .u32 0) ?_;intro cp cq cr bw b7;refine go ?_;replace ab:=(ab.gr a6).gr bw;replace aa:=(aa.grow a6).grow bw;refine Z9 [0,7,1000000] (fun n f ai=>∃ ae bh bi a8 ac av aw al aj,aj=n∧Zbr N ak a5 aj a8 ac al=some r∧St w0 (Zk col) ae ai∧Zc (Za.int .u32) 95 3 ae ai bh bi a8∧Zc (Za.int .u32) 95 1 ae ai bt bu a5∧Zc (Za.int .u32) 95 2 ae ai av aw al∧[10,11,9].map f=[.slice bh a8.length bi,.int .i64 ac,.slice av al.length aw]) N ⟨_,none,0,_,_,_,_,_,_,rfl,hm,aa,Zc.nil,ab,b7,rfl⟩ ?_;clear hm;intro n f ai hI;obtain ⟨ae,bh,bi,a8,ac,av,aw,al,aj,hn,hm,aa,am,ab,ad,hs⟩:=hI;subst hn;refine .lL [10,11,9] hs ?_
 cases aj with
 | zero=>rw [Zbr.eq_1] at hm;cases hm
 | succ aj=>
  rw [Zbr.eq_2] at hm;refine go ?_;refine Zq hm (fun hb hm=>?_) fun hb hm=>go ?_
  ·refine X3<|Zv ?_;refine Wp.cutK [0,11,7,1000000] (fun f ax=>∃ ay bj bk a9 bm bn ba,Zg4 ac (Zbr N ak a5 aj) a9 ba=some r∧St w0 (Zk col) ay ax∧Zc (Za.int .u32) 95 3 ay ax bj bk a9∧Zc (Za.int .u32) 95 1 ay ax bt bu a5∧Zc (Za.int .u32) 95 2 ay ax bm bn ba∧[10,9].map f=[.slice bj a9.length bk,.slice bm ba.length bn]) ?_ ?_
   ·intro f ax hJ;obtain ⟨ay,bj,bk,a9,bm,bn,ba,hm,aa,b8,ab,b9,hs⟩:=hJ;rw [Zg4.eq_1] at hm;refine .lL [10,9] hs<|go ?_;exact ⟨aj,by omega,rfl,⟨_,_,_,_,_,_,_,_,_,rfl,hm,aa,b8,ab,b9,rfl⟩⟩
   refine go ?_;obtain ⟨cs,ca,hm⟩:=bZ hm;refine Zh (Zzx ca (h0.ks aa)) ?_;rintro _ bx ⟨rfl,an⟩;refine ⟨_,rfl,?_⟩;replace an:Zf ae ai ae bx:=.of_below an;obtain ⟨ct,cb,hm⟩:=bZ hm;replace am:=am.gr an;refine Zh (Zrl 4 cb (am.toSlF (Zg.int .u32))) ?_;rintro _ cc ⟨cd,cu,cv,rfl,ao,bo⟩;refine ⟨_,rfl,?_⟩;replace bo:=bo.thaw (Zy .u32) ao ((Fz.refl (col:=ae)).froz 3) (by decide);replace ao:=ao.thawR (col:=ae);generalize Z7 bx.heap.size ae cd=bp at *;obtain ⟨cw,ce,hm⟩:=bZ hm;refine Zh (Sw 5 ce (bo.toSlF (Zg.int .u32))) ?_;rintro _ cf ⟨cg,cx,cy,rfl,ap,af⟩;refine ⟨_,rfl,?_⟩;replace af:=af.thaw (Zy .u32) ap ((Fz.refl (col:=bp)).froz 4) (by decide);replace ap:=ap.thawR (col:=bp);generalize Z7 cc.heap.size bp cg=az at *;refine go ?_;obtain ⟨cz,ch,hm⟩:=bZ hm;replace ab:=((ab.gr an).gr ao).gr ap;refine Zh (Zny ch ((af.toSlF (Zg.int .u32)).froz 1) ((ab.froz 5 (by decide)).toSlF (Zg.int .u32))) ?_;rintro _ bz ⟨rfl,aq⟩;refine ⟨_,rfl,?_⟩;replace aq:Zf az cf az bz:=.of_below aq;refine go ?_;replace ad:=(((ad.gr an).gr ao).gr ap).gr aq;replace aa:=(((aa.grow an).grow ao).grow ap).grow aq;replace ab:=ab.gr aq;replace af:=af.gr aq;refine Zq hm (fun hb hm=>go ?_) fun hb hm=>?_
   ·obtain ⟨bb,ci,hm⟩:=bZ hm;refine Zh (Zrk 6 ci ((af.toSlF (Zg.int .u32)).froz 1) ((ab.froz 5 (by decide)).toSlF (Zg.int .u32))) ?_;rintro _ c0 ⟨cj,b0,b1,rfl,ar,ag⟩;refine ⟨_,rfl,?_⟩;replace ag:=ag.thaw (Zy .u32) ar (((Fz.refl (col:=az)).froz 5).froz 1) (by decide);replace ar:=ar.thawR (col:=az);generalize Z7 bz.heap.size az cj=a2 at *;refine lM (.tuple #[.slice b0 bb.1.length b1,.bool bb.2])<|lV (.slice b0 bb.1.length b1) (Xf rfl rfl)<|lV (.bool bb.2) (Xf rfl rfl)<|go ?_;refine Wi (col:=a2) [(0,1),(1,1),(2,1),(3,1),(4,1),(5,1),(6,1),(7,0),(8,1),(9,1),(10,1),(11,1),(12,1),(13,2)] (by kernel_rfl) (by kernel_rfl)<|xu rfl rfl (fun _=>Vu rfl) ?_;refine xu rfl rfl (fun _=>W1 rfl) ?_;refine xu (v:=(.int .i64 (i64.wrap (Int.tdiv ac 32)))) rfl rfl (fun _=>Vf ac 32 rfl rfl (by decide)) ?_;refine xu rfl rfl (fun _=>Vu rfl) ?_;refine xu rfl rfl (fun _=>W1 rfl) ?_;refine xu (v:=(.int .i64 (i64.wrap (Int.tdiv ac 32)))) rfl rfl (fun _=>Vf ac 32 rfl rfl (by decide)) ?_;obtain ⟨b2,ah,hm⟩:=bZ hm;replace ad:=ad.gr ar;refine xu rfl rfl (fun _=>We underlying35 sizeOf95 rfl rfl (Xl ah).1 (Xl ah).2.1 (ad.addr ah)) ?_;refine xW (fun _ hC=>(ad.gr (hC.bl a2)).atInt ah) ?_;refine xu rfl rfl (fun _=>W1 rfl) ?_;refine xu (v:=(.int .i64 (Int.tmod ac 32))) rfl rfl (fun _=>Ti ac 32 rfl rfl (by decide)) ?_;obtain ⟨ck,hm⟩:=Z6 hm;refine xu (v:=(.int .u32 (Xu .u32 1 (Int.tmod ac 32)))) rfl rfl (fun _=>Zdj 1 (Int.tmod ac 32) rfl rfl ck) ?_;refine xu rfl rfl (fun _=>Qc _ _ rfl rfl) ?_;refine xu rfl rfl (fun _=>We underlying35 sizeOf95 rfl rfl (Xl ah).1 (Xl ah).2.1 (ad.addr ah)) ?_;refine xe rfl rfl ?_;intro c3 hC0;have hC:=hC0.bl a2;obtain ⟨bq,bc,hm⟩:=bZ hm;have bc:bq=al.set (Int.toNat (i64.wrap (Int.tdiv ac 32))) (u32.wrap (b2+(Xu .u32 1 (Int.tmod ac 32)))):=(Option.some.inj bc).symm;replace ad:=ad.gr hC;refine Y7 (x1:=u32.wrap (b2+(Xu .u32 1 (Int.tmod ac 32)))) ad ah ?_;intro c4 br cl au;rw [← bc] at au;refine .ld (d:=9) (v:=(.slice av bq.length aw)) (congrArg (fun n=>Value.slice av n aw) (show al.length=bq.length by rw [bc,nS])) ?_;refine Zm<|xk a2<|Wf ?_;replace ab:=((ab.gr ar).gr hC).kp br;replace aa:=((aa.grow ar).grow hC).kp br cl;replace ag:=(ag.gr hC).kp br;intro c5 hC;replace hC:=hC.bl a2;replace ab:=ab.gr hC;replace ab:=ab.recol 6 3 (by decide);replace au:=au.gr hC
    replace au:=au.recol 6 3 (by decide);replace ag:=ag.gr hC;replace ag:=ag.recolSelf 3 (by decide);replace aa:=aa.grow hC;replace aa:=aa.recol 6 3 (by decide) (by decide);exact ⟨rfl,_,_,_,_,_,_,_,hm,aa,ag,ab,au,rfl⟩
   refine X3 ?_;replace ab:=ab.recol 5 3 (by decide);replace ad:=ad.recol 5 3 (by decide);replace af:=af.recolSelf 3 (by decide);replace aa:=aa.recol 5 3 (by decide) (by decide);exact ⟨rfl,_,_,_,_,_,_,_,hm,aa,af,ab,ad,rfl⟩
  obtain ⟨c6,cn,hm⟩:=bZ hm;refine Zh (Sw 7 cn (ad.toSlF (Zg.int .u32))) ?_;rintro _ c7 ⟨co,c8,c9,rfl,a3,bs⟩;refine ⟨_,rfl,?_⟩;replace bs:=bs.thaw (Zy .u32) a3 ((Fz.refl (col:=ae)).froz 2) (by decide);replace a3:=a3.thawR (col:=ae);generalize Z7 ai.heap.size ae co=da at *;refine go ?_;cases hm;replace am:=am.gr a3;replace aa:=aa.grow a3;exact ⟨rfl,_,_,_,_,_,rfl,aa.fin (cm [(7,c1),(3,c2)]),aa.fo bs,aa.fo am⟩
def Zjf (aa:Bool):Option Bool:=
  some aa
def Zc5 (aa:List Int):Option Bool:=
  if (decide ((aa.length:Int)=0))=true then (Zjf true) else ((Zp aa 0).bind fun ab=>Zjf (decide ((Int.tmod ab 2)=0)))
theorem Zkx {ag:Nat} {a0:Option Addr} {col:Ze} {w0:World} {ab:R2} {r:Bool} (hm:Zc5 ab=some r) (h0:Sl (Za.int .u32) col w0 a0 ag ab):
    Calls prog 207 #[.slice a0 ab.length ag] w0 (fun e w'=>e= .returned ((.bool r))∧Below w0.heap.size w0 w'):=by
 refine Xm 2 (m:=13) func207 rfl rfl rfl rfl rfl ?_;rw [Zc5.eq_1] at hm;have aa:=St.start col w0;refine Zv<|Wq<|Zk7 rfl<|Zm<|Zv ?_;replace h0:=h0.keep (Zl.start col w0);refine Wp.cutK [1000000] (fun f ah=>∃ ai ac,Zjf ac=some r∧St w0 (Zk col) ai ah∧[2].map f=[.bool ac]) ?_ ?_
 ·intro f ah hJ;obtain ⟨ai,ac,hm,aa,hs⟩:=hJ;rw [Zjf.eq_1] at hm;refine .lL [2] hs<|W4 ?_;cases hm;exact ⟨rfl,rfl,aa.below⟩
 refine go ?_;refine X8 hm (fun ad hm=>go ?_) fun ad hm=>go ?_
 ·refine lV (.bool true) (Xr (congrArg Value.bool ad) rfl)<|go ?_;exact ⟨rfl,_,_,hm,aa,rfl⟩
 obtain ⟨ae,af,hm⟩:=bZ hm;refine lI af ((h0.ks aa).addr af) ?_;refine go ?_;refine lW ((h0.ks aa).atInt af)<|go ?_;refine lV (.int .u32 (Int.tmod ae 2)) (Ti ae 2 rfl rfl (by decide))<|go ?_;refine lV (.bool (decide ((Int.tmod ae 2)=0))) (Xh (congrArg Value.bool ad) rfl)<|go ?_;exact ⟨rfl,_,_,hm,aa,rfl⟩
def Zer (N:Nat) (ac:List Int):Nat→R2→Int→Int→Option R2
  | 0,_,_,_=>none
  | af+1,ab,ad,aa=>if (decide (0≤aa))=true then ((Zp ac aa).bind fun ae=>(Zp ab aa).bind fun ai=>(some (ab.set (Int.toNat aa) (u32.wrap (u64.wrap (Int.tdiv (u64.wrap ((u64.wrap (ad * 4294967296))+(u64.wrap ae))) 2))))).bind fun ag=>(Zer N ac af) ag (Int.tmod (u64.wrap ((u64.wrap (ad * 4294967296))+(u64.wrap ae))) 2) (i64.wrap (aa - 1))) else ((U5 N ab).bind fun ah=>some ah)
termination_by structural x=>x
def Zc6 (N:Nat) (aa:List Int):Option R2:=
  Z3 (aa.length * 4≤281474976710656∧aa.length≤maxLen) (Zer N aa N (List.replicate aa.length (0:Int)) 0 (i64.wrap ((aa.length:Int) - 1)))
theorem Zky {N au:Nat} {a0:Option Addr} {col:Ze} {w0:World} {ag r:R2} (c1:Nat) (hm:Zc6 N ag=some r) (h0:Sl (Za.int .u32) col w0 a0 au ag):
    Calls prog 208 #[.slice a0 ag.length au] w0 (fun e w'=>∃ (col':Ze) (ra1:Option Addr) (rc2:Nat),e= .returned ((.slice ra1 r.length rc2))∧Zf col w0 col' w'∧Zc (Za.int .u32) 95 c1 col' w' ra1 rc2 r):=by
 refine Xm 2 (m:=34) func208 rfl rfl rfl rfl rfl ?_;rw [Zc6.eq_1] at hm;have aa:=St.start col w0;refine go ?_;obtain ⟨av,hm⟩:=Z6 hm;refine T9 (col:=(Zk col)) (w:=w0) (r:=(Za.int .u32)) (n:=ag.length) (x0:=0) 1 rfl underlying35 Tryz.t95 rfl rfl rfl rfl rfl rfl rfl av.1 av.2 (Qe .u32 0) ?_;intro a4 a5 a6 ax ay;refine go ?_;replace aa:=aa.grow ax;refine Z9 [0,1000000] (fun n f aj=>∃ ac ah ai ad ab ak ae,ae=n∧Zer N ag ae ad ab ak=some r∧St w0 (Zk col) ac aj∧Zc (Za.int .u32) 95 1 ac aj ah ai ad∧[3,4,5].map f=[.slice ah ad.length ai,.int .u64 ab,.int .i64 ak]) N ⟨_,_,_,_,0,_,_,rfl,hm,aa,ay,rfl⟩ ?_;clear hm;intro n f aj hI;obtain ⟨ac,ah,ai,ad,ab,ak,ae,hn,hm,aa,an,hs⟩:=hI;subst hn;refine .lL [3,4,5] hs ?_;replace h0:=h0.keep (Zl.start col w0)
 cases ae with
 | zero=>rw [Zer.eq_1] at hm;cases hm
 | succ ae=>
  rw [Zer.eq_2] at hm;refine go ?_;refine Zq hm (fun hb hm=>go ?_) fun hb hm=>go ?_
  ·obtain ⟨af,ao,hm⟩:=bZ hm;refine lI ao ((h0.ks aa).addr ao)<|lW ((h0.ks aa).atInt ao) ?_;refine go ?_;refine lV (.int .u64 (u64.wrap (Int.tdiv (u64.wrap ((u64.wrap (ab * 4294967296))+(u64.wrap af))) 2))) (Vf (u64.wrap ((u64.wrap (ab * 4294967296))+(u64.wrap af))) 2 rfl rfl (by decide))<|go ?_;obtain ⟨a7,ap,hm⟩:=bZ hm;refine lI ap (an.addr ap) ?_;obtain ⟨aq,al,hm⟩:=bZ hm;have al:aq=ad.set (Int.toNat ak) (u32.wrap (u64.wrap (Int.tdiv (u64.wrap ((u64.wrap (ab * 4294967296))+(u64.wrap af))) 2))):=(Option.some.inj al).symm;refine Y7 (x1:=u32.wrap (u64.wrap (Int.tdiv (u64.wrap ((u64.wrap (ab * 4294967296))+(u64.wrap af))) 2))) an ap ?_;intro a8 az a1 aw;rw [← al] at aw;refine .ld (d:=3) (v:=(.slice ah aq.length ai)) (congrArg (fun n=>Value.slice ah n ai) (show ad.length=aq.length by rw [al,nS])) ?_;refine go ?_;refine lV (.int .u64 (Int.tmod (u64.wrap ((u64.wrap (ab * 4294967296))+(u64.wrap af))) 2)) (Ti (u64.wrap ((u64.wrap (ab * 4294967296))+(u64.wrap af))) 2 rfl rfl (by decide))<|go ?_;replace aa:=aa.kp az a1;exact ⟨ae,by omega,rfl,⟨_,_,_,_,_,_,_,rfl,hm,aa,aw,rfl⟩⟩
  obtain ⟨a9,a2,hm⟩:=bZ hm;refine Zh (Sw 2 a2 (an.toSlF (Zg.int .u32))) ?_;rintro _ ba ⟨a3,bb,bc,rfl,am,ar⟩;refine ⟨_,rfl,?_⟩;replace ar:=ar.thaw (Zy .u32) am ((Fz.refl (col:=ac)).froz 1) (by decide);replace am:=am.thawR (col:=ac);generalize Z7 aj.heap.size ac a3=bd at *;refine go ?_;cases hm;replace aa:=aa.grow am;exact ⟨rfl,_,_,_,rfl,aa.fin (cm [(2,c1)]),aa.fo ar⟩
def Zg6 (N:Nat) (kk_L2:(List Int→R2→Option R2)) (aa:List Int) (ab:List Int):Option R2:=
  (Zg9 N ab aa).bind fun ac=>kk_L2 aa ac.1
def Zje (N:Nat) (kk_L2:(List Int→R2→Option R2)) (ab:List Int) (aa:List Int) (kk_L4:(List Int→Option R2)) (ac:Bool):Option R2:=
  if ac=true then ((Zc6 N aa).bind fun ad=>kk_L4 ad) else ((Zem N ab aa).bind fun ae=>if (decide (0<ae))=true then (Zg6 N kk_L2 aa ab) else (Zg6 N kk_L2 ab aa))
def Zas (N:Nat) (kk_L2:(List Int→R2→Option R2)) (aa:List Int):Nat→R2→Option R2
  | 0,_=>none
  | ac+1,ab=>if (decide (0<(ab.length:Int)))=true then ((Zc5 ab).bind fun ad=>Zje N kk_L2 aa ab (Zas N kk_L2 aa ac) ad) else (Zje N kk_L2 aa ab (Zas N kk_L2 aa ac) false)
termination_by structural x=>x
def Zeo (N:Nat) (ab:List Int) (kk_L2:(List Int→R2→Option R2)):Nat→R2→Option R2
  | 0,_=>none
  | ac+1,aa=>(Zc5 aa).bind fun ad=>if ad=true then ((Zc6 N aa).bind fun ae=>(Zeo N ab kk_L2 ac) ae) else (Zas N kk_L2 aa N ab)
termination_by structural x=>x
def Zep (N:Nat) (aa:Int):Nat→R2→Int→Option R2
  | 0,_,_=>none
  | ad+1,ab,ac=>if (decide (ac<aa))=true then ((Zhb N ab 0).bind fun ae=>(Zep N aa ad) ae (i64.wrap (ac+1))) else (some ab)
termination_by structural x=>x
def Ul (N:Nat) (aa:Int):Nat→R2→R2→Option R2
  | 0,_,_=>none
  | ad+1,ab,ac=>if (decide (0<(ac.length:Int)))=true then (Zeo N ac (Ul N aa ad) N ab) else (Zep N aa N ab 0)
termination_by structural x=>x
def Zg5 (N:Nat) (aa:List Int) (ab:List Int) (ac:Int) (kk_L1:(List Int→R2→Int→Option R2)) (ad:Bool):Option R2:=
  if ad=true then ((Zc6 N aa).bind fun ae=>(Zc6 N ab).bind fun af=>kk_L1 ae af (i64.wrap (ac+1))) else (Ul N ac N aa ab)
def Zbs (N:Nat):Nat→R2→R2→Int→Option R2
  | 0,_,_,_=>none
  | ac+1,aa,ab,ad=>(Zc5 aa).bind fun ae=>if ae=true then ((Zc5 ab).bind fun af=>Zg5 N aa ab ad (Zbs N ac) af) else (Zg5 N aa ab ad (Zbs N ac) false)
termination_by structural x=>x
def Zjd (N:Nat) (ac:List Int) (ad:List Int):Option R2:=
  (U5 N ac).bind fun aa=>(U5 N ad).bind fun ab=>if (decide ((aa.length:Int)=0))=true then (some ab) else (if (decide ((ab.length:Int)=0))=true then (some aa) else (Zbs N N aa ab 0))
theorem Zzz {N cs ct:Nat} {a0 a1:Option Addr} {col:Ze} {w0:World} {cb cc r:R2} (c1:Nat) (hm:Zjd N cb cc=some r) (h0:Sl (Za.int .u32) col w0 a0 cs cb) (h1:Sl (Za.int .u32) col w0 a1 ct cc):
    Calls prog 177 #[.slice a0 cb.length cs,.slice a1 cc.length ct] w0 (fun e w'=>∃ (col':Ze) (ra1:Option Addr) (rc2:Nat),e= .returned ((.slice ra1 r.length rc2))∧Zf col w0 col' w'∧Zc (Za.int .u32) 95 c1 col' w' ra1 rc2 r):=by
 refine Xm 4 (m:=69) func177 rfl rfl rfl rfl rfl ?_;rw [Zjd.eq_1] at hm;have aa:=St.start col w0;refine go ?_;obtain ⟨dw,c3,hm⟩:=bZ hm;replace h0:=h0.keep (Zl.start col w0);refine Zh (Sw 1 c3 (h0.ks aa)) ?_;rintro _ dx ⟨dy,dz,d0,rfl,c4,bs⟩;refine ⟨_,rfl,go ?_⟩;obtain ⟨d1,c5,hm⟩:=bZ hm;replace h1:=h1.keep (Zl.start col w0);replace aa:=aa.grow c4;refine Zh (Sw 2 c5 (h1.ks aa)) ?_;rintro _ d2 ⟨d3,d4,d5,rfl,cu,cv⟩;refine ⟨_,rfl,go ?_⟩;replace bs:=bs.gr cu;replace aa:=aa.grow cu;refine Zq hm (fun hb hm=>go ?_) fun hb hm=>go ?_
 ·cases hm;exact ⟨rfl,_,_,_,rfl,aa.fin (cm [(2,c1)]),aa.fo cv⟩
 refine Zq hm (fun hb hm=>go ?_) fun hb hm=>go ?_
 ·cases hm;exact ⟨rfl,_,_,_,rfl,aa.fin (cm [(1,c1)]),aa.fo bs⟩
 refine Z9 [1000000] (fun n f a6=>∃ am bt bu au bv bw av ae an,an=n∧Zbs N an au av ae=some r∧St w0 (Zk col) am a6∧Zc (Za.int .u32) 95 1 am a6 bt bu au∧Zc (Za.int .u32) 95 2 am a6 bv bw av∧[5,6,7].map f=[.slice bt au.length bu,.slice bv av.length bw,.int .i64 ae]) N ⟨_,_,_,_,_,_,_,0,_,rfl,hm,aa,bs,cv,rfl⟩ ?_;clear hm;intro n f a6 hI;obtain ⟨am,bt,bu,au,bv,bw,av,ae,an,hn,hm,aa,ag,ad,hs⟩:=hI;subst hn;refine .lL [5,6,7] hs ?_
 cases an with
 | zero=>rw [Zbs.eq_1] at hm;cases hm
 | succ an=>
  rw [Zbs.eq_2] at hm;refine Zv<|Zv ?_;refine Wp.cutK [5,6,7,1000000] (fun f a7=>∃ ao cd,Zg5 N au av ae (Zbs N an) cd=some r∧St w0 (Zk col) ao a7∧Zc (Za.int .u32) 95 1 ao a7 bt bu au∧Zc (Za.int .u32) 95 2 ao a7 bv bw av∧[26].map f=[.bool cd]) ?_ ?_
  ·intro f a7 hJ;obtain ⟨ao,cd,hm,aa,ag,ad,hs⟩:=hJ;rw [Zg5.eq_1] at hm;refine .lL [26] hs ?_;refine Zq hm (fun hb hm=>go ?_) fun hb hm=>go ?_
   ·obtain ⟨d6,c6,hm⟩:=bZ hm;refine Zh (Zky 3 c6 (ag.toSlF (Zg.int .u32))) ?_;rintro _ c7 ⟨c8,d7,d8,rfl,a8,ai⟩;refine ⟨_,rfl,?_⟩;replace ai:=ai.thaw (Zy .u32) a8 ((Fz.refl (col:=ao)).froz 1) (by decide);replace a8:=a8.thawR (col:=ao);generalize Z7 a7.heap.size ao c8=ce at *;refine go ?_;obtain ⟨d9,c9,hm⟩:=bZ hm;replace ad:=ad.gr a8;refine Zh (Zky 4 c9 (ad.toSlF (Zg.int .u32))) ?_;rintro _ ea ⟨da,eb,ec,rfl,a9,ap⟩;refine ⟨_,rfl,?_⟩;replace ap:=ap.thaw (Zy .u32) a9 ((Fz.refl (col:=ce)).froz 2) (by decide);replace a9:=a9.thawR (col:=ce);generalize Z7 c7.heap.size ce da=ed at *;refine go ?_;replace ai:=ai.gr a9;replace ai:=ai.recolSelf 1 (by decide);replace ap:=ap.recol 3 1 (by decide);replace aa:=(aa.grow a8).grow a9;replace aa:=aa.recol 3 1 (by decide) (by decide);replace ai:=ai.recol 4 2 (by decide);replace ap:=ap.recolSelf 2 (by decide);replace aa:=aa.recol 4 2 (by decide) (by decide);exact ⟨an,by omega,rfl,⟨_,_,_,_,_,_,_,_,_,rfl,hm,aa,ai,ap,rfl⟩⟩
   refine Z9 [7,1000000] (fun n f bx=>∃ bz cf cg b0 b1 b2 aw af,af=n∧Ul N ae af b0 aw=some r∧St w0 (Zk col) bz bx∧Zc (Za.int .u32) 95 1 bz bx cf cg b0∧Zc (Za.int .u32) 95 2 bz bx b1 b2 aw∧[5,6].map f=[.slice cf b0.length cg,.slice b1 aw.length b2]) N ⟨_,_,_,_,_,_,_,_,rfl,hm,aa,ag,ad,rfl⟩ ?_;clear hm;intro n f bx hI;obtain ⟨bz,cf,cg,b0,b1,b2,aw,af,hn,hm,aa,cw,ah,hs⟩:=hI;subst hn;refine .lL [5,6] hs ?_
   cases af with
   | zero=>rw [Ul.eq_1] at hm;cases hm
   | succ af=>
    rw [Ul.eq_2] at hm;refine go ?_;refine Zq hm (fun hb hm=>go ?_) fun hb hm=>go ?_
    ·refine Z9 [6,7,1000000] (fun n f ba=>∃ aj bb bc ak ax,ax=n∧Zeo N aw (Ul N ae af) ax ak=some r∧St w0 (Zk col) aj ba∧Zc (Za.int .u32) 95 1 aj ba bb bc ak∧Zc (Za.int .u32) 95 2 aj ba b1 b2 aw∧[5].map f=[.slice bb ak.length bc]) N ⟨_,_,_,_,_,rfl,hm,aa,cw,ah,rfl⟩ ?_;clear hm;intro n f ba hI;obtain ⟨aj,bb,bc,ak,ax,hn,hm,aa,ab,ah,hs⟩:=hI;subst hn;refine .lL [5] hs ?_
     cases ax with
     | zero=>rw [Zeo.eq_1] at hm;cases hm
     | succ ax=>
      rw [Zeo.eq_2] at hm;refine go ?_;obtain ⟨ee,db,hm⟩:=bZ hm;refine Zh (Zkx db (ab.toSlF (Zg.int .u32))) ?_;rintro _ cx ⟨rfl,bd⟩;refine ⟨_,rfl,?_⟩;replace bd:Zf aj ba aj cx:=.of_below bd;refine Zm ?_;replace ab:=ab.gr bd;replace ah:=ah.gr bd;replace aa:=aa.grow bd;refine Zq hm (fun hb hm=>go ?_) fun hb hm=>go ?_
      ·obtain ⟨ef,dc,hm⟩:=bZ hm;refine Zh (Zky 5 dc (ab.toSlF (Zg.int .u32))) ?_;rintro _ eg ⟨dd,eh,ei,rfl,be,bf⟩;refine ⟨_,rfl,?_⟩;replace bf:=bf.thaw (Zy .u32) be ((Fz.refl (col:=aj)).froz 1) (by decide);replace be:=be.thawR (col:=aj);generalize Z7 cx.heap.size aj dd=ej at *;refine go ?_;replace ah:=ah.gr be;replace ah:=ah.recol 5 1 (by decide);replace bf:=bf.recolSelf 1 (by decide);replace aa:=aa.grow be;replace aa:=aa.recol 5 1 (by decide) (by decide);exact ⟨ax,by omega,rfl,⟨_,_,_,_,_,rfl,hm,aa,bf,ah,rfl⟩⟩
      refine Z9 [5,7,1000000] (fun n f bg=>∃ ay b3 b4 az aq,aq=n∧Zas N (Ul N ae af) ak aq az=some r∧St w0 (Zk col) ay bg∧Zc (Za.int .u32) 95 1 ay bg bb bc ak∧Zc (Za.int .u32) 95 2 ay bg b3 b4 az∧[6].map f=[.slice b3 az.length b4]) N ⟨_,_,_,_,_,rfl,hm,aa,ab,ah,rfl⟩ ?_;clear hm;intro n f bg hI;obtain ⟨ay,b3,b4,az,aq,hn,hm,aa,ab,ac,hs⟩:=hI;subst hn;refine .lL [6] hs ?_
      cases aq with
      | zero=>rw [Zas.eq_1] at hm;cases hm
      | succ aq=>
       rw [Zas.eq_2] at hm;refine Zv<|Zv ?_;refine Wp.cutK [5,6,7,1000000] (fun f a2=>∃ al ch,Zje N (Ul N ae af) ak az (Zas N (Ul N ae af) ak aq) ch=some r∧St w0 (Zk col) al a2∧Zc (Za.int .u32) 95 1 al a2 bb bc ak∧Zc (Za.int .u32) 95 2 al a2 b3 b4 az∧[46].map f=[.bool ch]) ?_ ?_
       ·intro f a2 hJ;obtain ⟨al,ch,hm,aa,ab,ac,hs⟩:=hJ;rw [Zje.eq_1] at hm;refine .lL [46] hs ?_;refine Zq hm (fun hb hm=>go ?_) fun hb hm=>?_
        ·obtain ⟨ek,de,hm⟩:=bZ hm;refine Zh (Zky 6 de (ac.toSlF (Zg.int .u32))) ?_;rintro _ el ⟨df,em,en,rfl,bh,bi⟩;refine ⟨_,rfl,?_⟩;replace bi:=bi.thaw (Zy .u32) bh ((Fz.refl (col:=al)).froz 2) (by decide);replace bh:=bh.thawR (col:=al);generalize Z7 a2.heap.size al df=eo at *;refine go ?_;replace ab:=ab.gr bh;replace ab:=ab.recol 6 2 (by decide);replace bi:=bi.recolSelf 2 (by decide);replace aa:=aa.grow bh;replace aa:=aa.recol 6 2 (by decide) (by decide);exact ⟨aq,by omega,rfl,⟨_,_,_,_,_,rfl,hm,aa,ab,bi,rfl⟩⟩
        refine Zkh (Zii ?_);refine Zv ?_;refine Wp.cutK [7,1000000] (fun f bj=>∃ ar ci cj b5 ck cl b6,Zg6 N (Ul N ae af) b5 b6=some r∧St w0 (Zk col) ar bj∧Zc (Za.int .u32) 95 1 ar bj ci cj b5∧Zc (Za.int .u32) 95 2 ar bj ck cl b6∧[5,6].map f=[.slice ci b5.length cj,.slice ck b6.length cl]) ?_ ?_
        ·intro f bj hJ;obtain ⟨ar,ci,cj,b5,ck,cl,b6,hm,aa,a3,dg,hs⟩:=hJ;rw [Zg6.eq_1] at hm;refine .lL [5,6] hs<|go ?_;obtain ⟨b7,dh,hm⟩:=bZ hm;refine Zh (Zrk 7 dh ((dg.toSlF (Zg.int .u32)).froz 1) ((a3.froz 2 (by decide)).toSlF (Zg.int .u32))) ?_;rintro _ ep ⟨di,cy,cz,rfl,bk,bm⟩;refine ⟨_,rfl,?_⟩;replace bm:=bm.thaw (Zy .u32) bk (((Fz.refl (col:=ar)).froz 2).froz 1) (by decide);replace bk:=bk.thawR (col:=ar);generalize Z7 bj.heap.size ar di=eq at *;refine lM (.tuple #[.slice cy b7.1.length cz,.bool b7.2])<|lV (.slice cy b7.1.length cz) (Xf rfl rfl)<|lV (.bool b7.2) (Xf rfl rfl)<|go ?_;replace a3:=a3.gr bk;replace a3:=a3.recol 7 2 (by decide);replace bm:=bm.recolSelf 2 (by decide);replace aa:=aa.grow bk;replace aa:=aa.recol 7 2 (by decide) (by decide);exact ⟨af,by omega,rfl,⟨_,_,_,_,_,_,_,_,rfl,hm,aa,a3,bm,rfl⟩⟩
        refine go ?_;obtain ⟨er,dj,hm⟩:=bZ hm;refine Zh (Zny dj ((ab.toSlF (Zg.int .u32)).froz 2) ((ac.froz 1 (by decide)).toSlF (Zg.int .u32))) ?_;rintro _ dl ⟨rfl,bn⟩;refine ⟨_,rfl,?_⟩;replace bn:Zf al a2 al dl:=.of_below bn;refine go ?_;replace ab:=ab.gr bn;replace ac:=ac.gr bn;replace aa:=aa.grow bn;refine Zq hm (fun hb hm=>go ?_) fun hb hm=>?_
        ·replace ac:=ac.recol 1 8 (by decide);replace ab:=ab.recolSelf 8 (by decide);replace aa:=aa.recol 1 8 (by decide) (by decide);replace ac:=ac.recolSelf 1 (by decide);replace ab:=ab.recol 2 1 (by decide);replace aa:=aa.recol 2 1 (by decide) (by decide);replace ac:=ac.recol 8 2 (by decide);replace ab:=ab.recolSelf 2 (by decide);replace aa:=aa.recol 8 2 (by decide) (by decide);exact ⟨rfl,_,_,_,_,_,_,_,hm,aa,ac,ab,rfl⟩
        refine X3 ?_;exact ⟨rfl,_,_,_,_,_,_,_,hm,aa,ab,ac,rfl⟩
       refine go ?_;refine X8 hm (fun cn hm=>go ?_) fun cn hm=>go ?_
       ·obtain ⟨dm,dn,hm⟩:=bZ hm;refine Zh (Zkx dn (ac.toSlF (Zg.int .u32))) ?_;rintro _ dp ⟨rfl,bo⟩;refine ⟨_,rfl,?_⟩;replace bo:Zf ay bg ay dp:=.of_below bo;refine lV (.bool dm) (Xr (congrArg Value.bool cn) rfl)<|Zm ?_;replace ab:=ab.gr bo;replace ac:=ac.gr bo;replace aa:=aa.grow bo;exact ⟨rfl,_,_,hm,aa,ab,ac,rfl⟩
       refine lV (.bool false) (Xh (congrArg Value.bool cn) rfl)<|Zm ?_;exact ⟨rfl,_,_,hm,aa,ab,ac,rfl⟩
    refine Z9 [7,1000000] (fun n f b8=>∃ a4 co cp b9 cq a5,a5=n∧Zep N ae a5 b9 cq=some r∧St w0 (Zk col) a4 b8∧Zc (Za.int .u32) 95 1 a4 b8 co cp b9∧[5,8].map f=[.slice co b9.length cp,.int .i64 cq]) N ⟨_,_,_,_,0,_,rfl,hm,aa,cw,rfl⟩ ?_;clear hm;intro n f b8 hI;obtain ⟨a4,co,cp,b9,cq,a5,hn,hm,aa,c0,hs⟩:=hI;subst hn;refine .lL [5,8] hs ?_
    cases a5 with
    | zero=>rw [Zep.eq_1] at hm;cases hm
    | succ a5=>
     rw [Zep.eq_2] at hm;refine go ?_;refine Zq hm (fun hb hm=>go ?_) fun hb hm=>go ?_
     ·obtain ⟨es,dq,hm⟩:=bZ hm;refine Zh (Zrl 9 dq (c0.toSlF (Zg.int .u32))) ?_;rintro _ et ⟨dr,eu,ew,rfl,ca,bp⟩;refine ⟨_,rfl,?_⟩;replace bp:=bp.thaw (Zy .u32) ca ((Fz.refl (col:=a4)).froz 1) (by decide);replace ca:=ca.thawR (col:=a4);generalize Z7 b8.heap.size a4 dr=ey at *;refine go ?_;replace bp:=bp.recolSelf 1 (by decide);replace aa:=aa.grow ca;replace aa:=aa.recol 9 1 (by decide) (by decide);exact ⟨a5,by omega,rfl,⟨_,_,_,_,_,_,rfl,hm,aa,bp,rfl⟩⟩
     cases hm;exact ⟨rfl,_,_,_,rfl,aa.fin (cm [(1,c1)]),aa.fo c0⟩
  refine go ?_;obtain ⟨ez,ds,hm⟩:=bZ hm;refine Zh (Zkx ds (ag.toSlF (Zg.int .u32))) ?_;rintro _ c2 ⟨rfl,bq⟩;refine ⟨_,rfl,?_⟩;replace bq:Zf am a6 am c2:=.of_below bq;refine Yt rfl ?_;replace ag:=ag.gr bq;replace ad:=ad.gr bq;replace aa:=aa.grow bq;refine X8 hm (fun cr hm=>go ?_) fun cr hm=>go ?_
  ·obtain ⟨dt,du,hm⟩:=bZ hm;refine Zh (Zkx du (ad.toSlF (Zg.int .u32))) ?_;rintro _ dv ⟨rfl,br⟩;refine ⟨_,rfl,?_⟩;replace br:Zf am c2 am dv:=.of_below br;refine lV (.bool dt) (Xr (congrArg Value.bool cr) rfl)<|Zm ?_;replace ag:=ag.gr br;replace ad:=ad.gr br;replace aa:=aa.grow br;exact ⟨rfl,_,_,hm,aa,ag,ad,rfl⟩
  refine lV (.bool false) (Xh (congrArg Value.bool cr) rfl)<|Zm ?_;exact ⟨rfl,_,_,hm,aa,ag,ad,rfl⟩
def Zja (af:List Int) (ag:List Int) (ad:List Int) (aa:Int) (ae:Int) (kk_L1:(List Int→Int→Int→Option R2)):Option R2:=
  (Qu af ae).bind fun ab=>(Qu ag ae).bind fun ac=>Z3 ((ad.length+[u32.wrap (Int.tmod (u64.wrap ((u64.wrap (aa+ab))+ac)) 4294967296)].length) * 4≤140737488355328∧ad.length+[u32.wrap (Int.tmod (u64.wrap ((u64.wrap (aa+ab))+ac)) 4294967296)].length≤maxLen) (kk_L1 (ad++[u32.wrap (Int.tmod (u64.wrap ((u64.wrap (aa+ab))+ac)) 4294967296)]) (u64.wrap (Int.tdiv (u64.wrap ((u64.wrap (aa+ab))+ac)) 4294967296)) (i64.wrap (ae+1)))
def Zc4 (N:Nat) (ab:List Int) (ac:List Int) (aa:List Int) (ad:Int) (ae:Int) (kk_L1:(List Int→Int→Int→Option R2)) (af:Bool):Option R2:=
  if af=true then (Zja ab ac aa ad ae kk_L1) else ((U5 N aa).bind fun ag=>some ag)
def S8 (N:Nat) (aa:List Int) (ab:List Int):Nat→R2→Int→Int→Option R2
  | 0,_,_,_=>none
  | ae+1,af,ad,ac=>if (decide (ac<(aa.length:Int)))=true then (Zc4 N aa ab af ad ac (S8 N aa ab ae) true) else (if (decide (ac<(ab.length:Int)))=true then (Zc4 N aa ab af ad ac (S8 N aa ab ae) true) else (Zc4 N aa ab af ad ac (S8 N aa ab ae) (decide (0<ad))))
termination_by structural x=>x
def Zi9 (N:Nat) (aa:List Int) (ab:List Int):Option R2:=
  S8 N aa ab N ([]:List Int) 0 0
theorem Zzw {N a3 a4:Nat} {a0 a1:Option Addr} {col:Ze} {w0:World} {ae ad r:R2} (c1:Nat) (hm:Zi9 N ae ad=some r) (h0:Sl (Za.int .u32) col w0 a0 a3 ae) (h1:Sl (Za.int .u32) col w0 a1 a4 ad):
    Calls prog 180 #[.slice a0 ae.length a3,.slice a1 ad.length a4] w0 (fun e w'=>∃ (col':Ze) (ra1:Option Addr) (rc2:Nat),e= .returned ((.slice ra1 r.length rc2))∧Zf col w0 col' w'∧Zc (Za.int .u32) 95 c1 col' w' ra1 rc2 r):=by
 refine Xm 4 (m:=43) func180 rfl rfl rfl rfl rfl ?_;rw [Zi9.eq_1] at hm;have aa:=St.start col w0;refine go ?_;refine Z9 [0,1,1000000] (fun n f av=>∃ aw ak al af ab ai ag,ag=n∧S8 N ae ad ag af ab ai=some r∧St w0 (Zk col) aw av∧Zc (Za.int .u32) 95 1 aw av ak al af∧[5,6,7].map f=[.slice ak af.length al,.int .u64 ab,.int .i64 ai]) N ⟨_,none,0,_,0,0,_,rfl,hm,aa,Zc.nil,rfl⟩ ?_;clear hm;intro n f av hI;obtain ⟨aw,ak,al,af,ab,ai,ag,hn,hm,aa,ac,hs⟩:=hI;subst hn;refine .lL [5,6,7] hs ?_;replace h0:=h0.keep (Zl.start col w0);replace h1:=h1.keep (Zl.start col w0)
 cases ag with
 | zero=>rw [S8.eq_1] at hm;cases hm
 | succ ag=>
  rw [S8.eq_2] at hm;refine Zv ?_;refine Wp.cutK [0,1,5,6,7,1000000] (fun f ao=>∃ ah,Zja ae ad af ab ai (S8 N ae ad ag)=some r∧St w0 (Zk col) ah ao∧Zc (Za.int .u32) 95 1 ah ao ak al af) ?_ ?_
  ·intro f ao hJ;obtain ⟨ah,hm,aa,ac⟩:=hJ;rw [Zja.eq_1] at hm;refine go ?_;obtain ⟨am,a7,hm⟩:=bZ hm;refine Zh (Zds a7 (h0.ks aa)) ?_;rintro _ a5 ⟨rfl,ap⟩;refine ⟨_,rfl,?_⟩;replace ap:Zf ah ao ah a5:=.of_below ap;refine go ?_;obtain ⟨an,a8,hm⟩:=bZ hm;replace aa:=aa.grow ap;refine Zh (Zds a8 (h1.ks aa)) ?_;rintro _ a9 ⟨rfl,aq⟩;refine ⟨_,rfl,?_⟩;replace aq:Zf ah a5 ah a9:=.of_below aq;refine go ?_;refine lV (.int .u64 (Int.tmod (u64.wrap ((u64.wrap (ab+am))+an)) 4294967296)) (Ti (u64.wrap ((u64.wrap (ab+am))+an)) 4294967296 rfl rfl (by decide))<|go ?_;refine W8 (col:=ah) [u32.wrap (Int.tmod (u64.wrap ((u64.wrap (ab+am))+an)) 4294967296)] 2 ?_;intro bg bh bi a6 ba;obtain ⟨bb,hm⟩:=Z6 hm;replace ac:=((ac.gr ap).gr aq).gr a6;refine U3 ac (ba.srcN (NB.int (k:=.u32))) bb ?_;intro bj bk bm bn bc bd;refine go ?_;refine lV (.int .u64 (u64.wrap (Int.tdiv (u64.wrap ((u64.wrap (ab+am))+an)) 4294967296))) (Vf (u64.wrap ((u64.wrap (ab+am))+an)) 4294967296 rfl rfl (by decide))<|go ?_;replace aa:=((aa.grow aq).grow a6).kpp bc;exact ⟨ag,by omega,rfl,⟨_,_,_,_,_,_,_,rfl,hm,aa,bd,rfl⟩⟩
  refine Zv ?_;refine Wp.cutK [0,1,5,6,7,1000000] (fun f ar=>∃ aj ax,Zc4 N ae ad af ab ai (S8 N ae ad ag) ax=some r∧St w0 (Zk col) aj ar∧Zc (Za.int .u32) 95 1 aj ar ak al af∧[21].map f=[.bool ax]) ?_ ?_
  ·intro f ar hJ;obtain ⟨aj,ax,hm,aa,ac,hs⟩:=hJ;rw [Zc4.eq_1] at hm;refine .lL [21] hs ?_;refine Zq hm (fun hb hm=>?_) fun hb hm=>go ?_
   ·refine X3 ?_;exact ⟨rfl,_,hm,aa,ac⟩
   obtain ⟨bo,be,hm⟩:=bZ hm;refine Zh (Sw 3 be (ac.toSlF (Zg.int .u32))) ?_;rintro _ bp ⟨bf,bq,br,rfl,au,ay⟩;refine ⟨_,rfl,?_⟩;replace ay:=ay.thaw (Zy .u32) au ((Fz.refl (col:=aj)).froz 1) (by decide);replace au:=au.thawR (col:=aj);generalize Z7 ar.heap.size aj bf=bs at *;refine go ?_;cases hm;replace aa:=aa.grow au;exact ⟨rfl,_,_,_,rfl,aa.fin (cm [(3,c1)]),aa.fo ay⟩
  refine go ?_;refine X8 hm (fun az hm=>go ?_) fun az hm=>go ?_
  ·refine lV (.bool true) (Xr (congrArg Value.bool az) rfl)<|Yt rfl<|lP 18 rfl rfl<|lP 18 rfl rfl<|lV (.bool true) (Xr rfl rfl)<|Zm ?_;exact ⟨rfl,_,_,hm,aa,ac,rfl⟩
  refine lV (.bool (decide (ai<(ad.length:Int)))) (Xh (congrArg Value.bool az) rfl)<|Yt rfl ?_;refine X8 hm (fun a2 hm=>go ?_) fun a2 hm=>go ?_
  ·refine lV (.bool true) (Xr (congrArg Value.bool a2) rfl)<|Zm ?_;exact ⟨rfl,_,_,hm,aa,ac,rfl⟩
  refine lV (.bool (decide (0<ab))) (Xh (congrArg Value.bool a2) rfl)<|Zm ?_;exact ⟨rfl,_,_,hm,aa,ac,rfl⟩
def Zg8 (N:Nat) (aa:Int):Option R2:=
  (U5 N [u32.wrap (Int.tmod aa 4294967296),u32.wrap (u64.wrap (Int.tdiv aa 4294967296))]).bind fun ab=>some ab
theorem Zrj {N:Nat} {col:Ze} {w0:World} {aa:Int} {r:R2} (c1:Nat) (hm:Zg8 N aa=some r):
    Calls prog 214 #[.int .u64 aa] w0 (fun e w'=>∃ (col':Ze) (ra1:Option Addr) (rc2:Nat),e= .returned ((.slice ra1 r.length rc2))∧Zf col w0 col' w'∧Zc (Za.int .u32) 95 c1 col' w' ra1 rc2 r):=by
 refine Xm 2 (m:=11) func214 rfl rfl rfl rfl rfl ?_;rw [Zg8.eq_1] at hm;have ab:=St.start col w0;refine go ?_;refine lV (.int .u64 (Int.tmod aa 4294967296)) (Ti aa 4294967296 rfl rfl (by decide))<|go ?_;refine lV (.int .u64 (u64.wrap (Int.tdiv aa 4294967296))) (Vf aa 4294967296 rfl rfl (by decide))<|go ?_;refine W8 (col:=(Zk col)) [u32.wrap (Int.tmod aa 4294967296),u32.wrap (u64.wrap (Int.tdiv aa 4294967296))] 1 ?_;intro ak af ad ag ah;obtain ⟨al,ai,hm⟩:=bZ hm;refine Zh (Sw 2 ai (ah.toSlF (Zg.int .u32))) ?_;rintro _ am ⟨aj,an,ao,rfl,ac,ae⟩;refine ⟨_,rfl,?_⟩;replace ae:=ae.thaw (Zy .u32) ac ((Fz.refl (col:=ad)).froz 1) (by decide);replace ac:=ac.thawR (col:=ad);generalize Z7 af.heap.size ad aj=ap at *;refine go ?_;cases hm;replace ab:=(ab.grow ag).grow ac;exact ⟨rfl,_,_,_,rfl,ab.fin (cm [(2,c1)]),ab.fo ae⟩

end Go.Proofs.YtkhnlgdenkikoaaGreat
