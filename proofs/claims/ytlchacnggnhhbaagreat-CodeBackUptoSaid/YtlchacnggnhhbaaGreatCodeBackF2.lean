/-
  What functions of the program compute, as plain Lean functions (m_..), and proofs that they compute it (c_..). Printed by a program of the author; no conditions.
-/
import Derived.Test.YtlchacnggnhhbaaGreatCodeBackBFloat
import Derived.Test.YtlchacnggnhhbaaGreatProg
import Derived.Test.YtlchacnggnhhbaaGreatCodeBackBBrief
import Derived.Test.YtlchacnggnhhbaaGreatCodeBackF1
set_option linter.unusedVariables false
set_option maxRecDepth 100000
set_option maxHeartbeats 20000000
namespace Go.Proofs.YtlchacnggnhhbaaGreat
open Go Go.RowKit
open Go.IntKind (i8 i16 i32 i64 u8 u16 u32 u64)
open Go.Proofs.Tryz

def Qj (N:Nat) (aa:R0) (ab:R0):Option R0:=
  (Vy N ((ab.1.1,ab.1.2),ab.2)).bind fun ag=>(Zag N (aa.1.1,aa.1.2) ag).bind fun ad=>(Vy N ((aa.1.1,aa.1.2),aa.2)).bind fun ah=>(Zag N (ab.1.1,ab.1.2) ah).bind fun ae=>(Zee N (ad.1,ad.2) (ae.1,ae.2)).bind fun af=>(Vy N ((aa.1.1,aa.1.2),aa.2)).bind fun ai=>(Vy N ((ab.1.1,ab.1.2),ab.2)).bind fun aj=>(Zaj N ai aj).bind fun ak=>(Zaf N af.1 af.2 ak).bind fun ac=>some ((ac.1.1,ac.1.2),ac.2)
theorem Znq {N bo bz bp b0:Nat} {bq b1 br b2:Option Addr} {col:Ze} {w0:World} {aj ak r:R0} (c1 c2:Nat) (hm:Qj N aj ak=some r) (ba:Sl (Za.int .u32) col w0 bq bo aj.1.2) (bs:Sl (Za.int .u32) col w0 b1 bz aj.2) (bb:Sl (Za.int .u32) col w0 br bp ak.1.2) (bt:Sl (Za.int .u32) col w0 b2 b0 ak.2):
    Calls Tryz.prog 20 #[(.agg #[.bool aj.1.1,.slice bq aj.1.2.length bo,.slice b1 aj.2.length bz]),(.agg #[.bool ak.1.1,.slice br ak.1.2.length bp,.slice b2 ak.2.length b0])] w0 (fun e w'=>∃ (col':Ze) (ra1:Option Addr) (rc2:Nat) (ra4:Option Addr) (rc5:Nat),e= .returned ((.agg #[.bool r.1.1,.slice ra1 r.1.2.length rc2,.slice ra4 r.2.length rc5]))∧Zg col w0 col' w'∧Zc (Za.int .u32) 77 c1 col' w' ra1 rc2 r.1.2∧Zc (Za.int .u32) 77 c2 col' w' ra4 rc5 r.2):=by
 refine Yu (m:=27) func20 rfl rfl rfl ?_;rw [Qj.eq_1] at hm;have aa:=St.start col w0;refine go ?_;refine Xy (col:=(Zk col)) 1 rfl ?_;intro cd c9 ce cf ae;refine Xy (col:=ce) 2 rfl ?_;intro cg da ch ca af;refine Xl (col:=ch) #[.bool false,.slice none (([]:List Int).length) 0,.slice none (([]:List Int).length) 0] 3 zeroValue35 ?_;intro db a4 ay b3 ab;refine go ?_;have bu:=Zz.clip (fun _=>false) ay a4;refine Zeq (col:=ay) [(0,1),(1,0),(2,0),(5,1),(6,0),(7,0),(3,3),(4,3),(8,3),(9,3),(10,3),(11,4),(12,2)] (by kernel_rfl) (by kernel_rfl) ⟨fun h=>absurd h (by decide),fun h=>absurd h (by decide),fun h=>absurd h (by decide),fun h=>absurd h (by decide),fun h=>absurd h (by decide),fun h=>absurd h (by decide),fun h=>absurd h (by decide),fun h=>absurd h (by decide),fun h=>absurd h (by decide),fun h=>absurd h (by decide),fun h=>absurd h (by decide),fun _=>⟨_,_,_,rfl,Uu zeroValue33⟩,fun h=>absurd h (by decide),trivial⟩<|X9 (v:=(.pointer ((some (⟨cd,0,none⟩:Addr)).map (·.add 0)))) rfl rfl (fun _=>Sj (sz:=2) (off:=0) underlying35 rfl sizeOf33 (by decide) rfl rfl ⟨_,_,rfl⟩) ?_;replace ae:=((ae.gr ca).gr b3).kpp bu;refine Wn (v:=(.agg #[.bool aj.1.1,.slice bq aj.1.2.length bo])) rfl rfl (fun _ hC=>Xt isAgg33 sizeOf33 rfl rfl (((ae.atN).part 0 2 _ rfl).gr (hC.bl (Zf a4 ay)))) ?_;replace af:=(af.gr b3).kpp bu;refine Wn (v:=(.agg #[.bool ak.1.1,.slice br ak.1.2.length bp,.slice b2 ak.2.length b0])) rfl rfl (fun _ hC=>Xt isAgg35 sizeOf35 rfl rfl (af.atN.gr (hC.bl (Zf a4 ay)))) ?_;refine X9 (v:=(.pointer ((some (⟨cg,0,none⟩:Addr)).map (·.add 0)))) rfl rfl (fun _=>Sj (sz:=2) (off:=0) underlying35 rfl sizeOf33 (by decide) rfl rfl ⟨_,_,rfl⟩) ?_;refine Wn (v:=(.agg #[.bool ak.1.1,.slice br ak.1.2.length bp])) rfl rfl (fun _ hC=>Xt isAgg33 sizeOf33 rfl rfl (((af.atN).part 0 2 _ rfl).gr (hC.bl (Zf a4 ay)))) ?_;refine Wn (v:=(.agg #[.bool aj.1.1,.slice bq aj.1.2.length bo,.slice b1 aj.2.length bz])) rfl rfl (fun _ hC=>Xt isAgg35 sizeOf35 rfl rfl (ae.atN.gr (hC.bl (Zf a4 ay)))) ?_;refine Ww rfl rfl ?_;intro dc hC0;have hC:=hC0.bl (Zf a4 ay);obtain ⟨dd,ci,hm⟩:=bZ hm;replace bb:=bb.keep (Zl.start col w0);replace bt:=bt.keep (Zl.start col w0);replace aa:=((((aa.grow cf).grow ca).grow b3).kpp bu).grow hC;refine Zi (U7 4 ci (bb.ks aa) (bt.ks aa)) ?_;rintro _ ao ⟨au,de,df,rfl,az,b4⟩;refine ⟨_,rfl,?_⟩
 refine Zm ?_;refine ⟨fun w'=>Zg (Zf ao au) ao (Zf ao au) w',fun g=>(Zf ao au) g=497,Zg.refl _ _,Wk,fun _=>⟨fun _ h=>Vw hC0 az h,fun b hb=>az.below.block b hb,fun g x1 x2=>V3 az g x1 (by first | exact x2 | (simp only [Xr,x2];rfl) | (simp only [Xr,Xf,x2];rfl))⟩,?_⟩;have bc:=Zz.clip (fun _=>false) au ao;refine Ww rfl rfl ?_;intro cj hC0;replace ab:=(((ab.kpp bu).gr hC).gr az).kpp bc;replace ae:=((ae.gr hC).gr az).kpp bc;replace af:=((af.gr hC).gr az).kpp bc;have hC:=hC0.bl (Zf ao au);obtain ⟨dg,ck,hm⟩:=bZ hm;replace ba:=ba.keep (Zl.start col w0);replace aa:=((aa.grow az).kpp bc).grow hC;replace b4:=(b4.kpp bc).gr hC;refine Zi (Zez 5 ck ((ba.ks aa).froz 4) (b4.toSlF (Zh.int .u32))) ?_;rintro _ a5 ⟨cl,dh,di,rfl,am,ap⟩;refine ⟨_,rfl,?_⟩;replace bs:=bs.keep (Zl.start col w0);replace ap:=ap.thaw (Z0 .u32) am ((Fz.refl (col:=(Zf ao au))).froz 4) (by decide);replace am:=am.thawR (col:=(Zf ao au));generalize Xa cj.heap.size (Zf ao au) cl=bd at *;refine Zm ?_;refine ⟨fun w'=>Zg (Zf a5 bd) a5 (Zf a5 bd) w',fun g=>(Zf a5 bd) g=497,Zg.refl _ _,Wk,fun _=>⟨fun _ h=>Vw hC0 am h,fun b hb=>am.below.block b hb,fun g x1 x2=>V3 am g x1 (by first | exact x2 | (simp only [Xr,x2];rfl) | (simp only [Xr,Xf,x2];rfl))⟩,?_⟩;have be:=Zz.clip (fun _=>false) bd a5;refine Ww rfl rfl ?_;intro dj hC0;replace ae:=((ae.gr hC).gr am).kpp be;replace af:=((af.gr hC).gr am).kpp be;replace ab:=((ab.gr hC).gr am).kpp be;have hC:=hC0.bl (Zf a5 bd);obtain ⟨dl,cn,hm⟩:=bZ hm;replace aa:=((aa.grow am).kpp be).grow hC;refine Zi (U7 6 cn (ba.ks aa) (bs.ks aa)) ?_;rintro _ aq ⟨av,dm,dn,rfl,aw,b5⟩;refine ⟨_,rfl,?_⟩;refine Zm ?_;refine ⟨fun w'=>Zg (Zf aq av) aq (Zf aq av) w',fun g=>(Zf aq av) g=497,Zg.refl _ _,Wk,fun _=>⟨fun _ h=>Vw hC0 aw h,fun b hb=>aw.below.block b hb,fun g x1 x2=>V3 aw g x1 (by first | exact x2 | (simp only [Xr,x2];rfl) | (simp only [Xr,Xf,x2];rfl))⟩,?_⟩;have a6:=Zz.clip (fun _=>false) av aq;refine Ww rfl rfl ?_;intro co hC0;replace ap:=(((ap.kpp be).gr hC).gr aw).kpp a6;replace ae:=((ae.gr hC).gr aw).kpp a6;replace af:=((af.gr hC).gr aw).kpp a6;replace ab:=((ab.gr hC).gr aw).kpp a6;have hC:=hC0.bl (Zf aq av)
 obtain ⟨dp,cp,hm⟩:=bZ hm;replace aa:=((aa.grow aw).kpp a6).grow hC;replace b5:=(b5.kpp a6).gr hC;refine Zi (Zez 7 cp ((bb.ks aa).froz 6) (b5.toSlF (Zh.int .u32))) ?_;rintro _ ar ⟨cq,dq,dr,rfl,al,bf⟩;refine ⟨_,rfl,?_⟩;replace bf:=bf.thaw (Z0 .u32) al ((Fz.refl (col:=(Zf aq av))).froz 6) (by decide);replace al:=al.thawR (col:=(Zf aq av));generalize Xa co.heap.size (Zf aq av) cq=ax at *;refine Zm ?_;refine ⟨fun w'=>Zg (Zf ar ax) ar (Zf ar ax) w',fun g=>(Zf ar ax) g=497,Zg.refl _ _,Wk,fun _=>⟨fun _ h=>Vw hC0 al h,fun b hb=>al.below.block b hb,fun g x1 x2=>V3 al g x1 (by first | exact x2 | (simp only [Xr,x2];rfl) | (simp only [Xr,Xf,x2];rfl))⟩,?_⟩;have a7:=Zz.clip (fun _=>false) ax ar;refine Ww rfl rfl ?_;intro cr hC0;replace ap:=((ap.gr hC).gr al).kpp a7;replace ae:=((ae.gr hC).gr al).kpp a7;replace af:=((af.gr hC).gr al).kpp a7;replace ab:=((ab.gr hC).gr al).kpp a7;have hC:=hC0.bl (Zf ar ax);obtain ⟨ds,cs,hm⟩:=bZ hm;replace bf:=(bf.kpp a7).gr hC;replace ap:=ap.gr hC;refine Zi (Zrz 8 cs ((ap.toSlF (Zh.int .u32)).froz 7) ((bf.froz 5 (by decide)).toSlF (Zh.int .u32))) ?_;rintro _ ac ⟨ct,dt,du,rfl,an,ag⟩;refine ⟨_,rfl,?_⟩;replace ag:=ag.thaw (Z0 .u32) an (((Fz.refl (col:=(Zf ar ax))).froz 5).froz 7) (by decide);replace an:=an.thawR (col:=(Zf ar ax));generalize Xa cr.heap.size (Zf ar ax) ct=ad at *;refine Zm ?_;refine ⟨fun w'=>Zg (Zf ac ad) ac (Zf ac ad) w',fun g=>(Zf ac ad) g=497,Zg.refl _ _,Wk,fun _=>⟨fun _ h=>Vw hC0 an h,fun b hb=>an.below.block b hb,fun g x1 x2=>V3 an g x1 (by first | exact x2 | (simp only [Xr,x2];rfl) | (simp only [Xr,Xf,x2];rfl))⟩,?_⟩;have bg:=Zz.clip (fun _=>false) ad ac;refine Zc6 rfl rfl (Uu zeroValue33) ?_;intro ah cu;refine Ww rfl rfl ?_;intro cv ⟨hC0,hZ0⟩;replace aa:=((((aa.grow al).kpp a7).grow hC).grow an).kpp bg;replace ae:=((ae.gr hC).gr an).kpp bg;replace af:=((af.gr hC).gr an).kpp bg;replace ab:=((ab.gr hC).gr an).kpp bg;have hC:=hC0.bl (Zf ac ad);obtain ⟨bh,b6⟩:=Zbu (col:=(Zf ac ad)) 9 hZ0 cu;replace b6:Zo 33 9 (Z3 ah 9 (Zf ac ad)) cv ah #[.bool false,.slice none (([]:List Int).length) 0]:=b6;refine Z2 b6 ?_
 intro ai bi cw bv;refine Zm ?_;refine ⟨fun w'=>Zg (Zf ai (Z3 ah 9 (Zf ac ad))) ai (Zf ai (Z3 ah 9 (Zf ac ad))) w',fun g=>(Zf ai (Z3 ah 9 (Zf ac ad))) g=497,Zg.refl _ _,Wk,fun h=>absurd h (by decide),?_⟩;have a8:=Zz.clip (fun _=>false) (Z3 ah 9 (Zf ac ad)) ai;refine Zer ?_;replace ag:=((((ag.kpp bg).gr hC).kpp bh).kp bi).kpp a8;replace ae:=(((ae.gr hC).kpp bh).kp bi).kpp a8;replace af:=(((af.gr hC).kpp bh).kp bi).kpp a8;replace ab:=(((ab.gr hC).kpp bh).kp bi).kpp a8;replace aa:=(((aa.grow hC).kpp bh).kp bi cw).kpp a8;intro cb hC;replace hC:Zg (Zf ai (Z3 ah 9 (Zf ac ad))) ai (Zf ai (Z3 ah 9 (Zf ac ad))) cb:=.of_below hC.below;refine Zw<|W6 (col:=(Zf ai (Z3 ah 9 (Zf ac ad)))) [(0,1),(1,0),(2,1),(3,0),(4,0),(6,0),(5,3),(7,3),(8,3),(9,3),(10,2)] (by kernel_rfl) (by kernel_rfl)<|xF ⟨_,_,rfl⟩ ?_;replace bv:=(bv.kpp a8).gr hC;refine xW (fun _ hC=>((bv.atN).nth (q:=0) rfl).gr (hC.bl (Zf ai (Z3 ah 9 (Zf ac ad))))) ?_;refine xF ⟨_,_,rfl⟩ ?_;refine xW (fun _ hC=>((bv.atN).nth (q:=1) rfl).gr (hC.bl (Zf ai (Z3 ah 9 (Zf ac ad))))) ?_;replace ae:=ae.gr hC;refine xv rfl rfl (fun _ hC=>Xj isAgg35 sizeOf35 (ae.gr (hC.bl (Zf ai (Z3 ah 9 (Zf ac ad)))))) ?_;replace af:=af.gr hC;refine xv rfl rfl (fun _ hC=>Xj isAgg35 sizeOf35 (af.gr (hC.bl (Zf ai (Z3 ah 9 (Zf ac ad)))))) ?_;refine xe rfl rfl ?_;intro cx hC0;replace ag:=ag.gr hC;replace ab:=ab.gr hC;replace aa:=aa.grow hC;have hC:Zg (Zf ai (Z3 ah 9 (Zf ac ad))) cb (Zf ai (Z3 ah 9 (Zf ac ad))) cx:=.of_below hC0.below;obtain ⟨dv,cy,hm⟩:=bZ hm;replace aa:=aa.grow hC;refine Zi (U7 10 cy (ba.ks aa) (bs.ks aa)) ?_;rintro _ dw ⟨cc,dx,dy,rfl,bw,bj⟩;refine ⟨_,rfl,?_⟩;refine Zm<|Yd cc hC0 bw<|xe rfl rfl ?_;intro dz hC0;replace ag:=(ag.gr hC).gr bw;replace ab:=(ab.gr hC).gr bw;have hC:=hC0.bl cc;obtain ⟨d0,cz,hm⟩:=bZ hm;replace aa:=(aa.grow bw).grow hC;refine Zi (U7 11 cz (bb.ks aa) (bt.ks aa)) ?_;rintro _ d1 ⟨bk,d2,d3,rfl,bm,b7⟩;refine ⟨_,rfl,?_⟩;refine Zm<|Yd bk hC0 bm<|xe rfl rfl ?_;intro c0 hC0;replace ag:=(ag.gr hC).gr bm;replace bj:=(bj.gr hC).gr bm;replace ab:=(ab.gr hC).gr bm;have hC:=hC0.bl bk
 obtain ⟨d4,c3,hm⟩:=bZ hm;replace bj:=bj.gr hC;replace b7:=b7.gr hC;refine Zi (Zhr 12 c3 ((bj.toSlF (Zh.int .u32)).froz 11) ((b7.froz 10 (by decide)).toSlF (Zh.int .u32))) ?_;rintro _ d5 ⟨c4,d6,d7,rfl,a0,bn⟩;refine ⟨_,rfl,?_⟩;replace bn:=bn.thaw (Z0 .u32) a0 (((Fz.refl (col:=bk)).froz 10).froz 11) (by decide);replace a0:=a0.thawR (col:=bk);generalize Xa c0.heap.size bk c4=a9 at *;refine Zm<|Yd a9 hC0 a0<|xe rfl rfl ?_;intro c5 hC0;replace aa:=((aa.grow bm).grow hC).grow a0;replace ag:=(ag.gr hC).gr a0;replace ab:=(ab.gr hC).gr a0;have hC:=hC0.bl a9;obtain ⟨d8,c6,hm⟩:=bZ hm;replace ag:=ag.gr hC;replace bn:=bn.gr hC;refine Zi (Zey 13 14 c6 ((ag.toSlF (Zh.int .u32)).froz 12) ((bn.froz 8 (by decide)).toSlF (Zh.int .u32))) ?_;rintro _ d9 ⟨c7,ea,eb,ec,ed,rfl,a1,a2,a3⟩;refine ⟨_,rfl,?_⟩;replace a2:=a2.thaw (Z0 .u32) a1 (((Fz.refl (col:=a9)).froz 8).froz 12) (by decide);replace a3:=a3.thaw (Z0 .u32) a1 (((Fz.refl (col:=a9)).froz 8).froz 12) (by decide);replace a1:=a1.thawR (col:=a9);generalize Xa c5.heap.size a9 c7=bx at *;refine Zm<|Yd bx hC0 a1<|xe rfl rfl ?_;intro ee hC0;replace ab:=(ab.gr hC).gr a1;replace aa:=(aa.grow hC).grow a1;have hC:=hC0.bl bx;replace ab:=ab.gr hC;refine Z2 ab ?_;intro ef b8 c8 b9;refine Zm<|xk bx<|W3 ?_;replace a2:=(a2.gr hC).kp b8;replace a3:=(a3.gr hC).kp b8;replace aa:=(aa.grow hC).kp b8 c8;intro eg hC;replace hC:=hC.bl bx;refine Vp ?_;cases hm;replace a2:=a2.gr hC;replace a3:=a3.gr hC;replace b9:=b9.gr hC;replace aa:=aa.grow hC;exact ⟨rfl,_,ra b9.atN,_,_,_,_,_,rfl,aa.fin (cm [(13,c1),(14,c2)]),aa.fo a2,aa.fo a3⟩
def Ul (N:Nat) (aa:R0) (ab:R0):Option R0:=
  (Zaj N aa.1.2 ab.1.2).bind fun ad=>(Vy N ((aa.1.1,aa.1.2),aa.2)).bind fun ae=>(Vy N ((ab.1.1,ab.1.2),ab.2)).bind fun af=>(Zaj N ae af).bind fun ag=>(Zaf N (!decide (aa.1.1=ab.1.1)) ad ag).bind fun ac=>some ((ac.1.1,ac.1.2),ac.2)
theorem Zex {N a4 a5 a6 a7:Nat} {a8 a9 ba bb:Option Addr} {col:Ze} {w0:World} {ai aj r:R0} (c1 c2:Nat) (hm:Ul N ai aj=some r) (ar:Sl (Za.int .u32) col w0 a8 a4 ai.1.2) (ax:Sl (Za.int .u32) col w0 a9 a5 ai.2) (au:Sl (Za.int .u32) col w0 ba a6 aj.1.2) (ay:Sl (Za.int .u32) col w0 bb a7 aj.2):
    Calls Tryz.prog 22 #[(.agg #[.bool ai.1.1,.slice a8 ai.1.2.length a4,.slice a9 ai.2.length a5]),(.agg #[.bool aj.1.1,.slice ba aj.1.2.length a6,.slice bb aj.2.length a7])] w0 (fun e w'=>∃ (col':Ze) (ra1:Option Addr) (rc2:Nat) (ra4:Option Addr) (rc5:Nat),e= .returned ((.agg #[.bool r.1.1,.slice ra1 r.1.2.length rc2,.slice ra4 r.2.length rc5]))∧Zg col w0 col' w'∧Zc (Za.int .u32) 77 c1 col' w' ra1 rc2 r.1.2∧Zc (Za.int .u32) 77 c2 col' w' ra4 rc5 r.2):=by
 refine Yu (m:=25) func22 rfl rfl rfl ?_;rw [Ul.eq_1] at hm;have aa:=St.start col w0;refine go ?_;refine Xy (col:=(Zk col)) 1 rfl ?_;intro bt bu bf bg al;refine Xy (col:=bf) 2 rfl ?_;intro bv bw bh bc am;refine Xl (col:=bh) #[.bool false,.slice none (([]:List Int).length) 0,.slice none (([]:List Int).length) 0] 3 zeroValue35 ?_;intro bx bz ad az ab;refine go ?_;refine W6 (col:=ad) [(0,1),(1,1),(2,0),(3,1),(4,1),(5,0),(6,1),(7,1),(8,1),(9,0),(10,1),(11,1),(12,0),(14,0),(16,0),(13,3),(15,3),(17,3),(18,3),(19,3),(20,2)] (by kernel_rfl) (by kernel_rfl)<|xF ⟨_,_,rfl⟩ ?_;refine xF (Ty ⟨_,_,rfl⟩) ?_;replace al:=(al.gr bc).gr az;refine xW (fun _ hC=>((((al.atN).part 0 2 _ rfl)).nth (q:=0) rfl).gr (hC.bl ad)) ?_;refine xF ⟨_,_,rfl⟩ ?_;refine xF (Ty ⟨_,_,rfl⟩) ?_;replace am:=am.gr az;refine xW (fun _ hC=>((((am.atN).part 0 2 _ rfl)).nth (q:=0) rfl).gr (hC.bl ad)) ?_;refine xu rfl rfl (fun _=>Zjr _ _ underlying4 rfl rfl) ?_;refine xF ⟨_,_,rfl⟩ ?_;refine xF (Ty ⟨_,_,rfl⟩) ?_;refine xW (fun _ hC=>((((al.atN).part 0 2 _ rfl)).nth (q:=1) rfl).gr (hC.bl ad)) ?_;refine xF ⟨_,_,rfl⟩ ?_;refine xF (Ty ⟨_,_,rfl⟩) ?_;refine xW (fun _ hC=>((((am.atN).part 0 2 _ rfl)).nth (q:=1) rfl).gr (hC.bl ad)) ?_;refine xv rfl rfl (fun _ hC=>Xj isAgg35 sizeOf35 (al.gr (hC.bl ad))) ?_;refine xv rfl rfl (fun _ hC=>Xj isAgg35 sizeOf35 (am.gr (hC.bl ad))) ?_;refine xe rfl rfl ?_;intro b0 hC0;have hC:=hC0.bl ad;obtain ⟨b1,bi,hm⟩:=bZ hm;replace ar:=ar.keep (Zl.start col w0);replace au:=au.keep (Zl.start col w0);replace aa:=(((aa.grow bg).grow bc).grow az).grow hC;refine Zi (Zhr 4 bi (ar.ks aa) (au.ks aa)) ?_;rintro _ b2 ⟨bd,b3,b4,rfl,a0,ac⟩;refine ⟨_,rfl,?_⟩;refine Zm<|Yd bd hC0 a0<|xe rfl rfl ?_;intro b5 hC0;replace ab:=(ab.gr hC).gr a0;have hC:=hC0.bl bd;obtain ⟨b6,bj,hm⟩:=bZ hm;replace ax:=ax.keep (Zl.start col w0);replace aa:=(aa.grow a0).grow hC;refine Zi (U7 5 bj (ar.ks aa) (ax.ks aa)) ?_;rintro _ b7 ⟨be,b8,b9,rfl,av,an⟩;refine ⟨_,rfl,?_⟩;refine Zm<|Yd be hC0 av<|xe rfl rfl ?_;intro ca hC0;replace ac:=(ac.gr hC).gr av;replace ab:=(ab.gr hC).gr av;have hC:=hC0.bl be;obtain ⟨cb,bk,hm⟩:=bZ hm;replace ay:=ay.keep (Zl.start col w0);replace aa:=(aa.grow av).grow hC
 refine Zi (U7 6 bk (au.ks aa) (ay.ks aa)) ?_;rintro _ cc ⟨ao,cd,ce,rfl,ap,a1⟩;refine ⟨_,rfl,?_⟩;refine Zm<|Yd ao hC0 ap<|xe rfl rfl ?_;intro bm hC0;replace ac:=(ac.gr hC).gr ap;replace an:=(an.gr hC).gr ap;replace ab:=(ab.gr hC).gr ap;have hC:=hC0.bl ao;obtain ⟨cf,bn,hm⟩:=bZ hm;replace an:=an.gr hC;replace a1:=a1.gr hC;refine Zi (Zhr 7 bn ((an.toSlF (Zh.int .u32)).froz 6) ((a1.froz 5 (by decide)).toSlF (Zh.int .u32))) ?_;rintro _ cg ⟨bo,ch,ci,rfl,ae,aq⟩;refine ⟨_,rfl,?_⟩;replace aq:=aq.thaw (Z0 .u32) ae (((Fz.refl (col:=ao)).froz 5).froz 6) (by decide);replace ae:=ae.thawR (col:=ao);generalize Xa bm.heap.size ao bo=ak at *;refine Zm<|Yd ak hC0 ae<|xe rfl rfl ?_;intro bp hC0;replace aa:=((aa.grow ap).grow hC).grow ae;replace ac:=(ac.gr hC).gr ae;replace ab:=(ab.gr hC).gr ae;have hC:=hC0.bl ak;obtain ⟨cj,bq,hm⟩:=bZ hm;replace ac:=ac.gr hC;replace aq:=aq.gr hC;refine Zi (Zey 8 9 bq ((ac.toSlF (Zh.int .u32)).froz 7) ((aq.froz 4 (by decide)).toSlF (Zh.int .u32))) ?_;rintro _ ck ⟨br,cl,cn,co,cp,rfl,af,ag,ah⟩;refine ⟨_,rfl,?_⟩;replace ag:=ag.thaw (Z0 .u32) af (((Fz.refl (col:=ak)).froz 4).froz 7) (by decide);replace ah:=ah.thaw (Z0 .u32) af (((Fz.refl (col:=ak)).froz 4).froz 7) (by decide);replace af:=af.thawR (col:=ak);generalize Xa bp.heap.size ak br=aw at *;refine Zm<|Yd aw hC0 af<|xe rfl rfl ?_;intro cq hC0;replace ab:=(ab.gr hC).gr af;replace aa:=(aa.grow hC).grow af;have hC:=hC0.bl aw;replace ab:=ab.gr hC;refine Z2 ab ?_;intro cr a2 bs a3;refine Zm<|xk aw<|W3 ?_;replace ag:=(ag.gr hC).kp a2;replace ah:=(ah.gr hC).kp a2;replace aa:=(aa.grow hC).kp a2 bs;intro cs hC;replace hC:=hC.bl aw;refine Vp ?_;cases hm;replace ag:=ag.gr hC;replace ah:=ah.gr hC;replace a3:=a3.gr hC;replace aa:=aa.grow hC;exact ⟨rfl,_,ra a3.atN,_,_,_,_,_,rfl,aa.fin (cm [(8,c1),(9,c2)]),aa.fo ag,aa.fo ah⟩
def Se (N:Nat) (aa:R3):Option Int:=
  (Zba N aa.2).bind fun ab=>if (decide (ab=0))=true then (some 0) else (if aa.1=true then (some (-1)) else (some 1))
theorem Zc9 {N af:Nat} {ag:Option Addr} {col:Ze} {w0:World} {ab:R3} {r:Int} (hm:Se N ab=some r) (ae:Sl (Za.int .u32) col w0 ag af ab.2):
    Calls Tryz.prog 44 #[(.agg #[.bool ab.1,.slice ag ab.2.length af])] w0 (fun e w'=>e= .returned ((.int .i64 r))∧Below w0.heap.size w0 w'):=by
 refine Xo 2 (m:=11) func44 rfl rfl rfl rfl rfl ?_;rw [Se.eq_1] at hm;have aa:=St.start col w0;refine go ?_;refine Xy (col:=(Zk col)) 1 rfl ?_;intro am ai ah aj ac;refine go ?_;refine X3 ac ?_;obtain ⟨an,ak,hm⟩:=bZ hm;replace ae:=ae.keep (Zl.start col w0);replace aa:=aa.grow aj;refine Zi (Zns ak (ae.ks aa)) ?_;rintro _ al ⟨rfl,ad⟩;refine ⟨_,rfl,?_⟩;replace ad:Zg ah ai ah al:=.of_below ad;refine go ?_;replace ac:=ac.gr ad;replace aa:=aa.grow ad;refine Zs hm (fun hb hm=>go ?_) fun hb hm=>go ?_
 ·cases hm;exact ⟨rfl,rfl,aa.below⟩
 refine X3 ac ?_;refine go ?_;refine Zs hm (fun hb hm=>go ?_) fun hb hm=>go ?_
 ·cases hm;exact ⟨rfl,rfl,aa.below⟩
 cases hm;exact ⟨rfl,rfl,aa.below⟩
def Zjd (N:Nat) (aa:R3) (ab:R3):Option Int:=
  (Se N (aa.1,aa.2)).bind fun ac=>(Se N (ab.1,ab.2)).bind fun ad=>if (decide (ac<ad))=true then (some (-1)) else (if (decide (ad<ac))=true then (some 1) else ((Zcf N aa.2 ab.2).bind fun ae=>some (i64.wrap (ac * ae))))
theorem Z0k {N aj ak:Nat} {al am:Option Addr} {col:Ze} {w0:World} {ad ae:R3} {r:Int} (hm:Zjd N ad ae=some r) (af:Sl (Za.int .u32) col w0 al aj ad.2) (ag:Sl (Za.int .u32) col w0 am ak ae.2):
    Calls Tryz.prog 57 #[(.agg #[.bool ad.1,.slice al ad.2.length aj]),(.agg #[.bool ae.1,.slice am ae.2.length ak])] w0 (fun e w'=>e= .returned ((.int .i64 r))∧Below w0.heap.size w0 w'):=by
 refine Xo 4 (m:=26) func57 rfl rfl rfl rfl rfl ?_;rw [Zjd.eq_1] at hm;have aa:=St.start col w0;refine go ?_;refine Xy (col:=(Zk col)) 1 rfl ?_;intro az a0 ao ap ac;refine Xy (col:=ao) 2 rfl ?_;intro a1 a2 ab an ah;refine go ?_;refine Ur (col:=ab) (by kernel_rfl) (by kernel_rfl) ?_;replace ac:=ac.gr an;refine qv rfl (fun _ hC=>Xj isAgg33 sizeOf33 (ac.gr (hC.bl ab))) ?_;obtain ⟨aq,ar,hm⟩:=bZ hm;replace af:=af.keep (Zl.start col w0);replace aa:=(aa.grow ap).grow an;refine qc (v:=(.int .i64 aq)) rfl (fun _ hC=>⟨_,_,Zek call44 rfl,(Zc9 ar ((af.ks aa).gr (hC.bl ab)):).mono fun _ _ h=>⟨h.1,hC.trans (.of_below h.2)⟩⟩) ?_;refine qv rfl (fun _ hC=>Xj isAgg33 sizeOf33 (ah.gr (hC.bl ab))) ?_;obtain ⟨au,av,hm⟩:=bZ hm;replace ag:=ag.keep (Zl.start col w0);refine qc (v:=(.int .i64 au)) rfl (fun _ hC=>⟨_,_,Zek call44 rfl,(Zc9 av ((ag.ks aa).gr (hC.bl ab)):).mono fun _ _ h=>⟨h.1,hC.trans (.of_below h.2)⟩⟩) ?_;refine go ?_;refine Vn ?_;intro aw hC;replace hC:=hC.bl ab;refine go ?_;replace ac:=ac.gr hC;replace ah:=ah.gr hC;replace aa:=aa.grow hC;refine Zs hm (fun hb hm=>go ?_) fun hb hm=>go ?_
 ·cases hm;exact ⟨rfl,rfl,aa.below⟩
 refine Zs hm (fun hb hm=>go ?_) fun hb hm=>go ?_
 ·cases hm;exact ⟨rfl,rfl,aa.below⟩
 refine X3 ac<|X3 ah ?_;obtain ⟨a3,ax,hm⟩:=bZ hm;refine Zi (Zki ax (af.ks aa) (ag.ks aa)) ?_;rintro _ ay ⟨rfl,ai⟩;refine ⟨_,rfl,?_⟩;replace ai:Zg ab aw ab ay:=.of_below ai;refine go ?_;cases hm;replace aa:=aa.grow ai;exact ⟨rfl,rfl,aa.below⟩
def Tn (N:Nat) (aa:R0) (ab:R0):Option Int:=
  (Vy N ((ab.1.1,ab.1.2),ab.2)).bind fun ae=>(Zag N (aa.1.1,aa.1.2) ae).bind fun ac=>(Vy N ((aa.1.1,aa.1.2),aa.2)).bind fun af=>(Zag N (ab.1.1,ab.1.2) af).bind fun ad=>(Zjd N (ac.1,ac.2) (ad.1,ad.2)).bind fun ag=>some ag
theorem Zew {N ap a0 aq a1:Nat} {ar a2 au a3:Option Addr} {col:Ze} {w0:World} {ac ad:R0} {r:Int} (hm:Tn N ac ad=some r) (al:Sl (Za.int .u32) col w0 ar ap ac.1.2) (av:Sl (Za.int .u32) col w0 a2 a0 ac.2) (am:Sl (Za.int .u32) col w0 au aq ad.1.2) (aw:Sl (Za.int .u32) col w0 a3 a1 ad.2):
    Calls Tryz.prog 17 #[(.agg #[.bool ac.1.1,.slice ar ac.1.2.length ap,.slice a2 ac.2.length a0]),(.agg #[.bool ad.1.1,.slice au ad.1.2.length aq,.slice a3 ad.2.length a1])] w0 (fun e w'=>e= .returned ((.int .i64 r))∧Below w0.heap.size w0 w'):=by
 refine Xo 4 (m:=16) func17 rfl rfl rfl rfl rfl ?_;rw [Tn.eq_1] at hm;have aa:=St.start col w0;refine go ?_;refine Xy (col:=(Zk col)) 1 rfl ?_;intro bm bn a8 a9 an;refine Xy (col:=a8) 2 rfl ?_;intro bo bp ae a4 a5;refine go ?_;refine W6 (col:=ae) [(0,1),(1,0),(2,0),(5,1),(6,0),(7,0),(3,3),(4,3),(8,3),(9,3),(10,3),(11,1)] (by kernel_rfl) (by kernel_rfl)<|xF ⟨_,_,rfl⟩ ?_;replace an:=an.gr a4;refine xv (v:=(.agg #[.bool ac.1.1,.slice ar ac.1.2.length ap])) rfl rfl (fun _ hC=>Xt isAgg33 sizeOf33 rfl rfl (((an.atN).part 0 2 _ rfl).gr (hC.bl ae))) ?_;refine xv rfl rfl (fun _ hC=>Xj isAgg35 sizeOf35 (a5.gr (hC.bl ae))) ?_;refine xF ⟨_,_,rfl⟩ ?_;refine xv (v:=(.agg #[.bool ad.1.1,.slice au ad.1.2.length aq])) rfl rfl (fun _ hC=>Xt isAgg33 sizeOf33 rfl rfl (((a5.atN).part 0 2 _ rfl).gr (hC.bl ae))) ?_;refine xv rfl rfl (fun _ hC=>Xj isAgg35 sizeOf35 (an.gr (hC.bl ae))) ?_;refine xe rfl rfl ?_;intro bq hC0;have hC:=hC0.bl ae;obtain ⟨br,ba,hm⟩:=bZ hm;replace am:=am.keep (Zl.start col w0);replace aw:=aw.keep (Zl.start col w0);replace aa:=((aa.grow a9).grow a4).grow hC;refine Zi (U7 3 ba (am.ks aa) (aw.ks aa)) ?_;rintro _ bs ⟨ah,bt,bu,rfl,a6,ax⟩;refine ⟨_,rfl,?_⟩;refine Zm<|Yd ah hC0 a6<|xe rfl rfl ?_;intro bb hC0;have hC:=hC0.bl ah;obtain ⟨bv,bc,hm⟩:=bZ hm;replace al:=al.keep (Zl.start col w0);replace aa:=(aa.grow a6).grow hC;replace ax:=ax.gr hC;refine Zi (Zez 4 bc ((al.ks aa).froz 3) (ax.toSlF (Zh.int .u32))) ?_;rintro _ bw ⟨bd,bx,bz,rfl,ai,ab⟩;refine ⟨_,rfl,?_⟩;replace av:=av.keep (Zl.start col w0);replace ab:=ab.thaw (Z0 .u32) ai ((Fz.refl (col:=ah)).froz 3) (by decide);replace ai:=ai.thawR (col:=ah);generalize Xa bb.heap.size ah bd=a7 at *;refine Zm<|Yd a7 hC0 ai<|xe rfl rfl ?_;intro b0 hC0;have hC:=hC0.bl a7;obtain ⟨b1,be,hm⟩:=bZ hm;replace aa:=(aa.grow ai).grow hC;refine Zi (U7 5 be (al.ks aa) (av.ks aa)) ?_;rintro _ b2 ⟨aj,b3,b4,rfl,ay,az⟩;refine ⟨_,rfl,?_⟩;refine Zm<|Yd aj hC0 ay<|xe rfl rfl ?_;intro bf hC0;replace ab:=(ab.gr hC).gr ay;have hC:=hC0.bl aj;obtain ⟨b5,bg,hm⟩:=bZ hm;replace aa:=(aa.grow ay).grow hC;replace az:=az.gr hC
 refine Zi (Zez 6 bg ((am.ks aa).froz 5) (az.toSlF (Zh.int .u32))) ?_;rintro _ b6 ⟨bh,b7,b8,rfl,af,ak⟩;refine ⟨_,rfl,?_⟩;replace ak:=ak.thaw (Z0 .u32) af ((Fz.refl (col:=aj)).froz 5) (by decide);replace af:=af.thawR (col:=aj);generalize Xa bf.heap.size aj bh=ag at *;refine Zm<|Yd ag hC0 af<|xe rfl rfl ?_;intro bi hC0;replace ab:=(ab.gr hC).gr af;have hC:=hC0.bl ag;obtain ⟨b9,bj,hm⟩:=bZ hm;replace ab:=ab.gr hC;replace ak:=ak.gr hC;refine Zi (Z0k bj ((ab.toSlF (Zh.int .u32)).froz 6) ((ak.froz 4 (by decide)).toSlF (Zh.int .u32))) ?_;rintro _ bk ⟨rfl,ao⟩;refine ⟨_,rfl,?_⟩;replace ao:Zg ag bi ag bk:=.of_below ao;refine Zm<|Yd ag hC0 ao<|xu rfl rfl (fun _=>Zmo rfl) ?_;refine W3 ?_;replace aa:=((aa.grow af).grow hC).grow ao;intro ca hC;replace hC:=hC.bl ag;refine Vp ?_;cases hm;replace aa:=aa.grow hC;exact ⟨rfl,rfl,aa.below⟩
def Zb8 (N:Nat):List R0→Bool→R2→R2→Option R0
  | [],aa,ab,ac=>some ((aa,ab),ac)
  | ad :: af,aa,ab,ac=>(Uv N ((aa,ab),ac) ((ad.1.1,ad.1.2),ad.2)).bind fun ae=>(Zb8 N af) ae.1.1 ae.1.2 ae.2
termination_by structural x=>x
def Za4 (N:Nat) (aa:R9):Option R0:=
  (Zal N 1).bind fun ab=>Zb8 N aa false ([]:List Int) ab
theorem Zkg {N ba:Nat} {a0:Option Addr} {col:Ze} {w0:World} {af:R9} {r:R0} (c1 c2:Nat) (hm:Za4 N af=some r) (h0:Sl (Za.pair (Za.pair Za.bool (Za.slice (Za.int .u32))) (Za.slice (Za.int .u32))) col w0 a0 ba af):
    Calls Tryz.prog 23 #[.slice a0 af.length ba] w0 (fun e w'=>∃ (col':Ze) (ra1:Option Addr) (rc2:Nat) (ra4:Option Addr) (rc5:Nat),e= .returned ((.agg #[.bool r.1.1,.slice ra1 r.1.2.length rc2,.slice ra4 r.2.length rc5]))∧Zg col w0 col' w'∧Zc (Za.int .u32) 77 c1 col' w' ra1 rc2 r.1.2∧Zc (Za.int .u32) 77 c2 col' w' ra4 rc5 r.2):=by
 refine Yu (m:=19) func23 rfl rfl rfl ?_;rw [Za4.eq_1] at hm;have aa:=St.start col w0;refine go ?_;refine Xl (col:=(Zk col)) #[.bool false,.slice none (([]:List Int).length) 0,.slice none (([]:List Int).length) 0] 1 zeroValue35 ?_;intro bc cb bd be ab;refine go ?_;obtain ⟨bf,bg,hm⟩:=bZ hm;refine Zi (Ze0 (col:=bd) 2 bg) ?_;rintro _ cc ⟨bh,bi,bj,rfl,bb,aw⟩;refine ⟨_,rfl,?_⟩;refine lV (.agg #[.bool false,.slice none (([]:List Int).length) 0,.slice bi bf.length bj]) (Yk (l:=[_,_]) (qs:=[(0,2),(2,1)]) underlying35 zeroValue35 ⟨rfl,sizeOf33,rfl,sizeOf31,trivial⟩ rfl)<|Xl (col:=bh) #[.bool false,.slice none (([]:List Int).length) 0,.slice none (([]:List Int).length) 0] 3 zeroValue35 ?_;intro bk cd ce ax bm;refine Z2 bm ?_;intro cf ay bn ac;refine go ?_;replace aa:=(((aa.grow be).grow bb).grow ax).kp ay bn;replace ab:=((ab.gr bb).gr ax).kp ay;replace aw:=(aw.gr ax).kp ay;refine Xe [2,3,8,9,1000000] (fun n f ak=>∃ ag an az a1 a2 aq a3 a4 ar ao,n=ao.length∧af.drop an=ao∧Zb8 N ao az aq ar=some r∧St w0 (Zk col) ag ak∧Zo 35 1 ag ak bc #[.bool false,.slice none (([]:List Int).length) 0,.slice none (([]:List Int).length) 0]∧Zc (Za.int .u32) 77 4 ag ak a1 a2 aq∧Zc (Za.int .u32) 77 2 ag ak a3 a4 ar∧Zo 35 3 ag ak bk #[.bool az,.slice a1 aq.length a2,.slice a3 ar.length a4]∧[10].map f=[.int .i64 an]) af.length ⟨_,0,_,none,0,_,_,_,_,_,rfl,rfl,hm,aa,ab,Zc.nil,aw,ac,rfl⟩ ?_;clear hm;intro n f ak hI;obtain ⟨ag,an,az,a1,a2,aq,a3,a4,ar,ao,hn,hl,hm,aa,ab,al,am,ac,hs⟩:=hI;subst hn;refine .lL [10] hs ?_;replace h0:=h0.keep (Zl.start col w0)
 cases ao with
 | nil=>
  have hk:¬ ((an:Int)<(af.length:Int)):=by have:=List.drop_eq_nil_iff.1 hl;omega
  have hkb:=decide_eq_false hk;rw [Zb8.eq_1] at hm;refine go ?_;refine Yv (congrArg Value.bool hkb)<|go ?_;refine lV _ (Xj isAgg35 sizeOf35 ac)<|Z2 ab ?_;intro cg a5 bo bp;refine go ?_;cases hm;replace al:=al.kp a5;replace am:=am.kp a5;replace aa:=aa.kp a5 bo;exact ⟨rfl,_,ra bp.atN,_,_,_,_,_,rfl,aa.fin (cm [(4,c1),(2,c2)]),aa.fo al,aa.fo am⟩
 | cons a6 bq=>
  obtain ⟨a7,br,bs⟩:=Y1 hl;have hk:(an:Int)<(af.length:Int):=by omega
  have hkb:=decide_eq_true hk;rw [Zb8.eq_2] at hm;refine go ?_;refine Yw (congrArg Value.bool hkb)<|go ?_;refine lI a7 ((h0.ks aa).addr a7) ?_;obtain ⟨_,bt,bu⟩:=(h0.ks aa).atN a7;obtain ⟨_,_,rfl,bv,bw⟩:=Vu bt;obtain ⟨_,_,rfl,bx,bz⟩:=Vu bv;obtain ⟨rfl,_⟩:=bx;obtain ⟨⟨b0,b1,rfl,a8⟩,_⟩:=bz;obtain ⟨⟨b2,b3,rfl,a9⟩,_⟩:=bw;refine lV (.agg #[.bool a6.1.1,.slice b0 a6.1.2.length b1,.slice b2 a6.2.length b3]) (Xt isAgg35 sizeOf35 rfl rfl bu)<|Xl (col:=ag) #[.bool false,.slice none (([]:List Int).length) 0,.slice none (([]:List Int).length) 0] 5 zeroValue35 ?_;intro ch ci au ah b4;refine Z2 b4 ?_;intro b5 ai b6 b7;refine go ?_;replace ac:=(ac.gr ah).kp ai;refine lV _ (Xj isAgg35 sizeOf35 ac)<|lV _ (Xj isAgg35 sizeOf35 b7) ?_;obtain ⟨cj,b8,hm⟩:=bZ hm;replace al:=(al.gr ah).kp ai;replace am:=(am.gr ah).kp ai;replace a8:=(a8.gr ah).kp ai;replace a9:=(a9.gr ah).kp ai;refine Zi (Zev 6 7 b8 ((al.toSlF (Zh.int .u32)).froz 2) ((am.froz 4 (by decide)).toSlF (Zh.int .u32)) ((a8.froz 4).froz 2) ((a9.froz 4).froz 2)) ?_;rintro _ ck ⟨b9,cl,cn,co,cp,rfl,aj,ad,ae⟩;refine ⟨_,rfl,?_⟩;replace ad:=ad.thaw (Z0 .u32) aj (((Fz.refl (col:=au)).froz 4).froz 2) (by decide);replace ae:=ae.thaw (Z0 .u32) aj (((Fz.refl (col:=au)).froz 4).froz 2) (by decide);replace aj:=aj.thawR (col:=au);generalize Xa b5.heap.size au b9=cq at *;replace ac:=ac.gr aj;refine Z2 ac ?_;intro cr av ca ap;refine go ?_;replace ad:=ad.kp av;replace ad:=ad.recolSelf 4 (by decide);replace ae:=ae.kp av;replace ae:=ae.recol 6 4 (by decide);replace ab:=(((ab.gr ah).kp ai).gr aj).kp av;replace ab:=ab.recol 6 4 (by decide);replace ap:=ap.recol 6 4 (by decide);replace aa:=(((aa.grow ah).kp ai b6).grow aj).kp av ca;replace aa:=aa.recol 6 4 (by decide) (by decide);replace ad:=ad.recol 7 2 (by decide);replace ae:=ae.recolSelf 2 (by decide);replace ab:=ab.recol 7 2 (by decide);replace ap:=ap.recol 7 2 (by decide);replace aa:=aa.recol 7 2 (by decide) (by decide);exact ⟨bq.length,by simp,rfl,⟨_,_,_,_,_,_,_,_,_,_,rfl,br,hm,aa,ab,ad,ae,ap,(Y7 (congrArg (Value.int .i64) (Y3 (Nat.lt_of_lt_of_le bs (h0.ks aa).1.1))) rfl)⟩⟩
def Zcv (N:Nat) (aa:Int):Option R3:=
  if (decide (aa<0))=true then ((Zal N (u64.wrap (-(u64.wrap aa)))).bind fun ad=>(Tr N true ad).bind fun ab=>some (ab.1,ab.2)) else ((Zal N (u64.wrap aa)).bind fun ae=>(Tr N false ae).bind fun ac=>some (ac.1,ac.2))
theorem Zn1 {N:Nat} {col:Ze} {w0:World} {ai:Int} {r:R3} (c1:Nat) (hm:Zcv N ai=some r):
    Calls Tryz.prog 56 #[.int .i64 ai] w0 (fun e w'=>∃ (col':Ze) (ra1:Option Addr) (rc2:Nat),e= .returned ((.agg #[.bool r.1,.slice ra1 r.2.length rc2]))∧Zg col w0 col' w'∧Zc (Za.int .u32) 77 c1 col' w' ra1 rc2 r.2):=by
 refine Yu (m:=14) func56 rfl rfl rfl ?_;rw [Zcv.eq_1] at hm;have aa:=St.start col w0;refine go ?_;refine Xl (col:=(Zk col)) #[.bool false,.slice none (([]:List Int).length) 0] 1 zeroValue33 ?_;intro a5 a6 aj ao ab;refine go ?_;replace aa:=aa.grow ao;refine Zs hm (fun hb hm=>go ?_) fun hb hm=>go ?_
 ·obtain ⟨a7,ap,hm⟩:=bZ hm;refine Zi (Ze0 (col:=aj) 2 ap) ?_;rintro _ aq ⟨ag,a8,a9,rfl,ak,ar⟩;refine ⟨_,rfl,?_⟩;obtain ⟨ba,au,hm⟩:=bZ hm;refine Zi (Q3 3 au (ar.toSlF (Zh.int .u32))) ?_;rintro _ bb ⟨av,bc,bd,rfl,ac,ad⟩;refine ⟨_,rfl,?_⟩;replace ad:=ad.thaw (Z0 .u32) ac ((Fz.refl (col:=ag)).froz 2) (by decide);replace ac:=ac.thawR (col:=ag);generalize Xa aq.heap.size ag av=be at *;replace ab:=(ab.gr ak).gr ac;refine Z2 ab ?_;intro bf al aw ax;refine go ?_;cases hm;replace aa:=((aa.grow ak).grow ac).kp al aw;replace ad:=ad.kp al;exact ⟨rfl,_,ra ax.atN,_,_,_,rfl,aa.fin (cm [(3,c1)]),aa.fo ad⟩
 obtain ⟨bg,ay,hm⟩:=bZ hm;refine Zi (Ze0 (col:=aj) 4 ay) ?_;rintro _ az ⟨ah,bh,bi,rfl,am,a0⟩;refine ⟨_,rfl,?_⟩;obtain ⟨bj,a1,hm⟩:=bZ hm;refine Zi (Q3 5 a1 (a0.toSlF (Zh.int .u32))) ?_;rintro _ bk ⟨a2,bm,bn,rfl,ae,af⟩;refine ⟨_,rfl,?_⟩;replace af:=af.thaw (Z0 .u32) ae ((Fz.refl (col:=ah)).froz 4) (by decide);replace ae:=ae.thawR (col:=ah);generalize Xa az.heap.size ah a2=bo at *;replace ab:=(ab.gr am).gr ae;refine Z2 ab ?_;intro bp an a3 a4;refine go ?_;cases hm;replace aa:=((aa.grow am).grow ae).kp an a3;replace af:=af.kp an;exact ⟨rfl,_,ra a4.atN,_,_,_,rfl,aa.fin (cm [(5,c1)]),aa.fo af⟩
def Zh9 (N:Nat) (ac:R3) (aa:R3):Option (R0×Int):=
  (Se N (aa.1,aa.2)).bind fun ad=>if (decide (ad=0))=true then (some (((false,([]:List Int)),([]:List Int)),11)) else ((Zaf N (!decide (ac.1=aa.1)) ac.2 aa.2).bind fun ab=>some (((ab.1.1,ab.1.2),ab.2),0))
theorem Zzl {N an ao:Nat} {ap aq:Option Addr} {col:Ze} {w0:World} {ae af:R3} {r:(R0×Int)} (c1 c2:Nat) (hm:Zh9 N ae af=some r) (ai:Sl (Za.int .u32) col w0 ap an ae.2) (ag:Sl (Za.int .u32) col w0 aq ao af.2):
    Calls Tryz.prog 55 #[(.agg #[.bool ae.1,.slice ap ae.2.length an]),(.agg #[.bool af.1,.slice aq af.2.length ao])] w0 (fun e w'=>∃ (col':Ze) (ra1:Option Addr) (rc2:Nat) (ra4:Option Addr) (rc5:Nat),e= .returned (.tuple #[(.agg #[.bool r.1.1.1,.slice ra1 r.1.1.2.length rc2,.slice ra4 r.1.2.length rc5]),.int .i64 r.2])∧Zg col w0 col' w'∧Zc (Za.int .u32) 77 c1 col' w' ra1 rc2 r.1.1.2∧Zc (Za.int .u32) 77 c2 col' w' ra4 rc5 r.1.2):=by
 refine Yu (m:=20) func55 rfl rfl rfl ?_;rw [Zh9.eq_1] at hm;have aa:=St.start col w0;refine go ?_;refine Xy (col:=(Zk col)) 1 rfl ?_;intro a8 a9 aw ax ah;refine Xy (col:=aw) 2 rfl ?_;intro ba bb ay ar ab;refine Xl (col:=ay) #[.bool false,.slice none (([]:List Int).length) 0,.slice none (([]:List Int).length) 0] 3 zeroValue35 ?_;intro bc az au aj ac;refine go ?_;replace ab:=ab.gr aj;refine lV _ (Xj isAgg33 sizeOf33 ab) ?_;obtain ⟨bd,a0,hm⟩:=bZ hm;replace ag:=ag.keep (Zl.start col w0);replace aa:=((aa.grow ax).grow ar).grow aj;refine Zi (Zc9 a0 (ag.ks aa)) ?_;rintro _ a1 ⟨rfl,ad⟩;refine ⟨_,rfl,?_⟩;replace ad:Zg au az au a1:=.of_below ad;refine go ?_;replace ai:=ai.keep (Zl.start col w0);replace ah:=((ah.gr ar).gr aj).gr ad;replace ab:=ab.gr ad;replace ac:=ac.gr ad;replace aa:=aa.grow ad;refine Zs hm (fun hb hm=>go ?_) fun hb hm=>go ?_
 ·refine lV (.agg #[.bool false,.slice none (([]:List Int).length) 0,.slice none (([]:List Int).length) 0]) (Yk (l:=[_,_]) (qs:=[(0,2),(2,1)]) underlying35 zeroValue35 ⟨rfl,sizeOf33,rfl,sizeOf31,trivial⟩ rfl)<|Z2 ac ?_;intro be a2 a3 a4;refine go ?_;cases hm;replace aa:=aa.kp a2 a3;exact ⟨rfl,_,Tw a4.atN,_,none,0,none,0,rfl,aa.fin (cm []),Zc.nil,Zc.nil⟩
 refine X3 ah<|X3 ab ?_;refine go ?_;refine X3 ah<|X3 ab ?_;obtain ⟨bf,a5,hm⟩:=bZ hm;refine Zi (Zey 4 5 a5 (ai.ks aa) (ag.ks aa)) ?_;rintro _ bg ⟨bh,bi,bj,bk,bm,rfl,av,ak,al⟩;refine ⟨_,rfl,?_⟩;replace ac:=ac.gr av;refine Z2 ac ?_;intro bn am a6 a7;refine go ?_;cases hm;replace aa:=(aa.grow av).kp am a6;replace ak:=ak.kp am;replace al:=al.kp am;exact ⟨rfl,_,Tw a7.atN,_,_,_,_,_,rfl,aa.fin (cm [(4,c1),(5,c2)]),aa.fo ak,aa.fo al⟩
def Zia (N:Nat) (ad:Int) (ae:Int):Option (R0×Int):=
  (Zcv N ad).bind fun ab=>(Zcv N ae).bind fun ac=>(Zh9 N (ab.1,ab.2) (ac.1,ac.2)).bind fun aa=>some (((aa.1.1.1,aa.1.1.2),aa.1.2),aa.2)
theorem Zzm {N:Nat} {col:Ze} {w0:World} {ak al:Int} {r:(R0×Int)} (c1 c2:Nat) (hm:Zia N ak al=some r):
    Calls Tryz.prog 16 #[.int .i64 ak,.int .i64 al] w0 (fun e w'=>∃ (col':Ze) (ra1:Option Addr) (rc2:Nat) (ra4:Option Addr) (rc5:Nat),e= .returned (.tuple #[(.agg #[.bool r.1.1.1,.slice ra1 r.1.1.2.length rc2,.slice ra4 r.1.2.length rc5]),.int .i64 r.2])∧Zg col w0 col' w'∧Zc (Za.int .u32) 77 c1 col' w' ra1 rc2 r.1.1.2∧Zc (Za.int .u32) 77 c2 col' w' ra4 rc5 r.1.2):=by
 refine Yu (m:=13) func16 rfl rfl rfl ?_;rw [Zia.eq_1] at hm;have ab:=St.start col w0;refine go ?_;refine Xl (col:=(Zk col)) #[.bool false,.slice none (([]:List Int).length) 0,.slice none (([]:List Int).length) 0] 1 zeroValue35 ?_;intro a4 a5 an ao ag;refine go ?_;obtain ⟨a6,ap,hm⟩:=bZ hm;refine Zi (Zn1 (col:=an) 2 ap) ?_;rintro _ a7 ⟨aq,a8,a9,rfl,am,ah⟩;refine ⟨_,rfl,?_⟩;refine Yn rfl ?_;obtain ⟨ba,ar,hm⟩:=bZ hm;refine Zi (Zn1 (col:=aq) 3 ar) ?_;rintro _ au ⟨ae,bb,bc,rfl,ai,av⟩;refine ⟨_,rfl,?_⟩;obtain ⟨af,aw,hm⟩:=bZ hm;replace ah:=ah.gr ai;refine Zi (Zzl 4 5 aw ((ah.toSlF (Zh.int .u32)).froz 3) ((av.froz 2 (by decide)).toSlF (Zh.int .u32))) ?_;rintro _ bd ⟨ax,ay,az,a0,a1,rfl,aa,ac,ad⟩;refine ⟨_,rfl,?_⟩;replace ac:=ac.thaw (Z0 .u32) aa (((Fz.refl (col:=ae)).froz 2).froz 3) (by decide);replace ad:=ad.thaw (Z0 .u32) aa (((Fz.refl (col:=ae)).froz 2).froz 3) (by decide);replace aa:=aa.thawR (col:=ae);generalize Xa au.heap.size ae ax=be at *;refine lV (.agg #[.bool af.1.1.1,.slice ay af.1.1.2.length az,.slice a0 af.1.2.length a1]) (Xh rfl rfl)<|lV (.int .i64 af.2) (Xh rfl rfl) ?_;replace ag:=((ag.gr am).gr ai).gr aa;refine Z2 ag ?_;intro bf aj a2 a3;refine go ?_;cases hm;replace ab:=((((ab.grow ao).grow am).grow ai).grow aa).kp aj a2;replace ac:=ac.kp aj;replace ad:=ad.kp aj;exact ⟨rfl,_,Tw a3.atN,_,_,_,_,_,rfl,ab.fin (cm [(4,c1),(5,c2)]),ab.fo ac,ab.fo ad⟩
def Zae (N:Nat) (aa:R0):Option Int:=
  (Se N (aa.1.1,aa.1.2)).bind fun ab=>some ab
theorem Znp {N ac ag:Nat} {ad ah:Option Addr} {col:Ze} {w0:World} {aa:R0} {r:Int} (hm:Zae N aa=some r) (ae:Sl (Za.int .u32) col w0 ad ac aa.1.2) (ao:Sl (Za.int .u32) col w0 ah ag aa.2):
    Calls Tryz.prog 12 #[(.agg #[.bool aa.1.1,.slice ad aa.1.2.length ac,.slice ah aa.2.length ag])] w0 (fun e w'=>e= .returned ((.int .i64 r))∧Below w0.heap.size w0 w'):=by
 refine Xo 2 (m:=6) func12 rfl rfl rfl rfl rfl ?_;rw [Zae.eq_1] at hm;have ab:=St.start col w0;refine go ?_;refine Xy (col:=(Zk col)) 1 rfl ?_;intro ap aj ai ak al;refine go ?_;refine X8 ⟨_,_,rfl⟩ ?_;refine lV (.agg #[.bool aa.1.1,.slice ad aa.1.2.length ac]) (Xt isAgg33 sizeOf33 rfl rfl ((al.atN).part 0 2 _ rfl)) ?_;obtain ⟨aq,am,hm⟩:=bZ hm;replace ae:=ae.keep (Zl.start col w0);replace ab:=ab.grow ak;refine Zi (Zc9 am (ae.ks ab)) ?_;rintro _ an ⟨rfl,af⟩;refine ⟨_,rfl,?_⟩;replace af:Zg ai aj ai an:=.of_below af;refine go ?_;cases hm;replace ab:=ab.grow af;exact ⟨rfl,rfl,ab.below⟩
def Zfv (N:Nat) (aa:R0):Option R0:=
  (Vy N ((aa.1.1,aa.1.2),aa.2)).bind fun ac=>(Zaf N (!aa.1.1) aa.1.2 ac).bind fun ab=>some ((ab.1.1,ab.1.2),ab.2)
theorem Zzk {N aq ar:Nat} {au av:Option Addr} {col:Ze} {w0:World} {af r:R0} (c1 c2:Nat) (hm:Zfv N af=some r) (aj:Sl (Za.int .u32) col w0 au aq af.1.2) (al:Sl (Za.int .u32) col w0 av ar af.2):
    Calls Tryz.prog 41 #[(.agg #[.bool af.1.1,.slice au af.1.2.length aq,.slice av af.2.length ar])] w0 (fun e w'=>∃ (col':Ze) (ra1:Option Addr) (rc2:Nat) (ra4:Option Addr) (rc5:Nat),e= .returned ((.agg #[.bool r.1.1,.slice ra1 r.1.2.length rc2,.slice ra4 r.2.length rc5]))∧Zg col w0 col' w'∧Zc (Za.int .u32) 77 c1 col' w' ra1 rc2 r.1.2∧Zc (Za.int .u32) 77 c2 col' w' ra4 rc5 r.2):=by
 refine Yu (m:=13) func41 rfl rfl rfl ?_;rw [Zfv.eq_1] at hm;have aa:=St.start col w0;refine go ?_;refine Xy (col:=(Zk col)) 1 rfl ?_;intro a4 a5 ax ay ah;refine Xl (col:=ax) #[.bool false,.slice none (([]:List Int).length) 0,.slice none (([]:List Int).length) 0] 2 zeroValue35 ?_;intro a6 a7 ai aw ab;refine go ?_;refine W6 (col:=ai) [(0,1),(1,1),(2,0),(3,1),(4,1),(5,1),(6,0),(7,0),(8,3),(9,3),(10,2)] (by kernel_rfl) (by kernel_rfl)<|xF ⟨_,_,rfl⟩ ?_;refine xF (Ty ⟨_,_,rfl⟩) ?_;replace ah:=ah.gr aw;refine xW (fun _ hC=>((((ah.atN).part 0 2 _ rfl)).nth (q:=0) rfl).gr (hC.bl ai)) ?_;refine xu rfl rfl (fun _=>Zmt _ rfl) ?_;refine xF ⟨_,_,rfl⟩ ?_;refine xF (Ty ⟨_,_,rfl⟩) ?_;refine xW (fun _ hC=>((((ah.atN).part 0 2 _ rfl)).nth (q:=1) rfl).gr (hC.bl ai)) ?_;refine xv rfl rfl (fun _ hC=>Xj isAgg35 sizeOf35 (ah.gr (hC.bl ai))) ?_;refine xe rfl rfl ?_;intro a8 hC0;have hC:=hC0.bl ai;obtain ⟨a9,az,hm⟩:=bZ hm;replace aj:=aj.keep (Zl.start col w0);replace al:=al.keep (Zl.start col w0);replace aa:=((aa.grow ay).grow aw).grow hC;refine Zi (U7 3 az (aj.ks aa) (al.ks aa)) ?_;rintro _ ba ⟨ag,bb,bc,rfl,am,an⟩;refine ⟨_,rfl,?_⟩;refine Zm<|Yd ag hC0 am<|xe rfl rfl ?_;intro a0 hC0;replace ab:=(ab.gr hC).gr am;have hC:=hC0.bl ag;obtain ⟨bd,a1,hm⟩:=bZ hm;replace aa:=(aa.grow am).grow hC;replace an:=an.gr hC;refine Zi (Zey 4 5 a1 ((aj.ks aa).froz 3) (an.toSlF (Zh.int .u32))) ?_;rintro _ be ⟨a2,bf,bg,bh,bi,rfl,ac,ad,ae⟩;refine ⟨_,rfl,?_⟩;replace ad:=ad.thaw (Z0 .u32) ac ((Fz.refl (col:=ag)).froz 3) (by decide);replace ae:=ae.thaw (Z0 .u32) ac ((Fz.refl (col:=ag)).froz 3) (by decide);replace ac:=ac.thawR (col:=ag);generalize Xa a0.heap.size ag a2=ak at *;refine Zm<|Yd ak hC0 ac<|xe rfl rfl ?_;intro bj hC0;replace ab:=(ab.gr hC).gr ac;have hC:=hC0.bl ak;replace ab:=ab.gr hC;refine Z2 ab ?_;intro bk ao a3 ap;refine Zm<|xk ak<|W3 ?_;replace aa:=((aa.grow ac).grow hC).kp ao a3;replace ad:=(ad.gr hC).kp ao;replace ae:=(ae.gr hC).kp ao;intro bm hC;replace hC:=hC.bl ak;refine Vp ?_;cases hm;replace ad:=ad.gr hC;replace ae:=ae.gr hC;replace ap:=ap.gr hC;replace aa:=aa.grow hC;exact ⟨rfl,_,ra ap.atN,_,_,_,_,_,rfl,aa.fin (cm [(4,c1),(5,c2)]),aa.fo ad,aa.fo ae⟩
def Zg6 (N:Nat) (aa:R3):Option R3:=
  (Tr N (!aa.1) aa.2).bind fun ab=>some (ab.1,ab.2)
theorem Z0n {N ag:Nat} {ah:Option Addr} {col:Ze} {w0:World} {ab r:R3} (c1:Nat) (hm:Zg6 N ab=some r) (ad:Sl (Za.int .u32) col w0 ah ag ab.2):
    Calls Tryz.prog 39 #[(.agg #[.bool ab.1,.slice ah ab.2.length ag])] w0 (fun e w'=>∃ (col':Ze) (ra1:Option Addr) (rc2:Nat),e= .returned ((.agg #[.bool r.1,.slice ra1 r.2.length rc2]))∧Zg col w0 col' w'∧Zc (Za.int .u32) 77 c1 col' w' ra1 rc2 r.2):=by
 refine Yu (m:=9) func39 rfl rfl rfl ?_;rw [Zg6.eq_1] at hm;have aa:=St.start col w0;refine go ?_;refine Xy (col:=(Zk col)) 1 rfl ?_;intro aq ar al am ac;refine Xl (col:=al) #[.bool false,.slice none (([]:List Int).length) 0] 2 zeroValue33 ?_;intro au av aw ai ae;refine go ?_;refine X8 ⟨_,_,rfl⟩ ?_;replace ac:=ac.gr ai;refine lW ((ac.atN).nth (q:=0) rfl)<|go ?_;refine X3 ac ?_;obtain ⟨ax,an,hm⟩:=bZ hm;replace ad:=ad.keep (Zl.start col w0);replace aa:=(aa.grow am).grow ai;refine Zi (Q3 3 an (ad.ks aa)) ?_;rintro _ ay ⟨az,a0,a1,rfl,aj,af⟩;refine ⟨_,rfl,?_⟩;replace ae:=ae.gr aj;refine Z2 ae ?_;intro a2 ak ao ap;refine go ?_;cases hm;replace aa:=(aa.grow aj).kp ak ao;replace af:=af.kp ak;exact ⟨rfl,_,ra ap.atN,_,_,_,rfl,aa.fin (cm [(3,c1)]),aa.fo af⟩
theorem Zas {N k:Nat} {neg:Bool} {m:List Int} (hm:Zn m) (hk:m.length≤k) (hr:Z4 N k):Tr N neg m=some (Zr (Zq (neg,m))):=by
 obtain ⟨r1,r2⟩:=hr
 rw [Tr,Zpm hm (by omega) (by omega),Option.bind_some,Zji]
 have e:decide (0<((Zd (Zb m)).length:Int))=decide (Zb m≠0):=by
  by_cases h:Zb m=0
  ·rw [h,W2];decide
  ·have:=T8 h
   rw [decide_eq_true (by omega),decide_eq_true h]
 cases neg
 ·rw [if_neg (by decide),Zg8,Bool.false_and]
 ·rw [if_pos rfl,Zg8,e,Bool.true_and]
theorem Z5n {N k:Nat} {a:ZV} (hm:Zn a.2) (hk:a.2.length≤k) (hr:Z4 N k):Zjg N a=some (Zr (Zq a)):=by
 rw [Zjg,Zas hm hk hr];rfl
theorem Zhh {N k:Nat} {a:ZV} (hm:Zn a.2) (hk:a.2.length≤k) (hr:Z4 N k):Se N a=some (Zq a).sign:=by
 obtain ⟨r1,r2⟩:=hr
 rw [Se,Znj hm (by omega) (by omega),Option.bind_some,Zq]
 by_cases h:Zb a.2=0
 ·rw [h,Zeu,if_pos (by decide)];simp
 ·have h1:Z6 (Zb a.2)≠0:=by rw [Z6,if_neg h];omega
  rw [if_neg (by rw [decide_eq_false (by omega)];decide)]
  by_cases h2:a.1=true
  ·rw [if_pos h2,if_pos h2,Int.sign_eq_neg_one_of_neg (by omega)]
  ·rw [if_neg h2,if_neg h2,Int.sign_eq_one_of_pos (by omega)]
theorem Zhi {a b:ZV}:(a.1=b.1→Zq (a.1,Zd (Zb a.2+Zb b.2))=Zq a+Zq b)∧(a.1≠b.1→(Zb b.2≤Zb a.2→Zq (a.1,Zd (Zb a.2 - Zb b.2))=Zq a+Zq b)∧(Zb a.2<Zb b.2→Zq (b.1,Zd (Zb b.2 - Zb a.2))=Zq a+Zq b)):=by
 obtain ⟨s,x⟩:=a
 obtain ⟨t,y⟩:=b
 simp only [Zq,Zx]
 cases s <;> cases t <;> simp <;> (try constructor) <;> intros <;> omega
theorem Zqv {N k l:Nat} {a b:ZV} (ha:Zn a.2) (hb:Zn b.2) (hk:a.2.length≤k) (hl:b.2.length≤l) (hr:Z4 N (k+l+1)):Zcu N a b=some (Zr (Zq a+Zq b)):=by
 have hr':=hr
 obtain ⟨r1,r2⟩:=hr'
 have la:=Xz ha
 have lb:=Xz hb
 have lsum:(Zd (Zb a.2+Zb b.2)).length≤k+l+1:=Zfb (by omega) (by omega)
 have ls1:(Zd (Zb a.2 - Zb b.2)).length≤k+l+1:=by have:=Y2 (Nat.sub_le (Zb a.2) (Zb b.2));omega
 have ls2:(Zd (Zb b.2 - Zb a.2)).length≤k+l+1:=by have:=Y2 (Nat.sub_le (Zb b.2) (Zb a.2));omega
 rw [Zcu]
 by_cases h:a.1=b.1
 ·rw [if_pos (decide_eq_true h),Zyr ha hb (by omega) (by omega) (by omega) (by omega),Option.bind_some,Zas (Zy _) lsum hr,Option.bind_some,Zhi.1 h]
 ·rw [if_neg (by rw [decide_eq_false h];decide),Zx5 ha hb (by omega) (by omega) (by omega) (by omega),Option.bind_some]
  by_cases hlt:Zb a.2<Zb b.2
  ·rw [if_pos hlt,if_neg (by decide),Zx5 hb ha (by omega) (by omega) (by omega) (by omega),Option.bind_some,if_neg (by omega),Zas (Zy _) ls2 hr,Option.bind_some,(Zhi.2 h).2 hlt]
  ·rw [if_neg hlt,if_pos rfl,Zas (Zy _) ls1 hr,Option.bind_some,(Zhi.2 h).1 (by omega)]
theorem Znc (b:ZV):Zq (!b.1,b.2)= -Zq b:=by
 obtain ⟨s,x⟩:=b
 cases s <;> simp [Zq]
theorem Zyn {N k l:Nat} {a b:ZV} (ha:Zn a.2) (hb:Zn b.2) (hk:a.2.length≤k) (hl:b.2.length≤l) (hr:Z4 N (k+l+1)):Zee N a b=some (Zr (Zq a - Zq b)):=by
 rw [Zee,Zqv (a:=(a.1,a.2)) (b:=(!b.1,b.2)) ha hb hk hl hr,Option.bind_some,Znc,Int.sub_eq_add_neg]
theorem Z5m {N k:Nat} {a:ZV} (hm:Zn a.2) (hk:a.2.length≤k) (hr:Z4 N k):Zg6 N a=some (Zr (-Zq a)):=by
 rw [Zg6,Zas hm hk hr,Option.bind_some,Znc]
theorem Zq1 (a b:ZV):Zq (!decide (a.1=b.1),Zd (Zb a.2 * Zb b.2))=Zq a * Zq b:=by
 obtain ⟨s,x⟩:=a
 obtain ⟨t,y⟩:=b
 simp only [Zq,Zx]
 cases s <;> cases t <;> simp [Int.natCast_mul,Int.neg_mul,Int.mul_neg]
theorem Z5l {N k l:Nat} {a b:ZV} (ha:Zn a.2) (hb:Zn b.2) (hk:a.2.length≤k) (hl:b.2.length≤l) (hr:Z4 N (k+l)):Zjf N a b=some (Zr (Zq a * Zq b)):=by
 have hr':=hr
 obtain ⟨r1,r2⟩:=hr'
 have la:=Xz ha
 have lb:=Xz hb
 have:=Ta (Zb a.2) (Zb b.2)
 rw [Zjf,Zpj ha hb (by omega) (by omega),Option.bind_some,Zas (k:=k+l) (Zy _) (by omega) hr,Option.bind_some,Zq1]
theorem Z5t (a b:ZV):(if (Zq a).sign<(Zq b).sign then -1 else if (Zq b).sign<(Zq a).sign then 1 else (Zq a).sign * (if Zb a.2<Zb b.2 then -1 else if Zb b.2<Zb a.2 then 1 else 0))=Qy (Zq a) (Zq b):=by
 obtain ⟨s,x⟩:=a
 obtain ⟨t,y⟩:=b
 have key:∀ z:Int,z.sign=if z<0 then -1 else if 0<z then 1 else 0:=fun z=>(Znb z).symm
 rw [key,key]
 unfold Qy
 simp only [Zq]
 generalize Zb x=X
 generalize Zb y=Y
 cases s <;> cases t <;> simp only [if_true,Bool.false_eq_true,if_false] <;> (repeat' split) <;> omega
theorem Z5i {N k l:Nat} {a b:ZV} (ha:Zn a.2) (hb:Zn b.2) (hk:a.2.length≤k) (hl:b.2.length≤l) (hr:Z4 N (k+l)):Zjd N a b=some (Qy (Zq a) (Zq b)):=by
 have hr':=hr
 obtain ⟨r1,r2⟩:=hr'
 have sa:-1≤(Zq a).sign∧(Zq a).sign≤1:=by rw [← Znb];unfold Qy;(repeat' split) <;> omega
 rw [Zjd,Zhh ha hk (hr.mono (by omega)),Option.bind_some,Zhh hb hl (hr.mono (by omega)),Option.bind_some,← Z5t a b]
 by_cases h1:(Zq a).sign<(Zq b).sign
 ·rw [if_pos (decide_eq_true h1),if_pos h1]
 ·rw [if_neg (by rw [decide_eq_false h1];decide),if_neg h1]
  by_cases h2:(Zq b).sign<(Zq a).sign
  ·rw [if_pos (decide_eq_true h2),if_pos h2]
  ·rw [if_neg (by rw [decide_eq_false h2];decide),if_neg h2,Zn7 ha hb (by omega) (by omega) (by omega) (by omega),Option.bind_some]
   congr 1
   refine Zv ?_
   have:(Zq a).sign= -1∨(Zq a).sign=0∨(Zq a).sign=1:=by omega
   rcases this with h | h | h <;> rw [h] <;> (repeat' split) <;> decide
theorem Zqy {N:Nat} {z:Int} (h:-9223372036854775808≤z∧z≤9223372036854775807) (hr:Z4 N 2):Zcv N z=some (Zr z):=by
 have hr':=hr
 obtain ⟨r1,r2⟩:=hr'
 have l2:∀ n:Nat,n<18446744073709551616→(Zd n).length≤2:=fun n hn=>Wt.2 (by simpa using hn)
 rw [Zcv]
 by_cases hz:z<0
 ·have e:u64.wrap (-u64.wrap z)= -z:=by rw [IntKind.wrap_u64,IntKind.wrap_u64];omega
  rw [if_pos (decide_eq_true hz),e,Zjj (by omega) (by omega),Option.bind_some,Zas (Zy _) (l2 _ (by omega)) hr,Option.bind_some]
  have e2:Zq (true,Zd (-z).toNat)=z:=by simp only [Zq,Zx,if_true];omega
  rw [e2]
 ·rw [if_neg (by rw [decide_eq_false hz];decide),Xi (by omega),Zjj (by omega) (by omega),Option.bind_some,Zas (Zy _) (l2 _ (by omega)) hr,Option.bind_some]
  have e2:Zq (false,Zd z.toNat)=z:=by simp only [Zq,Zx];simp;omega
  rw [e2]
theorem Zar {N k:Nat} {a:QV} (ha:RV k a) (hr:Z4 N k):Vy N a=some (Zd (Xw a.2)):=by
 obtain ⟨r1,r2⟩:=hr
 have:=ha.ld
 rw [Vy,Zpm ha.d (by omega) (by omega),Option.bind_some,Xw]
 by_cases h:Zb a.2=0
 ·rw [h,W2,if_neg (by decide),if_pos rfl,Zjj (by decide) (by omega)];rfl
 ·have:=T8 h
  rw [if_pos (decide_eq_true (by omega)),if_neg h]
theorem Uk {k:Nat} {a:QV} (ha:RV k a):(Zd (Xw a.2)).length≤k+1:=by
 have h1:=Xz ha.d
 have h2:=ha.ld
 rw [Xw]
 split
 ·rw [W5];simp
 ·omega
theorem Zhb {N k l n:Nat} {a:ZV} (ha:Zn a.2) (hk:a.2.length≤k) (hl:(Zd n).length≤l) (hr:Z4 N (k+l)):Zag N a (Zd n)=some (Zr (Zq a * n)):=by
 rw [Zag,Z5l (a:=(a.1,a.2)) (b:=(false,Zd n)) ha (Zy _) hk hl hr,Option.bind_some]
 have e:Zq (false,Zd n)=n:=by simp [Zq,Zx]
 rw [e]
theorem Zh4 {N k l:Nat} {neg:Bool} {num den:List Int} (hn:Zn num) (hd:Zn den) (h0:Zb den≠0) (hk:num.length≤k) (hl:den.length≤l) (hr:Z4 N (k+l)):
  Zaf N neg num den=some (Zj (mkRat (Zq (neg,num)) (Zb den))):=by
 have hr':=hr
 obtain ⟨r1,r2⟩:=hr'
 have l1:=Xz hn
 have l2:=Xz hd
 have hg:Nat.gcd (Zb num) (Zb den)≠0:=fun h=>h0 (Nat.gcd_eq_zero_iff.1 h).2
 have lg:(Zd (Nat.gcd (Zb num) (Zb den))).length≤den.length:=Nat.le_trans (Y2 (Nat.gcd_le_right _ (by omega))) l2
 have lq:=Y2 (Nat.div_le_self (Zb num) (Nat.gcd (Zb num) (Zb den)))
 rw [Zaf,Z1z hn hd (by omega) (by omega),Option.bind_some,Zhx hn (Zy _) (by omega) (by omega),Option.bind_some,Zhx hd (Zy _) (by omega) (by omega),Option.bind_some,Zx,if_neg hg,if_neg hg,
  Z5n (k:=k) (a:=(neg,Zd (Zb num / Nat.gcd (Zb num) (Zb den)))) (Zy _) (by simp only;omega) (hr.mono (by omega)),Option.bind_some,Zvf h0,Zji,Zx]
theorem Z1u {N k:Nat} {a:QV} (ha:RV k a) (hr:Z4 N (2 * k+1)):Zfv N a=some (Zj (-Zt a)):=by
 have ld:=Uk ha
 rw [Zfv,Zar ha (hr.mono (by omega)),Option.bind_some,Zh4 (k:=k) (l:=k+1) ha.m (Zy _) (by rw [Zx];exact V9 _) ha.lm ld (hr.mono (by omega)),Option.bind_some,Zx,Znc a.1,Zt,Rat.neg_mkRat]
theorem Zoi {N k:Nat} {a:QV} (ha:RV k a) (hr:Z4 N k):Zae N a=some (Tt (Zt a)):=by
 rw [Zae,Zhh (a:=(a.1.1,a.1.2)) ha.m ha.lm hr,Option.bind_some,Zwd]
theorem Vt (z:Int):(Zr z).2=Zd z.natAbs:=rfl
theorem Q6 {k l n:Nat} {a:ZV} (ha:Zn a.2) (hk:a.2.length≤k) (hl:(Zd n).length≤l):(Zr (Zq a * n)).2.length≤k+l:=by
 rw [Vt,Int.natAbs_mul,Int.natAbs_natCast,Zbs]
 have h1:=Ta (Zb a.2) n
 have h2:=Xz ha
 omega
theorem Ze4 {N k l:Nat} {a b:QV} (ha:RV k a) (hb:RV l b) (hr:Z4 N (2 * (k+l+2))):Tn N a b=some (Ve (Zt a) (Zt b)):=by
 have da:=Uk ha
 have db:=Uk hb
 have o1:=Q6 (n:=Xw b.2) ha.m ha.lm db
 have o2:=Q6 (n:=Xw a.2) hb.m hb.lm da
 rw [Tn,Zar hb (hr.mono (by omega)),Option.bind_some,Zhb (k:=k) (l:=l+1) ha.m ha.lm db (hr.mono (by omega)),Option.bind_some,Zar ha (hr.mono (by omega)),Option.bind_some,Zhb (k:=l) (l:=k+1) hb.m hb.lm da (hr.mono (by omega)),Option.bind_some,
  Z5i (a:=Zr _) (b:=Zr _) (Yq _) (Yq _) o1 o2 (hr.mono (by omega)),Option.bind_some,Yx,Yx,Zt,Zt,Zpv (V9 _) (V9 _)]
theorem Zhv {N k l:Nat} {a b:QV} (ha:RV k a) (hb:RV l b) (hr:Z4 N (k+l+2)):Zaj N (Zd (Xw a.2)) (Zd (Xw b.2))=some (Zd (Xw a.2 * Xw b.2))∧(Zd (Xw a.2 * Xw b.2)).length≤k+l+2∧Xw a.2 * Xw b.2≠0:=by
 have da:=Uk ha
 have db:=Uk hb
 have hr':=hr
 obtain ⟨r1,r2⟩:=hr'
 have:=Ta (Xw a.2) (Xw b.2)
 refine ⟨by rw [Zpj (Zy _) (Zy _) (by omega) (by omega),Zx,Zx],by omega,Nat.mul_ne_zero (V9 _) (V9 _)⟩
theorem Zm5 {x y:Int} {k:Nat} (hx:(Zr x).2.length≤k) (hy:(Zr y).2.length≤k):(Zr (x+y)).2.length≤k+1:=by
 rw [Vt] at *
 exact Nat.le_trans (Y2 (Int.natAbs_add_le _ _)) (Zfb hx hy)
theorem Zx6 {x y:Int} {k:Nat} (hx:(Zr x).2.length≤k) (hy:(Zr y).2.length≤k):(Zr (x - y)).2.length≤k+1:=by
 rw [Int.sub_eq_add_neg]
 refine Zm5 hx ?_
 rw [Vt,Int.natAbs_neg];exact hy
theorem Zvh (z:Int):((Zr z).1,(Zr z).2)=Zr z:=rfl
theorem Ze3 {N k l:Nat} {a b:QV} (ha:RV k a) (hb:RV l b) (hr:Z4 N (2 * (k+l+3))):Uv N a b=some (Zj (Zt a+Zt b)):=by
 have da:=Uk ha
 have db:=Uk hb
 have o1:=Q6 (n:=Xw b.2) ha.m ha.lm db
 have o2:=Q6 (n:=Xw a.2) hb.m hb.lm da
 obtain ⟨m1,m2,m3⟩:=Zhv ha hb (hr.mono (by omega))
 have sl:=Zm5 (k:=k+l+1) (by omega) (Nat.le_trans o2 (by omega))
 rw [Uv,Zar hb (hr.mono (by omega)),Option.bind_some,Zhb (k:=k) (l:=l+1) ha.m ha.lm db (hr.mono (by omega)),Option.bind_some,Zar ha (hr.mono (by omega)),Option.bind_some,Zhb (k:=l) (l:=k+1) hb.m hb.lm da (hr.mono (by omega)),Option.bind_some,
  Zqv (a:=Zr _) (b:=Zr _) (Yq _) (Yq _) o1 o2 (hr.mono (by omega)),Option.bind_some,Yx,Yx,Option.bind_some,Option.bind_some,m1,Option.bind_some,
  Zh4 (Yq _) (Zy _) (by rw [Zx];exact m3) sl m2 (hr.mono (by omega)),Option.bind_some,Zvh,Yx,Zx,Zt,Zt,Rat.mkRat_add_mkRat _ _ (V9 _) (V9 _)]
theorem Z23 (n₁ n₂:Int) {d₁ d₂:Nat} (z₁:d₁≠0) (z₂:d₂≠0):mkRat n₁ d₁ - mkRat n₂ d₂=mkRat (n₁ * d₂ - n₂ * d₁) (d₁ * d₂):=by
 rw [Rat.sub_eq_add_neg,Rat.neg_mkRat,Rat.mkRat_add_mkRat _ _ z₁ z₂,Int.neg_mul,Int.sub_eq_add_neg]
theorem Zoj {N k l:Nat} {a b:QV} (ha:RV k a) (hb:RV l b) (hr:Z4 N (2 * (k+l+3))):Qj N a b=some (Zj (Zt a - Zt b)):=by
 have da:=Uk ha
 have db:=Uk hb
 have o1:=Q6 (n:=Xw b.2) ha.m ha.lm db
 have o2:=Q6 (n:=Xw a.2) hb.m hb.lm da
 obtain ⟨m1,m2,m3⟩:=Zhv ha hb (hr.mono (by omega))
 have sl:=Zx6 (k:=k+l+1) (by omega) (Nat.le_trans o2 (by omega))
 rw [Qj,Zar hb (hr.mono (by omega)),Option.bind_some,Zhb (k:=k) (l:=l+1) ha.m ha.lm db (hr.mono (by omega)),Option.bind_some,Zar ha (hr.mono (by omega)),Option.bind_some,Zhb (k:=l) (l:=k+1) hb.m hb.lm da (hr.mono (by omega)),Option.bind_some,
  Zyn (a:=Zr _) (b:=Zr _) (Yq _) (Yq _) o1 o2 (hr.mono (by omega)),Option.bind_some,Yx,Yx,Option.bind_some,Option.bind_some,m1,Option.bind_some,
  Zh4 (Yq _) (Zy _) (by rw [Zx];exact m3) sl m2 (hr.mono (by omega)),Option.bind_some,Zvh,Yx,Zx,Zt,Zt,Z23 _ _ (V9 _) (V9 _)]
theorem Zh0 {N k l:Nat} {a b:QV} (ha:RV k a) (hb:RV l b) (hr:Z4 N (2 * (k+l+3))):Ul N a b=some (Zj (Zt a * Zt b)):=by
 have hr':=hr
 obtain ⟨r1,r2⟩:=hr'
 have h1:=ha.lm
 have h2:=hb.lm
 have la:=Xz ha.m
 have lb:=Xz hb.m
 have lm:=Ta (Zb a.1.2) (Zb b.1.2)
 obtain ⟨m1,m2,m3⟩:=Zhv ha hb (hr.mono (by omega))
 rw [Ul,Zpj ha.m hb.m (by omega) (by omega),Option.bind_some,Zar ha (hr.mono (by omega)),Option.bind_some,Zar hb (hr.mono (by omega)),Option.bind_some,m1,Option.bind_some,
  Zh4 (k:=k+l) (Zy _) (Zy _) (by rw [Zx];exact m3) (by omega) m2 (hr.mono (by omega)),Option.bind_some,Zq1,Zx,Zt,Zt,Rat.mkRat_mul_mkRat]
theorem Zuz (n₁:Int) (d₁:Nat) (b:ZV) (d₂:Nat) (s:Bool) (x:List Int) (h:n₁=Zq (s,x)) (hb:Zb b.2≠0):mkRat n₁ d₁ / mkRat (Zq b) d₂=mkRat (Zq (!decide (s=b.1),Zd (Zb x * d₂))) (d₁ * Zb b.2):=by
 have e1:mkRat (Zq b) d₂=(Zq b:Rat) / (d₂:Rat):=Rat.mkRat_eq_div _ _
 have hz:(Zq b:Rat)=(if b.1=true then -1 else 1) * (Zb b.2:Rat):=by
  rw [Zq];split
  ·rw [Rat.intCast_neg,Rat.neg_mul,Rat.one_mul];rfl
  ·rw [Rat.one_mul];rfl
 have hn:(Zq (!decide (s=b.1),Zd (Zb x * d₂)):Rat)=(if b.1=true then -1 else 1) * (n₁:Rat) * (d₂:Rat):=by
  subst h
  have:Zq (!decide (s=b.1),Zd (Zb x * d₂))=(if b.1=true then -1 else 1) * Zq (s,x) * (d₂:Int):=by
   obtain ⟨t,y⟩:=b
   simp only [Zq,Zx]
   cases s <;> cases t <;> simp [Int.natCast_mul,Int.neg_mul]
  rw [this,Rat.intCast_mul,Rat.intCast_mul]
  congr 2
  split <;> rfl
 have hbr:(Zb b.2:Rat)≠0:=fun h=>hb (Rat.natCast_eq_zero_iff.1 h)
 rw [Rat.mkRat_eq_div,e1,Rat.mkRat_eq_div,hn,hz,Rat.natCast_mul]
 have hs:(if b.1=true then (-1:Rat) else 1) * (if b.1=true then (-1:Rat) else 1)=1:=by split <;> grind
 generalize (if b.1=true then (-1:Rat) else 1)=sg at *
 generalize (n₁:Rat)=p
 generalize (d₁:Rat)=q
 generalize (d₂:Rat)=r
 generalize (Zb b.2:Rat)=m at *
 have hsg:sg≠0:=fun h=>by rw [h] at hs;grind
 have hinv:sg⁻¹=sg:=Rat.inv_eq_of_mul_eq_one hs
 simp only [Rat.div_def,Rat.inv_mul_rev,Rat.inv_inv,hinv]
 grind
theorem Z1v {N k l:Nat} {a b:ZV} (ha:Zn a.2) (hb:Zn b.2) (hk:a.2.length≤k) (hl:b.2.length≤l) (hr:Z4 N (k+l)):Zh9 N a b=some (if Zq b=0 then (((false,[]),[]),11) else (Zj ((Zq a:Rat) / (Zq b:Rat)),0)):=by
 rw [Zh9,Zhh (a:=(b.1,b.2)) hb hl (hr.mono (by omega)),Option.bind_some]
 by_cases h0:Zq b=0
 ·rw [if_pos h0,h0,if_pos (by decide)]
 ·have hb0:Zb b.2≠0:=fun h=>h0 (by have:=Zbs b;omega)
  have e:=Zuz (Zq a) 1 b 1 a.1 a.2 rfl hb0
  have hs:¬ (Zq b).sign=0:=fun h=>h0 (Int.sign_eq_zero_iff_zero.1 h)
  rw [if_neg (by rw [decide_eq_false hs];decide),if_neg h0,Zh4 ha hb hb0 hk hl hr,Option.bind_some]
  rw [Rat.mkRat_eq_div,Rat.mkRat_eq_div] at e
  have e1:(Zq a:Rat) / ((1:Nat):Rat) / ((Zq b:Rat) / ((1:Nat):Rat))=(Zq a:Rat) / (Zq b:Rat):=by
   have h1:((1:Nat):Rat)=1:=rfl
   have h2:(1:Rat)⁻¹=1:=Rat.inv_eq_of_mul_eq_one (by grind)
   simp only [h1,Rat.div_def,h2,Rat.mul_one]
  rw [e1,Nat.one_mul,Nat.mul_one] at e
  rw [e]
  have e2:Zq (!decide (a.1=b.1),Zd (Zb a.2))=Zq (!decide (a.1=b.1),a.2):=by simp only [Zq,Zx]
  rw [e2]
theorem Z1w {N:Nat} {a b:Int} (h:-9223372036854775808≤a∧a≤9223372036854775807) (g:-9223372036854775808≤b∧b≤9223372036854775807) (hr:Z4 N 4):Zia N a b=some (if b=0 then (((false,[]),[]),11) else (Zj ((a:Rat) / (b:Rat)),0)):=by
 have l2:∀ z:Int,-9223372036854775808≤z∧z≤9223372036854775807→(Zr z).2.length≤2:=fun z hz=>Wt.2 (by simp;omega)
 rw [Zia,Zqy h (hr.mono (by omega)),Option.bind_some,Zqy g (hr.mono (by omega)),Option.bind_some,Z1v (a:=Zr a) (b:=Zr b) (Yq _) (Yq _) (l2 _ h) (l2 _ g) hr,Option.bind_some,Yx,Yx]
def Wc (l:List QV):Rat:=(l.map Zt).sum
def Yb:List QV→Nat
 | []=>0
 | a :: l=>max a.1.2.length a.2.length+2+Yb l
theorem Zc3 {a:QV} (hm:Zn a.1.2) (hd:Zn a.2):RV (max a.1.2.length a.2.length) a:=⟨hm,hd,Nat.le_max_left _ _,Nat.le_max_right _ _⟩
def Wy (a:QV):Prop:=Zn a.1.2∧Zn a.2
theorem Zjp {a:QV} (h:Wy a):qs (Zt a)≤max a.1.2.length a.2.length+1:=by
 have:=Z3t (Zc3 h.1 h.2)
 omega
theorem Zto {N:Nat}:∀ (l:List QV) (q:Rat),(∀ a ∈ l,Wy a)→Z4 N (4 * (qs q+Yb l+3))→Zb8 N l (Zj q).1.1 (Zj q).1.2 (Zj q).2=some (Zj (q+Wc l))∧qs (q+Wc l)≤qs q+Yb l
 | [],q,_,_=>by
  rw [Zb8.eq_1,Wc]
  simp only [List.map_nil,List.sum_nil,Rat.add_zero,Yb]
  exact ⟨trivial,by omega⟩
 | a :: l,q,hl,hr=>by
  have ha:=hl a List.mem_cons_self
  have hs:=Zjp ha
  rw [Yb] at hr ⊢
  rw [Zb8.eq_2,Ze3 (k:=qs q) (l:=max a.1.2.length a.2.length) (Zql q) (Zc3 ha.1 ha.2) (hr.mono (by omega)),Option.bind_some]
  have e:Zt ((((Zj q).1.1,(Zj q).1.2),(Zj q).2):QV)=q:=Yi q
  have e2:Zt (((a.1.1,a.1.2),a.2):QV)=Zt a:=rfl
  have h1:=Zjn q (Zt a)
  obtain ⟨h2,h3⟩:=Zto l (q+Zt a) (fun x hx=>hl x (List.mem_cons_of_mem _ hx)) (hr.mono (by omega))
  rw [e,e2,h2]
  have e3:q+Zt a+Wc l=q+Wc (a :: l):=by rw [Wc,Wc,List.map_cons,List.sum_cons,Rat.add_assoc]
  rw [e3] at h3 ⊢
  exact ⟨rfl,by omega⟩
theorem Zok {N:Nat} {l:List QV} (hl:∀ a ∈ l,Wy a) (hr:Z4 N (4 * (Yb l+4))):Za4 N l=some (Zj (Wc l))∧qs (Wc l)≤Yb l+1:=by
 have hr':=hr
 obtain ⟨r1,r2⟩:=hr'
 obtain ⟨h1,h2⟩:=Zto (N:=N) l 0 hl (hr.mono (by rw [Zp1];omega))
 rw [Rat.zero_add] at h1 h2
 rw [Zp1] at h2
 have e:Zj 0=((false,[]),[1]):=by
  rw [Zj,Zr]
  simp only [Rat.zero_num,Rat.zero_den,Int.natAbs_zero,W2,W5]
  rfl
 rw [e] at h1
 refine ⟨?_,by omega⟩
 rw [Za4,Zjj (by decide) (by omega),Option.bind_some,← h1]
 rw [show (1:Int).toNat=1 from rfl,W5]
def Bd (D M:Nat) (q:Rat):Prop:=∃ z:Int,q=mkRat z D∧z.natAbs≤M * D
theorem Bd.qs {D M:Nat} {q:Rat} (h:Bd D M q) (hD:D≠0) (hM:1≤M):qs q≤(Zd (M * D)).length:=by
 obtain ⟨z,rfl,hz⟩:=h
 have h1:D≤M * D:=Nat.le_mul_of_pos_left D hM
 exact Zbp (Y2 hz) (Y2 h1) (T8 (by omega))
theorem Bd.up {D M K:Nat} {q:Rat} (h:Bd D M q) (hK:M≤K):Bd D K q:=by
 obtain ⟨z,e,hz⟩:=h
 exact ⟨z,e,Nat.le_trans hz (Nat.mul_le_mul_right D hK)⟩
theorem Bd.lift {D M:Nat} (E:Nat) {q:Rat} (h:Bd D M q) (hD:D≠0) (hE:E≠0):Bd (D * E) M q:=by
 obtain ⟨z,rfl,hz⟩:=h
 refine ⟨z * E,?_,?_⟩
 ·rw [Zph hD (Nat.mul_ne_zero hD hE),Int.natCast_mul,Int.mul_assoc,Int.mul_comm (E:Int)]
 ·rw [Int.natAbs_mul,Int.natAbs_natCast,← Nat.mul_assoc]
  exact Nat.mul_le_mul_right E hz
theorem Zmc (a b:Int) {D:Nat} (hD:D≠0):mkRat a D+mkRat b D=mkRat (a+b) D:=by
 rw [Rat.mkRat_add_mkRat _ _ hD hD,← Int.add_mul,Zph (Nat.mul_ne_zero hD hD) hD,Int.natCast_mul,Int.mul_assoc]
theorem Bd.add {D M K:Nat} {a b:Rat} (ha:Bd D M a) (hb:Bd D K b) (hD:D≠0):Bd D (M+K) (a+b):=by
 obtain ⟨x,rfl,hx⟩:=ha
 obtain ⟨y,rfl,hy⟩:=hb
 refine ⟨x+y,Zmc x y hD,Nat.le_trans (Int.natAbs_add_le _ _) ?_⟩
 rw [Nat.add_mul];omega
theorem Bd.neg {D M:Nat} {a:Rat} (ha:Bd D M a):Bd D M (-a):=by
 obtain ⟨x,rfl,hx⟩:=ha
 exact ⟨-x,by rw [Rat.neg_mkRat],by rw [Int.natAbs_neg];exact hx⟩
theorem Bd.sub {D M K:Nat} {a b:Rat} (ha:Bd D M a) (hb:Bd D K b) (hD:D≠0):Bd D (M+K) (a - b):=by
 rw [Rat.sub_eq_add_neg]
 exact ha.add hb.neg hD
theorem Bd.mul {D E M K:Nat} {a b:Rat} (ha:Bd D M a) (hb:Bd E K b):Bd (D * E) (M * K) (a * b):=by
 obtain ⟨x,rfl,hx⟩:=ha
 obtain ⟨y,rfl,hy⟩:=hb
 refine ⟨x * y,Rat.mkRat_mul_mkRat _ _ _ _,?_⟩
 rw [Int.natAbs_mul,Nat.mul_mul_mul_comm M K D E]
 exact Nat.mul_le_mul hx hy
theorem Bd.zero (D M:Nat):Bd D M 0:=⟨0,by rw [Rat.zero_mkRat],by simp⟩
theorem Bd.one:Bd 1 1 1:=⟨1,rfl,by simp⟩
def Tj:List QV→Nat
 | []=>1
 | x :: t=>Xw x.2 * Tj t
theorem Zkp:∀ t:List QV,Tj t≠0
 | []=>by simp [Tj]
 | x :: t=>Nat.mul_ne_zero (V9 x.2) (Zkp t)
theorem Zsy:∀ (t:List QV),(∀ x ∈ t,Wy x)→(Zd (Tj t)).length≤Yb t+1
 | [],_=>by rw [Tj,W5];simp
 | x :: t,h=>by
  have hx:=h x List.mem_cons_self
  have h1:=Uk (Zc3 hx.1 hx.2)
  have h2:=Zsy t fun y hy=>h y (List.mem_cons_of_mem _ hy)
  have h3:=Ta (Xw x.2) (Tj t)
  rw [Tj,Yb];omega
theorem Zy1 {x:QV} (h:0≤Zt x) (g:Zt x≤1):Bd (Xw x.2) 1 (Zt x):=by
 refine ⟨Zq x.1,rfl,?_⟩
 have hd:=V9 x.2
 have h1:¬ Zq x.1<0:=fun hn=>by
  have:Zt x<0:=by
   rw [Zt,show (0:Rat)=mkRat 0 1 from rfl,Vm hd (by decide)];omega
  exact absurd h (Rat.not_le.2 this)
 have h2:¬ (Xw x.2:Int)<Zq x.1:=fun hn=>by
  have:1<Zt x:=by
   rw [Zt,show (1:Rat)=mkRat 1 1 from rfl,Vm (by decide) hd];omega
  exact absurd g (Rat.not_le.2 this)
 omega
def Xs (long:Rat):List QV→Rat→List (Rat×Rat)
 | [],_=>[]
 | x :: t,at_=>(at_,at_+long * Zt x) :: Xs long t (at_+long * Zt x)
theorem Qr (long:Rat):∀ (t:List QV) (a:Rat),(Xs long t a).length=t.length
 | [],_=>rfl
 | x :: t,a=>by rw [Xs,List.length_cons,Qr long t,List.length_cons]
theorem Zvw {D M L:Nat} {long:Rat} (hD:D≠0) (hl:Bd D L long):∀ (t:List QV) (F:Nat) (a:Rat) (M:Nat),F≠0→(∀ x ∈ t,0≤Zt x∧Zt x≤1)→Bd (D * F) M a→∀ p ∈ Xs long t a,Bd (D * (F * Tj t)) (M+L * t.length) p.1∧Bd (D * (F * Tj t)) (M+L * t.length) p.2
 | [],F,a,M,hF,_,ha,p,hp=>by rw [Xs] at hp;cases hp
 | x :: t,F,a,M,hF,ht,ha,p,hp=>by
  have hx:=ht x List.mem_cons_self
  have hdx:=V9 x.2
  have h1:Bd (D * (F * Xw x.2)) (M+L) (a+long * Zt x):=by
   have e1:Bd (D * F * Xw x.2) M a:=ha.lift _ (Nat.mul_ne_zero hD hF) hdx
   have e2:Bd (D * Xw x.2 * F) (L * 1) (long * Zt x):=(hl.mul (Zy1 hx.1 hx.2)).lift _ (Nat.mul_ne_zero hD hdx) hF
   rw [Nat.mul_one,Nat.mul_assoc,Nat.mul_comm (Xw x.2) F] at e2
   rw [Nat.mul_assoc] at e1
   exact e1.add e2 (Nat.mul_ne_zero hD (Nat.mul_ne_zero hF hdx))
  have hle:L≤L * (t.length+1):=by rw [Nat.mul_succ];omega
  rw [Xs] at hp
  rw [Tj,← Nat.mul_assoc F,List.length_cons]
  rcases List.mem_cons.1 hp with rfl | hp
  ·have e1:Bd (D * (F * Xw x.2)) M a:=by
    have:=ha.lift (Xw x.2) (Nat.mul_ne_zero hD hF) hdx
    rwa [Nat.mul_assoc] at this
   have nz:=Nat.mul_ne_zero hD (Nat.mul_ne_zero hF hdx)
   have e3:=(e1.lift (Tj t) nz (Zkp t)).up (K:=M+L * (t.length+1)) (by omega)
   have e4:=(h1.lift (Tj t) nz (Zkp t)).up (K:=M+L * (t.length+1)) (by omega)
   rw [Nat.mul_assoc] at e3 e4
   exact ⟨e3,e4⟩
  ·have:=Zvw (M:=M) hD hl t (F * Xw x.2) _ (M+L) (Nat.mul_ne_zero hF hdx) (fun y hy=>ht y (List.mem_cons_of_mem _ hy)) h1 p hp
   rw [show M+L+L * t.length=M+L * (t.length+1) by rw [Nat.mul_succ];omega] at this
   exact this
def Zb6 (kk_L2:(Option Int)):List Int→(List (Int×Int))→Option Int
  | [],aa=>kk_L2
  | ab :: ac,aa=>if (decide (0<((Wg aa ab).getD 0)))=true then (some 40) else ((some (S6 aa ab 1)).bind fun ad=>(Zb6 kk_L2 ac) ad)
termination_by structural x=>x
def Zaa:List R2→Option Int
  | []=>some 0
  | aa :: ab=>Zb6 (Zaa ab) aa ([]:List (Int×Int))
termination_by structural x=>x
def Zfo (kk_L4:(Option Int)) (aa:Bool):Option Int:=
  if aa=true then (some 3) else kk_L4
def Zab (aa:R6) (kk_L1:(Option Int)):List Int→Option Int
  | []=>kk_L1
  | ab :: ac=>if (decide (ab<0))=true then (Zfo (Zab aa kk_L1 ac) true) else (Zfo (Zab aa kk_L1 ac) (decide ((aa.length:Int)≤ab)))
termination_by structural x=>x
def Q9 (aa:R6):List R2→Option Int
  | []=>Zaa aa
  | ab :: ac=>Zab aa (Q9 aa ac) ab
termination_by structural x=>x
def Zfn (aa:R6):Option Int:=
  Q9 aa aa
theorem Zzg {a6:Nat} {a0:Option Addr} {col:Ze} {w0:World} {ab:R6} {r:Int} (hm:Zfn ab=some r) (h0:Sl (Za.slice (Za.int .i64)) col w0 a0 a6 ab):
    Calls Tryz.prog 101 #[.slice a0 ab.length a6] w0 (fun e w'=>e= .returned ((.int .i64 r))∧Below w0.heap.size w0 w'):=by
 refine Xo 2 (m:=57) func101 rfl rfl rfl rfl rfl ?_;rw [Zfn.eq_1] at hm;have aa:=St.start col w0;refine go ?_;refine Xe [0,12,13,1000000] (fun n f a7=>∃ a8 ag ah,n=ah.length∧ab.drop ag=ah∧Q9 ab ah=some r∧St w0 (Zk col) a8 a7∧[14].map f=[.int .i64 ag]) ab.length ⟨_,0,_,rfl,rfl,hm,aa,rfl⟩ ?_;clear hm;intro n f a7 hI;obtain ⟨a8,ag,ah,hn,hl,hm,aa,hs⟩:=hI;subst hn;refine .lL [14] hs ?_;replace h0:=h0.keep (Zl.start col w0)
 cases ah with
 | nil=>
  have hk:¬ ((ag:Int)<(ab.length:Int)):=by have:=List.drop_eq_nil_iff.1 hl;omega
  have hkb:=decide_eq_false hk;rw [Q9.eq_1] at hm;refine go ?_;refine Yv (congrArg Value.bool hkb)<|go ?_;refine Xe [34,35,1000000] (fun n f a9=>∃ au ai aj,n=aj.length∧ab.drop ai=aj∧Zaa aj=some r∧St w0 (Zk col) au a9∧[36].map f=[.int .i64 ai]) ab.length ⟨_,0,_,rfl,rfl,hm,aa,rfl⟩ ?_;clear hm;intro n f a9 hI;obtain ⟨au,ai,aj,hn,hl,hm,aa,hs⟩:=hI;subst hn;refine .lL [36] hs ?_
  cases aj with
  | nil=>
   have hk:¬ ((ai:Int)<(ab.length:Int)):=by have:=List.drop_eq_nil_iff.1 hl;omega
   have hkb:=decide_eq_false hk;rw [Zaa.eq_1] at hm;refine go ?_;refine Yv (congrArg Value.bool hkb)<|go ?_;cases hm;exact ⟨rfl,rfl,aa.below⟩
  | cons ak ba=>
   obtain ⟨ac,bi,bj⟩:=Y1 hl;have hk:(ai:Int)<(ab.length:Int):=by omega
   have hkb:=decide_eq_true hk;rw [Zaa.eq_2] at hm;refine go ?_;refine Yw (congrArg Value.bool hkb)<|go ?_;refine lI ac ((h0.ks aa).addr ac) ?_;obtain ⟨_,bk,bm⟩:=(h0.ks aa).atN ac;obtain ⟨⟨bn,bo,rfl,ad⟩,_⟩:=bk;refine lW bm.one<|go ?_;refine Z2f (col:=au) (fk:=(Value.int .i64)) (fv:=(Value.int .i64)) 1 rfl underlying162 rfl ?_;intro b3 b4 b5 bb bp;refine go ?_;replace ad:=ad.gr bb;replace aa:=aa.grow bb;refine Xe [34,35,36,43,44,1000000] (fun n f aq=>∃ ar al av am an,n=an.length∧ak.drop al=an∧Zb6 (Zaa ba) an am=some r∧St w0 (Zk col) ar aq∧Sl (Za.int .i64) ar aq bn bo ak∧Vr (Value.int .i64) (Value.int .i64) 1 ar aq av am∧[45,9].map f=[.int .i64 al,.map (some av)]) ak.length ⟨_,0,_,_,_,rfl,rfl,hm,aa,ad,bp,rfl⟩ ?_;clear hm;intro n f aq hI;obtain ⟨ar,al,av,am,an,hn,hl,hm,aa,ad,bc,hs⟩:=hI;subst hn;refine .lL [45,9] hs ?_
   cases an with
   | nil=>
    have hk:¬ ((al:Int)<(ak.length:Int)):=by have:=List.drop_eq_nil_iff.1 hl;omega
    have hkb:=decide_eq_false hk;rw [Zb6.eq_1] at hm;refine go ?_;refine Yv (congrArg Value.bool hkb)<|go ?_;exact ⟨ba.length,by simp,rfl,⟨_,_,_,rfl,bi,hm,aa,(Y7 (congrArg (Value.int .i64) (Y3 (Nat.lt_of_lt_of_le bj (h0.ks aa).1.1))) rfl)⟩⟩
   | cons aw bq=>
    obtain ⟨ac,br,bs⟩:=Y1 hl;have hk:(al:Int)<(ak.length:Int):=by omega
    have hkb:=decide_eq_true hk;rw [Zb6.eq_2] at hm;refine go ?_;refine Yw (congrArg Value.bool hkb)<|go ?_;refine lI ac (ad.addr ac)<|lW (ad.atInt ac) ?_;refine go ?_;refine lV (.int .i64 ((Wg am aw).getD 0)) (Zwo Sp.int bc underlying162 underlying3 zeroValue3 rfl rfl)<|go ?_;refine Zs hm (fun hb hm=>go ?_) fun hb hm=>go ?_
    ·cases hm;exact ⟨rfl,rfl,aa.below⟩
    obtain ⟨bt,ax,hm⟩:=bZ hm;have ax:bt=S6 am aw 1:=(Option.some.inj ax).symm;refine Zt5 (k:=aw) (v:=1) Sp.int bc underlying162 underlying3 rfl rfl rfl ?_;intro b6 bd bu be;rw [← ax] at be;refine go ?_;replace ad:=ad.kp bd;replace aa:=aa.kp bd bu;exact ⟨bq.length,by simp,rfl,⟨_,_,_,_,_,rfl,br,hm,aa,ad,be,(Y7 (congrArg (Value.int .i64) (Y3 (Nat.lt_of_lt_of_le bs ad.1.1))) rfl)⟩⟩
 | cons af ay=>
  obtain ⟨ac,bv,bw⟩:=Y1 hl;have hk:(ag:Int)<(ab.length:Int):=by omega
  have hkb:=decide_eq_true hk;rw [Q9.eq_2] at hm;refine go ?_;refine Yw (congrArg Value.bool hkb)<|go ?_;refine lI ac ((h0.ks aa).addr ac) ?_;obtain ⟨_,bx,bz⟩:=(h0.ks aa).atN ac;obtain ⟨⟨bf,bg,rfl,ae⟩,_⟩:=bx;refine lW bz.one<|go ?_;refine Xe [0,12,13,14,18,19,1000000] (fun n f az=>∃ a1 ao ap,n=ap.length∧af.drop ao=ap∧Zab ab (Q9 ab ay) ap=some r∧St w0 (Zk col) a1 az∧Sl (Za.int .i64) a1 az bf bg af∧[20].map f=[.int .i64 ao]) af.length ⟨_,0,_,rfl,rfl,hm,aa,ae,rfl⟩ ?_;clear hm;intro n f az hI;obtain ⟨a1,ao,ap,hn,hl,hm,aa,ae,hs⟩:=hI;subst hn;refine .lL [20] hs ?_
  cases ap with
  | nil=>
   have hk:¬ ((ao:Int)<(af.length:Int)):=by have:=List.drop_eq_nil_iff.1 hl;omega
   have hkb:=decide_eq_false hk;rw [Zab.eq_1] at hm;refine go ?_;refine Yv (congrArg Value.bool hkb)<|go ?_;exact ⟨ay.length,by simp,rfl,⟨_,_,_,rfl,bv,hm,aa,(Y7 (congrArg (Value.int .i64) (Y3 (Nat.lt_of_lt_of_le bw (h0.ks aa).1.1))) rfl)⟩⟩
  | cons b0 bh=>
   obtain ⟨ac,b1,b2⟩:=Y1 hl;have hk:(ao:Int)<(af.length:Int):=by omega
   have hkb:=decide_eq_true hk;rw [Zab.eq_2] at hm;refine go ?_;refine Yw (congrArg Value.bool hkb)<|go ?_;refine lI ac (ae.addr ac)<|lW (ae.atInt ac)<|Ym rfl<|Zm<|Zw ?_;refine Wp.cutK [0,12,13,14,18,19,20,1000000] (fun f a2=>∃ a3 a4,Zfo (Zab ab (Q9 ab ay) bh) a4=some r∧St w0 (Zk col) a3 a2∧Sl (Za.int .i64) a3 a2 bf bg af∧[31].map f=[.bool a4]) ?_ ?_
   ·intro f a2 hJ;obtain ⟨a3,a4,hm,aa,ae,hs⟩:=hJ;rw [Zfo.eq_1] at hm;refine .lL [31] hs ?_;refine Zs hm (fun hb hm=>go ?_) fun hb hm=>go ?_
    ·cases hm;exact ⟨rfl,rfl,aa.below⟩
    exact ⟨bh.length,by simp,rfl,⟨_,_,_,rfl,b1,hm,aa,ae,(Y7 (congrArg (Value.int .i64) (Y3 (Nat.lt_of_lt_of_le b2 ae.1.1))) rfl)⟩⟩
   refine go ?_;refine X1 hm (fun a5 hm=>go ?_) fun a5 hm=>go ?_
   ·refine lV (.bool true) (Xm (congrArg Value.bool a5) rfl)<|Zm ?_;exact ⟨rfl,_,_,hm,aa,ae,rfl⟩
   refine lV (.bool (decide ((ab.length:Int)≤b0))) (Xd (congrArg Value.bool a5) rfl)<|Zm ?_;exact ⟨rfl,_,_,hm,aa,ae,rfl⟩
theorem Z1d:Vv Tryz.prog 3 1 8:=⟨Tryz.t3,_,rfl,rfl,rfl,rfl,rfl⟩
def Zb5 (aa:Nat) (kk_L1:(Nat→R6→Option R6)):List Int→R6→Option R6
  | [],ab=>kk_L1 (aa+1) ab
  | ad :: ae,ab=>(Zp ab ad).bind fun ac=>Z7 ((ac.length+[(aa:Int)].length) * 8≤140737488355328∧ac.length+[(aa:Int)].length≤maxLen) ((Zb5 aa kk_L1 ae) (ab.set (Int.toNat ad) (ac++[(aa:Int)])))
termination_by structural x=>x
def Q8:List R2→Nat→R6→Option R6
  | [],ab,aa=>some aa
  | ac :: ad,ab,aa=>Zb5 ab (Q8 ad) ac aa
termination_by structural x=>x
def Zfm (aa:R6):Option R6:=
  Z7 (aa.length * 24≤281474976710656∧aa.length≤maxLen) (Q8 aa 0 (List.replicate aa.length (([]:List Int):List Int)))
theorem Zzf {a7:Nat} {a0:Option Addr} {col:Ze} {w0:World} {ae r:R6} (c1:Nat) (hm:Zfm ae=some r) (h0:Sl (Za.slice (Za.int .i64)) col w0 a0 a7 ae):
    Calls Tryz.prog 103 #[.slice a0 ae.length a7] w0 (fun e w'=>∃ (col':Ze) (ra1:Option Addr) (rc2:Nat),e= .returned ((.slice ra1 r.length rc2))∧Zg col w0 col' w'∧Zc (Za.row 3 (Za.int .i64)) 39 c1 col' w' ra1 rc2 r):=by
 refine Xo 2 (m:=37) func103 rfl rfl rfl rfl rfl ?_;rw [Zfm.eq_1] at hm;have aa:=St.start col w0;refine go ?_;obtain ⟨a8,hm⟩:=Xc hm;refine Qe (col:=(Zk col)) (w:=w0) (r:=(Za.row 3 (Za.int .i64))) (n:=ae.length) (x0:=([]:List Int)) 1 rfl underlying24 Tryz.t39 rfl rfl rfl rfl rfl rfl rfl a8.1 a8.2 Z4j ?_;intro b4 b5 b6 bg bh;refine go ?_;replace aa:=aa.grow bg;refine Xe [11,12,1000000] (fun n f aw=>∃ ax ab ay az ap aj,n=aj.length∧ae.drop ab=aj∧Q8 aj ab ap=some r∧St w0 (Zk col) ax aw∧Zc (Za.row 3 (Za.int .i64)) 39 1 ax aw ay az ap∧[13,3].map f=[.int .i64 ab,.slice ay ap.length az]) ae.length ⟨_,0,_,_,_,_,rfl,rfl,hm,aa,bh,rfl⟩ ?_;clear hm;intro n f aw hI;obtain ⟨ax,ab,ay,az,ap,aj,hn,hl,hm,aa,a9,hs⟩:=hI;subst hn;refine .lL [13,3] hs ?_;replace h0:=h0.keep (Zl.start col w0)
 cases aj with
 | nil=>
  have hk:¬ ((ab:Int)<(ae.length:Int)):=by have:=List.drop_eq_nil_iff.1 hl;omega
  have hkb:=decide_eq_false hk;rw [Q8.eq_1] at hm;refine go ?_;refine Yv (congrArg Value.bool hkb)<|go ?_;cases hm;exact ⟨rfl,_,_,_,rfl,aa.fin (cm [(1,c1)]),aa.fo a9⟩
 | cons ak ba=>
  obtain ⟨af,bi,bj⟩:=Y1 hl;have hk:(ab:Int)<(ae.length:Int):=by omega
  have hkb:=decide_eq_true hk;rw [Q8.eq_2] at hm;refine go ?_;refine Yw (congrArg Value.bool hkb)<|go ?_;refine lI af ((h0.ks aa).addr af) ?_;obtain ⟨_,bk,bm⟩:=(h0.ks aa).atN af;obtain ⟨⟨bn,bo,rfl,ac⟩,_⟩:=bk;refine lW bm.one<|go ?_;refine Xe [11,12,13,18,19,4,1000000] (fun n f al=>∃ aq am ag ah ad an,n=an.length∧ak.drop am=an∧Zb5 ab (Q8 ba) an ad=some r∧St w0 (Zk col) aq al∧Sl (Za.int .i64) aq al bn bo ak∧Zc (Za.row 3 (Za.int .i64)) 39 1 aq al ag ah ad∧[20,3].map f=[.int .i64 am,.slice ag ad.length ah]) ak.length ⟨_,0,_,_,_,_,rfl,rfl,hm,aa,ac,a9,rfl⟩ ?_;clear hm;intro n f al hI;obtain ⟨aq,am,ag,ah,ad,an,hn,hl,hm,aa,ac,a1,hs⟩:=hI;subst hn;refine .lL [20,3] hs ?_
  cases an with
  | nil=>
   have hk:¬ ((am:Int)<(ak.length:Int)):=by have:=List.drop_eq_nil_iff.1 hl;omega
   have hkb:=decide_eq_false hk;rw [Zb5.eq_1] at hm;refine go ?_;refine Yv (congrArg Value.bool hkb)<|go ?_;exact ⟨ba.length,by simp,rfl,⟨_,_,_,_,_,_,rfl,bi,hm,aa,a1,(Y7 (congrArg (Value.int .i64) (Y3 (Nat.lt_of_lt_of_le bj (h0.ks aa).1.1))) rfl)⟩⟩
  | cons ar bp=>
   obtain ⟨af,bq,br⟩:=Y1 hl;have hk:(am:Int)<(ak.length:Int):=by omega
   have hkb:=decide_eq_true hk;rw [Zb5.eq_2] at hm;refine go ?_;refine Yw (congrArg Value.bool hkb)<|go ?_;refine lI af (ac.addr af)<|lW (ac.atInt af) ?_;refine go ?_;obtain ⟨ao,au,hm⟩:=bZ hm;refine lI au (a1.addr au) ?_;obtain ⟨_,bb,bc,ai,bs⟩:=a1.open_ 2 (by decide) au;obtain ⟨bt,bu,rfl,a2⟩:=bs.row;replace ai:Wo (Za.row 3 (Za.int .i64)) 39 1 bb al ag ah ad (Int.toNat ar) [.slice bt ao.length bu]:=ai;refine lW ai.atN.one<|Yn rfl<|Vb (col:=bb) [(ab:Int)] 3 ?_;intro b7 bv bw av bx;obtain ⟨bd,hm⟩:=Xc hm;replace a2:=a2.gr av;refine Zt3 (col:=bw) (w:=bv) (r:=(Za.int .i64)) (c:=2) (c2:=2) (a2.ex) (bx.srcN (NB.int (k:=.i64))) rfl underlying39 Z1d rfl rfl rfl bd.1 bd.2 (by decide) ?_;intro be bf b8 bz a3 a4;replace ai:=(ai.gr av).kpp a3;refine lI au (ai.addr)<|Z2i (v:=(.slice be ((ao++[(ab:Int)]).length) bf)) ai rfl sizeOf39 rfl (by intro u hu;simp only [Value.cells,List.mem_cons,List.not_mem_nil,or_false] at hu;subst hu;rfl) rfl rfl (by decide) ?_;intro b0 a5 b1 a6;replace a6:Wo (Za.row 3 (Za.int .i64)) 39 1 bz b0 ag ah ad (Int.toNat ar) [.slice be ((ao++[(ab:Int)]).length) bf]:=a6;replace a4:=a4.kp a5;have b2:=a4.new;have b3:=a6.close b2.has (by decide) (by decide);replace ac:=(((ac.kpp bc).gr av).kpp a3).kp a5;replace ac:=ac.recol 2 1 (by decide);replace aa:=(((aa.kpp bc).grow av).kpp a3).kp a5 b1;replace aa:=aa.recol 2 1 (by decide) (by decide);refine .ld (d:=3) (v:=(.slice ag ((ad.set (Int.toNat ar) (ao++[(ab:Int)])).length) ah)) (congrArg (fun n=>Value.slice ag n ah) (show ad.length=(ad.set (Int.toNat ar) (ao++[(ab:Int)])).length by simp only [List.length_set])) ?_;refine go ?_;exact ⟨bp.length,by simp,rfl,⟨_,_,_,_,_,_,rfl,bq,hm,aa,ac,b3,(Y7 (congrArg (Value.int .i64) (Y3 (Nat.lt_of_lt_of_le br ac.1.1))) rfl)⟩⟩
def Zb7 (aa:Int) (kk_L2:(Int→Int→Option R4)) (ab:Int):Option R4:=
  kk_L2 (i64.wrap (aa+1)) ab
def Zfp (aa:Int) (ab:Int) (kk_L2:(Int→Int→Option R4)) (ac:Int) (ad:Bool):Option R4:=
  if ad=true then (Zb7 aa kk_L2 ac) else (Zb7 aa kk_L2 ab)
def Sy (N:Nat) (ad:List Int) (ag:Int) (aa:List Int) (ac:Int) (kk_L1:(List Int→Int→Option R4)):Nat→Int→Int→Option R4
  | 0,_,_=>none
  | ah+1,ae,ab=>if (decide (ae<2))=true then ((Zp [i64.wrap ((i64.wrap (2 * ac))+1),i64.wrap ((i64.wrap (2 * ac))+2)] ae).bind fun af=>if (decide (af<(i64.wrap ((ad.length:Int) - 1))))=true then ((Zp aa af).bind fun aj=>(Zp aa ab).bind fun ak=>Zfp ae ab (Sy N ad ag aa ac kk_L1 ah) af (decide (aj<ak))) else (Zfp ae ab (Sy N ad ag aa ac kk_L1 ah) af false)) else (if (decide (ab=ac))=true then (some (ag,aa.take (Int.toNat (i64.wrap ((ad.length:Int) - 1))))) else ((Zp aa ab).bind fun al=>(Zp aa ac).bind fun am=>(some (aa.set (Int.toNat ac) al)).bind fun ai=>(Zp ai ab).bind fun ao=>(some (ai.set (Int.toNat ab) am)).bind fun an=>kk_L1 an ab))
termination_by structural x=>x
def Sx (N:Nat) (aa:List Int) (ab:Int):Nat→R2→Int→Option R4
  | 0,_,_=>none
  | ad+1,ae,ac=>Sy N aa ab ae ac (Sx N aa ab ad) N 0 ac
termination_by structural x=>x
def Zh7 (N:Nat) (aa:List Int):Option R4:=
  (Zp aa 0).bind fun ac=>(Zp aa (i64.wrap ((aa.length:Int) - 1))).bind fun ad=>(some (aa.set (Int.toNat 0) ad)).bind fun ab=>Z7 ((0:Int)≤(i64.wrap ((aa.length:Int) - 1))∧(i64.wrap ((aa.length:Int) - 1))≤(ab.length:Int)) (Sx N aa ac N ab 0)
theorem Zzh {N g0 al:Nat} {am:Option Addr} {col:Ze} {w0:World} {aa:R2} {r:R4} (qc0 ai:Nat) (hm:Zh7 N aa=some r) (hd:Qc [qc0,ai]=true) (ap:Zc (Za.int .i64) 3 ai col w0 am al aa) (hb0:Zo 163 qc0 col w0 g0 #[.slice am aa.length al]):
    Calls Tryz.prog 156 #[.pointer (some ⟨g0,0,none⟩)] w0 (fun e w'=>∃ (col':Ze) (oa1:Option Addr) (oc2:Nat),e= .returned ((.int .i64 r.1))∧Zz (pS [qc0,ai]) col w0 col' w'∧Zc (Za.int .i64) 3 ai col' w' oa1 oc2 r.2∧Zo 163 qc0 col' w' g0 #[.slice oa1 r.2.length oc2]):=by
 refine Xo 2 (m:=76) func156 rfl rfl rfl rfl rfl ?_;rw [Zh7.eq_1] at hm;have ac:=St.startL (l:=[qc0,ai]) rfl col w0;replace hb0:=hb0.startL (Zaw hd 0 rfl) (Zav hd 0 rfl);replace ap:=ap.startL (Zaw hd 1 rfl) (Zav hd 1 rfl);refine go ?_;refine lV (.pointer (some ⟨g0,0,none⟩)) (Qs rfl)<|lW hb0.at1<|go ?_;obtain ⟨au,av,hm⟩:=bZ hm;refine lI av (ap.addr av)<|lW (ap.atInt av) ?_;refine go ?_;obtain ⟨bm,be,hm⟩:=bZ hm;refine lI be (ap.addr be)<|lW (ap.atInt be)<|lI av (ap.addr av) ?_;obtain ⟨an,ay,hm⟩:=bZ hm;have ay:an=aa.set (Int.toNat 0) bm:=(Option.some.inj ay).symm;refine Y4 (x1:=bm) ap av ?_;intro bu bn bv az;rw [← ay] at az;refine .ld (d:=3) (v:=(.slice am an.length al)) (congrArg (fun n=>Value.slice am n al) (show aa.length=an.length by rw [ay,List.length_set])) ?_;replace hb0:=hb0.kp bn;replace hb0:Zo 163 440 (Xv [qc0,ai] col) bu g0 #[.slice am an.length al]:=by rw [← (show aa.length=an.length by rw [ay,List.length_set])];exact hb0
 refine go ?_;obtain ⟨bf,hm⟩:=Xc hm;refine lv (v:=.slice am (Int.toNat (i64.wrap ((aa.length:Int) - 1))) al) rfl rfl (Zjs underlying163 sizeOf3 rfl rfl bf.1 (by have:=az.lecap;have:=bf.2;omega))<|.ld (d:=28) (v:=(.slice am ((an.take (Int.toNat (i64.wrap ((aa.length:Int) - 1)))).length) al)) (congrArg (fun n=>Value.slice am n al) (List.length_take_of_le (show (Int.toNat (i64.wrap ((aa.length:Int) - 1)))≤an.length by have:=bf.2;omega)).symm) ?_;refine lV (.pointer (some ⟨g0,0,none⟩)) (Qs rfl)<|Zh2 (v:=(.slice am ((an.take (Int.toNat (i64.wrap ((aa.length:Int) - 1)))).length) al)) hb0 sizeOf163 rfl rfl (by intro u hu;simp only [Value.cells,List.mem_cons,List.not_mem_nil,or_false] at hu;subst hu;rfl) rfl rfl ?_;intro bw bo bx ab;replace ab:Zo 163 440 (Xv [qc0,ai] col) bw g0 #[(.slice am ((an.take (Int.toNat (i64.wrap ((aa.length:Int) - 1)))).length) al)]:=ab;refine go ?_;replace ac:=(ac.kp bn bv).kp bo bx;replace az:=az.kp bo;refine Xe [4,5,1000000] (fun n f a4=>∃ a5 af ag ah ak ao,ao=n∧Sx N aa au ao ah ak=some r∧St w0 (Xv [qc0,ai] col) a5 a4∧Zc (Za.int .i64) 3 441 a5 a4 af ag ah∧Zo 163 440 a5 a4 g0 #[(.slice af ((ah.take (Int.toNat (i64.wrap ((aa.length:Int) - 1)))).length) ag)]∧[3,6].map f=[.slice af ah.length ag,.int .i64 ak]) N ⟨_,_,_,_,0,_,rfl,hm,ac,az,ab,rfl⟩ ?_;clear hm;intro n f a4 hI;obtain ⟨a5,af,ag,ah,ak,ao,hn,hm,ac,ad,ab,hs⟩:=hI;subst hn;refine .lL [3,6] hs ?_
 cases ao with
 | zero=>rw [Sx.eq_1] at hm;cases hm
 | succ ao=>
  rw [Sx.eq_2] at hm;refine go ?_;refine lV (.agg #[(.int .i64 (i64.wrap ((i64.wrap (2 * ak))+1))),(.int .i64 (i64.wrap ((i64.wrap (2 * ak))+2)))]) (Z3y underlying180 sizeOf3 zeroValue180 rfl)<|go ?_;refine Xe [3,37,4,5,6,1000000] (fun n f a6=>∃ ae a0 a1 aq,aq=n∧Sy N aa au ah ak (Sx N aa au ao) aq a0 a1=some r∧St w0 (Xv [qc0,ai] col) ae a6∧Zc (Za.int .i64) 3 441 ae a6 af ag ah∧Zo 163 440 ae a6 g0 #[(.slice af ((ah.take (Int.toNat (i64.wrap ((aa.length:Int) - 1)))).length) ag)]∧[38,7].map f=[.int .i64 a0,.int .i64 a1]) N ⟨_,0,_,_,rfl,hm,ac,ad,ab,rfl⟩ ?_;clear hm;intro n f a6 hI;obtain ⟨ae,a0,a1,aq,hn,hm,ac,ad,ab,hs⟩:=hI;subst hn;refine .lL [38,7] hs ?_
  cases aq with
  | zero=>rw [Sy.eq_1] at hm;cases hm
  | succ aq=>
   rw [Sy.eq_2] at hm;refine go ?_;refine Zs hm (fun hb hm=>?_) fun hb hm=>go ?_
   ·refine Yc<|Zw ?_;refine Wp.cutK [3,37,38,4,5,6,1000000] (fun f a7=>∃ a8 bg,Zb7 a0 (Sy N aa au ah ak (Sx N aa au ao) aq) bg=some r∧St w0 (Xv [qc0,ai] col) a8 a7∧Zc (Za.int .i64) 3 441 a8 a7 af ag ah∧Zo 163 440 a8 a7 g0 #[(.slice af ((ah.take (Int.toNat (i64.wrap ((aa.length:Int) - 1)))).length) ag)]∧[7].map f=[.int .i64 bg]) ?_ ?_
    ·intro f a7 hJ;obtain ⟨a8,bg,hm,ac,ad,ab,hs⟩:=hJ;rw [Zb7.eq_1] at hm;refine .lL [7] hs<|go ?_;exact ⟨aq,by omega,rfl,⟨_,_,_,_,rfl,hm,ac,ad,ab,rfl⟩⟩
    refine go ?_;obtain ⟨bp,bz,hm⟩:=bZ hm;refine lV (.int .i64 bp) (Z34 (l:=[i64.wrap ((i64.wrap (2 * ak))+1),i64.wrap ((i64.wrap (2 * ak))+2)]) (k:=.i64) underlying180 sizeOf3 isAgg3 rfl rfl rfl bz)<|Ym rfl<|Zm<|Zw ?_;refine Wp.cutK [3,37,38,4,5,6,7,9,1000000] (fun f a9=>∃ ba bh,Zfp a0 a1 (Sy N aa au ah ak (Sx N aa au ao) aq) bp bh=some r∧St w0 (Xv [qc0,ai] col) ba a9∧Zc (Za.int .i64) 3 441 ba a9 af ag ah∧Zo 163 440 ba a9 g0 #[(.slice af ((ah.take (Int.toNat (i64.wrap ((aa.length:Int) - 1)))).length) ag)]∧[54].map f=[.bool bh]) ?_ ?_
    ·intro f a9 hJ;obtain ⟨ba,bh,hm,ac,ad,ab,hs⟩:=hJ;rw [Zfp.eq_1] at hm;refine .lL [54] hs ?_;refine Zs hm (fun hb hm=>go ?_) fun hb hm=>?_
     ·exact ⟨rfl,_,_,hm,ac,ad,ab,rfl⟩
     refine Yc ?_;exact ⟨rfl,_,_,hm,ac,ad,ab,rfl⟩
    refine Ur (col:=ae) (by kernel_rfl) (by kernel_rfl)<|go ?_;refine X1 hm (fun bi hm=>go ?_) fun bi hm=>go ?_
    ·obtain ⟨b0,bj,hm⟩:=bZ hm;refine qI bj (ad.addr bj) ?_;refine go ?_;refine qW (fun _ hC=>(ad.gr (hC.bl ae)).atInt bj) ?_;refine go ?_;obtain ⟨b1,bk,hm⟩:=bZ hm;refine qI bk (ad.addr bk) ?_;refine go ?_;refine qW (fun _ hC=>(ad.gr (hC.bl ae)).atInt bk) ?_;refine go ?_;refine qv (v:=(.bool (decide (b0<b1)))) rfl (fun _ hC=>Xm (congrArg Value.bool bi) rfl) ?_;refine Vn ?_;intro b6 hC;replace hC:=hC.bl ae;replace ad:=ad.gr hC;replace ab:=ab.gr hC;replace ac:=ac.grow hC;exact ⟨rfl,_,_,hm,ac,ad,ab,rfl⟩
    refine qv (v:=(.bool false)) rfl (fun _ hC=>Xd (congrArg Value.bool bi) rfl) ?_;refine Vn ?_;intro b7 hC;replace hC:=hC.bl ae;replace ad:=ad.gr hC;replace ab:=ab.gr hC;replace ac:=ac.grow hC;exact ⟨rfl,_,_,hm,ac,ad,ab,rfl⟩
   refine Zs hm (fun hb hm=>go ?_) fun hb hm=>go ?_
   ·cases hm;exact ⟨rfl,Qa w0.heap.size [qc0,ai] col ae (fun n=>bif Nat.beq n 441 then ai else bif Nat.beq n 440 then qc0 else 0),af,ag,rfl,ac.finL rfl (fun n=>bif Nat.beq n 441 then ai else bif Nat.beq n 440 then qc0 else 0),ac.finOwnL (g:=(fun n=>bif Nat.beq n 441 then ai else bif Nat.beq n 440 then qc0 else 0)) rfl (ad.take (Int.toNat (i64.wrap ((aa.length:Int) - 1)))) (by decide) (by decide) rfl,ac.finBoxL (g:=(fun n=>bif Nat.beq n 441 then ai else bif Nat.beq n 440 then qc0 else 0)) ab (by decide) (by decide) rfl⟩
   refine W6 (col:=ae) [(0,1),(1,1),(2,1),(3,1),(4,1),(5,1),(6,1),(7,0),(8,1),(9,1),(10,1),(11,0),(12,1),(13,2),(14,1),(15,2)] (by kernel_rfl) (by kernel_rfl)<|xu rfl rfl (fun _=>Ug rfl) ?_;refine xu rfl rfl (fun _=>Vg rfl) ?_;refine xu rfl rfl (fun _=>Ug rfl) ?_;refine xu rfl rfl (fun _=>Vg rfl) ?_;refine xu rfl rfl (fun _=>Ug rfl) ?_;refine xu rfl rfl (fun _=>Vg rfl) ?_;obtain ⟨bq,bb,hm⟩:=bZ hm;refine xu rfl rfl (fun _=>We underlying163 sizeOf3 rfl rfl (Xk bb).1 (Xk bb).2.1 (ad.addr bb)) ?_;refine xW (fun _ hC=>(ad.gr (hC.bl ae)).atInt bb) ?_;refine xu rfl rfl (fun _=>Ug rfl) ?_;refine xu rfl rfl (fun _=>Vg rfl) ?_;obtain ⟨br,ar,hm⟩:=bZ hm;refine xu rfl rfl (fun _=>We underlying163 sizeOf3 rfl rfl (Xk ar).1 (Xk ar).2.1 (ad.addr ar)) ?_;refine xW (fun _ hC=>(ad.gr (hC.bl ae)).atInt ar) ?_;refine xu rfl rfl (fun _=>We underlying163 sizeOf3 rfl rfl (Xk ar).1 (Xk ar).2.1 (ad.addr ar)) ?_;refine xe rfl rfl ?_;intro b8 hC0;have hC:=hC0.bl ae;obtain ⟨aj,aw,hm⟩:=bZ hm;have aw:aj=ah.set (Int.toNat ak) bq:=(Option.some.inj aw).symm;replace ad:=ad.gr hC;refine Y4 (x1:=bq) ad ar ?_;intro b2 bs b3 a2;rw [← aw] at a2;refine .ld (d:=3) (v:=(.slice af aj.length ag)) (congrArg (fun n=>Value.slice af n ag) (show ah.length=aj.length by rw [aw,List.length_set])) ?_;refine .ld (d:=63) (v:=(.slice af aj.length ag)) (congrArg (fun n=>Value.slice af n ag) (show ah.length=aj.length by rw [aw,List.length_set])) ?_;replace ab:=(ab.gr hC).kp bs;replace ab:Zo 163 440 ae b2 g0 #[(.slice af ((aj.take (Int.toNat (i64.wrap ((aa.length:Int) - 1)))).length) ag)]:=by rw [← (show (ah.take (Int.toNat (i64.wrap ((aa.length:Int) - 1)))).length=(aj.take (Int.toNat (i64.wrap ((aa.length:Int) - 1)))).length by rw [List.length_take,List.length_take,(show ah.length=aj.length by rw [aw,List.length_set])])];exact ab
   refine Zm<|xk ae ?_;obtain ⟨b9,bc,hm⟩:=bZ hm;refine xu rfl rfl (fun _=>We underlying163 sizeOf3 rfl rfl (Xk bc).1 (Xk bc).2.1 (a2.addr bc)) ?_;refine xe rfl rfl ?_;intro ca hC0;replace ac:=(ac.grow hC).kp bs b3;have hC:=hC0.bl ae;obtain ⟨ax,a3,hm⟩:=bZ hm;have a3:ax=aj.set (Int.toNat a1) br:=(Option.some.inj a3).symm;replace a2:=a2.gr hC;refine Y4 (x1:=br) a2 bc ?_;intro b4 bt b5 bd;rw [← a3] at bd;refine .ld (d:=3) (v:=(.slice af ax.length ag)) (congrArg (fun n=>Value.slice af n ag) (show aj.length=ax.length by rw [a3,List.length_set])) ?_;replace ab:=(ab.gr hC).kp bt;replace ab:Zo 163 440 ae b4 g0 #[(.slice af ((ax.take (Int.toNat (i64.wrap ((aa.length:Int) - 1)))).length) ag)]:=by rw [← (show (aj.take (Int.toNat (i64.wrap ((aa.length:Int) - 1)))).length=(ax.take (Int.toNat (i64.wrap ((aa.length:Int) - 1)))).length by rw [List.length_take,List.length_take,(show aj.length=ax.length by rw [a3,List.length_set])])];exact ab
   refine Zm<|xk ae<|W3 ?_;replace ac:=(ac.grow hC).kp bt b5;intro cb hC;replace hC:=hC.bl ae;refine go ?_;replace bd:=bd.gr hC;replace ab:=ab.gr hC;replace ac:=ac.grow hC;exact ⟨ao,by omega,rfl,⟨_,_,_,_,_,_,rfl,hm,ac,bd,ab,rfl⟩⟩
theorem Z1e:Vv Tryz.prog 3 1 8:=⟨Tryz.t3,_,rfl,rfl,rfl,rfl,rfl⟩
def Zfr (ab:List Int) (aa:Int) (kk_L1:(List Int→Int→Option R2)) (ad:Bool):Option R2:=
  if ad=true then ((Zp ab (i64.wrap (Int.tdiv (i64.wrap (aa - 1)) 2))).bind fun ae=>(Zp ab aa).bind fun af=>(some (ab.set (Int.toNat aa) ae)).bind fun ac=>(Zp ac (i64.wrap (Int.tdiv (i64.wrap (aa - 1)) 2))).bind fun ah=>(some (ac.set (Int.toNat (i64.wrap (Int.tdiv (i64.wrap (aa - 1)) 2))) af)).bind fun ag=>kk_L1 ag (i64.wrap (Int.tdiv (i64.wrap (aa - 1)) 2))) else (some ab)
def Za3 (N:Nat):Nat→R2→Int→Option R2
  | 0,_,_=>none
  | ac+1,ab,aa=>if (decide (0<aa))=true then ((Zp ab aa).bind fun ad=>(Zp ab (i64.wrap (Int.tdiv (i64.wrap (aa - 1)) 2))).bind fun ae=>Zfr ab aa (Za3 N ac) (decide (ad<ae))) else (Zfr ab aa (Za3 N ac) false)
termination_by structural x=>x
def Zfq (N:Nat) (aa:List Int) (ab:Int):Option R2:=
  Z7 ((aa.length+[ab].length) * 8≤140737488355328∧aa.length+[ab].length≤maxLen) (Za3 N N (aa++[ab]) (i64.wrap (((aa++[ab]).length:Int) - 1)))
theorem Zrm {N g0 a7:Nat} {a8:Option Addr} {col:Ze} {w0:World} {ao:R2} {an:Int} {r:R2} (qc0 af:Nat) (hm:Zfq N ao an=some r) (hd:Qc [qc0,af]=true) (ap:Zc (Za.int .i64) 3 af col w0 a8 a7 ao) (hb0:Zo 163 qc0 col w0 g0 #[.slice a8 ao.length a7]):
    Calls Tryz.prog 155 #[.pointer (some ⟨g0,0,none⟩),.int .i64 an] w0 (fun e w'=>∃ (col':Ze) (oa1:Option Addr) (oc2:Nat),e= .returned (.tuple #[])∧Zz (pS [qc0,af]) col w0 col' w'∧Zc (Za.int .i64) 3 af col' w' oa1 oc2 r∧Zo 163 qc0 col' w' g0 #[.slice oa1 r.length oc2]):=by
 refine Zkn (m:=66) (args:=[.pointer (some ⟨g0,0,none⟩),.int .i64 an]) func155 rfl rfl rfl rfl ?_;rw [Zfq.eq_1] at hm;have ab:=St.startL (l:=[qc0,af]) rfl col w0;replace hb0:=hb0.startL (Zaw hd 0 rfl) (Zav hd 0 rfl);replace ap:=ap.startL (Zaw hd 1 rfl) (Zav hd 1 rfl);refine go ?_;refine lV (.pointer (some ⟨g0,0,none⟩)) (Qs rfl)<|lW hb0.at1<|Yn rfl<|Vb (col:=(Xv [qc0,af] col)) [an] 1 ?_;intro bw bi bj a0 bk;obtain ⟨a9,hm⟩:=Xc hm;replace ap:=ap.gr a0;refine Zt3 (col:=bj) (w:=bi) (r:=(Za.int .i64)) (c:=441) (c2:=441) (ap.ex) (bk.srcN (NB.int (k:=.i64))) rfl underlying163 Z1e rfl rfl rfl a9.1 a9.2 (by decide) ?_;intro ba bb bx bm bc a1;refine lV (.pointer (some ⟨g0,0,none⟩)) (Qs rfl) ?_;replace hb0:=(hb0.gr a0).kpp bc;refine Zh2 (v:=(.slice ba ((ao++[an]).length) bb)) hb0 sizeOf163 rfl rfl (by intro u hu;simp only [Value.cells,List.mem_cons,List.not_mem_nil,or_false] at hu;subst hu;rfl) rfl rfl ?_;intro bn bd bo aa;replace aa:Zo 163 440 bm bn g0 #[.slice ba ((ao++[an]).length) bb]:=aa;replace a1:=a1.kp bd;have bp:=a1.new;refine go ?_;refine lV (.pointer (some ⟨g0,0,none⟩)) (Qs rfl)<|lW aa.at1<|go ?_;replace ab:=((ab.grow a0).kpp bc).kp bd bo;refine Xe [0,1000000] (fun n f au=>∃ ag ah ai aj ae al,al=n∧Za3 N al aj ae=some r∧St w0 (Xv [qc0,af] col) ag au∧Zc (Za.int .i64) 3 441 ag au ah ai aj∧Zo 163 440 ag au g0 #[.slice ah aj.length ai]∧[4].map f=[.int .i64 ae]) N ⟨_,_,_,_,_,_,rfl,hm,ab,bp,aa,rfl⟩ ?_;clear hm;intro n f au hI;obtain ⟨ag,ah,ai,aj,ae,al,hn,hm,ab,ac,aa,hs⟩:=hI;subst hn;refine .lL [4] hs ?_
 cases al with
 | zero=>rw [Za3.eq_1] at hm;cases hm
 | succ al=>
  rw [Za3.eq_2] at hm;refine Zw<|Zw ?_;refine Wp.cutK [0,4,1000000] (fun f av=>∃ ad a2,Zfr aj ae (Za3 N al) a2=some r∧St w0 (Xv [qc0,af] col) ad av∧Zc (Za.int .i64) 3 441 ad av ah ai aj∧Zo 163 440 ad av g0 #[.slice ah aj.length ai]∧[36].map f=[.bool a2]) ?_ ?_
  ·intro f av hJ;obtain ⟨ad,a2,hm,ab,ac,aa,hs⟩:=hJ;rw [Zfr.eq_1] at hm;refine .lL [36] hs ?_;refine Zs hm (fun hb hm=>go ?_) fun hb hm=>go ?_
   ·refine W6 (col:=ad) [(0,1),(1,1),(2,0),(3,1),(4,1),(5,1),(6,0),(7,1),(8,1),(9,1),(10,1),(11,1),(12,0),(13,1),(14,1),(15,1),(16,1),(17,0),(18,1),(19,1),(20,0),(21,1),(22,1),(23,0),(24,1),(25,2),(26,1),(27,2)] (by kernel_rfl) (by kernel_rfl)<|xu rfl rfl (fun _=>Zmr rfl) ?_;refine xu (v:=(.pointer (some ⟨g0,0,none⟩))) rfl rfl (fun _=>Qs rfl) ?_;refine xW (fun _ hC=>aa.at1.gr (hC.bl ad)) ?_;refine xu rfl rfl (fun _=>Vg rfl) ?_;refine xu rfl rfl (fun _=>Zmr rfl) ?_;refine xu (v:=(.pointer (some ⟨g0,0,none⟩))) rfl rfl (fun _=>Qs rfl) ?_;refine xW (fun _ hC=>aa.at1.gr (hC.bl ad)) ?_;refine xu rfl rfl (fun _=>Vg rfl) ?_;refine xu rfl rfl (fun _=>Zmu _ _ rfl rfl) ?_;refine xu (v:=(.int .i64 (i64.wrap (Int.tdiv (i64.wrap (ae - 1)) 2)))) rfl rfl (fun _=>Vo (i64.wrap (ae - 1)) 2 rfl rfl (by decide)) ?_;refine xu rfl rfl (fun _=>Zmr rfl) ?_;refine xu (v:=(.pointer (some ⟨g0,0,none⟩))) rfl rfl (fun _=>Qs rfl) ?_;refine xW (fun _ hC=>aa.at1.gr (hC.bl ad)) ?_;refine xu rfl rfl (fun _=>Vg rfl) ?_;refine xu rfl rfl (fun _=>Zmu _ _ rfl rfl) ?_;refine xu (v:=(.int .i64 (i64.wrap (Int.tdiv (i64.wrap (ae - 1)) 2)))) rfl rfl (fun _=>Vo (i64.wrap (ae - 1)) 2 rfl rfl (by decide)) ?_;obtain ⟨be,aw,hm⟩:=bZ hm;refine xu rfl rfl (fun _=>We underlying163 sizeOf3 rfl rfl (Xk aw).1 (Xk aw).2.1 (ac.addr aw)) ?_;refine xW (fun _ hC=>(ac.gr (hC.bl ad)).atInt aw) ?_;refine xu rfl rfl (fun _=>Zmr rfl) ?_;refine xu (v:=(.pointer (some ⟨g0,0,none⟩))) rfl rfl (fun _=>Qs rfl) ?_;refine xW (fun _ hC=>aa.at1.gr (hC.bl ad)) ?_;refine xu rfl rfl (fun _=>Vg rfl) ?_;obtain ⟨bf,ak,hm⟩:=bZ hm;refine xu rfl rfl (fun _=>We underlying163 sizeOf3 rfl rfl (Xk ak).1 (Xk ak).2.1 (ac.addr ak)) ?_;refine xW (fun _ hC=>(ac.gr (hC.bl ad)).atInt ak) ?_;refine xu rfl rfl (fun _=>We underlying163 sizeOf3 rfl rfl (Xk ak).1 (Xk ak).2.1 (ac.addr ak)) ?_;refine xe rfl rfl ?_;intro bz hC0;have hC:=hC0.bl ad;obtain ⟨am,aq,hm⟩:=bZ hm;have aq:am=aj.set (Int.toNat ae) be:=(Option.some.inj aq).symm;replace ac:=ac.gr hC;refine Y4 (x1:=be) ac ak ?_;intro bq bg br ar;rw [← aq] at ar;refine .ld (d:=46) (v:=(.slice ah am.length ai)) (congrArg (fun n=>Value.slice ah n ai) (show aj.length=am.length by rw [aq,List.length_set])) ?_;replace aa:=(aa.gr hC).kp bg;replace aa:Zo 163 440 ad bq g0 #[.slice ah am.length ai]:=by rw [← (show aj.length=am.length by rw [aq,List.length_set])];exact aa
    refine Zm<|xk ad ?_;obtain ⟨b0,ax,hm⟩:=bZ hm;refine xu rfl rfl (fun _=>We underlying163 sizeOf3 rfl rfl (Xk ax).1 (Xk ax).2.1 (ar.addr ax)) ?_;refine xe rfl rfl ?_;intro b1 hC0;replace ab:=(ab.grow hC).kp bg br;have hC:=hC0.bl ad;obtain ⟨a3,ay,hm⟩:=bZ hm;have ay:a3=am.set (Int.toNat (i64.wrap (Int.tdiv (i64.wrap (ae - 1)) 2))) bf:=(Option.some.inj ay).symm;replace ar:=ar.gr hC;refine Y4 (x1:=bf) ar ax ?_;intro bs bh bt az;rw [← ay] at az;replace aa:=(aa.gr hC).kp bh;replace aa:Zo 163 440 ad bs g0 #[.slice ah a3.length ai]:=by rw [← (show am.length=a3.length by rw [ay,List.length_set])];exact aa
    refine Zm<|xk ad<|W3 ?_;replace ab:=(ab.grow hC).kp bh bt;intro b2 hC;replace hC:=hC.bl ad;refine go ?_;refine lV (.int .i64 (i64.wrap (Int.tdiv (i64.wrap (ae - 1)) 2))) (Vo (i64.wrap (ae - 1)) 2 rfl rfl (by decide))<|go ?_;replace az:=az.gr hC;replace aa:=aa.gr hC;replace ab:=ab.grow hC;exact ⟨al,by omega,rfl,⟨_,_,_,_,_,_,rfl,hm,ab,az,aa,rfl⟩⟩
   cases hm;exact ⟨rfl,Qa w0.heap.size [qc0,af] col ad (fun n=>bif Nat.beq n 441 then af else bif Nat.beq n 440 then qc0 else 0),ah,ai,rfl,ab.finL rfl (fun n=>bif Nat.beq n 441 then af else bif Nat.beq n 440 then qc0 else 0),ab.finOwnL (g:=(fun n=>bif Nat.beq n 441 then af else bif Nat.beq n 440 then qc0 else 0)) rfl ac (by decide) (by decide) rfl,ab.finBoxL (g:=(fun n=>bif Nat.beq n 441 then af else bif Nat.beq n 440 then qc0 else 0)) aa (by decide) (by decide) rfl⟩
  refine Ur (col:=ag) (by kernel_rfl) (by kernel_rfl)<|go ?_;refine X1 hm (fun a4 hm=>go ?_) fun a4 hm=>go ?_
  ·refine qv (v:=(.pointer (some ⟨g0,0,none⟩))) rfl (fun _ hC=>Qs rfl) ?_;refine go ?_;refine qW (fun _ hC=>aa.at1.gr (hC.bl ag)) ?_;refine go ?_;obtain ⟨bu,a5,hm⟩:=bZ hm;refine qI a5 (ac.addr a5) ?_;refine go ?_;refine qW (fun _ hC=>(ac.gr (hC.bl ag)).atInt a5) ?_;refine go ?_;refine qv (v:=(.pointer (some ⟨g0,0,none⟩))) rfl (fun _ hC=>Qs rfl) ?_;refine go ?_;refine qW (fun _ hC=>aa.at1.gr (hC.bl ag)) ?_;refine go ?_;refine qv (v:=(.int .i64 (i64.wrap (Int.tdiv (i64.wrap (ae - 1)) 2)))) rfl (fun _ hC=>Vo (i64.wrap (ae - 1)) 2 rfl rfl (by decide)) ?_;refine go ?_;obtain ⟨bv,a6,hm⟩:=bZ hm;refine qI a6 (ac.addr a6) ?_;refine go ?_;refine qW (fun _ hC=>(ac.gr (hC.bl ag)).atInt a6) ?_;refine go ?_;refine qv (v:=(.bool (decide (bu<bv)))) rfl (fun _ hC=>Xm (congrArg Value.bool a4) rfl) ?_;refine Vn ?_;intro b3 hC;replace hC:=hC.bl ag;replace ac:=ac.gr hC;replace aa:=aa.gr hC;replace ab:=ab.grow hC;exact ⟨rfl,_,_,hm,ab,ac,aa,rfl⟩
  refine qv (v:=(.bool false)) rfl (fun _ hC=>Xd (congrArg Value.bool a4) rfl) ?_;refine Vn ?_;intro b4 hC;replace hC:=hC.bl ag;replace ac:=ac.gr hC;replace aa:=aa.gr hC;replace ab:=ab.grow hC;exact ⟨rfl,_,_,hm,ab,ac,aa,rfl⟩
def Zft (kk_L3:(List Int→R2→Option R2)) (aa:List Int) (ab:List Int):Option R2:=
  kk_L3 aa ab
def Zad (N:Nat) (ad:List Int) (kk_L2:(List Int→R2→R2→Option R2)) (ae:R4):List Int→R2→R2→Option R2
  | [],aa,ab=>kk_L2 aa ab (ad++[ae.1])
  | ac :: ag,aa,ab=>(Zp aa ac).bind fun ah=>(some (aa.set (Int.toNat ac) (i64.wrap (ah - 1)))).bind fun af=>(Zp af ac).bind fun ai=>if (decide (ai=0))=true then ((Zfq N ab ac).bind fun aj=>Zft (Zad N ad kk_L2 ae ag) af aj) else (Zft (Zad N ad kk_L2 ae ag) af ab)
termination_by structural x=>x
def Tc (N:Nat) (ac:R6):Nat→R2→R2→R2→Option R2
  | 0,_,_,_=>none
  | ae+1,af,ad,ab=>if (decide (0<(ad.length:Int)))=true then ((Zh7 N ad).bind fun aa=>Z7 ((ab.length+[aa.1].length) * 8≤140737488355328∧ab.length+[aa.1].length≤maxLen) ((Zp ac aa.1).bind fun ag=>Zad N ab (Tc N ac ae) aa ag af aa.2)) else (some ab)
termination_by structural x=>x
def Zfu (aa:Nat) (kk_L1:(Nat→R2→R2→Option R2)) (ab:List Int) (ac:List Int):Option R2:=
  kk_L1 (aa+1) ab ac
def Zac (N:Nat) (ad:R6):List R2→Nat→R2→R2→Option R2
  | [],aa,ab,ac=>Tc N ad N ab ac ([]:List Int)
  | ae :: af,aa,ab,ac=>(Zp ab (aa:Int)).bind fun ai=>(some (ab.set (Int.toNat (aa:Int)) (ae.length:Int))).bind fun ag=>if (decide ((ae.length:Int)=0))=true then ((Zfq N ac (aa:Int)).bind fun ah=>Zfu aa (Zac N ad af) ag ah) else (Zfu aa (Zac N ad af) ag ac)
termination_by structural x=>x
def Zfs (N:Nat) (aa:R6) (ab:R6):Option R2:=
  Z7 (aa.length * 8≤281474976710656∧aa.length≤maxLen) (Zac N ab aa 0 (List.replicate aa.length (0:Int)) ([]:List Int))
theorem Zzi {N cs ct:Nat} {a0 a1:Option Addr} {col:Ze} {w0:World} {af ag:R6} {r:R2} (c1:Nat) (hm:Zfs N af ag=some r) (h0:Sl (Za.slice (Za.int .i64)) col w0 a0 cs af) (h1:Sl (Za.slice (Za.int .i64)) col w0 a1 ct ag):
    Calls Tryz.prog 102 #[.slice a0 af.length cs,.slice a1 ag.length ct] w0 (fun e w'=>∃ (col':Ze) (ra1:Option Addr) (rc2:Nat),e= .returned ((.slice ra1 r.length rc2))∧Zg col w0 col' w'∧Zc (Za.int .i64) 3 c1 col' w' ra1 rc2 r):=by
 refine Xo 4 (m:=66) func102 rfl rfl rfl rfl rfl ?_;rw [Zfs.eq_1] at hm;have aa:=St.start col w0;refine go ?_;obtain ⟨cu,hm⟩:=Xc hm;refine Qe (col:=(Zk col)) (w:=w0) (r:=(Za.int .i64)) (n:=af.length) (x0:=0) 1 rfl underlying39 Tryz.t3 rfl rfl rfl rfl rfl rfl rfl cu.1 cu.2 (Qu .i64 0) ?_;intro d2 d3 c6 c7 bx;refine go ?_;refine Zop (col:=c6) (v:=(.slice none (([]:List Int).length) 0)) 2 rfl zeroValue163 ?_;intro aq c8 c9 cv ab;replace ab:Zo 163 2 c9 c8 aq #[.slice none (([]:List Int).length) 0]:=ab;refine go ?_;replace aa:=(aa.grow c7).grow cv;replace bx:=bx.gr cv;refine Xe [1,16,17,6,1000000] (fun n f az=>∃ a2 ah a3 a4 ar bz b0 bj a5,n=a5.length∧af.drop ah=a5∧Zac N ag a5 ah ar bj=some r∧St w0 (Zk col) a2 az∧Zc (Za.int .i64) 3 1 a2 az a3 a4 ar∧Zc (Za.int .i64) 3 3 a2 az bz b0 bj∧Zo 163 2 a2 az aq #[.slice bz bj.length b0]∧[18,5].map f=[.int .i64 ah,.slice a3 ar.length a4]) af.length ⟨_,0,_,_,_,none,0,_,_,rfl,rfl,hm,aa,bx,Zc.nil,ab,rfl⟩ ?_;clear hm;intro n f az hI;obtain ⟨a2,ah,a3,a4,ar,bz,b0,bj,a5,hn,hl,hm,aa,b1,a6,ab,hs⟩:=hI;subst hn;refine .lL [18,5] hs ?_;replace h0:=h0.keep (Zl.start col w0);replace h1:=h1.keep (Zl.start col w0)
 cases a5 with
 | nil=>
  have hk:¬ ((ah:Int)<(af.length:Int)):=by have:=List.drop_eq_nil_iff.1 hl;omega
  have hkb:=decide_eq_false hk;rw [Zac.eq_1] at hm;refine go ?_;refine Yv (congrArg Value.bool hkb)<|go ?_;refine Xe [1,6,1000000] (fun n f au=>∃ av b2 b3 bk b4 b5 bm b6 b7 ai aj,aj=n∧Tc N ag aj bk bm ai=some r∧St w0 (Zk col) av au∧Zc (Za.int .i64) 3 1 av au b2 b3 bk∧Zc (Za.int .i64) 3 3 av au b4 b5 bm∧Zo 163 2 av au aq #[.slice b4 bm.length b5]∧Zc (Za.int .i64) 3 4 av au b6 b7 ai∧[5,9].map f=[.slice b2 bk.length b3,.slice b6 ai.length b7]) N ⟨_,_,_,_,_,_,_,none,0,_,_,rfl,hm,aa,b1,a6,ab,Zc.nil,rfl⟩ ?_;clear hm;intro n f au hI;obtain ⟨av,b2,b3,bk,b4,b5,bm,b6,b7,ai,aj,hn,hm,aa,b8,da,ab,bn,hs⟩:=hI;subst hn;refine .lL [5,9] hs ?_
  cases aj with
  | zero=>rw [Tc.eq_1] at hm;cases hm
  | succ aj=>
   rw [Tc.eq_2] at hm;refine go ?_;refine lW ab.at1<|go ?_;refine Zs hm (fun hb hm=>go ?_) fun hb hm=>go ?_
   ·obtain ⟨a7,db,hm⟩:=bZ hm;refine Zi (Zzh 2 3 db rfl da ab) ?_;rintro _ d4 ⟨dc,d5,d6,rfl,b9,ca,ad⟩;refine ⟨_,rfl,go ?_⟩;refine Vb (col:=dc) [a7.1] 5 ?_;intro d7 d8 d9 a8 dd;obtain ⟨de,hm⟩:=Xc hm;replace bn:=(bn.kpp b9).gr a8;refine T7 bn (dd.srcN (NB.int (k:=.i64))) de ?_;intro cw cx ea eb bo ae;refine go ?_;obtain ⟨aw,cb,hm⟩:=bZ hm;replace aa:=((aa.kpp b9).grow a8).kpp bo;refine lI cb ((h1.ks aa).addr cb) ?_;obtain ⟨_,df,dg⟩:=(h1.ks aa).atN cb;obtain ⟨⟨cy,cz,rfl,ac⟩,_⟩:=df;refine lW dg.one<|go ?_;replace b8:=((b8.kpp b9).gr a8).kpp bo;replace ca:=(ca.gr a8).kpp bo;replace ad:=(ad.gr a8).kpp bo;refine Xe [1,45,46,6,9,1000000] (fun n f ak=>∃ al a9 ba bb ax cc cd bp bc,n=bc.length∧aw.drop a9=bc∧Zad N ai (Tc N ag aj) a7 bc ax bp=some r∧St w0 (Zk col) al ak∧Sl (Za.int .i64) al ak cy cz aw∧Zc (Za.int .i64) 3 1 al ak ba bb ax∧Zc (Za.int .i64) 3 3 al ak cc cd bp∧Zo 163 2 al ak aq #[.slice cc bp.length cd]∧Zc (Za.int .i64) 3 4 al ak cw cx (ai++[a7.1])∧[47,5].map f=[.int .i64 a9,.slice ba ax.length bb]) aw.length ⟨_,0,_,_,_,_,_,_,_,rfl,rfl,hm,aa,ac,b8,ca,ad,ae,rfl⟩ ?_;clear hm;intro n f ak hI;obtain ⟨al,a9,ba,bb,ax,cc,cd,bp,bc,hn,hl,hm,aa,ac,bd,be,ad,ae,hs⟩:=hI;subst hn;refine .lL [47,5] hs ?_
    cases bc with
    | nil=>
     have hk:¬ ((a9:Int)<(aw.length:Int)):=by have:=List.drop_eq_nil_iff.1 hl;omega
     have hkb:=decide_eq_false hk;rw [Zad.eq_1] at hm;refine go ?_;refine Yv (congrArg Value.bool hkb)<|go ?_;exact ⟨aj,by omega,rfl,⟨_,_,_,_,_,_,_,_,_,_,_,rfl,hm,aa,bd,be,ad,ae,rfl⟩⟩
    | cons dh c0=>
     obtain ⟨am,di,dj⟩:=Y1 hl;have hk:(a9:Int)<(aw.length:Int):=by omega
     have hkb:=decide_eq_true hk;rw [Zad.eq_2] at hm;refine go ?_;refine Yw (congrArg Value.bool hkb)<|Yc<|Zw ?_;refine Wp.cutK [1,45,46,47,6,9,1000000] (fun f an=>∃ ao ce cf bq cg ch br,Zft (Zad N ai (Tc N ag aj) a7 c0) bq br=some r∧St w0 (Zk col) ao an∧Sl (Za.int .i64) ao an cy cz aw∧Zc (Za.int .i64) 3 1 ao an ce cf bq∧Zc (Za.int .i64) 3 3 ao an cg ch br∧Zo 163 2 ao an aq #[.slice cg br.length ch]∧Zc (Za.int .i64) 3 4 ao an cw cx (ai++[a7.1])∧[5].map f=[.slice ce bq.length cf]) ?_ ?_
     ·intro f an hJ;obtain ⟨ao,ce,cf,bq,cg,ch,br,hm,aa,ac,dl,dm,ad,ae,hs⟩:=hJ;rw [Zft.eq_1] at hm;refine .lL [5] hs<|go ?_;exact ⟨c0.length,by simp,rfl,⟨_,_,_,_,_,_,_,_,_,rfl,di,hm,aa,ac,dl,dm,ad,ae,(Y7 (congrArg (Value.int .i64) (Y3 (Nat.lt_of_lt_of_le dj ac.1.1))) rfl)⟩⟩
     refine go ?_;refine lI am (ac.addr am)<|lW (ac.atInt am) ?_;refine go ?_;obtain ⟨c2,ay,hm⟩:=bZ hm;refine lI ay (bd.addr ay)<|lW (bd.atInt ay) ?_;refine go ?_;refine lI ay (bd.addr ay) ?_;obtain ⟨ci,bs,hm⟩:=bZ hm;have bs:ci=ax.set (Int.toNat dh) (i64.wrap (c2 - 1)):=(Option.some.inj bs).symm;refine Y4 (x1:=i64.wrap (c2 - 1)) bd ay ?_;intro ec bf dn ap;rw [← bs] at ap;refine .ld (d:=5) (v:=(.slice ba ci.length bb)) (congrArg (fun n=>Value.slice ba n bb) (show ax.length=ci.length by rw [bs,List.length_set])) ?_;refine go ?_;obtain ⟨ed,cj,hm⟩:=bZ hm;refine lI cj (ap.addr cj)<|lW (ap.atInt cj) ?_;refine go ?_;replace ac:=ac.kp bf;replace be:=be.kp bf;replace ae:=ae.kp bf;replace ad:=ad.kp bf;replace aa:=aa.kp bf dn;refine Zs hm (fun hb hm=>go ?_) fun hb hm=>?_
     ·obtain ⟨ee,dp,hm⟩:=bZ hm;refine Zi (Zrm 2 3 dp rfl be ad) ?_;rintro _ ef ⟨eg,eh,ei,rfl,bt,dq,dr⟩;refine ⟨_,rfl,?_⟩;refine Zm ?_;replace ac:=ac.kpp bt;replace ap:=ap.kpp bt;replace ae:=ae.kpp bt;replace aa:=aa.kpp bt;exact ⟨rfl,_,_,_,_,_,_,_,hm,aa,ac,ap,dq,dr,ae,rfl⟩
     refine Yc ?_;exact ⟨rfl,_,_,_,_,_,_,_,hm,aa,ac,ap,be,ad,ae,rfl⟩
   cases hm;exact ⟨rfl,_,_,_,rfl,aa.fin (cm [(4,c1)]),aa.fo bn⟩
 | cons c3 c4=>
  obtain ⟨am,ds,dt⟩:=Y1 hl;have hk:(ah:Int)<(af.length:Int):=by omega
  have hkb:=decide_eq_true hk;rw [Zac.eq_2] at hm;refine go ?_;refine Yw (congrArg Value.bool hkb)<|Yc<|Zw ?_;refine Wp.cutK [1,16,17,18,6,1000000] (fun f bg=>∃ bh ck cl bu cn co bv,Zfu ah (Zac N ag c4) bu bv=some r∧St w0 (Zk col) bh bg∧Zc (Za.int .i64) 3 1 bh bg ck cl bu∧Zc (Za.int .i64) 3 3 bh bg cn co bv∧Zo 163 2 bh bg aq #[.slice cn bv.length co]∧[5].map f=[.slice ck bu.length cl]) ?_ ?_
  ·intro f bg hJ;obtain ⟨bh,ck,cl,bu,cn,co,bv,hm,aa,du,dv,ab,hs⟩:=hJ;rw [Zfu.eq_1] at hm;refine .lL [5] hs<|go ?_;exact ⟨c4.length,by simp,rfl,⟨_,_,_,_,_,_,_,_,_,rfl,ds,hm,aa,du,dv,ab,(Y7 (congrArg (Value.int .i64) (Y3 (Nat.lt_of_lt_of_le dt (h0.ks aa).1.1))) rfl)⟩⟩
  refine go ?_;refine lI am ((h0.ks aa).addr am) ?_;obtain ⟨_,dw,dx⟩:=(h0.ks aa).atN am;obtain ⟨⟨ej,ek,rfl,el⟩,_⟩:=dw;refine lW dx.one<|go ?_;obtain ⟨em,cp,hm⟩:=bZ hm;refine lI cp (b1.addr cp) ?_;obtain ⟨cq,bw,hm⟩:=bZ hm;have bw:cq=ar.set (Int.toNat (ah:Int)) (c3.length:Int):=(Option.some.inj bw).symm;refine Y4 (x1:=(c3.length:Int)) b1 cp ?_;intro en cr dy bi;rw [← bw] at bi;refine .ld (d:=5) (v:=(.slice a3 cq.length a4)) (congrArg (fun n=>Value.slice a3 n a4) (show ar.length=cq.length by rw [bw,List.length_set])) ?_;refine go ?_;replace a6:=a6.kp cr;replace ab:=ab.kp cr;replace aa:=aa.kp cr dy;refine Zs hm (fun hb hm=>go ?_) fun hb hm=>?_
  ·obtain ⟨eo,dz,hm⟩:=bZ hm;refine Zi (Zrm 2 3 dz rfl a6 ab) ?_;rintro _ ep ⟨eq,er,es,rfl,c5,d0,d1⟩;refine ⟨_,rfl,?_⟩;refine Zm ?_;replace bi:=bi.kpp c5;replace aa:=aa.kpp c5;exact ⟨rfl,_,_,_,_,_,_,_,hm,aa,bi,d0,d1,rfl⟩
  refine Yc ?_;exact ⟨rfl,_,_,_,_,_,_,_,hm,aa,bi,a6,ab,rfl⟩
def Tm (N:Nat) (aa:R6):Option Rb:=
  (Zfn aa).bind fun ab=>if (!decide (ab=0))=true then (some (([]:List Int),ab)) else ((Zfm aa).bind fun ad=>(Zfs N aa ad).bind fun ac=>if (decide ((ac.length:Int)<(aa.length:Int)))=true then (some (([]:List Int),42)) else (some (ac,0)))
theorem Zno {N ad:Nat} {a0:Option Addr} {col:Ze} {w0:World} {ab:R6} {r:Rb} (c1:Nat) (hm:Tm N ab=some r) (h0:Sl (Za.slice (Za.int .i64)) col w0 a0 ad ab):
    Calls Tryz.prog 45 #[.slice a0 ab.length ad] w0 (fun e w'=>∃ (col':Ze) (ra1:Option Addr) (rc2:Nat),e= .returned (.tuple #[.slice ra1 r.1.length rc2,.int .i64 r.2])∧Zg col w0 col' w'∧Zc (Za.int .i64) 3 c1 col' w' ra1 rc2 r.1):=by
 refine Zhs 2 3 (m:=21) (args:=[.slice a0 ab.length ad]) func45 rfl rfl rfl rfl rfl ?_;rw [Tm.eq_1] at hm;have aa:=St.start col w0;refine go ?_;obtain ⟨ap,ah,hm⟩:=bZ hm;replace h0:=h0.keep (Zl.start col w0);refine Zi (Zzg ah (h0.ks aa)) ?_;rintro _ ai ⟨rfl,ae⟩;refine ⟨_,rfl,?_⟩;replace ae:Zg (Zk col) w0 (Zk col) ai:=.of_below ae;refine go ?_;replace aa:=aa.grow ae;refine Zs hm (fun hb hm=>go ?_) fun hb hm=>go ?_
 ·cases hm;exact ⟨rfl,_,none,0,rfl,aa.fin (cm []),Zc.nil⟩
 obtain ⟨aq,aj,hm⟩:=bZ hm;refine Zi (Zzf 1 aj (h0.ks aa)) ?_;rintro _ ak ⟨af,ar,au,rfl,al,am⟩;refine ⟨_,rfl,?_⟩;obtain ⟨av,an,hm⟩:=bZ hm;replace aa:=aa.grow al;refine Zi (Zzi 2 an ((h0.ks aa).froz 1) (am.toSlF (Zh.row (Zh.int .i64)))) ?_;rintro _ aw ⟨ao,ax,ay,rfl,ac,ag⟩;refine ⟨_,rfl,?_⟩;replace ag:=ag.thaw (Z0 .i64) ac ((Fz.refl (col:=af)).froz 1) (by decide);replace ac:=ac.thawR (col:=af);generalize Xa ak.heap.size af ao=az at *;refine go ?_;replace aa:=aa.grow ac;refine Zs hm (fun hb hm=>go ?_) fun hb hm=>go ?_
 ·cases hm;exact ⟨rfl,_,none,0,rfl,aa.fin (cm []),Zc.nil⟩
 cases hm;exact ⟨rfl,_,_,_,rfl,aa.fin (cm [(2,c1)]),aa.fo ag⟩
def Za2 (N:Nat) (aa:R6):Option Int:=
  (Tm N aa).bind fun ab=>some ab.2
theorem Zze {N ad:Nat} {a0:Option Addr} {col:Ze} {w0:World} {ac:R6} {r:Int} (hm:Za2 N ac=some r) (h0:Sl (Za.slice (Za.int .i64)) col w0 a0 ad ac):
    Calls Tryz.prog 89 #[.slice a0 ac.length ad] w0 (fun e w'=>e= .returned ((.int .i64 r))∧Below w0.heap.size w0 w'):=by
 refine Xo 2 (m:=11) func89 rfl rfl rfl rfl rfl ?_;rw [Za2.eq_1] at hm;have aa:=St.start col w0;refine go ?_;obtain ⟨ab,ag,hm⟩:=bZ hm;replace h0:=h0.keep (Zl.start col w0);refine Zi (Zno 1 ag (h0.ks aa)) ?_;rintro _ ai ⟨aj,ae,af,rfl,ah,ak⟩;refine ⟨_,rfl,?_⟩;refine lM (.tuple #[.slice ae ab.1.length af,.int .i64 ab.2])<|lV (.slice ae ab.1.length af) (Xh rfl rfl)<|lV (.int .i64 ab.2) (Xh rfl rfl)<|go ?_;cases hm;replace aa:=aa.grow ah;exact ⟨rfl,rfl,aa.below⟩
def Zlk (aa:Int) (kk_L2:(Int→Option Bool)) (ab:Bool):Option Bool:=
  if ab=true then (some false) else (kk_L2 (i64.wrap (aa+1)))
def Zi3 (N:Nat) (aa:R6) (ab:Int) (kk_L1:(Int→Option Bool)):Nat→Int→Option Bool
  | 0,_=>none
  | ad+1,ac=>(Zp aa ab).bind fun ae=>if (decide (ac<(ae.length:Int)))=true then ((Zp ae ac).bind fun af=>if (decide (af<0))=true then (Zlk ac (Zi3 N aa ab kk_L1 ad) true) else (Zlk ac (Zi3 N aa ab kk_L1 ad) (decide ((aa.length:Int)≤af)))) else (kk_L1 (i64.wrap (ab+1)))
termination_by structural x=>x
def Zi2 (N:Nat) (aa:R6):Nat→Int→Option Bool
  | 0,_=>none
  | ac+1,ab=>if (decide (ab<(aa.length:Int)))=true then (Zi3 N aa ab (Zi2 N aa ac) N 0) else (some true)
termination_by structural x=>x
def Zlj (N:Nat) (aa:R6):Option Bool:=
  Zi2 N aa N 0
def Zli (N:Nat) (aa:List Int) (ac:Int):Nat→Int→Option Bool
  | 0,_=>none
  | ad+1,ab=>if (decide (ab<(aa.length:Int)))=true then ((Zp aa ab).bind fun ae=>if (decide (ae=ac))=true then (some true) else ((Zli N aa ac ad) (i64.wrap (ab+1)))) else (some false)
termination_by structural x=>x
def Zi1 (N:Nat) (aa:List Int) (ab:Int):Option Bool:=
  Zli N aa ab N 0
def Zlo (N:Nat) (ad:R6) (ac:Int) (kk_L1:(Int→Option Bool)):Nat→Int→Option Bool
  | 0,_=>none
  | ae+1,aa=>(Zp ad ac).bind fun ab=>if (decide (aa<(ab.length:Int)))=true then (Z7 ((0:Int)≤aa∧aa≤(ab.length:Int)) ((Zp ab aa).bind fun af=>(Zi1 N (ab.take (Int.toNat aa)) af).bind fun ag=>if ag=true then (some true) else ((Zlo N ad ac kk_L1 ae) (i64.wrap (aa+1))))) else (kk_L1 (i64.wrap (ac+1)))
termination_by structural x=>x
def Zi5 (N:Nat) (aa:R6):Nat→Int→Option Bool
  | 0,_=>none
  | ac+1,ab=>if (decide (ab<(aa.length:Int)))=true then (Zlo N aa ab (Zi5 N aa ac) N 0) else (some false)
termination_by structural x=>x
def Zln (N:Nat) (aa:R6):Option Bool:=
  Zi5 N aa N 0
def Zll (aa:Int) (kk_L2:(Int→Int→Option R2)) (ab:Int):Option R2:=
  kk_L2 ab (i64.wrap (aa+1))
def Zlm (aa:Int) (kk_L3:(Bool→Int→Option R2)) (ab:Bool):Option R2:=
  kk_L3 ab (i64.wrap (aa+1))
def Zi4 (N:Nat) (ac:R6) (ad:List Int) (ae:Int) (aa:Int) (kk_L2:(Int→Int→Option R2)):Nat→Bool→Int→Option R2
  | 0,_,_=>none
  | af+1,ag,ab=>(Zp ac aa).bind fun ah=>if (decide (ab<(ah.length:Int)))=true then (if ag=true then ((Zp ah ab).bind fun ai=>(Zi1 N ad ai).bind fun aj=>Zlm ab (Zi4 N ac ad ae aa kk_L2 af) aj) else (Zlm ab (Zi4 N ac ad ae aa kk_L2 af) false)) else (if ag=true then (Zll aa kk_L2 aa) else (Zll aa kk_L2 ae))
termination_by structural x=>x
def Zgz (N:Nat) (ad:R6) (aa:List Int) (kk_L1:(List Int→Option R2)) (ab:Int) (ac:Int) (kk_L2:(Int→Int→Option R2)) (ae:Bool):Option R2:=
  if ae=true then ((Zi1 N aa ac).bind fun af=>Zi4 N ad aa ab ac kk_L2 N (!af) 0) else (if (decide (ab<0))=true then (some aa) else (Z7 ((aa.length+[ab].length) * 8≤140737488355328∧aa.length+[ab].length≤maxLen) (kk_L1 (aa++[ab]))))
def Zd8 (N:Nat) (aa:R6) (ab:List Int) (kk_L1:(List Int→Option R2)):Nat→Int→Int→Option R2
  | 0,_,_=>none
  | ae+1,ac,ad=>if (decide (ad<(aa.length:Int)))=true then (Zgz N aa ab kk_L1 ac ad (Zd8 N aa ab kk_L1 ae) (decide (ac<0))) else (Zgz N aa ab kk_L1 ac ad (Zd8 N aa ab kk_L1 ae) false)
termination_by structural x=>x
def Zbm (N:Nat) (aa:R6):Nat→R2→Option R2
  | 0,_=>none
  | ab+1,ac=>Zd8 N aa ac (Zbm N aa ab) N (-1) 0
termination_by structural x=>x
def Qo (N:Nat) (aa:R6):Option R2:=
  Zbm N aa N ([]:List Int)
def Zbl (N:Nat) (aa:R6):Option Int:=
  (Zlj N aa).bind fun ab=>if (!ab)=true then (some 3) else ((Zln N aa).bind fun ac=>if ac=true then (some 40) else ((Qo N aa).bind fun ad=>if (decide ((ad.length:Int)<(aa.length:Int)))=true then (some 42) else (some 0)))
theorem Zq5 (N:Nat) (l:List Int) (x:Int) (hl:l.length≤1048576):∀ (n k:Nat),l.length<n+k→k≤l.length→Zli N l x n (k:Int)=some (decide (x ∈ l.drop k))
 | 0,k,h,hk=>by omega
 | n+1,k,h,hk=>by
  rw [Zli.eq_2]
  by_cases hlt:k<l.length
  ·rw [if_pos (by simpa using hlt),Z9 hlt,Option.bind_some,wS (by omega),Zq5 N l x hl n (k+1) (by omega) (by omega),List.drop_eq_getElem_cons hlt]
   by_cases he:l[k]=x
   ·rw [if_pos (by simpa using he),decide_eq_true (by rw [he];exact List.mem_cons_self)]
   ·rw [if_neg (by simpa using he)]
    exact congrArg some (decide_eq_decide.2 ⟨fun h=>List.mem_cons_of_mem _ h,fun h=>(List.mem_cons.1 h).resolve_left (Ne.symm he)⟩)
  ·rw [if_neg (by simpa using hlt),List.drop_eq_nil_of_le (by omega)];simp
theorem Znf {N:Nat} {l:List Int} {x:Int} (hl:l.length≤1048576) (hN:1048576<N):Zi1 N l x=some (decide (x ∈ l)):=by
 rw [Zi1];simpa using Zq5 N l x hl N 0 (by omega) (by omega)
def Uj (m:Int) (P:List R2):Bool:=P.all fun l=>l.all fun p=>decide (0≤p∧p<m)
theorem Zt0 (N:Nat) (P:List R2) (i:Nat) (hi:i<P.length) (hP:P.length≤1048576) (hl:P[i].length≤1048576) (kk:Int→Option Bool):∀ (n k:Nat),P[i].length<n+k→k≤P[i].length→
  Zi3 N P (i:Int) kk n (k:Int)=if (P[i].drop k).all (fun p=>decide (0≤p∧p<(P.length:Int))) then kk ((i+1:Nat):Int) else some false
 | 0,k,h,hk=>by omega
 | n+1,k,h,hk=>by
  rw [Zi3.eq_2,Z9 hi,Option.bind_some]
  by_cases hlt:k<P[i].length
  ·rw [if_pos (by simpa using hlt),Z9 hlt,Option.bind_some,Zlk,Zlk,wS (by omega),Zt0 N P i hi hP hl kk n (k+1) (by omega) (by omega),List.drop_eq_getElem_cons hlt]
   by_cases h1:P[i][k]<0
   ·rw [if_pos (by simpa using h1),if_pos rfl,if_neg (fun h=>by rw [List.all_cons,Bool.and_eq_true,decide_eq_true_eq] at h;omega)]
   ·rw [if_neg (by simpa using h1)]
    by_cases h2:(P.length:Int)≤P[i][k]
    ·rw [if_pos (by simpa using h2),if_neg (fun h=>by rw [List.all_cons,Bool.and_eq_true,decide_eq_true_eq] at h;omega)]
    ·rw [if_neg (by simpa using h2)]
     simp only [List.all_cons,Bool.and_eq_true]
     have h3:decide (0≤P[i][k]∧P[i][k]<(P.length:Int))=true:=by simp;omega
     simp only [h3,true_and]
  ·rw [if_neg (by simpa using hlt),List.drop_eq_nil_of_le (by omega),wS (by omega)];simp
theorem Ztz (N:Nat) (P:List R2) (hP:P.length≤1048576) (hl:∀ l ∈ P,l.length≤1048576) (hN:1048576<N):∀ (n i:Nat),P.length<n+i→i≤P.length→
  Zi2 N P n (i:Int)=some (Uj P.length (P.drop i))
 | 0,i,h,hi=>by omega
 | n+1,i,h,hi=>by
  rw [Zi2.eq_2]
  by_cases hlt:i<P.length
  ·have h0:=Zt0 N P i hlt hP (hl _ (List.getElem_mem hlt)) (Zi2 N P n) N 0 (by have:=hl _ (List.getElem_mem hlt);omega) (by omega)
   rw [if_pos (by simpa using hlt)]
   rw [show (0:Int)=((0:Nat):Int) from rfl,h0,Ztz N P hP hl hN n (i+1) (by omega) (by omega),List.drop_eq_getElem_cons hlt]
   simp only [Uj,List.all_cons,List.drop_zero]
   by_cases h1:(P[i].all fun p=>decide (0≤p∧p<(P.length:Int)))=true
   ·rw [if_pos h1,h1,Bool.true_and]
   ·rw [if_neg h1,Bool.eq_false_iff.2 h1,Bool.false_and]
  ·rw [if_neg (by simpa using hlt),List.drop_eq_nil_of_le (by omega)];rfl
theorem Z18 {N:Nat} {P:List R2} (hP:P.length≤1048576) (hl:∀ l ∈ P,l.length≤1048576) (hN:1048576<N):Zlj N P=some (Uj P.length P):=by
 rw [Zlj];simpa using Ztz N P hP hl hN N 0 (by omega) (by omega)
def Tf (P:List R2):Bool:=P.any fun l=>!decide l.Nodup
theorem Zvc (l:List Int) (k:Nat) (hk:k<l.length):(l.take (k+1)).Nodup↔(l.take k).Nodup∧l[k] ∉ l.take k:=by
 rw [List.take_succ_eq_append_getElem hk,List.nodup_append]
 simp only [List.nodup_cons,List.not_mem_nil,not_false_eq_true,List.nodup_nil,and_self,List.mem_singleton,true_and]
 constructor
 ·rintro ⟨h1,h2⟩;exact ⟨h1,fun h=>h2 _ h _ rfl rfl⟩
 ·rintro ⟨h1,h2⟩;exact ⟨h1,fun a ha b hb e=>h2 (by rw [← hb,← e];exact ha)⟩
theorem Zyi (N:Nat) (P:List R2) (i:Nat) (hi:i<P.length) (hP:P.length≤1048576) (hl:P[i].length≤1048576) (hN:1048576<N) (kk:Int→Option Bool):∀ (n k:Nat),P[i].length<n+k→k≤P[i].length→(P[i].take k).Nodup→
  Zlo N P (i:Int) kk n (k:Int)=if P[i].Nodup then kk ((i+1:Nat):Int) else some true
 | 0,k,h,hk,_=>by omega
 | n+1,k,h,hk,hnd=>by
  rw [Zlo.eq_2,Z9 hi,Option.bind_some]
  by_cases hlt:k<P[i].length
  ·rw [if_pos (by simpa using hlt),Xg (by omega),Z9 hlt,Option.bind_some,Znf (by simp;omega) hN,Option.bind_some,Int.toNat_natCast]
   by_cases h1:P[i][k] ∈ P[i].take k
   ·rw [if_pos (by simpa using h1),if_neg]
    intro h2
    exact ((Zvc _ k hlt).1 (h2.sublist (List.take_sublist _ _))).2 h1
   ·rw [if_neg (by simpa using h1),wS (by omega)]
    exact Zyi N P i hi hP hl hN kk n (k+1) (by omega) (by omega) ((Zvc _ k hlt).2 ⟨hnd,h1⟩)
  ·rw [if_neg (by simpa using hlt),wS (by omega)]
   rw [List.take_of_length_le (by omega)] at hnd
   rw [if_pos hnd]
theorem Zyh (N:Nat) (P:List R2) (hP:P.length≤1048576) (hl:∀ l ∈ P,l.length≤1048576) (hN:1048576<N):∀ (n i:Nat),P.length<n+i→i≤P.length→
  Zi5 N P n (i:Int)=some (Tf (P.drop i))
 | 0,i,h,hi=>by omega
 | n+1,i,h,hi=>by
  rw [Zi5.eq_2]
  by_cases hlt:i<P.length
  ·have h0:=Zyi N P i hlt hP (hl _ (List.getElem_mem hlt)) hN (Zi5 N P n) N 0 (by have:=hl _ (List.getElem_mem hlt);omega) (by omega) (by simp)
   rw [if_pos (by simpa using hlt)]
   rw [show (0:Int)=((0:Nat):Int) from rfl,h0,Zyh N P hP hl hN n (i+1) (by omega) (by omega),List.drop_eq_getElem_cons hlt]
   simp only [Tf,List.any_cons]
   by_cases h1:P[i].Nodup
   ·rw [if_pos h1];simp [h1]
   ·rw [if_neg h1];simp [h1]
  ·rw [if_neg (by simpa using hlt),List.drop_eq_nil_of_le (by omega)];rfl
theorem Z5g {N:Nat} {P:List R2} (hP:P.length≤1048576) (hl:∀ l ∈ P,l.length≤1048576) (hN:1048576<N):Zln N P=some (Tf P):=by
 rw [Zln];simpa using Zyh N P hP hl hN N 0 (by omega) (by omega)
def Te (P:List R2):Nat:=(P.map List.length).sum
theorem Zjy (l:List Int) (P:List R2):Te (l :: P)=l.length+Te P:=by simp [Te]
theorem Zm6 {l:List Int}:∀ {P:List R2},l ∈ P→l.length≤Te P
 | x :: P,h=>by
  rw [Zjy]
  rcases List.mem_cons.1 h with rfl | h
  ·omega
  ·have:=Zm6 h;omega
def Zoc:Nat→List R2→List (Int×Int)
 | _,[]=>[]
 | k,l :: P=>l.map (fun p=>(p,(k:Int)))++Zoc (k+1) P
theorem Z1b:∀ (k:Nat) (P:List R2),(Zoc k P).length=Te P
 | _,[]=>rfl
 | k,l :: P=>by rw [Zoc,List.length_append,List.length_map,Z1b,Zjy]
def Tx (P:List R2) (l:List Int) (i:Nat):Bool:=!decide ((i:Int) ∈ l)&&(P.getD i []).all fun p=>decide (p ∈ l)
def Vd (P:List R2) (l:List Int) (i:Nat):Option Nat:=(List.range' i (P.length - i)).find? (Tx P l)
theorem Z3a (P:List R2) (l:List Int) (i:Nat) (h:P.length≤i):Vd P l i=none:=by
 rw [Vd,Nat.sub_eq_zero_of_le h];rfl
theorem Z3c (P:List R2) (l:List Int) (i:Nat) (h:i<P.length):Vd P l i=if Tx P l i then some i else Vd P l (i+1):=by
 rw [Vd,Vd,show P.length - i=(P.length - (i+1))+1 by omega,List.range'_succ,List.find?_cons]
 cases Tx P l i <;> simp
section
variable (N:Nat) (P:List R2) (l:List Int)
theorem Zpo (hP:P.length≤1048576) (hl:l.length≤1048576) (hN:1048576<N) (next:Int) (i:Nat) (hi:i<P.length) (hli:P[i].length≤1048576) (kk:Int→Int→Option R2):∀ (n:Nat) (b:Bool) (k:Nat),P[i].length<n+k→k≤P[i].length→
  Zi4 N P l next (i:Int) kk n b (k:Int)=kk (if (b&&(P[i].drop k).all fun p=>decide (p ∈ l))=true then (i:Int) else next) ((i+1:Nat):Int)
 | 0,b,k,h,hk=>by omega
 | n+1,b,k,h,hk=>by
  rw [Zi4.eq_2,Z9 hi,Option.bind_some]
  by_cases hlt:k<P[i].length
  ·rw [if_pos (by simpa using hlt),Z9 hlt,Option.bind_some,Znf hl hN,Option.bind_some,Zlm,Zlm,wS (by omega),Zpo hP hl hN next i hi hli kk n _ (k+1) (by omega) (by omega),Zpo hP hl hN next i hi hli kk n _ (k+1) (by omega) (by omega),List.drop_eq_getElem_cons hlt,List.all_cons]
   cases b
   ·rw [if_neg (by decide),Bool.false_and,Bool.false_and]
   ·rw [if_pos rfl,Bool.true_and]
  ·rw [if_neg (by simpa using hlt),List.drop_eq_nil_of_le (by omega),Zll,Zll,wS (by omega),List.all_nil,Bool.and_true]
   cases b
   ·rw [if_neg (by decide),if_neg (by decide)]
   ·rw [if_pos rfl,if_pos rfl]
def Zv5 (kk:List Int→Option R2):Option Nat→Option R2
 | none=>some l
 | some i=>kk (l++[(i:Int)])
theorem Zvo (hl:l.length<1048576) (kk:List Int→Option R2) (i:Nat) (i':Int) (kk2:Int→Int→Option R2):Zgz N P l kk (i:Int) i' kk2 false=kk (l++[(i:Int)]):=by
 rw [Zgz,if_neg (by decide),if_neg (by rw [decide_eq_true_eq];omega),Xg (by simp only [List.length_cons,List.length_nil,maxLen];omega)]
theorem Zvn (hP:P.length≤1048576) (hls:∀ x ∈ P,x.length≤1048576) (hl:l.length<1048576) (hN:1048576<N) (kk:List Int→Option R2):∀ (n i:Nat),P.length<n+i→i≤P.length→
  Zd8 N P l kk n (-1) (i:Int)=Zv5 l kk (Vd P l i)
 | 0,i,h,hi=>by omega
 | n+1,i,h,hi=>by
  rw [Zd8.eq_2]
  by_cases hlt:i<P.length
  ·have h3:=Zpo N P l hP (by omega) hN (-1) i hlt (hls _ (List.getElem_mem hlt)) (Zd8 N P l kk n) N (!decide ((i:Int) ∈ l)) 0 (by have:=hls _ (List.getElem_mem hlt);omega) (by omega)
   rw [if_pos (by simpa using hlt),Zgz,if_pos (by decide),Znf (by omega) hN,Option.bind_some]
   rw [show (0:Int)=((0:Nat):Int) from rfl,h3,Z3c P l i hlt,List.drop_zero]
   have hb:(!decide ((i:Int) ∈ l)&&P[i].all fun p=>decide (p ∈ l))=Tx P l i:=by
    rw [Tx,List.getD_eq_getElem?_getD,List.getElem?_eq_getElem hlt];rfl
   rw [hb]
   by_cases hr:Tx P l i=true
   ·rw [if_pos hr,if_pos hr]
    match n,h with
    | 0,h=>omega
    | n+1,h=>
     rw [Zd8.eq_2]
     by_cases h2:i+1<P.length
     ·rw [if_pos (decide_eq_true (by omega)),show decide ((i:Int)<0)=false from decide_eq_false (by omega)]
      exact Zvo N P l hl kk i _ _
     ·rw [if_neg (by rw [decide_eq_true_eq];omega)]
      exact Zvo N P l hl kk i _ _
   ·rw [if_neg hr,if_neg hr]
    exact Zvn hP hls hl hN kk n (i+1) (by omega) (by omega)
  ·rw [if_neg (by simpa using hlt),Z3a P l i (by omega),Zgz,if_neg (by decide),if_pos (by decide)];rfl
end
theorem Zpp {N:Nat} {P:List R2} {l:List Int} (hP:P.length≤1048576) (hls:∀ x ∈ P,x.length≤1048576) (hl:l.length<1048576) (hN:1048576<N) (n:Nat):
  Zbm N P (n+1) l=Zv5 l (Zbm N P n) (Vd P l 0):=by
 rw [Zbm.eq_2]
 exact Zvn N P l hP hls hl hN _ N 0 (by omega) (by omega)
theorem Zpk {P:List R2} {l:List Int} {i j:Nat} (h:Vd P l i=some j):i≤j∧j<P.length∧Tx P l j=true∧∀ k,i≤k→k<j→Tx P l k=false:=by
 rw [Vd,List.find?_range'_eq_some] at h
 obtain ⟨h1,h2,h3⟩:=h
 rw [List.mem_range'] at h2
 obtain ⟨q,h4,h5⟩:=h2
 refine ⟨by omega,by omega,h1,fun k hk1 hk2=>?_⟩
 have:=h3 k hk1 hk2
 simpa using this
theorem Z3b {P:List R2} {l:List Int} {i:Nat} (h:Vd P l i=none):∀ k,i≤k→k<P.length→Tx P l k=false:=by
 rw [Vd,List.find?_eq_none] at h
 intro k hk1 hk2
 have:=h k (by rw [List.mem_range'];exact ⟨k - i,by omega,by omega⟩)
 simpa using this
theorem Zw1 {P:List R2} {l:List Int} {i:Nat} (hi:i<P.length):Tx P l i=true↔(i:Int) ∉ l∧∀ p ∈ P[i],p ∈ l:=by
 rw [Tx,List.getD_eq_getElem?_getD,List.getElem?_eq_getElem hi]
 simp
def Ut (P:List R2) (l:List Int):Prop:=l.Nodup∧(∀ x ∈ l,0≤x∧x<(P.length:Int))∧∀ (i:Nat) (hi:i<P.length),(i:Int) ∈ l→∀ p ∈ P[i],p ∈ l
theorem Ut.len {P:List R2} {l:List Int} (h:Ut P l):l.length≤P.length:=by
 have h1:=Zha (r:=(List.range P.length).map fun i:Nat=>(i:Int)) h.1 fun x hx=>by
  have:=h.2.1 x hx
  exact List.mem_map.2 ⟨x.toNat,List.mem_range.2 (by omega),by omega⟩
 simpa using h1
theorem Ut.step {P:List R2} {l:List Int} {j:Nat} (h:Ut P l) (hn:Vd P l 0=some j):Ut P (l++[(j:Int)])∧l.length<P.length:=by
 obtain ⟨_,h2,h3,_⟩:=Zpk hn
 obtain ⟨h4,h5⟩:=(Zw1 h2).1 h3
 have h6:Ut P (l++[(j:Int)]):=by
  refine ⟨?_,?_,?_⟩
  ·rw [List.nodup_append]
   refine ⟨h.1,by simp,fun a ha b hb e=>?_⟩
   rw [List.mem_singleton] at hb;subst hb;subst e;exact h4 ha
  ·intro x hx
   rcases List.mem_append.1 hx with hx | hx
   ·exact h.2.1 x hx
   ·rw [List.mem_singleton] at hx;omega
  ·intro i hi hm p hp
   rcases List.mem_append.1 hm with hm | hm
   ·exact List.mem_append_left _ (h.2.2 i hi hm p hp)
   ·rw [List.mem_singleton] at hm
    have:i=j:=by omega
    subst this
    exact List.mem_append_left _ (h5 p hp)
 exact ⟨h6,by have:=h6.len;rw [List.length_append,List.length_cons,List.length_nil] at this;omega⟩
theorem Zvp {N:Nat} {P:List R2} (hP:P.length<1048576) (hls:∀ x ∈ P,x.length≤1048576) (hN:1048576<N):∀ (n:Nat) (l:List Int),Ut P l→P.length<n+l.length→
  ∃ r,Zbm N P n l=some r∧Ut P r∧Vd P r 0=none
 | 0,l,h,hn=>by have:=h.len;omega
 | n+1,l,h,hn=>by
  have hl:=h.len
  rw [Zpp (by omega) hls (by omega) hN]
  cases hnx:Vd P l 0 with
  | none=>exact ⟨l,rfl,h,hnx⟩
  | some j=>
   obtain ⟨h1,h2⟩:=h.step hnx
   exact Zvp hP hls hN n _ h1 (by simp;omega)
theorem Z3n {N:Nat} {P:List R2} (hP:P.length<1048576) (hls:∀ x ∈ P,x.length≤1048576) (hN:1048576<N):∃ r,Qo N P=some r∧Ut P r∧Vd P r 0=none:=by
 rw [Qo]
 exact Zvp hP hls hN N [] ⟨.nil,by simp,by simp⟩ (by simp;omega)
def gD (h:List Int) (j:Nat):Int:=h.getD j 0
theorem Qd {h:List Int} {j:Nat} (hj:j<h.length):gD h j=h[j]:=by rw [gD,List.getD_eq_getElem?_getD,List.getElem?_eq_getElem hj];rfl
theorem Q2 {h:List Int} {j:Nat} (hj:j<h.length):Zp h (j:Int)=some (gD h j):=by rw [Z9 hj,Qd hj]
def Tz (h:List Int) (i p:Nat):List Int:=(h.set i (gD h p)).set p (gD h i)
theorem Zjx (h:List Int) (i p:Nat):(Tz h i p).length=h.length:=by simp [Tz]
theorem Zx8 {h:List Int} {i p:Nat} (hi:i<h.length) (hp:p<h.length):(Tz h i p).Perm h:=by
 rw [Tz,Qd hi,Qd hp];exact List.set_set_perm hi hp
theorem Zks (h:List Int) (i j:Nat) (x:Int) (hi:i<h.length):gD (h.set i x) j=if j=i then x else gD h j:=by
 rw [gD,gD,List.getD_eq_getElem?_getD,List.getD_eq_getElem?_getD,List.getElem?_set]
 by_cases h1:i=j
 ·subst h1;rw [if_pos rfl,if_pos hi,if_pos rfl];rfl
 ·rw [if_neg h1,if_neg (Ne.symm h1)]
theorem Zby {h:List Int} {i p:Nat} (hi:i<h.length) (hp:p<h.length) (j:Nat):gD (Tz h i p) j=if j=p then gD h i else if j=i then gD h p else gD h j:=by
 rw [Tz,Zks _ _ _ _ (by simpa using hp),Zks _ _ _ _ hi]
def So (h:List Int) (n:Nat):Prop:=∀ j,0<j→j<n→gD h ((j - 1) / 2)≤gD h j
theorem So.min {h:List Int} {n:Nat} (hh:So h n):∀ j,j<n→gD h 0≤gD h j:=by
 intro j
 induction j using Nat.strongRecOn with
 | ind j ih=>
  intro hj
  by_cases h0:j=0
  ·subst h0;exact Int.le_refl _
  ·exact Int.le_trans (ih ((j - 1) / 2) (by omega) (by omega)) (hh j (by omega) hj)
/-! ### push -/
def Zj8 (h:List Int) (i:Nat):Prop:=(∀ j,0<j→j<h.length→j≠i→gD h ((j - 1) / 2)≤gD h j)∧∀ j,0<j→j<h.length→(j - 1) / 2=i→0<i→gD h ((i - 1) / 2)≤gD h j
theorem Zj8.step {h:List Int} {i:Nat} (hu:Zj8 h i) (hi:i<h.length) (h0:0<i) (hlt:gD h i<gD h ((i - 1) / 2)):Zj8 (Tz h i ((i - 1) / 2)) ((i - 1) / 2):=by
 have hp:(i - 1) / 2<h.length:=by omega
 refine ⟨fun j hj0 hj hjp=>?_,fun j hj0 hj hjp hp0=>?_⟩
 ·rw [Zjx] at hj
  rw [Zby hi hp,Zby hi hp,if_neg hjp]
  by_cases hji:j=i
  ·subst hji;rw [if_pos rfl,if_pos rfl];omega
  ·rw [if_neg hji]
   have h1:=hu.1 j hj0 hj hji
   by_cases hq:(j - 1) / 2=(i - 1) / 2
   ·rw [if_pos hq];rw [hq] at h1;omega
   ·rw [if_neg hq]
    by_cases hq2:(j - 1) / 2=i
    ·rw [if_pos hq2];exact hu.2 j hj0 hj hq2 h0
    ·rw [if_neg hq2];exact h1
 ·rw [Zjx] at hj
  rw [Zby hi hp,Zby hi hp,if_neg (by omega),if_neg (by omega),if_neg (by omega)]
  have h1:=hu.1 ((i - 1) / 2) hp0 hp (by omega)
  by_cases hji:j=i
  ·rw [if_pos hji];exact h1
  ·rw [if_neg hji]
   have h2:=hu.1 j hj0 hj hji
   rw [hjp] at h2;omega
theorem Zvv {i:Nat} (h0:0<i) (h1:i≤9000000):i64.wrap (Int.tdiv (i64.wrap ((i:Int) - 1)) 2)=(((i - 1) / 2:Nat):Int):=by
 rw [Zv (x:=(i:Int) - 1) (by omega),Int.tdiv_eq_ediv_of_nonneg (by omega),Zv (by omega)];omega
theorem Zv3 (N:Nat):∀ (n:Nat) (h:List Int) (i:Nat),i<n→i<h.length→h.length≤9000000→Zj8 h i→
  ∃ h',Za3 N n h (i:Int)=some h'∧h'.Perm h∧So h' h'.length
 | 0,h,i,hn,_,_,_=>by omega
 | n+1,h,i,hn,hi,hl,hu=>by
  rw [Za3.eq_2]
  by_cases h0:0<i
  ·have hp:(i - 1) / 2<h.length:=by omega
   rw [if_pos (decide_eq_true (by omega)),Q2 hi,Option.bind_some,Zvv h0 (by omega),Q2 hp,Option.bind_some,Zfr,Zvv h0 (by omega)]
   by_cases hlt:gD h i<gD h ((i - 1) / 2)
   ·obtain ⟨h',h1,h2,h3⟩:=Zv3 N n (Tz h i ((i - 1) / 2)) ((i - 1) / 2) (by omega) (by rw [Zjx];exact hp) (by rw [Zjx];exact hl) (hu.step hi h0 hlt)
    refine ⟨h',?_,h2.trans (Zx8 hi hp),h3⟩
    rw [if_pos (decide_eq_true hlt),Q2 hp,Option.bind_some,Q2 hi,Option.bind_some,Option.bind_some,Int.toNat_natCast,Int.toNat_natCast,Z9 (by simpa using hp),Option.bind_some,Option.bind_some]
    exact h1
   ·refine ⟨h,by rw [if_neg (by simpa using hlt)],.refl _,fun j hj0 hj=>?_⟩
    by_cases hji:j=i
    ·subst hji;omega
    ·exact hu.1 j hj0 hj hji
  ·have:i=0:=by omega
   subst this
   rw [if_neg (by decide),Zfr,if_neg (by decide)]
   exact ⟨h,rfl,.refl _,fun j hj0 hj=>hu.1 j hj0 hj (by omega)⟩
theorem Ztp {h:List Int} {x:Int} {j:Nat} (hj:j<h.length):gD (h++[x]) j=gD h j:=by
 rw [Qd hj,Qd (by simp;omega),List.getElem_append_left hj]
theorem Zv4 {N:Nat} {h:List Int} (x:Int) (hl:h.length<2000000) (hh:So h h.length) (hN:2000000<N):∃ h',Zfq N h x=some h'∧h'.Perm (x :: h)∧So h' h'.length:=by
 rw [Zfq,Xg (by simp only [List.length_cons,List.length_nil,maxLen];omega)]
 have hle:(h++[x]).length=h.length+1:=by simp
 rw [Zv (by omega),show (((h++[x]).length:Int) - 1)=((h.length:Nat):Int) by omega]
 obtain ⟨h',h1,h2,h3⟩:=Zv3 N N (h++[x]) h.length (by omega) (by omega) (by omega) ⟨fun j hj0 hj hji=>by rw [Ztp (by omega),Ztp (by omega)];exact hh j hj0 (by omega),fun j hj0 hj hji h0=>by omega⟩
 exact ⟨h',h1,h2.trans (List.perm_append_singleton x h),h3⟩
/-! ### pop -/
def Zhk (l:List Int) (n i:Nat):Prop:=(∀ j,0<j→j<n→(j - 1) / 2≠i→gD l ((j - 1) / 2)≤gD l j)∧∀ j,0<j→j<n→(j - 1) / 2=i→0<i→gD l ((i - 1) / 2)≤gD l j
theorem Zhk.step {l:List Int} {n i q:Nat} (hu:Zhk l n i) (hn:n≤l.length) (hi:i<n) (hq:q<n) (hqi:(q - 1) / 2=i) (hq0:0<q) (hlt:gD l q<gD l i) (hle:∀ j,0<j→j<n→(j - 1) / 2=i→gD l q≤gD l j):Zhk (Tz l i q) n q:=by
 have hi':i<l.length:=by omega
 have hq':q<l.length:=by omega
 refine ⟨fun j hj0 hj hjp=>?_,fun j hj0 hj hjp _=>?_⟩
 ·rw [Zby hi' hq',Zby hi' hq',if_neg hjp]
  by_cases h1:(j - 1) / 2=i
  ·rw [if_pos h1]
   by_cases h2:j=q
   ·rw [if_pos h2];omega
   ·rw [if_neg h2,if_neg (by omega)];exact hle j hj0 hj h1
  ·rw [if_neg h1,if_neg (show j≠q by omega)]
   by_cases h2:j=i
   ·subst h2
    rw [if_pos rfl];exact hu.2 q hq0 hq hqi hj0
   ·rw [if_neg h2];exact hu.1 j hj0 hj h1
 ·rw [Zby hi' hq',Zby hi' hq',hqi,if_neg (by omega),if_pos rfl,if_neg (by omega),if_neg (by omega)]
  have:=hu.1 j hj0 hj (by omega)
  rwa [hjp] at this
theorem Z5f {l:List Int} {n i q:Nat} (hn:n≤l.length) (hi:i<n) (hq:q<n):(Tz l i q).take n=Tz (l.take n) i q:=by
 have h1:∀ j,j<n→gD (l.take n) j=gD l j:=fun j hj=>by rw [Qd (by simp;omega),Qd (by omega),List.getElem_take]
 rw [Tz,Tz,List.take_set,List.take_set,h1 i hi,h1 q hq]
theorem Zvz (N:Nat) (p0:List Int) (x0:Int) (n:Nat) (hp0:p0.length=n+1) (hn:n≤2000000) (hN:2000000<N):∀ (m:Nat) (l:List Int) (i:Nat),n<m+i→(i<n∨n=0∧i=0)→l.length=n+1→Zhk l n i→
  ∃ t,Sx N p0 x0 m l (i:Int)=some (x0,t)∧t.Perm (l.take n)∧So t n
 | 0,l,i,hm,hi,hl,hu=>by omega
 | m+1,l,i,hm,hi,hl,hu=>by
  rw [Sx.eq_2]
  obtain ⟨N,rfl⟩:∃ N',N=N'+1+1+1:=⟨N - 3,by omega⟩
  have w1:i64.wrap ((p0.length:Int) - 1)=(n:Int):=by rw [Zv (by omega)];omega
  have wa:i64.wrap (i64.wrap (2 * (i:Int))+1)=((2 * i+1:Nat):Int):=by rw [Zv (x:=2 * (i:Int)) (by omega),Zv (by omega)];omega
  have wb:i64.wrap (i64.wrap (2 * (i:Int))+2)=((2 * i+2:Nat):Int):=by rw [Zv (x:=2 * (i:Int)) (by omega),Zv (by omega)];omega
  -- one child after the other
  have stepv:∀ (v:Nat) (k least:Nat),v<2→k=2 * i+1+v→(least<n∨n=0)→least<l.length→∀ f kk,Sy (N+1+1+1) p0 x0 l (i:Int) kk (f+1) (v:Int) (least:Int)=
    Sy (N+1+1+1) p0 x0 l (i:Int) kk f ((v+1:Nat):Int) ((if k<n∧gD l k<gD l least then k else least:Nat):Int):=by
   intro v k least hv hk hle hll f kk
   rw [Sy.eq_2,if_pos (decide_eq_true (by omega)),wa,wb,w1]
   have hat:Zp [((2 * i+1:Nat):Int),((2 * i+2:Nat):Int)] (v:Int)=some (k:Int):=by
    rw [Zhn]
    match v,hv with
    | 0,_=>simp [hk]
    | 1,_=>simp [hk];omega
   rw [hat,Option.bind_some]
   by_cases h1:k<n
   ·rw [if_pos (decide_eq_true (by omega)),Q2 (by omega),Option.bind_some,Q2 hll,Option.bind_some,Zfp,Zb7,Zb7,wS (by omega)]
    by_cases h2:gD l k<gD l least
    ·rw [if_pos (decide_eq_true h2),if_pos ⟨h1,h2⟩]
    ·rw [if_neg (by simpa using h2),if_neg (fun h=>h2 h.2)]
   ·rw [if_neg (by rw [decide_eq_true_eq];omega),Zfp,Zb7,Zb7,if_neg (by decide),wS (by omega),if_neg (fun h=>h1 h.1)]
  have hil:i<l.length:=by omega
  have e1:=stepv 0 (2 * i+1) i (by omega) (by omega) (by omega) hil (N+1+1) (Sx (N+1+1+1) p0 x0 m)
  generalize hq1:(if 2 * i+1<n∧gD l (2 * i+1)<gD l i then 2 * i+1 else i)=q1 at e1
  have hq1':(q1=i∧(2 * i+1<n→gD l i≤gD l (2 * i+1)))∨(q1=2 * i+1∧q1<n∧gD l q1<gD l i):=by
   by_cases hc:2 * i+1<n∧gD l (2 * i+1)<gD l i
   ·rw [if_pos hc] at hq1;subst hq1;exact .inr ⟨rfl,hc.1,hc.2⟩
   ·rw [if_neg hc] at hq1;subst hq1;exact .inl ⟨rfl,fun h=>by omega⟩
  have e2:=stepv 1 (2 * i+2) q1 (by omega) (by omega) (by omega) (by omega) (N+1) (Sx (N+1+1+1) p0 x0 m)
  generalize hq2:(if 2 * i+2<n∧gD l (2 * i+2)<gD l q1 then 2 * i+2 else q1)=q2 at e2
  have hq2':(q2=i∧(2 * i+1<n→gD l i≤gD l (2 * i+1))∧(2 * i+2<n→gD l i≤gD l (2 * i+2)))∨((q2=2 * i+1∨q2=2 * i+2)∧q2<n∧gD l q2<gD l i∧(2 * i+1<n→gD l q2≤gD l (2 * i+1))∧(2 * i+2<n→gD l q2≤gD l (2 * i+2))):=by
   by_cases hc:2 * i+2<n∧gD l (2 * i+2)<gD l q1
   ·rw [if_pos hc] at hq2;subst hq2
    rcases hq1' with ⟨rfl,h3⟩ | ⟨rfl,h3,h4⟩
    ·exact .inr ⟨.inr rfl,hc.1,hc.2,fun h=>by have:=h3 h;omega,fun _=>Int.le_refl _⟩
    ·exact .inr ⟨.inr rfl,hc.1,by omega,fun _=>by omega,fun _=>Int.le_refl _⟩
   ·rw [if_neg hc] at hq2;subst hq2
    rcases hq1' with ⟨rfl,h3⟩ | ⟨rfl,h3,h4⟩
    ·exact .inl ⟨rfl,h3,fun h=>by omega⟩
    ·exact .inr ⟨.inl rfl,h3,h4,fun _=>Int.le_refl _,fun h=>by omega⟩
  rw [show (0:Int)=((0:Nat):Int) from rfl,e1]
  rw [show ((0+1:Nat):Int)=((1:Nat):Int) from rfl,e2,Sy.eq_2,if_neg (by decide),w1,Int.toNat_natCast]
  rcases hq2' with ⟨rfl,h3,h4⟩ | ⟨h2,h3,h4,h5,h6⟩
  ·rw [if_pos (by simp)]
   refine ⟨_,rfl,.refl _,fun j hj0 hj=>?_⟩
   have ht:∀ k,k<n→gD (l.take n) k=gD l k:=fun k hk=>by rw [Qd (by simp;omega),Qd (by omega),List.getElem_take]
   rw [ht _ (by omega),ht _ hj]
   by_cases hq:(j - 1) / 2=q2
   ·rw [hq]
    rcases (show j=2 * q2+1∨j=2 * q2+2 by omega) with rfl | rfl
    ·exact h3 hj
    ·exact h4 hj
   ·exact hu.1 j hj0 hj hq
  ·have hq2l:q2<l.length:=by omega
   have hin:i<n:=by omega
   have hd:=hu.step (by omega) hin h3 (by omega) (by omega) h4 (fun j hj0 hj hji=>by
    rcases (show j=2 * i+1∨j=2 * i+2 by omega) with rfl | rfl
    ·exact h5 hj
    ·exact h6 hj)
   obtain ⟨t,k1,k2,k3⟩:=Zvz (N+1+1+1) p0 x0 n hp0 hn hN m (Tz l i q2) q2 (by omega) (.inl h3) (by rw [Zjx];exact hl) hd
   refine ⟨t,?_,k2.trans ?_,k3⟩
   ·rw [if_neg (by simp;omega),Q2 hq2l,Option.bind_some,Q2 hil,Option.bind_some,Option.bind_some,Int.toNat_natCast,Int.toNat_natCast,Z9 (by simpa using hq2l),Option.bind_some,Option.bind_some]
    exact k1
   ·rw [Z5f (by omega) hin h3];exact Zx8 (by simp;omega) (by simp;omega)
theorem Z3p {N:Nat} {h:List Int} (hl:h.length≤2000000) (h0:0<h.length) (hh:So h h.length) (hN:2000000<N):∃ x t,Zh7 N h=some (x,t)∧h.Perm (x :: t)∧(∀ y ∈ h,x≤y)∧So t t.length:=by
 rw [Zh7]
 obtain ⟨n,hn⟩:∃ n,h.length=n+1:=⟨h.length - 1,by omega⟩
 have w1:i64.wrap ((h.length:Int) - 1)=(n:Int):=by rw [Zv (by omega)];omega
 rw [w1,show (0:Int)=((0:Nat):Int) from rfl,Q2 h0,Option.bind_some,Q2 (by omega),Option.bind_some,Option.bind_some,Xg (by simp;omega),Int.toNat_natCast]
 have hd:Zhk (h.set 0 (gD h n)) n 0:=by
  refine ⟨fun j hj0 hj hji=>?_,fun j _ _ _ h=>by omega⟩
  rw [Zks _ _ _ _ h0,Zks _ _ _ _ h0,if_neg (by omega),if_neg (by omega)]
  exact hh j hj0 (by omega)
 obtain ⟨t,h1,h2,h3⟩:=Zvz N h (gD h 0) n hn (by omega) hN N (h.set 0 (gD h n)) 0 (by omega) (by omega) (by simpa using hn) hd
 have hpm:h.Perm (gD h 0 :: (h.set 0 (gD h n)).take n):=by
  match h,hn with
  | x :: r,hn=>
   have hr:r.length=n:=by simpa using hn
   match n,hr with
   | 0,hr=>rw [List.length_eq_zero_iff.1 hr];exact .refl _
   | n+1,hr=>
    have e:gD (x :: r) (n+1)=gD r n:=rfl
    rw [e,List.set_cons_zero,List.take_succ_cons]
    refine List.Perm.cons x ?_
    have:r=r.take n++[gD r n]:=by
     have:=List.take_succ_eq_append_getElem (show n<r.length by omega)
     rw [List.take_of_length_le (by omega)] at this
     rw [Qd (by omega)];exact this
    conv=>lhs;rw [this]
    exact List.perm_append_singleton _ _
 have hp2:h.Perm (gD h 0 :: t):=hpm.trans (List.Perm.cons _ h2.symm)
 refine ⟨gD h 0,t,h1,hp2,fun y hy=>?_,?_⟩
 ·obtain ⟨j,hj,rfl⟩:=List.getElem_of_mem hy
  rw [← Qd hj];exact hh.min j hj
 ·have:=hp2.length_eq
  rw [List.length_cons,hn] at this
  rw [show t.length=n by omega];exact h3
theorem Ye {α:Type} {l:List α} {d:α} {j:Nat} (hj:j<l.length):l.getD j d=l[j]:=by rw [List.getD_eq_getElem?_getD,List.getElem?_eq_getElem hj];rfl
theorem Wr {α:Type} {l:List α} (d:α) {j:Nat} (hj:j<l.length):Zp l (j:Int)=some (l.getD j d):=by rw [Z9 hj,Ye hj]
theorem Tb {α:Type} (l:List α) (d:α) (i j:Nat) (x:α) (hi:i<l.length):(l.set i x).getD j d=if j=i then x else l.getD j d:=by
 rw [List.getD_eq_getElem?_getD,List.getD_eq_getElem?_getD,List.getElem?_set]
 by_cases h1:i=j
 ·subst h1;rw [if_pos rfl,if_pos hi,if_pos rfl];rfl
 ·rw [if_neg h1,if_neg (Ne.symm h1)]
def Ub:Nat→List R2→Int→List Int
 | _,[],_=>[]
 | k,l :: P,p=>List.replicate (l.count p) (k:Int)++Ub (k+1) P p
def Zj3 (n:Nat) (l:List Int):Prop:=∀ x ∈ l,0≤x∧x<(n:Int)
theorem Zr7 (k:Nat) (kk:Nat→List R2→Option R6):∀ (l:List Int) (out:List R2),Zj3 out.length l→(∀ p:Nat,(out.getD p []).length+l.length≤1048576)→
  ∃ out',Zb5 k kk l out=kk (k+1) out'∧out'.length=out.length∧∀ p:Nat,p<out.length→out'.getD p []=out.getD p []++List.replicate (l.count (p:Int)) (k:Int)
 | [],out,h,hb=>⟨out,by rw [Zb5.eq_1],rfl,fun p hp=>by simp⟩
 | x :: l,out,h,hb=>by
  obtain ⟨h0,h1⟩:=h x List.mem_cons_self
  obtain ⟨q,rfl⟩:=Int.eq_ofNat_of_zero_le h0
  have hq:q<out.length:=by omega
  have hbq:=hb q
  simp only [List.length_cons] at hbq hb
  rw [Zb5.eq_2,Wr [] hq,Option.bind_some,Xg (by simp only [List.length_cons,List.length_nil,maxLen];omega),Int.toNat_natCast]
  obtain ⟨out',h2,h3,h4⟩:=Zr7 k kk l (out.set q (out.getD q []++[(k:Int)])) (by rw [List.length_set];exact fun y hy=>h y (List.mem_cons_of_mem _ hy)) (fun p=>by
   rw [Tb _ _ _ _ _ hq]
   have:=hb p
   split
   ·simp only [List.length_append,List.length_cons,List.length_nil];omega
   ·omega)
  refine ⟨out',h2,by rw [h3,List.length_set],fun p hp=>?_⟩
  rw [h4 p (by rw [List.length_set];exact hp),Tb _ _ _ _ _ hq,List.count_cons]
  by_cases hpq:p=q
  ·subst hpq
   rw [if_pos rfl,if_pos (by simp),List.append_assoc,show l.count (p:Int)+1=1+l.count (p:Int) by omega,show [(k:Int)]=List.replicate 1 (k:Int) from rfl,List.replicate_append_replicate]
  ·rw [if_neg hpq,if_neg (by simp;omega),Nat.add_zero]
theorem Zt1 (p:Int):∀ (k:Nat) (P:List R2),(Ub k P p).length≤Te P
 | _,[]=>by simp [Ub]
 | k,l :: P=>by
  rw [Ub,List.length_append,List.length_replicate,Zjy]
  have:=Zt1 p (k+1) P
  have:=List.count_le_length (a:=p) (l:=l)
  omega
theorem Zr6 (n:Nat):∀ (P:List R2) (k:Nat) (out:List R2),out.length=n→(∀ l ∈ P,Zj3 n l)→(∀ p:Nat,(out.getD p []).length+Te P≤1048576)→
  ∃ out',Q8 P k out=some out'∧out'.length=n∧∀ p:Nat,p<n→out'.getD p []=out.getD p []++Ub k P p
 | [],k,out,hn,_,_=>⟨out,by rw [Q8.eq_1],hn,fun p hp=>by simp [Ub]⟩
 | l :: P,k,out,hn,h,hb=>by
  simp only [Zjy] at hb
  rw [Q8.eq_2]
  obtain ⟨out1,h1,h2,h3⟩:=Zr7 k (Q8 P) l out (by rw [hn];exact h l List.mem_cons_self) (fun p=>by have:=hb p;omega)
  obtain ⟨out',h4,h5,h6⟩:=Zr6 n P (k+1) out1 (by omega) (fun x hx=>h x (List.mem_cons_of_mem _ hx)) (fun p=>by
   have:=hb p
   by_cases hp:p<out.length
   ·rw [h3 p hp,List.length_append,List.length_replicate]
    have:=List.count_le_length (a:=(p:Int)) (l:=l)
    omega
   ·rw [List.getD_eq_getElem?_getD,List.getElem?_eq_none (by omega)];simp;omega)
  refine ⟨out',by rw [h1,h4],h5,fun p hp=>?_⟩
  rw [h6 p hp,h3 p (by omega),List.append_assoc,Ub]
theorem Z0t {P:List R2} (hP:P.length≤1048576) (ht:Te P≤1048576) (h:∀ l ∈ P,Zj3 P.length l):∃ D,Zfm P=some D∧D.length=P.length∧∀ p:Nat,p<P.length→D.getD p []=Ub 0 P p:=by
 rw [Zfm,Xg (by simp only [maxLen];omega)]
 have hr:∀ p:Nat,(List.replicate P.length ([]:List Int)).getD p []=[]:=fun p=>by
  rw [List.getD_eq_getElem?_getD,List.getElem?_replicate];split <;> rfl
 obtain ⟨D,h1,h2,h3⟩:=Zr6 P.length P 0 (List.replicate P.length []) (by simp) h (fun p=>by rw [hr];simpa using ht)
 exact ⟨D,h1,h2,fun p hp=>by rw [h3 p hp,hr];rfl⟩
theorem Zoo (p:Int):∀ (k:Nat) (P:List R2) (c:Nat),(Ub k P p).count (c:Int)=if k≤c then (P.getD (c - k) []).count p else 0
 | k,[],c=>by simp [Ub]
 | k,l :: P,c=>by
  rw [Ub,List.count_append,Zoo p (k+1) P c,List.count_replicate]
  by_cases h1:k=c
  ·subst h1
   rw [if_pos (by simp),if_neg (by omega),if_pos (Nat.le_refl _),Nat.sub_self];rfl
  ·rw [if_neg (by simp;omega)]
   by_cases h2:k≤c
   ·rw [if_pos (by omega),if_pos h2,show c - k=(c - (k+1))+1 by omega];simp
   ·rw [if_neg (by omega),if_neg h2]
theorem Zt2 (p:Int):∀ (k:Nat) (P:List R2) (x:Int),x ∈ Ub k P p→∃ c:Nat,x=(c:Int)∧k≤c∧c<k+P.length
 | k,[],x,h=>by simp [Ub] at h
 | k,l :: P,x,h=>by
  rw [Ub] at h
  rcases List.mem_append.1 h with h | h
  ·exact ⟨k,(List.mem_replicate.1 h).2,Nat.le_refl _,by simp⟩
  ·obtain ⟨c,h1,h2,h3⟩:=Zt2 p (k+1) P x h
   exact ⟨c,h1,by omega,by rw [List.length_cons];omega⟩
def T5 (P:List R2) (out:List Int) (c:Nat):Nat:=(P.getD c []).countP fun q=>!decide (q ∈ out)
theorem Zsc (out:List Int) (p:Int) (hp:p ∉ out):∀ l:List Int,(l.countP fun q=>!decide (q ∈ out))=(l.countP fun q=>!decide (q ∈ out++[p]))+l.count p
 | []=>rfl
 | x :: l=>by
  rw [List.countP_cons,List.countP_cons,List.count_cons,Zsc out p hp l]
  by_cases h1:x=p
  ·subst h1
   have h2:(!decide (x ∈ out))=true:=by simp [hp]
   have h3:(!decide (x ∈ out++[x]))=false:=by simp
   rw [h2,h3];simp;omega
  ·have h3:(x ∈ out++[p])↔x ∈ out:=by simp [h1]
   rw [show (!decide (x ∈ out++[p]))=(!decide (x ∈ out)) from congrArg _ (decide_eq_decide.2 h3),if_neg (show ¬ ((x==p)=true) by simpa using h1)];omega
theorem Zsb {P:List R2} {out:List Int} {p:Int} (hp:p ∉ out) (c:Nat):T5 P out c=T5 P (out++[p]) c+(P.getD c []).count p:=Zsc out p hp _
theorem Zw0 (P:List R2) (out:List Int) (c:Nat):Tx P out c=true↔(c:Int) ∉ out∧T5 P out c=0:=by
 rw [Tx,T5,List.countP_eq_zero]
 simp
structure Zj4 (P:List R2) (out left ready:List Int):Prop where
 ok:Ut P out
 len:left.length=P.length
 cnt:∀ c:Nat,c<P.length→left.getD c 0=(T5 P out c:Int)
 heap:So ready ready.length
 nd:ready.Nodup
 mem:∀ y:Int,y ∈ ready↔∃ c:Nat,c<P.length∧y=(c:Int)∧(c:Int) ∉ out∧left.getD c 0=0
theorem Zqo (N:Nat) (P:List R2) (hP:P.length≤1048576) (ht:Te P≤1048576) (hN:2000000<N) (out:List Int) (p:Nat) (r2:List Int) (kk:List Int→List Int→List Int→Option R2):
  ∀ (rest left ready:List Int),rest.length≤9000000000000000000→left.length=P.length→(∀ c:Nat,c<P.length→left.getD c 0=((T5 P (out++[(p:Int)]) c+rest.count (c:Int):Nat):Int))→
   So ready ready.length→ready.Nodup→(∀ y:Int,y ∈ ready↔∃ c:Nat,c<P.length∧y=(c:Int)∧(c:Int) ∉ out++[(p:Int)]∧left.getD c 0=0)→
   (∀ x ∈ rest,∃ c:Nat,c<P.length∧x=(c:Int)∧x ∉ out++[(p:Int)])→
   ∃ left' ready',Zad N out kk ((p:Int),r2) rest left ready=kk left' ready' (out++[(p:Int)])∧left'.length=P.length∧(∀ c:Nat,c<P.length→left'.getD c 0=(T5 P (out++[(p:Int)]) c:Int))∧
    So ready' ready'.length∧ready'.Nodup∧∀ y:Int,y ∈ ready'↔∃ c:Nat,c<P.length∧y=(c:Int)∧(c:Int) ∉ out++[(p:Int)]∧left'.getD c 0=0
 | [],left,ready,_,h1,h2,h3,h4,h5,_=>⟨left,ready,by rw [Zad.eq_1],h1,fun c hc=>by rw [h2 c hc];simp,h3,h4,h5⟩
 | x :: rest,left,ready,hrest,h1,h2,h3,h4,h5,h6=>by
  obtain ⟨c0,hc0,rfl,hx⟩:=h6 x List.mem_cons_self
  have hc0l:c0<left.length:=by omega
  have hcx:=h2 c0 hc0
  rw [List.count_cons,if_pos (by simp)] at hcx
  have hle:T5 P (out++[(p:Int)]) c0≤1048576:=by
   have h7:=List.countP_le_length (p:=fun q=>!decide (q ∈ out++[(p:Int)])) (l:=P.getD c0 [])
   rw [Ye hc0] at h7
   have h8:=Zm6 (P:=P) (List.getElem_mem hc0)
   rw [T5,Ye hc0];omega
  have hrl:ready.length≤P.length:=by
   have h7:=Zha (r:=(List.range P.length).map fun i:Nat=>(i:Int)) h4 fun y hy=>by
    obtain ⟨c,h8,h9,_⟩:=(h5 y).1 hy
    exact List.mem_map.2 ⟨c,List.mem_range.2 h8,h9.symm⟩
   simpa using h7
  have hv:i64.wrap (left.getD c0 0 - 1)=((T5 P (out++[(p:Int)]) c0+rest.count (c0:Int):Nat):Int):=by
   have h9:=List.count_le_length (a:=(c0:Int)) (l:=rest)
   rw [hcx,Zv]
   ·omega
   ·simp only [List.length_cons] at hrest
    omega
  have hl1:∀ c:Nat,c<P.length→(left.set c0 (i64.wrap (left.getD c0 0 - 1))).getD c 0=((T5 P (out++[(p:Int)]) c+rest.count (c:Int):Nat):Int):=fun c hc=>by
   rw [Tb _ _ _ _ _ hc0l]
   by_cases hcc:c=c0
   ·subst hcc;rw [if_pos rfl,hv]
   ·rw [if_neg hcc,h2 c hc,List.count_cons,if_neg (by simp;omega),Nat.add_zero]
  have hne:left.getD c0 0≠0:=by rw [hcx];omega
  have hnr:(c0:Int) ∉ ready:=fun h=>by
   obtain ⟨c,h8,h9,_,h10⟩:=(h5 _).1 h
   have:c=c0:=by omega
   subst this;exact hne h10
  have h6':∀ x ∈ rest,∃ c:Nat,c<P.length∧x=(c:Int)∧x ∉ out++[(p:Int)]:=fun x hx=>h6 x (List.mem_cons_of_mem _ hx)
  have hr':rest.length≤9000000000000000000:=by simp only [List.length_cons] at hrest;omega
  rw [Zad.eq_2,Wr 0 hc0l,Option.bind_some,Option.bind_some,Int.toNat_natCast,Wr 0 (by rw [List.length_set];exact hc0l),Option.bind_some,Zft,Tb _ _ _ _ _ hc0l,if_pos rfl]
  by_cases hz:i64.wrap (left.getD c0 0 - 1)=0
  ·obtain ⟨ready1,k1,k2,k3⟩:=Zv4 (N:=N) (c0:Int) (by omega:ready.length<2000000) h3 hN
   rw [if_pos (by simpa using hz),k1,Option.bind_some,Zft]
   refine Zqo N P hP ht hN out p r2 kk rest _ ready1 hr' (by rw [List.length_set];exact h1) hl1 k3 (k2.nodup_iff.2 (List.nodup_cons.2 ⟨hnr,h4⟩)) (fun y=>?_) h6'
   rw [k2.mem_iff,List.mem_cons]
   constructor
   ·rintro (rfl | hy)
    ·exact ⟨c0,hc0,rfl,hx,by rw [Tb _ _ _ _ _ hc0l,if_pos rfl,hz]⟩
    ·obtain ⟨c,h8,h9,h10,h11⟩:=(h5 y).1 hy
     refine ⟨c,h8,h9,h10,?_⟩
     rw [Tb _ _ _ _ _ hc0l]
     split
     ·exact hz
     ·exact h11
   ·rintro ⟨c,h8,h9,h10,h11⟩
    by_cases hcc:c=c0
    ·subst hcc;exact .inl h9
    ·rw [Tb _ _ _ _ _ hc0l,if_neg hcc] at h11
     exact .inr ((h5 y).2 ⟨c,h8,h9,h10,h11⟩)
  ·rw [if_neg (by simpa using hz)]
   refine Zqo N P hP ht hN out p r2 kk rest _ ready hr' (by rw [List.length_set];exact h1) hl1 h3 h4 (fun y=>?_) h6'
   rw [h5 y]
   constructor
   ·rintro ⟨c,h8,h9,h10,h11⟩
    refine ⟨c,h8,h9,h10,?_⟩
    rw [Tb _ _ _ _ _ hc0l,if_neg (fun h=>hne (by rw [← h];exact h11))];exact h11
   ·rintro ⟨c,h8,h9,h10,h11⟩
    refine ⟨c,h8,h9,h10,?_⟩
    rw [Tb _ _ _ _ _ hc0l] at h11
    split at h11
    ·exact absurd h11 hz
    ·exact h11
theorem Z5b {N:Nat} {P D:List R2} (hP:P.length≤1048576) (ht:Te P≤1048576) (hN:2000000<N) (hD:D.length=P.length) (hDk:∀ p:Nat,p<P.length→D.getD p []=Ub 0 P p) {out left ready:List Int} (hi:Zj4 P out left ready) (n:Nat):
  (Vd P out 0=none→Tc N D (n+1) left ready out=some out)∧
  ∀ p,Vd P out 0=some p→∃ left' ready',Zj4 P (out++[(p:Int)]) left' ready'∧Tc N D (n+1) left ready out=Tc N D n left' ready' (out++[(p:Int)]):=by
 have hrl:ready.length≤P.length:=by
  have h7:=Zha (r:=(List.range P.length).map fun i:Nat=>(i:Int)) hi.nd fun y hy=>by
   obtain ⟨c,h8,h9,_⟩:=(hi.mem y).1 hy
   exact List.mem_map.2 ⟨c,List.mem_range.2 h8,h9.symm⟩
  simpa using h7
 have hrd:∀ c:Nat,c<P.length→(Tx P out c=true↔(c:Int) ∈ ready):=fun c hc=>by
  rw [Zw0,hi.mem]
  constructor
  ·rintro ⟨h1,h2⟩;exact ⟨c,hc,rfl,h1,by rw [hi.cnt c hc,h2];rfl⟩
  ·rintro ⟨c',h1,h2,h3,h4⟩
   have:c'=c:=by omega
   subst this
   rw [hi.cnt c' h1] at h4
   exact ⟨h3,by omega⟩
 refine ⟨fun hn=>?_,fun p hn=>?_⟩
 ·have h0:ready=[]:=by
   cases hr:ready with
   | nil=>rfl
   | cons y l=>
    obtain ⟨c,h1,h2,_⟩:=(hi.mem y).1 (by rw [hr];exact List.mem_cons_self)
    have h3:=Z3b hn c (Nat.zero_le _) h1
    have h4:=(hrd c h1).2 (by rw [← h2,hr];exact List.mem_cons_self)
    rw [h3] at h4;cases h4
  rw [Tc.eq_2,h0,if_neg (by decide)]
 ·obtain ⟨_,hp,hr,hmin⟩:=Zpk hn
  have hpr:=(hrd p hp).1 hr
  have hpos:0<ready.length:=List.length_pos_of_mem hpr
  obtain ⟨x,t,k1,k2,k3,k4⟩:=Z3p (N:=N) (by omega:ready.length≤2000000) hpos hi.heap hN
  have hxr:x ∈ ready:=k2.mem_iff.2 List.mem_cons_self
  have hxp:x=(p:Int):=by
   obtain ⟨c,h1,h2,_⟩:=(hi.mem x).1 hxr
   have h3:=k3 _ hpr
   have h4:¬ c<p:=fun hlt=>by
    have h5:=hmin c (Nat.zero_le _) hlt
    have h6:=(hrd c h1).2 (by rw [← h2];exact hxr)
    rw [h5] at h6;cases h6
   omega
  subst hxp
  have hnd:((p:Int) :: t).Nodup:=k2.nodup_iff.1 hi.nd
  obtain ⟨hp1,hp2⟩:=(Zw0 P out p).1 hr
  obtain ⟨hok,hlt⟩:=hi.ok.step hn
  have hol:=hi.ok.len
  have hself:(P.getD p []).count (p:Int)=0:=by have:=Zsb (P:=P) hp1 p;omega
  rw [Tc.eq_2,if_pos (decide_eq_true (by omega)),k1,Option.bind_some,Xg (by simp only [List.length_cons,List.length_nil,maxLen];omega),Wr [] (by rw [hD];exact hp),Option.bind_some,hDk p hp]
  have hkl:=Zt1 (p:Int) 0 P
  obtain ⟨left',ready',h1,h2,h3,h4,h5,h6⟩:=Zqo N P hP ht hN out p t (Tc N D n) (Ub 0 P p) left t (by omega) hi.len (fun c hc=>by
    rw [hi.cnt c hc,Zsb hp1 c,Zoo (p:Int) 0 P c,if_pos (Nat.zero_le _),Nat.sub_zero]) k4 (List.nodup_cons.1 hnd).2 (fun y=>by
    have h7:y ∈ t↔y ∈ ready∧y≠(p:Int):=by
     rw [k2.mem_iff,List.mem_cons]
     exact ⟨fun h=>⟨.inr h,fun e=>(List.nodup_cons.1 hnd).1 (by rw [← e];exact h)⟩,fun h=>h.1.resolve_left h.2⟩
    rw [h7,hi.mem]
    constructor
    ·rintro ⟨⟨c,h8,h9,h10,h11⟩,h12⟩
     exact ⟨c,h8,h9,by rw [List.mem_append,List.mem_singleton];exact fun h=>h.elim h10 fun h=>h12 (by rw [h9,h]),h11⟩
    ·rintro ⟨c,h8,h9,h10,h11⟩
     rw [List.mem_append,List.mem_singleton] at h10
     exact ⟨⟨c,h8,h9,fun h=>h10 (.inl h),h11⟩,fun h=>h10 (.inr (by rw [← h9,h]))⟩) (fun x hx=>by
    obtain ⟨c,h7,_,h8⟩:=Zt2 (p:Int) 0 P x hx
    have h8:c<P.length:=by omega
    have h9:=Zoo (p:Int) 0 P c
    rw [if_pos (Nat.zero_le _),Nat.sub_zero] at h9
    have h10:0<(P.getD c []).count (p:Int):=by rw [← h9,← h7];exact List.count_pos_iff.2 hx
    refine ⟨c,h8,h7,fun h=>?_⟩
    rcases List.mem_append.1 h with h | h
    ·rw [h7] at h
     have h11:=hi.ok.2.2 c h8 h (p:Int) (by rw [Ye h8] at h10;exact List.count_pos_iff.1 h10)
     exact hp1 h11
    ·rw [List.mem_singleton] at h
     have:c=p:=by omega
     subst this
     omega)
  exact ⟨left',ready',⟨hok,h2,h3,h4,h5,h6⟩,h1⟩
theorem Zx1 {N:Nat} {P D:List R2} (hP:P.length<1048576) (hls:∀ x ∈ P,x.length≤1048576) (ht:Te P≤1048576) (hN:2000000<N) (hD:D.length=P.length) (hDk:∀ p:Nat,p<P.length→D.getD p []=Ub 0 P p):∀ (n:Nat) (out left ready:List Int),Zj4 P out left ready→P.length<n+out.length→
  Tc N D n left ready out=Zbm N P n out
 | 0,out,left,ready,hi,hn=>by have:=hi.ok.len;omega
 | n+1,out,left,ready,hi,hn=>by
  have hl:=hi.ok.len
  obtain ⟨h1,h2⟩:=Z5b (N:=N) (by omega) ht hN hD hDk hi n
  rw [Zpp (by omega) hls (by omega) (by omega)]
  cases hnx:Vd P out 0 with
  | none=>rw [h1 hnx];rfl
  | some p=>
   obtain ⟨left',ready',h3,h4⟩:=h2 p hnx
   rw [h4]
   exact Zx1 hP hls ht hN hD hDk n _ _ _ h3 (by simp;omega)
theorem Zqn {N:Nat} (P D:List R2) (hP:P.length<1048576) (hN:2000000<N) (hl:∀ l ∈ P,l.length≤1048576):∀ (Q:List R2) (k:Nat) (left ready:List Int),P.drop k=Q→k≤P.length→left.length=P.length→
  (∀ c:Nat,c<k→left.getD c 0=((P.getD c []).length:Int))→So ready ready.length→ready.Nodup→(∀ y:Int,y ∈ ready↔∃ c:Nat,c<k∧y=(c:Int)∧(P.getD c []).length=0)→
  ∃ left' ready',Zac N D Q k left ready=Tc N D N left' ready' []∧Zj4 P [] left' ready'
 | [],k,left,ready,hQ,hk,h1,h2,h3,h4,h5=>by
  have hkP:k=P.length:=by have:=congrArg List.length hQ;simp at this;omega
  subst hkP
  have hc0:∀ c,T5 P [] c=(P.getD c []).length:=fun c=>by
   rw [T5,List.countP_eq_length.2 (fun a _=>by simp)]
  refine ⟨left,ready,by rw [Zac.eq_1],⟨⟨.nil,by simp,by simp⟩,h1,fun c hc=>by rw [h2 c hc,hc0],h3,h4,fun y=>?_⟩⟩
  rw [h5]
  constructor
  ·rintro ⟨c,h6,h7,h8⟩;exact ⟨c,h6,h7,by simp,by rw [h2 c h6,h8];rfl⟩
  ·rintro ⟨c,h6,h7,_,h8⟩;exact ⟨c,h6,h7,by rw [h2 c h6] at h8;omega⟩
 | x :: Q,k,left,ready,hQ,hk,h1,h2,h3,h4,h5=>by
  have hkl:k<P.length:=by
   rcases Nat.lt_or_ge k P.length with h | h
   ·exact h
   ·rw [List.drop_eq_nil_of_le h] at hQ;cases hQ
  rw [List.drop_eq_getElem_cons hkl] at hQ
  obtain ⟨hx,hQ⟩:=List.cons.inj hQ
  have hxd:P.getD k []=x:=by rw [Ye hkl,hx]
  have hkl':k<left.length:=by omega
  have hrl:ready.length≤k:=by
   have h7:=Zha (r:=(List.range k).map fun i:Nat=>(i:Int)) h4 fun y hy=>by
    obtain ⟨c,h8,h9,_⟩:=(h5 y).1 hy
    exact List.mem_map.2 ⟨c,List.mem_range.2 h8,h9.symm⟩
   simpa using h7
  have hl1:∀ c:Nat,c<k+1→(left.set k (x.length:Int)).getD c 0=((P.getD c []).length:Int):=fun c hc=>by
   rw [Tb _ _ _ _ _ hkl']
   by_cases hck:c=k
   ·subst hck;rw [if_pos rfl,hxd]
   ·rw [if_neg hck,h2 c (by omega)]
  have hnr:(k:Int) ∉ ready:=fun h=>by obtain ⟨c,h6,h7,_⟩:=(h5 _).1 h;omega
  rw [Zac.eq_2,Wr 0 hkl',Option.bind_some,Option.bind_some,Int.toNat_natCast]
  by_cases h0:x.length=0
  ·obtain ⟨ready1,k1,k2,k3⟩:=Zv4 (N:=N) (k:Int) (by omega:ready.length<2000000) h3 hN
   rw [if_pos (decide_eq_true (by omega)),k1,Option.bind_some,Zfu]
   refine Zqn P D hP hN hl Q (k+1) _ ready1 hQ (by omega) (by rw [List.length_set];exact h1) hl1 k3 (k2.nodup_iff.2 (List.nodup_cons.2 ⟨hnr,h4⟩)) (fun y=>?_)
   rw [k2.mem_iff,List.mem_cons,h5]
   constructor
   ·rintro (rfl | ⟨c,h6,h7,h8⟩)
    ·exact ⟨k,by omega,rfl,by rw [hxd];exact h0⟩
    ·exact ⟨c,by omega,h7,h8⟩
   ·rintro ⟨c,h6,h7,h8⟩
    by_cases hck:c=k
    ·subst hck;exact .inl h7
    ·exact .inr ⟨c,by omega,h7,h8⟩
  ·rw [if_neg (by rw [decide_eq_true_eq];omega),Zfu]
   refine Zqn P D hP hN hl Q (k+1) _ ready hQ (by omega) (by rw [List.length_set];exact h1) hl1 h3 h4 (fun y=>?_)
   rw [h5]
   constructor
   ·rintro ⟨c,h6,h7,h8⟩;exact ⟨c,by omega,h7,h8⟩
   ·rintro ⟨c,h6,h7,h8⟩
    by_cases hck:c=k
    ·subst hck;rw [hxd] at h8;exact absurd h8 h0
    ·exact ⟨c,by omega,h7,h8⟩
theorem Z5a {N:Nat} {P D:List R2} (hP:P.length<1048576) (hls:∀ x ∈ P,x.length≤1048576) (ht:Te P≤1048576) (hN:2000000<N) (hD:D.length=P.length) (hDk:∀ p:Nat,p<P.length→D.getD p []=Ub 0 P p):Zfs N P D=Qo N P:=by
 rw [Zfs,Xg (by simp only [maxLen];omega),Qo]
 obtain ⟨left,ready,h1,h2⟩:=Zqn (N:=N) P D hP hN hls P 0 (List.replicate P.length 0) [] rfl (Nat.zero_le _) (by simp) (fun c hc=>by omega) (fun j _ hj=>by simp at hj) .nil (fun y=>by simp)
 rw [h1]
 exact Zx1 hP hls ht hN hD hDk N [] _ _ h2 (by simp;omega)
theorem Ztg (kk:Option Int):∀ (l:List Int) (seen:List (Int×Int)) (S:List Int),S.Nodup→(∀ k,Wg seen k=if k ∈ S then some 1 else none)→Zb6 kk l seen=if (S++l).Nodup then kk else some 40
 | [],seen,S,h1,h2=>by rw [Zb6.eq_1,List.append_nil,if_pos h1]
 | x :: l,seen,S,h1,h2=>by
  rw [Zb6.eq_2,h2 x]
  by_cases hx:x ∈ S
  ·rw [if_pos hx,if_pos (by decide),if_neg]
   intro h
   exact (List.nodup_append.1 h).2.2 x hx x List.mem_cons_self rfl
  ·rw [if_neg hx,if_neg (by decide),Option.bind_some,Ztg kk l _ (S++[x]) (by
    rw [List.nodup_append]
    refine ⟨h1,by simp,fun a ha b hb e=>?_⟩
    rw [List.mem_singleton] at hb;subst hb;subst e;exact hx ha) (fun k=>by
    rw [Zuv,h2 k]
    by_cases hk:k=x
    ·subst hk;rw [if_pos rfl,if_pos (by simp)]
    ·rw [if_neg hk]
     by_cases hs:k ∈ S
     ·rw [if_pos hs,if_pos (by simp [hs])]
     ·rw [if_neg hs,if_neg (by simp [hs,hk])])]
   rw [List.append_assoc];rfl
theorem Ztf:∀ P:List R2,Zaa P=if Tf P then some 40 else some 0
 | []=>by rw [Zaa.eq_1];rfl
 | l :: P=>by
  rw [Zaa.eq_2,Ztg _ l [] [] .nil (fun k=>by simp [Wg]),Ztf P,List.nil_append]
  by_cases h:l.Nodup
  ·rw [if_pos h]
   have:Tf (l :: P)=Tf P:=by rw [Tf,Tf,List.any_cons,decide_eq_true h];rfl
   rw [this]
  ·rw [if_neg h]
   have:Tf (l :: P)=true:=by rw [Tf,List.any_cons,decide_eq_false h];rfl
   rw [this];rfl
theorem Zth (P:List R2) (kk:Option Int):∀ l:List Int,Zab P kk l=if (l.all fun p=>decide (0≤p∧p<(P.length:Int)))=true then kk else some 3
 | []=>by rw [Zab.eq_1];rfl
 | x :: l=>by
  rw [Zab.eq_2,Zth P kk l,Zfo,Zfo,List.all_cons]
  by_cases h1:x<0
  ·rw [if_pos (by simpa using h1),if_pos rfl,decide_eq_false (by omega),Bool.false_and,if_neg (by decide)]
  ·rw [if_neg (by simpa using h1)]
   by_cases h2:(P.length:Int)≤x
   ·rw [if_pos (by simpa using h2),decide_eq_false (by omega),Bool.false_and,if_neg (by decide)]
   ·rw [if_neg (by simpa using h2),decide_eq_true (by omega),Bool.true_and]
theorem Zte (P:List R2):∀ Q:List R2,Q9 P Q=if Uj P.length Q=true then Zaa P else some 3
 | []=>by rw [Q9.eq_1];rfl
 | l :: Q=>by
  rw [Q9.eq_2,Zth,Zte P Q]
  by_cases h:(l.all fun p=>decide (0≤p∧p<(P.length:Int)))=true
  ·rw [if_pos h]
   have:Uj P.length (l :: Q)=Uj P.length Q:=by rw [Uj,Uj,List.all_cons,h,Bool.true_and]
   rw [this]
  ·rw [if_neg h]
   have:Uj P.length (l :: Q)=false:=by rw [Uj,List.all_cons,Bool.eq_false_iff.2 h,Bool.false_and]
   rw [this,if_neg (by decide)]
theorem Z1r (P:List R2):Zfn P=if Uj P.length P=true then (if Tf P=true then some 40 else some 0) else some 3:=by
 rw [Zfn,Zte,Ztf]
structure Zj6 (P:List R2):Prop where
 n:P.length≤1048575
 t:Te P≤1048576
theorem Zj6.ls {P:List R2} (h:Zj6 P):∀ x ∈ P,x.length≤1048576:=fun x hx=>Nat.le_trans (Zm6 hx) h.t
theorem Zty {P:List R2} {n:Nat} (h:Uj n P=true):∀ l ∈ P,Zj3 n l:=by
 intro l hl x hx
 rw [Uj,List.all_eq_true] at h
 have:=List.all_eq_true.1 (h l hl) x hx
 simpa using this
inductive Zj5 (N:Nat) (P:List R2):Prop
 | err (e:Int) (D:Tm N P=some ([],e)) (R:Zbl N P=some e) (ne:e=3∨e=40):Zj5 N P
 | cyc (I:Uj P.length P=true) (T:Tf P=false) (l:List Int) (o:Qo N P=some l) (ok:Ut P l) (mx:Vd P l 0=none) (lt:l.length<P.length) (D:Tm N P=some ([],42)) (R:Zbl N P=some 42):Zj5 N P
 | ord (I:Uj P.length P=true) (T:Tf P=false) (l:List Int) (o:Qo N P=some l) (ok:Ut P l) (mx:Vd P l 0=none) (eq:l.length=P.length) (D:Tm N P=some (l,0)) (R:Zbl N P=some 0):Zj5 N P
theorem Zxx {N:Nat} {P:List R2} (h:Zj6 P) (hN:2000000<N):Zj5 N P:=by
 have hn:=h.n
 have ht:=h.t
 have hls:=h.ls
 have hls':∀ x ∈ P,x.length≤1048576:=fun x hx=>by have:=hls x hx;omega
 have hD:Tm N P=(Zfn P).bind fun r_1=>if (!decide (r_1=0))=true then (some (([]:List Int),r_1)) else ((Zfm P).bind fun r_5=>(Zfs N P r_5).bind fun r_13=>if (decide ((r_13.length:Int)<(P.length:Int)))=true then (some (([]:List Int),42)) else (some (r_13,0))):=by rw [Tm]
 have hR:Zbl N P=(Zlj N P).bind fun r_1=>if (!r_1)=true then (some 3) else ((Zln N P).bind fun r_5=>if r_5=true then (some 40) else ((Qo N P).bind fun r_9=>if (decide ((r_9.length:Int)<(P.length:Int)))=true then (some 42) else (some 0))):=by rw [Zbl]
 rw [Z1r] at hD
 rw [Z18 (by omega) hls' (by omega),Option.bind_some] at hR
 by_cases hI:Uj P.length P=true
 ·rw [hI,if_neg (by decide),Z5g (by omega) hls' (by omega),Option.bind_some] at hR
  rw [if_pos hI] at hD
  by_cases hT:Tf P=true
  ·rw [if_pos hT] at hD hR
   exact .err 40 (by rw [hD];rfl) hR (.inr rfl)
  ·rw [if_neg hT] at hD hR
   obtain ⟨l,h1,h2,h3⟩:=Z3n (N:=N) (P:=P) (by omega) hls' (by omega)
   obtain ⟨D,h4,h5,h6⟩:=Z0t (P:=P) (by omega) (by omega) (Zty hI)
   rw [h1,Option.bind_some] at hR
   rw [Option.bind_some,if_neg (by decide),h4,Option.bind_some,Z5a (by omega) hls' (by omega) hN h5 h6,h1,Option.bind_some] at hD
   have hT:=Bool.eq_false_iff.2 hT
   have hle:=h2.len
   by_cases hlt:l.length<P.length
   ·rw [if_pos (decide_eq_true (by omega))] at hR hD
    exact .cyc hI hT l h1 h2 h3 hlt hD hR
   ·rw [if_neg (by rw [decide_eq_true_eq];omega)] at hR hD
    exact .ord hI hT l h1 h2 h3 (by omega) hD hR
 ·rw [Bool.eq_false_iff.2 hI,if_pos (by decide)] at hR
  rw [if_neg hI] at hD
  exact .err 3 (by rw [hD];rfl) hR (.inl rfl)
section
variable {N:Nat} {P:List R2} {E:List (Int×Int)} {e:Int}
end
def Zgq (ab:List Int) (aa:Int) (kk_L1:(Int→Option R2)) (ac:Bool):Option R2:=
  if ac=true then (kk_L1 (i64.wrap (aa - 1))) else (Z7 ((0:Int)≤aa∧aa≤(ab.length:Int)) (Z7 ((([]:List Int).length+(ab.take (Int.toNat aa)).length) * 4≤140737488355328∧([]:List Int).length+(ab.take (Int.toNat aa)).length≤maxLen) (some (([]:List Int)++(ab.take (Int.toNat aa))))))
def Zbi (N:Nat) (aa:List Int):Nat→Int→Option R2
  | 0,_=>none
  | ac+1,ab=>if (decide (0<ab))=true then ((Zp aa (i64.wrap (ab - 1))).bind fun ad=>Zgq aa ab (Zbi N aa ac) (decide (ad=0))) else (Zgq aa ab (Zbi N aa ac) false)
termination_by structural x=>x
def Vz (N:Nat) (aa:List Int):Option R2:=
  Zbi N aa N (aa.length:Int)
theorem Ss {N ae:Nat} {a0:Option Addr} {col:Ze} {w0:World} {ab r:R2} (c1:Nat) (hm:Vz N ab=some r) (h0:Sl (Za.int .u32) col w0 a0 ae ab):
    Calls Tryz.prog 134 #[.slice a0 ab.length ae] w0 (fun e w'=>∃ (col':Ze) (ra1:Option Addr) (rc2:Nat),e= .returned ((.slice ra1 r.length rc2))∧Zg col w0 col' w'∧Zc (Za.int .u32) 77 c1 col' w' ra1 rc2 r):=by
 refine Xo 2 (m:=24) func134 rfl rfl rfl rfl rfl ?_;rw [Vz.eq_1] at hm;have aa:=St.start col w0;refine go ?_;refine Xe [0,1000000] (fun n f aj=>∃ ak ac ad,ad=n∧Zbi N ab ad ac=some r∧St w0 (Zk col) ak aj∧[3].map f=[.int .i64 ac]) N ⟨_,_,_,rfl,hm,aa,rfl⟩ ?_;clear hm;intro n f aj hI;obtain ⟨ak,ac,ad,hn,hm,aa,hs⟩:=hI;subst hn;refine .lL [3] hs ?_;replace h0:=h0.keep (Zl.start col w0)
 cases ad with
 | zero=>rw [Zbi.eq_1] at hm;cases hm
 | succ ad=>
  rw [Zbi.eq_2] at hm;refine Zw<|Zw ?_;refine Wp.cutK [0,3,1000000] (fun f al=>∃ am af,Zgq ab ac (Zbi N ab ad) af=some r∧St w0 (Zk col) am al∧[16].map f=[.bool af]) ?_ ?_
  ·intro f al hJ;obtain ⟨am,af,hm,aa,hs⟩:=hJ;rw [Zgq.eq_1] at hm;refine .lL [16] hs ?_;refine Zs hm (fun hb hm=>go ?_) fun hb hm=>go ?_
   ·exact ⟨ad,by omega,rfl,⟨_,_,_,rfl,hm,aa,rfl⟩⟩
   obtain ⟨ag,hm⟩:=Xc hm;refine lv (v:=.slice a0 (Int.toNat ac) ae) rfl rfl (Zjs underlying31 sizeOf77 rfl rfl ag.1 (by have:=(h0.ks aa).1.2;have:=ag.2;omega))<|.ld (d:=22) (v:=(.slice a0 ((ab.take (Int.toNat ac)).length) ae)) (congrArg (fun n=>Value.slice a0 n ae) (List.length_take_of_le (show (Int.toNat ac)≤ab.length by have:=ag.2;omega)).symm) ?_;obtain ⟨an,hm⟩:=Xc hm;refine T7 (c:=1) Zc.nil ((h0.ks aa).take (Int.toNat ac)).srcC an ?_;intro ar au av aw ao ap;refine go ?_;cases hm;replace aa:=aa.kpp ao;exact ⟨rfl,_,_,_,rfl,aa.fin (cm [(1,c1)]),aa.fo ap⟩
  refine go ?_;refine X1 hm (fun ah hm=>go ?_) fun ah hm=>go ?_
  ·obtain ⟨aq,ai,hm⟩:=bZ hm;refine lI ai ((h0.ks aa).addr ai) ?_;refine go ?_;refine lW ((h0.ks aa).atInt ai)<|go ?_;refine lV (.bool (decide (aq=0))) (Xm (congrArg Value.bool ah) rfl)<|Zm ?_;exact ⟨rfl,_,_,hm,aa,rfl⟩
  refine lV (.bool false) (Xd (congrArg Value.bool ah) rfl)<|Zm ?_;exact ⟨rfl,_,_,hm,aa,rfl⟩
def Zdz (N:Nat):Nat→Int→Int→Option Int
  | 0,_,_=>none
  | ac+1,aa,ab=>if (decide (0<ab))=true then ((Zdz N ac) (i64.wrap (aa+1)) (u32.wrap (Int.tdiv ab 2))) else (some aa)
termination_by structural x=>x
def Zit (N:Nat) (ab:List Int):Option Int:=
  (Vz N ab).bind fun aa=>if (decide ((aa.length:Int)=0))=true then (some 0) else ((Zp aa (i64.wrap ((aa.length:Int) - 1))).bind fun ac=>Zdz N N (i64.wrap (32 * (i64.wrap ((aa.length:Int) - 1)))) ac)
theorem Zz5 {N ag:Nat} {a0:Option Addr} {col:Ze} {w0:World} {ad:R2} {r:Int} (hm:Zit N ad=some r) (h0:Sl (Za.int .u32) col w0 a0 ag ad):
    Calls Tryz.prog 78 #[.slice a0 ad.length ag] w0 (fun e w'=>e= .returned ((.int .i64 r))∧Below w0.heap.size w0 w'):=by
 refine Xo 2 (m:=28) func78 rfl rfl rfl rfl rfl ?_;rw [Zit.eq_1] at hm;have aa:=St.start col w0;refine go ?_;obtain ⟨am,ak,hm⟩:=bZ hm;replace h0:=h0.keep (Zl.start col w0);refine Zi (Ss 1 ak (h0.ks aa)) ?_;rintro _ an ⟨ao,ap,aq,rfl,al,ah⟩;refine ⟨_,rfl,go ?_⟩;replace aa:=aa.grow al;refine Zs hm (fun hb hm=>go ?_) fun hb hm=>go ?_
 ·cases hm;exact ⟨rfl,rfl,aa.below⟩
 obtain ⟨ar,ae,hm⟩:=bZ hm;refine lI ae (ah.addr ae)<|lW (ah.atInt ae) ?_;refine go ?_;refine Xe [1000000] (fun n f ai=>∃ aj af ac ab,ab=n∧Zdz N ab af ac=some r∧St w0 (Zk col) aj ai∧[4,5].map f=[.int .i64 af,.int .u32 ac]) N ⟨_,_,_,_,rfl,hm,aa,rfl⟩ ?_;clear hm;intro n f ai hI;obtain ⟨aj,af,ac,ab,hn,hm,aa,hs⟩:=hI;subst hn;refine .lL [4,5] hs ?_
 cases ab with
 | zero=>rw [Zdz.eq_1] at hm;cases hm
 | succ ab=>
  rw [Zdz.eq_2] at hm;refine go ?_;refine Zs hm (fun hb hm=>go ?_) fun hb hm=>go ?_
  ·refine lV (.int .u32 (u32.wrap (Int.tdiv ac 2))) (Vo ac 2 rfl rfl (by decide))<|go ?_;exact ⟨ab,by omega,rfl,⟨_,_,_,_,rfl,hm,aa,rfl⟩⟩
  cases hm;exact ⟨rfl,rfl,aa.below⟩
def Qn (aa:List Int) (ab:Int):Option Int:=
  if (decide (ab<(aa.length:Int)))=true then ((Zp aa ab).bind fun ac=>some (u64.wrap ac)) else (some 0)
theorem Zc8 {ad:Nat} {a0:Option Addr} {col:Ze} {w0:World} {ab:R2} {ae r:Int} (hm:Qn ab ae=some r) (h0:Sl (Za.int .u32) col w0 a0 ad ab):
    Calls Tryz.prog 173 #[.slice a0 ab.length ad,.int .i64 ae] w0 (fun e w'=>e= .returned ((.int .u64 r))∧Below w0.heap.size w0 w'):=by
 refine Xo 4 (m:=14) func173 rfl rfl rfl rfl rfl ?_;rw [Qn.eq_1] at hm;have aa:=St.start col w0;refine go ?_;replace h0:=h0.keep (Zl.start col w0);refine Zs hm (fun hb hm=>go ?_) fun hb hm=>go ?_
 ·obtain ⟨af,ac,hm⟩:=bZ hm;refine lI ac ((h0.ks aa).addr ac)<|lW ((h0.ks aa).atInt ac) ?_;refine go ?_;cases hm;exact ⟨rfl,rfl,aa.below⟩
 cases hm;exact ⟨rfl,rfl,aa.below⟩
def Zgk (ab:List Int) (aa:Int):Option Int:=
  (Qn ab (i64.wrap (Int.tdiv aa 32))).bind fun ac=>Z7 (0≤(Int.tmod aa 32)) (some (Int.tmod (u32.wrap (X7 .u64 ac (Int.tmod aa 32))) 2))
theorem Zz4 {af:Nat} {a0:Option Addr} {col:Ze} {w0:World} {ad:R2} {aa r:Int} (hm:Zgk ad aa=some r) (h0:Sl (Za.int .u32) col w0 a0 af ad):
    Calls Tryz.prog 144 #[.slice a0 ad.length af,.int .i64 aa] w0 (fun e w'=>e= .returned ((.int .u32 r))∧Below w0.heap.size w0 w'):=by
 refine Xo 4 (m:=14) func144 rfl rfl rfl rfl rfl ?_;rw [Zgk.eq_1] at hm;have ab:=St.start col w0;refine go ?_;refine lV (.int .i64 (i64.wrap (Int.tdiv aa 32))) (Vo aa 32 rfl rfl (by decide)) ?_;obtain ⟨ac,ag,hm⟩:=bZ hm;replace h0:=h0.keep (Zl.start col w0);refine Zi (Zc8 ag (h0.ks ab)) ?_;rintro _ ah ⟨rfl,ae⟩;refine ⟨_,rfl,?_⟩;replace ae:Zg (Zk col) w0 (Zk col) ah:=.of_below ae;refine Yn rfl<|lV (.int .i64 (Int.tmod aa 32)) (Tu aa 32 rfl rfl (by decide)) ?_;obtain ⟨ai,hm⟩:=Xc hm;refine lV (.int .u64 (X7 .u64 ac (Int.tmod aa 32))) (Tv ac (Int.tmod aa 32) rfl rfl ai)<|go ?_;refine lV (.int .u32 (Int.tmod (u32.wrap (X7 .u64 ac (Int.tmod aa 32))) 2)) (Tu (u32.wrap (X7 .u64 ac (Int.tmod aa 32))) 2 rfl rfl (by decide))<|go ?_;cases hm;replace ab:=ab.grow ae;exact ⟨rfl,rfl,ab.below⟩
def Zgu (aa:List Int):Option R2:=
  some aa
def Zd5 (N:Nat) (ad:List Int):Nat→R2→Int→Int→Option R2
  | 0,_,_,_=>none
  | af+1,ab,aa,ae=>if (decide (ae<(ad.length:Int)))=true then ((Zp ad ae).bind fun ac=>Z7 ((ab.length+[u32.wrap (Int.tmod (u64.wrap (aa+(u64.wrap (2 * (u64.wrap ac))))) 4294967296)].length) * 4≤140737488355328∧ab.length+[u32.wrap (Int.tmod (u64.wrap (aa+(u64.wrap (2 * (u64.wrap ac))))) 4294967296)].length≤maxLen) ((Zd5 N ad af) (ab++[u32.wrap (Int.tmod (u64.wrap (aa+(u64.wrap (2 * (u64.wrap ac))))) 4294967296)]) (u64.wrap (Int.tdiv (u64.wrap (aa+(u64.wrap (2 * (u64.wrap ac))))) 4294967296)) (i64.wrap (ae+1)))) else (if (decide (0<aa))=true then (Z7 ((ab.length+[u32.wrap aa].length) * 4≤140737488355328∧ab.length+[u32.wrap aa].length≤maxLen) (Zgu (ab++[u32.wrap aa]))) else (Zgu ab))
termination_by structural x=>x
def Zgt (N:Nat) (aa:List Int) (ab:Int):Option R2:=
  Zd5 N aa N ([]:List Int) (u64.wrap ab) 0
theorem Zrw {N au:Nat} {a0:Option Addr} {col:Ze} {w0:World} {ag:R2} {av:Int} {r:R2} (c1:Nat) (hm:Zgt N ag av=some r) (h0:Sl (Za.int .u32) col w0 a0 au ag):
    Calls Tryz.prog 185 #[.slice a0 ag.length au,.int .u32 av] w0 (fun e w'=>∃ (col':Ze) (ra1:Option Addr) (rc2:Nat),e= .returned ((.slice ra1 r.length rc2))∧Zg col w0 col' w'∧Zc (Za.int .u32) 77 c1 col' w' ra1 rc2 r):=by
 refine Xo 4 (m:=40) func185 rfl rfl rfl rfl rfl ?_;rw [Zgt.eq_1] at hm;have aa:=St.start col w0;refine go ?_;refine Xe [0,1000000] (fun n f aj=>∃ ae ak al ah ab am ad,ad=n∧Zd5 N ag ad ah ab am=some r∧St w0 (Zk col) ae aj∧Zc (Za.int .u32) 77 1 ae aj ak al ah∧[5,6,7].map f=[.slice ak ah.length al,.int .u64 ab,.int .i64 am]) N ⟨_,none,0,_,_,0,_,rfl,hm,aa,Zc.nil,rfl⟩ ?_;clear hm;intro n f aj hI;obtain ⟨ae,ak,al,ah,ab,am,ad,hn,hm,aa,ac,hs⟩:=hI;subst hn;refine .lL [5,6,7] hs ?_;replace h0:=h0.keep (Zl.start col w0)
 cases ad with
 | zero=>rw [Zd5.eq_1] at hm;cases hm
 | succ ad=>
  rw [Zd5.eq_2] at hm;refine go ?_;refine Zs hm (fun hb hm=>go ?_) fun hb hm=>?_
  ·obtain ⟨af,an,hm⟩:=bZ hm;refine lI an ((h0.ks aa).addr an)<|lW ((h0.ks aa).atInt an) ?_;refine go ?_;refine lV (.int .u64 (Int.tmod (u64.wrap (ab+(u64.wrap (2 * (u64.wrap af))))) 4294967296)) (Tu (u64.wrap (ab+(u64.wrap (2 * (u64.wrap af))))) 4294967296 rfl rfl (by decide))<|go ?_;refine Vb (col:=ae) [u32.wrap (Int.tmod (u64.wrap (ab+(u64.wrap (2 * (u64.wrap af))))) 4294967296)] 2 ?_;intro a8 a9 ba aw ay;obtain ⟨az,hm⟩:=Xc hm;replace ac:=ac.gr aw;refine T7 ac (ay.srcN (NB.int (k:=.u32))) az ?_;intro bb bc bd be a1 a2;refine go ?_;refine lV (.int .u64 (u64.wrap (Int.tdiv (u64.wrap (ab+(u64.wrap (2 * (u64.wrap af))))) 4294967296))) (Vo (u64.wrap (ab+(u64.wrap (2 * (u64.wrap af))))) 4294967296 rfl rfl (by decide))<|go ?_;replace aa:=(aa.grow aw).kpp a1;exact ⟨ad,by omega,rfl,⟨_,_,_,_,_,_,_,rfl,hm,aa,a2,rfl⟩⟩
  refine Zj2 (Zh1 ?_);refine Zw ?_;refine Wp.cutK [1000000] (fun f ao=>∃ ap aq ar ai,Zgu ai=some r∧St w0 (Zk col) ap ao∧Zc (Za.int .u32) 77 1 ap ao aq ar ai∧[5].map f=[.slice aq ai.length ar]) ?_ ?_
  ·intro f ao hJ;obtain ⟨ap,aq,ar,ai,hm,aa,a3,hs⟩:=hJ;rw [Zgu.eq_1] at hm;refine .lL [5] hs<|go ?_;cases hm;exact ⟨rfl,_,_,_,rfl,aa.fin (cm [(1,c1)]),aa.fo a3⟩
  refine go ?_;refine Zs hm (fun hb hm=>go ?_) fun hb hm=>?_
  ·refine Vb (col:=ae) [u32.wrap ab] 3 ?_;intro bf bg bh ax a4;obtain ⟨a5,hm⟩:=Xc hm;replace ac:=ac.gr ax;refine T7 ac (a4.srcN (NB.int (k:=.u32))) a5 ?_;intro bi bj bk bm a6 a7;refine go ?_;replace aa:=(aa.grow ax).kpp a6;exact ⟨rfl,_,_,_,_,hm,aa,a7,rfl⟩
  refine Yc ?_;exact ⟨rfl,_,_,_,_,hm,aa,ac,rfl⟩
def Zd1 (N:Nat) (ab:List Int) (ac:List Int):Nat→Int→Option Int
  | 0,_=>none
  | af+1,aa=>if (decide (0≤aa))=true then ((Qn ab aa).bind fun ad=>(Qn ac aa).bind fun ae=>if (decide (ad<ae))=true then (some (-1)) else (if (decide (ae<ad))=true then (some 1) else ((Zd1 N ab ac af) (i64.wrap (aa - 1))))) else (some 0)
termination_by structural x=>x
def Zgl (N:Nat) (aa:List Int) (ab:List Int) (ac:Int):Option Int:=
  Zd1 N aa ab N (i64.wrap (ac - 1))
def Zd0 (N:Nat) (aa:List Int) (ab:List Int):Option Int:=
  if (decide ((aa.length:Int)<(ab.length:Int)))=true then (Zgl N aa ab (ab.length:Int)) else (Zgl N aa ab (aa.length:Int))
theorem Znx {N ak al:Nat} {a0 a1:Option Addr} {col:Ze} {w0:World} {ad ae:R2} {r:Int} (hm:Zd0 N ad ae=some r) (h0:Sl (Za.int .u32) col w0 a0 ak ad) (h1:Sl (Za.int .u32) col w0 a1 al ae):
    Calls Tryz.prog 174 #[.slice a0 ad.length ak,.slice a1 ae.length al] w0 (fun e w'=>e= .returned ((.int .i64 r))∧Below w0.heap.size w0 w'):=by
 refine Xo 4 (m:=35) func174 rfl rfl rfl rfl rfl ?_;rw [Zd0.eq_1] at hm;have aa:=St.start col w0;refine Zw<|Wv<|Ym rfl<|Zm<|Zw<|Wv<|Va rfl<|lV _ (Zc0 underlying31 rfl)<|Ym rfl<|Zm<|Zw ?_;replace h0:=h0.keep (Zl.start col w0);replace h1:=h1.keep (Zl.start col w0);refine Wp.cutK [0,1,1000000] (fun f am=>∃ an af,Zgl N ad ae af=some r∧St w0 (Zk col) an am∧[5].map f=[.int .i64 af]) ?_ ?_
 ·intro f am hJ;obtain ⟨an,af,hm,aa,hs⟩:=hJ;rw [Zgl.eq_1] at hm;refine .lL [5] hs<|go ?_;refine Xe [0,1,1000000] (fun n f ag=>∃ ab ah ac,ac=n∧Zd1 N ad ae ac ah=some r∧St w0 (Zk col) ab ag∧[6].map f=[.int .i64 ah]) N ⟨_,_,_,rfl,hm,aa,rfl⟩ ?_;clear hm;intro n f ag hI;obtain ⟨ab,ah,ac,hn,hm,aa,hs⟩:=hI;subst hn;refine .lL [6] hs ?_
  cases ac with
  | zero=>rw [Zd1.eq_1] at hm;cases hm
  | succ ac=>
   rw [Zd1.eq_2] at hm;refine go ?_;refine Zs hm (fun hb hm=>go ?_) fun hb hm=>go ?_
   ·obtain ⟨au,ap,hm⟩:=bZ hm;refine Zi (Zc8 ap (h0.ks aa)) ?_;rintro _ ao ⟨rfl,ai⟩;refine ⟨_,rfl,?_⟩;replace ai:Zg ab ag ab ao:=.of_below ai;refine go ?_;obtain ⟨av,aq,hm⟩:=bZ hm;replace aa:=aa.grow ai;refine Zi (Zc8 aq (h1.ks aa)) ?_;rintro _ ar ⟨rfl,aj⟩;refine ⟨_,rfl,?_⟩;replace aj:Zg ab ao ab ar:=.of_below aj;refine go ?_;replace aa:=aa.grow aj;refine Zs hm (fun hb hm=>go ?_) fun hb hm=>go ?_
    ·cases hm;exact ⟨rfl,rfl,aa.below⟩
    refine Zs hm (fun hb hm=>go ?_) fun hb hm=>go ?_
    ·cases hm;exact ⟨rfl,rfl,aa.below⟩
    exact ⟨ac,by omega,rfl,⟨_,_,_,rfl,hm,aa,rfl⟩⟩
   cases hm;exact ⟨rfl,rfl,aa.below⟩
 refine go ?_;refine Zs hm (fun hb hm=>go ?_) fun hb hm=>?_
 ·exact ⟨rfl,_,_,hm,aa,rfl⟩
 refine Yc ?_;exact ⟨rfl,_,_,hm,aa,rfl⟩
def Zlb (aa:Int) (kk_L1:(List Int→Int→Int→Option Rc)) (ab:List Int) (ac:Int):Option Rc:=
  kk_L1 ab ac (i64.wrap (aa+1))
def Zgs (aa:List Int) (ab:Int) (ae:Int) (kk_L1:(List Int→Int→Int→Option Rc)) (ac:Int) (af:Int) (ad:Int):Option Rc:=
  Z7 ((aa.length+[u32.wrap (u64.wrap (ad - (u64.wrap (ac+ab))))].length) * 4≤140737488355328∧aa.length+[u32.wrap (u64.wrap (ad - (u64.wrap (ac+ab))))].length≤maxLen) (Zlb ae kk_L1 (aa++[u32.wrap (u64.wrap (ad - (u64.wrap (ac+ab))))]) af)
def Qm (N:Nat) (ab:List Int) (ac:List Int):Nat→R2→Int→Int→Option Rc
  | 0,_,_,_=>none
  | ah+1,ad,ae,aa=>if (decide (aa<(ab.length:Int)))=true then ((Qn ab aa).bind fun af=>(Qn ac aa).bind fun ag=>if (decide (af<(u64.wrap (ag+ae))))=true then (Zgs ad ae aa (Qm N ab ac ah) ag 1 (u64.wrap (af+4294967296))) else (Zgs ad ae aa (Qm N ab ac ah) ag 0 af)) else ((Vz N ad).bind fun ai=>some (ai,true))
termination_by structural x=>x
def Zco (N:Nat) (aa:List Int) (ab:List Int):Option Rc:=
  (Zd0 N aa ab).bind fun ac=>if (decide (ac<0))=true then (some (([]:List Int),false)) else (Qm N aa ab N ([]:List Int) 0 0)
theorem Zrv {N au av:Nat} {a0 a1:Option Addr} {col:Ze} {w0:World} {ae af:R2} {r:Rc} (c1:Nat) (hm:Zco N ae af=some r) (h0:Sl (Za.int .u32) col w0 a0 au ae) (h1:Sl (Za.int .u32) col w0 a1 av af):
    Calls Tryz.prog 142 #[.slice a0 ae.length au,.slice a1 af.length av] w0 (fun e w'=>∃ (col':Ze) (ra1:Option Addr) (rc2:Nat),e= .returned (.tuple #[.slice ra1 r.1.length rc2,.bool r.2])∧Zg col w0 col' w'∧Zc (Za.int .u32) 77 c1 col' w' ra1 rc2 r.1):=by
 refine Zhs 4 5 (m:=43) (args:=[.slice a0 ae.length au,.slice a1 af.length av]) func142 rfl rfl rfl rfl rfl ?_;rw [Zco.eq_1] at hm;have aa:=St.start col w0;refine go ?_;obtain ⟨bn,ba,hm⟩:=bZ hm;replace h0:=h0.keep (Zl.start col w0);replace h1:=h1.keep (Zl.start col w0);refine Zi (Znx ba (h0.ks aa) (h1.ks aa)) ?_;rintro _ bb ⟨rfl,aw⟩;refine ⟨_,rfl,?_⟩;replace aw:Zg (Zk col) w0 (Zk col) bb:=.of_below aw;refine go ?_;replace aa:=aa.grow aw;refine Zs hm (fun hb hm=>go ?_) fun hb hm=>go ?_
 ·cases hm;exact ⟨rfl,_,none,0,rfl,aa.fin (cm []),Zc.nil⟩
 refine Xe [0,1,1000000] (fun n f ah=>∃ ab ak al ag ai aj ad,ad=n∧Qm N ae af ad ag ai aj=some r∧St w0 (Zk col) ab ah∧Zc (Za.int .u32) 77 1 ab ah ak al ag∧[6,7,8].map f=[.slice ak ag.length al,.int .u64 ai,.int .i64 aj]) N ⟨_,none,0,_,0,0,_,rfl,hm,aa,Zc.nil,rfl⟩ ?_;clear hm;intro n f ah hI;obtain ⟨ab,ak,al,ag,ai,aj,ad,hn,hm,aa,ac,hs⟩:=hI;subst hn;refine .lL [6,7,8] hs ?_
 cases ad with
 | zero=>rw [Qm.eq_1] at hm;cases hm
 | succ ad=>
  rw [Qm.eq_2] at hm;refine go ?_;refine Zs hm (fun hb hm=>?_) fun hb hm=>go ?_
  ·refine Yc<|Zw ?_;refine Wp.cutK [0,1,8,1000000] (fun f ax=>∃ ay az a2 am a3,Zlb aj (Qm N ae af ad) am a3=some r∧St w0 (Zk col) ay ax∧Zc (Za.int .u32) 77 1 ay ax az a2 am∧[6,7].map f=[.slice az am.length a2,.int .u64 a3]) ?_ ?_
   ·intro f ax hJ;obtain ⟨ay,az,a2,am,a3,hm,aa,bc,hs⟩:=hJ;rw [Zlb.eq_1] at hm;refine .lL [6,7] hs<|go ?_;exact ⟨ad,by omega,rfl,⟨_,_,_,_,_,_,_,rfl,hm,aa,bc,rfl⟩⟩
   refine go ?_;obtain ⟨bo,bd,hm⟩:=bZ hm;refine Zi (Zc8 bd (h0.ks aa)) ?_;rintro _ a7 ⟨rfl,an⟩;refine ⟨_,rfl,?_⟩;replace an:Zg ab ah ab a7:=.of_below an;refine go ?_;obtain ⟨a8,be,hm⟩:=bZ hm;replace aa:=aa.grow an;refine Zi (Zc8 be (h1.ks aa)) ?_;rintro _ bf ⟨rfl,ao⟩;refine ⟨_,rfl,?_⟩;replace ao:Zg ab a7 ab bf:=.of_below ao;refine Yn rfl<|lV _ (S8 _ _ rfl rfl)<|Ym rfl<|Zm<|Zw<|Wv<|Ym rfl<|Zm<|Zw ?_;replace ac:=(ac.gr an).gr ao;replace aa:=aa.grow ao;refine Wp.cutK [0,1,10,6,8,1000000] (fun f a4=>∃ ap a5 aq,Zgs ag ai aj (Qm N ae af ad) a8 a5 aq=some r∧St w0 (Zk col) ap a4∧Zc (Za.int .u32) 77 1 ap a4 ak al ag∧[7,9].map f=[.int .u64 a5,.int .u64 aq]) ?_ ?_
   ·intro f a4 hJ;obtain ⟨ap,a5,aq,hm,aa,ac,hs⟩:=hJ;rw [Zgs.eq_1] at hm;refine .lL [7,9] hs<|go ?_;refine Vb (col:=ap) [u32.wrap (u64.wrap (aq - (u64.wrap (a8+ai))))] 2 ?_;intro bp bq br a9 bg;obtain ⟨bh,hm⟩:=Xc hm;replace ac:=ac.gr a9;refine T7 ac (bg.srcN (NB.int (k:=.u32))) bh ?_;intro bs bt bu bv bi bj;refine go ?_;replace aa:=(aa.grow a9).kpp bi;exact ⟨rfl,_,_,_,_,_,hm,aa,bj,rfl⟩
   refine go ?_;refine Zs hm (fun hb hm=>go ?_) fun hb hm=>?_
   ·exact ⟨rfl,_,1,_,hm,aa,ac,rfl⟩
   refine Yc ?_;exact ⟨rfl,_,0,_,hm,aa,ac,rfl⟩
  obtain ⟨bw,bk,hm⟩:=bZ hm;refine Zi (Ss 3 bk (ac.toSlF (Zh.int .u32))) ?_;rintro _ bx ⟨bm,bz,b0,rfl,ar,a6⟩;refine ⟨_,rfl,?_⟩;replace a6:=a6.thaw (Z0 .u32) ar ((Fz.refl (col:=ab)).froz 1) (by decide);replace ar:=ar.thawR (col:=ab);generalize Xa ah.heap.size ab bm=b1 at *;refine go ?_;cases hm;replace aa:=aa.grow ar;exact ⟨rfl,_,_,_,rfl,aa.fin (cm [(3,c1)]),aa.fo a6⟩
def Zgm (aa:Int) (kk_L1:(List Int→Int→R2→Option R8)) (ab:List Int) (ac:List Int):Option R8:=
  kk_L1 ab (i64.wrap (aa - 1)) ac
def Zbg (N:Nat) (ad:List Int) (ab:List Int):Nat→R2→Int→R2→Option R8
  | 0,_,_,_=>none
  | af+1,ag,aa,ac=>if (decide (0≤aa))=true then ((Zgk ad aa).bind fun ah=>(Zgt N ag ah).bind fun ai=>(Vz N ai).bind fun ae=>(Zd0 N ae ab).bind fun aj=>if (decide (0≤aj))=true then ((Zco N ae ab).bind fun ak=>(Zp ac (i64.wrap (Int.tdiv aa 32))).bind fun al=>Z7 (0≤(Int.tmod aa 32)) ((some (ac.set (Int.toNat (i64.wrap (Int.tdiv aa 32))) (u32.wrap (al+(Xp .u32 1 (Int.tmod aa 32)))))).bind fun am=>Zgm aa (Zbg N ad ab af) ak.1 am)) else (Zgm aa (Zbg N ad ab af) ae ac)) else ((Vz N ac).bind fun an=>some (an,ag,0))
termination_by structural x=>x
def Zd2 (N:Nat) (ab:List Int) (ad:List Int):Option R8:=
  (Vz N ad).bind fun ac=>if (decide ((ac.length:Int)=0))=true then (some (([]:List Int),([]:List Int),11)) else ((Zit N ab).bind fun aa=>Z7 ((Int.toNat (i64.wrap (Int.tdiv (i64.wrap (aa+31)) 32))) * 4≤281474976710656∧(Int.toNat (i64.wrap (Int.tdiv (i64.wrap (aa+31)) 32)))≤maxLen∧0≤(i64.wrap (Int.tdiv (i64.wrap (aa+31)) 32))) (Zbg N ab ac N ([]:List Int) (i64.wrap (aa - 1)) (List.replicate (Int.toNat (i64.wrap (Int.tdiv (i64.wrap (aa+31)) 32))) (0:Int))))
theorem Zrt {N bd be:Nat} {a0 a1:Option Addr} {col:Ze} {w0:World} {ak a4:R2} {r:R8} (c1 c2:Nat) (hm:Zd2 N ak a4=some r) (h0:Sl (Za.int .u32) col w0 a0 bd ak) (h1:Sl (Za.int .u32) col w0 a1 be a4):
    Calls Tryz.prog 181 #[.slice a0 ak.length bd,.slice a1 a4.length be] w0 (fun e w'=>∃ (col':Ze) (ra1:Option Addr) (rc2:Nat) (ra4:Option Addr) (rc5:Nat),e= .returned (.tuple #[.slice ra1 r.1.length rc2,.slice ra4 r.2.1.length rc5,.int .i64 r.2.2])∧Zg col w0 col' w'∧Zc (Za.int .u32) 77 c1 col' w' ra1 rc2 r.1∧Zc (Za.int .u32) 77 c2 col' w' ra4 rc5 r.2.1):=by
 refine Zn3 4 5 6 (m:=61) (args:=[.slice a0 ak.length bd,.slice a1 a4.length be]) func181 rfl rfl rfl rfl rfl ?_;rw [Zd2.eq_1] at hm;have aa:=St.start col w0;refine go ?_;obtain ⟨a5,b3,hm⟩:=bZ hm;replace h1:=h1.keep (Zl.start col w0);refine Zi (Ss 1 b3 (h1.ks aa)) ?_;rintro _ b4 ⟨bf,bt,bu,rfl,b5,ab⟩;refine ⟨_,rfl,go ?_⟩;replace h0:=h0.keep (Zl.start col w0);replace aa:=aa.grow b5;refine Zs hm (fun hb hm=>go ?_) fun hb hm=>go ?_
 ·cases hm;exact ⟨rfl,_,none,0,none,0,rfl,aa.fin (cm []),Zc.nil,Zc.nil⟩
 obtain ⟨bg,b6,hm⟩:=bZ hm;refine Zi (Zz5 b6 (h0.ks aa)) ?_;rintro _ bv ⟨rfl,a6⟩;refine ⟨_,rfl,?_⟩;replace a6:Zg bf b4 bf bv:=.of_below a6;refine go ?_;refine lV (.int .i64 (i64.wrap (Int.tdiv (i64.wrap (bg+31)) 32))) (Vo (i64.wrap (bg+31)) 32 rfl rfl (by decide)) ?_;obtain ⟨a7,hm⟩:=Xc hm;refine Qe (col:=bf) (w:=bv) (r:=(Za.int .u32)) (n:=(Int.toNat (i64.wrap (Int.tdiv (i64.wrap (bg+31)) 32)))) (x0:=0) 2 rfl underlying31 Tryz.t77 rfl rfl rfl rfl rfl (congrArg (Value.int _) (Int.toNat_of_nonneg a7.2.2).symm) (congrArg (Value.int _) (Int.toNat_of_nonneg a7.2.2).symm) a7.1 a7.2.1 (Qu .u32 0) ?_;intro cp cq cr bw b7;refine go ?_;replace ab:=(ab.gr a6).gr bw;replace aa:=(aa.grow a6).grow bw;refine Xe [0,7,1000000] (fun n f ai=>∃ ae bh bi a8 ac av aw al aj,aj=n∧Zbg N ak a5 aj a8 ac al=some r∧St w0 (Zk col) ae ai∧Zc (Za.int .u32) 77 3 ae ai bh bi a8∧Zc (Za.int .u32) 77 1 ae ai bt bu a5∧Zc (Za.int .u32) 77 2 ae ai av aw al∧[10,11,9].map f=[.slice bh a8.length bi,.int .i64 ac,.slice av al.length aw]) N ⟨_,none,0,_,_,_,_,_,_,rfl,hm,aa,Zc.nil,ab,b7,rfl⟩ ?_;clear hm;intro n f ai hI;obtain ⟨ae,bh,bi,a8,ac,av,aw,al,aj,hn,hm,aa,am,ab,ad,hs⟩:=hI;subst hn;refine .lL [10,11,9] hs ?_
 cases aj with
 | zero=>rw [Zbg.eq_1] at hm;cases hm
 | succ aj=>
  rw [Zbg.eq_2] at hm;refine go ?_;refine Zs hm (fun hb hm=>?_) fun hb hm=>go ?_
  ·refine Yc<|Zw ?_;refine Wp.cutK [0,11,7,1000000] (fun f ax=>∃ ay bj bk a9 bm bn ba,Zgm ac (Zbg N ak a5 aj) a9 ba=some r∧St w0 (Zk col) ay ax∧Zc (Za.int .u32) 77 3 ay ax bj bk a9∧Zc (Za.int .u32) 77 1 ay ax bt bu a5∧Zc (Za.int .u32) 77 2 ay ax bm bn ba∧[10,9].map f=[.slice bj a9.length bk,.slice bm ba.length bn]) ?_ ?_
   ·intro f ax hJ;obtain ⟨ay,bj,bk,a9,bm,bn,ba,hm,aa,b8,ab,b9,hs⟩:=hJ;rw [Zgm.eq_1] at hm;refine .lL [10,9] hs<|go ?_;exact ⟨aj,by omega,rfl,⟨_,_,_,_,_,_,_,_,_,rfl,hm,aa,b8,ab,b9,rfl⟩⟩
   refine go ?_;obtain ⟨cs,ca,hm⟩:=bZ hm;refine Zi (Zz4 ca (h0.ks aa)) ?_;rintro _ bx ⟨rfl,an⟩;refine ⟨_,rfl,?_⟩;replace an:Zg ae ai ae bx:=.of_below an;obtain ⟨ct,cb,hm⟩:=bZ hm;replace am:=am.gr an;refine Zi (Zrw 4 cb (am.toSlF (Zh.int .u32))) ?_;rintro _ cc ⟨cd,cu,cv,rfl,ao,bo⟩;refine ⟨_,rfl,?_⟩;replace bo:=bo.thaw (Z0 .u32) ao ((Fz.refl (col:=ae)).froz 3) (by decide);replace ao:=ao.thawR (col:=ae);generalize Xa bx.heap.size ae cd=bp at *;obtain ⟨cw,ce,hm⟩:=bZ hm;refine Zi (Ss 5 ce (bo.toSlF (Zh.int .u32))) ?_;rintro _ cf ⟨cg,cx,cy,rfl,ap,af⟩;refine ⟨_,rfl,?_⟩;replace af:=af.thaw (Z0 .u32) ap ((Fz.refl (col:=bp)).froz 4) (by decide);replace ap:=ap.thawR (col:=bp);generalize Xa cc.heap.size bp cg=az at *;refine go ?_;obtain ⟨cz,ch,hm⟩:=bZ hm;replace ab:=((ab.gr an).gr ao).gr ap;refine Zi (Znx ch ((af.toSlF (Zh.int .u32)).froz 1) ((ab.froz 5 (by decide)).toSlF (Zh.int .u32))) ?_;rintro _ bz ⟨rfl,aq⟩;refine ⟨_,rfl,?_⟩;replace aq:Zg az cf az bz:=.of_below aq;refine go ?_;replace ad:=(((ad.gr an).gr ao).gr ap).gr aq;replace aa:=(((aa.grow an).grow ao).grow ap).grow aq;replace ab:=ab.gr aq;replace af:=af.gr aq;refine Zs hm (fun hb hm=>go ?_) fun hb hm=>?_
   ·obtain ⟨bb,ci,hm⟩:=bZ hm;refine Zi (Zrv 6 ci ((af.toSlF (Zh.int .u32)).froz 1) ((ab.froz 5 (by decide)).toSlF (Zh.int .u32))) ?_;rintro _ c0 ⟨cj,b0,b1,rfl,ar,ag⟩;refine ⟨_,rfl,?_⟩;replace ag:=ag.thaw (Z0 .u32) ar (((Fz.refl (col:=az)).froz 5).froz 1) (by decide);replace ar:=ar.thawR (col:=az);generalize Xa bz.heap.size az cj=a2 at *;refine lM (.tuple #[.slice b0 bb.1.length b1,.bool bb.2])<|lV (.slice b0 bb.1.length b1) (Xh rfl rfl)<|lV (.bool bb.2) (Xh rfl rfl)<|go ?_;refine W6 (col:=a2) [(0,1),(1,1),(2,1),(3,1),(4,1),(5,1),(6,1),(7,0),(8,1),(9,1),(10,1),(11,1),(12,1),(13,2)] (by kernel_rfl) (by kernel_rfl)<|xu rfl rfl (fun _=>Ug rfl) ?_;refine xu rfl rfl (fun _=>Vg rfl) ?_;refine xu (v:=(.int .i64 (i64.wrap (Int.tdiv ac 32)))) rfl rfl (fun _=>Vo ac 32 rfl rfl (by decide)) ?_;refine xu rfl rfl (fun _=>Ug rfl) ?_;refine xu rfl rfl (fun _=>Vg rfl) ?_;refine xu (v:=(.int .i64 (i64.wrap (Int.tdiv ac 32)))) rfl rfl (fun _=>Vo ac 32 rfl rfl (by decide)) ?_;obtain ⟨b2,ah,hm⟩:=bZ hm;replace ad:=ad.gr ar;refine xu rfl rfl (fun _=>We underlying31 sizeOf77 rfl rfl (Xk ah).1 (Xk ah).2.1 (ad.addr ah)) ?_;refine xW (fun _ hC=>(ad.gr (hC.bl a2)).atInt ah) ?_;refine xu rfl rfl (fun _=>Vg rfl) ?_;refine xu (v:=(.int .i64 (Int.tmod ac 32))) rfl rfl (fun _=>Tu ac 32 rfl rfl (by decide)) ?_;obtain ⟨ck,hm⟩:=Xc hm;refine xu (v:=(.int .u32 (Xp .u32 1 (Int.tmod ac 32)))) rfl rfl (fun _=>Zc1 1 (Int.tmod ac 32) rfl rfl ck) ?_;refine xu rfl rfl (fun _=>S8 _ _ rfl rfl) ?_;refine xu rfl rfl (fun _=>We underlying31 sizeOf77 rfl rfl (Xk ah).1 (Xk ah).2.1 (ad.addr ah)) ?_;refine xe rfl rfl ?_;intro c3 hC0;have hC:=hC0.bl a2;obtain ⟨bq,bc,hm⟩:=bZ hm;have bc:bq=al.set (Int.toNat (i64.wrap (Int.tdiv ac 32))) (u32.wrap (b2+(Xp .u32 1 (Int.tmod ac 32)))):=(Option.some.inj bc).symm;replace ad:=ad.gr hC;refine Y4 (x1:=u32.wrap (b2+(Xp .u32 1 (Int.tmod ac 32)))) ad ah ?_;intro c4 br cl au;rw [← bc] at au;refine .ld (d:=9) (v:=(.slice av bq.length aw)) (congrArg (fun n=>Value.slice av n aw) (show al.length=bq.length by rw [bc,List.length_set])) ?_;refine Zm<|xk a2<|W3 ?_;replace ab:=((ab.gr ar).gr hC).kp br;replace aa:=((aa.grow ar).grow hC).kp br cl;replace ag:=(ag.gr hC).kp br;intro c5 hC;replace hC:=hC.bl a2;replace ab:=ab.gr hC;replace ab:=ab.recol 6 3 (by decide);replace au:=au.gr hC
    replace au:=au.recol 6 3 (by decide);replace ag:=ag.gr hC;replace ag:=ag.recolSelf 3 (by decide);replace aa:=aa.grow hC;replace aa:=aa.recol 6 3 (by decide) (by decide);exact ⟨rfl,_,_,_,_,_,_,_,hm,aa,ag,ab,au,rfl⟩
   refine Yc ?_;replace ab:=ab.recol 5 3 (by decide);replace ad:=ad.recol 5 3 (by decide);replace af:=af.recolSelf 3 (by decide);replace aa:=aa.recol 5 3 (by decide) (by decide);exact ⟨rfl,_,_,_,_,_,_,_,hm,aa,af,ab,ad,rfl⟩
  obtain ⟨c6,cn,hm⟩:=bZ hm;refine Zi (Ss 7 cn (ad.toSlF (Zh.int .u32))) ?_;rintro _ c7 ⟨co,c8,c9,rfl,a3,bs⟩;refine ⟨_,rfl,?_⟩;replace bs:=bs.thaw (Z0 .u32) a3 ((Fz.refl (col:=ae)).froz 2) (by decide);replace a3:=a3.thawR (col:=ae);generalize Xa ai.heap.size ae co=da at *;refine go ?_;cases hm;replace am:=am.gr a3;replace aa:=aa.grow a3;exact ⟨rfl,_,_,_,_,_,rfl,aa.fin (cm [(7,c1),(3,c2)]),aa.fo bs,aa.fo am⟩
def Zix (aa:Bool):Option Bool:=
  some aa
def Zcp (aa:List Int):Option Bool:=
  if (decide ((aa.length:Int)=0))=true then (Zix true) else ((Zp aa 0).bind fun ab=>Zix (decide ((Int.tmod ab 2)=0)))
theorem Zkk {ag:Nat} {a0:Option Addr} {col:Ze} {w0:World} {ab:R2} {r:Bool} (hm:Zcp ab=some r) (h0:Sl (Za.int .u32) col w0 a0 ag ab):
    Calls Tryz.prog 183 #[.slice a0 ab.length ag] w0 (fun e w'=>e= .returned ((.bool r))∧Below w0.heap.size w0 w'):=by
 refine Xo 2 (m:=13) func183 rfl rfl rfl rfl rfl ?_;rw [Zcp.eq_1] at hm;have aa:=St.start col w0;refine Zw<|Wv<|Zkt rfl<|Zm<|Zw ?_;replace h0:=h0.keep (Zl.start col w0);refine Wp.cutK [1000000] (fun f ah=>∃ ai ac,Zix ac=some r∧St w0 (Zk col) ai ah∧[2].map f=[.bool ac]) ?_ ?_
 ·intro f ah hJ;obtain ⟨ai,ac,hm,aa,hs⟩:=hJ;rw [Zix.eq_1] at hm;refine .lL [2] hs<|Vp ?_;cases hm;exact ⟨rfl,rfl,aa.below⟩
 refine go ?_;refine X1 hm (fun ad hm=>go ?_) fun ad hm=>go ?_
 ·refine lV (.bool true) (Xm (congrArg Value.bool ad) rfl)<|go ?_;exact ⟨rfl,_,_,hm,aa,rfl⟩
 obtain ⟨ae,af,hm⟩:=bZ hm;refine lI af ((h0.ks aa).addr af) ?_;refine go ?_;refine lW ((h0.ks aa).atInt af)<|go ?_;refine lV (.int .u32 (Int.tmod ae 2)) (Tu ae 2 rfl rfl (by decide))<|go ?_;refine lV (.bool (decide ((Int.tmod ae 2)=0))) (Xd (congrArg Value.bool ad) rfl)<|go ?_;exact ⟨rfl,_,_,hm,aa,rfl⟩
def Zd6 (N:Nat) (ac:List Int):Nat→R2→Int→Int→Option R2
  | 0,_,_,_=>none
  | af+1,ab,ad,aa=>if (decide (0≤aa))=true then ((Zp ac aa).bind fun ae=>(Zp ab aa).bind fun ai=>(some (ab.set (Int.toNat aa) (u32.wrap (u64.wrap (Int.tdiv (u64.wrap ((u64.wrap (ad * 4294967296))+(u64.wrap ae))) 2))))).bind fun ag=>(Zd6 N ac af) ag (Int.tmod (u64.wrap ((u64.wrap (ad * 4294967296))+(u64.wrap ae))) 2) (i64.wrap (aa - 1))) else ((Vz N ab).bind fun ah=>some ah)
termination_by structural x=>x
def Zcq (N:Nat) (aa:List Int):Option R2:=
  Z7 (aa.length * 4≤281474976710656∧aa.length≤maxLen) (Zd6 N aa N (List.replicate aa.length (0:Int)) 0 (i64.wrap ((aa.length:Int) - 1)))
theorem Zkl {N au:Nat} {a0:Option Addr} {col:Ze} {w0:World} {ag r:R2} (c1:Nat) (hm:Zcq N ag=some r) (h0:Sl (Za.int .u32) col w0 a0 au ag):
    Calls Tryz.prog 184 #[.slice a0 ag.length au] w0 (fun e w'=>∃ (col':Ze) (ra1:Option Addr) (rc2:Nat),e= .returned ((.slice ra1 r.length rc2))∧Zg col w0 col' w'∧Zc (Za.int .u32) 77 c1 col' w' ra1 rc2 r):=by
 refine Xo 2 (m:=34) func184 rfl rfl rfl rfl rfl ?_;rw [Zcq.eq_1] at hm;have aa:=St.start col w0;refine go ?_;obtain ⟨av,hm⟩:=Xc hm;refine Qe (col:=(Zk col)) (w:=w0) (r:=(Za.int .u32)) (n:=ag.length) (x0:=0) 1 rfl underlying31 Tryz.t77 rfl rfl rfl rfl rfl rfl rfl av.1 av.2 (Qu .u32 0) ?_;intro a4 a5 a6 ax ay;refine go ?_;replace aa:=aa.grow ax;refine Xe [0,1000000] (fun n f aj=>∃ ac ah ai ad ab ak ae,ae=n∧Zd6 N ag ae ad ab ak=some r∧St w0 (Zk col) ac aj∧Zc (Za.int .u32) 77 1 ac aj ah ai ad∧[3,4,5].map f=[.slice ah ad.length ai,.int .u64 ab,.int .i64 ak]) N ⟨_,_,_,_,0,_,_,rfl,hm,aa,ay,rfl⟩ ?_;clear hm;intro n f aj hI;obtain ⟨ac,ah,ai,ad,ab,ak,ae,hn,hm,aa,an,hs⟩:=hI;subst hn;refine .lL [3,4,5] hs ?_;replace h0:=h0.keep (Zl.start col w0)
 cases ae with
 | zero=>rw [Zd6.eq_1] at hm;cases hm
 | succ ae=>
  rw [Zd6.eq_2] at hm;refine go ?_;refine Zs hm (fun hb hm=>go ?_) fun hb hm=>go ?_
  ·obtain ⟨af,ao,hm⟩:=bZ hm;refine lI ao ((h0.ks aa).addr ao)<|lW ((h0.ks aa).atInt ao) ?_;refine go ?_;refine lV (.int .u64 (u64.wrap (Int.tdiv (u64.wrap ((u64.wrap (ab * 4294967296))+(u64.wrap af))) 2))) (Vo (u64.wrap ((u64.wrap (ab * 4294967296))+(u64.wrap af))) 2 rfl rfl (by decide))<|go ?_;obtain ⟨a7,ap,hm⟩:=bZ hm;refine lI ap (an.addr ap) ?_;obtain ⟨aq,al,hm⟩:=bZ hm;have al:aq=ad.set (Int.toNat ak) (u32.wrap (u64.wrap (Int.tdiv (u64.wrap ((u64.wrap (ab * 4294967296))+(u64.wrap af))) 2))):=(Option.some.inj al).symm;refine Y4 (x1:=u32.wrap (u64.wrap (Int.tdiv (u64.wrap ((u64.wrap (ab * 4294967296))+(u64.wrap af))) 2))) an ap ?_;intro a8 az a1 aw;rw [← al] at aw;refine .ld (d:=3) (v:=(.slice ah aq.length ai)) (congrArg (fun n=>Value.slice ah n ai) (show ad.length=aq.length by rw [al,List.length_set])) ?_;refine go ?_;refine lV (.int .u64 (Int.tmod (u64.wrap ((u64.wrap (ab * 4294967296))+(u64.wrap af))) 2)) (Tu (u64.wrap ((u64.wrap (ab * 4294967296))+(u64.wrap af))) 2 rfl rfl (by decide))<|go ?_;replace aa:=aa.kp az a1;exact ⟨ae,by omega,rfl,⟨_,_,_,_,_,_,_,rfl,hm,aa,aw,rfl⟩⟩
  obtain ⟨a9,a2,hm⟩:=bZ hm;refine Zi (Ss 2 a2 (an.toSlF (Zh.int .u32))) ?_;rintro _ ba ⟨a3,bb,bc,rfl,am,ar⟩;refine ⟨_,rfl,?_⟩;replace ar:=ar.thaw (Z0 .u32) am ((Fz.refl (col:=ac)).froz 1) (by decide);replace am:=am.thawR (col:=ac);generalize Xa aj.heap.size ac a3=bd at *;refine go ?_;cases hm;replace aa:=aa.grow am;exact ⟨rfl,_,_,_,rfl,aa.fin (cm [(2,c1)]),aa.fo ar⟩
def Zgo (N:Nat) (kk_L2:(List Int→R2→Option R2)) (aa:List Int) (ab:List Int):Option R2:=
  (Zco N ab aa).bind fun ac=>kk_L2 aa ac.1
def Ziv (N:Nat) (kk_L2:(List Int→R2→Option R2)) (ab:List Int) (aa:List Int) (kk_L4:(List Int→Option R2)) (ac:Bool):Option R2:=
  if ac=true then ((Zcq N aa).bind fun ad=>kk_L4 ad) else ((Zd0 N ab aa).bind fun ae=>if (decide (0<ae))=true then (Zgo N kk_L2 aa ab) else (Zgo N kk_L2 ab aa))
def Zam (N:Nat) (kk_L2:(List Int→R2→Option R2)) (aa:List Int):Nat→R2→Option R2
  | 0,_=>none
  | ac+1,ab=>if (decide (0<(ab.length:Int)))=true then ((Zcp ab).bind fun ad=>Ziv N kk_L2 aa ab (Zam N kk_L2 aa ac) ad) else (Ziv N kk_L2 aa ab (Zam N kk_L2 aa ac) false)
termination_by structural x=>x
def Zd3 (N:Nat) (ab:List Int) (kk_L2:(List Int→R2→Option R2)):Nat→R2→Option R2
  | 0,_=>none
  | ac+1,aa=>(Zcp aa).bind fun ad=>if ad=true then ((Zcq N aa).bind fun ae=>(Zd3 N ab kk_L2 ac) ae) else (Zam N kk_L2 aa N ab)
termination_by structural x=>x
def Zd4 (N:Nat) (aa:Int):Nat→R2→Int→Option R2
  | 0,_,_=>none
  | ad+1,ab,ac=>if (decide (ac<aa))=true then ((Zgt N ab 0).bind fun ae=>(Zd4 N aa ad) ae (i64.wrap (ac+1))) else (some ab)
termination_by structural x=>x
def Ud (N:Nat) (aa:Int):Nat→R2→R2→Option R2
  | 0,_,_=>none
  | ad+1,ab,ac=>if (decide (0<(ac.length:Int)))=true then (Zd3 N ac (Ud N aa ad) N ab) else (Zd4 N aa N ab 0)
termination_by structural x=>x
def Zgn (N:Nat) (aa:List Int) (ab:List Int) (ac:Int) (kk_L1:(List Int→R2→Int→Option R2)) (ad:Bool):Option R2:=
  if ad=true then ((Zcq N aa).bind fun ae=>(Zcq N ab).bind fun af=>kk_L1 ae af (i64.wrap (ac+1))) else (Ud N ac N aa ab)
def Zbh (N:Nat):Nat→R2→R2→Int→Option R2
  | 0,_,_,_=>none
  | ac+1,aa,ab,ad=>(Zcp aa).bind fun ae=>if ae=true then ((Zcp ab).bind fun af=>Zgn N aa ab ad (Zbh N ac) af) else (Zgn N aa ab ad (Zbh N ac) false)
termination_by structural x=>x
def Ziu (N:Nat) (ac:List Int) (ad:List Int):Option R2:=
  (Vz N ac).bind fun aa=>(Vz N ad).bind fun ab=>if (decide ((aa.length:Int)=0))=true then (some ab) else (if (decide ((ab.length:Int)=0))=true then (some aa) else (Zbh N N aa ab 0))
theorem Zz6 {N cs ct:Nat} {a0 a1:Option Addr} {col:Ze} {w0:World} {cb cc r:R2} (c1:Nat) (hm:Ziu N cb cc=some r) (h0:Sl (Za.int .u32) col w0 a0 cs cb) (h1:Sl (Za.int .u32) col w0 a1 ct cc):
    Calls Tryz.prog 180 #[.slice a0 cb.length cs,.slice a1 cc.length ct] w0 (fun e w'=>∃ (col':Ze) (ra1:Option Addr) (rc2:Nat),e= .returned ((.slice ra1 r.length rc2))∧Zg col w0 col' w'∧Zc (Za.int .u32) 77 c1 col' w' ra1 rc2 r):=by
 refine Xo 4 (m:=69) func180 rfl rfl rfl rfl rfl ?_;rw [Ziu.eq_1] at hm;have aa:=St.start col w0;refine go ?_;obtain ⟨dw,c3,hm⟩:=bZ hm;replace h0:=h0.keep (Zl.start col w0);refine Zi (Ss 1 c3 (h0.ks aa)) ?_;rintro _ dx ⟨dy,dz,d0,rfl,c4,bs⟩;refine ⟨_,rfl,go ?_⟩;obtain ⟨d1,c5,hm⟩:=bZ hm;replace h1:=h1.keep (Zl.start col w0);replace aa:=aa.grow c4;refine Zi (Ss 2 c5 (h1.ks aa)) ?_;rintro _ d2 ⟨d3,d4,d5,rfl,cu,cv⟩;refine ⟨_,rfl,go ?_⟩;replace bs:=bs.gr cu;replace aa:=aa.grow cu;refine Zs hm (fun hb hm=>go ?_) fun hb hm=>go ?_
 ·cases hm;exact ⟨rfl,_,_,_,rfl,aa.fin (cm [(2,c1)]),aa.fo cv⟩
 refine Zs hm (fun hb hm=>go ?_) fun hb hm=>go ?_
 ·cases hm;exact ⟨rfl,_,_,_,rfl,aa.fin (cm [(1,c1)]),aa.fo bs⟩
 refine Xe [1000000] (fun n f a6=>∃ am bt bu au bv bw av ae an,an=n∧Zbh N an au av ae=some r∧St w0 (Zk col) am a6∧Zc (Za.int .u32) 77 1 am a6 bt bu au∧Zc (Za.int .u32) 77 2 am a6 bv bw av∧[5,6,7].map f=[.slice bt au.length bu,.slice bv av.length bw,.int .i64 ae]) N ⟨_,_,_,_,_,_,_,0,_,rfl,hm,aa,bs,cv,rfl⟩ ?_;clear hm;intro n f a6 hI;obtain ⟨am,bt,bu,au,bv,bw,av,ae,an,hn,hm,aa,ag,ad,hs⟩:=hI;subst hn;refine .lL [5,6,7] hs ?_
 cases an with
 | zero=>rw [Zbh.eq_1] at hm;cases hm
 | succ an=>
  rw [Zbh.eq_2] at hm;refine Zw<|Zw ?_;refine Wp.cutK [5,6,7,1000000] (fun f a7=>∃ ao cd,Zgn N au av ae (Zbh N an) cd=some r∧St w0 (Zk col) ao a7∧Zc (Za.int .u32) 77 1 ao a7 bt bu au∧Zc (Za.int .u32) 77 2 ao a7 bv bw av∧[26].map f=[.bool cd]) ?_ ?_
  ·intro f a7 hJ;obtain ⟨ao,cd,hm,aa,ag,ad,hs⟩:=hJ;rw [Zgn.eq_1] at hm;refine .lL [26] hs ?_;refine Zs hm (fun hb hm=>go ?_) fun hb hm=>go ?_
   ·obtain ⟨d6,c6,hm⟩:=bZ hm;refine Zi (Zkl 3 c6 (ag.toSlF (Zh.int .u32))) ?_;rintro _ c7 ⟨c8,d7,d8,rfl,a8,ai⟩;refine ⟨_,rfl,?_⟩;replace ai:=ai.thaw (Z0 .u32) a8 ((Fz.refl (col:=ao)).froz 1) (by decide);replace a8:=a8.thawR (col:=ao);generalize Xa a7.heap.size ao c8=ce at *;refine go ?_;obtain ⟨d9,c9,hm⟩:=bZ hm;replace ad:=ad.gr a8;refine Zi (Zkl 4 c9 (ad.toSlF (Zh.int .u32))) ?_;rintro _ ea ⟨da,eb,ec,rfl,a9,ap⟩;refine ⟨_,rfl,?_⟩;replace ap:=ap.thaw (Z0 .u32) a9 ((Fz.refl (col:=ce)).froz 2) (by decide);replace a9:=a9.thawR (col:=ce);generalize Xa c7.heap.size ce da=ed at *;refine go ?_;replace ai:=ai.gr a9;replace ai:=ai.recolSelf 1 (by decide);replace ap:=ap.recol 3 1 (by decide);replace aa:=(aa.grow a8).grow a9;replace aa:=aa.recol 3 1 (by decide) (by decide);replace ai:=ai.recol 4 2 (by decide);replace ap:=ap.recolSelf 2 (by decide);replace aa:=aa.recol 4 2 (by decide) (by decide);exact ⟨an,by omega,rfl,⟨_,_,_,_,_,_,_,_,_,rfl,hm,aa,ai,ap,rfl⟩⟩
   refine Xe [7,1000000] (fun n f bx=>∃ bz cf cg b0 b1 b2 aw af,af=n∧Ud N ae af b0 aw=some r∧St w0 (Zk col) bz bx∧Zc (Za.int .u32) 77 1 bz bx cf cg b0∧Zc (Za.int .u32) 77 2 bz bx b1 b2 aw∧[5,6].map f=[.slice cf b0.length cg,.slice b1 aw.length b2]) N ⟨_,_,_,_,_,_,_,_,rfl,hm,aa,ag,ad,rfl⟩ ?_;clear hm;intro n f bx hI;obtain ⟨bz,cf,cg,b0,b1,b2,aw,af,hn,hm,aa,cw,ah,hs⟩:=hI;subst hn;refine .lL [5,6] hs ?_
   cases af with
   | zero=>rw [Ud.eq_1] at hm;cases hm
   | succ af=>
    rw [Ud.eq_2] at hm;refine go ?_;refine Zs hm (fun hb hm=>go ?_) fun hb hm=>go ?_
    ·refine Xe [6,7,1000000] (fun n f ba=>∃ aj bb bc ak ax,ax=n∧Zd3 N aw (Ud N ae af) ax ak=some r∧St w0 (Zk col) aj ba∧Zc (Za.int .u32) 77 1 aj ba bb bc ak∧Zc (Za.int .u32) 77 2 aj ba b1 b2 aw∧[5].map f=[.slice bb ak.length bc]) N ⟨_,_,_,_,_,rfl,hm,aa,cw,ah,rfl⟩ ?_;clear hm;intro n f ba hI;obtain ⟨aj,bb,bc,ak,ax,hn,hm,aa,ab,ah,hs⟩:=hI;subst hn;refine .lL [5] hs ?_
     cases ax with
     | zero=>rw [Zd3.eq_1] at hm;cases hm
     | succ ax=>
      rw [Zd3.eq_2] at hm;refine go ?_;obtain ⟨ee,db,hm⟩:=bZ hm;refine Zi (Zkk db (ab.toSlF (Zh.int .u32))) ?_;rintro _ cx ⟨rfl,bd⟩;refine ⟨_,rfl,?_⟩;replace bd:Zg aj ba aj cx:=.of_below bd;refine Zm ?_;replace ab:=ab.gr bd;replace ah:=ah.gr bd;replace aa:=aa.grow bd;refine Zs hm (fun hb hm=>go ?_) fun hb hm=>go ?_
      ·obtain ⟨ef,dc,hm⟩:=bZ hm;refine Zi (Zkl 5 dc (ab.toSlF (Zh.int .u32))) ?_;rintro _ eg ⟨dd,eh,ei,rfl,be,bf⟩;refine ⟨_,rfl,?_⟩;replace bf:=bf.thaw (Z0 .u32) be ((Fz.refl (col:=aj)).froz 1) (by decide);replace be:=be.thawR (col:=aj);generalize Xa cx.heap.size aj dd=ej at *;refine go ?_;replace ah:=ah.gr be;replace ah:=ah.recol 5 1 (by decide);replace bf:=bf.recolSelf 1 (by decide);replace aa:=aa.grow be;replace aa:=aa.recol 5 1 (by decide) (by decide);exact ⟨ax,by omega,rfl,⟨_,_,_,_,_,rfl,hm,aa,bf,ah,rfl⟩⟩
      refine Xe [5,7,1000000] (fun n f bg=>∃ ay b3 b4 az aq,aq=n∧Zam N (Ud N ae af) ak aq az=some r∧St w0 (Zk col) ay bg∧Zc (Za.int .u32) 77 1 ay bg bb bc ak∧Zc (Za.int .u32) 77 2 ay bg b3 b4 az∧[6].map f=[.slice b3 az.length b4]) N ⟨_,_,_,_,_,rfl,hm,aa,ab,ah,rfl⟩ ?_;clear hm;intro n f bg hI;obtain ⟨ay,b3,b4,az,aq,hn,hm,aa,ab,ac,hs⟩:=hI;subst hn;refine .lL [6] hs ?_
      cases aq with
      | zero=>rw [Zam.eq_1] at hm;cases hm
      | succ aq=>
       rw [Zam.eq_2] at hm;refine Zw<|Zw ?_;refine Wp.cutK [5,6,7,1000000] (fun f a2=>∃ al ch,Ziv N (Ud N ae af) ak az (Zam N (Ud N ae af) ak aq) ch=some r∧St w0 (Zk col) al a2∧Zc (Za.int .u32) 77 1 al a2 bb bc ak∧Zc (Za.int .u32) 77 2 al a2 b3 b4 az∧[46].map f=[.bool ch]) ?_ ?_
       ·intro f a2 hJ;obtain ⟨al,ch,hm,aa,ab,ac,hs⟩:=hJ;rw [Ziv.eq_1] at hm;refine .lL [46] hs ?_;refine Zs hm (fun hb hm=>go ?_) fun hb hm=>?_
        ·obtain ⟨ek,de,hm⟩:=bZ hm;refine Zi (Zkl 6 de (ac.toSlF (Zh.int .u32))) ?_;rintro _ el ⟨df,em,en,rfl,bh,bi⟩;refine ⟨_,rfl,?_⟩;replace bi:=bi.thaw (Z0 .u32) bh ((Fz.refl (col:=al)).froz 2) (by decide);replace bh:=bh.thawR (col:=al);generalize Xa a2.heap.size al df=eo at *;refine go ?_;replace ab:=ab.gr bh;replace ab:=ab.recol 6 2 (by decide);replace bi:=bi.recolSelf 2 (by decide);replace aa:=aa.grow bh;replace aa:=aa.recol 6 2 (by decide) (by decide);exact ⟨aq,by omega,rfl,⟨_,_,_,_,_,rfl,hm,aa,ab,bi,rfl⟩⟩
        refine Zj2 (Zh1 ?_);refine Zw ?_;refine Wp.cutK [7,1000000] (fun f bj=>∃ ar ci cj b5 ck cl b6,Zgo N (Ud N ae af) b5 b6=some r∧St w0 (Zk col) ar bj∧Zc (Za.int .u32) 77 1 ar bj ci cj b5∧Zc (Za.int .u32) 77 2 ar bj ck cl b6∧[5,6].map f=[.slice ci b5.length cj,.slice ck b6.length cl]) ?_ ?_
        ·intro f bj hJ;obtain ⟨ar,ci,cj,b5,ck,cl,b6,hm,aa,a3,dg,hs⟩:=hJ;rw [Zgo.eq_1] at hm;refine .lL [5,6] hs<|go ?_;obtain ⟨b7,dh,hm⟩:=bZ hm;refine Zi (Zrv 7 dh ((dg.toSlF (Zh.int .u32)).froz 1) ((a3.froz 2 (by decide)).toSlF (Zh.int .u32))) ?_;rintro _ ep ⟨di,cy,cz,rfl,bk,bm⟩;refine ⟨_,rfl,?_⟩;replace bm:=bm.thaw (Z0 .u32) bk (((Fz.refl (col:=ar)).froz 2).froz 1) (by decide);replace bk:=bk.thawR (col:=ar);generalize Xa bj.heap.size ar di=eq at *;refine lM (.tuple #[.slice cy b7.1.length cz,.bool b7.2])<|lV (.slice cy b7.1.length cz) (Xh rfl rfl)<|lV (.bool b7.2) (Xh rfl rfl)<|go ?_;replace a3:=a3.gr bk;replace a3:=a3.recol 7 2 (by decide);replace bm:=bm.recolSelf 2 (by decide);replace aa:=aa.grow bk;replace aa:=aa.recol 7 2 (by decide) (by decide);exact ⟨af,by omega,rfl,⟨_,_,_,_,_,_,_,_,rfl,hm,aa,a3,bm,rfl⟩⟩
        refine go ?_;obtain ⟨er,dj,hm⟩:=bZ hm;refine Zi (Znx dj ((ab.toSlF (Zh.int .u32)).froz 2) ((ac.froz 1 (by decide)).toSlF (Zh.int .u32))) ?_;rintro _ dl ⟨rfl,bn⟩;refine ⟨_,rfl,?_⟩;replace bn:Zg al a2 al dl:=.of_below bn;refine go ?_;replace ab:=ab.gr bn;replace ac:=ac.gr bn;replace aa:=aa.grow bn;refine Zs hm (fun hb hm=>go ?_) fun hb hm=>?_
        ·replace ac:=ac.recol 1 8 (by decide);replace ab:=ab.recolSelf 8 (by decide);replace aa:=aa.recol 1 8 (by decide) (by decide);replace ac:=ac.recolSelf 1 (by decide);replace ab:=ab.recol 2 1 (by decide);replace aa:=aa.recol 2 1 (by decide) (by decide);replace ac:=ac.recol 8 2 (by decide);replace ab:=ab.recolSelf 2 (by decide);replace aa:=aa.recol 8 2 (by decide) (by decide);exact ⟨rfl,_,_,_,_,_,_,_,hm,aa,ac,ab,rfl⟩
        refine Yc ?_;exact ⟨rfl,_,_,_,_,_,_,_,hm,aa,ab,ac,rfl⟩
       refine go ?_;refine X1 hm (fun cn hm=>go ?_) fun cn hm=>go ?_
       ·obtain ⟨dm,dn,hm⟩:=bZ hm;refine Zi (Zkk dn (ac.toSlF (Zh.int .u32))) ?_;rintro _ dp ⟨rfl,bo⟩;refine ⟨_,rfl,?_⟩;replace bo:Zg ay bg ay dp:=.of_below bo;refine lV (.bool dm) (Xm (congrArg Value.bool cn) rfl)<|Zm ?_;replace ab:=ab.gr bo;replace ac:=ac.gr bo;replace aa:=aa.grow bo;exact ⟨rfl,_,_,hm,aa,ab,ac,rfl⟩
       refine lV (.bool false) (Xd (congrArg Value.bool cn) rfl)<|Zm ?_;exact ⟨rfl,_,_,hm,aa,ab,ac,rfl⟩
    refine Xe [7,1000000] (fun n f b8=>∃ a4 co cp b9 cq a5,a5=n∧Zd4 N ae a5 b9 cq=some r∧St w0 (Zk col) a4 b8∧Zc (Za.int .u32) 77 1 a4 b8 co cp b9∧[5,8].map f=[.slice co b9.length cp,.int .i64 cq]) N ⟨_,_,_,_,0,_,rfl,hm,aa,cw,rfl⟩ ?_;clear hm;intro n f b8 hI;obtain ⟨a4,co,cp,b9,cq,a5,hn,hm,aa,c0,hs⟩:=hI;subst hn;refine .lL [5,8] hs ?_
    cases a5 with
    | zero=>rw [Zd4.eq_1] at hm;cases hm
    | succ a5=>
     rw [Zd4.eq_2] at hm;refine go ?_;refine Zs hm (fun hb hm=>go ?_) fun hb hm=>go ?_
     ·obtain ⟨es,dq,hm⟩:=bZ hm;refine Zi (Zrw 9 dq (c0.toSlF (Zh.int .u32))) ?_;rintro _ et ⟨dr,eu,ew,rfl,ca,bp⟩;refine ⟨_,rfl,?_⟩;replace bp:=bp.thaw (Z0 .u32) ca ((Fz.refl (col:=a4)).froz 1) (by decide);replace ca:=ca.thawR (col:=a4);generalize Xa b8.heap.size a4 dr=ey at *;refine go ?_;replace bp:=bp.recolSelf 1 (by decide);replace aa:=aa.grow ca;replace aa:=aa.recol 9 1 (by decide) (by decide);exact ⟨a5,by omega,rfl,⟨_,_,_,_,_,_,rfl,hm,aa,bp,rfl⟩⟩
     cases hm;exact ⟨rfl,_,_,_,rfl,aa.fin (cm [(1,c1)]),aa.fo c0⟩
  refine go ?_;obtain ⟨ez,ds,hm⟩:=bZ hm;refine Zi (Zkk ds (ag.toSlF (Zh.int .u32))) ?_;rintro _ c2 ⟨rfl,bq⟩;refine ⟨_,rfl,?_⟩;replace bq:Zg am a6 am c2:=.of_below bq;refine X5 rfl ?_;replace ag:=ag.gr bq;replace ad:=ad.gr bq;replace aa:=aa.grow bq;refine X1 hm (fun cr hm=>go ?_) fun cr hm=>go ?_
  ·obtain ⟨dt,du,hm⟩:=bZ hm;refine Zi (Zkk du (ad.toSlF (Zh.int .u32))) ?_;rintro _ dv ⟨rfl,br⟩;refine ⟨_,rfl,?_⟩;replace br:Zg am c2 am dv:=.of_below br;refine lV (.bool dt) (Xm (congrArg Value.bool cr) rfl)<|Zm ?_;replace ag:=ag.gr br;replace ad:=ad.gr br;replace aa:=aa.grow br;exact ⟨rfl,_,_,hm,aa,ag,ad,rfl⟩
  refine lV (.bool false) (Xd (congrArg Value.bool cr) rfl)<|Zm ?_;exact ⟨rfl,_,_,hm,aa,ag,ad,rfl⟩
def Zla (N:Nat) (af:List Int) (ab:List Int) (aa:Int) (kk_L1:(List Int→Int→Option R2)):Nat→Int→R2→Int→Option R2
  | 0,_,_,_=>none
  | aj+1,ac,ad,ae=>if (decide (ac<(ab.length:Int)))=true then ((Zp af aa).bind fun ag=>(Zp ab ac).bind fun ah=>(Zp ad (i64.wrap (aa+ac))).bind fun ai=>(some (ad.set (Int.toNat (i64.wrap (aa+ac))) (u32.wrap (Int.tmod (u64.wrap ((u64.wrap (ae+(u64.wrap ((u64.wrap ag) * (u64.wrap ah)))))+(u64.wrap ai))) 4294967296)))).bind fun ak=>(Zla N af ab aa kk_L1 aj) (i64.wrap (ac+1)) ak (u64.wrap (Int.tdiv (u64.wrap ((u64.wrap (ae+(u64.wrap ((u64.wrap ag) * (u64.wrap ah)))))+(u64.wrap ai))) 4294967296))) else ((Zp ad (i64.wrap (aa+(ab.length:Int)))).bind fun am=>(some (ad.set (Int.toNat (i64.wrap (aa+(ab.length:Int)))) (u32.wrap ae))).bind fun al=>kk_L1 al (i64.wrap (aa+1)))
termination_by structural x=>x
def Ziw (N:Nat) (aa:List Int) (ab:List Int):Nat→R2→Int→Option R2
  | 0,_,_=>none
  | ae+1,ac,ad=>if (decide (ad<(aa.length:Int)))=true then (Zla N aa ab ad (Ziw N aa ab ae) N 0 ac 0) else ((Vz N ac).bind fun af=>some af)
termination_by structural x=>x
def Zgp (N:Nat) (ac:List Int) (ad:List Int):Option R2:=
  (Vz N ac).bind fun aa=>(Vz N ad).bind fun ab=>Z7 ((Int.toNat (i64.wrap ((aa.length:Int)+(ab.length:Int)))) * 4≤281474976710656∧(Int.toNat (i64.wrap ((aa.length:Int)+(ab.length:Int))))≤maxLen∧0≤(i64.wrap ((aa.length:Int)+(ab.length:Int)))) (Ziw N aa ab N (List.replicate (Int.toNat (i64.wrap ((aa.length:Int)+(ab.length:Int)))) (0:Int)) 0)
def Zis (af:List Int) (ag:List Int) (ad:List Int) (aa:Int) (ae:Int) (kk_L1:(List Int→Int→Int→Option R2)):Option R2:=
  (Qn af ae).bind fun ab=>(Qn ag ae).bind fun ac=>Z7 ((ad.length+[u32.wrap (Int.tmod (u64.wrap ((u64.wrap (aa+ab))+ac)) 4294967296)].length) * 4≤140737488355328∧ad.length+[u32.wrap (Int.tmod (u64.wrap ((u64.wrap (aa+ab))+ac)) 4294967296)].length≤maxLen) (kk_L1 (ad++[u32.wrap (Int.tmod (u64.wrap ((u64.wrap (aa+ab))+ac)) 4294967296)]) (u64.wrap (Int.tdiv (u64.wrap ((u64.wrap (aa+ab))+ac)) 4294967296)) (i64.wrap (ae+1)))
def Zcn (N:Nat) (ab:List Int) (ac:List Int) (aa:List Int) (ad:Int) (ae:Int) (kk_L1:(List Int→Int→Int→Option R2)) (af:Bool):Option R2:=
  if af=true then (Zis ab ac aa ad ae kk_L1) else ((Vz N aa).bind fun ag=>some ag)
def S4 (N:Nat) (aa:List Int) (ab:List Int):Nat→R2→Int→Int→Option R2
  | 0,_,_,_=>none
  | ae+1,af,ad,ac=>if (decide (ac<(aa.length:Int)))=true then (Zcn N aa ab af ad ac (S4 N aa ab ae) true) else (if (decide (ac<(ab.length:Int)))=true then (Zcn N aa ab af ad ac (S4 N aa ab ae) true) else (Zcn N aa ab af ad ac (S4 N aa ab ae) (decide (0<ad))))
termination_by structural x=>x
def Zgj (N:Nat) (aa:List Int) (ab:List Int):Option R2:=
  S4 N aa ab N ([]:List Int) 0 0
theorem Zz3 {N a3 a4:Nat} {a0 a1:Option Addr} {col:Ze} {w0:World} {ae ad r:R2} (c1:Nat) (hm:Zgj N ae ad=some r) (h0:Sl (Za.int .u32) col w0 a0 a3 ae) (h1:Sl (Za.int .u32) col w0 a1 a4 ad):
    Calls Tryz.prog 141 #[.slice a0 ae.length a3,.slice a1 ad.length a4] w0 (fun e w'=>∃ (col':Ze) (ra1:Option Addr) (rc2:Nat),e= .returned ((.slice ra1 r.length rc2))∧Zg col w0 col' w'∧Zc (Za.int .u32) 77 c1 col' w' ra1 rc2 r):=by
 refine Xo 4 (m:=43) func141 rfl rfl rfl rfl rfl ?_;rw [Zgj.eq_1] at hm;have aa:=St.start col w0;refine go ?_;refine Xe [0,1,1000000] (fun n f av=>∃ aw ak al af ab ai ag,ag=n∧S4 N ae ad ag af ab ai=some r∧St w0 (Zk col) aw av∧Zc (Za.int .u32) 77 1 aw av ak al af∧[5,6,7].map f=[.slice ak af.length al,.int .u64 ab,.int .i64 ai]) N ⟨_,none,0,_,0,0,_,rfl,hm,aa,Zc.nil,rfl⟩ ?_;clear hm;intro n f av hI;obtain ⟨aw,ak,al,af,ab,ai,ag,hn,hm,aa,ac,hs⟩:=hI;subst hn;refine .lL [5,6,7] hs ?_;replace h0:=h0.keep (Zl.start col w0);replace h1:=h1.keep (Zl.start col w0)
 cases ag with
 | zero=>rw [S4.eq_1] at hm;cases hm
 | succ ag=>
  rw [S4.eq_2] at hm;refine Zw ?_;refine Wp.cutK [0,1,5,6,7,1000000] (fun f ao=>∃ ah,Zis ae ad af ab ai (S4 N ae ad ag)=some r∧St w0 (Zk col) ah ao∧Zc (Za.int .u32) 77 1 ah ao ak al af) ?_ ?_
  ·intro f ao hJ;obtain ⟨ah,hm,aa,ac⟩:=hJ;rw [Zis.eq_1] at hm;refine go ?_;obtain ⟨am,a7,hm⟩:=bZ hm;refine Zi (Zc8 a7 (h0.ks aa)) ?_;rintro _ a5 ⟨rfl,ap⟩;refine ⟨_,rfl,?_⟩;replace ap:Zg ah ao ah a5:=.of_below ap;refine go ?_;obtain ⟨an,a8,hm⟩:=bZ hm;replace aa:=aa.grow ap;refine Zi (Zc8 a8 (h1.ks aa)) ?_;rintro _ a9 ⟨rfl,aq⟩;refine ⟨_,rfl,?_⟩;replace aq:Zg ah a5 ah a9:=.of_below aq;refine go ?_;refine lV (.int .u64 (Int.tmod (u64.wrap ((u64.wrap (ab+am))+an)) 4294967296)) (Tu (u64.wrap ((u64.wrap (ab+am))+an)) 4294967296 rfl rfl (by decide))<|go ?_;refine Vb (col:=ah) [u32.wrap (Int.tmod (u64.wrap ((u64.wrap (ab+am))+an)) 4294967296)] 2 ?_;intro bg bh bi a6 ba;obtain ⟨bb,hm⟩:=Xc hm;replace ac:=((ac.gr ap).gr aq).gr a6;refine T7 ac (ba.srcN (NB.int (k:=.u32))) bb ?_;intro bj bk bm bn bc bd;refine go ?_;refine lV (.int .u64 (u64.wrap (Int.tdiv (u64.wrap ((u64.wrap (ab+am))+an)) 4294967296))) (Vo (u64.wrap ((u64.wrap (ab+am))+an)) 4294967296 rfl rfl (by decide))<|go ?_;replace aa:=((aa.grow aq).grow a6).kpp bc;exact ⟨ag,by omega,rfl,⟨_,_,_,_,_,_,_,rfl,hm,aa,bd,rfl⟩⟩
  refine Zw ?_;refine Wp.cutK [0,1,5,6,7,1000000] (fun f ar=>∃ aj ax,Zcn N ae ad af ab ai (S4 N ae ad ag) ax=some r∧St w0 (Zk col) aj ar∧Zc (Za.int .u32) 77 1 aj ar ak al af∧[21].map f=[.bool ax]) ?_ ?_
  ·intro f ar hJ;obtain ⟨aj,ax,hm,aa,ac,hs⟩:=hJ;rw [Zcn.eq_1] at hm;refine .lL [21] hs ?_;refine Zs hm (fun hb hm=>?_) fun hb hm=>go ?_
   ·refine Yc ?_;exact ⟨rfl,_,hm,aa,ac⟩
   obtain ⟨bo,be,hm⟩:=bZ hm;refine Zi (Ss 3 be (ac.toSlF (Zh.int .u32))) ?_;rintro _ bp ⟨bf,bq,br,rfl,au,ay⟩;refine ⟨_,rfl,?_⟩;replace ay:=ay.thaw (Z0 .u32) au ((Fz.refl (col:=aj)).froz 1) (by decide);replace au:=au.thawR (col:=aj);generalize Xa ar.heap.size aj bf=bs at *;refine go ?_;cases hm;replace aa:=aa.grow au;exact ⟨rfl,_,_,_,rfl,aa.fin (cm [(3,c1)]),aa.fo ay⟩
  refine go ?_;refine X1 hm (fun az hm=>go ?_) fun az hm=>go ?_
  ·refine lV (.bool true) (Xm (congrArg Value.bool az) rfl)<|X5 rfl<|lP 18 rfl rfl<|lP 18 rfl rfl<|lV (.bool true) (Xm rfl rfl)<|Zm ?_;exact ⟨rfl,_,_,hm,aa,ac,rfl⟩
  refine lV (.bool (decide (ai<(ad.length:Int)))) (Xd (congrArg Value.bool az) rfl)<|X5 rfl ?_;refine X1 hm (fun a2 hm=>go ?_) fun a2 hm=>go ?_
  ·refine lV (.bool true) (Xm (congrArg Value.bool a2) rfl)<|Zm ?_;exact ⟨rfl,_,_,hm,aa,ac,rfl⟩
  refine lV (.bool (decide (0<ab))) (Xd (congrArg Value.bool a2) rfl)<|Zm ?_;exact ⟨rfl,_,_,hm,aa,ac,rfl⟩
def Zgr (N:Nat) (aa:Int):Option R2:=
  (Vz N [u32.wrap (Int.tmod aa 4294967296),u32.wrap (u64.wrap (Int.tdiv aa 4294967296))]).bind fun ab=>some ab
theorem Zru {N:Nat} {col:Ze} {w0:World} {aa:Int} {r:R2} (c1:Nat) (hm:Zgr N aa=some r):
    Calls Tryz.prog 143 #[.int .u64 aa] w0 (fun e w'=>∃ (col':Ze) (ra1:Option Addr) (rc2:Nat),e= .returned ((.slice ra1 r.length rc2))∧Zg col w0 col' w'∧Zc (Za.int .u32) 77 c1 col' w' ra1 rc2 r):=by
 refine Xo 2 (m:=11) func143 rfl rfl rfl rfl rfl ?_;rw [Zgr.eq_1] at hm;have ab:=St.start col w0;refine go ?_;refine lV (.int .u64 (Int.tmod aa 4294967296)) (Tu aa 4294967296 rfl rfl (by decide))<|go ?_;refine lV (.int .u64 (u64.wrap (Int.tdiv aa 4294967296))) (Vo aa 4294967296 rfl rfl (by decide))<|go ?_;refine Vb (col:=(Zk col)) [u32.wrap (Int.tmod aa 4294967296),u32.wrap (u64.wrap (Int.tdiv aa 4294967296))] 1 ?_;intro ak af ad ag ah;obtain ⟨al,ai,hm⟩:=bZ hm;refine Zi (Ss 2 ai (ah.toSlF (Zh.int .u32))) ?_;rintro _ am ⟨aj,an,ao,rfl,ac,ae⟩;refine ⟨_,rfl,?_⟩;replace ae:=ae.thaw (Z0 .u32) ac ((Fz.refl (col:=ad)).froz 1) (by decide);replace ac:=ac.thawR (col:=ad);generalize Xa af.heap.size ad aj=ap at *;refine go ?_;cases hm;replace ab:=(ab.grow ag).grow ac;exact ⟨rfl,_,_,_,rfl,ab.fin (cm [(2,c1)]),ab.fo ae⟩

end Go.Proofs.YtlchacnggnhhbaaGreat
