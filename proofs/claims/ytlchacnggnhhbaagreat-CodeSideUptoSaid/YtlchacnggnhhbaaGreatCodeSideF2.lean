/-
  What functions of the program compute, as plain Lean functions (m_..), and proofs that they compute it (c_..). Printed by a program of the author; no conditions.
-/
import Derived.Test.YtlchacnggnhhbaaGreatCodeSideBFloat
import Derived.Test.YtlchacnggnhhbaaGreatProg
import Derived.Test.YtlchacnggnhhbaaGreatCodeSideBBrief
import Derived.Test.YtlchacnggnhhbaaGreatCodeSideF1
set_option linter.unusedVariables false
set_option maxRecDepth 100000
set_option maxHeartbeats 2000000
namespace Go.Proofs.YtlchacnggnhhbaaGreat
open Go Go.RowKit
open Go.IntKind (i8 i16 i32 i64 u8 u16 u32 u64)
open Go.Proofs.Tryz

def T6 (N:Nat) (aa:R0) (ab:R0):Option R0:=
  (V4 N ((ab.1.1,ab.1.2),ab.2)).bind fun ag=>(Q7 N (aa.1.1,aa.1.2) ag).bind fun ad=>(V4 N ((aa.1.1,aa.1.2),aa.2)).bind fun ah=>(Q7 N (ab.1.1,ab.1.2) ah).bind fun ae=>(Zg1 N (ad.1,ad.2) (ae.1,ae.2)).bind fun af=>(V4 N ((aa.1.1,aa.1.2),aa.2)).bind fun ai=>(V4 N ((ab.1.1,ab.1.2),ab.2)).bind fun aj=>(Zad N ai aj).bind fun ak=>(Q6 N af.1 af.2 ak).bind fun ac=>some ((ac.1.1,ac.1.2),ac.2)
theorem Zho {N bo bz bp b0:Nat} {bq b1 br b2:Option Addr} {col:Zd} {w0:World} {aj ak r:R0} (c1 c2:Nat) (hm:T6 N aj ak=some r) (ba:Sl (Za.int .u32) col w0 bq bo aj.1.2) (bs:Sl (Za.int .u32) col w0 b1 bz aj.2) (bb:Sl (Za.int .u32) col w0 br bp ak.1.2) (bt:Sl (Za.int .u32) col w0 b2 b0 ak.2):
    Calls Tryz.prog 20 #[(.agg #[.bool aj.1.1,.slice bq aj.1.2.length bo,.slice b1 aj.2.length bz]),(.agg #[.bool ak.1.1,.slice br ak.1.2.length bp,.slice b2 ak.2.length b0])] w0 (fun e w'=>∃ (col':Zd) (ra1:Option Addr) (rc2:Nat) (ra4:Option Addr) (rc5:Nat),e= .returned ((.agg #[.bool r.1.1,.slice ra1 r.1.2.length rc2,.slice ra4 r.2.length rc5]))∧Zg col w0 col' w'∧Zb (Za.int .u32) 77 c1 col' w' ra1 rc2 r.1.2∧Zb (Za.int .u32) 77 c2 col' w' ra4 rc5 r.2):=by
 refine Yw (m:=27) func20 rfl rfl rfl ?_;rw [T6.eq_1] at hm;have aa:=St.start col w0;refine go ?_;refine Xp (col:=(Zk col)) 1 rfl ?_;intro cd c9 ce cf ae;refine Xp (col:=ce) 2 rfl ?_;intro cg da ch ca af;refine Xa (col:=ch) #[.bool false,.slice none (([]:List Int).length) 0,.slice none (([]:List Int).length) 0] 3 zeroValue35 ?_;intro db a4 ay b3 ab;refine go ?_;have bu:=Zt.clip (fun _=>false) ay a4;refine Zer (col:=ay) [(0,1),(1,0),(2,0),(5,1),(6,0),(7,0),(3,3),(4,3),(8,3),(9,3),(10,3),(11,4),(12,2)] (by kernel_rfl) (by kernel_rfl) ⟨fun h=>absurd h (by decide),fun h=>absurd h (by decide),fun h=>absurd h (by decide),fun h=>absurd h (by decide),fun h=>absurd h (by decide),fun h=>absurd h (by decide),fun h=>absurd h (by decide),fun h=>absurd h (by decide),fun h=>absurd h (by decide),fun h=>absurd h (by decide),fun h=>absurd h (by decide),fun _=>⟨_,_,_,rfl,Uv zeroValue33⟩,fun h=>absurd h (by decide),trivial⟩<|X5 (v:=(.pointer ((some (⟨cd,0,none⟩:Addr)).map (·.add 0)))) rfl rfl (fun _=>Uq (sz:=2) (off:=0) underlying35 rfl sizeOf33 (by decide) rfl rfl ⟨_,_,rfl⟩) ?_;replace ae:=((ae.gr ca).gr b3).kpp bu;refine Wc (v:=(.agg #[.bool aj.1.1,.slice bq aj.1.2.length bo])) rfl rfl (fun _ hC=>Xc isAgg33 sizeOf33 rfl rfl (((ae.atN).part 0 2 _ rfl).gr (hC.bl (Zh a4 ay)))) ?_;replace af:=(af.gr b3).kpp bu;refine Wc (v:=(.agg #[.bool ak.1.1,.slice br ak.1.2.length bp,.slice b2 ak.2.length b0])) rfl rfl (fun _ hC=>Xc isAgg35 sizeOf35 rfl rfl (af.atN.gr (hC.bl (Zh a4 ay)))) ?_;refine X5 (v:=(.pointer ((some (⟨cg,0,none⟩:Addr)).map (·.add 0)))) rfl rfl (fun _=>Uq (sz:=2) (off:=0) underlying35 rfl sizeOf33 (by decide) rfl rfl ⟨_,_,rfl⟩) ?_;refine Wc (v:=(.agg #[.bool ak.1.1,.slice br ak.1.2.length bp])) rfl rfl (fun _ hC=>Xc isAgg33 sizeOf33 rfl rfl (((af.atN).part 0 2 _ rfl).gr (hC.bl (Zh a4 ay)))) ?_;refine Wc (v:=(.agg #[.bool aj.1.1,.slice bq aj.1.2.length bo,.slice b1 aj.2.length bz])) rfl rfl (fun _ hC=>Xc isAgg35 sizeOf35 rfl rfl (ae.atN.gr (hC.bl (Zh a4 ay)))) ?_;refine Wy rfl rfl ?_;intro dc hC0;have hC:=hC0.bl (Zh a4 ay);obtain ⟨dd,ci,hm⟩:=bZ hm;replace bb:=bb.keep (Zl.start col w0);replace bt:=bt.keep (Zl.start col w0);replace aa:=((((aa.grow cf).grow ca).grow b3).kpp bu).grow hC;refine Zi (U5 4 ci (bb.ks aa) (bt.ks aa)) ?_;rintro _ ao ⟨au,de,df,rfl,az,b4⟩;refine ⟨_,rfl,?_⟩
 refine Zm ?_;refine ⟨fun w'=>Zg (Zh ao au) ao (Zh ao au) w',fun g=>(Zh ao au) g=497,Zg.refl _ _,Wj,fun _=>⟨fun _ h=>Vp hC0 az h,fun b hb=>az.below.block b hb,fun g x1 x2=>Vu az g x1 (by first | exact x2 | (simp only [Xf,x2];rfl) | (simp only [Xf,Xb,x2];rfl))⟩,?_⟩;have bc:=Zt.clip (fun _=>false) au ao;refine Wy rfl rfl ?_;intro cj hC0;replace ab:=(((ab.kpp bu).gr hC).gr az).kpp bc;replace ae:=((ae.gr hC).gr az).kpp bc;replace af:=((af.gr hC).gr az).kpp bc;have hC:=hC0.bl (Zh ao au);obtain ⟨dg,ck,hm⟩:=bZ hm;replace ba:=ba.keep (Zl.start col w0);replace aa:=((aa.grow az).kpp bc).grow hC;replace b4:=(b4.kpp bc).gr hC;refine Zi (Ze2 5 ck ((ba.ks aa).froz 4) (b4.toSlF (Ze.int .u32))) ?_;rintro _ a5 ⟨cl,dh,di,rfl,am,ap⟩;refine ⟨_,rfl,?_⟩;replace bs:=bs.keep (Zl.start col w0);replace ap:=ap.thaw (Zs .u32) am ((Fz.refl (col:=(Zh ao au))).froz 4) (by decide);replace am:=am.thawR (col:=(Zh ao au));generalize Z1 cj.heap.size (Zh ao au) cl=bd at *;refine Zm ?_;refine ⟨fun w'=>Zg (Zh a5 bd) a5 (Zh a5 bd) w',fun g=>(Zh a5 bd) g=497,Zg.refl _ _,Wj,fun _=>⟨fun _ h=>Vp hC0 am h,fun b hb=>am.below.block b hb,fun g x1 x2=>Vu am g x1 (by first | exact x2 | (simp only [Xf,x2];rfl) | (simp only [Xf,Xb,x2];rfl))⟩,?_⟩;have be:=Zt.clip (fun _=>false) bd a5;refine Wy rfl rfl ?_;intro dj hC0;replace ae:=((ae.gr hC).gr am).kpp be;replace af:=((af.gr hC).gr am).kpp be;replace ab:=((ab.gr hC).gr am).kpp be;have hC:=hC0.bl (Zh a5 bd);obtain ⟨dl,cn,hm⟩:=bZ hm;replace aa:=((aa.grow am).kpp be).grow hC;refine Zi (U5 6 cn (ba.ks aa) (bs.ks aa)) ?_;rintro _ aq ⟨av,dm,dn,rfl,aw,b5⟩;refine ⟨_,rfl,?_⟩;refine Zm ?_;refine ⟨fun w'=>Zg (Zh aq av) aq (Zh aq av) w',fun g=>(Zh aq av) g=497,Zg.refl _ _,Wj,fun _=>⟨fun _ h=>Vp hC0 aw h,fun b hb=>aw.below.block b hb,fun g x1 x2=>Vu aw g x1 (by first | exact x2 | (simp only [Xf,x2];rfl) | (simp only [Xf,Xb,x2];rfl))⟩,?_⟩;have a6:=Zt.clip (fun _=>false) av aq;refine Wy rfl rfl ?_;intro co hC0;replace ap:=(((ap.kpp be).gr hC).gr aw).kpp a6;replace ae:=((ae.gr hC).gr aw).kpp a6;replace af:=((af.gr hC).gr aw).kpp a6;replace ab:=((ab.gr hC).gr aw).kpp a6;have hC:=hC0.bl (Zh aq av)
 obtain ⟨dp,cp,hm⟩:=bZ hm;replace aa:=((aa.grow aw).kpp a6).grow hC;replace b5:=(b5.kpp a6).gr hC;refine Zi (Ze2 7 cp ((bb.ks aa).froz 6) (b5.toSlF (Ze.int .u32))) ?_;rintro _ ar ⟨cq,dq,dr,rfl,al,bf⟩;refine ⟨_,rfl,?_⟩;replace bf:=bf.thaw (Zs .u32) al ((Fz.refl (col:=(Zh aq av))).froz 6) (by decide);replace al:=al.thawR (col:=(Zh aq av));generalize Z1 co.heap.size (Zh aq av) cq=ax at *;refine Zm ?_;refine ⟨fun w'=>Zg (Zh ar ax) ar (Zh ar ax) w',fun g=>(Zh ar ax) g=497,Zg.refl _ _,Wj,fun _=>⟨fun _ h=>Vp hC0 al h,fun b hb=>al.below.block b hb,fun g x1 x2=>Vu al g x1 (by first | exact x2 | (simp only [Xf,x2];rfl) | (simp only [Xf,Xb,x2];rfl))⟩,?_⟩;have a7:=Zt.clip (fun _=>false) ax ar;refine Wy rfl rfl ?_;intro cr hC0;replace ap:=((ap.gr hC).gr al).kpp a7;replace ae:=((ae.gr hC).gr al).kpp a7;replace af:=((af.gr hC).gr al).kpp a7;replace ab:=((ab.gr hC).gr al).kpp a7;have hC:=hC0.bl (Zh ar ax);obtain ⟨ds,cs,hm⟩:=bZ hm;replace bf:=(bf.kpp a7).gr hC;replace ap:=ap.gr hC;refine Zi (Zq9 8 cs ((ap.toSlF (Ze.int .u32)).froz 7) ((bf.froz 5 (by decide)).toSlF (Ze.int .u32))) ?_;rintro _ ac ⟨ct,dt,du,rfl,an,ag⟩;refine ⟨_,rfl,?_⟩;replace ag:=ag.thaw (Zs .u32) an (((Fz.refl (col:=(Zh ar ax))).froz 5).froz 7) (by decide);replace an:=an.thawR (col:=(Zh ar ax));generalize Z1 cr.heap.size (Zh ar ax) ct=ad at *;refine Zm ?_;refine ⟨fun w'=>Zg (Zh ac ad) ac (Zh ac ad) w',fun g=>(Zh ac ad) g=497,Zg.refl _ _,Wj,fun _=>⟨fun _ h=>Vp hC0 an h,fun b hb=>an.below.block b hb,fun g x1 x2=>Vu an g x1 (by first | exact x2 | (simp only [Xf,x2];rfl) | (simp only [Xf,Xb,x2];rfl))⟩,?_⟩;have bg:=Zt.clip (fun _=>false) ad ac;refine Zc7 rfl rfl (Uv zeroValue33) ?_;intro ah cu;refine Wy rfl rfl ?_;intro cv ⟨hC0,hZ0⟩;replace aa:=((((aa.grow al).kpp a7).grow hC).grow an).kpp bg;replace ae:=((ae.gr hC).gr an).kpp bg;replace af:=((af.gr hC).gr an).kpp bg;replace ab:=((ab.gr hC).gr an).kpp bg;have hC:=hC0.bl (Zh ac ad);obtain ⟨bh,b6⟩:=Zbr (col:=(Zh ac ad)) 9 hZ0 cu;replace b6:Zj 33 9 (Z7 ah 9 (Zh ac ad)) cv ah #[.bool false,.slice none (([]:List Int).length) 0]:=b6;refine Zu b6 ?_
 intro ai bi cw bv;refine Zm ?_;refine ⟨fun w'=>Zg (Zh ai (Z7 ah 9 (Zh ac ad))) ai (Zh ai (Z7 ah 9 (Zh ac ad))) w',fun g=>(Zh ai (Z7 ah 9 (Zh ac ad))) g=497,Zg.refl _ _,Wj,fun h=>absurd h (by decide),?_⟩;have a8:=Zt.clip (fun _=>false) (Z7 ah 9 (Zh ac ad)) ai;refine Zet ?_;replace ag:=((((ag.kpp bg).gr hC).kpp bh).kp bi).kpp a8;replace ae:=(((ae.gr hC).kpp bh).kp bi).kpp a8;replace af:=(((af.gr hC).kpp bh).kp bi).kpp a8;replace ab:=(((ab.gr hC).kpp bh).kp bi).kpp a8;replace aa:=(((aa.grow hC).kpp bh).kp bi cw).kpp a8;intro cb hC;replace hC:Zg (Zh ai (Z7 ah 9 (Zh ac ad))) ai (Zh ai (Z7 ah 9 (Zh ac ad))) cb:=.of_below hC.below;refine Zw<|Wb (col:=(Zh ai (Z7 ah 9 (Zh ac ad)))) [(0,1),(1,0),(2,1),(3,0),(4,0),(6,0),(5,3),(7,3),(8,3),(9,3),(10,2)] (by kernel_rfl) (by kernel_rfl)<|xF ⟨_,_,rfl⟩ ?_;replace bv:=(bv.kpp a8).gr hC;refine xW (fun _ hC=>((bv.atN).nth (q:=0) rfl).gr (hC.bl (Zh ai (Z7 ah 9 (Zh ac ad))))) ?_;refine xF ⟨_,_,rfl⟩ ?_;refine xW (fun _ hC=>((bv.atN).nth (q:=1) rfl).gr (hC.bl (Zh ai (Z7 ah 9 (Zh ac ad))))) ?_;replace ae:=ae.gr hC;refine xv rfl rfl (fun _ hC=>Z3 isAgg35 sizeOf35 (ae.gr (hC.bl (Zh ai (Z7 ah 9 (Zh ac ad)))))) ?_;replace af:=af.gr hC;refine xv rfl rfl (fun _ hC=>Z3 isAgg35 sizeOf35 (af.gr (hC.bl (Zh ai (Z7 ah 9 (Zh ac ad)))))) ?_;refine xe rfl rfl ?_;intro cx hC0;replace ag:=ag.gr hC;replace ab:=ab.gr hC;replace aa:=aa.grow hC;have hC:Zg (Zh ai (Z7 ah 9 (Zh ac ad))) cb (Zh ai (Z7 ah 9 (Zh ac ad))) cx:=.of_below hC0.below;obtain ⟨dv,cy,hm⟩:=bZ hm;replace aa:=aa.grow hC;refine Zi (U5 10 cy (ba.ks aa) (bs.ks aa)) ?_;rintro _ dw ⟨cc,dx,dy,rfl,bw,bj⟩;refine ⟨_,rfl,?_⟩;refine Zm<|Xr cc hC0 bw<|xe rfl rfl ?_;intro dz hC0;replace ag:=(ag.gr hC).gr bw;replace ab:=(ab.gr hC).gr bw;have hC:=hC0.bl cc;obtain ⟨d0,cz,hm⟩:=bZ hm;replace aa:=(aa.grow bw).grow hC;refine Zi (U5 11 cz (bb.ks aa) (bt.ks aa)) ?_;rintro _ d1 ⟨bk,d2,d3,rfl,bm,b7⟩;refine ⟨_,rfl,?_⟩;refine Zm<|Xr bk hC0 bm<|xe rfl rfl ?_;intro c0 hC0;replace ag:=(ag.gr hC).gr bm;replace bj:=(bj.gr hC).gr bm;replace ab:=(ab.gr hC).gr bm;have hC:=hC0.bl bk
 obtain ⟨d4,c3,hm⟩:=bZ hm;replace bj:=bj.gr hC;replace b7:=b7.gr hC;refine Zi (Zhp 12 c3 ((bj.toSlF (Ze.int .u32)).froz 11) ((b7.froz 10 (by decide)).toSlF (Ze.int .u32))) ?_;rintro _ d5 ⟨c4,d6,d7,rfl,a0,bn⟩;refine ⟨_,rfl,?_⟩;replace bn:=bn.thaw (Zs .u32) a0 (((Fz.refl (col:=bk)).froz 10).froz 11) (by decide);replace a0:=a0.thawR (col:=bk);generalize Z1 c0.heap.size bk c4=a9 at *;refine Zm<|Xr a9 hC0 a0<|xe rfl rfl ?_;intro c5 hC0;replace aa:=((aa.grow bm).grow hC).grow a0;replace ag:=(ag.gr hC).gr a0;replace ab:=(ab.gr hC).gr a0;have hC:=hC0.bl a9;obtain ⟨d8,c6,hm⟩:=bZ hm;replace ag:=ag.gr hC;replace bn:=bn.gr hC;refine Zi (Ze1 13 14 c6 ((ag.toSlF (Ze.int .u32)).froz 12) ((bn.froz 8 (by decide)).toSlF (Ze.int .u32))) ?_;rintro _ d9 ⟨c7,ea,eb,ec,ed,rfl,a1,a2,a3⟩;refine ⟨_,rfl,?_⟩;replace a2:=a2.thaw (Zs .u32) a1 (((Fz.refl (col:=a9)).froz 8).froz 12) (by decide);replace a3:=a3.thaw (Zs .u32) a1 (((Fz.refl (col:=a9)).froz 8).froz 12) (by decide);replace a1:=a1.thawR (col:=a9);generalize Z1 c5.heap.size a9 c7=bx at *;refine Zm<|Xr bx hC0 a1<|xe rfl rfl ?_;intro ee hC0;replace ab:=(ab.gr hC).gr a1;replace aa:=(aa.grow hC).grow a1;have hC:=hC0.bl bx;replace ab:=ab.gr hC;refine Zu ab ?_;intro ef b8 c8 b9;refine Zm<|xk bx<|Yz ?_;replace a2:=(a2.gr hC).kp b8;replace a3:=(a3.gr hC).kp b8;replace aa:=(aa.grow hC).kp b8 c8;intro eg hC;replace hC:=hC.bl bx;refine Wx ?_;cases hm;replace a2:=a2.gr hC;replace a3:=a3.gr hC;replace b9:=b9.gr hC;replace aa:=aa.grow hC;exact ⟨rfl,_,ra b9.atN,_,_,_,_,_,rfl,aa.fin (cm [(13,c1),(14,c2)]),aa.fo a2,aa.fo a3⟩
def Ul (N:Nat) (aa:R0) (ab:R0):Option R0:=
  (Zad N aa.1.2 ab.1.2).bind fun ad=>(V4 N ((aa.1.1,aa.1.2),aa.2)).bind fun ae=>(V4 N ((ab.1.1,ab.1.2),ab.2)).bind fun af=>(Zad N ae af).bind fun ag=>(Q6 N (!decide (aa.1.1=ab.1.1)) ad ag).bind fun ac=>some ((ac.1.1,ac.1.2),ac.2)
theorem Zbt {N a4 a5 a6 a7:Nat} {a8 a9 ba bb:Option Addr} {col:Zd} {w0:World} {ai aj r:R0} (c1 c2:Nat) (hm:Ul N ai aj=some r) (ar:Sl (Za.int .u32) col w0 a8 a4 ai.1.2) (ax:Sl (Za.int .u32) col w0 a9 a5 ai.2) (au:Sl (Za.int .u32) col w0 ba a6 aj.1.2) (ay:Sl (Za.int .u32) col w0 bb a7 aj.2):
    Calls Tryz.prog 22 #[(.agg #[.bool ai.1.1,.slice a8 ai.1.2.length a4,.slice a9 ai.2.length a5]),(.agg #[.bool aj.1.1,.slice ba aj.1.2.length a6,.slice bb aj.2.length a7])] w0 (fun e w'=>∃ (col':Zd) (ra1:Option Addr) (rc2:Nat) (ra4:Option Addr) (rc5:Nat),e= .returned ((.agg #[.bool r.1.1,.slice ra1 r.1.2.length rc2,.slice ra4 r.2.length rc5]))∧Zg col w0 col' w'∧Zb (Za.int .u32) 77 c1 col' w' ra1 rc2 r.1.2∧Zb (Za.int .u32) 77 c2 col' w' ra4 rc5 r.2):=by
 refine Yw (m:=25) func22 rfl rfl rfl ?_;rw [Ul.eq_1] at hm;have aa:=St.start col w0;refine go ?_;refine Xp (col:=(Zk col)) 1 rfl ?_;intro bt bu bf bg al;refine Xp (col:=bf) 2 rfl ?_;intro bv bw bh bc am;refine Xa (col:=bh) #[.bool false,.slice none (([]:List Int).length) 0,.slice none (([]:List Int).length) 0] 3 zeroValue35 ?_;intro bx bz ad az ab;refine go ?_;refine Wb (col:=ad) [(0,1),(1,1),(2,0),(3,1),(4,1),(5,0),(6,1),(7,1),(8,1),(9,0),(10,1),(11,1),(12,0),(14,0),(16,0),(13,3),(15,3),(17,3),(18,3),(19,3),(20,2)] (by kernel_rfl) (by kernel_rfl)<|xF ⟨_,_,rfl⟩ ?_;refine xF (Ur ⟨_,_,rfl⟩) ?_;replace al:=(al.gr bc).gr az;refine xW (fun _ hC=>((((al.atN).part 0 2 _ rfl)).nth (q:=0) rfl).gr (hC.bl ad)) ?_;refine xF ⟨_,_,rfl⟩ ?_;refine xF (Ur ⟨_,_,rfl⟩) ?_;replace am:=am.gr az;refine xW (fun _ hC=>((((am.atN).part 0 2 _ rfl)).nth (q:=0) rfl).gr (hC.bl ad)) ?_;refine xu rfl rfl (fun _=>Zjm _ _ underlying4 rfl rfl) ?_;refine xF ⟨_,_,rfl⟩ ?_;refine xF (Ur ⟨_,_,rfl⟩) ?_;refine xW (fun _ hC=>((((al.atN).part 0 2 _ rfl)).nth (q:=1) rfl).gr (hC.bl ad)) ?_;refine xF ⟨_,_,rfl⟩ ?_;refine xF (Ur ⟨_,_,rfl⟩) ?_;refine xW (fun _ hC=>((((am.atN).part 0 2 _ rfl)).nth (q:=1) rfl).gr (hC.bl ad)) ?_;refine xv rfl rfl (fun _ hC=>Z3 isAgg35 sizeOf35 (al.gr (hC.bl ad))) ?_;refine xv rfl rfl (fun _ hC=>Z3 isAgg35 sizeOf35 (am.gr (hC.bl ad))) ?_;refine xe rfl rfl ?_;intro b0 hC0;have hC:=hC0.bl ad;obtain ⟨b1,bi,hm⟩:=bZ hm;replace ar:=ar.keep (Zl.start col w0);replace au:=au.keep (Zl.start col w0);replace aa:=(((aa.grow bg).grow bc).grow az).grow hC;refine Zi (Zhp 4 bi (ar.ks aa) (au.ks aa)) ?_;rintro _ b2 ⟨bd,b3,b4,rfl,a0,ac⟩;refine ⟨_,rfl,?_⟩;refine Zm<|Xr bd hC0 a0<|xe rfl rfl ?_;intro b5 hC0;replace ab:=(ab.gr hC).gr a0;have hC:=hC0.bl bd;obtain ⟨b6,bj,hm⟩:=bZ hm;replace ax:=ax.keep (Zl.start col w0);replace aa:=(aa.grow a0).grow hC;refine Zi (U5 5 bj (ar.ks aa) (ax.ks aa)) ?_;rintro _ b7 ⟨be,b8,b9,rfl,av,an⟩;refine ⟨_,rfl,?_⟩;refine Zm<|Xr be hC0 av<|xe rfl rfl ?_;intro ca hC0;replace ac:=(ac.gr hC).gr av;replace ab:=(ab.gr hC).gr av;have hC:=hC0.bl be;obtain ⟨cb,bk,hm⟩:=bZ hm;replace ay:=ay.keep (Zl.start col w0);replace aa:=(aa.grow av).grow hC
 refine Zi (U5 6 bk (au.ks aa) (ay.ks aa)) ?_;rintro _ cc ⟨ao,cd,ce,rfl,ap,a1⟩;refine ⟨_,rfl,?_⟩;refine Zm<|Xr ao hC0 ap<|xe rfl rfl ?_;intro bm hC0;replace ac:=(ac.gr hC).gr ap;replace an:=(an.gr hC).gr ap;replace ab:=(ab.gr hC).gr ap;have hC:=hC0.bl ao;obtain ⟨cf,bn,hm⟩:=bZ hm;replace an:=an.gr hC;replace a1:=a1.gr hC;refine Zi (Zhp 7 bn ((an.toSlF (Ze.int .u32)).froz 6) ((a1.froz 5 (by decide)).toSlF (Ze.int .u32))) ?_;rintro _ cg ⟨bo,ch,ci,rfl,ae,aq⟩;refine ⟨_,rfl,?_⟩;replace aq:=aq.thaw (Zs .u32) ae (((Fz.refl (col:=ao)).froz 5).froz 6) (by decide);replace ae:=ae.thawR (col:=ao);generalize Z1 bm.heap.size ao bo=ak at *;refine Zm<|Xr ak hC0 ae<|xe rfl rfl ?_;intro bp hC0;replace aa:=((aa.grow ap).grow hC).grow ae;replace ac:=(ac.gr hC).gr ae;replace ab:=(ab.gr hC).gr ae;have hC:=hC0.bl ak;obtain ⟨cj,bq,hm⟩:=bZ hm;replace ac:=ac.gr hC;replace aq:=aq.gr hC;refine Zi (Ze1 8 9 bq ((ac.toSlF (Ze.int .u32)).froz 7) ((aq.froz 4 (by decide)).toSlF (Ze.int .u32))) ?_;rintro _ ck ⟨br,cl,cn,co,cp,rfl,af,ag,ah⟩;refine ⟨_,rfl,?_⟩;replace ag:=ag.thaw (Zs .u32) af (((Fz.refl (col:=ak)).froz 4).froz 7) (by decide);replace ah:=ah.thaw (Zs .u32) af (((Fz.refl (col:=ak)).froz 4).froz 7) (by decide);replace af:=af.thawR (col:=ak);generalize Z1 bp.heap.size ak br=aw at *;refine Zm<|Xr aw hC0 af<|xe rfl rfl ?_;intro cq hC0;replace ab:=(ab.gr hC).gr af;replace aa:=(aa.grow hC).grow af;have hC:=hC0.bl aw;replace ab:=ab.gr hC;refine Zu ab ?_;intro cr a2 bs a3;refine Zm<|xk aw<|Yz ?_;replace ag:=(ag.gr hC).kp a2;replace ah:=(ah.gr hC).kp a2;replace aa:=(aa.grow hC).kp a2 bs;intro cs hC;replace hC:=hC.bl aw;refine Wx ?_;cases hm;replace ag:=ag.gr hC;replace ah:=ah.gr hC;replace a3:=a3.gr hC;replace aa:=aa.grow hC;exact ⟨rfl,_,ra a3.atN,_,_,_,_,_,rfl,aa.fin (cm [(8,c1),(9,c2)]),aa.fo ag,aa.fo ah⟩
def Qm (N:Nat) (aa:R3):Option Int:=
  (Zdw N aa.2).bind fun ab=>if (decide (ab=0))=true then (some 0) else (if aa.1=true then (some (-1)) else (some 1))
theorem Zdc {N af:Nat} {ag:Option Addr} {col:Zd} {w0:World} {ab:R3} {r:Int} (hm:Qm N ab=some r) (ae:Sl (Za.int .u32) col w0 ag af ab.2):
    Calls Tryz.prog 44 #[(.agg #[.bool ab.1,.slice ag ab.2.length af])] w0 (fun e w'=>e= .returned ((.int .i64 r))∧Below w0.heap.size w0 w'):=by
 refine Xl 2 (m:=11) func44 rfl rfl rfl rfl rfl ?_;rw [Qm.eq_1] at hm;have aa:=St.start col w0;refine go ?_;refine Xp (col:=(Zk col)) 1 rfl ?_;intro am ai ah aj ac;refine go ?_;refine Xw ac ?_;obtain ⟨an,ak,hm⟩:=bZ hm;replace ae:=ae.keep (Zl.start col w0);replace aa:=aa.grow aj;refine Zi (Zm6 ak (ae.ks aa)) ?_;rintro _ al ⟨rfl,ad⟩;refine ⟨_,rfl,?_⟩;replace ad:Zg ah ai ah al:=.of_below ad;refine go ?_;replace ac:=ac.gr ad;replace aa:=aa.grow ad;refine Zp hm (fun hb hm=>go ?_) fun hb hm=>go ?_
 ·cases hm;exact ⟨rfl,rfl,aa.below⟩
 refine Xw ac ?_;refine go ?_;refine Zp hm (fun hb hm=>go ?_) fun hb hm=>go ?_
 ·cases hm;exact ⟨rfl,rfl,aa.below⟩
 cases hm;exact ⟨rfl,rfl,aa.below⟩
def Zi5 (N:Nat) (aa:R3) (ab:R3):Option Int:=
  (Qm N (aa.1,aa.2)).bind fun ac=>(Qm N (ab.1,ab.2)).bind fun ad=>if (decide (ac<ad))=true then (some (-1)) else (if (decide (ad<ac))=true then (some 1) else ((Zck N aa.2 ab.2).bind fun ae=>some (i64.wrap (ac * ae))))
theorem Zzm {N aj ak:Nat} {al am:Option Addr} {col:Zd} {w0:World} {ad ae:R3} {r:Int} (hm:Zi5 N ad ae=some r) (af:Sl (Za.int .u32) col w0 al aj ad.2) (ag:Sl (Za.int .u32) col w0 am ak ae.2):
    Calls Tryz.prog 57 #[(.agg #[.bool ad.1,.slice al ad.2.length aj]),(.agg #[.bool ae.1,.slice am ae.2.length ak])] w0 (fun e w'=>e= .returned ((.int .i64 r))∧Below w0.heap.size w0 w'):=by
 refine Xl 4 (m:=26) func57 rfl rfl rfl rfl rfl ?_;rw [Zi5.eq_1] at hm;have aa:=St.start col w0;refine go ?_;refine Xp (col:=(Zk col)) 1 rfl ?_;intro az a0 ao ap ac;refine Xp (col:=ao) 2 rfl ?_;intro a1 a2 ab an ah;refine go ?_;refine Vy (col:=ab) (by kernel_rfl) (by kernel_rfl) ?_;replace ac:=ac.gr an;refine qv rfl (fun _ hC=>Z3 isAgg33 sizeOf33 (ac.gr (hC.bl ab))) ?_;obtain ⟨aq,ar,hm⟩:=bZ hm;replace af:=af.keep (Zl.start col w0);replace aa:=(aa.grow ap).grow an;refine qc (v:=(.int .i64 aq)) rfl (fun _ hC=>⟨_,_,Zen call44 rfl,(Zdc ar ((af.ks aa).gr (hC.bl ab)):).mono fun _ _ h=>⟨h.1,hC.trans (.of_below h.2)⟩⟩) ?_;refine qv rfl (fun _ hC=>Z3 isAgg33 sizeOf33 (ah.gr (hC.bl ab))) ?_;obtain ⟨au,av,hm⟩:=bZ hm;replace ag:=ag.keep (Zl.start col w0);refine qc (v:=(.int .i64 au)) rfl (fun _ hC=>⟨_,_,Zen call44 rfl,(Zdc av ((ag.ks aa).gr (hC.bl ab)):).mono fun _ _ h=>⟨h.1,hC.trans (.of_below h.2)⟩⟩) ?_;refine go ?_;refine Wn ?_;intro aw hC;replace hC:=hC.bl ab;refine go ?_;replace ac:=ac.gr hC;replace ah:=ah.gr hC;replace aa:=aa.grow hC;refine Zp hm (fun hb hm=>go ?_) fun hb hm=>go ?_
 ·cases hm;exact ⟨rfl,rfl,aa.below⟩
 refine Zp hm (fun hb hm=>go ?_) fun hb hm=>go ?_
 ·cases hm;exact ⟨rfl,rfl,aa.below⟩
 refine Xw ac<|Xw ah ?_;obtain ⟨a3,ax,hm⟩:=bZ hm;refine Zi (Zka ax (af.ks aa) (ag.ks aa)) ?_;rintro _ ay ⟨rfl,ai⟩;refine ⟨_,rfl,?_⟩;replace ai:Zg ab aw ab ay:=.of_below ai;refine go ?_;cases hm;replace aa:=aa.grow ai;exact ⟨rfl,rfl,aa.below⟩
def Vi (N:Nat) (aa:R0) (ab:R0):Option Int:=
  (V4 N ((ab.1.1,ab.1.2),ab.2)).bind fun ae=>(Q7 N (aa.1.1,aa.1.2) ae).bind fun ac=>(V4 N ((aa.1.1,aa.1.2),aa.2)).bind fun af=>(Q7 N (ab.1.1,ab.1.2) af).bind fun ad=>(Zi5 N (ac.1,ac.2) (ad.1,ad.2)).bind fun ag=>some ag
theorem Sm {N ap a0 aq a1:Nat} {ar a2 au a3:Option Addr} {col:Zd} {w0:World} {ac ad:R0} {r:Int} (hm:Vi N ac ad=some r) (al:Sl (Za.int .u32) col w0 ar ap ac.1.2) (av:Sl (Za.int .u32) col w0 a2 a0 ac.2) (am:Sl (Za.int .u32) col w0 au aq ad.1.2) (aw:Sl (Za.int .u32) col w0 a3 a1 ad.2):
    Calls Tryz.prog 17 #[(.agg #[.bool ac.1.1,.slice ar ac.1.2.length ap,.slice a2 ac.2.length a0]),(.agg #[.bool ad.1.1,.slice au ad.1.2.length aq,.slice a3 ad.2.length a1])] w0 (fun e w'=>e= .returned ((.int .i64 r))∧Below w0.heap.size w0 w'):=by
 refine Xl 4 (m:=16) func17 rfl rfl rfl rfl rfl ?_;rw [Vi.eq_1] at hm;have aa:=St.start col w0;refine go ?_;refine Xp (col:=(Zk col)) 1 rfl ?_;intro bm bn a8 a9 an;refine Xp (col:=a8) 2 rfl ?_;intro bo bp ae a4 a5;refine go ?_;refine Wb (col:=ae) [(0,1),(1,0),(2,0),(5,1),(6,0),(7,0),(3,3),(4,3),(8,3),(9,3),(10,3),(11,1)] (by kernel_rfl) (by kernel_rfl)<|xF ⟨_,_,rfl⟩ ?_;replace an:=an.gr a4;refine xv (v:=(.agg #[.bool ac.1.1,.slice ar ac.1.2.length ap])) rfl rfl (fun _ hC=>Xc isAgg33 sizeOf33 rfl rfl (((an.atN).part 0 2 _ rfl).gr (hC.bl ae))) ?_;refine xv rfl rfl (fun _ hC=>Z3 isAgg35 sizeOf35 (a5.gr (hC.bl ae))) ?_;refine xF ⟨_,_,rfl⟩ ?_;refine xv (v:=(.agg #[.bool ad.1.1,.slice au ad.1.2.length aq])) rfl rfl (fun _ hC=>Xc isAgg33 sizeOf33 rfl rfl (((a5.atN).part 0 2 _ rfl).gr (hC.bl ae))) ?_;refine xv rfl rfl (fun _ hC=>Z3 isAgg35 sizeOf35 (an.gr (hC.bl ae))) ?_;refine xe rfl rfl ?_;intro bq hC0;have hC:=hC0.bl ae;obtain ⟨br,ba,hm⟩:=bZ hm;replace am:=am.keep (Zl.start col w0);replace aw:=aw.keep (Zl.start col w0);replace aa:=((aa.grow a9).grow a4).grow hC;refine Zi (U5 3 ba (am.ks aa) (aw.ks aa)) ?_;rintro _ bs ⟨ah,bt,bu,rfl,a6,ax⟩;refine ⟨_,rfl,?_⟩;refine Zm<|Xr ah hC0 a6<|xe rfl rfl ?_;intro bb hC0;have hC:=hC0.bl ah;obtain ⟨bv,bc,hm⟩:=bZ hm;replace al:=al.keep (Zl.start col w0);replace aa:=(aa.grow a6).grow hC;replace ax:=ax.gr hC;refine Zi (Ze2 4 bc ((al.ks aa).froz 3) (ax.toSlF (Ze.int .u32))) ?_;rintro _ bw ⟨bd,bx,bz,rfl,ai,ab⟩;refine ⟨_,rfl,?_⟩;replace av:=av.keep (Zl.start col w0);replace ab:=ab.thaw (Zs .u32) ai ((Fz.refl (col:=ah)).froz 3) (by decide);replace ai:=ai.thawR (col:=ah);generalize Z1 bb.heap.size ah bd=a7 at *;refine Zm<|Xr a7 hC0 ai<|xe rfl rfl ?_;intro b0 hC0;have hC:=hC0.bl a7;obtain ⟨b1,be,hm⟩:=bZ hm;replace aa:=(aa.grow ai).grow hC;refine Zi (U5 5 be (al.ks aa) (av.ks aa)) ?_;rintro _ b2 ⟨aj,b3,b4,rfl,ay,az⟩;refine ⟨_,rfl,?_⟩;refine Zm<|Xr aj hC0 ay<|xe rfl rfl ?_;intro bf hC0;replace ab:=(ab.gr hC).gr ay;have hC:=hC0.bl aj;obtain ⟨b5,bg,hm⟩:=bZ hm;replace aa:=(aa.grow ay).grow hC;replace az:=az.gr hC
 refine Zi (Ze2 6 bg ((am.ks aa).froz 5) (az.toSlF (Ze.int .u32))) ?_;rintro _ b6 ⟨bh,b7,b8,rfl,af,ak⟩;refine ⟨_,rfl,?_⟩;replace ak:=ak.thaw (Zs .u32) af ((Fz.refl (col:=aj)).froz 5) (by decide);replace af:=af.thawR (col:=aj);generalize Z1 bf.heap.size aj bh=ag at *;refine Zm<|Xr ag hC0 af<|xe rfl rfl ?_;intro bi hC0;replace ab:=(ab.gr hC).gr af;have hC:=hC0.bl ag;obtain ⟨b9,bj,hm⟩:=bZ hm;replace ab:=ab.gr hC;replace ak:=ak.gr hC;refine Zi (Zzm bj ((ab.toSlF (Ze.int .u32)).froz 6) ((ak.froz 4 (by decide)).toSlF (Ze.int .u32))) ?_;rintro _ bk ⟨rfl,ao⟩;refine ⟨_,rfl,?_⟩;replace ao:Zg ag bi ag bk:=.of_below ao;refine Zm<|Xr ag hC0 ao<|xu rfl rfl (fun _=>Zji rfl) ?_;refine Yz ?_;replace aa:=((aa.grow af).grow hC).grow ao;intro ca hC;replace hC:=hC.bl ag;refine Wx ?_;cases hm;replace aa:=aa.grow hC;exact ⟨rfl,rfl,aa.below⟩
def Zca (N:Nat):List R0→Bool→R2→R2→Option R0
  | [],aa,ab,ac=>some ((aa,ab),ac)
  | ad :: af,aa,ab,ac=>(V3 N ((aa,ab),ac) ((ad.1.1,ad.1.2),ad.2)).bind fun ae=>(Zca N af) ae.1.1 ae.1.2 ae.2
termination_by structural x=>x
def Qf (N:Nat) (aa:R7):Option R0:=
  (Zaf N 1).bind fun ab=>Zca N aa false ([]:List Int) ab
theorem Ze0 {N ba:Nat} {a0:Option Addr} {col:Zd} {w0:World} {af:R7} {r:R0} (c1 c2:Nat) (hm:Qf N af=some r) (h0:Sl (Za.pair (Za.pair Za.bool (Za.slice (Za.int .u32))) (Za.slice (Za.int .u32))) col w0 a0 ba af):
    Calls Tryz.prog 23 #[.slice a0 af.length ba] w0 (fun e w'=>∃ (col':Zd) (ra1:Option Addr) (rc2:Nat) (ra4:Option Addr) (rc5:Nat),e= .returned ((.agg #[.bool r.1.1,.slice ra1 r.1.2.length rc2,.slice ra4 r.2.length rc5]))∧Zg col w0 col' w'∧Zb (Za.int .u32) 77 c1 col' w' ra1 rc2 r.1.2∧Zb (Za.int .u32) 77 c2 col' w' ra4 rc5 r.2):=by
 refine Yw (m:=19) func23 rfl rfl rfl ?_;rw [Qf.eq_1] at hm;have aa:=St.start col w0;refine go ?_;refine Xa (col:=(Zk col)) #[.bool false,.slice none (([]:List Int).length) 0,.slice none (([]:List Int).length) 0] 1 zeroValue35 ?_;intro bc cb bd be ab;refine go ?_;obtain ⟨bf,bg,hm⟩:=bZ hm;refine Zi (Ze4 (col:=bd) 2 bg) ?_;rintro _ cc ⟨bh,bi,bj,rfl,bb,aw⟩;refine ⟨_,rfl,?_⟩;refine lV (.agg #[.bool false,.slice none (([]:List Int).length) 0,.slice bi bf.length bj]) (Yi (l:=[_,_]) (qs:=[(0,2),(2,1)]) underlying35 zeroValue35 ⟨rfl,sizeOf33,rfl,sizeOf31,trivial⟩ rfl)<|Xa (col:=bh) #[.bool false,.slice none (([]:List Int).length) 0,.slice none (([]:List Int).length) 0] 3 zeroValue35 ?_;intro bk cd ce ax bm;refine Zu bm ?_;intro cf ay bn ac;refine go ?_;replace aa:=(((aa.grow be).grow bb).grow ax).kp ay bn;replace ab:=((ab.gr bb).gr ax).kp ay;replace aw:=(aw.gr ax).kp ay;refine Z5 [2,3,8,9,1000000] (fun n f ak=>∃ ag an az a1 a2 aq a3 a4 ar ao,n=ao.length∧af.drop an=ao∧Zca N ao az aq ar=some r∧St w0 (Zk col) ag ak∧Zj 35 1 ag ak bc #[.bool false,.slice none (([]:List Int).length) 0,.slice none (([]:List Int).length) 0]∧Zb (Za.int .u32) 77 4 ag ak a1 a2 aq∧Zb (Za.int .u32) 77 2 ag ak a3 a4 ar∧Zj 35 3 ag ak bk #[.bool az,.slice a1 aq.length a2,.slice a3 ar.length a4]∧[10].map f=[.int .i64 an]) af.length ⟨_,0,_,none,0,_,_,_,_,_,rfl,rfl,hm,aa,ab,Zb.nil,aw,ac,rfl⟩ ?_;clear hm;intro n f ak hI;obtain ⟨ag,an,az,a1,a2,aq,a3,a4,ar,ao,hn,hl,hm,aa,ab,al,am,ac,hs⟩:=hI;subst hn;refine .lL [10] hs ?_;replace h0:=h0.keep (Zl.start col w0)
 cases ao with
 | nil=>
  have hk:¬ ((an:Int)<(af.length:Int)):=by have:=List.drop_eq_nil_iff.1 hl;omega
  have hkb:=decide_eq_false hk;rw [Zca.eq_1] at hm;refine go ?_;refine X4 (congrArg Value.bool hkb)<|go ?_;refine lV _ (Z3 isAgg35 sizeOf35 ac)<|Zu ab ?_;intro cg a5 bo bp;refine go ?_;cases hm;replace al:=al.kp a5;replace am:=am.kp a5;replace aa:=aa.kp a5 bo;exact ⟨rfl,_,ra bp.atN,_,_,_,_,_,rfl,aa.fin (cm [(4,c1),(2,c2)]),aa.fo al,aa.fo am⟩
 | cons a6 bq=>
  obtain ⟨a7,br,bs⟩:=Yg hl;have hk:(an:Int)<(af.length:Int):=by omega
  have hkb:=decide_eq_true hk;rw [Zca.eq_2] at hm;refine go ?_;refine X9 (congrArg Value.bool hkb)<|go ?_;refine lI a7 ((h0.ks aa).addr a7) ?_;obtain ⟨_,bt,bu⟩:=(h0.ks aa).atN a7;obtain ⟨_,_,rfl,bv,bw⟩:=We bt;obtain ⟨_,_,rfl,bx,bz⟩:=We bv;obtain ⟨rfl,_⟩:=bx;obtain ⟨⟨b0,b1,rfl,a8⟩,_⟩:=bz;obtain ⟨⟨b2,b3,rfl,a9⟩,_⟩:=bw;refine lV (.agg #[.bool a6.1.1,.slice b0 a6.1.2.length b1,.slice b2 a6.2.length b3]) (Xc isAgg35 sizeOf35 rfl rfl bu)<|Xa (col:=ag) #[.bool false,.slice none (([]:List Int).length) 0,.slice none (([]:List Int).length) 0] 5 zeroValue35 ?_;intro ch ci au ah b4;refine Zu b4 ?_;intro b5 ai b6 b7;refine go ?_;replace ac:=(ac.gr ah).kp ai;refine lV _ (Z3 isAgg35 sizeOf35 ac)<|lV _ (Z3 isAgg35 sizeOf35 b7) ?_;obtain ⟨cj,b8,hm⟩:=bZ hm;replace al:=(al.gr ah).kp ai;replace am:=(am.gr ah).kp ai;replace a8:=(a8.gr ah).kp ai;replace a9:=(a9.gr ah).kp ai;refine Zi (Zam 6 7 b8 ((al.toSlF (Ze.int .u32)).froz 2) ((am.froz 4 (by decide)).toSlF (Ze.int .u32)) ((a8.froz 4).froz 2) ((a9.froz 4).froz 2)) ?_;rintro _ ck ⟨b9,cl,cn,co,cp,rfl,aj,ad,ae⟩;refine ⟨_,rfl,?_⟩;replace ad:=ad.thaw (Zs .u32) aj (((Fz.refl (col:=au)).froz 4).froz 2) (by decide);replace ae:=ae.thaw (Zs .u32) aj (((Fz.refl (col:=au)).froz 4).froz 2) (by decide);replace aj:=aj.thawR (col:=au);generalize Z1 b5.heap.size au b9=cq at *;replace ac:=ac.gr aj;refine Zu ac ?_;intro cr av ca ap;refine go ?_;replace ad:=ad.kp av;replace ad:=ad.recolSelf 4 (by decide);replace ae:=ae.kp av;replace ae:=ae.recol 6 4 (by decide);replace ab:=(((ab.gr ah).kp ai).gr aj).kp av;replace ab:=ab.recol 6 4 (by decide);replace ap:=ap.recol 6 4 (by decide);replace aa:=(((aa.grow ah).kp ai b6).grow aj).kp av ca;replace aa:=aa.recol 6 4 (by decide) (by decide);replace ad:=ad.recol 7 2 (by decide);replace ae:=ae.recolSelf 2 (by decide);replace ab:=ab.recol 7 2 (by decide);replace ap:=ap.recol 7 2 (by decide);replace aa:=aa.recol 7 2 (by decide) (by decide);exact ⟨bq.length,by simp,rfl,⟨_,_,_,_,_,_,_,_,_,_,rfl,br,hm,aa,ab,ad,ae,ap,(Ym (congrArg (Value.int .i64) (Yk (Nat.lt_of_lt_of_le bs (h0.ks aa).1.1))) rfl)⟩⟩
def Zej (N:Nat) (aa:Int):Option R3:=
  if (decide (aa<0))=true then ((Zaf N (u64.wrap (-(u64.wrap aa)))).bind fun ad=>(Tq N true ad).bind fun ab=>some (ab.1,ab.2)) else ((Zaf N (u64.wrap aa)).bind fun ae=>(Tq N false ae).bind fun ac=>some (ac.1,ac.2))
theorem Zng {N:Nat} {col:Zd} {w0:World} {ai:Int} {r:R3} (c1:Nat) (hm:Zej N ai=some r):
    Calls Tryz.prog 56 #[.int .i64 ai] w0 (fun e w'=>∃ (col':Zd) (ra1:Option Addr) (rc2:Nat),e= .returned ((.agg #[.bool r.1,.slice ra1 r.2.length rc2]))∧Zg col w0 col' w'∧Zb (Za.int .u32) 77 c1 col' w' ra1 rc2 r.2):=by
 refine Yw (m:=14) func56 rfl rfl rfl ?_;rw [Zej.eq_1] at hm;have aa:=St.start col w0;refine go ?_;refine Xa (col:=(Zk col)) #[.bool false,.slice none (([]:List Int).length) 0] 1 zeroValue33 ?_;intro a5 a6 aj ao ab;refine go ?_;replace aa:=aa.grow ao;refine Zp hm (fun hb hm=>go ?_) fun hb hm=>go ?_
 ·obtain ⟨a7,ap,hm⟩:=bZ hm;refine Zi (Ze4 (col:=aj) 2 ap) ?_;rintro _ aq ⟨ag,a8,a9,rfl,ak,ar⟩;refine ⟨_,rfl,?_⟩;obtain ⟨ba,au,hm⟩:=bZ hm;refine Zi (Qw 3 au (ar.toSlF (Ze.int .u32))) ?_;rintro _ bb ⟨av,bc,bd,rfl,ac,ad⟩;refine ⟨_,rfl,?_⟩;replace ad:=ad.thaw (Zs .u32) ac ((Fz.refl (col:=ag)).froz 2) (by decide);replace ac:=ac.thawR (col:=ag);generalize Z1 aq.heap.size ag av=be at *;replace ab:=(ab.gr ak).gr ac;refine Zu ab ?_;intro bf al aw ax;refine go ?_;cases hm;replace aa:=((aa.grow ak).grow ac).kp al aw;replace ad:=ad.kp al;exact ⟨rfl,_,ra ax.atN,_,_,_,rfl,aa.fin (cm [(3,c1)]),aa.fo ad⟩
 obtain ⟨bg,ay,hm⟩:=bZ hm;refine Zi (Ze4 (col:=aj) 4 ay) ?_;rintro _ az ⟨ah,bh,bi,rfl,am,a0⟩;refine ⟨_,rfl,?_⟩;obtain ⟨bj,a1,hm⟩:=bZ hm;refine Zi (Qw 5 a1 (a0.toSlF (Ze.int .u32))) ?_;rintro _ bk ⟨a2,bm,bn,rfl,ae,af⟩;refine ⟨_,rfl,?_⟩;replace af:=af.thaw (Zs .u32) ae ((Fz.refl (col:=ah)).froz 4) (by decide);replace ae:=ae.thawR (col:=ah);generalize Z1 az.heap.size ah a2=bo at *;replace ab:=(ab.gr am).gr ae;refine Zu ab ?_;intro bp an a3 a4;refine go ?_;cases hm;replace aa:=((aa.grow am).grow ae).kp an a3;replace af:=af.kp an;exact ⟨rfl,_,ra a4.atN,_,_,_,rfl,aa.fin (cm [(5,c1)]),aa.fo af⟩
def Zh5 (N:Nat) (ac:R3) (aa:R3):Option (R0×Int):=
  (Qm N (aa.1,aa.2)).bind fun ad=>if (decide (ad=0))=true then (some (((false,([]:List Int)),([]:List Int)),11)) else ((Q6 N (!decide (ac.1=aa.1)) ac.2 aa.2).bind fun ab=>some (((ab.1.1,ab.1.2),ab.2),0))
theorem Zye {N an ao:Nat} {ap aq:Option Addr} {col:Zd} {w0:World} {ae af:R3} {r:(R0×Int)} (c1 c2:Nat) (hm:Zh5 N ae af=some r) (ai:Sl (Za.int .u32) col w0 ap an ae.2) (ag:Sl (Za.int .u32) col w0 aq ao af.2):
    Calls Tryz.prog 55 #[(.agg #[.bool ae.1,.slice ap ae.2.length an]),(.agg #[.bool af.1,.slice aq af.2.length ao])] w0 (fun e w'=>∃ (col':Zd) (ra1:Option Addr) (rc2:Nat) (ra4:Option Addr) (rc5:Nat),e= .returned (.tuple #[(.agg #[.bool r.1.1.1,.slice ra1 r.1.1.2.length rc2,.slice ra4 r.1.2.length rc5]),.int .i64 r.2])∧Zg col w0 col' w'∧Zb (Za.int .u32) 77 c1 col' w' ra1 rc2 r.1.1.2∧Zb (Za.int .u32) 77 c2 col' w' ra4 rc5 r.1.2):=by
 refine Yw (m:=20) func55 rfl rfl rfl ?_;rw [Zh5.eq_1] at hm;have aa:=St.start col w0;refine go ?_;refine Xp (col:=(Zk col)) 1 rfl ?_;intro a8 a9 aw ax ah;refine Xp (col:=aw) 2 rfl ?_;intro ba bb ay ar ab;refine Xa (col:=ay) #[.bool false,.slice none (([]:List Int).length) 0,.slice none (([]:List Int).length) 0] 3 zeroValue35 ?_;intro bc az au aj ac;refine go ?_;replace ab:=ab.gr aj;refine lV _ (Z3 isAgg33 sizeOf33 ab) ?_;obtain ⟨bd,a0,hm⟩:=bZ hm;replace ag:=ag.keep (Zl.start col w0);replace aa:=((aa.grow ax).grow ar).grow aj;refine Zi (Zdc a0 (ag.ks aa)) ?_;rintro _ a1 ⟨rfl,ad⟩;refine ⟨_,rfl,?_⟩;replace ad:Zg au az au a1:=.of_below ad;refine go ?_;replace ai:=ai.keep (Zl.start col w0);replace ah:=((ah.gr ar).gr aj).gr ad;replace ab:=ab.gr ad;replace ac:=ac.gr ad;replace aa:=aa.grow ad;refine Zp hm (fun hb hm=>go ?_) fun hb hm=>go ?_
 ·refine lV (.agg #[.bool false,.slice none (([]:List Int).length) 0,.slice none (([]:List Int).length) 0]) (Yi (l:=[_,_]) (qs:=[(0,2),(2,1)]) underlying35 zeroValue35 ⟨rfl,sizeOf33,rfl,sizeOf31,trivial⟩ rfl)<|Zu ac ?_;intro be a2 a3 a4;refine go ?_;cases hm;replace aa:=aa.kp a2 a3;exact ⟨rfl,_,Ts a4.atN,_,none,0,none,0,rfl,aa.fin (cm []),Zb.nil,Zb.nil⟩
 refine Xw ah<|Xw ab ?_;refine go ?_;refine Xw ah<|Xw ab ?_;obtain ⟨bf,a5,hm⟩:=bZ hm;refine Zi (Ze1 4 5 a5 (ai.ks aa) (ag.ks aa)) ?_;rintro _ bg ⟨bh,bi,bj,bk,bm,rfl,av,ak,al⟩;refine ⟨_,rfl,?_⟩;replace ac:=ac.gr av;refine Zu ac ?_;intro bn am a6 a7;refine go ?_;cases hm;replace aa:=(aa.grow av).kp am a6;replace ak:=ak.kp am;replace al:=al.kp am;exact ⟨rfl,_,Ts a7.atN,_,_,_,_,_,rfl,aa.fin (cm [(4,c1),(5,c2)]),aa.fo ak,aa.fo al⟩
def Za0 (N:Nat) (ad:Int) (ae:Int):Option (R0×Int):=
  (Zej N ad).bind fun ab=>(Zej N ae).bind fun ac=>(Zh5 N (ab.1,ab.2) (ac.1,ac.2)).bind fun aa=>some (((aa.1.1.1,aa.1.1.2),aa.1.2),aa.2)
theorem Zm4 {N:Nat} {col:Zd} {w0:World} {ak al:Int} {r:(R0×Int)} (c1 c2:Nat) (hm:Za0 N ak al=some r):
    Calls Tryz.prog 16 #[.int .i64 ak,.int .i64 al] w0 (fun e w'=>∃ (col':Zd) (ra1:Option Addr) (rc2:Nat) (ra4:Option Addr) (rc5:Nat),e= .returned (.tuple #[(.agg #[.bool r.1.1.1,.slice ra1 r.1.1.2.length rc2,.slice ra4 r.1.2.length rc5]),.int .i64 r.2])∧Zg col w0 col' w'∧Zb (Za.int .u32) 77 c1 col' w' ra1 rc2 r.1.1.2∧Zb (Za.int .u32) 77 c2 col' w' ra4 rc5 r.1.2):=by
 refine Yw (m:=13) func16 rfl rfl rfl ?_;rw [Za0.eq_1] at hm;have ab:=St.start col w0;refine go ?_;refine Xa (col:=(Zk col)) #[.bool false,.slice none (([]:List Int).length) 0,.slice none (([]:List Int).length) 0] 1 zeroValue35 ?_;intro a4 a5 an ao ag;refine go ?_;obtain ⟨a6,ap,hm⟩:=bZ hm;refine Zi (Zng (col:=an) 2 ap) ?_;rintro _ a7 ⟨aq,a8,a9,rfl,am,ah⟩;refine ⟨_,rfl,?_⟩;refine Ya rfl ?_;obtain ⟨ba,ar,hm⟩:=bZ hm;refine Zi (Zng (col:=aq) 3 ar) ?_;rintro _ au ⟨ae,bb,bc,rfl,ai,av⟩;refine ⟨_,rfl,?_⟩;obtain ⟨af,aw,hm⟩:=bZ hm;replace ah:=ah.gr ai;refine Zi (Zye 4 5 aw ((ah.toSlF (Ze.int .u32)).froz 3) ((av.froz 2 (by decide)).toSlF (Ze.int .u32))) ?_;rintro _ bd ⟨ax,ay,az,a0,a1,rfl,aa,ac,ad⟩;refine ⟨_,rfl,?_⟩;replace ac:=ac.thaw (Zs .u32) aa (((Fz.refl (col:=ae)).froz 2).froz 3) (by decide);replace ad:=ad.thaw (Zs .u32) aa (((Fz.refl (col:=ae)).froz 2).froz 3) (by decide);replace aa:=aa.thawR (col:=ae);generalize Z1 au.heap.size ae ax=be at *;refine lV (.agg #[.bool af.1.1.1,.slice ay af.1.1.2.length az,.slice a0 af.1.2.length a1]) (Z8 rfl rfl)<|lV (.int .i64 af.2) (Z8 rfl rfl) ?_;replace ag:=((ag.gr am).gr ai).gr aa;refine Zu ag ?_;intro bf aj a2 a3;refine go ?_;cases hm;replace ab:=((((ab.grow ao).grow am).grow ai).grow aa).kp aj a2;replace ac:=ac.kp aj;replace ad:=ad.kp aj;exact ⟨rfl,_,Ts a3.atN,_,_,_,_,_,rfl,ab.fin (cm [(4,c1),(5,c2)]),ab.fo ac,ab.fo ad⟩
def Qe (N:Nat) (aa:R0):Option Int:=
  (Qm N (aa.1.1,aa.1.2)).bind fun ab=>some ab
theorem Zj9 {N ac ag:Nat} {ad ah:Option Addr} {col:Zd} {w0:World} {aa:R0} {r:Int} (hm:Qe N aa=some r) (ae:Sl (Za.int .u32) col w0 ad ac aa.1.2) (ao:Sl (Za.int .u32) col w0 ah ag aa.2):
    Calls Tryz.prog 12 #[(.agg #[.bool aa.1.1,.slice ad aa.1.2.length ac,.slice ah aa.2.length ag])] w0 (fun e w'=>e= .returned ((.int .i64 r))∧Below w0.heap.size w0 w'):=by
 refine Xl 2 (m:=6) func12 rfl rfl rfl rfl rfl ?_;rw [Qe.eq_1] at hm;have ab:=St.start col w0;refine go ?_;refine Xp (col:=(Zk col)) 1 rfl ?_;intro ap aj ai ak al;refine go ?_;refine Xo ⟨_,_,rfl⟩ ?_;refine lV (.agg #[.bool aa.1.1,.slice ad aa.1.2.length ac]) (Xc isAgg33 sizeOf33 rfl rfl ((al.atN).part 0 2 _ rfl)) ?_;obtain ⟨aq,am,hm⟩:=bZ hm;replace ae:=ae.keep (Zl.start col w0);replace ab:=ab.grow ak;refine Zi (Zdc am (ae.ks ab)) ?_;rintro _ an ⟨rfl,af⟩;refine ⟨_,rfl,?_⟩;replace af:Zg ai aj ai an:=.of_below af;refine go ?_;cases hm;replace ab:=ab.grow af;exact ⟨rfl,rfl,ab.below⟩
def Zok (N:Nat) (aa:R0):Option R0:=
  (V4 N ((aa.1.1,aa.1.2),aa.2)).bind fun ac=>(Q6 N (!aa.1.1) aa.1.2 ac).bind fun ab=>some ((ab.1.1,ab.1.2),ab.2)
theorem Zyd {N aq ar:Nat} {au av:Option Addr} {col:Zd} {w0:World} {af r:R0} (c1 c2:Nat) (hm:Zok N af=some r) (aj:Sl (Za.int .u32) col w0 au aq af.1.2) (al:Sl (Za.int .u32) col w0 av ar af.2):
    Calls Tryz.prog 41 #[(.agg #[.bool af.1.1,.slice au af.1.2.length aq,.slice av af.2.length ar])] w0 (fun e w'=>∃ (col':Zd) (ra1:Option Addr) (rc2:Nat) (ra4:Option Addr) (rc5:Nat),e= .returned ((.agg #[.bool r.1.1,.slice ra1 r.1.2.length rc2,.slice ra4 r.2.length rc5]))∧Zg col w0 col' w'∧Zb (Za.int .u32) 77 c1 col' w' ra1 rc2 r.1.2∧Zb (Za.int .u32) 77 c2 col' w' ra4 rc5 r.2):=by
 refine Yw (m:=13) func41 rfl rfl rfl ?_;rw [Zok.eq_1] at hm;have aa:=St.start col w0;refine go ?_;refine Xp (col:=(Zk col)) 1 rfl ?_;intro a4 a5 ax ay ah;refine Xa (col:=ax) #[.bool false,.slice none (([]:List Int).length) 0,.slice none (([]:List Int).length) 0] 2 zeroValue35 ?_;intro a6 a7 ai aw ab;refine go ?_;refine Wb (col:=ai) [(0,1),(1,1),(2,0),(3,1),(4,1),(5,1),(6,0),(7,0),(8,3),(9,3),(10,2)] (by kernel_rfl) (by kernel_rfl)<|xF ⟨_,_,rfl⟩ ?_;refine xF (Ur ⟨_,_,rfl⟩) ?_;replace ah:=ah.gr aw;refine xW (fun _ hC=>((((ah.atN).part 0 2 _ rfl)).nth (q:=0) rfl).gr (hC.bl ai)) ?_;refine xu rfl rfl (fun _=>Zg8 _ rfl) ?_;refine xF ⟨_,_,rfl⟩ ?_;refine xF (Ur ⟨_,_,rfl⟩) ?_;refine xW (fun _ hC=>((((ah.atN).part 0 2 _ rfl)).nth (q:=1) rfl).gr (hC.bl ai)) ?_;refine xv rfl rfl (fun _ hC=>Z3 isAgg35 sizeOf35 (ah.gr (hC.bl ai))) ?_;refine xe rfl rfl ?_;intro a8 hC0;have hC:=hC0.bl ai;obtain ⟨a9,az,hm⟩:=bZ hm;replace aj:=aj.keep (Zl.start col w0);replace al:=al.keep (Zl.start col w0);replace aa:=((aa.grow ay).grow aw).grow hC;refine Zi (U5 3 az (aj.ks aa) (al.ks aa)) ?_;rintro _ ba ⟨ag,bb,bc,rfl,am,an⟩;refine ⟨_,rfl,?_⟩;refine Zm<|Xr ag hC0 am<|xe rfl rfl ?_;intro a0 hC0;replace ab:=(ab.gr hC).gr am;have hC:=hC0.bl ag;obtain ⟨bd,a1,hm⟩:=bZ hm;replace aa:=(aa.grow am).grow hC;replace an:=an.gr hC;refine Zi (Ze1 4 5 a1 ((aj.ks aa).froz 3) (an.toSlF (Ze.int .u32))) ?_;rintro _ be ⟨a2,bf,bg,bh,bi,rfl,ac,ad,ae⟩;refine ⟨_,rfl,?_⟩;replace ad:=ad.thaw (Zs .u32) ac ((Fz.refl (col:=ag)).froz 3) (by decide);replace ae:=ae.thaw (Zs .u32) ac ((Fz.refl (col:=ag)).froz 3) (by decide);replace ac:=ac.thawR (col:=ag);generalize Z1 a0.heap.size ag a2=ak at *;refine Zm<|Xr ak hC0 ac<|xe rfl rfl ?_;intro bj hC0;replace ab:=(ab.gr hC).gr ac;have hC:=hC0.bl ak;replace ab:=ab.gr hC;refine Zu ab ?_;intro bk ao a3 ap;refine Zm<|xk ak<|Yz ?_;replace aa:=((aa.grow ac).grow hC).kp ao a3;replace ad:=(ad.gr hC).kp ao;replace ae:=(ae.gr hC).kp ao;intro bm hC;replace hC:=hC.bl ak;refine Wx ?_;cases hm;replace ad:=ad.gr hC;replace ae:=ae.gr hC;replace ap:=ap.gr hC;replace aa:=aa.grow hC;exact ⟨rfl,_,ra ap.atN,_,_,_,_,_,rfl,aa.fin (cm [(4,c1),(5,c2)]),aa.fo ad,aa.fo ae⟩
def Zot (N:Nat) (aa:R3):Option R3:=
  (Tq N (!aa.1) aa.2).bind fun ab=>some (ab.1,ab.2)
theorem Zzp {N ag:Nat} {ah:Option Addr} {col:Zd} {w0:World} {ab r:R3} (c1:Nat) (hm:Zot N ab=some r) (ad:Sl (Za.int .u32) col w0 ah ag ab.2):
    Calls Tryz.prog 39 #[(.agg #[.bool ab.1,.slice ah ab.2.length ag])] w0 (fun e w'=>∃ (col':Zd) (ra1:Option Addr) (rc2:Nat),e= .returned ((.agg #[.bool r.1,.slice ra1 r.2.length rc2]))∧Zg col w0 col' w'∧Zb (Za.int .u32) 77 c1 col' w' ra1 rc2 r.2):=by
 refine Yw (m:=9) func39 rfl rfl rfl ?_;rw [Zot.eq_1] at hm;have aa:=St.start col w0;refine go ?_;refine Xp (col:=(Zk col)) 1 rfl ?_;intro aq ar al am ac;refine Xa (col:=al) #[.bool false,.slice none (([]:List Int).length) 0] 2 zeroValue33 ?_;intro au av aw ai ae;refine go ?_;refine Xo ⟨_,_,rfl⟩ ?_;replace ac:=ac.gr ai;refine lW ((ac.atN).nth (q:=0) rfl)<|go ?_;refine Xw ac ?_;obtain ⟨ax,an,hm⟩:=bZ hm;replace ad:=ad.keep (Zl.start col w0);replace aa:=(aa.grow am).grow ai;refine Zi (Qw 3 an (ad.ks aa)) ?_;rintro _ ay ⟨az,a0,a1,rfl,aj,af⟩;refine ⟨_,rfl,?_⟩;replace ae:=ae.gr aj;refine Zu ae ?_;intro a2 ak ao ap;refine go ?_;cases hm;replace aa:=(aa.grow aj).kp ak ao;replace af:=af.kp ak;exact ⟨rfl,_,ra ap.atN,_,_,_,rfl,aa.fin (cm [(3,c1)]),aa.fo af⟩
theorem Zes {N k:Nat} {neg:Bool} {m:List Int} (hm:Zo m) (hk:m.length≤k) (hr:Xj N k):Tq N neg m=some (X2 (Zx (neg,m))):=by
 obtain ⟨r1,r2⟩:=hr
 rw [Tq,Zo7 hm (by omega) (by omega),Option.bind_some,Zi9]
 have e:decide (0<((Zf (Zc m)).length:Int))=decide (Zc m≠0):=by
  by_cases h:Zc m=0
  ·rw [h,W8];decide
  ·have:=Sq h
   rw [decide_eq_true (by omega),decide_eq_true h]
 cases neg
 ·rw [if_neg (by decide),Zg2,Bool.false_and]
 ·rw [if_pos rfl,Zg2,e,Bool.true_and]
theorem Z4h {N k:Nat} {a:ZV} (hm:Zo a.2) (hk:a.2.length≤k) (hr:Xj N k):Zi7 N a=some (X2 (Zx a)):=by
 rw [Zi7,Zes hm hk hr];rfl
theorem Zmt {N k:Nat} {a:ZV} (hm:Zo a.2) (hk:a.2.length≤k) (hr:Xj N k):Qm N a=some (Zx a).sign:=by
 obtain ⟨r1,r2⟩:=hr
 rw [Qm,Zxt hm (by omega) (by omega),Option.bind_some,Zx]
 by_cases h:Zc a.2=0
 ·rw [h,Zew,if_pos (by decide)];simp
 ·have h1:Xe (Zc a.2)≠0:=by rw [Xe,if_neg h];omega
  rw [if_neg (by rw [decide_eq_false (by omega)];decide)]
  by_cases h2:a.1=true
  ·rw [if_pos h2,if_pos h2,Int.sign_eq_neg_one_of_neg (by omega)]
  ·rw [if_neg h2,if_neg h2,Int.sign_eq_one_of_pos (by omega)]
theorem Zqf {a b:ZV}:(a.1=b.1→Zx (a.1,Zf (Zc a.2+Zc b.2))=Zx a+Zx b)∧(a.1≠b.1→(Zc b.2≤Zc a.2→Zx (a.1,Zf (Zc a.2 - Zc b.2))=Zx a+Zx b)∧(Zc a.2<Zc b.2→Zx (b.1,Zf (Zc b.2 - Zc a.2))=Zx a+Zx b)):=by
 obtain ⟨s,x⟩:=a
 obtain ⟨t,y⟩:=b
 simp only [Zx,Z9]
 cases s <;> cases t <;> simp <;> (try constructor) <;> intros <;> omega
theorem Zxd {N k l:Nat} {a b:ZV} (ha:Zo a.2) (hb:Zo b.2) (hk:a.2.length≤k) (hl:b.2.length≤l) (hr:Xj N (k+l+1)):Zei N a b=some (X2 (Zx a+Zx b)):=by
 have hr':=hr
 obtain ⟨r1,r2⟩:=hr'
 have la:=Y2 ha
 have lb:=Y2 hb
 have lsum:(Zf (Zc a.2+Zc b.2)).length≤k+l+1:=Zkq (by omega) (by omega)
 have ls1:(Zf (Zc a.2 - Zc b.2)).length≤k+l+1:=by have:=Vr (Nat.sub_le (Zc a.2) (Zc b.2));omega
 have ls2:(Zf (Zc b.2 - Zc a.2)).length≤k+l+1:=by have:=Vr (Nat.sub_le (Zc b.2) (Zc a.2));omega
 rw [Zei]
 by_cases h:a.1=b.1
 ·rw [if_pos (decide_eq_true h),Zxm ha hb (by omega) (by omega) (by omega) (by omega),Option.bind_some,Zes (Xg _) lsum hr,Option.bind_some,Zqf.1 h]
 ·rw [if_neg (by rw [decide_eq_false h];decide),Zww ha hb (by omega) (by omega) (by omega) (by omega),Option.bind_some]
  by_cases hlt:Zc a.2<Zc b.2
  ·rw [if_pos hlt,if_neg (by decide),Zww hb ha (by omega) (by omega) (by omega) (by omega),Option.bind_some,if_neg (by omega),Zes (Xg _) ls2 hr,Option.bind_some,(Zqf.2 h).2 hlt]
  ·rw [if_neg hlt,if_pos rfl,Zes (Xg _) ls1 hr,Option.bind_some,(Zqf.2 h).1 (by omega)]
theorem Z4n (b:ZV):Zx (!b.1,b.2)= -Zx b:=by
 obtain ⟨s,x⟩:=b
 cases s <;> simp [Zx]
theorem Z4k {N k l:Nat} {a b:ZV} (ha:Zo a.2) (hb:Zo b.2) (hk:a.2.length≤k) (hl:b.2.length≤l) (hr:Xj N (k+l+1)):Zg1 N a b=some (X2 (Zx a - Zx b)):=by
 rw [Zg1,Zxd (a:=(a.1,a.2)) (b:=(!b.1,b.2)) ha hb hk hl hr,Option.bind_some,Z4n,Int.sub_eq_add_neg]
theorem Zxi (a b:ZV):Zx (!decide (a.1=b.1),Zf (Zc a.2 * Zc b.2))=Zx a * Zx b:=by
 obtain ⟨s,x⟩:=a
 obtain ⟨t,y⟩:=b
 simp only [Zx,Z9]
 cases s <;> cases t <;> simp [Int.natCast_mul,Int.neg_mul,Int.mul_neg]
theorem Z4g {N k l:Nat} {a b:ZV} (ha:Zo a.2) (hb:Zo b.2) (hk:a.2.length≤k) (hl:b.2.length≤l) (hr:Xj N (k+l)):Zi6 N a b=some (X2 (Zx a * Zx b)):=by
 have hr':=hr
 obtain ⟨r1,r2⟩:=hr'
 have la:=Y2 ha
 have lb:=Y2 hb
 have:=T3 (Zc a.2) (Zc b.2)
 rw [Zi6,Zo3 ha hb (by omega) (by omega),Option.bind_some,Zes (k:=k+l) (Xg _) (by omega) hr,Option.bind_some,Zxi]
theorem Z4m (a b:ZV):(if (Zx a).sign<(Zx b).sign then -1 else if (Zx b).sign<(Zx a).sign then 1 else (Zx a).sign * (if Zc a.2<Zc b.2 then -1 else if Zc b.2<Zc a.2 then 1 else 0))=Zc8 (Zx a) (Zx b):=by
 obtain ⟨s,x⟩:=a
 obtain ⟨t,y⟩:=b
 have key:∀ z:Int,z.sign=if z<0 then -1 else if 0<z then 1 else 0:=fun z=>(Zqg z).symm
 rw [key,key]
 unfold Zc8
 simp only [Zx]
 generalize Zc x=X
 generalize Zc y=Y
 cases s <;> cases t <;> simp only [if_true,Bool.false_eq_true,if_false] <;> (repeat' split) <;> omega
theorem Z4e {N k l:Nat} {a b:ZV} (ha:Zo a.2) (hb:Zo b.2) (hk:a.2.length≤k) (hl:b.2.length≤l) (hr:Xj N (k+l)):Zi5 N a b=some (Zc8 (Zx a) (Zx b)):=by
 have hr':=hr
 obtain ⟨r1,r2⟩:=hr'
 have sa:-1≤(Zx a).sign∧(Zx a).sign≤1:=by rw [← Zqg];unfold Zc8;(repeat' split) <;> omega
 rw [Zi5,Zmt ha hk (hr.mono (by omega)),Option.bind_some,Zmt hb hl (hr.mono (by omega)),Option.bind_some,← Z4m a b]
 by_cases h1:(Zx a).sign<(Zx b).sign
 ·rw [if_pos (decide_eq_true h1),if_pos h1]
 ·rw [if_neg (by rw [decide_eq_false h1];decide),if_neg h1]
  by_cases h2:(Zx b).sign<(Zx a).sign
  ·rw [if_pos (decide_eq_true h2),if_pos h2]
  ·rw [if_neg (by rw [decide_eq_false h2];decide),if_neg h2,Znl ha hb (by omega) (by omega) (by omega) (by omega),Option.bind_some]
   congr 1
   refine Z4 ?_
   have:(Zx a).sign= -1∨(Zx a).sign=0∨(Zx a).sign=1:=by omega
   rcases this with h | h | h <;> rw [h] <;> (repeat' split) <;> decide
theorem Zxf {N:Nat} {z:Int} (h:-9223372036854775808≤z∧z≤9223372036854775807) (hr:Xj N 2):Zej N z=some (X2 z):=by
 have hr':=hr
 obtain ⟨r1,r2⟩:=hr'
 have l2:∀ n:Nat,n<18446744073709551616→(Zf n).length≤2:=fun n hn=>Wt.2 (by simpa using hn)
 rw [Zej]
 by_cases hz:z<0
 ·have e:u64.wrap (-u64.wrap z)= -z:=by rw [IntKind.wrap_u64,IntKind.wrap_u64];omega
  rw [if_pos (decide_eq_true hz),e,Zja (by omega) (by omega),Option.bind_some,Zes (Xg _) (l2 _ (by omega)) hr,Option.bind_some]
  have e2:Zx (true,Zf (-z).toNat)=z:=by simp only [Zx,Z9,if_true];omega
  rw [e2]
 ·rw [if_neg (by rw [decide_eq_false hz];decide),Xn (by omega),Zja (by omega) (by omega),Option.bind_some,Zes (Xg _) (l2 _ (by omega)) hr,Option.bind_some]
  have e2:Zx (false,Zf z.toNat)=z:=by simp only [Zx,Z9];simp;omega
  rw [e2]
theorem Zc6 {N k:Nat} {a:QV} (ha:RV k a) (hr:Xj N k):V4 N a=some (Zf (Yr a.2)):=by
 obtain ⟨r1,r2⟩:=hr
 have:=ha.ld
 rw [V4,Zo7 ha.d (by omega) (by omega),Option.bind_some,Yr]
 by_cases h:Zc a.2=0
 ·rw [h,W8,if_neg (by decide),if_pos rfl,Zja (by decide) (by omega)];rfl
 ·have:=Sq h
  rw [if_pos (decide_eq_true (by omega)),if_neg h]
theorem Zav {k:Nat} {a:QV} (ha:RV k a):(Zf (Yr a.2)).length≤k+1:=by
 have h1:=Y2 ha.d
 have h2:=ha.ld
 rw [Yr]
 split
 ·rw [T5];simp
 ·omega
theorem Zg6 {N k l n:Nat} {a:ZV} (ha:Zo a.2) (hk:a.2.length≤k) (hl:(Zf n).length≤l) (hr:Xj N (k+l)):Q7 N a (Zf n)=some (X2 (Zx a * n)):=by
 rw [Q7,Z4g (a:=(a.1,a.2)) (b:=(false,Zf n)) ha (Xg _) hk hl hr,Option.bind_some]
 have e:Zx (false,Zf n)=n:=by simp [Zx,Z9]
 rw [e]
theorem Zkt {N k l:Nat} {neg:Bool} {num den:List Int} (hn:Zo num) (hd:Zo den) (h0:Zc den≠0) (hk:num.length≤k) (hl:den.length≤l) (hr:Xj N (k+l)):
  Q6 N neg num den=some (Zq (mkRat (Zx (neg,num)) (Zc den))):=by
 have hr':=hr
 obtain ⟨r1,r2⟩:=hr'
 have l1:=Y2 hn
 have l2:=Y2 hd
 have hg:Nat.gcd (Zc num) (Zc den)≠0:=fun h=>h0 (Nat.gcd_eq_zero_iff.1 h).2
 have lg:(Zf (Nat.gcd (Zc num) (Zc den))).length≤den.length:=Nat.le_trans (Vr (Nat.gcd_le_right _ (by omega))) l2
 have lq:=Vr (Nat.div_le_self (Zc num) (Nat.gcd (Zc num) (Zc den)))
 rw [Q6,Z04 hn hd (by omega) (by omega),Option.bind_some,Zkh hn (Xg _) (by omega) (by omega),Option.bind_some,Zkh hd (Xg _) (by omega) (by omega),Option.bind_some,Z9,if_neg hg,if_neg hg,
  Z4h (k:=k) (a:=(neg,Zf (Zc num / Nat.gcd (Zc num) (Zc den)))) (Xg _) (by simp only;omega) (hr.mono (by omega)),Option.bind_some,Zuk h0,Zi9,Z9]
theorem Zny {N k:Nat} {a:QV} (ha:RV k a) (hr:Xj N k):Qe N a=some (Qo (Zv a)):=by
 rw [Qe,Zmt (a:=(a.1.1,a.1.2)) ha.m ha.lm hr,Option.bind_some,Z2y]
theorem Zkr (z:Int):(X2 z).2=Zf z.natAbs:=rfl
theorem Zfe {k l n:Nat} {a:ZV} (ha:Zo a.2) (hk:a.2.length≤k) (hl:(Zf n).length≤l):(X2 (Zx a * n)).2.length≤k+l:=by
 rw [Zkr,Int.natAbs_mul,Int.natAbs_natCast,Zjv]
 have h1:=T3 (Zc a.2) n
 have h2:=Y2 ha
 omega
theorem Zbz {N k l:Nat} {a b:QV} (ha:RV k a) (hb:RV l b) (hr:Xj N (2 * (k+l+2))):Vi N a b=some (Vj (Zv a) (Zv b)):=by
 have da:=Zav ha
 have db:=Zav hb
 have o1:=Zfe (n:=Yr b.2) ha.m ha.lm db
 have o2:=Zfe (n:=Yr a.2) hb.m hb.lm da
 rw [Vi,Zc6 hb (hr.mono (by omega)),Option.bind_some,Zg6 (k:=k) (l:=l+1) ha.m ha.lm db (hr.mono (by omega)),Option.bind_some,Zc6 ha (hr.mono (by omega)),Option.bind_some,Zg6 (k:=l) (l:=k+1) hb.m hb.lm da (hr.mono (by omega)),Option.bind_some,
  Z4e (a:=X2 _) (b:=X2 _) (T4 _) (T4 _) o1 o2 (hr.mono (by omega)),Option.bind_some,Tv,Tv,Zv,Zv,Zvb (Sp _) (Sp _)]
theorem Znp {N k l:Nat} {a b:QV} (ha:RV k a) (hb:RV l b) (hr:Xj N (k+l+2)):Zad N (Zf (Yr a.2)) (Zf (Yr b.2))=some (Zf (Yr a.2 * Yr b.2))∧(Zf (Yr a.2 * Yr b.2)).length≤k+l+2∧Yr a.2 * Yr b.2≠0:=by
 have da:=Zav ha
 have db:=Zav hb
 have hr':=hr
 obtain ⟨r1,r2⟩:=hr'
 have:=T3 (Yr a.2) (Yr b.2)
 refine ⟨by rw [Zo3 (Xg _) (Xg _) (by omega) (by omega),Z9,Z9],by omega,Nat.mul_ne_zero (Sp _) (Sp _)⟩
theorem Zwy {x y:Int} {k:Nat} (hx:(X2 x).2.length≤k) (hy:(X2 y).2.length≤k):(X2 (x+y)).2.length≤k+1:=by
 rw [Zkr] at *
 exact Nat.le_trans (Vr (Int.natAbs_add_le _ _)) (Zkq hx hy)
theorem Z38 {x y:Int} {k:Nat} (hx:(X2 x).2.length≤k) (hy:(X2 y).2.length≤k):(X2 (x - y)).2.length≤k+1:=by
 rw [Int.sub_eq_add_neg]
 refine Zwy hx ?_
 rw [Zkr,Int.natAbs_neg];exact hy
theorem Zul (z:Int):((X2 z).1,(X2 z).2)=X2 z:=rfl
theorem Ze8 {N k l:Nat} {a b:QV} (ha:RV k a) (hb:RV l b) (hr:Xj N (2 * (k+l+3))):V3 N a b=some (Zq (Zv a+Zv b)):=by
 have da:=Zav ha
 have db:=Zav hb
 have o1:=Zfe (n:=Yr b.2) ha.m ha.lm db
 have o2:=Zfe (n:=Yr a.2) hb.m hb.lm da
 obtain ⟨m1,m2,m3⟩:=Znp ha hb (hr.mono (by omega))
 have sl:=Zwy (k:=k+l+1) (by omega) (Nat.le_trans o2 (by omega))
 rw [V3,Zc6 hb (hr.mono (by omega)),Option.bind_some,Zg6 (k:=k) (l:=l+1) ha.m ha.lm db (hr.mono (by omega)),Option.bind_some,Zc6 ha (hr.mono (by omega)),Option.bind_some,Zg6 (k:=l) (l:=k+1) hb.m hb.lm da (hr.mono (by omega)),Option.bind_some,
  Zxd (a:=X2 _) (b:=X2 _) (T4 _) (T4 _) o1 o2 (hr.mono (by omega)),Option.bind_some,Tv,Tv,Option.bind_some,Option.bind_some,m1,Option.bind_some,
  Zkt (T4 _) (Xg _) (by rw [Z9];exact m3) sl m2 (hr.mono (by omega)),Option.bind_some,Zul,Tv,Z9,Zv,Zv,Rat.mkRat_add_mkRat _ _ (Sp _) (Sp _)]
theorem Z14 (n₁ n₂:Int) {d₁ d₂:Nat} (z₁:d₁≠0) (z₂:d₂≠0):mkRat n₁ d₁ - mkRat n₂ d₂=mkRat (n₁ * d₂ - n₂ * d₁) (d₁ * d₂):=by
 rw [Rat.sub_eq_add_neg,Rat.neg_mkRat,Rat.mkRat_add_mkRat _ _ z₁ z₂,Int.neg_mul,Int.sub_eq_add_neg]
theorem Znz {N k l:Nat} {a b:QV} (ha:RV k a) (hb:RV l b) (hr:Xj N (2 * (k+l+3))):T6 N a b=some (Zq (Zv a - Zv b)):=by
 have da:=Zav ha
 have db:=Zav hb
 have o1:=Zfe (n:=Yr b.2) ha.m ha.lm db
 have o2:=Zfe (n:=Yr a.2) hb.m hb.lm da
 obtain ⟨m1,m2,m3⟩:=Znp ha hb (hr.mono (by omega))
 have sl:=Z38 (k:=k+l+1) (by omega) (Nat.le_trans o2 (by omega))
 rw [T6,Zc6 hb (hr.mono (by omega)),Option.bind_some,Zg6 (k:=k) (l:=l+1) ha.m ha.lm db (hr.mono (by omega)),Option.bind_some,Zc6 ha (hr.mono (by omega)),Option.bind_some,Zg6 (k:=l) (l:=k+1) hb.m hb.lm da (hr.mono (by omega)),Option.bind_some,
  Z4k (a:=X2 _) (b:=X2 _) (T4 _) (T4 _) o1 o2 (hr.mono (by omega)),Option.bind_some,Tv,Tv,Option.bind_some,Option.bind_some,m1,Option.bind_some,
  Zkt (T4 _) (Xg _) (by rw [Z9];exact m3) sl m2 (hr.mono (by omega)),Option.bind_some,Zul,Tv,Z9,Zv,Zv,Z14 _ _ (Sp _) (Sp _)]
theorem Zkk {N k l:Nat} {a b:QV} (ha:RV k a) (hb:RV l b) (hr:Xj N (2 * (k+l+3))):Ul N a b=some (Zq (Zv a * Zv b)):=by
 have hr':=hr
 obtain ⟨r1,r2⟩:=hr'
 have h1:=ha.lm
 have h2:=hb.lm
 have la:=Y2 ha.m
 have lb:=Y2 hb.m
 have lm:=T3 (Zc a.1.2) (Zc b.1.2)
 obtain ⟨m1,m2,m3⟩:=Znp ha hb (hr.mono (by omega))
 rw [Ul,Zo3 ha.m hb.m (by omega) (by omega),Option.bind_some,Zc6 ha (hr.mono (by omega)),Option.bind_some,Zc6 hb (hr.mono (by omega)),Option.bind_some,m1,Option.bind_some,
  Zkt (k:=k+l) (Xg _) (Xg _) (by rw [Z9];exact m3) (by omega) m2 (hr.mono (by omega)),Option.bind_some,Zxi,Z9,Zv,Zv,Rat.mkRat_mul_mkRat]
theorem Zt7 (n₁:Int) (d₁:Nat) (b:ZV) (d₂:Nat) (s:Bool) (x:List Int) (h:n₁=Zx (s,x)) (hb:Zc b.2≠0):mkRat n₁ d₁ / mkRat (Zx b) d₂=mkRat (Zx (!decide (s=b.1),Zf (Zc x * d₂))) (d₁ * Zc b.2):=by
 have e1:mkRat (Zx b) d₂=(Zx b:Rat) / (d₂:Rat):=Rat.mkRat_eq_div _ _
 have hz:(Zx b:Rat)=(if b.1=true then -1 else 1) * (Zc b.2:Rat):=by
  rw [Zx];split
  ·rw [Rat.intCast_neg,Rat.neg_mul,Rat.one_mul];rfl
  ·rw [Rat.one_mul];rfl
 have hn:(Zx (!decide (s=b.1),Zf (Zc x * d₂)):Rat)=(if b.1=true then -1 else 1) * (n₁:Rat) * (d₂:Rat):=by
  subst h
  have:Zx (!decide (s=b.1),Zf (Zc x * d₂))=(if b.1=true then -1 else 1) * Zx (s,x) * (d₂:Int):=by
   obtain ⟨t,y⟩:=b
   simp only [Zx,Z9]
   cases s <;> cases t <;> simp [Int.natCast_mul,Int.neg_mul]
  rw [this,Rat.intCast_mul,Rat.intCast_mul]
  congr 2
  split <;> rfl
 have hbr:(Zc b.2:Rat)≠0:=fun h=>hb (Rat.natCast_eq_zero_iff.1 h)
 rw [Rat.mkRat_eq_div,e1,Rat.mkRat_eq_div,hn,hz,Rat.natCast_mul]
 have hs:(if b.1=true then (-1:Rat) else 1) * (if b.1=true then (-1:Rat) else 1)=1:=by split <;> grind
 generalize (if b.1=true then (-1:Rat) else 1)=sg at *
 generalize (n₁:Rat)=p
 generalize (d₁:Rat)=q
 generalize (d₂:Rat)=r
 generalize (Zc b.2:Rat)=m at *
 have hsg:sg≠0:=fun h=>by rw [h] at hs;grind
 have hinv:sg⁻¹=sg:=Rat.inv_eq_of_mul_eq_one hs
 simp only [Rat.div_def,Rat.inv_mul_rev,Rat.inv_inv,hinv]
 grind
theorem Z01 {N k l:Nat} {a b:ZV} (ha:Zo a.2) (hb:Zo b.2) (hk:a.2.length≤k) (hl:b.2.length≤l) (hr:Xj N (k+l)):Zh5 N a b=some (if Zx b=0 then (((false,[]),[]),11) else (Zq ((Zx a:Rat) / (Zx b:Rat)),0)):=by
 rw [Zh5,Zmt (a:=(b.1,b.2)) hb hl (hr.mono (by omega)),Option.bind_some]
 by_cases h0:Zx b=0
 ·rw [if_pos h0,h0,if_pos (by decide)]
 ·have hb0:Zc b.2≠0:=fun h=>h0 (by have:=Zjv b;omega)
  have e:=Zt7 (Zx a) 1 b 1 a.1 a.2 rfl hb0
  have hs:¬ (Zx b).sign=0:=fun h=>h0 (Int.sign_eq_zero_iff_zero.1 h)
  rw [if_neg (by rw [decide_eq_false hs];decide),if_neg h0,Zkt ha hb hb0 hk hl hr,Option.bind_some]
  rw [Rat.mkRat_eq_div,Rat.mkRat_eq_div] at e
  have e1:(Zx a:Rat) / ((1:Nat):Rat) / ((Zx b:Rat) / ((1:Nat):Rat))=(Zx a:Rat) / (Zx b:Rat):=by
   have h1:((1:Nat):Rat)=1:=rfl
   have h2:(1:Rat)⁻¹=1:=Rat.inv_eq_of_mul_eq_one (by grind)
   simp only [h1,Rat.div_def,h2,Rat.mul_one]
  rw [e1,Nat.one_mul,Nat.mul_one] at e
  rw [e]
  have e2:Zx (!decide (a.1=b.1),Zf (Zc a.2))=Zx (!decide (a.1=b.1),a.2):=by simp only [Zx,Z9]
  rw [e2]
theorem Znv {N:Nat} {a b:Int} (h:-9223372036854775808≤a∧a≤9223372036854775807) (g:-9223372036854775808≤b∧b≤9223372036854775807) (hr:Xj N 4):Za0 N a b=some (if b=0 then (((false,[]),[]),11) else (Zq ((a:Rat) / (b:Rat)),0)):=by
 have l2:∀ z:Int,-9223372036854775808≤z∧z≤9223372036854775807→(X2 z).2.length≤2:=fun z hz=>Wt.2 (by simp;omega)
 rw [Za0,Zxf h (hr.mono (by omega)),Option.bind_some,Zxf g (hr.mono (by omega)),Option.bind_some,Z01 (a:=X2 a) (b:=X2 b) (T4 _) (T4 _) (l2 _ h) (l2 _ g) hr,Option.bind_some,Tv,Tv]
def Yy (l:List QV):Rat:=(l.map Zv).sum
def Yb:List QV→Nat
 | []=>0
 | a :: l=>max a.1.2.length a.2.length+2+Yb l
theorem Zc4 {a:QV} (hm:Zo a.1.2) (hd:Zo a.2):RV (max a.1.2.length a.2.length) a:=⟨hm,hd,Nat.le_max_left _ _,Nat.le_max_right _ _⟩
def Vg (a:QV):Prop:=Zo a.1.2∧Zo a.2
theorem Zl7 {a:QV} (h:Vg a):qs (Zv a)≤max a.1.2.length a.2.length+1:=by
 have:=Zvh (Zc4 h.1 h.2)
 omega
theorem Zsr {N:Nat}:∀ (l:List QV) (q:Rat),(∀ a ∈ l,Vg a)→Xj N (4 * (qs q+Yb l+3))→Zca N l (Zq q).1.1 (Zq q).1.2 (Zq q).2=some (Zq (q+Yy l))∧qs (q+Yy l)≤qs q+Yb l
 | [],q,_,_=>by
  rw [Zca.eq_1,Yy]
  simp only [List.map_nil,List.sum_nil,Rat.add_zero,Yb]
  exact ⟨trivial,by omega⟩
 | a :: l,q,hl,hr=>by
  have ha:=hl a List.mem_cons_self
  have hs:=Zl7 ha
  rw [Yb] at hr ⊢
  rw [Zca.eq_2,Ze8 (k:=qs q) (l:=max a.1.2.length a.2.length) (Zwf q) (Zc4 ha.1 ha.2) (hr.mono (by omega)),Option.bind_some]
  have e:Zv ((((Zq q).1.1,(Zq q).1.2),(Zq q).2):QV)=q:=Yx q
  have e2:Zv (((a.1.1,a.1.2),a.2):QV)=Zv a:=rfl
  have h1:=Zpi q (Zv a)
  obtain ⟨h2,h3⟩:=Zsr l (q+Zv a) (fun x hx=>hl x (List.mem_cons_of_mem _ hx)) (hr.mono (by omega))
  rw [e,e2,h2]
  have e3:q+Zv a+Yy l=q+Yy (a :: l):=by rw [Yy,Yy,List.map_cons,List.sum_cons,Rat.add_assoc]
  rw [e3] at h3 ⊢
  exact ⟨rfl,by omega⟩
theorem Zss {N:Nat} {l:List QV} (hl:∀ a ∈ l,Vg a) (hr:Xj N (4 * (Yb l+4))):Qf N l=some (Zq (Yy l))∧qs (Yy l)≤Yb l+1:=by
 have hr':=hr
 obtain ⟨r1,r2⟩:=hr'
 obtain ⟨h1,h2⟩:=Zsr (N:=N) l 0 hl (hr.mono (by rw [Zpk];omega))
 rw [Rat.zero_add] at h1 h2
 rw [Zpk] at h2
 have e:Zq 0=((false,[]),[1]):=by
  rw [Zq,X2]
  simp only [Rat.zero_num,Rat.zero_den,Int.natAbs_zero,W8,T5]
  rfl
 rw [e] at h1
 refine ⟨?_,by omega⟩
 rw [Qf,Zja (by decide) (by omega),Option.bind_some,← h1]
 rw [show (1:Int).toNat=1 from rfl,T5]
def Bd (D M:Nat) (q:Rat):Prop:=∃ z:Int,q=mkRat z D∧z.natAbs≤M * D
theorem Bd.qs {D M:Nat} {q:Rat} (h:Bd D M q) (hD:D≠0) (hM:1≤M):qs q≤(Zf (M * D)).length:=by
 obtain ⟨z,rfl,hz⟩:=h
 have h1:D≤M * D:=Nat.le_mul_of_pos_left D hM
 exact Zjg (Vr hz) (Vr h1) (Sq (by omega))
theorem Bd.up {D M K:Nat} {q:Rat} (h:Bd D M q) (hK:M≤K):Bd D K q:=by
 obtain ⟨z,e,hz⟩:=h
 exact ⟨z,e,Nat.le_trans hz (Nat.mul_le_mul_right D hK)⟩
theorem Bd.lift {D M:Nat} (E:Nat) {q:Rat} (h:Bd D M q) (hD:D≠0) (hE:E≠0):Bd (D * E) M q:=by
 obtain ⟨z,rfl,hz⟩:=h
 refine ⟨z * E,?_,?_⟩
 ·rw [Zoz hD (Nat.mul_ne_zero hD hE),Int.natCast_mul,Int.mul_assoc,Int.mul_comm (E:Int)]
 ·rw [Int.natAbs_mul,Int.natAbs_natCast,← Nat.mul_assoc]
  exact Nat.mul_le_mul_right E hz
theorem Zt6 (a b:Int) {D:Nat} (hD:D≠0):mkRat a D+mkRat b D=mkRat (a+b) D:=by
 rw [Rat.mkRat_add_mkRat _ _ hD hD,← Int.add_mul,Zoz (Nat.mul_ne_zero hD hD) hD,Int.natCast_mul,Int.mul_assoc]
theorem Bd.add {D M K:Nat} {a b:Rat} (ha:Bd D M a) (hb:Bd D K b) (hD:D≠0):Bd D (M+K) (a+b):=by
 obtain ⟨x,rfl,hx⟩:=ha
 obtain ⟨y,rfl,hy⟩:=hb
 refine ⟨x+y,Zt6 x y hD,Nat.le_trans (Int.natAbs_add_le _ _) ?_⟩
 rw [Nat.add_mul];omega
theorem Bd.neg {D M:Nat} {a:Rat} (ha:Bd D M a):Bd D M (-a):=by
 obtain ⟨x,rfl,hx⟩:=ha
 exact ⟨-x,by rw [Rat.neg_mkRat],by rw [Int.natAbs_neg];exact hx⟩
theorem Bd.sub {D M K:Nat} {a b:Rat} (ha:Bd D M a) (hb:Bd D K b) (hD:D≠0):Bd D (M+K) (a - b):=by
 rw [Rat.sub_eq_add_neg]
 exact ha.add hb.neg hD
theorem Bd.mul {D E M K:Nat} {a b:Rat} (ha:Bd D M a) (hb:Bd E K b):Bd (D * E) (M * K) (a * b):=by
 obtain ⟨x,rfl,hx⟩:=ha
 obtain ⟨y,rfl,hy⟩:=hb
 refine ⟨x * y,Rat.mkRat_mul_mkRat _ _ _ _,?_⟩
 rw [Int.natAbs_mul,Nat.mul_mul_mul_comm M K D E]
 exact Nat.mul_le_mul hx hy
theorem Bd.zero (D M:Nat):Bd D M 0:=⟨0,by rw [Rat.zero_mkRat],by simp⟩
theorem Bd.one:Bd 1 1 1:=⟨1,rfl,by simp⟩
def Tk:List QV→Nat
 | []=>1
 | x :: t=>Yr x.2 * Tk t
theorem Zki:∀ t:List QV,Tk t≠0
 | []=>by simp [Tk]
 | x :: t=>Nat.mul_ne_zero (Sp x.2) (Zki t)
theorem Zsb:∀ (t:List QV),(∀ x ∈ t,Vg x)→(Zf (Tk t)).length≤Yb t+1
 | [],_=>by rw [Tk,T5];simp
 | x :: t,h=>by
  have hx:=h x List.mem_cons_self
  have h1:=Zav (Zc4 hx.1 hx.2)
  have h2:=Zsb t fun y hy=>h y (List.mem_cons_of_mem _ hy)
  have h3:=T3 (Yr x.2) (Tk t)
  rw [Tk,Yb];omega
theorem Zxr {x:QV} (h:0≤Zv x) (g:Zv x≤1):Bd (Yr x.2) 1 (Zv x):=by
 refine ⟨Zx x.1,rfl,?_⟩
 have hd:=Sp x.2
 have h1:¬ Zx x.1<0:=fun hn=>by
  have:Zv x<0:=by
   rw [Zv,show (0:Rat)=mkRat 0 1 from rfl,Zlx hd (by decide)];omega
  exact absurd h (Rat.not_le.2 this)
 have h2:¬ (Yr x.2:Int)<Zx x.1:=fun hn=>by
  have:1<Zv x:=by
   rw [Zv,show (1:Rat)=mkRat 1 1 from rfl,Zlx (by decide) hd];omega
  exact absurd g (Rat.not_le.2 this)
 omega
def Xx (long:Rat):List QV→Rat→List (Rat×Rat)
 | [],_=>[]
 | x :: t,at_=>(at_,at_+long * Zv x) :: Xx long t (at_+long * Zv x)
theorem Zbl (long:Rat):∀ (t:List QV) (a:Rat),(Xx long t a).length=t.length
 | [],_=>rfl
 | x :: t,a=>by rw [Xx,List.length_cons,Zbl long t,List.length_cons]
theorem Zu2 {D M L:Nat} {long:Rat} (hD:D≠0) (hl:Bd D L long):∀ (t:List QV) (F:Nat) (a:Rat) (M:Nat),F≠0→(∀ x ∈ t,0≤Zv x∧Zv x≤1)→Bd (D * F) M a→∀ p ∈ Xx long t a,Bd (D * (F * Tk t)) (M+L * t.length) p.1∧Bd (D * (F * Tk t)) (M+L * t.length) p.2
 | [],F,a,M,hF,_,ha,p,hp=>by rw [Xx] at hp;cases hp
 | x :: t,F,a,M,hF,ht,ha,p,hp=>by
  have hx:=ht x List.mem_cons_self
  have hdx:=Sp x.2
  have h1:Bd (D * (F * Yr x.2)) (M+L) (a+long * Zv x):=by
   have e1:Bd (D * F * Yr x.2) M a:=ha.lift _ (Nat.mul_ne_zero hD hF) hdx
   have e2:Bd (D * Yr x.2 * F) (L * 1) (long * Zv x):=(hl.mul (Zxr hx.1 hx.2)).lift _ (Nat.mul_ne_zero hD hdx) hF
   rw [Nat.mul_one,Nat.mul_assoc,Nat.mul_comm (Yr x.2) F] at e2
   rw [Nat.mul_assoc] at e1
   exact e1.add e2 (Nat.mul_ne_zero hD (Nat.mul_ne_zero hF hdx))
  have hle:L≤L * (t.length+1):=by rw [Nat.mul_succ];omega
  rw [Xx] at hp
  rw [Tk,← Nat.mul_assoc F,List.length_cons]
  rcases List.mem_cons.1 hp with rfl | hp
  ·have e1:Bd (D * (F * Yr x.2)) M a:=by
    have:=ha.lift (Yr x.2) (Nat.mul_ne_zero hD hF) hdx
    rwa [Nat.mul_assoc] at this
   have nz:=Nat.mul_ne_zero hD (Nat.mul_ne_zero hF hdx)
   have e3:=(e1.lift (Tk t) nz (Zki t)).up (K:=M+L * (t.length+1)) (by omega)
   have e4:=(h1.lift (Tk t) nz (Zki t)).up (K:=M+L * (t.length+1)) (by omega)
   rw [Nat.mul_assoc] at e3 e4
   exact ⟨e3,e4⟩
  ·have:=Zu2 (M:=M) hD hl t (F * Yr x.2) _ (M+L) (Nat.mul_ne_zero hF hdx) (fun y hy=>ht y (List.mem_cons_of_mem _ hy)) h1 p hp
   rw [show M+L+L * t.length=M+L * (t.length+1) by rw [Nat.mul_succ];omega] at this
   exact this
def Zb8 (kk_L2:(Option Int)):List Int→Ri→Option Int
  | [],aa=>kk_L2
  | ab :: ac,aa=>if (decide (0<((Wl aa ab).getD 0)))=true then (some 40) else ((some (Sy aa ab 1)).bind fun ad=>(Zb8 kk_L2 ac) ad)
termination_by structural x=>x
def Q2:List R2→Option Int
  | []=>some 0
  | aa :: ab=>Zb8 (Q2 ab) aa ([]:List Rb)
termination_by structural x=>x
def Zfn (kk_L4:(Option Int)) (aa:Bool):Option Int:=
  if aa=true then (some 3) else kk_L4
def Q3 (aa:Ra) (kk_L1:(Option Int)):List Int→Option Int
  | []=>kk_L1
  | ab :: ac=>if (decide (ab<0))=true then (Zfn (Q3 aa kk_L1 ac) true) else (Zfn (Q3 aa kk_L1 ac) (decide ((aa.length:Int)≤ab)))
termination_by structural x=>x
def Q1 (aa:Ra):List R2→Option Int
  | []=>Q2 aa
  | ab :: ac=>Q3 aa (Q1 aa ac) ab
termination_by structural x=>x
def Zfm (aa:Ra):Option Int:=
  Q1 aa aa
theorem Zx9 {a6:Nat} {a0:Option Addr} {col:Zd} {w0:World} {ab:Ra} {r:Int} (hm:Zfm ab=some r) (h0:Sl (Za.slice (Za.int .i64)) col w0 a0 a6 ab):
    Calls Tryz.prog 101 #[.slice a0 ab.length a6] w0 (fun e w'=>e= .returned ((.int .i64 r))∧Below w0.heap.size w0 w'):=by
 refine Xl 2 (m:=57) func101 rfl rfl rfl rfl rfl ?_;rw [Zfm.eq_1] at hm;have aa:=St.start col w0;refine go ?_;refine Z5 [0,12,13,1000000] (fun n f a7=>∃ a8 ag ah,n=ah.length∧ab.drop ag=ah∧Q1 ab ah=some r∧St w0 (Zk col) a8 a7∧[14].map f=[.int .i64 ag]) ab.length ⟨_,0,_,rfl,rfl,hm,aa,rfl⟩ ?_;clear hm;intro n f a7 hI;obtain ⟨a8,ag,ah,hn,hl,hm,aa,hs⟩:=hI;subst hn;refine .lL [14] hs ?_;replace h0:=h0.keep (Zl.start col w0)
 cases ah with
 | nil=>
  have hk:¬ ((ag:Int)<(ab.length:Int)):=by have:=List.drop_eq_nil_iff.1 hl;omega
  have hkb:=decide_eq_false hk;rw [Q1.eq_1] at hm;refine go ?_;refine X4 (congrArg Value.bool hkb)<|go ?_;refine Z5 [34,35,1000000] (fun n f a9=>∃ au ai aj,n=aj.length∧ab.drop ai=aj∧Q2 aj=some r∧St w0 (Zk col) au a9∧[36].map f=[.int .i64 ai]) ab.length ⟨_,0,_,rfl,rfl,hm,aa,rfl⟩ ?_;clear hm;intro n f a9 hI;obtain ⟨au,ai,aj,hn,hl,hm,aa,hs⟩:=hI;subst hn;refine .lL [36] hs ?_
  cases aj with
  | nil=>
   have hk:¬ ((ai:Int)<(ab.length:Int)):=by have:=List.drop_eq_nil_iff.1 hl;omega
   have hkb:=decide_eq_false hk;rw [Q2.eq_1] at hm;refine go ?_;refine X4 (congrArg Value.bool hkb)<|go ?_;cases hm;exact ⟨rfl,rfl,aa.below⟩
  | cons ak ba=>
   obtain ⟨ac,bi,bj⟩:=Yg hl;have hk:(ai:Int)<(ab.length:Int):=by omega
   have hkb:=decide_eq_true hk;rw [Q2.eq_2] at hm;refine go ?_;refine X9 (congrArg Value.bool hkb)<|go ?_;refine lI ac ((h0.ks aa).addr ac) ?_;obtain ⟨_,bk,bm⟩:=(h0.ks aa).atN ac;obtain ⟨⟨bn,bo,rfl,ad⟩,_⟩:=bk;refine lW bm.one<|go ?_;refine Z1l (col:=au) (fk:=(Value.int .i64)) (fv:=(Value.int .i64)) 1 rfl underlying162 rfl ?_;intro b3 b4 b5 bb bp;refine go ?_;replace ad:=ad.gr bb;replace aa:=aa.grow bb;refine Z5 [34,35,36,43,44,1000000] (fun n f aq=>∃ ar al av am an,n=an.length∧ak.drop al=an∧Zb8 (Q2 ba) an am=some r∧St w0 (Zk col) ar aq∧Sl (Za.int .i64) ar aq bn bo ak∧Vm (Value.int .i64) (Value.int .i64) 1 ar aq av am∧[45,9].map f=[.int .i64 al,.map (some av)]) ak.length ⟨_,0,_,_,_,rfl,rfl,hm,aa,ad,bp,rfl⟩ ?_;clear hm;intro n f aq hI;obtain ⟨ar,al,av,am,an,hn,hl,hm,aa,ad,bc,hs⟩:=hI;subst hn;refine .lL [45,9] hs ?_
   cases an with
   | nil=>
    have hk:¬ ((al:Int)<(ak.length:Int)):=by have:=List.drop_eq_nil_iff.1 hl;omega
    have hkb:=decide_eq_false hk;rw [Zb8.eq_1] at hm;refine go ?_;refine X4 (congrArg Value.bool hkb)<|go ?_;exact ⟨ba.length,by simp,rfl,⟨_,_,_,rfl,bi,hm,aa,(Ym (congrArg (Value.int .i64) (Yk (Nat.lt_of_lt_of_le bj (h0.ks aa).1.1))) rfl)⟩⟩
   | cons aw bq=>
    obtain ⟨ac,br,bs⟩:=Yg hl;have hk:(al:Int)<(ak.length:Int):=by omega
    have hkb:=decide_eq_true hk;rw [Zb8.eq_2] at hm;refine go ?_;refine X9 (congrArg Value.bool hkb)<|go ?_;refine lI ac (ad.addr ac)<|lW (ad.atInt ac) ?_;refine go ?_;refine lV (.int .i64 ((Wl am aw).getD 0)) (Zvo Sh.int bc underlying162 underlying3 zeroValue3 rfl rfl)<|go ?_;refine Zp hm (fun hb hm=>go ?_) fun hb hm=>go ?_
    ·cases hm;exact ⟨rfl,rfl,aa.below⟩
    obtain ⟨bt,ax,hm⟩:=bZ hm;have ax:bt=Sy am aw 1:=(Option.some.inj ax).symm;refine Zta (k:=aw) (v:=1) Sh.int bc underlying162 underlying3 rfl rfl rfl ?_;intro b6 bd bu be;rw [← ax] at be;refine go ?_;replace ad:=ad.kp bd;replace aa:=aa.kp bd bu;exact ⟨bq.length,by simp,rfl,⟨_,_,_,_,_,rfl,br,hm,aa,ad,be,(Ym (congrArg (Value.int .i64) (Yk (Nat.lt_of_lt_of_le bs ad.1.1))) rfl)⟩⟩
 | cons af ay=>
  obtain ⟨ac,bv,bw⟩:=Yg hl;have hk:(ag:Int)<(ab.length:Int):=by omega
  have hkb:=decide_eq_true hk;rw [Q1.eq_2] at hm;refine go ?_;refine X9 (congrArg Value.bool hkb)<|go ?_;refine lI ac ((h0.ks aa).addr ac) ?_;obtain ⟨_,bx,bz⟩:=(h0.ks aa).atN ac;obtain ⟨⟨bf,bg,rfl,ae⟩,_⟩:=bx;refine lW bz.one<|go ?_;refine Z5 [0,12,13,14,18,19,1000000] (fun n f az=>∃ a1 ao ap,n=ap.length∧af.drop ao=ap∧Q3 ab (Q1 ab ay) ap=some r∧St w0 (Zk col) a1 az∧Sl (Za.int .i64) a1 az bf bg af∧[20].map f=[.int .i64 ao]) af.length ⟨_,0,_,rfl,rfl,hm,aa,ae,rfl⟩ ?_;clear hm;intro n f az hI;obtain ⟨a1,ao,ap,hn,hl,hm,aa,ae,hs⟩:=hI;subst hn;refine .lL [20] hs ?_
  cases ap with
  | nil=>
   have hk:¬ ((ao:Int)<(af.length:Int)):=by have:=List.drop_eq_nil_iff.1 hl;omega
   have hkb:=decide_eq_false hk;rw [Q3.eq_1] at hm;refine go ?_;refine X4 (congrArg Value.bool hkb)<|go ?_;exact ⟨ay.length,by simp,rfl,⟨_,_,_,rfl,bv,hm,aa,(Ym (congrArg (Value.int .i64) (Yk (Nat.lt_of_lt_of_le bw (h0.ks aa).1.1))) rfl)⟩⟩
  | cons b0 bh=>
   obtain ⟨ac,b1,b2⟩:=Yg hl;have hk:(ao:Int)<(af.length:Int):=by omega
   have hkb:=decide_eq_true hk;rw [Q3.eq_2] at hm;refine go ?_;refine X9 (congrArg Value.bool hkb)<|go ?_;refine lI ac (ae.addr ac)<|lW (ae.atInt ac)<|Yq rfl<|Zm<|Zw ?_;refine Wp.cutK [0,12,13,14,18,19,20,1000000] (fun f a2=>∃ a3 a4,Zfn (Q3 ab (Q1 ab ay) bh) a4=some r∧St w0 (Zk col) a3 a2∧Sl (Za.int .i64) a3 a2 bf bg af∧[31].map f=[.bool a4]) ?_ ?_
   ·intro f a2 hJ;obtain ⟨a3,a4,hm,aa,ae,hs⟩:=hJ;rw [Zfn.eq_1] at hm;refine .lL [31] hs ?_;refine Zp hm (fun hb hm=>go ?_) fun hb hm=>go ?_
    ·cases hm;exact ⟨rfl,rfl,aa.below⟩
    exact ⟨bh.length,by simp,rfl,⟨_,_,_,rfl,b1,hm,aa,ae,(Ym (congrArg (Value.int .i64) (Yk (Nat.lt_of_lt_of_le b2 ae.1.1))) rfl)⟩⟩
   refine go ?_;refine Xz hm (fun a5 hm=>go ?_) fun a5 hm=>go ?_
   ·refine lV (.bool true) (Xm (congrArg Value.bool a5) rfl)<|Zm ?_;exact ⟨rfl,_,_,hm,aa,ae,rfl⟩
   refine lV (.bool (decide ((ab.length:Int)≤b0))) (Xd (congrArg Value.bool a5) rfl)<|Zm ?_;exact ⟨rfl,_,_,hm,aa,ae,rfl⟩
theorem Z0m:Wo Tryz.prog 3 1 8:=⟨Tryz.t3,_,rfl,rfl,rfl,rfl,rfl⟩
def Zb7 (aa:Nat) (kk_L1:(Nat→Ra→Option Ra)):List Int→Ra→Option Ra
  | [],ab=>kk_L1 (aa+1) ab
  | ad :: ae,ab=>(Zn ab ad).bind fun ac=>Z0 ((ac.length+[(aa:Int)].length) * 8≤140737488355328∧ac.length+[(aa:Int)].length≤maxLen) ((Zb7 aa kk_L1 ae) (ab.set (Int.toNat ad) (ac++[(aa:Int)])))
termination_by structural x=>x
def Q0:List R2→Nat→Ra→Option Ra
  | [],ab,aa=>some aa
  | ac :: ad,ab,aa=>Zb7 ab (Q0 ad) ac aa
termination_by structural x=>x
def Zfl (aa:Ra):Option Ra:=
  Z0 (aa.length * 24≤281474976710656∧aa.length≤maxLen) (Q0 aa 0 (List.replicate aa.length (([]:List Int):List Int)))
theorem Zx8 {a7:Nat} {a0:Option Addr} {col:Zd} {w0:World} {ae r:Ra} (c1:Nat) (hm:Zfl ae=some r) (h0:Sl (Za.slice (Za.int .i64)) col w0 a0 a7 ae):
    Calls Tryz.prog 103 #[.slice a0 ae.length a7] w0 (fun e w'=>∃ (col':Zd) (ra1:Option Addr) (rc2:Nat),e= .returned ((.slice ra1 r.length rc2))∧Zg col w0 col' w'∧Zb (Za.row 3 (Za.int .i64)) 39 c1 col' w' ra1 rc2 r):=by
 refine Xl 2 (m:=37) func103 rfl rfl rfl rfl rfl ?_;rw [Zfl.eq_1] at hm;have aa:=St.start col w0;refine go ?_;obtain ⟨a8,hm⟩:=Z2 hm;refine To (col:=(Zk col)) (w:=w0) (r:=(Za.row 3 (Za.int .i64))) (n:=ae.length) (x0:=([]:List Int)) 1 rfl underlying24 Tryz.t39 rfl rfl rfl rfl rfl rfl rfl a8.1 a8.2 Z3o ?_;intro b4 b5 b6 bg bh;refine go ?_;replace aa:=aa.grow bg;refine Z5 [11,12,1000000] (fun n f aw=>∃ ax ab ay az ap aj,n=aj.length∧ae.drop ab=aj∧Q0 aj ab ap=some r∧St w0 (Zk col) ax aw∧Zb (Za.row 3 (Za.int .i64)) 39 1 ax aw ay az ap∧[13,3].map f=[.int .i64 ab,.slice ay ap.length az]) ae.length ⟨_,0,_,_,_,_,rfl,rfl,hm,aa,bh,rfl⟩ ?_;clear hm;intro n f aw hI;obtain ⟨ax,ab,ay,az,ap,aj,hn,hl,hm,aa,a9,hs⟩:=hI;subst hn;refine .lL [13,3] hs ?_;replace h0:=h0.keep (Zl.start col w0)
 cases aj with
 | nil=>
  have hk:¬ ((ab:Int)<(ae.length:Int)):=by have:=List.drop_eq_nil_iff.1 hl;omega
  have hkb:=decide_eq_false hk;rw [Q0.eq_1] at hm;refine go ?_;refine X4 (congrArg Value.bool hkb)<|go ?_;cases hm;exact ⟨rfl,_,_,_,rfl,aa.fin (cm [(1,c1)]),aa.fo a9⟩
 | cons ak ba=>
  obtain ⟨af,bi,bj⟩:=Yg hl;have hk:(ab:Int)<(ae.length:Int):=by omega
  have hkb:=decide_eq_true hk;rw [Q0.eq_2] at hm;refine go ?_;refine X9 (congrArg Value.bool hkb)<|go ?_;refine lI af ((h0.ks aa).addr af) ?_;obtain ⟨_,bk,bm⟩:=(h0.ks aa).atN af;obtain ⟨⟨bn,bo,rfl,ac⟩,_⟩:=bk;refine lW bm.one<|go ?_;refine Z5 [11,12,13,18,19,4,1000000] (fun n f al=>∃ aq am ag ah ad an,n=an.length∧ak.drop am=an∧Zb7 ab (Q0 ba) an ad=some r∧St w0 (Zk col) aq al∧Sl (Za.int .i64) aq al bn bo ak∧Zb (Za.row 3 (Za.int .i64)) 39 1 aq al ag ah ad∧[20,3].map f=[.int .i64 am,.slice ag ad.length ah]) ak.length ⟨_,0,_,_,_,_,rfl,rfl,hm,aa,ac,a9,rfl⟩ ?_;clear hm;intro n f al hI;obtain ⟨aq,am,ag,ah,ad,an,hn,hl,hm,aa,ac,a1,hs⟩:=hI;subst hn;refine .lL [20,3] hs ?_
  cases an with
  | nil=>
   have hk:¬ ((am:Int)<(ak.length:Int)):=by have:=List.drop_eq_nil_iff.1 hl;omega
   have hkb:=decide_eq_false hk;rw [Zb7.eq_1] at hm;refine go ?_;refine X4 (congrArg Value.bool hkb)<|go ?_;exact ⟨ba.length,by simp,rfl,⟨_,_,_,_,_,_,rfl,bi,hm,aa,a1,(Ym (congrArg (Value.int .i64) (Yk (Nat.lt_of_lt_of_le bj (h0.ks aa).1.1))) rfl)⟩⟩
  | cons ar bp=>
   obtain ⟨af,bq,br⟩:=Yg hl;have hk:(am:Int)<(ak.length:Int):=by omega
   have hkb:=decide_eq_true hk;rw [Zb7.eq_2] at hm;refine go ?_;refine X9 (congrArg Value.bool hkb)<|go ?_;refine lI af (ac.addr af)<|lW (ac.atInt af) ?_;refine go ?_;obtain ⟨ao,au,hm⟩:=bZ hm;refine lI au (a1.addr au) ?_;obtain ⟨_,bb,bc,ai,bs⟩:=a1.open_ 2 (by decide) au;obtain ⟨bt,bu,rfl,a2⟩:=bs.row;replace ai:Wz (Za.row 3 (Za.int .i64)) 39 1 bb al ag ah ad (Int.toNat ar) [.slice bt ao.length bu]:=ai;refine lW ai.atN.one<|Ya rfl<|W6 (col:=bb) [(ab:Int)] 3 ?_;intro b7 bv bw av bx;obtain ⟨bd,hm⟩:=Z2 hm;replace a2:=a2.gr av;refine Zhv (col:=bw) (w:=bv) (r:=(Za.int .i64)) (c:=2) (c2:=2) (a2.ex) (bx.srcN (NB.int (k:=.i64))) rfl underlying39 Z0m rfl rfl rfl bd.1 bd.2 (by decide) ?_;intro be bf b8 bz a3 a4;replace ai:=(ai.gr av).kpp a3;refine lI au (ai.addr)<|Z1n (v:=(.slice be ((ao++[(ab:Int)]).length) bf)) ai rfl sizeOf39 rfl (by intro u hu;simp only [Value.cells,List.mem_cons,List.not_mem_nil,or_false] at hu;subst hu;rfl) rfl rfl (by decide) ?_;intro b0 a5 b1 a6;replace a6:Wz (Za.row 3 (Za.int .i64)) 39 1 bz b0 ag ah ad (Int.toNat ar) [.slice be ((ao++[(ab:Int)]).length) bf]:=a6;replace a4:=a4.kp a5;have b2:=a4.new;have b3:=a6.close b2.has (by decide) (by decide);replace ac:=(((ac.kpp bc).gr av).kpp a3).kp a5;replace ac:=ac.recol 2 1 (by decide);replace aa:=(((aa.kpp bc).grow av).kpp a3).kp a5 b1;replace aa:=aa.recol 2 1 (by decide) (by decide);refine .ld (d:=3) (v:=(.slice ag ((ad.set (Int.toNat ar) (ao++[(ab:Int)])).length) ah)) (congrArg (fun n=>Value.slice ag n ah) (show ad.length=(ad.set (Int.toNat ar) (ao++[(ab:Int)])).length by simp only [List.length_set])) ?_;refine go ?_;exact ⟨bp.length,by simp,rfl,⟨_,_,_,_,_,_,rfl,bq,hm,aa,ac,b3,(Ym (congrArg (Value.int .i64) (Yk (Nat.lt_of_lt_of_le br ac.1.1))) rfl)⟩⟩
def Zb9 (aa:Int) (kk_L2:(Int→Int→Option R5)) (ab:Int):Option R5:=
  kk_L2 (i64.wrap (aa+1)) ab
def Zfo (aa:Int) (ab:Int) (kk_L2:(Int→Int→Option R5)) (ac:Int) (ad:Bool):Option R5:=
  if ad=true then (Zb9 aa kk_L2 ac) else (Zb9 aa kk_L2 ab)
def Ss (N:Nat) (ad:List Int) (ag:Int) (aa:List Int) (ac:Int) (kk_L1:(List Int→Int→Option R5)):Nat→Int→Int→Option R5
  | 0,_,_=>none
  | ah+1,ae,ab=>if (decide (ae<2))=true then ((Zn [i64.wrap ((i64.wrap (2 * ac))+1),i64.wrap ((i64.wrap (2 * ac))+2)] ae).bind fun af=>if (decide (af<(i64.wrap ((ad.length:Int) - 1))))=true then ((Zn aa af).bind fun aj=>(Zn aa ab).bind fun ak=>Zfo ae ab (Ss N ad ag aa ac kk_L1 ah) af (decide (aj<ak))) else (Zfo ae ab (Ss N ad ag aa ac kk_L1 ah) af false)) else (if (decide (ab=ac))=true then (some (ag,aa.take (Int.toNat (i64.wrap ((ad.length:Int) - 1))))) else ((Zn aa ab).bind fun al=>(Zn aa ac).bind fun am=>(some (aa.set (Int.toNat ac) al)).bind fun ai=>(Zn ai ab).bind fun ao=>(some (ai.set (Int.toNat ab) am)).bind fun an=>kk_L1 an ab))
termination_by structural x=>x
def Sr (N:Nat) (aa:List Int) (ab:Int):Nat→R2→Int→Option R5
  | 0,_,_=>none
  | ad+1,ae,ac=>Ss N aa ab ae ac (Sr N aa ab ad) N 0 ac
termination_by structural x=>x
def Zh4 (N:Nat) (aa:List Int):Option R5:=
  (Zn aa 0).bind fun ac=>(Zn aa (i64.wrap ((aa.length:Int) - 1))).bind fun ad=>(some (aa.set (Int.toNat 0) ad)).bind fun ab=>Z0 ((0:Int)≤(i64.wrap ((aa.length:Int) - 1))∧(i64.wrap ((aa.length:Int) - 1))≤(ab.length:Int)) (Sr N aa ac N ab 0)
theorem Zya {N g0 al:Nat} {am:Option Addr} {col:Zd} {w0:World} {aa:R2} {r:R5} (qc0 ai:Nat) (hm:Zh4 N aa=some r) (hd:S8 [qc0,ai]=true) (ap:Zb (Za.int .i64) 3 ai col w0 am al aa) (hb0:Zj 163 qc0 col w0 g0 #[.slice am aa.length al]):
    Calls Tryz.prog 156 #[.pointer (some ⟨g0,0,none⟩)] w0 (fun e w'=>∃ (col':Zd) (oa1:Option Addr) (oc2:Nat),e= .returned ((.int .i64 r.1))∧Zt (pS [qc0,ai]) col w0 col' w'∧Zb (Za.int .i64) 3 ai col' w' oa1 oc2 r.2∧Zj 163 qc0 col' w' g0 #[.slice oa1 r.2.length oc2]):=by
 refine Xl 2 (m:=76) func156 rfl rfl rfl rfl rfl ?_;rw [Zh4.eq_1] at hm;have ac:=St.startL (l:=[qc0,ai]) rfl col w0;replace hb0:=hb0.startL (Zap hd 0 rfl) (Zao hd 0 rfl);replace ap:=ap.startL (Zap hd 1 rfl) (Zao hd 1 rfl);refine go ?_;refine lV (.pointer (some ⟨g0,0,none⟩)) (Qq rfl)<|lW hb0.at1<|go ?_;obtain ⟨au,av,hm⟩:=bZ hm;refine lI av (ap.addr av)<|lW (ap.atInt av) ?_;refine go ?_;obtain ⟨bm,be,hm⟩:=bZ hm;refine lI be (ap.addr be)<|lW (ap.atInt be)<|lI av (ap.addr av) ?_;obtain ⟨an,ay,hm⟩:=bZ hm;have ay:an=aa.set (Int.toNat 0) bm:=(Option.some.inj ay).symm;refine Y0 (x1:=bm) ap av ?_;intro bu bn bv az;rw [← ay] at az;refine .ld (d:=3) (v:=(.slice am an.length al)) (congrArg (fun n=>Value.slice am n al) (show aa.length=an.length by rw [ay,List.length_set])) ?_;replace hb0:=hb0.kp bn;replace hb0:Zj 163 440 (Xv [qc0,ai] col) bu g0 #[.slice am an.length al]:=by rw [← (show aa.length=an.length by rw [ay,List.length_set])];exact hb0
 refine go ?_;obtain ⟨bf,hm⟩:=Z2 hm;refine lv (v:=.slice am (Int.toNat (i64.wrap ((aa.length:Int) - 1))) al) rfl rfl (Zg9 underlying163 sizeOf3 rfl rfl bf.1 (by have:=az.lecap;have:=bf.2;omega))<|.ld (d:=28) (v:=(.slice am ((an.take (Int.toNat (i64.wrap ((aa.length:Int) - 1)))).length) al)) (congrArg (fun n=>Value.slice am n al) (List.length_take_of_le (show (Int.toNat (i64.wrap ((aa.length:Int) - 1)))≤an.length by have:=bf.2;omega)).symm) ?_;refine lV (.pointer (some ⟨g0,0,none⟩)) (Qq rfl)<|Ux (v:=(.slice am ((an.take (Int.toNat (i64.wrap ((aa.length:Int) - 1)))).length) al)) hb0 sizeOf163 rfl rfl (by intro u hu;simp only [Value.cells,List.mem_cons,List.not_mem_nil,or_false] at hu;subst hu;rfl) rfl rfl ?_;intro bw bo bx ab;replace ab:Zj 163 440 (Xv [qc0,ai] col) bw g0 #[(.slice am ((an.take (Int.toNat (i64.wrap ((aa.length:Int) - 1)))).length) al)]:=ab;refine go ?_;replace ac:=(ac.kp bn bv).kp bo bx;replace az:=az.kp bo;refine Z5 [4,5,1000000] (fun n f a4=>∃ a5 af ag ah ak ao,ao=n∧Sr N aa au ao ah ak=some r∧St w0 (Xv [qc0,ai] col) a5 a4∧Zb (Za.int .i64) 3 441 a5 a4 af ag ah∧Zj 163 440 a5 a4 g0 #[(.slice af ((ah.take (Int.toNat (i64.wrap ((aa.length:Int) - 1)))).length) ag)]∧[3,6].map f=[.slice af ah.length ag,.int .i64 ak]) N ⟨_,_,_,_,0,_,rfl,hm,ac,az,ab,rfl⟩ ?_;clear hm;intro n f a4 hI;obtain ⟨a5,af,ag,ah,ak,ao,hn,hm,ac,ad,ab,hs⟩:=hI;subst hn;refine .lL [3,6] hs ?_
 cases ao with
 | zero=>rw [Sr.eq_1] at hm;cases hm
 | succ ao=>
  rw [Sr.eq_2] at hm;refine go ?_;refine lV (.agg #[(.int .i64 (i64.wrap ((i64.wrap (2 * ak))+1))),(.int .i64 (i64.wrap ((i64.wrap (2 * ak))+2)))]) (Z22 underlying180 sizeOf3 zeroValue180 rfl)<|go ?_;refine Z5 [3,37,4,5,6,1000000] (fun n f a6=>∃ ae a0 a1 aq,aq=n∧Ss N aa au ah ak (Sr N aa au ao) aq a0 a1=some r∧St w0 (Xv [qc0,ai] col) ae a6∧Zb (Za.int .i64) 3 441 ae a6 af ag ah∧Zj 163 440 ae a6 g0 #[(.slice af ((ah.take (Int.toNat (i64.wrap ((aa.length:Int) - 1)))).length) ag)]∧[38,7].map f=[.int .i64 a0,.int .i64 a1]) N ⟨_,0,_,_,rfl,hm,ac,ad,ab,rfl⟩ ?_;clear hm;intro n f a6 hI;obtain ⟨ae,a0,a1,aq,hn,hm,ac,ad,ab,hs⟩:=hI;subst hn;refine .lL [38,7] hs ?_
  cases aq with
  | zero=>rw [Ss.eq_1] at hm;cases hm
  | succ aq=>
   rw [Ss.eq_2] at hm;refine go ?_;refine Zp hm (fun hb hm=>?_) fun hb hm=>go ?_
   ·refine Yd<|Zw ?_;refine Wp.cutK [3,37,38,4,5,6,1000000] (fun f a7=>∃ a8 bg,Zb9 a0 (Ss N aa au ah ak (Sr N aa au ao) aq) bg=some r∧St w0 (Xv [qc0,ai] col) a8 a7∧Zb (Za.int .i64) 3 441 a8 a7 af ag ah∧Zj 163 440 a8 a7 g0 #[(.slice af ((ah.take (Int.toNat (i64.wrap ((aa.length:Int) - 1)))).length) ag)]∧[7].map f=[.int .i64 bg]) ?_ ?_
    ·intro f a7 hJ;obtain ⟨a8,bg,hm,ac,ad,ab,hs⟩:=hJ;rw [Zb9.eq_1] at hm;refine .lL [7] hs<|go ?_;exact ⟨aq,by omega,rfl,⟨_,_,_,_,rfl,hm,ac,ad,ab,rfl⟩⟩
    refine go ?_;obtain ⟨bp,bz,hm⟩:=bZ hm;refine lV (.int .i64 bp) (Z28 (l:=[i64.wrap ((i64.wrap (2 * ak))+1),i64.wrap ((i64.wrap (2 * ak))+2)]) (k:=.i64) underlying180 sizeOf3 isAgg3 rfl rfl rfl bz)<|Yq rfl<|Zm<|Zw ?_;refine Wp.cutK [3,37,38,4,5,6,7,9,1000000] (fun f a9=>∃ ba bh,Zfo a0 a1 (Ss N aa au ah ak (Sr N aa au ao) aq) bp bh=some r∧St w0 (Xv [qc0,ai] col) ba a9∧Zb (Za.int .i64) 3 441 ba a9 af ag ah∧Zj 163 440 ba a9 g0 #[(.slice af ((ah.take (Int.toNat (i64.wrap ((aa.length:Int) - 1)))).length) ag)]∧[54].map f=[.bool bh]) ?_ ?_
    ·intro f a9 hJ;obtain ⟨ba,bh,hm,ac,ad,ab,hs⟩:=hJ;rw [Zfo.eq_1] at hm;refine .lL [54] hs ?_;refine Zp hm (fun hb hm=>go ?_) fun hb hm=>?_
     ·exact ⟨rfl,_,_,hm,ac,ad,ab,rfl⟩
     refine Yd ?_;exact ⟨rfl,_,_,hm,ac,ad,ab,rfl⟩
    refine Vy (col:=ae) (by kernel_rfl) (by kernel_rfl)<|go ?_;refine Xz hm (fun bi hm=>go ?_) fun bi hm=>go ?_
    ·obtain ⟨b0,bj,hm⟩:=bZ hm;refine qI bj (ad.addr bj) ?_;refine go ?_;refine qW (fun _ hC=>(ad.gr (hC.bl ae)).atInt bj) ?_;refine go ?_;obtain ⟨b1,bk,hm⟩:=bZ hm;refine qI bk (ad.addr bk) ?_;refine go ?_;refine qW (fun _ hC=>(ad.gr (hC.bl ae)).atInt bk) ?_;refine go ?_;refine qv (v:=(.bool (decide (b0<b1)))) rfl (fun _ hC=>Xm (congrArg Value.bool bi) rfl) ?_;refine Wn ?_;intro b6 hC;replace hC:=hC.bl ae;replace ad:=ad.gr hC;replace ab:=ab.gr hC;replace ac:=ac.grow hC;exact ⟨rfl,_,_,hm,ac,ad,ab,rfl⟩
    refine qv (v:=(.bool false)) rfl (fun _ hC=>Xd (congrArg Value.bool bi) rfl) ?_;refine Wn ?_;intro b7 hC;replace hC:=hC.bl ae;replace ad:=ad.gr hC;replace ab:=ab.gr hC;replace ac:=ac.grow hC;exact ⟨rfl,_,_,hm,ac,ad,ab,rfl⟩
   refine Zp hm (fun hb hm=>go ?_) fun hb hm=>go ?_
   ·cases hm;exact ⟨rfl,S7 w0.heap.size [qc0,ai] col ae (fun n=>bif Nat.beq n 441 then ai else bif Nat.beq n 440 then qc0 else 0),af,ag,rfl,ac.finL rfl (fun n=>bif Nat.beq n 441 then ai else bif Nat.beq n 440 then qc0 else 0),ac.finOwnL (g:=(fun n=>bif Nat.beq n 441 then ai else bif Nat.beq n 440 then qc0 else 0)) rfl (ad.take (Int.toNat (i64.wrap ((aa.length:Int) - 1)))) (by decide) (by decide) rfl,ac.finBoxL (g:=(fun n=>bif Nat.beq n 441 then ai else bif Nat.beq n 440 then qc0 else 0)) ab (by decide) (by decide) rfl⟩
   refine Wb (col:=ae) [(0,1),(1,1),(2,1),(3,1),(4,1),(5,1),(6,1),(7,0),(8,1),(9,1),(10,1),(11,0),(12,1),(13,2),(14,1),(15,2)] (by kernel_rfl) (by kernel_rfl)<|xu rfl rfl (fun _=>Ve rfl) ?_;refine xu rfl rfl (fun _=>Wv rfl) ?_;refine xu rfl rfl (fun _=>Ve rfl) ?_;refine xu rfl rfl (fun _=>Wv rfl) ?_;refine xu rfl rfl (fun _=>Ve rfl) ?_;refine xu rfl rfl (fun _=>Wv rfl) ?_;obtain ⟨bq,bb,hm⟩:=bZ hm;refine xu rfl rfl (fun _=>Y4 underlying163 sizeOf3 rfl rfl (Xh bb).1 (Xh bb).2.1 (ad.addr bb)) ?_;refine xW (fun _ hC=>(ad.gr (hC.bl ae)).atInt bb) ?_;refine xu rfl rfl (fun _=>Ve rfl) ?_;refine xu rfl rfl (fun _=>Wv rfl) ?_;obtain ⟨br,ar,hm⟩:=bZ hm;refine xu rfl rfl (fun _=>Y4 underlying163 sizeOf3 rfl rfl (Xh ar).1 (Xh ar).2.1 (ad.addr ar)) ?_;refine xW (fun _ hC=>(ad.gr (hC.bl ae)).atInt ar) ?_;refine xu rfl rfl (fun _=>Y4 underlying163 sizeOf3 rfl rfl (Xh ar).1 (Xh ar).2.1 (ad.addr ar)) ?_;refine xe rfl rfl ?_;intro b8 hC0;have hC:=hC0.bl ae;obtain ⟨aj,aw,hm⟩:=bZ hm;have aw:aj=ah.set (Int.toNat ak) bq:=(Option.some.inj aw).symm;replace ad:=ad.gr hC;refine Y0 (x1:=bq) ad ar ?_;intro b2 bs b3 a2;rw [← aw] at a2;refine .ld (d:=3) (v:=(.slice af aj.length ag)) (congrArg (fun n=>Value.slice af n ag) (show ah.length=aj.length by rw [aw,List.length_set])) ?_;refine .ld (d:=63) (v:=(.slice af aj.length ag)) (congrArg (fun n=>Value.slice af n ag) (show ah.length=aj.length by rw [aw,List.length_set])) ?_;replace ab:=(ab.gr hC).kp bs;replace ab:Zj 163 440 ae b2 g0 #[(.slice af ((aj.take (Int.toNat (i64.wrap ((aa.length:Int) - 1)))).length) ag)]:=by rw [← (show (ah.take (Int.toNat (i64.wrap ((aa.length:Int) - 1)))).length=(aj.take (Int.toNat (i64.wrap ((aa.length:Int) - 1)))).length by rw [List.length_take,List.length_take,(show ah.length=aj.length by rw [aw,List.length_set])])];exact ab
   refine Zm<|xk ae ?_;obtain ⟨b9,bc,hm⟩:=bZ hm;refine xu rfl rfl (fun _=>Y4 underlying163 sizeOf3 rfl rfl (Xh bc).1 (Xh bc).2.1 (a2.addr bc)) ?_;refine xe rfl rfl ?_;intro ca hC0;replace ac:=(ac.grow hC).kp bs b3;have hC:=hC0.bl ae;obtain ⟨ax,a3,hm⟩:=bZ hm;have a3:ax=aj.set (Int.toNat a1) br:=(Option.some.inj a3).symm;replace a2:=a2.gr hC;refine Y0 (x1:=br) a2 bc ?_;intro b4 bt b5 bd;rw [← a3] at bd;refine .ld (d:=3) (v:=(.slice af ax.length ag)) (congrArg (fun n=>Value.slice af n ag) (show aj.length=ax.length by rw [a3,List.length_set])) ?_;replace ab:=(ab.gr hC).kp bt;replace ab:Zj 163 440 ae b4 g0 #[(.slice af ((ax.take (Int.toNat (i64.wrap ((aa.length:Int) - 1)))).length) ag)]:=by rw [← (show (aj.take (Int.toNat (i64.wrap ((aa.length:Int) - 1)))).length=(ax.take (Int.toNat (i64.wrap ((aa.length:Int) - 1)))).length by rw [List.length_take,List.length_take,(show aj.length=ax.length by rw [a3,List.length_set])])];exact ab
   refine Zm<|xk ae<|Yz ?_;replace ac:=(ac.grow hC).kp bt b5;intro cb hC;replace hC:=hC.bl ae;refine go ?_;replace bd:=bd.gr hC;replace ab:=ab.gr hC;replace ac:=ac.grow hC;exact ⟨ao,by omega,rfl,⟨_,_,_,_,_,_,rfl,hm,ac,bd,ab,rfl⟩⟩
theorem Z0n:Wo Tryz.prog 3 1 8:=⟨Tryz.t3,_,rfl,rfl,rfl,rfl,rfl⟩
def Zfq (ab:List Int) (aa:Int) (kk_L1:(List Int→Int→Option R2)) (ad:Bool):Option R2:=
  if ad=true then ((Zn ab (i64.wrap (Int.tdiv (i64.wrap (aa - 1)) 2))).bind fun ae=>(Zn ab aa).bind fun af=>(some (ab.set (Int.toNat aa) ae)).bind fun ac=>(Zn ac (i64.wrap (Int.tdiv (i64.wrap (aa - 1)) 2))).bind fun ah=>(some (ac.set (Int.toNat (i64.wrap (Int.tdiv (i64.wrap (aa - 1)) 2))) af)).bind fun ag=>kk_L1 ag (i64.wrap (Int.tdiv (i64.wrap (aa - 1)) 2))) else (some ab)
def Zaz (N:Nat):Nat→R2→Int→Option R2
  | 0,_,_=>none
  | ac+1,ab,aa=>if (decide (0<aa))=true then ((Zn ab aa).bind fun ad=>(Zn ab (i64.wrap (Int.tdiv (i64.wrap (aa - 1)) 2))).bind fun ae=>Zfq ab aa (Zaz N ac) (decide (ad<ae))) else (Zfq ab aa (Zaz N ac) false)
termination_by structural x=>x
def Zfp (N:Nat) (aa:List Int) (ab:Int):Option R2:=
  Z0 ((aa.length+[ab].length) * 8≤140737488355328∧aa.length+[ab].length≤maxLen) (Zaz N N (aa++[ab]) (i64.wrap (((aa++[ab]).length:Int) - 1)))
theorem Zqu {N g0 a7:Nat} {a8:Option Addr} {col:Zd} {w0:World} {ao:R2} {an:Int} {r:R2} (qc0 af:Nat) (hm:Zfp N ao an=some r) (hd:S8 [qc0,af]=true) (ap:Zb (Za.int .i64) 3 af col w0 a8 a7 ao) (hb0:Zj 163 qc0 col w0 g0 #[.slice a8 ao.length a7]):
    Calls Tryz.prog 155 #[.pointer (some ⟨g0,0,none⟩),.int .i64 an] w0 (fun e w'=>∃ (col':Zd) (oa1:Option Addr) (oc2:Nat),e= .returned (.tuple #[])∧Zt (pS [qc0,af]) col w0 col' w'∧Zb (Za.int .i64) 3 af col' w' oa1 oc2 r∧Zj 163 qc0 col' w' g0 #[.slice oa1 r.length oc2]):=by
 refine Ze6 (m:=66) (args:=[.pointer (some ⟨g0,0,none⟩),.int .i64 an]) func155 rfl rfl rfl rfl ?_;rw [Zfp.eq_1] at hm;have ab:=St.startL (l:=[qc0,af]) rfl col w0;replace hb0:=hb0.startL (Zap hd 0 rfl) (Zao hd 0 rfl);replace ap:=ap.startL (Zap hd 1 rfl) (Zao hd 1 rfl);refine go ?_;refine lV (.pointer (some ⟨g0,0,none⟩)) (Qq rfl)<|lW hb0.at1<|Ya rfl<|W6 (col:=(Xv [qc0,af] col)) [an] 1 ?_;intro bw bi bj a0 bk;obtain ⟨a9,hm⟩:=Z2 hm;replace ap:=ap.gr a0;refine Zhv (col:=bj) (w:=bi) (r:=(Za.int .i64)) (c:=441) (c2:=441) (ap.ex) (bk.srcN (NB.int (k:=.i64))) rfl underlying163 Z0n rfl rfl rfl a9.1 a9.2 (by decide) ?_;intro ba bb bx bm bc a1;refine lV (.pointer (some ⟨g0,0,none⟩)) (Qq rfl) ?_;replace hb0:=(hb0.gr a0).kpp bc;refine Ux (v:=(.slice ba ((ao++[an]).length) bb)) hb0 sizeOf163 rfl rfl (by intro u hu;simp only [Value.cells,List.mem_cons,List.not_mem_nil,or_false] at hu;subst hu;rfl) rfl rfl ?_;intro bn bd bo aa;replace aa:Zj 163 440 bm bn g0 #[.slice ba ((ao++[an]).length) bb]:=aa;replace a1:=a1.kp bd;have bp:=a1.new;refine go ?_;refine lV (.pointer (some ⟨g0,0,none⟩)) (Qq rfl)<|lW aa.at1<|go ?_;replace ab:=((ab.grow a0).kpp bc).kp bd bo;refine Z5 [0,1000000] (fun n f au=>∃ ag ah ai aj ae al,al=n∧Zaz N al aj ae=some r∧St w0 (Xv [qc0,af] col) ag au∧Zb (Za.int .i64) 3 441 ag au ah ai aj∧Zj 163 440 ag au g0 #[.slice ah aj.length ai]∧[4].map f=[.int .i64 ae]) N ⟨_,_,_,_,_,_,rfl,hm,ab,bp,aa,rfl⟩ ?_;clear hm;intro n f au hI;obtain ⟨ag,ah,ai,aj,ae,al,hn,hm,ab,ac,aa,hs⟩:=hI;subst hn;refine .lL [4] hs ?_
 cases al with
 | zero=>rw [Zaz.eq_1] at hm;cases hm
 | succ al=>
  rw [Zaz.eq_2] at hm;refine Zw<|Zw ?_;refine Wp.cutK [0,4,1000000] (fun f av=>∃ ad a2,Zfq aj ae (Zaz N al) a2=some r∧St w0 (Xv [qc0,af] col) ad av∧Zb (Za.int .i64) 3 441 ad av ah ai aj∧Zj 163 440 ad av g0 #[.slice ah aj.length ai]∧[36].map f=[.bool a2]) ?_ ?_
  ·intro f av hJ;obtain ⟨ad,a2,hm,ab,ac,aa,hs⟩:=hJ;rw [Zfq.eq_1] at hm;refine .lL [36] hs ?_;refine Zp hm (fun hb hm=>go ?_) fun hb hm=>go ?_
   ·refine Wb (col:=ad) [(0,1),(1,1),(2,0),(3,1),(4,1),(5,1),(6,0),(7,1),(8,1),(9,1),(10,1),(11,1),(12,0),(13,1),(14,1),(15,1),(16,1),(17,0),(18,1),(19,1),(20,0),(21,1),(22,1),(23,0),(24,1),(25,2),(26,1),(27,2)] (by kernel_rfl) (by kernel_rfl)<|xu rfl rfl (fun _=>Zmd rfl) ?_;refine xu (v:=(.pointer (some ⟨g0,0,none⟩))) rfl rfl (fun _=>Qq rfl) ?_;refine xW (fun _ hC=>aa.at1.gr (hC.bl ad)) ?_;refine xu rfl rfl (fun _=>Wv rfl) ?_;refine xu rfl rfl (fun _=>Zmd rfl) ?_;refine xu (v:=(.pointer (some ⟨g0,0,none⟩))) rfl rfl (fun _=>Qq rfl) ?_;refine xW (fun _ hC=>aa.at1.gr (hC.bl ad)) ?_;refine xu rfl rfl (fun _=>Wv rfl) ?_;refine xu rfl rfl (fun _=>Zmf _ _ rfl rfl) ?_;refine xu (v:=(.int .i64 (i64.wrap (Int.tdiv (i64.wrap (ae - 1)) 2)))) rfl rfl (fun _=>W9 (i64.wrap (ae - 1)) 2 rfl rfl (by decide)) ?_;refine xu rfl rfl (fun _=>Zmd rfl) ?_;refine xu (v:=(.pointer (some ⟨g0,0,none⟩))) rfl rfl (fun _=>Qq rfl) ?_;refine xW (fun _ hC=>aa.at1.gr (hC.bl ad)) ?_;refine xu rfl rfl (fun _=>Wv rfl) ?_;refine xu rfl rfl (fun _=>Zmf _ _ rfl rfl) ?_;refine xu (v:=(.int .i64 (i64.wrap (Int.tdiv (i64.wrap (ae - 1)) 2)))) rfl rfl (fun _=>W9 (i64.wrap (ae - 1)) 2 rfl rfl (by decide)) ?_;obtain ⟨be,aw,hm⟩:=bZ hm;refine xu rfl rfl (fun _=>Y4 underlying163 sizeOf3 rfl rfl (Xh aw).1 (Xh aw).2.1 (ac.addr aw)) ?_;refine xW (fun _ hC=>(ac.gr (hC.bl ad)).atInt aw) ?_;refine xu rfl rfl (fun _=>Zmd rfl) ?_;refine xu (v:=(.pointer (some ⟨g0,0,none⟩))) rfl rfl (fun _=>Qq rfl) ?_;refine xW (fun _ hC=>aa.at1.gr (hC.bl ad)) ?_;refine xu rfl rfl (fun _=>Wv rfl) ?_;obtain ⟨bf,ak,hm⟩:=bZ hm;refine xu rfl rfl (fun _=>Y4 underlying163 sizeOf3 rfl rfl (Xh ak).1 (Xh ak).2.1 (ac.addr ak)) ?_;refine xW (fun _ hC=>(ac.gr (hC.bl ad)).atInt ak) ?_;refine xu rfl rfl (fun _=>Y4 underlying163 sizeOf3 rfl rfl (Xh ak).1 (Xh ak).2.1 (ac.addr ak)) ?_;refine xe rfl rfl ?_;intro bz hC0;have hC:=hC0.bl ad;obtain ⟨am,aq,hm⟩:=bZ hm;have aq:am=aj.set (Int.toNat ae) be:=(Option.some.inj aq).symm;replace ac:=ac.gr hC;refine Y0 (x1:=be) ac ak ?_;intro bq bg br ar;rw [← aq] at ar;refine .ld (d:=46) (v:=(.slice ah am.length ai)) (congrArg (fun n=>Value.slice ah n ai) (show aj.length=am.length by rw [aq,List.length_set])) ?_;replace aa:=(aa.gr hC).kp bg;replace aa:Zj 163 440 ad bq g0 #[.slice ah am.length ai]:=by rw [← (show aj.length=am.length by rw [aq,List.length_set])];exact aa
    refine Zm<|xk ad ?_;obtain ⟨b0,ax,hm⟩:=bZ hm;refine xu rfl rfl (fun _=>Y4 underlying163 sizeOf3 rfl rfl (Xh ax).1 (Xh ax).2.1 (ar.addr ax)) ?_;refine xe rfl rfl ?_;intro b1 hC0;replace ab:=(ab.grow hC).kp bg br;have hC:=hC0.bl ad;obtain ⟨a3,ay,hm⟩:=bZ hm;have ay:a3=am.set (Int.toNat (i64.wrap (Int.tdiv (i64.wrap (ae - 1)) 2))) bf:=(Option.some.inj ay).symm;replace ar:=ar.gr hC;refine Y0 (x1:=bf) ar ax ?_;intro bs bh bt az;rw [← ay] at az;replace aa:=(aa.gr hC).kp bh;replace aa:Zj 163 440 ad bs g0 #[.slice ah a3.length ai]:=by rw [← (show am.length=a3.length by rw [ay,List.length_set])];exact aa
    refine Zm<|xk ad<|Yz ?_;replace ab:=(ab.grow hC).kp bh bt;intro b2 hC;replace hC:=hC.bl ad;refine go ?_;refine lV (.int .i64 (i64.wrap (Int.tdiv (i64.wrap (ae - 1)) 2))) (W9 (i64.wrap (ae - 1)) 2 rfl rfl (by decide))<|go ?_;replace az:=az.gr hC;replace aa:=aa.gr hC;replace ab:=ab.grow hC;exact ⟨al,by omega,rfl,⟨_,_,_,_,_,_,rfl,hm,ab,az,aa,rfl⟩⟩
   cases hm;exact ⟨rfl,S7 w0.heap.size [qc0,af] col ad (fun n=>bif Nat.beq n 441 then af else bif Nat.beq n 440 then qc0 else 0),ah,ai,rfl,ab.finL rfl (fun n=>bif Nat.beq n 441 then af else bif Nat.beq n 440 then qc0 else 0),ab.finOwnL (g:=(fun n=>bif Nat.beq n 441 then af else bif Nat.beq n 440 then qc0 else 0)) rfl ac (by decide) (by decide) rfl,ab.finBoxL (g:=(fun n=>bif Nat.beq n 441 then af else bif Nat.beq n 440 then qc0 else 0)) aa (by decide) (by decide) rfl⟩
  refine Vy (col:=ag) (by kernel_rfl) (by kernel_rfl)<|go ?_;refine Xz hm (fun a4 hm=>go ?_) fun a4 hm=>go ?_
  ·refine qv (v:=(.pointer (some ⟨g0,0,none⟩))) rfl (fun _ hC=>Qq rfl) ?_;refine go ?_;refine qW (fun _ hC=>aa.at1.gr (hC.bl ag)) ?_;refine go ?_;obtain ⟨bu,a5,hm⟩:=bZ hm;refine qI a5 (ac.addr a5) ?_;refine go ?_;refine qW (fun _ hC=>(ac.gr (hC.bl ag)).atInt a5) ?_;refine go ?_;refine qv (v:=(.pointer (some ⟨g0,0,none⟩))) rfl (fun _ hC=>Qq rfl) ?_;refine go ?_;refine qW (fun _ hC=>aa.at1.gr (hC.bl ag)) ?_;refine go ?_;refine qv (v:=(.int .i64 (i64.wrap (Int.tdiv (i64.wrap (ae - 1)) 2)))) rfl (fun _ hC=>W9 (i64.wrap (ae - 1)) 2 rfl rfl (by decide)) ?_;refine go ?_;obtain ⟨bv,a6,hm⟩:=bZ hm;refine qI a6 (ac.addr a6) ?_;refine go ?_;refine qW (fun _ hC=>(ac.gr (hC.bl ag)).atInt a6) ?_;refine go ?_;refine qv (v:=(.bool (decide (bu<bv)))) rfl (fun _ hC=>Xm (congrArg Value.bool a4) rfl) ?_;refine Wn ?_;intro b3 hC;replace hC:=hC.bl ag;replace ac:=ac.gr hC;replace aa:=aa.gr hC;replace ab:=ab.grow hC;exact ⟨rfl,_,_,hm,ab,ac,aa,rfl⟩
  refine qv (v:=(.bool false)) rfl (fun _ hC=>Xd (congrArg Value.bool a4) rfl) ?_;refine Wn ?_;intro b4 hC;replace hC:=hC.bl ag;replace ac:=ac.gr hC;replace aa:=aa.gr hC;replace ab:=ab.grow hC;exact ⟨rfl,_,_,hm,ab,ac,aa,rfl⟩
def Zfs (kk_L3:(List Int→R2→Option R2)) (aa:List Int) (ab:List Int):Option R2:=
  kk_L3 aa ab
def Q5 (N:Nat) (ad:List Int) (kk_L2:(List Int→R2→R2→Option R2)) (ae:R5):List Int→R2→R2→Option R2
  | [],aa,ab=>kk_L2 aa ab (ad++[ae.1])
  | ac :: ag,aa,ab=>(Zn aa ac).bind fun ah=>(some (aa.set (Int.toNat ac) (i64.wrap (ah - 1)))).bind fun af=>(Zn af ac).bind fun ai=>if (decide (ai=0))=true then ((Zfp N ab ac).bind fun aj=>Zfs (Q5 N ad kk_L2 ae ag) af aj) else (Zfs (Q5 N ad kk_L2 ae ag) af ab)
termination_by structural x=>x
def U9 (N:Nat) (ac:Ra):Nat→R2→R2→R2→Option R2
  | 0,_,_,_=>none
  | ae+1,af,ad,ab=>if (decide (0<(ad.length:Int)))=true then ((Zh4 N ad).bind fun aa=>Z0 ((ab.length+[aa.1].length) * 8≤140737488355328∧ab.length+[aa.1].length≤maxLen) ((Zn ac aa.1).bind fun ag=>Q5 N ab (U9 N ac ae) aa ag af aa.2)) else (some ab)
termination_by structural x=>x
def Zft (aa:Nat) (kk_L1:(Nat→R2→R2→Option R2)) (ab:List Int) (ac:List Int):Option R2:=
  kk_L1 (aa+1) ab ac
def Q4 (N:Nat) (ad:Ra):List R2→Nat→R2→R2→Option R2
  | [],aa,ab,ac=>U9 N ad N ab ac ([]:List Int)
  | ae :: af,aa,ab,ac=>(Zn ab (aa:Int)).bind fun ai=>(some (ab.set (Int.toNat (aa:Int)) (ae.length:Int))).bind fun ag=>if (decide ((ae.length:Int)=0))=true then ((Zfp N ac (aa:Int)).bind fun ah=>Zft aa (Q4 N ad af) ag ah) else (Zft aa (Q4 N ad af) ag ac)
termination_by structural x=>x
def Zfr (N:Nat) (aa:Ra) (ab:Ra):Option R2:=
  Z0 (aa.length * 8≤281474976710656∧aa.length≤maxLen) (Q4 N ab aa 0 (List.replicate aa.length (0:Int)) ([]:List Int))
theorem Zyb {N cs ct:Nat} {a0 a1:Option Addr} {col:Zd} {w0:World} {af ag:Ra} {r:R2} (c1:Nat) (hm:Zfr N af ag=some r) (h0:Sl (Za.slice (Za.int .i64)) col w0 a0 cs af) (h1:Sl (Za.slice (Za.int .i64)) col w0 a1 ct ag):
    Calls Tryz.prog 102 #[.slice a0 af.length cs,.slice a1 ag.length ct] w0 (fun e w'=>∃ (col':Zd) (ra1:Option Addr) (rc2:Nat),e= .returned ((.slice ra1 r.length rc2))∧Zg col w0 col' w'∧Zb (Za.int .i64) 3 c1 col' w' ra1 rc2 r):=by
 refine Xl 4 (m:=66) func102 rfl rfl rfl rfl rfl ?_;rw [Zfr.eq_1] at hm;have aa:=St.start col w0;refine go ?_;obtain ⟨cu,hm⟩:=Z2 hm;refine To (col:=(Zk col)) (w:=w0) (r:=(Za.int .i64)) (n:=af.length) (x0:=0) 1 rfl underlying39 Tryz.t3 rfl rfl rfl rfl rfl rfl rfl cu.1 cu.2 (Se .i64 0) ?_;intro d2 d3 c6 c7 bx;refine go ?_;refine Zat (col:=c6) (v:=(.slice none (([]:List Int).length) 0)) 2 rfl zeroValue163 ?_;intro aq c8 c9 cv ab;replace ab:Zj 163 2 c9 c8 aq #[.slice none (([]:List Int).length) 0]:=ab;refine go ?_;replace aa:=(aa.grow c7).grow cv;replace bx:=bx.gr cv;refine Z5 [1,16,17,6,1000000] (fun n f az=>∃ a2 ah a3 a4 ar bz b0 bj a5,n=a5.length∧af.drop ah=a5∧Q4 N ag a5 ah ar bj=some r∧St w0 (Zk col) a2 az∧Zb (Za.int .i64) 3 1 a2 az a3 a4 ar∧Zb (Za.int .i64) 3 3 a2 az bz b0 bj∧Zj 163 2 a2 az aq #[.slice bz bj.length b0]∧[18,5].map f=[.int .i64 ah,.slice a3 ar.length a4]) af.length ⟨_,0,_,_,_,none,0,_,_,rfl,rfl,hm,aa,bx,Zb.nil,ab,rfl⟩ ?_;clear hm;intro n f az hI;obtain ⟨a2,ah,a3,a4,ar,bz,b0,bj,a5,hn,hl,hm,aa,b1,a6,ab,hs⟩:=hI;subst hn;refine .lL [18,5] hs ?_;replace h0:=h0.keep (Zl.start col w0);replace h1:=h1.keep (Zl.start col w0)
 cases a5 with
 | nil=>
  have hk:¬ ((ah:Int)<(af.length:Int)):=by have:=List.drop_eq_nil_iff.1 hl;omega
  have hkb:=decide_eq_false hk;rw [Q4.eq_1] at hm;refine go ?_;refine X4 (congrArg Value.bool hkb)<|go ?_;refine Z5 [1,6,1000000] (fun n f au=>∃ av b2 b3 bk b4 b5 bm b6 b7 ai aj,aj=n∧U9 N ag aj bk bm ai=some r∧St w0 (Zk col) av au∧Zb (Za.int .i64) 3 1 av au b2 b3 bk∧Zb (Za.int .i64) 3 3 av au b4 b5 bm∧Zj 163 2 av au aq #[.slice b4 bm.length b5]∧Zb (Za.int .i64) 3 4 av au b6 b7 ai∧[5,9].map f=[.slice b2 bk.length b3,.slice b6 ai.length b7]) N ⟨_,_,_,_,_,_,_,none,0,_,_,rfl,hm,aa,b1,a6,ab,Zb.nil,rfl⟩ ?_;clear hm;intro n f au hI;obtain ⟨av,b2,b3,bk,b4,b5,bm,b6,b7,ai,aj,hn,hm,aa,b8,da,ab,bn,hs⟩:=hI;subst hn;refine .lL [5,9] hs ?_
  cases aj with
  | zero=>rw [U9.eq_1] at hm;cases hm
  | succ aj=>
   rw [U9.eq_2] at hm;refine go ?_;refine lW ab.at1<|go ?_;refine Zp hm (fun hb hm=>go ?_) fun hb hm=>go ?_
   ·obtain ⟨a7,db,hm⟩:=bZ hm;refine Zi (Zya 2 3 db rfl da ab) ?_;rintro _ d4 ⟨dc,d5,d6,rfl,b9,ca,ad⟩;refine ⟨_,rfl,go ?_⟩;refine W6 (col:=dc) [a7.1] 5 ?_;intro d7 d8 d9 a8 dd;obtain ⟨de,hm⟩:=Z2 hm;replace bn:=(bn.kpp b9).gr a8;refine Vv bn (dd.srcN (NB.int (k:=.i64))) de ?_;intro cw cx ea eb bo ae;refine go ?_;obtain ⟨aw,cb,hm⟩:=bZ hm;replace aa:=((aa.kpp b9).grow a8).kpp bo;refine lI cb ((h1.ks aa).addr cb) ?_;obtain ⟨_,df,dg⟩:=(h1.ks aa).atN cb;obtain ⟨⟨cy,cz,rfl,ac⟩,_⟩:=df;refine lW dg.one<|go ?_;replace b8:=((b8.kpp b9).gr a8).kpp bo;replace ca:=(ca.gr a8).kpp bo;replace ad:=(ad.gr a8).kpp bo;refine Z5 [1,45,46,6,9,1000000] (fun n f ak=>∃ al a9 ba bb ax cc cd bp bc,n=bc.length∧aw.drop a9=bc∧Q5 N ai (U9 N ag aj) a7 bc ax bp=some r∧St w0 (Zk col) al ak∧Sl (Za.int .i64) al ak cy cz aw∧Zb (Za.int .i64) 3 1 al ak ba bb ax∧Zb (Za.int .i64) 3 3 al ak cc cd bp∧Zj 163 2 al ak aq #[.slice cc bp.length cd]∧Zb (Za.int .i64) 3 4 al ak cw cx (ai++[a7.1])∧[47,5].map f=[.int .i64 a9,.slice ba ax.length bb]) aw.length ⟨_,0,_,_,_,_,_,_,_,rfl,rfl,hm,aa,ac,b8,ca,ad,ae,rfl⟩ ?_;clear hm;intro n f ak hI;obtain ⟨al,a9,ba,bb,ax,cc,cd,bp,bc,hn,hl,hm,aa,ac,bd,be,ad,ae,hs⟩:=hI;subst hn;refine .lL [47,5] hs ?_
    cases bc with
    | nil=>
     have hk:¬ ((a9:Int)<(aw.length:Int)):=by have:=List.drop_eq_nil_iff.1 hl;omega
     have hkb:=decide_eq_false hk;rw [Q5.eq_1] at hm;refine go ?_;refine X4 (congrArg Value.bool hkb)<|go ?_;exact ⟨aj,by omega,rfl,⟨_,_,_,_,_,_,_,_,_,_,_,rfl,hm,aa,bd,be,ad,ae,rfl⟩⟩
    | cons dh c0=>
     obtain ⟨am,di,dj⟩:=Yg hl;have hk:(a9:Int)<(aw.length:Int):=by omega
     have hkb:=decide_eq_true hk;rw [Q5.eq_2] at hm;refine go ?_;refine X9 (congrArg Value.bool hkb)<|Yd<|Zw ?_;refine Wp.cutK [1,45,46,47,6,9,1000000] (fun f an=>∃ ao ce cf bq cg ch br,Zfs (Q5 N ai (U9 N ag aj) a7 c0) bq br=some r∧St w0 (Zk col) ao an∧Sl (Za.int .i64) ao an cy cz aw∧Zb (Za.int .i64) 3 1 ao an ce cf bq∧Zb (Za.int .i64) 3 3 ao an cg ch br∧Zj 163 2 ao an aq #[.slice cg br.length ch]∧Zb (Za.int .i64) 3 4 ao an cw cx (ai++[a7.1])∧[5].map f=[.slice ce bq.length cf]) ?_ ?_
     ·intro f an hJ;obtain ⟨ao,ce,cf,bq,cg,ch,br,hm,aa,ac,dl,dm,ad,ae,hs⟩:=hJ;rw [Zfs.eq_1] at hm;refine .lL [5] hs<|go ?_;exact ⟨c0.length,by simp,rfl,⟨_,_,_,_,_,_,_,_,_,rfl,di,hm,aa,ac,dl,dm,ad,ae,(Ym (congrArg (Value.int .i64) (Yk (Nat.lt_of_lt_of_le dj ac.1.1))) rfl)⟩⟩
     refine go ?_;refine lI am (ac.addr am)<|lW (ac.atInt am) ?_;refine go ?_;obtain ⟨c2,ay,hm⟩:=bZ hm;refine lI ay (bd.addr ay)<|lW (bd.atInt ay) ?_;refine go ?_;refine lI ay (bd.addr ay) ?_;obtain ⟨ci,bs,hm⟩:=bZ hm;have bs:ci=ax.set (Int.toNat dh) (i64.wrap (c2 - 1)):=(Option.some.inj bs).symm;refine Y0 (x1:=i64.wrap (c2 - 1)) bd ay ?_;intro ec bf dn ap;rw [← bs] at ap;refine .ld (d:=5) (v:=(.slice ba ci.length bb)) (congrArg (fun n=>Value.slice ba n bb) (show ax.length=ci.length by rw [bs,List.length_set])) ?_;refine go ?_;obtain ⟨ed,cj,hm⟩:=bZ hm;refine lI cj (ap.addr cj)<|lW (ap.atInt cj) ?_;refine go ?_;replace ac:=ac.kp bf;replace be:=be.kp bf;replace ae:=ae.kp bf;replace ad:=ad.kp bf;replace aa:=aa.kp bf dn;refine Zp hm (fun hb hm=>go ?_) fun hb hm=>?_
     ·obtain ⟨ee,dp,hm⟩:=bZ hm;refine Zi (Zqu 2 3 dp rfl be ad) ?_;rintro _ ef ⟨eg,eh,ei,rfl,bt,dq,dr⟩;refine ⟨_,rfl,?_⟩;refine Zm ?_;replace ac:=ac.kpp bt;replace ap:=ap.kpp bt;replace ae:=ae.kpp bt;replace aa:=aa.kpp bt;exact ⟨rfl,_,_,_,_,_,_,_,hm,aa,ac,ap,dq,dr,ae,rfl⟩
     refine Yd ?_;exact ⟨rfl,_,_,_,_,_,_,_,hm,aa,ac,ap,be,ad,ae,rfl⟩
   cases hm;exact ⟨rfl,_,_,_,rfl,aa.fin (cm [(4,c1)]),aa.fo bn⟩
 | cons c3 c4=>
  obtain ⟨am,ds,dt⟩:=Yg hl;have hk:(ah:Int)<(af.length:Int):=by omega
  have hkb:=decide_eq_true hk;rw [Q4.eq_2] at hm;refine go ?_;refine X9 (congrArg Value.bool hkb)<|Yd<|Zw ?_;refine Wp.cutK [1,16,17,18,6,1000000] (fun f bg=>∃ bh ck cl bu cn co bv,Zft ah (Q4 N ag c4) bu bv=some r∧St w0 (Zk col) bh bg∧Zb (Za.int .i64) 3 1 bh bg ck cl bu∧Zb (Za.int .i64) 3 3 bh bg cn co bv∧Zj 163 2 bh bg aq #[.slice cn bv.length co]∧[5].map f=[.slice ck bu.length cl]) ?_ ?_
  ·intro f bg hJ;obtain ⟨bh,ck,cl,bu,cn,co,bv,hm,aa,du,dv,ab,hs⟩:=hJ;rw [Zft.eq_1] at hm;refine .lL [5] hs<|go ?_;exact ⟨c4.length,by simp,rfl,⟨_,_,_,_,_,_,_,_,_,rfl,ds,hm,aa,du,dv,ab,(Ym (congrArg (Value.int .i64) (Yk (Nat.lt_of_lt_of_le dt (h0.ks aa).1.1))) rfl)⟩⟩
  refine go ?_;refine lI am ((h0.ks aa).addr am) ?_;obtain ⟨_,dw,dx⟩:=(h0.ks aa).atN am;obtain ⟨⟨ej,ek,rfl,el⟩,_⟩:=dw;refine lW dx.one<|go ?_;obtain ⟨em,cp,hm⟩:=bZ hm;refine lI cp (b1.addr cp) ?_;obtain ⟨cq,bw,hm⟩:=bZ hm;have bw:cq=ar.set (Int.toNat (ah:Int)) (c3.length:Int):=(Option.some.inj bw).symm;refine Y0 (x1:=(c3.length:Int)) b1 cp ?_;intro en cr dy bi;rw [← bw] at bi;refine .ld (d:=5) (v:=(.slice a3 cq.length a4)) (congrArg (fun n=>Value.slice a3 n a4) (show ar.length=cq.length by rw [bw,List.length_set])) ?_;refine go ?_;replace a6:=a6.kp cr;replace ab:=ab.kp cr;replace aa:=aa.kp cr dy;refine Zp hm (fun hb hm=>go ?_) fun hb hm=>?_
  ·obtain ⟨eo,dz,hm⟩:=bZ hm;refine Zi (Zqu 2 3 dz rfl a6 ab) ?_;rintro _ ep ⟨eq,er,es,rfl,c5,d0,d1⟩;refine ⟨_,rfl,?_⟩;refine Zm ?_;replace bi:=bi.kpp c5;replace aa:=aa.kpp c5;exact ⟨rfl,_,_,_,_,_,_,_,hm,aa,bi,d0,d1,rfl⟩
  refine Yd ?_;exact ⟨rfl,_,_,_,_,_,_,_,hm,aa,bi,a6,ab,rfl⟩
def Ua (N:Nat) (aa:Ra):Option R8:=
  (Zfm aa).bind fun ab=>if (!decide (ab=0))=true then (some (([]:List Int),ab)) else ((Zfl aa).bind fun ad=>(Zfr N aa ad).bind fun ac=>if (decide ((ac.length:Int)<(aa.length:Int)))=true then (some (([]:List Int),42)) else (some (ac,0)))
theorem Zj8 {N ad:Nat} {a0:Option Addr} {col:Zd} {w0:World} {ab:Ra} {r:R8} (c1:Nat) (hm:Ua N ab=some r) (h0:Sl (Za.slice (Za.int .i64)) col w0 a0 ad ab):
    Calls Tryz.prog 45 #[.slice a0 ab.length ad] w0 (fun e w'=>∃ (col':Zd) (ra1:Option Addr) (rc2:Nat),e= .returned (.tuple #[.slice ra1 r.1.length rc2,.int .i64 r.2])∧Zg col w0 col' w'∧Zb (Za.int .i64) 3 c1 col' w' ra1 rc2 r.1):=by
 refine Zbv 2 3 (m:=21) (args:=[.slice a0 ab.length ad]) func45 rfl rfl rfl rfl rfl ?_;rw [Ua.eq_1] at hm;have aa:=St.start col w0;refine go ?_;obtain ⟨ap,ah,hm⟩:=bZ hm;replace h0:=h0.keep (Zl.start col w0);refine Zi (Zx9 ah (h0.ks aa)) ?_;rintro _ ai ⟨rfl,ae⟩;refine ⟨_,rfl,?_⟩;replace ae:Zg (Zk col) w0 (Zk col) ai:=.of_below ae;refine go ?_;replace aa:=aa.grow ae;refine Zp hm (fun hb hm=>go ?_) fun hb hm=>go ?_
 ·cases hm;exact ⟨rfl,_,none,0,rfl,aa.fin (cm []),Zb.nil⟩
 obtain ⟨aq,aj,hm⟩:=bZ hm;refine Zi (Zx8 1 aj (h0.ks aa)) ?_;rintro _ ak ⟨af,ar,au,rfl,al,am⟩;refine ⟨_,rfl,?_⟩;obtain ⟨av,an,hm⟩:=bZ hm;replace aa:=aa.grow al;refine Zi (Zyb 2 an ((h0.ks aa).froz 1) (am.toSlF (Ze.row (Ze.int .i64)))) ?_;rintro _ aw ⟨ao,ax,ay,rfl,ac,ag⟩;refine ⟨_,rfl,?_⟩;replace ag:=ag.thaw (Zs .i64) ac ((Fz.refl (col:=af)).froz 1) (by decide);replace ac:=ac.thawR (col:=af);generalize Z1 ak.heap.size af ao=az at *;refine go ?_;replace aa:=aa.grow ac;refine Zp hm (fun hb hm=>go ?_) fun hb hm=>go ?_
 ·cases hm;exact ⟨rfl,_,none,0,rfl,aa.fin (cm []),Zb.nil⟩
 cases hm;exact ⟨rfl,_,_,_,rfl,aa.fin (cm [(2,c1)]),aa.fo ag⟩
def Qd (N:Nat) (aa:Ra):Option Int:=
  (Ua N aa).bind fun ab=>some ab.2
theorem Zx7 {N ad:Nat} {a0:Option Addr} {col:Zd} {w0:World} {ac:Ra} {r:Int} (hm:Qd N ac=some r) (h0:Sl (Za.slice (Za.int .i64)) col w0 a0 ad ac):
    Calls Tryz.prog 89 #[.slice a0 ac.length ad] w0 (fun e w'=>e= .returned ((.int .i64 r))∧Below w0.heap.size w0 w'):=by
 refine Xl 2 (m:=11) func89 rfl rfl rfl rfl rfl ?_;rw [Qd.eq_1] at hm;have aa:=St.start col w0;refine go ?_;obtain ⟨ab,ag,hm⟩:=bZ hm;replace h0:=h0.keep (Zl.start col w0);refine Zi (Zj8 1 ag (h0.ks aa)) ?_;rintro _ ai ⟨aj,ae,af,rfl,ah,ak⟩;refine ⟨_,rfl,?_⟩;refine lM (.tuple #[.slice ae ab.1.length af,.int .i64 ab.2])<|lV (.slice ae ab.1.length af) (Z8 rfl rfl)<|lV (.int .i64 ab.2) (Z8 rfl rfl)<|go ?_;cases hm;replace aa:=aa.grow ah;exact ⟨rfl,rfl,aa.below⟩
def Zlf (aa:Int) (kk_L2:(Int→Option Bool)) (ab:Bool):Option Bool:=
  if ab=true then (some false) else (kk_L2 (i64.wrap (aa+1)))
def Zix (N:Nat) (aa:Ra) (ab:Int) (kk_L1:(Int→Option Bool)):Nat→Int→Option Bool
  | 0,_=>none
  | ad+1,ac=>(Zn aa ab).bind fun ae=>if (decide (ac<(ae.length:Int)))=true then ((Zn ae ac).bind fun af=>if (decide (af<0))=true then (Zlf ac (Zix N aa ab kk_L1 ad) true) else (Zlf ac (Zix N aa ab kk_L1 ad) (decide ((aa.length:Int)≤af)))) else (kk_L1 (i64.wrap (ab+1)))
termination_by structural x=>x
def Ziw (N:Nat) (aa:Ra):Nat→Int→Option Bool
  | 0,_=>none
  | ac+1,ab=>if (decide (ab<(aa.length:Int)))=true then (Zix N aa ab (Ziw N aa ac) N 0) else (some true)
termination_by structural x=>x
def Zle (N:Nat) (aa:Ra):Option Bool:=
  Ziw N aa N 0
def Zld (N:Nat) (aa:List Int) (ac:Int):Nat→Int→Option Bool
  | 0,_=>none
  | ad+1,ab=>if (decide (ab<(aa.length:Int)))=true then ((Zn aa ab).bind fun ae=>if (decide (ae=ac))=true then (some true) else ((Zld N aa ac ad) (i64.wrap (ab+1)))) else (some false)
termination_by structural x=>x
def Ziv (N:Nat) (aa:List Int) (ab:Int):Option Bool:=
  Zld N aa ab N 0
def Zlj (N:Nat) (ad:Ra) (ac:Int) (kk_L1:(Int→Option Bool)):Nat→Int→Option Bool
  | 0,_=>none
  | ae+1,aa=>(Zn ad ac).bind fun ab=>if (decide (aa<(ab.length:Int)))=true then (Z0 ((0:Int)≤aa∧aa≤(ab.length:Int)) ((Zn ab aa).bind fun af=>(Ziv N (ab.take (Int.toNat aa)) af).bind fun ag=>if ag=true then (some true) else ((Zlj N ad ac kk_L1 ae) (i64.wrap (aa+1))))) else (kk_L1 (i64.wrap (ac+1)))
termination_by structural x=>x
def Ziz (N:Nat) (aa:Ra):Nat→Int→Option Bool
  | 0,_=>none
  | ac+1,ab=>if (decide (ab<(aa.length:Int)))=true then (Zlj N aa ab (Ziz N aa ac) N 0) else (some false)
termination_by structural x=>x
def Zli (N:Nat) (aa:Ra):Option Bool:=
  Ziz N aa N 0
def Zlg (aa:Int) (kk_L2:(Int→Int→Option R2)) (ab:Int):Option R2:=
  kk_L2 ab (i64.wrap (aa+1))
def Zlh (aa:Int) (kk_L3:(Bool→Int→Option R2)) (ab:Bool):Option R2:=
  kk_L3 ab (i64.wrap (aa+1))
def Ziy (N:Nat) (ac:Ra) (ad:List Int) (ae:Int) (aa:Int) (kk_L2:(Int→Int→Option R2)):Nat→Bool→Int→Option R2
  | 0,_,_=>none
  | af+1,ag,ab=>(Zn ac aa).bind fun ah=>if (decide (ab<(ah.length:Int)))=true then (if ag=true then ((Zn ah ab).bind fun ai=>(Ziv N ad ai).bind fun aj=>Zlh ab (Ziy N ac ad ae aa kk_L2 af) aj) else (Zlh ab (Ziy N ac ad ae aa kk_L2 af) false)) else (if ag=true then (Zlg aa kk_L2 aa) else (Zlg aa kk_L2 ae))
termination_by structural x=>x
def Zgy (N:Nat) (ad:Ra) (aa:List Int) (kk_L1:(List Int→Option R2)) (ab:Int) (ac:Int) (kk_L2:(Int→Int→Option R2)) (ae:Bool):Option R2:=
  if ae=true then ((Ziv N aa ac).bind fun af=>Ziy N ad aa ab ac kk_L2 N (!af) 0) else (if (decide (ab<0))=true then (some aa) else (Z0 ((aa.length+[ab].length) * 8≤140737488355328∧aa.length+[ab].length≤maxLen) (kk_L1 (aa++[ab]))))
def Zec (N:Nat) (aa:Ra) (ab:List Int) (kk_L1:(List Int→Option R2)):Nat→Int→Int→Option R2
  | 0,_,_=>none
  | ae+1,ac,ad=>if (decide (ad<(aa.length:Int)))=true then (Zgy N aa ab kk_L1 ac ad (Zec N aa ab kk_L1 ae) (decide (ac<0))) else (Zgy N aa ab kk_L1 ac ad (Zec N aa ab kk_L1 ae) false)
termination_by structural x=>x
def Zbg (N:Nat) (aa:Ra):Nat→R2→Option R2
  | 0,_=>none
  | ab+1,ac=>Zec N aa ac (Zbg N aa ab) N (-1) 0
termination_by structural x=>x
def Qk (N:Nat) (aa:Ra):Option R2:=
  Zbg N aa N ([]:List Int)
def Zgx (N:Nat) (aa:Ra):Option Int:=
  (Zle N aa).bind fun ab=>if (!ab)=true then (some 3) else ((Zli N aa).bind fun ac=>if ac=true then (some 40) else ((Qk N aa).bind fun ad=>if (decide ((ad.length:Int)<(aa.length:Int)))=true then (some 42) else (some 0)))
theorem Zqj (N:Nat) (l:List Int) (x:Int) (hl:l.length≤1048576):∀ (n k:Nat),l.length<n+k→k≤l.length→Zld N l x n (k:Int)=some (decide (x ∈ l.drop k))
 | 0,k,h,hk=>by omega
 | n+1,k,h,hk=>by
  rw [Zld.eq_2]
  by_cases hlt:k<l.length
  ·rw [if_pos (by simpa using hlt),Xk hlt,Option.bind_some,wS (by omega),Zqj N l x hl n (k+1) (by omega) (by omega),List.drop_eq_getElem_cons hlt]
   by_cases he:l[k]=x
   ·rw [if_pos (by simpa using he),decide_eq_true (by rw [he];exact List.mem_cons_self)]
   ·rw [if_neg (by simpa using he)]
    exact congrArg some (decide_eq_decide.2 ⟨fun h=>List.mem_cons_of_mem _ h,fun h=>(List.mem_cons.1 h).resolve_left (Ne.symm he)⟩)
  ·rw [if_neg (by simpa using hlt),List.drop_eq_nil_of_le (by omega)];simp
theorem Zmw {N:Nat} {l:List Int} {x:Int} (hl:l.length≤1048576) (hN:1048576<N):Ziv N l x=some (decide (x ∈ l)):=by
 rw [Ziv];simpa using Zqj N l x hl N 0 (by omega) (by omega)
def Uj (m:Int) (P:List R2):Bool:=P.all fun l=>l.all fun p=>decide (0≤p∧p<m)
theorem Zs6 (N:Nat) (P:List R2) (i:Nat) (hi:i<P.length) (hP:P.length≤1048576) (hl:P[i].length≤1048576) (kk:Int→Option Bool):∀ (n k:Nat),P[i].length<n+k→k≤P[i].length→
  Zix N P (i:Int) kk n (k:Int)=if (P[i].drop k).all (fun p=>decide (0≤p∧p<(P.length:Int))) then kk ((i+1:Nat):Int) else some false
 | 0,k,h,hk=>by omega
 | n+1,k,h,hk=>by
  rw [Zix.eq_2,Xk hi,Option.bind_some]
  by_cases hlt:k<P[i].length
  ·rw [if_pos (by simpa using hlt),Xk hlt,Option.bind_some,Zlf,Zlf,wS (by omega),Zs6 N P i hi hP hl kk n (k+1) (by omega) (by omega),List.drop_eq_getElem_cons hlt]
   by_cases h1:P[i][k]<0
   ·rw [if_pos (by simpa using h1),if_pos rfl,if_neg (fun h=>by rw [List.all_cons,Bool.and_eq_true,decide_eq_true_eq] at h;omega)]
   ·rw [if_neg (by simpa using h1)]
    by_cases h2:(P.length:Int)≤P[i][k]
    ·rw [if_pos (by simpa using h2),if_neg (fun h=>by rw [List.all_cons,Bool.and_eq_true,decide_eq_true_eq] at h;omega)]
    ·rw [if_neg (by simpa using h2)]
     simp only [List.all_cons,Bool.and_eq_true]
     have h3:decide (0≤P[i][k]∧P[i][k]<(P.length:Int))=true:=by simp;omega
     simp only [h3,true_and]
  ·rw [if_neg (by simpa using hlt),List.drop_eq_nil_of_le (by omega),wS (by omega)];simp
theorem Zs5 (N:Nat) (P:List R2) (hP:P.length≤1048576) (hl:∀ l ∈ P,l.length≤1048576) (hN:1048576<N):∀ (n i:Nat),P.length<n+i→i≤P.length→
  Ziw N P n (i:Int)=some (Uj P.length (P.drop i))
 | 0,i,h,hi=>by omega
 | n+1,i,h,hi=>by
  rw [Ziw.eq_2]
  by_cases hlt:i<P.length
  ·have h0:=Zs6 N P i hlt hP (hl _ (List.getElem_mem hlt)) (Ziw N P n) N 0 (by have:=hl _ (List.getElem_mem hlt);omega) (by omega)
   rw [if_pos (by simpa using hlt)]
   rw [show (0:Int)=((0:Nat):Int) from rfl,h0,Zs5 N P hP hl hN n (i+1) (by omega) (by omega),List.drop_eq_getElem_cons hlt]
   simp only [Uj,List.all_cons,List.drop_zero]
   by_cases h1:(P[i].all fun p=>decide (0≤p∧p<(P.length:Int)))=true
   ·rw [if_pos h1,h1,Bool.true_and]
   ·rw [if_neg h1,Bool.eq_false_iff.2 h1,Bool.false_and]
  ·rw [if_neg (by simpa using hlt),List.drop_eq_nil_of_le (by omega)];rfl
theorem Z1c {N:Nat} {P:List R2} (hP:P.length≤1048576) (hl:∀ l ∈ P,l.length≤1048576) (hN:1048576<N):Zle N P=some (Uj P.length P):=by
 rw [Zle];simpa using Zs5 N P hP hl hN N 0 (by omega) (by omega)
def Ti (P:List R2):Bool:=P.any fun l=>!decide l.Nodup
theorem Zui (l:List Int) (k:Nat) (hk:k<l.length):(l.take (k+1)).Nodup↔(l.take k).Nodup∧l[k] ∉ l.take k:=by
 rw [List.take_succ_eq_append_getElem hk,List.nodup_append]
 simp only [List.nodup_cons,List.not_mem_nil,not_false_eq_true,List.nodup_nil,and_self,List.mem_singleton,true_and]
 constructor
 ·rintro ⟨h1,h2⟩;exact ⟨h1,fun h=>h2 _ h _ rfl rfl⟩
 ·rintro ⟨h1,h2⟩;exact ⟨h1,fun a ha b hb e=>h2 (by rw [← hb,← e];exact ha)⟩
theorem Zxb (N:Nat) (P:List R2) (i:Nat) (hi:i<P.length) (hP:P.length≤1048576) (hl:P[i].length≤1048576) (hN:1048576<N) (kk:Int→Option Bool):∀ (n k:Nat),P[i].length<n+k→k≤P[i].length→(P[i].take k).Nodup→
  Zlj N P (i:Int) kk n (k:Int)=if P[i].Nodup then kk ((i+1:Nat):Int) else some true
 | 0,k,h,hk,_=>by omega
 | n+1,k,h,hk,hnd=>by
  rw [Zlj.eq_2,Xk hi,Option.bind_some]
  by_cases hlt:k<P[i].length
  ·rw [if_pos (by simpa using hlt),Xi (by omega),Xk hlt,Option.bind_some,Zmw (by simp;omega) hN,Option.bind_some,Int.toNat_natCast]
   by_cases h1:P[i][k] ∈ P[i].take k
   ·rw [if_pos (by simpa using h1),if_neg]
    intro h2
    exact ((Zui _ k hlt).1 (h2.sublist (List.take_sublist _ _))).2 h1
   ·rw [if_neg (by simpa using h1),wS (by omega)]
    exact Zxb N P i hi hP hl hN kk n (k+1) (by omega) (by omega) ((Zui _ k hlt).2 ⟨hnd,h1⟩)
  ·rw [if_neg (by simpa using hlt),wS (by omega)]
   rw [List.take_of_length_le (by omega)] at hnd
   rw [if_pos hnd]
theorem Zxa (N:Nat) (P:List R2) (hP:P.length≤1048576) (hl:∀ l ∈ P,l.length≤1048576) (hN:1048576<N):∀ (n i:Nat),P.length<n+i→i≤P.length→
  Ziz N P n (i:Int)=some (Ti (P.drop i))
 | 0,i,h,hi=>by omega
 | n+1,i,h,hi=>by
  rw [Ziz.eq_2]
  by_cases hlt:i<P.length
  ·have h0:=Zxb N P i hlt hP (hl _ (List.getElem_mem hlt)) hN (Ziz N P n) N 0 (by have:=hl _ (List.getElem_mem hlt);omega) (by omega) (by simp)
   rw [if_pos (by simpa using hlt)]
   rw [show (0:Int)=((0:Nat):Int) from rfl,h0,Zxa N P hP hl hN n (i+1) (by omega) (by omega),List.drop_eq_getElem_cons hlt]
   simp only [Ti,List.any_cons]
   by_cases h1:P[i].Nodup
   ·rw [if_pos h1];simp [h1]
   ·rw [if_neg h1];simp [h1]
  ·rw [if_neg (by simpa using hlt),List.drop_eq_nil_of_le (by omega)];rfl
theorem Z4c {N:Nat} {P:List R2} (hP:P.length≤1048576) (hl:∀ l ∈ P,l.length≤1048576) (hN:1048576<N):Zli N P=some (Ti P):=by
 rw [Zli];simpa using Zxa N P hP hl hN N 0 (by omega) (by omega)
def Th (P:List R2):Nat:=(P.map List.length).sum
theorem Zjp (l:List Int) (P:List R2):Th (l :: P)=l.length+Th P:=by simp [Th]
theorem Zmo {l:List Int}:∀ {P:List R2},l ∈ P→l.length≤Th P
 | x :: P,h=>by
  rw [Zjp]
  rcases List.mem_cons.1 h with rfl | h
  ·omega
  ·have:=Zmo h;omega
def Znt:Nat→List R2→List Rb
 | _,[]=>[]
 | k,l :: P=>l.map (fun p=>(p,(k:Int)))++Znt (k+1) P
theorem Z0i:∀ (k:Nat) (P:List R2),(Znt k P).length=Th P
 | _,[]=>rfl
 | k,l :: P=>by rw [Znt,List.length_append,List.length_map,Z0i,Zjp]
def Tt (P:List R2) (l:List Int) (i:Nat):Bool:=!decide ((i:Int) ∈ l)&&(P.getD i []).all fun p=>decide (p ∈ l)
def Vc (P:List R2) (l:List Int) (i:Nat):Option Nat:=(List.range' i (P.length - i)).find? (Tt P l)
theorem Z2c (P:List R2) (l:List Int) (i:Nat) (h:P.length≤i):Vc P l i=none:=by
 rw [Vc,Nat.sub_eq_zero_of_le h];rfl
theorem Z2e (P:List R2) (l:List Int) (i:Nat) (h:i<P.length):Vc P l i=if Tt P l i then some i else Vc P l (i+1):=by
 rw [Vc,Vc,show P.length - i=(P.length - (i+1))+1 by omega,List.range'_succ,List.find?_cons]
 cases Tt P l i <;> simp
section
variable (N:Nat) (P:List R2) (l:List Int)
theorem Zo9 (hP:P.length≤1048576) (hl:l.length≤1048576) (hN:1048576<N) (next:Int) (i:Nat) (hi:i<P.length) (hli:P[i].length≤1048576) (kk:Int→Int→Option R2):∀ (n:Nat) (b:Bool) (k:Nat),P[i].length<n+k→k≤P[i].length→
  Ziy N P l next (i:Int) kk n b (k:Int)=kk (if (b&&(P[i].drop k).all fun p=>decide (p ∈ l))=true then (i:Int) else next) ((i+1:Nat):Int)
 | 0,b,k,h,hk=>by omega
 | n+1,b,k,h,hk=>by
  rw [Ziy.eq_2,Xk hi,Option.bind_some]
  by_cases hlt:k<P[i].length
  ·rw [if_pos (by simpa using hlt),Xk hlt,Option.bind_some,Zmw hl hN,Option.bind_some,Zlh,Zlh,wS (by omega),Zo9 hP hl hN next i hi hli kk n _ (k+1) (by omega) (by omega),Zo9 hP hl hN next i hi hli kk n _ (k+1) (by omega) (by omega),List.drop_eq_getElem_cons hlt,List.all_cons]
   cases b
   ·rw [if_neg (by decide),Bool.false_and,Bool.false_and]
   ·rw [if_pos rfl,Bool.true_and]
  ·rw [if_neg (by simpa using hlt),List.drop_eq_nil_of_le (by omega),Zlg,Zlg,wS (by omega),List.all_nil,Bool.and_true]
   cases b
   ·rw [if_neg (by decide),if_neg (by decide)]
   ·rw [if_pos rfl,if_pos rfl]
def Zva (kk:List Int→Option R2):Option Nat→Option R2
 | none=>some l
 | some i=>kk (l++[(i:Int)])
theorem Zus (hl:l.length<1048576) (kk:List Int→Option R2) (i:Nat) (i':Int) (kk2:Int→Int→Option R2):Zgy N P l kk (i:Int) i' kk2 false=kk (l++[(i:Int)]):=by
 rw [Zgy,if_neg (by decide),if_neg (by rw [decide_eq_true_eq];omega),Xi (by simp only [List.length_cons,List.length_nil,maxLen];omega)]
theorem Zur (hP:P.length≤1048576) (hls:∀ x ∈ P,x.length≤1048576) (hl:l.length<1048576) (hN:1048576<N) (kk:List Int→Option R2):∀ (n i:Nat),P.length<n+i→i≤P.length→
  Zec N P l kk n (-1) (i:Int)=Zva l kk (Vc P l i)
 | 0,i,h,hi=>by omega
 | n+1,i,h,hi=>by
  rw [Zec.eq_2]
  by_cases hlt:i<P.length
  ·have h3:=Zo9 N P l hP (by omega) hN (-1) i hlt (hls _ (List.getElem_mem hlt)) (Zec N P l kk n) N (!decide ((i:Int) ∈ l)) 0 (by have:=hls _ (List.getElem_mem hlt);omega) (by omega)
   rw [if_pos (by simpa using hlt),Zgy,if_pos (by decide),Zmw (by omega) hN,Option.bind_some]
   rw [show (0:Int)=((0:Nat):Int) from rfl,h3,Z2e P l i hlt,List.drop_zero]
   have hb:(!decide ((i:Int) ∈ l)&&P[i].all fun p=>decide (p ∈ l))=Tt P l i:=by
    rw [Tt,List.getD_eq_getElem?_getD,List.getElem?_eq_getElem hlt];rfl
   rw [hb]
   by_cases hr:Tt P l i=true
   ·rw [if_pos hr,if_pos hr]
    match n,h with
    | 0,h=>omega
    | n+1,h=>
     rw [Zec.eq_2]
     by_cases h2:i+1<P.length
     ·rw [if_pos (decide_eq_true (by omega)),show decide ((i:Int)<0)=false from decide_eq_false (by omega)]
      exact Zus N P l hl kk i _ _
     ·rw [if_neg (by rw [decide_eq_true_eq];omega)]
      exact Zus N P l hl kk i _ _
   ·rw [if_neg hr,if_neg hr]
    exact Zur hP hls hl hN kk n (i+1) (by omega) (by omega)
  ·rw [if_neg (by simpa using hlt),Z2c P l i (by omega),Zgy,if_neg (by decide),if_pos (by decide)];rfl
end
theorem Zpa {N:Nat} {P:List R2} {l:List Int} (hP:P.length≤1048576) (hls:∀ x ∈ P,x.length≤1048576) (hl:l.length<1048576) (hN:1048576<N) (n:Nat):
  Zbg N P (n+1) l=Zva l (Zbg N P n) (Vc P l 0):=by
 rw [Zbg.eq_2]
 exact Zur N P l hP hls hl hN _ N 0 (by omega) (by omega)
theorem Zo4 {P:List R2} {l:List Int} {i j:Nat} (h:Vc P l i=some j):i≤j∧j<P.length∧Tt P l j=true∧∀ k,i≤k→k<j→Tt P l k=false:=by
 rw [Vc,List.find?_range'_eq_some] at h
 obtain ⟨h1,h2,h3⟩:=h
 rw [List.mem_range'] at h2
 obtain ⟨q,h4,h5⟩:=h2
 refine ⟨by omega,by omega,h1,fun k hk1 hk2=>?_⟩
 have:=h3 k hk1 hk2
 simpa using this
theorem Z2d {P:List R2} {l:List Int} {i:Nat} (h:Vc P l i=none):∀ k,i≤k→k<P.length→Tt P l k=false:=by
 rw [Vc,List.find?_eq_none] at h
 intro k hk1 hk2
 have:=h k (by rw [List.mem_range'];exact ⟨k - i,by omega,by omega⟩)
 simpa using this
theorem Zvx {P:List R2} {l:List Int} {i:Nat} (hi:i<P.length):Tt P l i=true↔(i:Int) ∉ l∧∀ p ∈ P[i],p ∈ l:=by
 rw [Tt,List.getD_eq_getElem?_getD,List.getElem?_eq_getElem hi]
 simp
def Ut (P:List R2) (l:List Int):Prop:=l.Nodup∧(∀ x ∈ l,0≤x∧x<(P.length:Int))∧∀ (i:Nat) (hi:i<P.length),(i:Int) ∈ l→∀ p ∈ P[i],p ∈ l
theorem Ut.len {P:List R2} {l:List Int} (h:Ut P l):l.length≤P.length:=by
 have h1:=Zg5 (r:=(List.range P.length).map fun i:Nat=>(i:Int)) h.1 fun x hx=>by
  have:=h.2.1 x hx
  exact List.mem_map.2 ⟨x.toNat,List.mem_range.2 (by omega),by omega⟩
 simpa using h1
theorem Ut.step {P:List R2} {l:List Int} {j:Nat} (h:Ut P l) (hn:Vc P l 0=some j):Ut P (l++[(j:Int)])∧l.length<P.length:=by
 obtain ⟨_,h2,h3,_⟩:=Zo4 hn
 obtain ⟨h4,h5⟩:=(Zvx h2).1 h3
 have h6:Ut P (l++[(j:Int)]):=by
  refine ⟨?_,?_,?_⟩
  ·rw [List.nodup_append]
   refine ⟨h.1,by simp,fun a ha b hb e=>?_⟩
   rw [List.mem_singleton] at hb;subst hb;subst e;exact h4 ha
  ·intro x hx
   rcases List.mem_append.1 hx with hx | hx
   ·exact h.2.1 x hx
   ·rw [List.mem_singleton] at hx;omega
  ·intro i hi hm p hp
   rcases List.mem_append.1 hm with hm | hm
   ·exact List.mem_append_left _ (h.2.2 i hi hm p hp)
   ·rw [List.mem_singleton] at hm
    have:i=j:=by omega
    subst this
    exact List.mem_append_left _ (h5 p hp)
 exact ⟨h6,by have:=h6.len;rw [List.length_append,List.length_cons,List.length_nil] at this;omega⟩
theorem Zut {N:Nat} {P:List R2} (hP:P.length<1048576) (hls:∀ x ∈ P,x.length≤1048576) (hN:1048576<N):∀ (n:Nat) (l:List Int),Ut P l→P.length<n+l.length→
  ∃ r,Zbg N P n l=some r∧Ut P r∧Vc P r 0=none
 | 0,l,h,hn=>by have:=h.len;omega
 | n+1,l,h,hn=>by
  have hl:=h.len
  rw [Zpa (by omega) hls (by omega) hN]
  cases hnx:Vc P l 0 with
  | none=>exact ⟨l,rfl,h,hnx⟩
  | some j=>
   obtain ⟨h1,h2⟩:=h.step hnx
   exact Zut hP hls hN n _ h1 (by simp;omega)
theorem Z2n {N:Nat} {P:List R2} (hP:P.length<1048576) (hls:∀ x ∈ P,x.length≤1048576) (hN:1048576<N):∃ r,Qk N P=some r∧Ut P r∧Vc P r 0=none:=by
 rw [Qk]
 exact Zut hP hls hN N [] ⟨.nil,by simp,by simp⟩ (by simp;omega)
def gD (h:List Int) (j:Nat):Int:=h.getD j 0
theorem S9 {h:List Int} {j:Nat} (hj:j<h.length):gD h j=h[j]:=by rw [gD,List.getD_eq_getElem?_getD,List.getElem?_eq_getElem hj];rfl
theorem Qu {h:List Int} {j:Nat} (hj:j<h.length):Zn h (j:Int)=some (gD h j):=by rw [Xk hj,S9 hj]
def Tu (h:List Int) (i p:Nat):List Int:=(h.set i (gD h p)).set p (gD h i)
theorem Zjn (h:List Int) (i p:Nat):(Tu h i p).length=h.length:=by simp [Tu]
theorem Zw0 {h:List Int} {i p:Nat} (hi:i<h.length) (hp:p<h.length):(Tu h i p).Perm h:=by
 rw [Tu,S9 hi,S9 hp];exact List.set_set_perm hi hp
theorem Zkl (h:List Int) (i j:Nat) (x:Int) (hi:i<h.length):gD (h.set i x) j=if j=i then x else gD h j:=by
 rw [gD,gD,List.getD_eq_getElem?_getD,List.getD_eq_getElem?_getD,List.getElem?_set]
 by_cases h1:i=j
 ·subst h1;rw [if_pos rfl,if_pos hi,if_pos rfl];rfl
 ·rw [if_neg h1,if_neg (Ne.symm h1)]
theorem Zb0 {h:List Int} {i p:Nat} (hi:i<h.length) (hp:p<h.length) (j:Nat):gD (Tu h i p) j=if j=p then gD h i else if j=i then gD h p else gD h j:=by
 rw [Tu,Zkl _ _ _ _ (by simpa using hp),Zkl _ _ _ _ hi]
def Sg (h:List Int) (n:Nat):Prop:=∀ j,0<j→j<n→gD h ((j - 1) / 2)≤gD h j
theorem Sg.min {h:List Int} {n:Nat} (hh:Sg h n):∀ j,j<n→gD h 0≤gD h j:=by
 intro j
 induction j using Nat.strongRecOn with
 | ind j ih=>
  intro hj
  by_cases h0:j=0
  ·subst h0;exact Int.le_refl _
  ·exact Int.le_trans (ih ((j - 1) / 2) (by omega) (by omega)) (hh j (by omega) hj)
/-! ### push -/
def Zj2 (h:List Int) (i:Nat):Prop:=(∀ j,0<j→j<h.length→j≠i→gD h ((j - 1) / 2)≤gD h j)∧∀ j,0<j→j<h.length→(j - 1) / 2=i→0<i→gD h ((i - 1) / 2)≤gD h j
theorem Zj2.step {h:List Int} {i:Nat} (hu:Zj2 h i) (hi:i<h.length) (h0:0<i) (hlt:gD h i<gD h ((i - 1) / 2)):Zj2 (Tu h i ((i - 1) / 2)) ((i - 1) / 2):=by
 have hp:(i - 1) / 2<h.length:=by omega
 refine ⟨fun j hj0 hj hjp=>?_,fun j hj0 hj hjp hp0=>?_⟩
 ·rw [Zjn] at hj
  rw [Zb0 hi hp,Zb0 hi hp,if_neg hjp]
  by_cases hji:j=i
  ·subst hji;rw [if_pos rfl,if_pos rfl];omega
  ·rw [if_neg hji]
   have h1:=hu.1 j hj0 hj hji
   by_cases hq:(j - 1) / 2=(i - 1) / 2
   ·rw [if_pos hq];rw [hq] at h1;omega
   ·rw [if_neg hq]
    by_cases hq2:(j - 1) / 2=i
    ·rw [if_pos hq2];exact hu.2 j hj0 hj hq2 h0
    ·rw [if_neg hq2];exact h1
 ·rw [Zjn] at hj
  rw [Zb0 hi hp,Zb0 hi hp,if_neg (by omega),if_neg (by omega),if_neg (by omega)]
  have h1:=hu.1 ((i - 1) / 2) hp0 hp (by omega)
  by_cases hji:j=i
  ·rw [if_pos hji];exact h1
  ·rw [if_neg hji]
   have h2:=hu.1 j hj0 hj hji
   rw [hjp] at h2;omega
theorem Zuz {i:Nat} (h0:0<i) (h1:i≤9000000):i64.wrap (Int.tdiv (i64.wrap ((i:Int) - 1)) 2)=(((i - 1) / 2:Nat):Int):=by
 rw [Z4 (x:=(i:Int) - 1) (by omega),Int.tdiv_eq_ediv_of_nonneg (by omega),Z4 (by omega)];omega
theorem Zu8 (N:Nat):∀ (n:Nat) (h:List Int) (i:Nat),i<n→i<h.length→h.length≤9000000→Zj2 h i→
  ∃ h',Zaz N n h (i:Int)=some h'∧h'.Perm h∧Sg h' h'.length
 | 0,h,i,hn,_,_,_=>by omega
 | n+1,h,i,hn,hi,hl,hu=>by
  rw [Zaz.eq_2]
  by_cases h0:0<i
  ·have hp:(i - 1) / 2<h.length:=by omega
   rw [if_pos (decide_eq_true (by omega)),Qu hi,Option.bind_some,Zuz h0 (by omega),Qu hp,Option.bind_some,Zfq,Zuz h0 (by omega)]
   by_cases hlt:gD h i<gD h ((i - 1) / 2)
   ·obtain ⟨h',h1,h2,h3⟩:=Zu8 N n (Tu h i ((i - 1) / 2)) ((i - 1) / 2) (by omega) (by rw [Zjn];exact hp) (by rw [Zjn];exact hl) (hu.step hi h0 hlt)
    refine ⟨h',?_,h2.trans (Zw0 hi hp),h3⟩
    rw [if_pos (decide_eq_true hlt),Qu hp,Option.bind_some,Qu hi,Option.bind_some,Option.bind_some,Int.toNat_natCast,Int.toNat_natCast,Xk (by simpa using hp),Option.bind_some,Option.bind_some]
    exact h1
   ·refine ⟨h,by rw [if_neg (by simpa using hlt)],.refl _,fun j hj0 hj=>?_⟩
    by_cases hji:j=i
    ·subst hji;omega
    ·exact hu.1 j hj0 hj hji
  ·have:i=0:=by omega
   subst this
   rw [if_neg (by decide),Zfq,if_neg (by decide)]
   exact ⟨h,rfl,.refl _,fun j hj0 hj=>hu.1 j hj0 hj (by omega)⟩
theorem Zst {h:List Int} {x:Int} {j:Nat} (hj:j<h.length):gD (h++[x]) j=gD h j:=by
 rw [S9 hj,S9 (by simp;omega),List.getElem_append_left hj]
theorem Zu9 {N:Nat} {h:List Int} (x:Int) (hl:h.length<2000000) (hh:Sg h h.length) (hN:2000000<N):∃ h',Zfp N h x=some h'∧h'.Perm (x :: h)∧Sg h' h'.length:=by
 rw [Zfp,Xi (by simp only [List.length_cons,List.length_nil,maxLen];omega)]
 have hle:(h++[x]).length=h.length+1:=by simp
 rw [Z4 (by omega),show (((h++[x]).length:Int) - 1)=((h.length:Nat):Int) by omega]
 obtain ⟨h',h1,h2,h3⟩:=Zu8 N N (h++[x]) h.length (by omega) (by omega) (by omega) ⟨fun j hj0 hj hji=>by rw [Zst (by omega),Zst (by omega)];exact hh j hj0 (by omega),fun j hj0 hj hji h0=>by omega⟩
 exact ⟨h',h1,h2.trans (List.perm_append_singleton x h),h3⟩
/-! ### pop -/
def Zhf (l:List Int) (n i:Nat):Prop:=(∀ j,0<j→j<n→(j - 1) / 2≠i→gD l ((j - 1) / 2)≤gD l j)∧∀ j,0<j→j<n→(j - 1) / 2=i→0<i→gD l ((i - 1) / 2)≤gD l j
theorem Zhf.step {l:List Int} {n i q:Nat} (hu:Zhf l n i) (hn:n≤l.length) (hi:i<n) (hq:q<n) (hqi:(q - 1) / 2=i) (hq0:0<q) (hlt:gD l q<gD l i) (hle:∀ j,0<j→j<n→(j - 1) / 2=i→gD l q≤gD l j):Zhf (Tu l i q) n q:=by
 have hi':i<l.length:=by omega
 have hq':q<l.length:=by omega
 refine ⟨fun j hj0 hj hjp=>?_,fun j hj0 hj hjp _=>?_⟩
 ·rw [Zb0 hi' hq',Zb0 hi' hq',if_neg hjp]
  by_cases h1:(j - 1) / 2=i
  ·rw [if_pos h1]
   by_cases h2:j=q
   ·rw [if_pos h2];omega
   ·rw [if_neg h2,if_neg (by omega)];exact hle j hj0 hj h1
  ·rw [if_neg h1,if_neg (show j≠q by omega)]
   by_cases h2:j=i
   ·subst h2
    rw [if_pos rfl];exact hu.2 q hq0 hq hqi hj0
   ·rw [if_neg h2];exact hu.1 j hj0 hj h1
 ·rw [Zb0 hi' hq',Zb0 hi' hq',hqi,if_neg (by omega),if_pos rfl,if_neg (by omega),if_neg (by omega)]
  have:=hu.1 j hj0 hj (by omega)
  rwa [hjp] at this
theorem Z39 {l:List Int} {n i q:Nat} (hn:n≤l.length) (hi:i<n) (hq:q<n):(Tu l i q).take n=Tu (l.take n) i q:=by
 have h1:∀ j,j<n→gD (l.take n) j=gD l j:=fun j hj=>by rw [S9 (by simp;omega),S9 (by omega),List.getElem_take]
 rw [Tu,Tu,List.take_set,List.take_set,h1 i hi,h1 q hq]
theorem Zu6 (N:Nat) (p0:List Int) (x0:Int) (n:Nat) (hp0:p0.length=n+1) (hn:n≤2000000) (hN:2000000<N):∀ (m:Nat) (l:List Int) (i:Nat),n<m+i→(i<n∨n=0∧i=0)→l.length=n+1→Zhf l n i→
  ∃ t,Sr N p0 x0 m l (i:Int)=some (x0,t)∧t.Perm (l.take n)∧Sg t n
 | 0,l,i,hm,hi,hl,hu=>by omega
 | m+1,l,i,hm,hi,hl,hu=>by
  rw [Sr.eq_2]
  obtain ⟨N,rfl⟩:∃ N',N=N'+1+1+1:=⟨N - 3,by omega⟩
  have w1:i64.wrap ((p0.length:Int) - 1)=(n:Int):=by rw [Z4 (by omega)];omega
  have wa:i64.wrap (i64.wrap (2 * (i:Int))+1)=((2 * i+1:Nat):Int):=by rw [Z4 (x:=2 * (i:Int)) (by omega),Z4 (by omega)];omega
  have wb:i64.wrap (i64.wrap (2 * (i:Int))+2)=((2 * i+2:Nat):Int):=by rw [Z4 (x:=2 * (i:Int)) (by omega),Z4 (by omega)];omega
  -- one child after the other
  have stepv:∀ (v:Nat) (k least:Nat),v<2→k=2 * i+1+v→(least<n∨n=0)→least<l.length→∀ f kk,Ss (N+1+1+1) p0 x0 l (i:Int) kk (f+1) (v:Int) (least:Int)=
    Ss (N+1+1+1) p0 x0 l (i:Int) kk f ((v+1:Nat):Int) ((if k<n∧gD l k<gD l least then k else least:Nat):Int):=by
   intro v k least hv hk hle hll f kk
   rw [Ss.eq_2,if_pos (decide_eq_true (by omega)),wa,wb,w1]
   have hat:Zn [((2 * i+1:Nat):Int),((2 * i+2:Nat):Int)] (v:Int)=some (k:Int):=by
    rw [Zeu]
    match v,hv with
    | 0,_=>simp [hk]
    | 1,_=>simp [hk];omega
   rw [hat,Option.bind_some]
   by_cases h1:k<n
   ·rw [if_pos (decide_eq_true (by omega)),Qu (by omega),Option.bind_some,Qu hll,Option.bind_some,Zfo,Zb9,Zb9,wS (by omega)]
    by_cases h2:gD l k<gD l least
    ·rw [if_pos (decide_eq_true h2),if_pos ⟨h1,h2⟩]
    ·rw [if_neg (by simpa using h2),if_neg (fun h=>h2 h.2)]
   ·rw [if_neg (by rw [decide_eq_true_eq];omega),Zfo,Zb9,Zb9,if_neg (by decide),wS (by omega),if_neg (fun h=>h1 h.1)]
  have hil:i<l.length:=by omega
  have e1:=stepv 0 (2 * i+1) i (by omega) (by omega) (by omega) hil (N+1+1) (Sr (N+1+1+1) p0 x0 m)
  generalize hq1:(if 2 * i+1<n∧gD l (2 * i+1)<gD l i then 2 * i+1 else i)=q1 at e1
  have hq1':(q1=i∧(2 * i+1<n→gD l i≤gD l (2 * i+1)))∨(q1=2 * i+1∧q1<n∧gD l q1<gD l i):=by
   by_cases hc:2 * i+1<n∧gD l (2 * i+1)<gD l i
   ·rw [if_pos hc] at hq1;subst hq1;exact .inr ⟨rfl,hc.1,hc.2⟩
   ·rw [if_neg hc] at hq1;subst hq1;exact .inl ⟨rfl,fun h=>by omega⟩
  have e2:=stepv 1 (2 * i+2) q1 (by omega) (by omega) (by omega) (by omega) (N+1) (Sr (N+1+1+1) p0 x0 m)
  generalize hq2:(if 2 * i+2<n∧gD l (2 * i+2)<gD l q1 then 2 * i+2 else q1)=q2 at e2
  have hq2':(q2=i∧(2 * i+1<n→gD l i≤gD l (2 * i+1))∧(2 * i+2<n→gD l i≤gD l (2 * i+2)))∨((q2=2 * i+1∨q2=2 * i+2)∧q2<n∧gD l q2<gD l i∧(2 * i+1<n→gD l q2≤gD l (2 * i+1))∧(2 * i+2<n→gD l q2≤gD l (2 * i+2))):=by
   by_cases hc:2 * i+2<n∧gD l (2 * i+2)<gD l q1
   ·rw [if_pos hc] at hq2;subst hq2
    rcases hq1' with ⟨rfl,h3⟩ | ⟨rfl,h3,h4⟩
    ·exact .inr ⟨.inr rfl,hc.1,hc.2,fun h=>by have:=h3 h;omega,fun _=>Int.le_refl _⟩
    ·exact .inr ⟨.inr rfl,hc.1,by omega,fun _=>by omega,fun _=>Int.le_refl _⟩
   ·rw [if_neg hc] at hq2;subst hq2
    rcases hq1' with ⟨rfl,h3⟩ | ⟨rfl,h3,h4⟩
    ·exact .inl ⟨rfl,h3,fun h=>by omega⟩
    ·exact .inr ⟨.inl rfl,h3,h4,fun _=>Int.le_refl _,fun h=>by omega⟩
  rw [show (0:Int)=((0:Nat):Int) from rfl,e1]
  rw [show ((0+1:Nat):Int)=((1:Nat):Int) from rfl,e2,Ss.eq_2,if_neg (by decide),w1,Int.toNat_natCast]
  rcases hq2' with ⟨rfl,h3,h4⟩ | ⟨h2,h3,h4,h5,h6⟩
  ·rw [if_pos (by simp)]
   refine ⟨_,rfl,.refl _,fun j hj0 hj=>?_⟩
   have ht:∀ k,k<n→gD (l.take n) k=gD l k:=fun k hk=>by rw [S9 (by simp;omega),S9 (by omega),List.getElem_take]
   rw [ht _ (by omega),ht _ hj]
   by_cases hq:(j - 1) / 2=q2
   ·rw [hq]
    rcases (show j=2 * q2+1∨j=2 * q2+2 by omega) with rfl | rfl
    ·exact h3 hj
    ·exact h4 hj
   ·exact hu.1 j hj0 hj hq
  ·have hq2l:q2<l.length:=by omega
   have hin:i<n:=by omega
   have hd:=hu.step (by omega) hin h3 (by omega) (by omega) h4 (fun j hj0 hj hji=>by
    rcases (show j=2 * i+1∨j=2 * i+2 by omega) with rfl | rfl
    ·exact h5 hj
    ·exact h6 hj)
   obtain ⟨t,k1,k2,k3⟩:=Zu6 (N+1+1+1) p0 x0 n hp0 hn hN m (Tu l i q2) q2 (by omega) (.inl h3) (by rw [Zjn];exact hl) hd
   refine ⟨t,?_,k2.trans ?_,k3⟩
   ·rw [if_neg (by simp;omega),Qu hq2l,Option.bind_some,Qu hil,Option.bind_some,Option.bind_some,Int.toNat_natCast,Int.toNat_natCast,Xk (by simpa using hq2l),Option.bind_some,Option.bind_some]
    exact k1
   ·rw [Z39 (by omega) hin h3];exact Zw0 (by simp;omega) (by simp;omega)
theorem Z2p {N:Nat} {h:List Int} (hl:h.length≤2000000) (h0:0<h.length) (hh:Sg h h.length) (hN:2000000<N):∃ x t,Zh4 N h=some (x,t)∧h.Perm (x :: t)∧(∀ y ∈ h,x≤y)∧Sg t t.length:=by
 rw [Zh4]
 obtain ⟨n,hn⟩:∃ n,h.length=n+1:=⟨h.length - 1,by omega⟩
 have w1:i64.wrap ((h.length:Int) - 1)=(n:Int):=by rw [Z4 (by omega)];omega
 rw [w1,show (0:Int)=((0:Nat):Int) from rfl,Qu h0,Option.bind_some,Qu (by omega),Option.bind_some,Option.bind_some,Xi (by simp;omega),Int.toNat_natCast]
 have hd:Zhf (h.set 0 (gD h n)) n 0:=by
  refine ⟨fun j hj0 hj hji=>?_,fun j _ _ _ h=>by omega⟩
  rw [Zkl _ _ _ _ h0,Zkl _ _ _ _ h0,if_neg (by omega),if_neg (by omega)]
  exact hh j hj0 (by omega)
 obtain ⟨t,h1,h2,h3⟩:=Zu6 N h (gD h 0) n hn (by omega) hN N (h.set 0 (gD h n)) 0 (by omega) (by omega) (by simpa using hn) hd
 have hpm:h.Perm (gD h 0 :: (h.set 0 (gD h n)).take n):=by
  match h,hn with
  | x :: r,hn=>
   have hr:r.length=n:=by simpa using hn
   match n,hr with
   | 0,hr=>rw [List.length_eq_zero_iff.1 hr];exact .refl _
   | n+1,hr=>
    have e:gD (x :: r) (n+1)=gD r n:=rfl
    rw [e,List.set_cons_zero,List.take_succ_cons]
    refine List.Perm.cons x ?_
    have:r=r.take n++[gD r n]:=by
     have:=List.take_succ_eq_append_getElem (show n<r.length by omega)
     rw [List.take_of_length_le (by omega)] at this
     rw [S9 (by omega)];exact this
    conv=>lhs;rw [this]
    exact List.perm_append_singleton _ _
 have hp2:h.Perm (gD h 0 :: t):=hpm.trans (List.Perm.cons _ h2.symm)
 refine ⟨gD h 0,t,h1,hp2,fun y hy=>?_,?_⟩
 ·obtain ⟨j,hj,rfl⟩:=List.getElem_of_mem hy
  rw [← S9 hj];exact hh.min j hj
 ·have:=hp2.length_eq
  rw [List.length_cons,hn] at this
  rw [show t.length=n by omega];exact h3
theorem Y1 {α:Type} {l:List α} {d:α} {j:Nat} (hj:j<l.length):l.getD j d=l[j]:=by rw [List.getD_eq_getElem?_getD,List.getElem?_eq_getElem hj];rfl
theorem W0 {α:Type} {l:List α} (d:α) {j:Nat} (hj:j<l.length):Zn l (j:Int)=some (l.getD j d):=by rw [Xk hj,Y1 hj]
theorem Uk {α:Type} (l:List α) (d:α) (i j:Nat) (x:α) (hi:i<l.length):(l.set i x).getD j d=if j=i then x else l.getD j d:=by
 rw [List.getD_eq_getElem?_getD,List.getD_eq_getElem?_getD,List.getElem?_set]
 by_cases h1:i=j
 ·subst h1;rw [if_pos rfl,if_pos hi,if_pos rfl];rfl
 ·rw [if_neg h1,if_neg (Ne.symm h1)]
def V9:Nat→List R2→Int→List Int
 | _,[],_=>[]
 | k,l :: P,p=>List.replicate (l.count p) (k:Int)++V9 (k+1) P p
def Zjw (n:Nat) (l:List Int):Prop:=∀ x ∈ l,0≤x∧x<(n:Int)
theorem Zrh (k:Nat) (kk:Nat→List R2→Option Ra):∀ (l:List Int) (out:List R2),Zjw out.length l→(∀ p:Nat,(out.getD p []).length+l.length≤1048576)→
  ∃ out',Zb7 k kk l out=kk (k+1) out'∧out'.length=out.length∧∀ p:Nat,p<out.length→out'.getD p []=out.getD p []++List.replicate (l.count (p:Int)) (k:Int)
 | [],out,h,hb=>⟨out,by rw [Zb7.eq_1],rfl,fun p hp=>by simp⟩
 | x :: l,out,h,hb=>by
  obtain ⟨h0,h1⟩:=h x List.mem_cons_self
  obtain ⟨q,rfl⟩:=Int.eq_ofNat_of_zero_le h0
  have hq:q<out.length:=by omega
  have hbq:=hb q
  simp only [List.length_cons] at hbq hb
  rw [Zb7.eq_2,W0 [] hq,Option.bind_some,Xi (by simp only [List.length_cons,List.length_nil,maxLen];omega),Int.toNat_natCast]
  obtain ⟨out',h2,h3,h4⟩:=Zrh k kk l (out.set q (out.getD q []++[(k:Int)])) (by rw [List.length_set];exact fun y hy=>h y (List.mem_cons_of_mem _ hy)) (fun p=>by
   rw [Uk _ _ _ _ _ hq]
   have:=hb p
   split
   ·simp only [List.length_append,List.length_cons,List.length_nil];omega
   ·omega)
  refine ⟨out',h2,by rw [h3,List.length_set],fun p hp=>?_⟩
  rw [h4 p (by rw [List.length_set];exact hp),Uk _ _ _ _ _ hq,List.count_cons]
  by_cases hpq:p=q
  ·subst hpq
   rw [if_pos rfl,if_pos (by simp),List.append_assoc,show l.count (p:Int)+1=1+l.count (p:Int) by omega,show [(k:Int)]=List.replicate 1 (k:Int) from rfl,List.replicate_append_replicate]
  ·rw [if_neg hpq,if_neg (by simp;omega),Nat.add_zero]
theorem Zs8 (p:Int):∀ (k:Nat) (P:List R2),(V9 k P p).length≤Th P
 | _,[]=>by simp [V9]
 | k,l :: P=>by
  rw [V9,List.length_append,List.length_replicate,Zjp]
  have:=Zs8 p (k+1) P
  have:=List.count_le_length (a:=p) (l:=l)
  omega
theorem Zrg (n:Nat):∀ (P:List R2) (k:Nat) (out:List R2),out.length=n→(∀ l ∈ P,Zjw n l)→(∀ p:Nat,(out.getD p []).length+Th P≤1048576)→
  ∃ out',Q0 P k out=some out'∧out'.length=n∧∀ p:Nat,p<n→out'.getD p []=out.getD p []++V9 k P p
 | [],k,out,hn,_,_=>⟨out,by rw [Q0.eq_1],hn,fun p hp=>by simp [V9]⟩
 | l :: P,k,out,hn,h,hb=>by
  simp only [Zjp] at hb
  rw [Q0.eq_2]
  obtain ⟨out1,h1,h2,h3⟩:=Zrh k (Q0 P) l out (by rw [hn];exact h l List.mem_cons_self) (fun p=>by have:=hb p;omega)
  obtain ⟨out',h4,h5,h6⟩:=Zrg n P (k+1) out1 (by omega) (fun x hx=>h x (List.mem_cons_of_mem _ hx)) (fun p=>by
   have:=hb p
   by_cases hp:p<out.length
   ·rw [h3 p hp,List.length_append,List.length_replicate]
    have:=List.count_le_length (a:=(p:Int)) (l:=l)
    omega
   ·rw [List.getD_eq_getElem?_getD,List.getElem?_eq_none (by omega)];simp;omega)
  refine ⟨out',by rw [h1,h4],h5,fun p hp=>?_⟩
  rw [h6 p hp,h3 p (by omega),List.append_assoc,V9]
theorem Zzx {P:List R2} (hP:P.length≤1048576) (ht:Th P≤1048576) (h:∀ l ∈ P,Zjw P.length l):∃ D,Zfl P=some D∧D.length=P.length∧∀ p:Nat,p<P.length→D.getD p []=V9 0 P p:=by
 rw [Zfl,Xi (by simp only [maxLen];omega)]
 have hr:∀ p:Nat,(List.replicate P.length ([]:List Int)).getD p []=[]:=fun p=>by
  rw [List.getD_eq_getElem?_getD,List.getElem?_replicate];split <;> rfl
 obtain ⟨D,h1,h2,h3⟩:=Zrg P.length P 0 (List.replicate P.length []) (by simp) h (fun p=>by rw [hr];simpa using ht)
 exact ⟨D,h1,h2,fun p hp=>by rw [h3 p hp,hr];rfl⟩
theorem Zn3 (p:Int):∀ (k:Nat) (P:List R2) (c:Nat),(V9 k P p).count (c:Int)=if k≤c then (P.getD (c - k) []).count p else 0
 | k,[],c=>by simp [V9]
 | k,l :: P,c=>by
  rw [V9,List.count_append,Zn3 p (k+1) P c,List.count_replicate]
  by_cases h1:k=c
  ·subst h1
   rw [if_pos (by simp),if_neg (by omega),if_pos (Nat.le_refl _),Nat.sub_self];rfl
  ·rw [if_neg (by simp;omega)]
   by_cases h2:k≤c
   ·rw [if_pos (by omega),if_pos h2,show c - k=(c - (k+1))+1 by omega];simp
   ·rw [if_neg (by omega),if_neg h2]
theorem Zs9 (p:Int):∀ (k:Nat) (P:List R2) (x:Int),x ∈ V9 k P p→∃ c:Nat,x=(c:Int)∧k≤c∧c<k+P.length
 | k,[],x,h=>by simp [V9] at h
 | k,l :: P,x,h=>by
  rw [V9] at h
  rcases List.mem_append.1 h with h | h
  ·exact ⟨k,(List.mem_replicate.1 h).2,Nat.le_refl _,by simp⟩
  ·obtain ⟨c,h1,h2,h3⟩:=Zs9 p (k+1) P x h
   exact ⟨c,h1,by omega,by rw [List.length_cons];omega⟩
def Tz (P:List R2) (out:List Int) (c:Nat):Nat:=(P.getD c []).countP fun q=>!decide (q ∈ out)
theorem Zrn (out:List Int) (p:Int) (hp:p ∉ out):∀ l:List Int,(l.countP fun q=>!decide (q ∈ out))=(l.countP fun q=>!decide (q ∈ out++[p]))+l.count p
 | []=>rfl
 | x :: l=>by
  rw [List.countP_cons,List.countP_cons,List.count_cons,Zrn out p hp l]
  by_cases h1:x=p
  ·subst h1
   have h2:(!decide (x ∈ out))=true:=by simp [hp]
   have h3:(!decide (x ∈ out++[x]))=false:=by simp
   rw [h2,h3];simp;omega
  ·have h3:(x ∈ out++[p])↔x ∈ out:=by simp [h1]
   rw [show (!decide (x ∈ out++[p]))=(!decide (x ∈ out)) from congrArg _ (decide_eq_decide.2 h3),if_neg (show ¬ ((x==p)=true) by simpa using h1)];omega
theorem Zrk {P:List R2} {out:List Int} {p:Int} (hp:p ∉ out) (c:Nat):Tz P out c=Tz P (out++[p]) c+(P.getD c []).count p:=Zrn out p hp _
theorem Zvw (P:List R2) (out:List Int) (c:Nat):Tt P out c=true↔(c:Int) ∉ out∧Tz P out c=0:=by
 rw [Tt,Tz,List.countP_eq_zero]
 simp
structure Zjx (P:List R2) (out left ready:List Int):Prop where
 ok:Ut P out
 len:left.length=P.length
 cnt:∀ c:Nat,c<P.length→left.getD c 0=(Tz P out c:Int)
 heap:Sg ready ready.length
 nd:ready.Nodup
 mem:∀ y:Int,y ∈ ready↔∃ c:Nat,c<P.length∧y=(c:Int)∧(c:Int) ∉ out∧left.getD c 0=0
theorem Zp7 (N:Nat) (P:List R2) (hP:P.length≤1048576) (ht:Th P≤1048576) (hN:2000000<N) (out:List Int) (p:Nat) (r2:List Int) (kk:List Int→List Int→List Int→Option R2):
  ∀ (rest left ready:List Int),rest.length≤9000000000000000000→left.length=P.length→(∀ c:Nat,c<P.length→left.getD c 0=((Tz P (out++[(p:Int)]) c+rest.count (c:Int):Nat):Int))→
   Sg ready ready.length→ready.Nodup→(∀ y:Int,y ∈ ready↔∃ c:Nat,c<P.length∧y=(c:Int)∧(c:Int) ∉ out++[(p:Int)]∧left.getD c 0=0)→
   (∀ x ∈ rest,∃ c:Nat,c<P.length∧x=(c:Int)∧x ∉ out++[(p:Int)])→
   ∃ left' ready',Q5 N out kk ((p:Int),r2) rest left ready=kk left' ready' (out++[(p:Int)])∧left'.length=P.length∧(∀ c:Nat,c<P.length→left'.getD c 0=(Tz P (out++[(p:Int)]) c:Int))∧
    Sg ready' ready'.length∧ready'.Nodup∧∀ y:Int,y ∈ ready'↔∃ c:Nat,c<P.length∧y=(c:Int)∧(c:Int) ∉ out++[(p:Int)]∧left'.getD c 0=0
 | [],left,ready,_,h1,h2,h3,h4,h5,_=>⟨left,ready,by rw [Q5.eq_1],h1,fun c hc=>by rw [h2 c hc];simp,h3,h4,h5⟩
 | x :: rest,left,ready,hrest,h1,h2,h3,h4,h5,h6=>by
  obtain ⟨c0,hc0,rfl,hx⟩:=h6 x List.mem_cons_self
  have hc0l:c0<left.length:=by omega
  have hcx:=h2 c0 hc0
  rw [List.count_cons,if_pos (by simp)] at hcx
  have hle:Tz P (out++[(p:Int)]) c0≤1048576:=by
   have h7:=List.countP_le_length (p:=fun q=>!decide (q ∈ out++[(p:Int)])) (l:=P.getD c0 [])
   rw [Y1 hc0] at h7
   have h8:=Zmo (P:=P) (List.getElem_mem hc0)
   rw [Tz,Y1 hc0];omega
  have hrl:ready.length≤P.length:=by
   have h7:=Zg5 (r:=(List.range P.length).map fun i:Nat=>(i:Int)) h4 fun y hy=>by
    obtain ⟨c,h8,h9,_⟩:=(h5 y).1 hy
    exact List.mem_map.2 ⟨c,List.mem_range.2 h8,h9.symm⟩
   simpa using h7
  have hv:i64.wrap (left.getD c0 0 - 1)=((Tz P (out++[(p:Int)]) c0+rest.count (c0:Int):Nat):Int):=by
   have h9:=List.count_le_length (a:=(c0:Int)) (l:=rest)
   rw [hcx,Z4]
   ·omega
   ·simp only [List.length_cons] at hrest
    omega
  have hl1:∀ c:Nat,c<P.length→(left.set c0 (i64.wrap (left.getD c0 0 - 1))).getD c 0=((Tz P (out++[(p:Int)]) c+rest.count (c:Int):Nat):Int):=fun c hc=>by
   rw [Uk _ _ _ _ _ hc0l]
   by_cases hcc:c=c0
   ·subst hcc;rw [if_pos rfl,hv]
   ·rw [if_neg hcc,h2 c hc,List.count_cons,if_neg (by simp;omega),Nat.add_zero]
  have hne:left.getD c0 0≠0:=by rw [hcx];omega
  have hnr:(c0:Int) ∉ ready:=fun h=>by
   obtain ⟨c,h8,h9,_,h10⟩:=(h5 _).1 h
   have:c=c0:=by omega
   subst this;exact hne h10
  have h6':∀ x ∈ rest,∃ c:Nat,c<P.length∧x=(c:Int)∧x ∉ out++[(p:Int)]:=fun x hx=>h6 x (List.mem_cons_of_mem _ hx)
  have hr':rest.length≤9000000000000000000:=by simp only [List.length_cons] at hrest;omega
  rw [Q5.eq_2,W0 0 hc0l,Option.bind_some,Option.bind_some,Int.toNat_natCast,W0 0 (by rw [List.length_set];exact hc0l),Option.bind_some,Zfs,Uk _ _ _ _ _ hc0l,if_pos rfl]
  by_cases hz:i64.wrap (left.getD c0 0 - 1)=0
  ·obtain ⟨ready1,k1,k2,k3⟩:=Zu9 (N:=N) (c0:Int) (by omega:ready.length<2000000) h3 hN
   rw [if_pos (by simpa using hz),k1,Option.bind_some,Zfs]
   refine Zp7 N P hP ht hN out p r2 kk rest _ ready1 hr' (by rw [List.length_set];exact h1) hl1 k3 (k2.nodup_iff.2 (List.nodup_cons.2 ⟨hnr,h4⟩)) (fun y=>?_) h6'
   rw [k2.mem_iff,List.mem_cons]
   constructor
   ·rintro (rfl | hy)
    ·exact ⟨c0,hc0,rfl,hx,by rw [Uk _ _ _ _ _ hc0l,if_pos rfl,hz]⟩
    ·obtain ⟨c,h8,h9,h10,h11⟩:=(h5 y).1 hy
     refine ⟨c,h8,h9,h10,?_⟩
     rw [Uk _ _ _ _ _ hc0l]
     split
     ·exact hz
     ·exact h11
   ·rintro ⟨c,h8,h9,h10,h11⟩
    by_cases hcc:c=c0
    ·subst hcc;exact .inl h9
    ·rw [Uk _ _ _ _ _ hc0l,if_neg hcc] at h11
     exact .inr ((h5 y).2 ⟨c,h8,h9,h10,h11⟩)
  ·rw [if_neg (by simpa using hz)]
   refine Zp7 N P hP ht hN out p r2 kk rest _ ready hr' (by rw [List.length_set];exact h1) hl1 h3 h4 (fun y=>?_) h6'
   rw [h5 y]
   constructor
   ·rintro ⟨c,h8,h9,h10,h11⟩
    refine ⟨c,h8,h9,h10,?_⟩
    rw [Uk _ _ _ _ _ hc0l,if_neg (fun h=>hne (by rw [← h];exact h11))];exact h11
   ·rintro ⟨c,h8,h9,h10,h11⟩
    refine ⟨c,h8,h9,h10,?_⟩
    rw [Uk _ _ _ _ _ hc0l] at h11
    split at h11
    ·exact absurd h11 hz
    ·exact h11
theorem Z34 {N:Nat} {P D:List R2} (hP:P.length≤1048576) (ht:Th P≤1048576) (hN:2000000<N) (hD:D.length=P.length) (hDk:∀ p:Nat,p<P.length→D.getD p []=V9 0 P p) {out left ready:List Int} (hi:Zjx P out left ready) (n:Nat):
  (Vc P out 0=none→U9 N D (n+1) left ready out=some out)∧
  ∀ p,Vc P out 0=some p→∃ left' ready',Zjx P (out++[(p:Int)]) left' ready'∧U9 N D (n+1) left ready out=U9 N D n left' ready' (out++[(p:Int)]):=by
 have hrl:ready.length≤P.length:=by
  have h7:=Zg5 (r:=(List.range P.length).map fun i:Nat=>(i:Int)) hi.nd fun y hy=>by
   obtain ⟨c,h8,h9,_⟩:=(hi.mem y).1 hy
   exact List.mem_map.2 ⟨c,List.mem_range.2 h8,h9.symm⟩
  simpa using h7
 have hrd:∀ c:Nat,c<P.length→(Tt P out c=true↔(c:Int) ∈ ready):=fun c hc=>by
  rw [Zvw,hi.mem]
  constructor
  ·rintro ⟨h1,h2⟩;exact ⟨c,hc,rfl,h1,by rw [hi.cnt c hc,h2];rfl⟩
  ·rintro ⟨c',h1,h2,h3,h4⟩
   have:c'=c:=by omega
   subst this
   rw [hi.cnt c' h1] at h4
   exact ⟨h3,by omega⟩
 refine ⟨fun hn=>?_,fun p hn=>?_⟩
 ·have h0:ready=[]:=by
   cases hr:ready with
   | nil=>rfl
   | cons y l=>
    obtain ⟨c,h1,h2,_⟩:=(hi.mem y).1 (by rw [hr];exact List.mem_cons_self)
    have h3:=Z2d hn c (Nat.zero_le _) h1
    have h4:=(hrd c h1).2 (by rw [← h2,hr];exact List.mem_cons_self)
    rw [h3] at h4;cases h4
  rw [U9.eq_2,h0,if_neg (by decide)]
 ·obtain ⟨_,hp,hr,hmin⟩:=Zo4 hn
  have hpr:=(hrd p hp).1 hr
  have hpos:0<ready.length:=List.length_pos_of_mem hpr
  obtain ⟨x,t,k1,k2,k3,k4⟩:=Z2p (N:=N) (by omega:ready.length≤2000000) hpos hi.heap hN
  have hxr:x ∈ ready:=k2.mem_iff.2 List.mem_cons_self
  have hxp:x=(p:Int):=by
   obtain ⟨c,h1,h2,_⟩:=(hi.mem x).1 hxr
   have h3:=k3 _ hpr
   have h4:¬ c<p:=fun hlt=>by
    have h5:=hmin c (Nat.zero_le _) hlt
    have h6:=(hrd c h1).2 (by rw [← h2];exact hxr)
    rw [h5] at h6;cases h6
   omega
  subst hxp
  have hnd:((p:Int) :: t).Nodup:=k2.nodup_iff.1 hi.nd
  obtain ⟨hp1,hp2⟩:=(Zvw P out p).1 hr
  obtain ⟨hok,hlt⟩:=hi.ok.step hn
  have hol:=hi.ok.len
  have hself:(P.getD p []).count (p:Int)=0:=by have:=Zrk (P:=P) hp1 p;omega
  rw [U9.eq_2,if_pos (decide_eq_true (by omega)),k1,Option.bind_some,Xi (by simp only [List.length_cons,List.length_nil,maxLen];omega),W0 [] (by rw [hD];exact hp),Option.bind_some,hDk p hp]
  have hkl:=Zs8 (p:Int) 0 P
  obtain ⟨left',ready',h1,h2,h3,h4,h5,h6⟩:=Zp7 N P hP ht hN out p t (U9 N D n) (V9 0 P p) left t (by omega) hi.len (fun c hc=>by
    rw [hi.cnt c hc,Zrk hp1 c,Zn3 (p:Int) 0 P c,if_pos (Nat.zero_le _),Nat.sub_zero]) k4 (List.nodup_cons.1 hnd).2 (fun y=>by
    have h7:y ∈ t↔y ∈ ready∧y≠(p:Int):=by
     rw [k2.mem_iff,List.mem_cons]
     exact ⟨fun h=>⟨.inr h,fun e=>(List.nodup_cons.1 hnd).1 (by rw [← e];exact h)⟩,fun h=>h.1.resolve_left h.2⟩
    rw [h7,hi.mem]
    constructor
    ·rintro ⟨⟨c,h8,h9,h10,h11⟩,h12⟩
     exact ⟨c,h8,h9,by rw [List.mem_append,List.mem_singleton];exact fun h=>h.elim h10 fun h=>h12 (by rw [h9,h]),h11⟩
    ·rintro ⟨c,h8,h9,h10,h11⟩
     rw [List.mem_append,List.mem_singleton] at h10
     exact ⟨⟨c,h8,h9,fun h=>h10 (.inl h),h11⟩,fun h=>h10 (.inr (by rw [← h9,h]))⟩) (fun x hx=>by
    obtain ⟨c,h7,_,h8⟩:=Zs9 (p:Int) 0 P x hx
    have h8:c<P.length:=by omega
    have h9:=Zn3 (p:Int) 0 P c
    rw [if_pos (Nat.zero_le _),Nat.sub_zero] at h9
    have h10:0<(P.getD c []).count (p:Int):=by rw [← h9,← h7];exact List.count_pos_iff.2 hx
    refine ⟨c,h8,h7,fun h=>?_⟩
    rcases List.mem_append.1 h with h | h
    ·rw [h7] at h
     have h11:=hi.ok.2.2 c h8 h (p:Int) (by rw [Y1 h8] at h10;exact List.count_pos_iff.1 h10)
     exact hp1 h11
    ·rw [List.mem_singleton] at h
     have:c=p:=by omega
     subst this
     omega)
  exact ⟨left',ready',⟨hok,h2,h3,h4,h5,h6⟩,h1⟩
theorem Zwt {N:Nat} {P D:List R2} (hP:P.length<1048576) (hls:∀ x ∈ P,x.length≤1048576) (ht:Th P≤1048576) (hN:2000000<N) (hD:D.length=P.length) (hDk:∀ p:Nat,p<P.length→D.getD p []=V9 0 P p):∀ (n:Nat) (out left ready:List Int),Zjx P out left ready→P.length<n+out.length→
  U9 N D n left ready out=Zbg N P n out
 | 0,out,left,ready,hi,hn=>by have:=hi.ok.len;omega
 | n+1,out,left,ready,hi,hn=>by
  have hl:=hi.ok.len
  obtain ⟨h1,h2⟩:=Z34 (N:=N) (by omega) ht hN hD hDk hi n
  rw [Zpa (by omega) hls (by omega) (by omega)]
  cases hnx:Vc P out 0 with
  | none=>rw [h1 hnx];rfl
  | some p=>
   obtain ⟨left',ready',h3,h4⟩:=h2 p hnx
   rw [h4]
   exact Zwt hP hls ht hN hD hDk n _ _ _ h3 (by simp;omega)
theorem Zp6 {N:Nat} (P D:List R2) (hP:P.length<1048576) (hN:2000000<N) (hl:∀ l ∈ P,l.length≤1048576):∀ (Q:List R2) (k:Nat) (left ready:List Int),P.drop k=Q→k≤P.length→left.length=P.length→
  (∀ c:Nat,c<k→left.getD c 0=((P.getD c []).length:Int))→Sg ready ready.length→ready.Nodup→(∀ y:Int,y ∈ ready↔∃ c:Nat,c<k∧y=(c:Int)∧(P.getD c []).length=0)→
  ∃ left' ready',Q4 N D Q k left ready=U9 N D N left' ready' []∧Zjx P [] left' ready'
 | [],k,left,ready,hQ,hk,h1,h2,h3,h4,h5=>by
  have hkP:k=P.length:=by have:=congrArg List.length hQ;simp at this;omega
  subst hkP
  have hc0:∀ c,Tz P [] c=(P.getD c []).length:=fun c=>by
   rw [Tz,List.countP_eq_length.2 (fun a _=>by simp)]
  refine ⟨left,ready,by rw [Q4.eq_1],⟨⟨.nil,by simp,by simp⟩,h1,fun c hc=>by rw [h2 c hc,hc0],h3,h4,fun y=>?_⟩⟩
  rw [h5]
  constructor
  ·rintro ⟨c,h6,h7,h8⟩;exact ⟨c,h6,h7,by simp,by rw [h2 c h6,h8];rfl⟩
  ·rintro ⟨c,h6,h7,_,h8⟩;exact ⟨c,h6,h7,by rw [h2 c h6] at h8;omega⟩
 | x :: Q,k,left,ready,hQ,hk,h1,h2,h3,h4,h5=>by
  have hkl:k<P.length:=by
   rcases Nat.lt_or_ge k P.length with h | h
   ·exact h
   ·rw [List.drop_eq_nil_of_le h] at hQ;cases hQ
  rw [List.drop_eq_getElem_cons hkl] at hQ
  obtain ⟨hx,hQ⟩:=List.cons.inj hQ
  have hxd:P.getD k []=x:=by rw [Y1 hkl,hx]
  have hkl':k<left.length:=by omega
  have hrl:ready.length≤k:=by
   have h7:=Zg5 (r:=(List.range k).map fun i:Nat=>(i:Int)) h4 fun y hy=>by
    obtain ⟨c,h8,h9,_⟩:=(h5 y).1 hy
    exact List.mem_map.2 ⟨c,List.mem_range.2 h8,h9.symm⟩
   simpa using h7
  have hl1:∀ c:Nat,c<k+1→(left.set k (x.length:Int)).getD c 0=((P.getD c []).length:Int):=fun c hc=>by
   rw [Uk _ _ _ _ _ hkl']
   by_cases hck:c=k
   ·subst hck;rw [if_pos rfl,hxd]
   ·rw [if_neg hck,h2 c (by omega)]
  have hnr:(k:Int) ∉ ready:=fun h=>by obtain ⟨c,h6,h7,_⟩:=(h5 _).1 h;omega
  rw [Q4.eq_2,W0 0 hkl',Option.bind_some,Option.bind_some,Int.toNat_natCast]
  by_cases h0:x.length=0
  ·obtain ⟨ready1,k1,k2,k3⟩:=Zu9 (N:=N) (k:Int) (by omega:ready.length<2000000) h3 hN
   rw [if_pos (decide_eq_true (by omega)),k1,Option.bind_some,Zft]
   refine Zp6 P D hP hN hl Q (k+1) _ ready1 hQ (by omega) (by rw [List.length_set];exact h1) hl1 k3 (k2.nodup_iff.2 (List.nodup_cons.2 ⟨hnr,h4⟩)) (fun y=>?_)
   rw [k2.mem_iff,List.mem_cons,h5]
   constructor
   ·rintro (rfl | ⟨c,h6,h7,h8⟩)
    ·exact ⟨k,by omega,rfl,by rw [hxd];exact h0⟩
    ·exact ⟨c,by omega,h7,h8⟩
   ·rintro ⟨c,h6,h7,h8⟩
    by_cases hck:c=k
    ·subst hck;exact .inl h7
    ·exact .inr ⟨c,by omega,h7,h8⟩
  ·rw [if_neg (by rw [decide_eq_true_eq];omega),Zft]
   refine Zp6 P D hP hN hl Q (k+1) _ ready hQ (by omega) (by rw [List.length_set];exact h1) hl1 h3 h4 (fun y=>?_)
   rw [h5]
   constructor
   ·rintro ⟨c,h6,h7,h8⟩;exact ⟨c,by omega,h7,h8⟩
   ·rintro ⟨c,h6,h7,h8⟩
    by_cases hck:c=k
    ·subst hck;rw [hxd] at h8;exact absurd h8 h0
    ·exact ⟨c,by omega,h7,h8⟩
theorem Z33 {N:Nat} {P D:List R2} (hP:P.length<1048576) (hls:∀ x ∈ P,x.length≤1048576) (ht:Th P≤1048576) (hN:2000000<N) (hD:D.length=P.length) (hDk:∀ p:Nat,p<P.length→D.getD p []=V9 0 P p):Zfr N P D=Qk N P:=by
 rw [Zfr,Xi (by simp only [maxLen];omega),Qk]
 obtain ⟨left,ready,h1,h2⟩:=Zp6 (N:=N) P D hP hN hls P 0 (List.replicate P.length 0) [] rfl (Nat.zero_le _) (by simp) (fun c hc=>by omega) (fun j _ hj=>by simp at hj) .nil (fun y=>by simp)
 rw [h1]
 exact Zwt hP hls ht hN hD hDk N [] _ _ h2 (by simp;omega)
theorem Zsj (kk:Option Int):∀ (l:List Int) (seen:List Rb) (S:List Int),S.Nodup→(∀ k,Wl seen k=if k ∈ S then some 1 else none)→Zb8 kk l seen=if (S++l).Nodup then kk else some 40
 | [],seen,S,h1,h2=>by rw [Zb8.eq_1,List.append_nil,if_pos h1]
 | x :: l,seen,S,h1,h2=>by
  rw [Zb8.eq_2,h2 x]
  by_cases hx:x ∈ S
  ·rw [if_pos hx,if_pos (by decide),if_neg]
   intro h
   exact (List.nodup_append.1 h).2.2 x hx x List.mem_cons_self rfl
  ·rw [if_neg hx,if_neg (by decide),Option.bind_some,Zsj kk l _ (S++[x]) (by
    rw [List.nodup_append]
    refine ⟨h1,by simp,fun a ha b hb e=>?_⟩
    rw [List.mem_singleton] at hb;subst hb;subst e;exact hx ha) (fun k=>by
    rw [Zt2,h2 k]
    by_cases hk:k=x
    ·subst hk;rw [if_pos rfl,if_pos (by simp)]
    ·rw [if_neg hk]
     by_cases hs:k ∈ S
     ·rw [if_pos hs,if_pos (by simp [hs])]
     ·rw [if_neg hs,if_neg (by simp [hs,hk])])]
   rw [List.append_assoc];rfl
theorem Zsi:∀ P:List R2,Q2 P=if Ti P then some 40 else some 0
 | []=>by rw [Q2.eq_1];rfl
 | l :: P=>by
  rw [Q2.eq_2,Zsj _ l [] [] .nil (fun k=>by simp [Wl]),Zsi P,List.nil_append]
  by_cases h:l.Nodup
  ·rw [if_pos h]
   have:Ti (l :: P)=Ti P:=by rw [Ti,Ti,List.any_cons,decide_eq_true h];rfl
   rw [this]
  ·rw [if_neg h]
   have:Ti (l :: P)=true:=by rw [Ti,List.any_cons,decide_eq_false h];rfl
   rw [this];rfl
theorem Zsk (P:List R2) (kk:Option Int):∀ l:List Int,Q3 P kk l=if (l.all fun p=>decide (0≤p∧p<(P.length:Int)))=true then kk else some 3
 | []=>by rw [Q3.eq_1];rfl
 | x :: l=>by
  rw [Q3.eq_2,Zsk P kk l,Zfn,Zfn,List.all_cons]
  by_cases h1:x<0
  ·rw [if_pos (by simpa using h1),if_pos rfl,decide_eq_false (by omega),Bool.false_and,if_neg (by decide)]
  ·rw [if_neg (by simpa using h1)]
   by_cases h2:(P.length:Int)≤x
   ·rw [if_pos (by simpa using h2),decide_eq_false (by omega),Bool.false_and,if_neg (by decide)]
   ·rw [if_neg (by simpa using h2),decide_eq_true (by omega),Bool.true_and]
theorem Zsh (P:List R2):∀ Q:List R2,Q1 P Q=if Uj P.length Q=true then Q2 P else some 3
 | []=>by rw [Q1.eq_1];rfl
 | l :: Q=>by
  rw [Q1.eq_2,Zsk,Zsh P Q]
  by_cases h:(l.all fun p=>decide (0≤p∧p<(P.length:Int)))=true
  ·rw [if_pos h]
   have:Uj P.length (l :: Q)=Uj P.length Q:=by rw [Uj,Uj,List.all_cons,h,Bool.true_and]
   rw [this]
  ·rw [if_neg h]
   have:Uj P.length (l :: Q)=false:=by rw [Uj,List.all_cons,Bool.eq_false_iff.2 h,Bool.false_and]
   rw [this,if_neg (by decide)]
theorem Z00 (P:List R2):Zfm P=if Uj P.length P=true then (if Ti P=true then some 40 else some 0) else some 3:=by
 rw [Zfm,Zsh,Zsi]
structure Zjz (P:List R2):Prop where
 n:P.length≤1048575
 t:Th P≤1048576
theorem Zjz.ls {P:List R2} (h:Zjz P):∀ x ∈ P,x.length≤1048576:=fun x hx=>Nat.le_trans (Zmo hx) h.t
theorem Zs4 {P:List R2} {n:Nat} (h:Uj n P=true):∀ l ∈ P,Zjw n l:=by
 intro l hl x hx
 rw [Uj,List.all_eq_true] at h
 have:=List.all_eq_true.1 (h l hl) x hx
 simpa using this
inductive Zjy (N:Nat) (P:List R2):Prop
 | err (e:Int) (D:Ua N P=some ([],e)) (R:Zgx N P=some e) (ne:e=3∨e=40):Zjy N P
 | cyc (I:Uj P.length P=true) (T:Ti P=false) (l:List Int) (o:Qk N P=some l) (ok:Ut P l) (mx:Vc P l 0=none) (lt:l.length<P.length) (D:Ua N P=some ([],42)) (R:Zgx N P=some 42):Zjy N P
 | ord (I:Uj P.length P=true) (T:Ti P=false) (l:List Int) (o:Qk N P=some l) (ok:Ut P l) (mx:Vc P l 0=none) (eq:l.length=P.length) (D:Ua N P=some (l,0)) (R:Zgx N P=some 0):Zjy N P
theorem Zwn {N:Nat} {P:List R2} (h:Zjz P) (hN:2000000<N):Zjy N P:=by
 have hn:=h.n
 have ht:=h.t
 have hls:=h.ls
 have hls':∀ x ∈ P,x.length≤1048576:=fun x hx=>by have:=hls x hx;omega
 have hD:Ua N P=(Zfm P).bind fun r_1=>if (!decide (r_1=0))=true then (some (([]:List Int),r_1)) else ((Zfl P).bind fun r_5=>(Zfr N P r_5).bind fun r_13=>if (decide ((r_13.length:Int)<(P.length:Int)))=true then (some (([]:List Int),42)) else (some (r_13,0))):=by rw [Ua]
 have hR:Zgx N P=(Zle N P).bind fun r_1=>if (!r_1)=true then (some 3) else ((Zli N P).bind fun r_5=>if r_5=true then (some 40) else ((Qk N P).bind fun r_9=>if (decide ((r_9.length:Int)<(P.length:Int)))=true then (some 42) else (some 0))):=by rw [Zgx]
 rw [Z00] at hD
 rw [Z1c (by omega) hls' (by omega),Option.bind_some] at hR
 by_cases hI:Uj P.length P=true
 ·rw [hI,if_neg (by decide),Z4c (by omega) hls' (by omega),Option.bind_some] at hR
  rw [if_pos hI] at hD
  by_cases hT:Ti P=true
  ·rw [if_pos hT] at hD hR
   exact .err 40 (by rw [hD];rfl) hR (.inr rfl)
  ·rw [if_neg hT] at hD hR
   obtain ⟨l,h1,h2,h3⟩:=Z2n (N:=N) (P:=P) (by omega) hls' (by omega)
   obtain ⟨D,h4,h5,h6⟩:=Zzx (P:=P) (by omega) (by omega) (Zs4 hI)
   rw [h1,Option.bind_some] at hR
   rw [Option.bind_some,if_neg (by decide),h4,Option.bind_some,Z33 (by omega) hls' (by omega) hN h5 h6,h1,Option.bind_some] at hD
   have hT:=Bool.eq_false_iff.2 hT
   have hle:=h2.len
   by_cases hlt:l.length<P.length
   ·rw [if_pos (decide_eq_true (by omega))] at hR hD
    exact .cyc hI hT l h1 h2 h3 hlt hD hR
   ·rw [if_neg (by rw [decide_eq_true_eq];omega)] at hR hD
    exact .ord hI hT l h1 h2 h3 (by omega) hD hR
 ·rw [Bool.eq_false_iff.2 hI,if_pos (by decide)] at hR
  rw [if_neg hI] at hD
  exact .err 3 (by rw [hD];rfl) hR (.inl rfl)
def Zgo (ab:List Int) (aa:Int) (kk_L1:(Int→Option R2)) (ac:Bool):Option R2:=
  if ac=true then (kk_L1 (i64.wrap (aa - 1))) else (Z0 ((0:Int)≤aa∧aa≤(ab.length:Int)) (Z0 ((([]:List Int).length+(ab.take (Int.toNat aa)).length) * 4≤140737488355328∧([]:List Int).length+(ab.take (Int.toNat aa)).length≤maxLen) (some (([]:List Int)++(ab.take (Int.toNat aa))))))
def Zbf (N:Nat) (aa:List Int):Nat→Int→Option R2
  | 0,_=>none
  | ac+1,ab=>if (decide (0<ab))=true then ((Zn aa (i64.wrap (ab - 1))).bind fun ad=>Zgo aa ab (Zbf N aa ac) (decide (ad=0))) else (Zgo aa ab (Zbf N aa ac) false)
termination_by structural x=>x
def Uy (N:Nat) (aa:List Int):Option R2:=
  Zbf N aa N (aa.length:Int)
theorem Sn {N ae:Nat} {a0:Option Addr} {col:Zd} {w0:World} {ab r:R2} (c1:Nat) (hm:Uy N ab=some r) (h0:Sl (Za.int .u32) col w0 a0 ae ab):
    Calls Tryz.prog 134 #[.slice a0 ab.length ae] w0 (fun e w'=>∃ (col':Zd) (ra1:Option Addr) (rc2:Nat),e= .returned ((.slice ra1 r.length rc2))∧Zg col w0 col' w'∧Zb (Za.int .u32) 77 c1 col' w' ra1 rc2 r):=by
 refine Xl 2 (m:=24) func134 rfl rfl rfl rfl rfl ?_;rw [Uy.eq_1] at hm;have aa:=St.start col w0;refine go ?_;refine Z5 [0,1000000] (fun n f aj=>∃ ak ac ad,ad=n∧Zbf N ab ad ac=some r∧St w0 (Zk col) ak aj∧[3].map f=[.int .i64 ac]) N ⟨_,_,_,rfl,hm,aa,rfl⟩ ?_;clear hm;intro n f aj hI;obtain ⟨ak,ac,ad,hn,hm,aa,hs⟩:=hI;subst hn;refine .lL [3] hs ?_;replace h0:=h0.keep (Zl.start col w0)
 cases ad with
 | zero=>rw [Zbf.eq_1] at hm;cases hm
 | succ ad=>
  rw [Zbf.eq_2] at hm;refine Zw<|Zw ?_;refine Wp.cutK [0,3,1000000] (fun f al=>∃ am af,Zgo ab ac (Zbf N ab ad) af=some r∧St w0 (Zk col) am al∧[16].map f=[.bool af]) ?_ ?_
  ·intro f al hJ;obtain ⟨am,af,hm,aa,hs⟩:=hJ;rw [Zgo.eq_1] at hm;refine .lL [16] hs ?_;refine Zp hm (fun hb hm=>go ?_) fun hb hm=>go ?_
   ·exact ⟨ad,by omega,rfl,⟨_,_,_,rfl,hm,aa,rfl⟩⟩
   obtain ⟨ag,hm⟩:=Z2 hm;refine lv (v:=.slice a0 (Int.toNat ac) ae) rfl rfl (Zg9 underlying31 sizeOf77 rfl rfl ag.1 (by have:=(h0.ks aa).1.2;have:=ag.2;omega))<|.ld (d:=22) (v:=(.slice a0 ((ab.take (Int.toNat ac)).length) ae)) (congrArg (fun n=>Value.slice a0 n ae) (List.length_take_of_le (show (Int.toNat ac)≤ab.length by have:=ag.2;omega)).symm) ?_;obtain ⟨an,hm⟩:=Z2 hm;refine Vv (c:=1) Zb.nil ((h0.ks aa).take (Int.toNat ac)).srcC an ?_;intro ar au av aw ao ap;refine go ?_;cases hm;replace aa:=aa.kpp ao;exact ⟨rfl,_,_,_,rfl,aa.fin (cm [(1,c1)]),aa.fo ap⟩
  refine go ?_;refine Xz hm (fun ah hm=>go ?_) fun ah hm=>go ?_
  ·obtain ⟨aq,ai,hm⟩:=bZ hm;refine lI ai ((h0.ks aa).addr ai) ?_;refine go ?_;refine lW ((h0.ks aa).atInt ai)<|go ?_;refine lV (.bool (decide (aq=0))) (Xm (congrArg Value.bool ah) rfl)<|Zm ?_;exact ⟨rfl,_,_,hm,aa,rfl⟩
  refine lV (.bool false) (Xd (congrArg Value.bool ah) rfl)<|Zm ?_;exact ⟨rfl,_,_,hm,aa,rfl⟩
def Zd4 (N:Nat):Nat→Int→Int→Option Int
  | 0,_,_=>none
  | ac+1,aa,ab=>if (decide (0<ab))=true then ((Zd4 N ac) (i64.wrap (aa+1)) (u32.wrap (Int.tdiv ab 2))) else (some aa)
termination_by structural x=>x
def Zip (N:Nat) (ab:List Int):Option Int:=
  (Uy N ab).bind fun aa=>if (decide ((aa.length:Int)=0))=true then (some 0) else ((Zn aa (i64.wrap ((aa.length:Int) - 1))).bind fun ac=>Zd4 N N (i64.wrap (32 * (i64.wrap ((aa.length:Int) - 1)))) ac)
theorem Zy2 {N ag:Nat} {a0:Option Addr} {col:Zd} {w0:World} {ad:R2} {r:Int} (hm:Zip N ad=some r) (h0:Sl (Za.int .u32) col w0 a0 ag ad):
    Calls Tryz.prog 78 #[.slice a0 ad.length ag] w0 (fun e w'=>e= .returned ((.int .i64 r))∧Below w0.heap.size w0 w'):=by
 refine Xl 2 (m:=28) func78 rfl rfl rfl rfl rfl ?_;rw [Zip.eq_1] at hm;have aa:=St.start col w0;refine go ?_;obtain ⟨am,ak,hm⟩:=bZ hm;replace h0:=h0.keep (Zl.start col w0);refine Zi (Sn 1 ak (h0.ks aa)) ?_;rintro _ an ⟨ao,ap,aq,rfl,al,ah⟩;refine ⟨_,rfl,go ?_⟩;replace aa:=aa.grow al;refine Zp hm (fun hb hm=>go ?_) fun hb hm=>go ?_
 ·cases hm;exact ⟨rfl,rfl,aa.below⟩
 obtain ⟨ar,ae,hm⟩:=bZ hm;refine lI ae (ah.addr ae)<|lW (ah.atInt ae) ?_;refine go ?_;refine Z5 [1000000] (fun n f ai=>∃ aj af ac ab,ab=n∧Zd4 N ab af ac=some r∧St w0 (Zk col) aj ai∧[4,5].map f=[.int .i64 af,.int .u32 ac]) N ⟨_,_,_,_,rfl,hm,aa,rfl⟩ ?_;clear hm;intro n f ai hI;obtain ⟨aj,af,ac,ab,hn,hm,aa,hs⟩:=hI;subst hn;refine .lL [4,5] hs ?_
 cases ab with
 | zero=>rw [Zd4.eq_1] at hm;cases hm
 | succ ab=>
  rw [Zd4.eq_2] at hm;refine go ?_;refine Zp hm (fun hb hm=>go ?_) fun hb hm=>go ?_
  ·refine lV (.int .u32 (u32.wrap (Int.tdiv ac 2))) (W9 ac 2 rfl rfl (by decide))<|go ?_;exact ⟨ab,by omega,rfl,⟨_,_,_,_,rfl,hm,aa,rfl⟩⟩
  cases hm;exact ⟨rfl,rfl,aa.below⟩
def Qj (aa:List Int) (ab:Int):Option Int:=
  if (decide (ab<(aa.length:Int)))=true then ((Zn aa ab).bind fun ac=>some (u64.wrap ac)) else (some 0)
theorem Zdb {ad:Nat} {a0:Option Addr} {col:Zd} {w0:World} {ab:R2} {ae r:Int} (hm:Qj ab ae=some r) (h0:Sl (Za.int .u32) col w0 a0 ad ab):
    Calls Tryz.prog 173 #[.slice a0 ab.length ad,.int .i64 ae] w0 (fun e w'=>e= .returned ((.int .u64 r))∧Below w0.heap.size w0 w'):=by
 refine Xl 4 (m:=14) func173 rfl rfl rfl rfl rfl ?_;rw [Qj.eq_1] at hm;have aa:=St.start col w0;refine go ?_;replace h0:=h0.keep (Zl.start col w0);refine Zp hm (fun hb hm=>go ?_) fun hb hm=>go ?_
 ·obtain ⟨af,ac,hm⟩:=bZ hm;refine lI ac ((h0.ks aa).addr ac)<|lW ((h0.ks aa).atInt ac) ?_;refine go ?_;cases hm;exact ⟨rfl,rfl,aa.below⟩
 cases hm;exact ⟨rfl,rfl,aa.below⟩
def Zio (ab:List Int) (aa:Int):Option Int:=
  (Qj ab (i64.wrap (Int.tdiv aa 32))).bind fun ac=>Z0 (0≤(Int.tmod aa 32)) (some (Int.tmod (u32.wrap (Yc .u64 ac (Int.tmod aa 32))) 2))
theorem Zy1 {af:Nat} {a0:Option Addr} {col:Zd} {w0:World} {ad:R2} {aa r:Int} (hm:Zio ad aa=some r) (h0:Sl (Za.int .u32) col w0 a0 af ad):
    Calls Tryz.prog 144 #[.slice a0 ad.length af,.int .i64 aa] w0 (fun e w'=>e= .returned ((.int .u32 r))∧Below w0.heap.size w0 w'):=by
 refine Xl 4 (m:=14) func144 rfl rfl rfl rfl rfl ?_;rw [Zio.eq_1] at hm;have ab:=St.start col w0;refine go ?_;refine lV (.int .i64 (i64.wrap (Int.tdiv aa 32))) (W9 aa 32 rfl rfl (by decide)) ?_;obtain ⟨ac,ag,hm⟩:=bZ hm;replace h0:=h0.keep (Zl.start col w0);refine Zi (Zdb ag (h0.ks ab)) ?_;rintro _ ah ⟨rfl,ae⟩;refine ⟨_,rfl,?_⟩;replace ae:Zg (Zk col) w0 (Zk col) ah:=.of_below ae;refine Ya rfl<|lV (.int .i64 (Int.tmod aa 32)) (Tf aa 32 rfl rfl (by decide)) ?_;obtain ⟨ai,hm⟩:=Z2 hm;refine lV (.int .u64 (Yc .u64 ac (Int.tmod aa 32))) (Tr ac (Int.tmod aa 32) rfl rfl ai)<|go ?_;refine lV (.int .u32 (Int.tmod (u32.wrap (Yc .u64 ac (Int.tmod aa 32))) 2)) (Tf (u32.wrap (Yc .u64 ac (Int.tmod aa 32))) 2 rfl rfl (by decide))<|go ?_;cases hm;replace ab:=ab.grow ae;exact ⟨rfl,rfl,ab.below⟩
def Zgt (aa:List Int):Option R2:=
  some aa
def Zd9 (N:Nat) (ad:List Int):Nat→R2→Int→Int→Option R2
  | 0,_,_,_=>none
  | af+1,ab,aa,ae=>if (decide (ae<(ad.length:Int)))=true then ((Zn ad ae).bind fun ac=>Z0 ((ab.length+[u32.wrap (Int.tmod (u64.wrap (aa+(u64.wrap (2 * (u64.wrap ac))))) 4294967296)].length) * 4≤140737488355328∧ab.length+[u32.wrap (Int.tmod (u64.wrap (aa+(u64.wrap (2 * (u64.wrap ac))))) 4294967296)].length≤maxLen) ((Zd9 N ad af) (ab++[u32.wrap (Int.tmod (u64.wrap (aa+(u64.wrap (2 * (u64.wrap ac))))) 4294967296)]) (u64.wrap (Int.tdiv (u64.wrap (aa+(u64.wrap (2 * (u64.wrap ac))))) 4294967296)) (i64.wrap (ae+1)))) else (if (decide (0<aa))=true then (Z0 ((ab.length+[u32.wrap aa].length) * 4≤140737488355328∧ab.length+[u32.wrap aa].length≤maxLen) (Zgt (ab++[u32.wrap aa]))) else (Zgt ab))
termination_by structural x=>x
def Zgs (N:Nat) (aa:List Int) (ab:Int):Option R2:=
  Zd9 N aa N ([]:List Int) (u64.wrap ab) 0
theorem Zq4 {N au:Nat} {a0:Option Addr} {col:Zd} {w0:World} {ag:R2} {av:Int} {r:R2} (c1:Nat) (hm:Zgs N ag av=some r) (h0:Sl (Za.int .u32) col w0 a0 au ag):
    Calls Tryz.prog 185 #[.slice a0 ag.length au,.int .u32 av] w0 (fun e w'=>∃ (col':Zd) (ra1:Option Addr) (rc2:Nat),e= .returned ((.slice ra1 r.length rc2))∧Zg col w0 col' w'∧Zb (Za.int .u32) 77 c1 col' w' ra1 rc2 r):=by
 refine Xl 4 (m:=40) func185 rfl rfl rfl rfl rfl ?_;rw [Zgs.eq_1] at hm;have aa:=St.start col w0;refine go ?_;refine Z5 [0,1000000] (fun n f aj=>∃ ae ak al ah ab am ad,ad=n∧Zd9 N ag ad ah ab am=some r∧St w0 (Zk col) ae aj∧Zb (Za.int .u32) 77 1 ae aj ak al ah∧[5,6,7].map f=[.slice ak ah.length al,.int .u64 ab,.int .i64 am]) N ⟨_,none,0,_,_,0,_,rfl,hm,aa,Zb.nil,rfl⟩ ?_;clear hm;intro n f aj hI;obtain ⟨ae,ak,al,ah,ab,am,ad,hn,hm,aa,ac,hs⟩:=hI;subst hn;refine .lL [5,6,7] hs ?_;replace h0:=h0.keep (Zl.start col w0)
 cases ad with
 | zero=>rw [Zd9.eq_1] at hm;cases hm
 | succ ad=>
  rw [Zd9.eq_2] at hm;refine go ?_;refine Zp hm (fun hb hm=>go ?_) fun hb hm=>?_
  ·obtain ⟨af,an,hm⟩:=bZ hm;refine lI an ((h0.ks aa).addr an)<|lW ((h0.ks aa).atInt an) ?_;refine go ?_;refine lV (.int .u64 (Int.tmod (u64.wrap (ab+(u64.wrap (2 * (u64.wrap af))))) 4294967296)) (Tf (u64.wrap (ab+(u64.wrap (2 * (u64.wrap af))))) 4294967296 rfl rfl (by decide))<|go ?_;refine W6 (col:=ae) [u32.wrap (Int.tmod (u64.wrap (ab+(u64.wrap (2 * (u64.wrap af))))) 4294967296)] 2 ?_;intro a8 a9 ba aw ay;obtain ⟨az,hm⟩:=Z2 hm;replace ac:=ac.gr aw;refine Vv ac (ay.srcN (NB.int (k:=.u32))) az ?_;intro bb bc bd be a1 a2;refine go ?_;refine lV (.int .u64 (u64.wrap (Int.tdiv (u64.wrap (ab+(u64.wrap (2 * (u64.wrap af))))) 4294967296))) (W9 (u64.wrap (ab+(u64.wrap (2 * (u64.wrap af))))) 4294967296 rfl rfl (by decide))<|go ?_;replace aa:=(aa.grow aw).kpp a1;exact ⟨ad,by omega,rfl,⟨_,_,_,_,_,_,_,rfl,hm,aa,a2,rfl⟩⟩
  refine Zjs (Zhu ?_);refine Zw ?_;refine Wp.cutK [1000000] (fun f ao=>∃ ap aq ar ai,Zgt ai=some r∧St w0 (Zk col) ap ao∧Zb (Za.int .u32) 77 1 ap ao aq ar ai∧[5].map f=[.slice aq ai.length ar]) ?_ ?_
  ·intro f ao hJ;obtain ⟨ap,aq,ar,ai,hm,aa,a3,hs⟩:=hJ;rw [Zgt.eq_1] at hm;refine .lL [5] hs<|go ?_;cases hm;exact ⟨rfl,_,_,_,rfl,aa.fin (cm [(1,c1)]),aa.fo a3⟩
  refine go ?_;refine Zp hm (fun hb hm=>go ?_) fun hb hm=>?_
  ·refine W6 (col:=ae) [u32.wrap ab] 3 ?_;intro bf bg bh ax a4;obtain ⟨a5,hm⟩:=Z2 hm;replace ac:=ac.gr ax;refine Vv ac (a4.srcN (NB.int (k:=.u32))) a5 ?_;intro bi bj bk bm a6 a7;refine go ?_;replace aa:=(aa.grow ax).kpp a6;exact ⟨rfl,_,_,_,_,hm,aa,a7,rfl⟩
  refine Yd ?_;exact ⟨rfl,_,_,_,_,hm,aa,ac,rfl⟩
def Zd6 (N:Nat) (ab:List Int) (ac:List Int):Nat→Int→Option Int
  | 0,_=>none
  | af+1,aa=>if (decide (0≤aa))=true then ((Qj ab aa).bind fun ad=>(Qj ac aa).bind fun ae=>if (decide (ad<ae))=true then (some (-1)) else (if (decide (ae<ad))=true then (some 1) else ((Zd6 N ab ac af) (i64.wrap (aa - 1))))) else (some 0)
termination_by structural x=>x
def Zgj (N:Nat) (aa:List Int) (ab:List Int) (ac:Int):Option Int:=
  Zd6 N aa ab N (i64.wrap (ac - 1))
def Zd5 (N:Nat) (aa:List Int) (ab:List Int):Option Int:=
  if (decide ((aa.length:Int)<(ab.length:Int)))=true then (Zgj N aa ab (ab.length:Int)) else (Zgj N aa ab (aa.length:Int))
theorem Znb {N ak al:Nat} {a0 a1:Option Addr} {col:Zd} {w0:World} {ad ae:R2} {r:Int} (hm:Zd5 N ad ae=some r) (h0:Sl (Za.int .u32) col w0 a0 ak ad) (h1:Sl (Za.int .u32) col w0 a1 al ae):
    Calls Tryz.prog 174 #[.slice a0 ad.length ak,.slice a1 ae.length al] w0 (fun e w'=>e= .returned ((.int .i64 r))∧Below w0.heap.size w0 w'):=by
 refine Xl 4 (m:=35) func174 rfl rfl rfl rfl rfl ?_;rw [Zd5.eq_1] at hm;have aa:=St.start col w0;refine Zw<|Ww<|Yq rfl<|Zm<|Zw<|Ww<|Wk rfl<|lV _ (Qp underlying31 rfl)<|Yq rfl<|Zm<|Zw ?_;replace h0:=h0.keep (Zl.start col w0);replace h1:=h1.keep (Zl.start col w0);refine Wp.cutK [0,1,1000000] (fun f am=>∃ an af,Zgj N ad ae af=some r∧St w0 (Zk col) an am∧[5].map f=[.int .i64 af]) ?_ ?_
 ·intro f am hJ;obtain ⟨an,af,hm,aa,hs⟩:=hJ;rw [Zgj.eq_1] at hm;refine .lL [5] hs<|go ?_;refine Z5 [0,1,1000000] (fun n f ag=>∃ ab ah ac,ac=n∧Zd6 N ad ae ac ah=some r∧St w0 (Zk col) ab ag∧[6].map f=[.int .i64 ah]) N ⟨_,_,_,rfl,hm,aa,rfl⟩ ?_;clear hm;intro n f ag hI;obtain ⟨ab,ah,ac,hn,hm,aa,hs⟩:=hI;subst hn;refine .lL [6] hs ?_
  cases ac with
  | zero=>rw [Zd6.eq_1] at hm;cases hm
  | succ ac=>
   rw [Zd6.eq_2] at hm;refine go ?_;refine Zp hm (fun hb hm=>go ?_) fun hb hm=>go ?_
   ·obtain ⟨au,ap,hm⟩:=bZ hm;refine Zi (Zdb ap (h0.ks aa)) ?_;rintro _ ao ⟨rfl,ai⟩;refine ⟨_,rfl,?_⟩;replace ai:Zg ab ag ab ao:=.of_below ai;refine go ?_;obtain ⟨av,aq,hm⟩:=bZ hm;replace aa:=aa.grow ai;refine Zi (Zdb aq (h1.ks aa)) ?_;rintro _ ar ⟨rfl,aj⟩;refine ⟨_,rfl,?_⟩;replace aj:Zg ab ao ab ar:=.of_below aj;refine go ?_;replace aa:=aa.grow aj;refine Zp hm (fun hb hm=>go ?_) fun hb hm=>go ?_
    ·cases hm;exact ⟨rfl,rfl,aa.below⟩
    refine Zp hm (fun hb hm=>go ?_) fun hb hm=>go ?_
    ·cases hm;exact ⟨rfl,rfl,aa.below⟩
    exact ⟨ac,by omega,rfl,⟨_,_,_,rfl,hm,aa,rfl⟩⟩
   cases hm;exact ⟨rfl,rfl,aa.below⟩
 refine go ?_;refine Zp hm (fun hb hm=>go ?_) fun hb hm=>?_
 ·exact ⟨rfl,_,_,hm,aa,rfl⟩
 refine Yd ?_;exact ⟨rfl,_,_,hm,aa,rfl⟩
def Zla (aa:Int) (kk_L1:(List Int→Int→Int→Option Rf)) (ab:List Int) (ac:Int):Option Rf:=
  kk_L1 ab ac (i64.wrap (aa+1))
def Zgr (aa:List Int) (ab:Int) (ae:Int) (kk_L1:(List Int→Int→Int→Option Rf)) (ac:Int) (af:Int) (ad:Int):Option Rf:=
  Z0 ((aa.length+[u32.wrap (u64.wrap (ad - (u64.wrap (ac+ab))))].length) * 4≤140737488355328∧aa.length+[u32.wrap (u64.wrap (ad - (u64.wrap (ac+ab))))].length≤maxLen) (Zla ae kk_L1 (aa++[u32.wrap (u64.wrap (ad - (u64.wrap (ac+ab))))]) af)
def Qi (N:Nat) (ab:List Int) (ac:List Int):Nat→R2→Int→Int→Option Rf
  | 0,_,_,_=>none
  | ah+1,ad,ae,aa=>if (decide (aa<(ab.length:Int)))=true then ((Qj ab aa).bind fun af=>(Qj ac aa).bind fun ag=>if (decide (af<(u64.wrap (ag+ae))))=true then (Zgr ad ae aa (Qi N ab ac ah) ag 1 (u64.wrap (af+4294967296))) else (Zgr ad ae aa (Qi N ab ac ah) ag 0 af)) else ((Uy N ad).bind fun ai=>some (ai,true))
termination_by structural x=>x
def Zgq (N:Nat) (aa:List Int) (ab:List Int):Option Rf:=
  (Zd5 N aa ab).bind fun ac=>if (decide (ac<0))=true then (some (([]:List Int),false)) else (Qi N aa ab N ([]:List Int) 0 0)
theorem Zq3 {N au av:Nat} {a0 a1:Option Addr} {col:Zd} {w0:World} {ae af:R2} {r:Rf} (c1:Nat) (hm:Zgq N ae af=some r) (h0:Sl (Za.int .u32) col w0 a0 au ae) (h1:Sl (Za.int .u32) col w0 a1 av af):
    Calls Tryz.prog 142 #[.slice a0 ae.length au,.slice a1 af.length av] w0 (fun e w'=>∃ (col':Zd) (ra1:Option Addr) (rc2:Nat),e= .returned (.tuple #[.slice ra1 r.1.length rc2,.bool r.2])∧Zg col w0 col' w'∧Zb (Za.int .u32) 77 c1 col' w' ra1 rc2 r.1):=by
 refine Zbv 4 5 (m:=43) (args:=[.slice a0 ae.length au,.slice a1 af.length av]) func142 rfl rfl rfl rfl rfl ?_;rw [Zgq.eq_1] at hm;have aa:=St.start col w0;refine go ?_;obtain ⟨bn,ba,hm⟩:=bZ hm;replace h0:=h0.keep (Zl.start col w0);replace h1:=h1.keep (Zl.start col w0);refine Zi (Znb ba (h0.ks aa) (h1.ks aa)) ?_;rintro _ bb ⟨rfl,aw⟩;refine ⟨_,rfl,?_⟩;replace aw:Zg (Zk col) w0 (Zk col) bb:=.of_below aw;refine go ?_;replace aa:=aa.grow aw;refine Zp hm (fun hb hm=>go ?_) fun hb hm=>go ?_
 ·cases hm;exact ⟨rfl,_,none,0,rfl,aa.fin (cm []),Zb.nil⟩
 refine Z5 [0,1,1000000] (fun n f ah=>∃ ab ak al ag ai aj ad,ad=n∧Qi N ae af ad ag ai aj=some r∧St w0 (Zk col) ab ah∧Zb (Za.int .u32) 77 1 ab ah ak al ag∧[6,7,8].map f=[.slice ak ag.length al,.int .u64 ai,.int .i64 aj]) N ⟨_,none,0,_,0,0,_,rfl,hm,aa,Zb.nil,rfl⟩ ?_;clear hm;intro n f ah hI;obtain ⟨ab,ak,al,ag,ai,aj,ad,hn,hm,aa,ac,hs⟩:=hI;subst hn;refine .lL [6,7,8] hs ?_
 cases ad with
 | zero=>rw [Qi.eq_1] at hm;cases hm
 | succ ad=>
  rw [Qi.eq_2] at hm;refine go ?_;refine Zp hm (fun hb hm=>?_) fun hb hm=>go ?_
  ·refine Yd<|Zw ?_;refine Wp.cutK [0,1,8,1000000] (fun f ax=>∃ ay az a2 am a3,Zla aj (Qi N ae af ad) am a3=some r∧St w0 (Zk col) ay ax∧Zb (Za.int .u32) 77 1 ay ax az a2 am∧[6,7].map f=[.slice az am.length a2,.int .u64 a3]) ?_ ?_
   ·intro f ax hJ;obtain ⟨ay,az,a2,am,a3,hm,aa,bc,hs⟩:=hJ;rw [Zla.eq_1] at hm;refine .lL [6,7] hs<|go ?_;exact ⟨ad,by omega,rfl,⟨_,_,_,_,_,_,_,rfl,hm,aa,bc,rfl⟩⟩
   refine go ?_;obtain ⟨bo,bd,hm⟩:=bZ hm;refine Zi (Zdb bd (h0.ks aa)) ?_;rintro _ a7 ⟨rfl,an⟩;refine ⟨_,rfl,?_⟩;replace an:Zg ab ah ab a7:=.of_below an;refine go ?_;obtain ⟨a8,be,hm⟩:=bZ hm;replace aa:=aa.grow an;refine Zi (Zdb be (h1.ks aa)) ?_;rintro _ bf ⟨rfl,ao⟩;refine ⟨_,rfl,?_⟩;replace ao:Zg ab a7 ab bf:=.of_below ao;refine Ya rfl<|lV _ (Sd _ _ rfl rfl)<|Yq rfl<|Zm<|Zw<|Ww<|Yq rfl<|Zm<|Zw ?_;replace ac:=(ac.gr an).gr ao;replace aa:=aa.grow ao;refine Wp.cutK [0,1,10,6,8,1000000] (fun f a4=>∃ ap a5 aq,Zgr ag ai aj (Qi N ae af ad) a8 a5 aq=some r∧St w0 (Zk col) ap a4∧Zb (Za.int .u32) 77 1 ap a4 ak al ag∧[7,9].map f=[.int .u64 a5,.int .u64 aq]) ?_ ?_
   ·intro f a4 hJ;obtain ⟨ap,a5,aq,hm,aa,ac,hs⟩:=hJ;rw [Zgr.eq_1] at hm;refine .lL [7,9] hs<|go ?_;refine W6 (col:=ap) [u32.wrap (u64.wrap (aq - (u64.wrap (a8+ai))))] 2 ?_;intro bp bq br a9 bg;obtain ⟨bh,hm⟩:=Z2 hm;replace ac:=ac.gr a9;refine Vv ac (bg.srcN (NB.int (k:=.u32))) bh ?_;intro bs bt bu bv bi bj;refine go ?_;replace aa:=(aa.grow a9).kpp bi;exact ⟨rfl,_,_,_,_,_,hm,aa,bj,rfl⟩
   refine go ?_;refine Zp hm (fun hb hm=>go ?_) fun hb hm=>?_
   ·exact ⟨rfl,_,1,_,hm,aa,ac,rfl⟩
   refine Yd ?_;exact ⟨rfl,_,0,_,hm,aa,ac,rfl⟩
  obtain ⟨bw,bk,hm⟩:=bZ hm;refine Zi (Sn 3 bk (ac.toSlF (Ze.int .u32))) ?_;rintro _ bx ⟨bm,bz,b0,rfl,ar,a6⟩;refine ⟨_,rfl,?_⟩;replace a6:=a6.thaw (Zs .u32) ar ((Fz.refl (col:=ab)).froz 1) (by decide);replace ar:=ar.thawR (col:=ab);generalize Z1 ah.heap.size ab bm=b1 at *;refine go ?_;cases hm;replace aa:=aa.grow ar;exact ⟨rfl,_,_,_,rfl,aa.fin (cm [(3,c1)]),aa.fo a6⟩
def Zgl (aa:Int) (kk_L1:(List Int→Int→R2→Option R9)) (ab:List Int) (ac:List Int):Option R9:=
  kk_L1 ab (i64.wrap (aa - 1)) ac
def Zbd (N:Nat) (ad:List Int) (ab:List Int):Nat→R2→Int→R2→Option R9
  | 0,_,_,_=>none
  | af+1,ag,aa,ac=>if (decide (0≤aa))=true then ((Zio ad aa).bind fun ah=>(Zgs N ag ah).bind fun ai=>(Uy N ai).bind fun ae=>(Zd5 N ae ab).bind fun aj=>if (decide (0≤aj))=true then ((Zgq N ae ab).bind fun ak=>(Zn ac (i64.wrap (Int.tdiv aa 32))).bind fun al=>Z0 (0≤(Int.tmod aa 32)) ((some (ac.set (Int.toNat (i64.wrap (Int.tdiv aa 32))) (u32.wrap (al+(Xt .u32 1 (Int.tmod aa 32)))))).bind fun am=>Zgl aa (Zbd N ad ab af) ak.1 am)) else (Zgl aa (Zbd N ad ab af) ae ac)) else ((Uy N ac).bind fun an=>some (an,ag,0))
termination_by structural x=>x
def Zgk (N:Nat) (ab:List Int) (ad:List Int):Option R9:=
  (Uy N ad).bind fun ac=>if (decide ((ac.length:Int)=0))=true then (some (([]:List Int),([]:List Int),11)) else ((Zip N ab).bind fun aa=>Z0 ((Int.toNat (i64.wrap (Int.tdiv (i64.wrap (aa+31)) 32))) * 4≤281474976710656∧(Int.toNat (i64.wrap (Int.tdiv (i64.wrap (aa+31)) 32)))≤maxLen∧0≤(i64.wrap (Int.tdiv (i64.wrap (aa+31)) 32))) (Zbd N ab ac N ([]:List Int) (i64.wrap (aa - 1)) (List.replicate (Int.toNat (i64.wrap (Int.tdiv (i64.wrap (aa+31)) 32))) (0:Int))))
theorem Zq1 {N bd be:Nat} {a0 a1:Option Addr} {col:Zd} {w0:World} {ak a4:R2} {r:R9} (c1 c2:Nat) (hm:Zgk N ak a4=some r) (h0:Sl (Za.int .u32) col w0 a0 bd ak) (h1:Sl (Za.int .u32) col w0 a1 be a4):
    Calls Tryz.prog 181 #[.slice a0 ak.length bd,.slice a1 a4.length be] w0 (fun e w'=>∃ (col':Zd) (ra1:Option Addr) (rc2:Nat) (ra4:Option Addr) (rc5:Nat),e= .returned (.tuple #[.slice ra1 r.1.length rc2,.slice ra4 r.2.1.length rc5,.int .i64 r.2.2])∧Zg col w0 col' w'∧Zb (Za.int .u32) 77 c1 col' w' ra1 rc2 r.1∧Zb (Za.int .u32) 77 c2 col' w' ra4 rc5 r.2.1):=by
 refine Zni 4 5 6 (m:=61) (args:=[.slice a0 ak.length bd,.slice a1 a4.length be]) func181 rfl rfl rfl rfl rfl ?_;rw [Zgk.eq_1] at hm;have aa:=St.start col w0;refine go ?_;obtain ⟨a5,b3,hm⟩:=bZ hm;replace h1:=h1.keep (Zl.start col w0);refine Zi (Sn 1 b3 (h1.ks aa)) ?_;rintro _ b4 ⟨bf,bt,bu,rfl,b5,ab⟩;refine ⟨_,rfl,go ?_⟩;replace h0:=h0.keep (Zl.start col w0);replace aa:=aa.grow b5;refine Zp hm (fun hb hm=>go ?_) fun hb hm=>go ?_
 ·cases hm;exact ⟨rfl,_,none,0,none,0,rfl,aa.fin (cm []),Zb.nil,Zb.nil⟩
 obtain ⟨bg,b6,hm⟩:=bZ hm;refine Zi (Zy2 b6 (h0.ks aa)) ?_;rintro _ bv ⟨rfl,a6⟩;refine ⟨_,rfl,?_⟩;replace a6:Zg bf b4 bf bv:=.of_below a6;refine go ?_;refine lV (.int .i64 (i64.wrap (Int.tdiv (i64.wrap (bg+31)) 32))) (W9 (i64.wrap (bg+31)) 32 rfl rfl (by decide)) ?_;obtain ⟨a7,hm⟩:=Z2 hm;refine To (col:=bf) (w:=bv) (r:=(Za.int .u32)) (n:=(Int.toNat (i64.wrap (Int.tdiv (i64.wrap (bg+31)) 32)))) (x0:=0) 2 rfl underlying31 Tryz.t77 rfl rfl rfl rfl rfl (congrArg (Value.int _) (Int.toNat_of_nonneg a7.2.2).symm) (congrArg (Value.int _) (Int.toNat_of_nonneg a7.2.2).symm) a7.1 a7.2.1 (Se .u32 0) ?_;intro cp cq cr bw b7;refine go ?_;replace ab:=(ab.gr a6).gr bw;replace aa:=(aa.grow a6).grow bw;refine Z5 [0,7,1000000] (fun n f ai=>∃ ae bh bi a8 ac av aw al aj,aj=n∧Zbd N ak a5 aj a8 ac al=some r∧St w0 (Zk col) ae ai∧Zb (Za.int .u32) 77 3 ae ai bh bi a8∧Zb (Za.int .u32) 77 1 ae ai bt bu a5∧Zb (Za.int .u32) 77 2 ae ai av aw al∧[10,11,9].map f=[.slice bh a8.length bi,.int .i64 ac,.slice av al.length aw]) N ⟨_,none,0,_,_,_,_,_,_,rfl,hm,aa,Zb.nil,ab,b7,rfl⟩ ?_;clear hm;intro n f ai hI;obtain ⟨ae,bh,bi,a8,ac,av,aw,al,aj,hn,hm,aa,am,ab,ad,hs⟩:=hI;subst hn;refine .lL [10,11,9] hs ?_
 cases aj with
 | zero=>rw [Zbd.eq_1] at hm;cases hm
 | succ aj=>
  rw [Zbd.eq_2] at hm;refine go ?_;refine Zp hm (fun hb hm=>?_) fun hb hm=>go ?_
  ·refine Yd<|Zw ?_;refine Wp.cutK [0,11,7,1000000] (fun f ax=>∃ ay bj bk a9 bm bn ba,Zgl ac (Zbd N ak a5 aj) a9 ba=some r∧St w0 (Zk col) ay ax∧Zb (Za.int .u32) 77 3 ay ax bj bk a9∧Zb (Za.int .u32) 77 1 ay ax bt bu a5∧Zb (Za.int .u32) 77 2 ay ax bm bn ba∧[10,9].map f=[.slice bj a9.length bk,.slice bm ba.length bn]) ?_ ?_
   ·intro f ax hJ;obtain ⟨ay,bj,bk,a9,bm,bn,ba,hm,aa,b8,ab,b9,hs⟩:=hJ;rw [Zgl.eq_1] at hm;refine .lL [10,9] hs<|go ?_;exact ⟨aj,by omega,rfl,⟨_,_,_,_,_,_,_,_,_,rfl,hm,aa,b8,ab,b9,rfl⟩⟩
   refine go ?_;obtain ⟨cs,ca,hm⟩:=bZ hm;refine Zi (Zy1 ca (h0.ks aa)) ?_;rintro _ bx ⟨rfl,an⟩;refine ⟨_,rfl,?_⟩;replace an:Zg ae ai ae bx:=.of_below an;obtain ⟨ct,cb,hm⟩:=bZ hm;replace am:=am.gr an;refine Zi (Zq4 4 cb (am.toSlF (Ze.int .u32))) ?_;rintro _ cc ⟨cd,cu,cv,rfl,ao,bo⟩;refine ⟨_,rfl,?_⟩;replace bo:=bo.thaw (Zs .u32) ao ((Fz.refl (col:=ae)).froz 3) (by decide);replace ao:=ao.thawR (col:=ae);generalize Z1 bx.heap.size ae cd=bp at *;obtain ⟨cw,ce,hm⟩:=bZ hm;refine Zi (Sn 5 ce (bo.toSlF (Ze.int .u32))) ?_;rintro _ cf ⟨cg,cx,cy,rfl,ap,af⟩;refine ⟨_,rfl,?_⟩;replace af:=af.thaw (Zs .u32) ap ((Fz.refl (col:=bp)).froz 4) (by decide);replace ap:=ap.thawR (col:=bp);generalize Z1 cc.heap.size bp cg=az at *;refine go ?_;obtain ⟨cz,ch,hm⟩:=bZ hm;replace ab:=((ab.gr an).gr ao).gr ap;refine Zi (Znb ch ((af.toSlF (Ze.int .u32)).froz 1) ((ab.froz 5 (by decide)).toSlF (Ze.int .u32))) ?_;rintro _ bz ⟨rfl,aq⟩;refine ⟨_,rfl,?_⟩;replace aq:Zg az cf az bz:=.of_below aq;refine go ?_;replace ad:=(((ad.gr an).gr ao).gr ap).gr aq;replace aa:=(((aa.grow an).grow ao).grow ap).grow aq;replace ab:=ab.gr aq;replace af:=af.gr aq;refine Zp hm (fun hb hm=>go ?_) fun hb hm=>?_
   ·obtain ⟨bb,ci,hm⟩:=bZ hm;refine Zi (Zq3 6 ci ((af.toSlF (Ze.int .u32)).froz 1) ((ab.froz 5 (by decide)).toSlF (Ze.int .u32))) ?_;rintro _ c0 ⟨cj,b0,b1,rfl,ar,ag⟩;refine ⟨_,rfl,?_⟩;replace ag:=ag.thaw (Zs .u32) ar (((Fz.refl (col:=az)).froz 5).froz 1) (by decide);replace ar:=ar.thawR (col:=az);generalize Z1 bz.heap.size az cj=a2 at *;refine lM (.tuple #[.slice b0 bb.1.length b1,.bool bb.2])<|lV (.slice b0 bb.1.length b1) (Z8 rfl rfl)<|lV (.bool bb.2) (Z8 rfl rfl)<|go ?_;refine Wb (col:=a2) [(0,1),(1,1),(2,1),(3,1),(4,1),(5,1),(6,1),(7,0),(8,1),(9,1),(10,1),(11,1),(12,1),(13,2)] (by kernel_rfl) (by kernel_rfl)<|xu rfl rfl (fun _=>Ve rfl) ?_;refine xu rfl rfl (fun _=>Wv rfl) ?_;refine xu (v:=(.int .i64 (i64.wrap (Int.tdiv ac 32)))) rfl rfl (fun _=>W9 ac 32 rfl rfl (by decide)) ?_;refine xu rfl rfl (fun _=>Ve rfl) ?_;refine xu rfl rfl (fun _=>Wv rfl) ?_;refine xu (v:=(.int .i64 (i64.wrap (Int.tdiv ac 32)))) rfl rfl (fun _=>W9 ac 32 rfl rfl (by decide)) ?_;obtain ⟨b2,ah,hm⟩:=bZ hm;replace ad:=ad.gr ar;refine xu rfl rfl (fun _=>Y4 underlying31 sizeOf77 rfl rfl (Xh ah).1 (Xh ah).2.1 (ad.addr ah)) ?_;refine xW (fun _ hC=>(ad.gr (hC.bl a2)).atInt ah) ?_;refine xu rfl rfl (fun _=>Wv rfl) ?_;refine xu (v:=(.int .i64 (Int.tmod ac 32))) rfl rfl (fun _=>Tf ac 32 rfl rfl (by decide)) ?_;obtain ⟨ck,hm⟩:=Z2 hm;refine xu (v:=(.int .u32 (Xt .u32 1 (Int.tmod ac 32)))) rfl rfl (fun _=>Zc3 1 (Int.tmod ac 32) rfl rfl ck) ?_;refine xu rfl rfl (fun _=>Sd _ _ rfl rfl) ?_;refine xu rfl rfl (fun _=>Y4 underlying31 sizeOf77 rfl rfl (Xh ah).1 (Xh ah).2.1 (ad.addr ah)) ?_;refine xe rfl rfl ?_;intro c3 hC0;have hC:=hC0.bl a2;obtain ⟨bq,bc,hm⟩:=bZ hm;have bc:bq=al.set (Int.toNat (i64.wrap (Int.tdiv ac 32))) (u32.wrap (b2+(Xt .u32 1 (Int.tmod ac 32)))):=(Option.some.inj bc).symm;replace ad:=ad.gr hC;refine Y0 (x1:=u32.wrap (b2+(Xt .u32 1 (Int.tmod ac 32)))) ad ah ?_;intro c4 br cl au;rw [← bc] at au;refine .ld (d:=9) (v:=(.slice av bq.length aw)) (congrArg (fun n=>Value.slice av n aw) (show al.length=bq.length by rw [bc,List.length_set])) ?_;refine Zm<|xk a2<|Yz ?_;replace ab:=((ab.gr ar).gr hC).kp br;replace aa:=((aa.grow ar).grow hC).kp br cl;replace ag:=(ag.gr hC).kp br;intro c5 hC;replace hC:=hC.bl a2;replace ab:=ab.gr hC;replace ab:=ab.recol 6 3 (by decide);replace au:=au.gr hC
    replace au:=au.recol 6 3 (by decide);replace ag:=ag.gr hC;replace ag:=ag.recolSelf 3 (by decide);replace aa:=aa.grow hC;replace aa:=aa.recol 6 3 (by decide) (by decide);exact ⟨rfl,_,_,_,_,_,_,_,hm,aa,ag,ab,au,rfl⟩
   refine Yd ?_;replace ab:=ab.recol 5 3 (by decide);replace ad:=ad.recol 5 3 (by decide);replace af:=af.recolSelf 3 (by decide);replace aa:=aa.recol 5 3 (by decide) (by decide);exact ⟨rfl,_,_,_,_,_,_,_,hm,aa,af,ab,ad,rfl⟩
  obtain ⟨c6,cn,hm⟩:=bZ hm;refine Zi (Sn 7 cn (ad.toSlF (Ze.int .u32))) ?_;rintro _ c7 ⟨co,c8,c9,rfl,a3,bs⟩;refine ⟨_,rfl,?_⟩;replace bs:=bs.thaw (Zs .u32) a3 ((Fz.refl (col:=ae)).froz 2) (by decide);replace a3:=a3.thawR (col:=ae);generalize Z1 ai.heap.size ae co=da at *;refine go ?_;cases hm;replace am:=am.gr a3;replace aa:=aa.grow a3;exact ⟨rfl,_,_,_,_,_,rfl,aa.fin (cm [(7,c1),(3,c2)]),aa.fo bs,aa.fo am⟩
def Zis (aa:Bool):Option Bool:=
  some aa
def Zct (aa:List Int):Option Bool:=
  if (decide ((aa.length:Int)=0))=true then (Zis true) else ((Zn aa 0).bind fun ab=>Zis (decide ((Int.tmod ab 2)=0)))
theorem Zkc {ag:Nat} {a0:Option Addr} {col:Zd} {w0:World} {ab:R2} {r:Bool} (hm:Zct ab=some r) (h0:Sl (Za.int .u32) col w0 a0 ag ab):
    Calls Tryz.prog 183 #[.slice a0 ab.length ag] w0 (fun e w'=>e= .returned ((.bool r))∧Below w0.heap.size w0 w'):=by
 refine Xl 2 (m:=13) func183 rfl rfl rfl rfl rfl ?_;rw [Zct.eq_1] at hm;have aa:=St.start col w0;refine Zw<|Ww<|Zkn rfl<|Zm<|Zw ?_;replace h0:=h0.keep (Zl.start col w0);refine Wp.cutK [1000000] (fun f ah=>∃ ai ac,Zis ac=some r∧St w0 (Zk col) ai ah∧[2].map f=[.bool ac]) ?_ ?_
 ·intro f ah hJ;obtain ⟨ai,ac,hm,aa,hs⟩:=hJ;rw [Zis.eq_1] at hm;refine .lL [2] hs<|Wx ?_;cases hm;exact ⟨rfl,rfl,aa.below⟩
 refine go ?_;refine Xz hm (fun ad hm=>go ?_) fun ad hm=>go ?_
 ·refine lV (.bool true) (Xm (congrArg Value.bool ad) rfl)<|go ?_;exact ⟨rfl,_,_,hm,aa,rfl⟩
 obtain ⟨ae,af,hm⟩:=bZ hm;refine lI af ((h0.ks aa).addr af) ?_;refine go ?_;refine lW ((h0.ks aa).atInt af)<|go ?_;refine lV (.int .u32 (Int.tmod ae 2)) (Tf ae 2 rfl rfl (by decide))<|go ?_;refine lV (.bool (decide ((Int.tmod ae 2)=0))) (Xd (congrArg Value.bool ad) rfl)<|go ?_;exact ⟨rfl,_,_,hm,aa,rfl⟩
def Zea (N:Nat) (ac:List Int):Nat→R2→Int→Int→Option R2
  | 0,_,_,_=>none
  | af+1,ab,ad,aa=>if (decide (0≤aa))=true then ((Zn ac aa).bind fun ae=>(Zn ab aa).bind fun ai=>(some (ab.set (Int.toNat aa) (u32.wrap (u64.wrap (Int.tdiv (u64.wrap ((u64.wrap (ad * 4294967296))+(u64.wrap ae))) 2))))).bind fun ag=>(Zea N ac af) ag (Int.tmod (u64.wrap ((u64.wrap (ad * 4294967296))+(u64.wrap ae))) 2) (i64.wrap (aa - 1))) else ((Uy N ab).bind fun ah=>some ah)
termination_by structural x=>x
def Zcu (N:Nat) (aa:List Int):Option R2:=
  Z0 (aa.length * 4≤281474976710656∧aa.length≤maxLen) (Zea N aa N (List.replicate aa.length (0:Int)) 0 (i64.wrap ((aa.length:Int) - 1)))
theorem Zkd {N au:Nat} {a0:Option Addr} {col:Zd} {w0:World} {ag r:R2} (c1:Nat) (hm:Zcu N ag=some r) (h0:Sl (Za.int .u32) col w0 a0 au ag):
    Calls Tryz.prog 184 #[.slice a0 ag.length au] w0 (fun e w'=>∃ (col':Zd) (ra1:Option Addr) (rc2:Nat),e= .returned ((.slice ra1 r.length rc2))∧Zg col w0 col' w'∧Zb (Za.int .u32) 77 c1 col' w' ra1 rc2 r):=by
 refine Xl 2 (m:=34) func184 rfl rfl rfl rfl rfl ?_;rw [Zcu.eq_1] at hm;have aa:=St.start col w0;refine go ?_;obtain ⟨av,hm⟩:=Z2 hm;refine To (col:=(Zk col)) (w:=w0) (r:=(Za.int .u32)) (n:=ag.length) (x0:=0) 1 rfl underlying31 Tryz.t77 rfl rfl rfl rfl rfl rfl rfl av.1 av.2 (Se .u32 0) ?_;intro a4 a5 a6 ax ay;refine go ?_;replace aa:=aa.grow ax;refine Z5 [0,1000000] (fun n f aj=>∃ ac ah ai ad ab ak ae,ae=n∧Zea N ag ae ad ab ak=some r∧St w0 (Zk col) ac aj∧Zb (Za.int .u32) 77 1 ac aj ah ai ad∧[3,4,5].map f=[.slice ah ad.length ai,.int .u64 ab,.int .i64 ak]) N ⟨_,_,_,_,0,_,_,rfl,hm,aa,ay,rfl⟩ ?_;clear hm;intro n f aj hI;obtain ⟨ac,ah,ai,ad,ab,ak,ae,hn,hm,aa,an,hs⟩:=hI;subst hn;refine .lL [3,4,5] hs ?_;replace h0:=h0.keep (Zl.start col w0)
 cases ae with
 | zero=>rw [Zea.eq_1] at hm;cases hm
 | succ ae=>
  rw [Zea.eq_2] at hm;refine go ?_;refine Zp hm (fun hb hm=>go ?_) fun hb hm=>go ?_
  ·obtain ⟨af,ao,hm⟩:=bZ hm;refine lI ao ((h0.ks aa).addr ao)<|lW ((h0.ks aa).atInt ao) ?_;refine go ?_;refine lV (.int .u64 (u64.wrap (Int.tdiv (u64.wrap ((u64.wrap (ab * 4294967296))+(u64.wrap af))) 2))) (W9 (u64.wrap ((u64.wrap (ab * 4294967296))+(u64.wrap af))) 2 rfl rfl (by decide))<|go ?_;obtain ⟨a7,ap,hm⟩:=bZ hm;refine lI ap (an.addr ap) ?_;obtain ⟨aq,al,hm⟩:=bZ hm;have al:aq=ad.set (Int.toNat ak) (u32.wrap (u64.wrap (Int.tdiv (u64.wrap ((u64.wrap (ab * 4294967296))+(u64.wrap af))) 2))):=(Option.some.inj al).symm;refine Y0 (x1:=u32.wrap (u64.wrap (Int.tdiv (u64.wrap ((u64.wrap (ab * 4294967296))+(u64.wrap af))) 2))) an ap ?_;intro a8 az a1 aw;rw [← al] at aw;refine .ld (d:=3) (v:=(.slice ah aq.length ai)) (congrArg (fun n=>Value.slice ah n ai) (show ad.length=aq.length by rw [al,List.length_set])) ?_;refine go ?_;refine lV (.int .u64 (Int.tmod (u64.wrap ((u64.wrap (ab * 4294967296))+(u64.wrap af))) 2)) (Tf (u64.wrap ((u64.wrap (ab * 4294967296))+(u64.wrap af))) 2 rfl rfl (by decide))<|go ?_;replace aa:=aa.kp az a1;exact ⟨ae,by omega,rfl,⟨_,_,_,_,_,_,_,rfl,hm,aa,aw,rfl⟩⟩
  obtain ⟨a9,a2,hm⟩:=bZ hm;refine Zi (Sn 2 a2 (an.toSlF (Ze.int .u32))) ?_;rintro _ ba ⟨a3,bb,bc,rfl,am,ar⟩;refine ⟨_,rfl,?_⟩;replace ar:=ar.thaw (Zs .u32) am ((Fz.refl (col:=ac)).froz 1) (by decide);replace am:=am.thawR (col:=ac);generalize Z1 aj.heap.size ac a3=bd at *;refine go ?_;cases hm;replace aa:=aa.grow am;exact ⟨rfl,_,_,_,rfl,aa.fin (cm [(2,c1)]),aa.fo ar⟩
def Zgn (N:Nat) (kk_L2:(List Int→R2→Option R2)) (aa:List Int) (ab:List Int):Option R2:=
  (Zgq N ab aa).bind fun ac=>kk_L2 aa ac.1
def Zir (N:Nat) (kk_L2:(List Int→R2→Option R2)) (ab:List Int) (aa:List Int) (kk_L4:(List Int→Option R2)) (ac:Bool):Option R2:=
  if ac=true then ((Zcu N aa).bind fun ad=>kk_L4 ad) else ((Zd5 N ab aa).bind fun ae=>if (decide (0<ae))=true then (Zgn N kk_L2 aa ab) else (Zgn N kk_L2 ab aa))
def Zag (N:Nat) (kk_L2:(List Int→R2→Option R2)) (aa:List Int):Nat→R2→Option R2
  | 0,_=>none
  | ac+1,ab=>if (decide (0<(ab.length:Int)))=true then ((Zct ab).bind fun ad=>Zir N kk_L2 aa ab (Zag N kk_L2 aa ac) ad) else (Zir N kk_L2 aa ab (Zag N kk_L2 aa ac) false)
termination_by structural x=>x
def Zd7 (N:Nat) (ab:List Int) (kk_L2:(List Int→R2→Option R2)):Nat→R2→Option R2
  | 0,_=>none
  | ac+1,aa=>(Zct aa).bind fun ad=>if ad=true then ((Zcu N aa).bind fun ae=>(Zd7 N ab kk_L2 ac) ae) else (Zag N kk_L2 aa N ab)
termination_by structural x=>x
def Zd8 (N:Nat) (aa:Int):Nat→R2→Int→Option R2
  | 0,_,_=>none
  | ad+1,ab,ac=>if (decide (ac<aa))=true then ((Zgs N ab 0).bind fun ae=>(Zd8 N aa ad) ae (i64.wrap (ac+1))) else (some ab)
termination_by structural x=>x
def Uc (N:Nat) (aa:Int):Nat→R2→R2→Option R2
  | 0,_,_=>none
  | ad+1,ab,ac=>if (decide (0<(ac.length:Int)))=true then (Zd7 N ac (Uc N aa ad) N ab) else (Zd8 N aa N ab 0)
termination_by structural x=>x
def Zgm (N:Nat) (aa:List Int) (ab:List Int) (ac:Int) (kk_L1:(List Int→R2→Int→Option R2)) (ad:Bool):Option R2:=
  if ad=true then ((Zcu N aa).bind fun ae=>(Zcu N ab).bind fun af=>kk_L1 ae af (i64.wrap (ac+1))) else (Uc N ac N aa ab)
def Zbe (N:Nat):Nat→R2→R2→Int→Option R2
  | 0,_,_,_=>none
  | ac+1,aa,ab,ad=>(Zct aa).bind fun ae=>if ae=true then ((Zct ab).bind fun af=>Zgm N aa ab ad (Zbe N ac) af) else (Zgm N aa ab ad (Zbe N ac) false)
termination_by structural x=>x
def Ziq (N:Nat) (ac:List Int) (ad:List Int):Option R2:=
  (Uy N ac).bind fun aa=>(Uy N ad).bind fun ab=>if (decide ((aa.length:Int)=0))=true then (some ab) else (if (decide ((ab.length:Int)=0))=true then (some aa) else (Zbe N N aa ab 0))
theorem Zy3 {N cs ct:Nat} {a0 a1:Option Addr} {col:Zd} {w0:World} {cb cc r:R2} (c1:Nat) (hm:Ziq N cb cc=some r) (h0:Sl (Za.int .u32) col w0 a0 cs cb) (h1:Sl (Za.int .u32) col w0 a1 ct cc):
    Calls Tryz.prog 180 #[.slice a0 cb.length cs,.slice a1 cc.length ct] w0 (fun e w'=>∃ (col':Zd) (ra1:Option Addr) (rc2:Nat),e= .returned ((.slice ra1 r.length rc2))∧Zg col w0 col' w'∧Zb (Za.int .u32) 77 c1 col' w' ra1 rc2 r):=by
 refine Xl 4 (m:=69) func180 rfl rfl rfl rfl rfl ?_;rw [Ziq.eq_1] at hm;have aa:=St.start col w0;refine go ?_;obtain ⟨dw,c3,hm⟩:=bZ hm;replace h0:=h0.keep (Zl.start col w0);refine Zi (Sn 1 c3 (h0.ks aa)) ?_;rintro _ dx ⟨dy,dz,d0,rfl,c4,bs⟩;refine ⟨_,rfl,go ?_⟩;obtain ⟨d1,c5,hm⟩:=bZ hm;replace h1:=h1.keep (Zl.start col w0);replace aa:=aa.grow c4;refine Zi (Sn 2 c5 (h1.ks aa)) ?_;rintro _ d2 ⟨d3,d4,d5,rfl,cu,cv⟩;refine ⟨_,rfl,go ?_⟩;replace bs:=bs.gr cu;replace aa:=aa.grow cu;refine Zp hm (fun hb hm=>go ?_) fun hb hm=>go ?_
 ·cases hm;exact ⟨rfl,_,_,_,rfl,aa.fin (cm [(2,c1)]),aa.fo cv⟩
 refine Zp hm (fun hb hm=>go ?_) fun hb hm=>go ?_
 ·cases hm;exact ⟨rfl,_,_,_,rfl,aa.fin (cm [(1,c1)]),aa.fo bs⟩
 refine Z5 [1000000] (fun n f a6=>∃ am bt bu au bv bw av ae an,an=n∧Zbe N an au av ae=some r∧St w0 (Zk col) am a6∧Zb (Za.int .u32) 77 1 am a6 bt bu au∧Zb (Za.int .u32) 77 2 am a6 bv bw av∧[5,6,7].map f=[.slice bt au.length bu,.slice bv av.length bw,.int .i64 ae]) N ⟨_,_,_,_,_,_,_,0,_,rfl,hm,aa,bs,cv,rfl⟩ ?_;clear hm;intro n f a6 hI;obtain ⟨am,bt,bu,au,bv,bw,av,ae,an,hn,hm,aa,ag,ad,hs⟩:=hI;subst hn;refine .lL [5,6,7] hs ?_
 cases an with
 | zero=>rw [Zbe.eq_1] at hm;cases hm
 | succ an=>
  rw [Zbe.eq_2] at hm;refine Zw<|Zw ?_;refine Wp.cutK [5,6,7,1000000] (fun f a7=>∃ ao cd,Zgm N au av ae (Zbe N an) cd=some r∧St w0 (Zk col) ao a7∧Zb (Za.int .u32) 77 1 ao a7 bt bu au∧Zb (Za.int .u32) 77 2 ao a7 bv bw av∧[26].map f=[.bool cd]) ?_ ?_
  ·intro f a7 hJ;obtain ⟨ao,cd,hm,aa,ag,ad,hs⟩:=hJ;rw [Zgm.eq_1] at hm;refine .lL [26] hs ?_;refine Zp hm (fun hb hm=>go ?_) fun hb hm=>go ?_
   ·obtain ⟨d6,c6,hm⟩:=bZ hm;refine Zi (Zkd 3 c6 (ag.toSlF (Ze.int .u32))) ?_;rintro _ c7 ⟨c8,d7,d8,rfl,a8,ai⟩;refine ⟨_,rfl,?_⟩;replace ai:=ai.thaw (Zs .u32) a8 ((Fz.refl (col:=ao)).froz 1) (by decide);replace a8:=a8.thawR (col:=ao);generalize Z1 a7.heap.size ao c8=ce at *;refine go ?_;obtain ⟨d9,c9,hm⟩:=bZ hm;replace ad:=ad.gr a8;refine Zi (Zkd 4 c9 (ad.toSlF (Ze.int .u32))) ?_;rintro _ ea ⟨da,eb,ec,rfl,a9,ap⟩;refine ⟨_,rfl,?_⟩;replace ap:=ap.thaw (Zs .u32) a9 ((Fz.refl (col:=ce)).froz 2) (by decide);replace a9:=a9.thawR (col:=ce);generalize Z1 c7.heap.size ce da=ed at *;refine go ?_;replace ai:=ai.gr a9;replace ai:=ai.recolSelf 1 (by decide);replace ap:=ap.recol 3 1 (by decide);replace aa:=(aa.grow a8).grow a9;replace aa:=aa.recol 3 1 (by decide) (by decide);replace ai:=ai.recol 4 2 (by decide);replace ap:=ap.recolSelf 2 (by decide);replace aa:=aa.recol 4 2 (by decide) (by decide);exact ⟨an,by omega,rfl,⟨_,_,_,_,_,_,_,_,_,rfl,hm,aa,ai,ap,rfl⟩⟩
   refine Z5 [7,1000000] (fun n f bx=>∃ bz cf cg b0 b1 b2 aw af,af=n∧Uc N ae af b0 aw=some r∧St w0 (Zk col) bz bx∧Zb (Za.int .u32) 77 1 bz bx cf cg b0∧Zb (Za.int .u32) 77 2 bz bx b1 b2 aw∧[5,6].map f=[.slice cf b0.length cg,.slice b1 aw.length b2]) N ⟨_,_,_,_,_,_,_,_,rfl,hm,aa,ag,ad,rfl⟩ ?_;clear hm;intro n f bx hI;obtain ⟨bz,cf,cg,b0,b1,b2,aw,af,hn,hm,aa,cw,ah,hs⟩:=hI;subst hn;refine .lL [5,6] hs ?_
   cases af with
   | zero=>rw [Uc.eq_1] at hm;cases hm
   | succ af=>
    rw [Uc.eq_2] at hm;refine go ?_;refine Zp hm (fun hb hm=>go ?_) fun hb hm=>go ?_
    ·refine Z5 [6,7,1000000] (fun n f ba=>∃ aj bb bc ak ax,ax=n∧Zd7 N aw (Uc N ae af) ax ak=some r∧St w0 (Zk col) aj ba∧Zb (Za.int .u32) 77 1 aj ba bb bc ak∧Zb (Za.int .u32) 77 2 aj ba b1 b2 aw∧[5].map f=[.slice bb ak.length bc]) N ⟨_,_,_,_,_,rfl,hm,aa,cw,ah,rfl⟩ ?_;clear hm;intro n f ba hI;obtain ⟨aj,bb,bc,ak,ax,hn,hm,aa,ab,ah,hs⟩:=hI;subst hn;refine .lL [5] hs ?_
     cases ax with
     | zero=>rw [Zd7.eq_1] at hm;cases hm
     | succ ax=>
      rw [Zd7.eq_2] at hm;refine go ?_;obtain ⟨ee,db,hm⟩:=bZ hm;refine Zi (Zkc db (ab.toSlF (Ze.int .u32))) ?_;rintro _ cx ⟨rfl,bd⟩;refine ⟨_,rfl,?_⟩;replace bd:Zg aj ba aj cx:=.of_below bd;refine Zm ?_;replace ab:=ab.gr bd;replace ah:=ah.gr bd;replace aa:=aa.grow bd;refine Zp hm (fun hb hm=>go ?_) fun hb hm=>go ?_
      ·obtain ⟨ef,dc,hm⟩:=bZ hm;refine Zi (Zkd 5 dc (ab.toSlF (Ze.int .u32))) ?_;rintro _ eg ⟨dd,eh,ei,rfl,be,bf⟩;refine ⟨_,rfl,?_⟩;replace bf:=bf.thaw (Zs .u32) be ((Fz.refl (col:=aj)).froz 1) (by decide);replace be:=be.thawR (col:=aj);generalize Z1 cx.heap.size aj dd=ej at *;refine go ?_;replace ah:=ah.gr be;replace ah:=ah.recol 5 1 (by decide);replace bf:=bf.recolSelf 1 (by decide);replace aa:=aa.grow be;replace aa:=aa.recol 5 1 (by decide) (by decide);exact ⟨ax,by omega,rfl,⟨_,_,_,_,_,rfl,hm,aa,bf,ah,rfl⟩⟩
      refine Z5 [5,7,1000000] (fun n f bg=>∃ ay b3 b4 az aq,aq=n∧Zag N (Uc N ae af) ak aq az=some r∧St w0 (Zk col) ay bg∧Zb (Za.int .u32) 77 1 ay bg bb bc ak∧Zb (Za.int .u32) 77 2 ay bg b3 b4 az∧[6].map f=[.slice b3 az.length b4]) N ⟨_,_,_,_,_,rfl,hm,aa,ab,ah,rfl⟩ ?_;clear hm;intro n f bg hI;obtain ⟨ay,b3,b4,az,aq,hn,hm,aa,ab,ac,hs⟩:=hI;subst hn;refine .lL [6] hs ?_
      cases aq with
      | zero=>rw [Zag.eq_1] at hm;cases hm
      | succ aq=>
       rw [Zag.eq_2] at hm;refine Zw<|Zw ?_;refine Wp.cutK [5,6,7,1000000] (fun f a2=>∃ al ch,Zir N (Uc N ae af) ak az (Zag N (Uc N ae af) ak aq) ch=some r∧St w0 (Zk col) al a2∧Zb (Za.int .u32) 77 1 al a2 bb bc ak∧Zb (Za.int .u32) 77 2 al a2 b3 b4 az∧[46].map f=[.bool ch]) ?_ ?_
       ·intro f a2 hJ;obtain ⟨al,ch,hm,aa,ab,ac,hs⟩:=hJ;rw [Zir.eq_1] at hm;refine .lL [46] hs ?_;refine Zp hm (fun hb hm=>go ?_) fun hb hm=>?_
        ·obtain ⟨ek,de,hm⟩:=bZ hm;refine Zi (Zkd 6 de (ac.toSlF (Ze.int .u32))) ?_;rintro _ el ⟨df,em,en,rfl,bh,bi⟩;refine ⟨_,rfl,?_⟩;replace bi:=bi.thaw (Zs .u32) bh ((Fz.refl (col:=al)).froz 2) (by decide);replace bh:=bh.thawR (col:=al);generalize Z1 a2.heap.size al df=eo at *;refine go ?_;replace ab:=ab.gr bh;replace ab:=ab.recol 6 2 (by decide);replace bi:=bi.recolSelf 2 (by decide);replace aa:=aa.grow bh;replace aa:=aa.recol 6 2 (by decide) (by decide);exact ⟨aq,by omega,rfl,⟨_,_,_,_,_,rfl,hm,aa,ab,bi,rfl⟩⟩
        refine Zjs (Zhu ?_);refine Zw ?_;refine Wp.cutK [7,1000000] (fun f bj=>∃ ar ci cj b5 ck cl b6,Zgn N (Uc N ae af) b5 b6=some r∧St w0 (Zk col) ar bj∧Zb (Za.int .u32) 77 1 ar bj ci cj b5∧Zb (Za.int .u32) 77 2 ar bj ck cl b6∧[5,6].map f=[.slice ci b5.length cj,.slice ck b6.length cl]) ?_ ?_
        ·intro f bj hJ;obtain ⟨ar,ci,cj,b5,ck,cl,b6,hm,aa,a3,dg,hs⟩:=hJ;rw [Zgn.eq_1] at hm;refine .lL [5,6] hs<|go ?_;obtain ⟨b7,dh,hm⟩:=bZ hm;refine Zi (Zq3 7 dh ((dg.toSlF (Ze.int .u32)).froz 1) ((a3.froz 2 (by decide)).toSlF (Ze.int .u32))) ?_;rintro _ ep ⟨di,cy,cz,rfl,bk,bm⟩;refine ⟨_,rfl,?_⟩;replace bm:=bm.thaw (Zs .u32) bk (((Fz.refl (col:=ar)).froz 2).froz 1) (by decide);replace bk:=bk.thawR (col:=ar);generalize Z1 bj.heap.size ar di=eq at *;refine lM (.tuple #[.slice cy b7.1.length cz,.bool b7.2])<|lV (.slice cy b7.1.length cz) (Z8 rfl rfl)<|lV (.bool b7.2) (Z8 rfl rfl)<|go ?_;replace a3:=a3.gr bk;replace a3:=a3.recol 7 2 (by decide);replace bm:=bm.recolSelf 2 (by decide);replace aa:=aa.grow bk;replace aa:=aa.recol 7 2 (by decide) (by decide);exact ⟨af,by omega,rfl,⟨_,_,_,_,_,_,_,_,rfl,hm,aa,a3,bm,rfl⟩⟩
        refine go ?_;obtain ⟨er,dj,hm⟩:=bZ hm;refine Zi (Znb dj ((ab.toSlF (Ze.int .u32)).froz 2) ((ac.froz 1 (by decide)).toSlF (Ze.int .u32))) ?_;rintro _ dl ⟨rfl,bn⟩;refine ⟨_,rfl,?_⟩;replace bn:Zg al a2 al dl:=.of_below bn;refine go ?_;replace ab:=ab.gr bn;replace ac:=ac.gr bn;replace aa:=aa.grow bn;refine Zp hm (fun hb hm=>go ?_) fun hb hm=>?_
        ·replace ac:=ac.recol 1 8 (by decide);replace ab:=ab.recolSelf 8 (by decide);replace aa:=aa.recol 1 8 (by decide) (by decide);replace ac:=ac.recolSelf 1 (by decide);replace ab:=ab.recol 2 1 (by decide);replace aa:=aa.recol 2 1 (by decide) (by decide);replace ac:=ac.recol 8 2 (by decide);replace ab:=ab.recolSelf 2 (by decide);replace aa:=aa.recol 8 2 (by decide) (by decide);exact ⟨rfl,_,_,_,_,_,_,_,hm,aa,ac,ab,rfl⟩
        refine Yd ?_;exact ⟨rfl,_,_,_,_,_,_,_,hm,aa,ab,ac,rfl⟩
       refine go ?_;refine Xz hm (fun cn hm=>go ?_) fun cn hm=>go ?_
       ·obtain ⟨dm,dn,hm⟩:=bZ hm;refine Zi (Zkc dn (ac.toSlF (Ze.int .u32))) ?_;rintro _ dp ⟨rfl,bo⟩;refine ⟨_,rfl,?_⟩;replace bo:Zg ay bg ay dp:=.of_below bo;refine lV (.bool dm) (Xm (congrArg Value.bool cn) rfl)<|Zm ?_;replace ab:=ab.gr bo;replace ac:=ac.gr bo;replace aa:=aa.grow bo;exact ⟨rfl,_,_,hm,aa,ab,ac,rfl⟩
       refine lV (.bool false) (Xd (congrArg Value.bool cn) rfl)<|Zm ?_;exact ⟨rfl,_,_,hm,aa,ab,ac,rfl⟩
    refine Z5 [7,1000000] (fun n f b8=>∃ a4 co cp b9 cq a5,a5=n∧Zd8 N ae a5 b9 cq=some r∧St w0 (Zk col) a4 b8∧Zb (Za.int .u32) 77 1 a4 b8 co cp b9∧[5,8].map f=[.slice co b9.length cp,.int .i64 cq]) N ⟨_,_,_,_,0,_,rfl,hm,aa,cw,rfl⟩ ?_;clear hm;intro n f b8 hI;obtain ⟨a4,co,cp,b9,cq,a5,hn,hm,aa,c0,hs⟩:=hI;subst hn;refine .lL [5,8] hs ?_
    cases a5 with
    | zero=>rw [Zd8.eq_1] at hm;cases hm
    | succ a5=>
     rw [Zd8.eq_2] at hm;refine go ?_;refine Zp hm (fun hb hm=>go ?_) fun hb hm=>go ?_
     ·obtain ⟨es,dq,hm⟩:=bZ hm;refine Zi (Zq4 9 dq (c0.toSlF (Ze.int .u32))) ?_;rintro _ et ⟨dr,eu,ew,rfl,ca,bp⟩;refine ⟨_,rfl,?_⟩;replace bp:=bp.thaw (Zs .u32) ca ((Fz.refl (col:=a4)).froz 1) (by decide);replace ca:=ca.thawR (col:=a4);generalize Z1 b8.heap.size a4 dr=ey at *;refine go ?_;replace bp:=bp.recolSelf 1 (by decide);replace aa:=aa.grow ca;replace aa:=aa.recol 9 1 (by decide) (by decide);exact ⟨a5,by omega,rfl,⟨_,_,_,_,_,_,rfl,hm,aa,bp,rfl⟩⟩
     cases hm;exact ⟨rfl,_,_,_,rfl,aa.fin (cm [(1,c1)]),aa.fo c0⟩
  refine go ?_;obtain ⟨ez,ds,hm⟩:=bZ hm;refine Zi (Zkc ds (ag.toSlF (Ze.int .u32))) ?_;rintro _ c2 ⟨rfl,bq⟩;refine ⟨_,rfl,?_⟩;replace bq:Zg am a6 am c2:=.of_below bq;refine Yh rfl ?_;replace ag:=ag.gr bq;replace ad:=ad.gr bq;replace aa:=aa.grow bq;refine Xz hm (fun cr hm=>go ?_) fun cr hm=>go ?_
  ·obtain ⟨dt,du,hm⟩:=bZ hm;refine Zi (Zkc du (ad.toSlF (Ze.int .u32))) ?_;rintro _ dv ⟨rfl,br⟩;refine ⟨_,rfl,?_⟩;replace br:Zg am c2 am dv:=.of_below br;refine lV (.bool dt) (Xm (congrArg Value.bool cr) rfl)<|Zm ?_;replace ag:=ag.gr br;replace ad:=ad.gr br;replace aa:=aa.grow br;exact ⟨rfl,_,_,hm,aa,ag,ad,rfl⟩
  refine lV (.bool false) (Xd (congrArg Value.bool cr) rfl)<|Zm ?_;exact ⟨rfl,_,_,hm,aa,ag,ad,rfl⟩
def Zin (af:List Int) (ag:List Int) (ad:List Int) (aa:Int) (ae:Int) (kk_L1:(List Int→Int→Int→Option R2)):Option R2:=
  (Qj af ae).bind fun ab=>(Qj ag ae).bind fun ac=>Z0 ((ad.length+[u32.wrap (Int.tmod (u64.wrap ((u64.wrap (aa+ab))+ac)) 4294967296)].length) * 4≤140737488355328∧ad.length+[u32.wrap (Int.tmod (u64.wrap ((u64.wrap (aa+ab))+ac)) 4294967296)].length≤maxLen) (kk_L1 (ad++[u32.wrap (Int.tmod (u64.wrap ((u64.wrap (aa+ab))+ac)) 4294967296)]) (u64.wrap (Int.tdiv (u64.wrap ((u64.wrap (aa+ab))+ac)) 4294967296)) (i64.wrap (ae+1)))
def Zcs (N:Nat) (ab:List Int) (ac:List Int) (aa:List Int) (ad:Int) (ae:Int) (kk_L1:(List Int→Int→Int→Option R2)) (af:Bool):Option R2:=
  if af=true then (Zin ab ac aa ad ae kk_L1) else ((Uy N aa).bind fun ag=>some ag)
def Sx (N:Nat) (aa:List Int) (ab:List Int):Nat→R2→Int→Int→Option R2
  | 0,_,_,_=>none
  | ae+1,af,ad,ac=>if (decide (ac<(aa.length:Int)))=true then (Zcs N aa ab af ad ac (Sx N aa ab ae) true) else (if (decide (ac<(ab.length:Int)))=true then (Zcs N aa ab af ad ac (Sx N aa ab ae) true) else (Zcs N aa ab af ad ac (Sx N aa ab ae) (decide (0<ad))))
termination_by structural x=>x
def Zim (N:Nat) (aa:List Int) (ab:List Int):Option R2:=
  Sx N aa ab N ([]:List Int) 0 0
theorem Zy0 {N a3 a4:Nat} {a0 a1:Option Addr} {col:Zd} {w0:World} {ae ad r:R2} (c1:Nat) (hm:Zim N ae ad=some r) (h0:Sl (Za.int .u32) col w0 a0 a3 ae) (h1:Sl (Za.int .u32) col w0 a1 a4 ad):
    Calls Tryz.prog 141 #[.slice a0 ae.length a3,.slice a1 ad.length a4] w0 (fun e w'=>∃ (col':Zd) (ra1:Option Addr) (rc2:Nat),e= .returned ((.slice ra1 r.length rc2))∧Zg col w0 col' w'∧Zb (Za.int .u32) 77 c1 col' w' ra1 rc2 r):=by
 refine Xl 4 (m:=43) func141 rfl rfl rfl rfl rfl ?_;rw [Zim.eq_1] at hm;have aa:=St.start col w0;refine go ?_;refine Z5 [0,1,1000000] (fun n f av=>∃ aw ak al af ab ai ag,ag=n∧Sx N ae ad ag af ab ai=some r∧St w0 (Zk col) aw av∧Zb (Za.int .u32) 77 1 aw av ak al af∧[5,6,7].map f=[.slice ak af.length al,.int .u64 ab,.int .i64 ai]) N ⟨_,none,0,_,0,0,_,rfl,hm,aa,Zb.nil,rfl⟩ ?_;clear hm;intro n f av hI;obtain ⟨aw,ak,al,af,ab,ai,ag,hn,hm,aa,ac,hs⟩:=hI;subst hn;refine .lL [5,6,7] hs ?_;replace h0:=h0.keep (Zl.start col w0);replace h1:=h1.keep (Zl.start col w0)
 cases ag with
 | zero=>rw [Sx.eq_1] at hm;cases hm
 | succ ag=>
  rw [Sx.eq_2] at hm;refine Zw ?_;refine Wp.cutK [0,1,5,6,7,1000000] (fun f ao=>∃ ah,Zin ae ad af ab ai (Sx N ae ad ag)=some r∧St w0 (Zk col) ah ao∧Zb (Za.int .u32) 77 1 ah ao ak al af) ?_ ?_
  ·intro f ao hJ;obtain ⟨ah,hm,aa,ac⟩:=hJ;rw [Zin.eq_1] at hm;refine go ?_;obtain ⟨am,a7,hm⟩:=bZ hm;refine Zi (Zdb a7 (h0.ks aa)) ?_;rintro _ a5 ⟨rfl,ap⟩;refine ⟨_,rfl,?_⟩;replace ap:Zg ah ao ah a5:=.of_below ap;refine go ?_;obtain ⟨an,a8,hm⟩:=bZ hm;replace aa:=aa.grow ap;refine Zi (Zdb a8 (h1.ks aa)) ?_;rintro _ a9 ⟨rfl,aq⟩;refine ⟨_,rfl,?_⟩;replace aq:Zg ah a5 ah a9:=.of_below aq;refine go ?_;refine lV (.int .u64 (Int.tmod (u64.wrap ((u64.wrap (ab+am))+an)) 4294967296)) (Tf (u64.wrap ((u64.wrap (ab+am))+an)) 4294967296 rfl rfl (by decide))<|go ?_;refine W6 (col:=ah) [u32.wrap (Int.tmod (u64.wrap ((u64.wrap (ab+am))+an)) 4294967296)] 2 ?_;intro bg bh bi a6 ba;obtain ⟨bb,hm⟩:=Z2 hm;replace ac:=((ac.gr ap).gr aq).gr a6;refine Vv ac (ba.srcN (NB.int (k:=.u32))) bb ?_;intro bj bk bm bn bc bd;refine go ?_;refine lV (.int .u64 (u64.wrap (Int.tdiv (u64.wrap ((u64.wrap (ab+am))+an)) 4294967296))) (W9 (u64.wrap ((u64.wrap (ab+am))+an)) 4294967296 rfl rfl (by decide))<|go ?_;replace aa:=((aa.grow aq).grow a6).kpp bc;exact ⟨ag,by omega,rfl,⟨_,_,_,_,_,_,_,rfl,hm,aa,bd,rfl⟩⟩
  refine Zw ?_;refine Wp.cutK [0,1,5,6,7,1000000] (fun f ar=>∃ aj ax,Zcs N ae ad af ab ai (Sx N ae ad ag) ax=some r∧St w0 (Zk col) aj ar∧Zb (Za.int .u32) 77 1 aj ar ak al af∧[21].map f=[.bool ax]) ?_ ?_
  ·intro f ar hJ;obtain ⟨aj,ax,hm,aa,ac,hs⟩:=hJ;rw [Zcs.eq_1] at hm;refine .lL [21] hs ?_;refine Zp hm (fun hb hm=>?_) fun hb hm=>go ?_
   ·refine Yd ?_;exact ⟨rfl,_,hm,aa,ac⟩
   obtain ⟨bo,be,hm⟩:=bZ hm;refine Zi (Sn 3 be (ac.toSlF (Ze.int .u32))) ?_;rintro _ bp ⟨bf,bq,br,rfl,au,ay⟩;refine ⟨_,rfl,?_⟩;replace ay:=ay.thaw (Zs .u32) au ((Fz.refl (col:=aj)).froz 1) (by decide);replace au:=au.thawR (col:=aj);generalize Z1 ar.heap.size aj bf=bs at *;refine go ?_;cases hm;replace aa:=aa.grow au;exact ⟨rfl,_,_,_,rfl,aa.fin (cm [(3,c1)]),aa.fo ay⟩
  refine go ?_;refine Xz hm (fun az hm=>go ?_) fun az hm=>go ?_
  ·refine lV (.bool true) (Xm (congrArg Value.bool az) rfl)<|Yh rfl<|lP 18 rfl rfl<|lP 18 rfl rfl<|lV (.bool true) (Xm rfl rfl)<|Zm ?_;exact ⟨rfl,_,_,hm,aa,ac,rfl⟩
  refine lV (.bool (decide (ai<(ad.length:Int)))) (Xd (congrArg Value.bool az) rfl)<|Yh rfl ?_;refine Xz hm (fun a2 hm=>go ?_) fun a2 hm=>go ?_
  ·refine lV (.bool true) (Xm (congrArg Value.bool a2) rfl)<|Zm ?_;exact ⟨rfl,_,_,hm,aa,ac,rfl⟩
  refine lV (.bool (decide (0<ab))) (Xd (congrArg Value.bool a2) rfl)<|Zm ?_;exact ⟨rfl,_,_,hm,aa,ac,rfl⟩
def Zgp (N:Nat) (aa:Int):Option R2:=
  (Uy N [u32.wrap (Int.tmod aa 4294967296),u32.wrap (u64.wrap (Int.tdiv aa 4294967296))]).bind fun ab=>some ab
theorem Zq2 {N:Nat} {col:Zd} {w0:World} {aa:Int} {r:R2} (c1:Nat) (hm:Zgp N aa=some r):
    Calls Tryz.prog 143 #[.int .u64 aa] w0 (fun e w'=>∃ (col':Zd) (ra1:Option Addr) (rc2:Nat),e= .returned ((.slice ra1 r.length rc2))∧Zg col w0 col' w'∧Zb (Za.int .u32) 77 c1 col' w' ra1 rc2 r):=by
 refine Xl 2 (m:=11) func143 rfl rfl rfl rfl rfl ?_;rw [Zgp.eq_1] at hm;have ab:=St.start col w0;refine go ?_;refine lV (.int .u64 (Int.tmod aa 4294967296)) (Tf aa 4294967296 rfl rfl (by decide))<|go ?_;refine lV (.int .u64 (u64.wrap (Int.tdiv aa 4294967296))) (W9 aa 4294967296 rfl rfl (by decide))<|go ?_;refine W6 (col:=(Zk col)) [u32.wrap (Int.tmod aa 4294967296),u32.wrap (u64.wrap (Int.tdiv aa 4294967296))] 1 ?_;intro ak af ad ag ah;obtain ⟨al,ai,hm⟩:=bZ hm;refine Zi (Sn 2 ai (ah.toSlF (Ze.int .u32))) ?_;rintro _ am ⟨aj,an,ao,rfl,ac,ae⟩;refine ⟨_,rfl,?_⟩;replace ae:=ae.thaw (Zs .u32) ac ((Fz.refl (col:=ad)).froz 1) (by decide);replace ac:=ac.thawR (col:=ad);generalize Z1 af.heap.size ad aj=ap at *;refine go ?_;cases hm;replace ab:=(ab.grow ag).grow ac;exact ⟨rfl,_,_,_,rfl,ab.fin (cm [(2,c1)]),ab.fo ae⟩

end Go.Proofs.YtlchacnggnhhbaaGreat
