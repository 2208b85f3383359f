/-
  What functions of the program compute, as plain Lean functions (m_..), and proofs that they compute it (c_..). Printed by a program of the author; no conditions.
-/
import Derived.Test.YtbmjpjhbankpoaaGreatCodeEncodeBFloat
import Derived.Test.YtbmjpjhbankpoaaGreatProg
import Derived.Test.YtbmjpjhbankpoaaGreatCodeEncodeBBrief
import Derived.Test.YtbmjpjhbankpoaaGreatCodeEncodeF1
set_option linter.unusedVariables false
set_option maxRecDepth 100000
set_option maxHeartbeats 2000000
namespace Go.Proofs.YtbmjpjhbankpoaaGreat
open Go Go.RowKit
open Go.IntKind (i8 i16 i32 i64 u8 u16 u32 u64)
open Go.Proofs.Tryz

def Zb7 (N:Nat) (aa:R1) (ab:R1):Option R1:=
  (Vy N ((ab.1.1,ab.1.2),ab.2)).bind fun ag=>(Q5 N (aa.1.1,aa.1.2) ag).bind fun ad=>(Vy N ((aa.1.1,aa.1.2),aa.2)).bind fun ah=>(Q5 N (ab.1.1,ab.1.2) ah).bind fun ae=>(Ze4 N (ad.1,ad.2) (ae.1,ae.2)).bind fun af=>(Vy N ((aa.1.1,aa.1.2),aa.2)).bind fun ai=>(Vy N ((ab.1.1,ab.1.2),ab.2)).bind fun aj=>(Q7 N ai aj).bind fun ak=>(Zat N af.1 af.2 ak).bind fun ac=>some ((ac.1.1,ac.1.2),ac.2)
theorem Zqk {N bo bz bp b0:Nat} {bq b1 br b2:Option Addr} {col:Zf} {w0:World} {aj ak r:R1} (c1 c2:Nat) (hm:Zb7 N aj ak=some r) (ba:Sl (Za.int .u32) col w0 bq bo aj.1.2) (bs:Sl (Za.int .u32) col w0 b1 bz aj.2) (bb:Sl (Za.int .u32) col w0 br bp ak.1.2) (bt:Sl (Za.int .u32) col w0 b2 b0 ak.2):
    Calls Tryz.prog 127 #[(.agg #[.bool aj.1.1,.slice bq aj.1.2.length bo,.slice b1 aj.2.length bz]),(.agg #[.bool ak.1.1,.slice br ak.1.2.length bp,.slice b2 ak.2.length b0])] w0 (fun e w'=>∃ (col':Zf) (ra1:Option Addr) (rc2:Nat) (ra4:Option Addr) (rc5:Nat),e= .returned ((.agg #[.bool r.1.1,.slice ra1 r.1.2.length rc2,.slice ra4 r.2.length rc5]))∧Zg col w0 col' w'∧Zc (Za.int .u32) 79 c1 col' w' ra1 rc2 r.1.2∧Zc (Za.int .u32) 79 c2 col' w' ra4 rc5 r.2):=by
 refine X2 (m:=27) func127 rfl rfl rfl ?_;rw [Zb7.eq_1] at hm;have aa:=St.start col w0;refine go ?_;refine Xd (col:=(Zi col)) 1 rfl ?_;intro cd c9 ce cf ae;refine Xd (col:=ce) 2 rfl ?_;intro cg da ch ca af;refine Xf (col:=ch) #[.bool false,.slice none (([]:List Int).length) 0,.slice none (([]:List Int).length) 0] 3 zeroValue47 ?_;intro db a4 ay b3 ab;refine go ?_;have bu:=Zz.clip (fun _=>false) ay a4;refine Zbr (col:=ay) [(0,1),(1,0),(2,0),(5,1),(6,0),(7,0),(3,3),(4,3),(8,3),(9,3),(10,3),(11,4),(12,2)] (by kernel_rfl) (by kernel_rfl) ⟨fun h=>absurd h (by decide),fun h=>absurd h (by decide),fun h=>absurd h (by decide),fun h=>absurd h (by decide),fun h=>absurd h (by decide),fun h=>absurd h (by decide),fun h=>absurd h (by decide),fun h=>absurd h (by decide),fun h=>absurd h (by decide),fun h=>absurd h (by decide),fun h=>absurd h (by decide),fun _=>⟨_,_,_,rfl,Ve zeroValue45⟩,fun h=>absurd h (by decide),trivial⟩<|X5 (v:=(.pointer ((some (⟨cd,0,none⟩:Addr)).map (·.add 0)))) rfl rfl (fun _=>Ux (sz:=2) (off:=0) underlying47 rfl sizeOf45 (by decide) rfl rfl ⟨_,_,rfl⟩) ?_;replace ae:=((ae.gr ca).gr b3).kpp bu;refine Y9 (v:=(.agg #[.bool aj.1.1,.slice bq aj.1.2.length bo])) rfl rfl (fun _ hC=>Xn isAgg45 sizeOf45 rfl rfl (((ae.atN).part 0 2 _ rfl).gr (hC.bl (Ze a4 ay)))) ?_;replace af:=(af.gr b3).kpp bu;refine Y9 (v:=(.agg #[.bool ak.1.1,.slice br ak.1.2.length bp,.slice b2 ak.2.length b0])) rfl rfl (fun _ hC=>Xn isAgg47 sizeOf47 rfl rfl (af.atN.gr (hC.bl (Ze a4 ay)))) ?_;refine X5 (v:=(.pointer ((some (⟨cg,0,none⟩:Addr)).map (·.add 0)))) rfl rfl (fun _=>Ux (sz:=2) (off:=0) underlying47 rfl sizeOf45 (by decide) rfl rfl ⟨_,_,rfl⟩) ?_;refine Y9 (v:=(.agg #[.bool ak.1.1,.slice br ak.1.2.length bp])) rfl rfl (fun _ hC=>Xn isAgg45 sizeOf45 rfl rfl (((af.atN).part 0 2 _ rfl).gr (hC.bl (Ze a4 ay)))) ?_;refine Y9 (v:=(.agg #[.bool aj.1.1,.slice bq aj.1.2.length bo,.slice b1 aj.2.length bz])) rfl rfl (fun _ hC=>Xn isAgg47 sizeOf47 rfl rfl (ae.atN.gr (hC.bl (Ze a4 ay)))) ?_;refine Ym rfl rfl ?_;intro dc hC0;have hC:=hC0.bl (Ze a4 ay);obtain ⟨dd,ci,hm⟩:=bZ hm;replace bb:=bb.keep (Zj.start col w0);replace bt:=bt.keep (Zj.start col w0);replace aa:=((((aa.grow cf).grow ca).grow b3).kpp bu).grow hC;refine Zh (Te 4 ci (bb.ks aa) (bt.ks aa)) ?_;rintro _ ao ⟨au,de,df,rfl,az,b4⟩;refine ⟨_,rfl,?_⟩
 refine Zk ?_;refine ⟨fun w'=>Zg (Ze ao au) ao (Ze ao au) w',fun g=>(Ze ao au) g=497,Zg.refl _ _,Yk,fun _=>⟨fun _ h=>Wm hC0 az h,fun b hb=>az.below.block b hb,fun g x1 x2=>Wr az g x1 (by first | exact x2 | (simp only [Xk,x2];rfl) | (simp only [Xk,Xz,x2];rfl))⟩,?_⟩;have bc:=Zz.clip (fun _=>false) au ao;refine Ym rfl rfl ?_;intro cj hC0;replace ab:=(((ab.kpp bu).gr hC).gr az).kpp bc;replace ae:=((ae.gr hC).gr az).kpp bc;replace af:=((af.gr hC).gr az).kpp bc;have hC:=hC0.bl (Ze ao au);obtain ⟨dg,ck,hm⟩:=bZ hm;replace ba:=ba.keep (Zj.start col w0);replace aa:=((aa.grow az).kpp bc).grow hC;replace b4:=(b4.kpp bc).gr hC;refine Zh (Zfk 5 ck ((ba.ks aa).froz 4) (b4.toSlF (Zl.int .u32))) ?_;rintro _ a5 ⟨cl,dh,di,rfl,am,ap⟩;refine ⟨_,rfl,?_⟩;replace bs:=bs.keep (Zj.start col w0);replace ap:=ap.thaw (Zv .u32) am ((Fz.refl (col:=(Ze ao au))).froz 4) (by decide);replace am:=am.thawR (col:=(Ze ao au));generalize Z4 cj.heap.size (Ze ao au) cl=bd at *;refine Zk ?_;refine ⟨fun w'=>Zg (Ze a5 bd) a5 (Ze a5 bd) w',fun g=>(Ze a5 bd) g=497,Zg.refl _ _,Yk,fun _=>⟨fun _ h=>Wm hC0 am h,fun b hb=>am.below.block b hb,fun g x1 x2=>Wr am g x1 (by first | exact x2 | (simp only [Xk,x2];rfl) | (simp only [Xk,Xz,x2];rfl))⟩,?_⟩;have be:=Zz.clip (fun _=>false) bd a5;refine Ym rfl rfl ?_;intro dj hC0;replace ae:=((ae.gr hC).gr am).kpp be;replace af:=((af.gr hC).gr am).kpp be;replace ab:=((ab.gr hC).gr am).kpp be;have hC:=hC0.bl (Ze a5 bd);obtain ⟨dl,cn,hm⟩:=bZ hm;replace aa:=((aa.grow am).kpp be).grow hC;refine Zh (Te 6 cn (ba.ks aa) (bs.ks aa)) ?_;rintro _ aq ⟨av,dm,dn,rfl,aw,b5⟩;refine ⟨_,rfl,?_⟩;refine Zk ?_;refine ⟨fun w'=>Zg (Ze aq av) aq (Ze aq av) w',fun g=>(Ze aq av) g=497,Zg.refl _ _,Yk,fun _=>⟨fun _ h=>Wm hC0 aw h,fun b hb=>aw.below.block b hb,fun g x1 x2=>Wr aw g x1 (by first | exact x2 | (simp only [Xk,x2];rfl) | (simp only [Xk,Xz,x2];rfl))⟩,?_⟩;have a6:=Zz.clip (fun _=>false) av aq;refine Ym rfl rfl ?_;intro co hC0;replace ap:=(((ap.kpp be).gr hC).gr aw).kpp a6;replace ae:=((ae.gr hC).gr aw).kpp a6;replace af:=((af.gr hC).gr aw).kpp a6;replace ab:=((ab.gr hC).gr aw).kpp a6;have hC:=hC0.bl (Ze aq av)
 obtain ⟨dp,cp,hm⟩:=bZ hm;replace aa:=((aa.grow aw).kpp a6).grow hC;replace b5:=(b5.kpp a6).gr hC;refine Zh (Zfk 7 cp ((bb.ks aa).froz 6) (b5.toSlF (Zl.int .u32))) ?_;rintro _ ar ⟨cq,dq,dr,rfl,al,bf⟩;refine ⟨_,rfl,?_⟩;replace bf:=bf.thaw (Zv .u32) al ((Fz.refl (col:=(Ze aq av))).froz 6) (by decide);replace al:=al.thawR (col:=(Ze aq av));generalize Z4 co.heap.size (Ze aq av) cq=ax at *;refine Zk ?_;refine ⟨fun w'=>Zg (Ze ar ax) ar (Ze ar ax) w',fun g=>(Ze ar ax) g=497,Zg.refl _ _,Yk,fun _=>⟨fun _ h=>Wm hC0 al h,fun b hb=>al.below.block b hb,fun g x1 x2=>Wr al g x1 (by first | exact x2 | (simp only [Xk,x2];rfl) | (simp only [Xk,Xz,x2];rfl))⟩,?_⟩;have a7:=Zz.clip (fun _=>false) ax ar;refine Ym rfl rfl ?_;intro cr hC0;replace ap:=((ap.gr hC).gr al).kpp a7;replace ae:=((ae.gr hC).gr al).kpp a7;replace af:=((af.gr hC).gr al).kpp a7;replace ab:=((ab.gr hC).gr al).kpp a7;have hC:=hC0.bl (Ze ar ax);obtain ⟨ds,cs,hm⟩:=bZ hm;replace bf:=(bf.kpp a7).gr hC;replace ap:=ap.gr hC;refine Zh (Zq6 8 cs ((ap.toSlF (Zl.int .u32)).froz 7) ((bf.froz 5 (by decide)).toSlF (Zl.int .u32))) ?_;rintro _ ac ⟨ct,dt,du,rfl,an,ag⟩;refine ⟨_,rfl,?_⟩;replace ag:=ag.thaw (Zv .u32) an (((Fz.refl (col:=(Ze ar ax))).froz 5).froz 7) (by decide);replace an:=an.thawR (col:=(Ze ar ax));generalize Z4 cr.heap.size (Ze ar ax) ct=ad at *;refine Zk ?_;refine ⟨fun w'=>Zg (Ze ac ad) ac (Ze ac ad) w',fun g=>(Ze ac ad) g=497,Zg.refl _ _,Yk,fun _=>⟨fun _ h=>Wm hC0 an h,fun b hb=>an.below.block b hb,fun g x1 x2=>Wr an g x1 (by first | exact x2 | (simp only [Xk,x2];rfl) | (simp only [Xk,Xz,x2];rfl))⟩,?_⟩;have bg:=Zz.clip (fun _=>false) ad ac;refine Qm rfl rfl (Ve zeroValue45) ?_;intro ah cu;refine Ym rfl rfl ?_;intro cv ⟨hC0,hZ0⟩;replace aa:=((((aa.grow al).kpp a7).grow hC).grow an).kpp bg;replace ae:=((ae.gr hC).gr an).kpp bg;replace af:=((af.gr hC).gr an).kpp bg;replace ab:=((ab.gr hC).gr an).kpp bg;have hC:=hC0.bl (Ze ac ad);obtain ⟨bh,b6⟩:=S4 (col:=(Ze ac ad)) 9 hZ0 cu;replace b6:Zn 45 9 (Zu ah 9 (Ze ac ad)) cv ah #[.bool false,.slice none (([]:List Int).length) 0]:=b6;refine Zw b6 ?_
 intro ai bi cw bv;refine Zk ?_;refine ⟨fun w'=>Zg (Ze ai (Zu ah 9 (Ze ac ad))) ai (Ze ai (Zu ah 9 (Ze ac ad))) w',fun g=>(Ze ai (Zu ah 9 (Ze ac ad))) g=497,Zg.refl _ _,Yk,fun h=>absurd h (by decide),?_⟩;have a8:=Zz.clip (fun _=>false) (Zu ah 9 (Ze ac ad)) ai;refine Zbs ?_;replace ag:=((((ag.kpp bg).gr hC).kpp bh).kp bi).kpp a8;replace ae:=(((ae.gr hC).kpp bh).kp bi).kpp a8;replace af:=(((af.gr hC).kpp bh).kp bi).kpp a8;replace ab:=(((ab.gr hC).kpp bh).kp bi).kpp a8;replace aa:=(((aa.grow hC).kpp bh).kp bi cw).kpp a8;intro cb hC;replace hC:Zg (Ze ai (Zu ah 9 (Ze ac ad))) ai (Ze ai (Zu ah 9 (Ze ac ad))) cb:=.of_below hC.below;refine Zy<|Yv (col:=(Ze ai (Zu ah 9 (Ze ac ad)))) [(0,1),(1,0),(2,1),(3,0),(4,0),(6,0),(5,3),(7,3),(8,3),(9,3),(10,2)] (by kernel_rfl) (by kernel_rfl)<|xF ⟨_,_,rfl⟩ ?_;replace bv:=(bv.kpp a8).gr hC;refine xW (fun _ hC=>((bv.atN).nth (q:=0) rfl).gr (hC.bl (Ze ai (Zu ah 9 (Ze ac ad))))) ?_;refine xF ⟨_,_,rfl⟩ ?_;refine xW (fun _ hC=>((bv.atN).nth (q:=1) rfl).gr (hC.bl (Ze ai (Zu ah 9 (Ze ac ad))))) ?_;replace ae:=ae.gr hC;refine xv rfl rfl (fun _ hC=>Xa isAgg47 sizeOf47 (ae.gr (hC.bl (Ze ai (Zu ah 9 (Ze ac ad)))))) ?_;replace af:=af.gr hC;refine xv rfl rfl (fun _ hC=>Xa isAgg47 sizeOf47 (af.gr (hC.bl (Ze ai (Zu ah 9 (Ze ac ad)))))) ?_;refine xe rfl rfl ?_;intro cx hC0;replace ag:=ag.gr hC;replace ab:=ab.gr hC;replace aa:=aa.grow hC;have hC:Zg (Ze ai (Zu ah 9 (Ze ac ad))) cb (Ze ai (Zu ah 9 (Ze ac ad))) cx:=.of_below hC0.below;obtain ⟨dv,cy,hm⟩:=bZ hm;replace aa:=aa.grow hC;refine Zh (Te 10 cy (ba.ks aa) (bs.ks aa)) ?_;rintro _ dw ⟨cc,dx,dy,rfl,bw,bj⟩;refine ⟨_,rfl,?_⟩;refine Zk<|Xg cc hC0 bw<|xe rfl rfl ?_;intro dz hC0;replace ag:=(ag.gr hC).gr bw;replace ab:=(ab.gr hC).gr bw;have hC:=hC0.bl cc;obtain ⟨d0,cz,hm⟩:=bZ hm;replace aa:=(aa.grow bw).grow hC;refine Zh (Te 11 cz (bb.ks aa) (bt.ks aa)) ?_;rintro _ d1 ⟨bk,d2,d3,rfl,bm,b7⟩;refine ⟨_,rfl,?_⟩;refine Zk<|Xg bk hC0 bm<|xe rfl rfl ?_;intro c0 hC0;replace ag:=(ag.gr hC).gr bm;replace bj:=(bj.gr hC).gr bm;replace ab:=(ab.gr hC).gr bm;have hC:=hC0.bl bk
 obtain ⟨d4,c3,hm⟩:=bZ hm;replace bj:=bj.gr hC;replace b7:=b7.gr hC;refine Zh (Zir 12 c3 ((bj.toSlF (Zl.int .u32)).froz 11) ((b7.froz 10 (by decide)).toSlF (Zl.int .u32))) ?_;rintro _ d5 ⟨c4,d6,d7,rfl,a0,bn⟩;refine ⟨_,rfl,?_⟩;replace bn:=bn.thaw (Zv .u32) a0 (((Fz.refl (col:=bk)).froz 10).froz 11) (by decide);replace a0:=a0.thawR (col:=bk);generalize Z4 c0.heap.size bk c4=a9 at *;refine Zk<|Xg a9 hC0 a0<|xe rfl rfl ?_;intro c5 hC0;replace aa:=((aa.grow bm).grow hC).grow a0;replace ag:=(ag.gr hC).gr a0;replace ab:=(ab.gr hC).gr a0;have hC:=hC0.bl a9;obtain ⟨d8,c6,hm⟩:=bZ hm;replace ag:=ag.gr hC;replace bn:=bn.gr hC;refine Zh (Ziq 13 14 c6 ((ag.toSlF (Zl.int .u32)).froz 12) ((bn.froz 8 (by decide)).toSlF (Zl.int .u32))) ?_;rintro _ d9 ⟨c7,ea,eb,ec,ed,rfl,a1,a2,a3⟩;refine ⟨_,rfl,?_⟩;replace a2:=a2.thaw (Zv .u32) a1 (((Fz.refl (col:=a9)).froz 8).froz 12) (by decide);replace a3:=a3.thaw (Zv .u32) a1 (((Fz.refl (col:=a9)).froz 8).froz 12) (by decide);replace a1:=a1.thawR (col:=a9);generalize Z4 c5.heap.size a9 c7=bx at *;refine Zk<|Xg bx hC0 a1<|xe rfl rfl ?_;intro ee hC0;replace ab:=(ab.gr hC).gr a1;replace aa:=(aa.grow hC).grow a1;have hC:=hC0.bl bx;replace ab:=ab.gr hC;refine Zw ab ?_;intro ef b8 c8 b9;refine Zk<|xk bx<|Yn ?_;replace a2:=(a2.gr hC).kp b8;replace a3:=(a3.gr hC).kp b8;replace aa:=(aa.grow hC).kp b8 c8;intro eg hC;replace hC:=hC.bl bx;refine Ys ?_;cases hm;replace a2:=a2.gr hC;replace a3:=a3.gr hC;replace b9:=b9.gr hC;replace aa:=aa.grow hC;exact ⟨rfl,_,ra b9.atN,_,_,_,_,_,rfl,aa.fin (cm [(13,c1),(14,c2)]),aa.fo a2,aa.fo a3⟩
def Zas (N:Nat) (aa:R1) (ab:R1):Option R1:=
  (Q7 N aa.1.2 ab.1.2).bind fun ad=>(Vy N ((aa.1.1,aa.1.2),aa.2)).bind fun ae=>(Vy N ((ab.1.1,ab.1.2),ab.2)).bind fun af=>(Q7 N ae af).bind fun ag=>(Zat N (!decide (aa.1.1=ab.1.1)) ad ag).bind fun ac=>some ((ac.1.1,ac.1.2),ac.2)
theorem Znj {N a4 a5 a6 a7:Nat} {a8 a9 ba bb:Option Addr} {col:Zf} {w0:World} {ai aj r:R1} (c1 c2:Nat) (hm:Zas N ai aj=some r) (ar:Sl (Za.int .u32) col w0 a8 a4 ai.1.2) (ax:Sl (Za.int .u32) col w0 a9 a5 ai.2) (au:Sl (Za.int .u32) col w0 ba a6 aj.1.2) (ay:Sl (Za.int .u32) col w0 bb a7 aj.2):
    Calls Tryz.prog 75 #[(.agg #[.bool ai.1.1,.slice a8 ai.1.2.length a4,.slice a9 ai.2.length a5]),(.agg #[.bool aj.1.1,.slice ba aj.1.2.length a6,.slice bb aj.2.length a7])] w0 (fun e w'=>∃ (col':Zf) (ra1:Option Addr) (rc2:Nat) (ra4:Option Addr) (rc5:Nat),e= .returned ((.agg #[.bool r.1.1,.slice ra1 r.1.2.length rc2,.slice ra4 r.2.length rc5]))∧Zg col w0 col' w'∧Zc (Za.int .u32) 79 c1 col' w' ra1 rc2 r.1.2∧Zc (Za.int .u32) 79 c2 col' w' ra4 rc5 r.2):=by
 refine X2 (m:=25) func75 rfl rfl rfl ?_;rw [Zas.eq_1] at hm;have aa:=St.start col w0;refine go ?_;refine Xd (col:=(Zi col)) 1 rfl ?_;intro bt bu bf bg al;refine Xd (col:=bf) 2 rfl ?_;intro bv bw bh bc am;refine Xf (col:=bh) #[.bool false,.slice none (([]:List Int).length) 0,.slice none (([]:List Int).length) 0] 3 zeroValue47 ?_;intro bx bz ad az ab;refine go ?_;refine Yv (col:=ad) [(0,1),(1,1),(2,0),(3,1),(4,1),(5,0),(6,1),(7,1),(8,1),(9,0),(10,1),(11,1),(12,0),(14,0),(16,0),(13,3),(15,3),(17,3),(18,3),(19,3),(20,2)] (by kernel_rfl) (by kernel_rfl)<|xF ⟨_,_,rfl⟩ ?_;refine xF (Wi ⟨_,_,rfl⟩) ?_;replace al:=(al.gr bc).gr az;refine xW (fun _ hC=>((((al.atN).part 0 2 _ rfl)).nth (q:=0) rfl).gr (hC.bl ad)) ?_;refine xF ⟨_,_,rfl⟩ ?_;refine xF (Wi ⟨_,_,rfl⟩) ?_;replace am:=am.gr az;refine xW (fun _ hC=>((((am.atN).part 0 2 _ rfl)).nth (q:=0) rfl).gr (hC.bl ad)) ?_;refine xu rfl rfl (fun _=>Zfa _ _ underlying4 rfl rfl) ?_;refine xF ⟨_,_,rfl⟩ ?_;refine xF (Wi ⟨_,_,rfl⟩) ?_;refine xW (fun _ hC=>((((al.atN).part 0 2 _ rfl)).nth (q:=1) rfl).gr (hC.bl ad)) ?_;refine xF ⟨_,_,rfl⟩ ?_;refine xF (Wi ⟨_,_,rfl⟩) ?_;refine xW (fun _ hC=>((((am.atN).part 0 2 _ rfl)).nth (q:=1) rfl).gr (hC.bl ad)) ?_;refine xv rfl rfl (fun _ hC=>Xa isAgg47 sizeOf47 (al.gr (hC.bl ad))) ?_;refine xv rfl rfl (fun _ hC=>Xa isAgg47 sizeOf47 (am.gr (hC.bl ad))) ?_;refine xe rfl rfl ?_;intro b0 hC0;have hC:=hC0.bl ad;obtain ⟨b1,bi,hm⟩:=bZ hm;replace ar:=ar.keep (Zj.start col w0);replace au:=au.keep (Zj.start col w0);replace aa:=(((aa.grow bg).grow bc).grow az).grow hC;refine Zh (Zir 4 bi (ar.ks aa) (au.ks aa)) ?_;rintro _ b2 ⟨bd,b3,b4,rfl,a0,ac⟩;refine ⟨_,rfl,?_⟩;refine Zk<|Xg bd hC0 a0<|xe rfl rfl ?_;intro b5 hC0;replace ab:=(ab.gr hC).gr a0;have hC:=hC0.bl bd;obtain ⟨b6,bj,hm⟩:=bZ hm;replace ax:=ax.keep (Zj.start col w0);replace aa:=(aa.grow a0).grow hC;refine Zh (Te 5 bj (ar.ks aa) (ax.ks aa)) ?_;rintro _ b7 ⟨be,b8,b9,rfl,av,an⟩;refine ⟨_,rfl,?_⟩;refine Zk<|Xg be hC0 av<|xe rfl rfl ?_;intro ca hC0;replace ac:=(ac.gr hC).gr av;replace ab:=(ab.gr hC).gr av;have hC:=hC0.bl be;obtain ⟨cb,bk,hm⟩:=bZ hm;replace ay:=ay.keep (Zj.start col w0);replace aa:=(aa.grow av).grow hC
 refine Zh (Te 6 bk (au.ks aa) (ay.ks aa)) ?_;rintro _ cc ⟨ao,cd,ce,rfl,ap,a1⟩;refine ⟨_,rfl,?_⟩;refine Zk<|Xg ao hC0 ap<|xe rfl rfl ?_;intro bm hC0;replace ac:=(ac.gr hC).gr ap;replace an:=(an.gr hC).gr ap;replace ab:=(ab.gr hC).gr ap;have hC:=hC0.bl ao;obtain ⟨cf,bn,hm⟩:=bZ hm;replace an:=an.gr hC;replace a1:=a1.gr hC;refine Zh (Zir 7 bn ((an.toSlF (Zl.int .u32)).froz 6) ((a1.froz 5 (by decide)).toSlF (Zl.int .u32))) ?_;rintro _ cg ⟨bo,ch,ci,rfl,ae,aq⟩;refine ⟨_,rfl,?_⟩;replace aq:=aq.thaw (Zv .u32) ae (((Fz.refl (col:=ao)).froz 5).froz 6) (by decide);replace ae:=ae.thawR (col:=ao);generalize Z4 bm.heap.size ao bo=ak at *;refine Zk<|Xg ak hC0 ae<|xe rfl rfl ?_;intro bp hC0;replace aa:=((aa.grow ap).grow hC).grow ae;replace ac:=(ac.gr hC).gr ae;replace ab:=(ab.gr hC).gr ae;have hC:=hC0.bl ak;obtain ⟨cj,bq,hm⟩:=bZ hm;replace ac:=ac.gr hC;replace aq:=aq.gr hC;refine Zh (Ziq 8 9 bq ((ac.toSlF (Zl.int .u32)).froz 7) ((aq.froz 4 (by decide)).toSlF (Zl.int .u32))) ?_;rintro _ ck ⟨br,cl,cn,co,cp,rfl,af,ag,ah⟩;refine ⟨_,rfl,?_⟩;replace ag:=ag.thaw (Zv .u32) af (((Fz.refl (col:=ak)).froz 4).froz 7) (by decide);replace ah:=ah.thaw (Zv .u32) af (((Fz.refl (col:=ak)).froz 4).froz 7) (by decide);replace af:=af.thawR (col:=ak);generalize Z4 bp.heap.size ak br=aw at *;refine Zk<|Xg aw hC0 af<|xe rfl rfl ?_;intro cq hC0;replace ab:=(ab.gr hC).gr af;replace aa:=(aa.grow hC).grow af;have hC:=hC0.bl aw;replace ab:=ab.gr hC;refine Zw ab ?_;intro cr a2 bs a3;refine Zk<|xk aw<|Yn ?_;replace ag:=(ag.gr hC).kp a2;replace ah:=(ah.gr hC).kp a2;replace aa:=(aa.grow hC).kp a2 bs;intro cs hC;replace hC:=hC.bl aw;refine Ys ?_;cases hm;replace ag:=ag.gr hC;replace ah:=ah.gr hC;replace a3:=a3.gr hC;replace aa:=aa.grow hC;exact ⟨rfl,_,ra a3.atN,_,_,_,_,_,rfl,aa.fin (cm [(8,c1),(9,c2)]),aa.fo ag,aa.fo ah⟩
def Sw (N:Nat) (aa:R4):Option Int:=
  (Zax N aa.2).bind fun ab=>if (decide (ab=0))=true then (some 0) else (if aa.1=true then (some (-1)) else (some 1))
theorem Zfm {N af:Nat} {ag:Option Addr} {col:Zf} {w0:World} {ab:R4} {r:Int} (hm:Sw N ab=some r) (ae:Sl (Za.int .u32) col w0 ag af ab.2):
    Calls Tryz.prog 187 #[(.agg #[.bool ab.1,.slice ag ab.2.length af])] w0 (fun e w'=>e= .returned ((.int .i64 r))∧Below w0.heap.size w0 w'):=by
 refine Xi 2 (m:=11) func187 rfl rfl rfl rfl rfl ?_;rw [Sw.eq_1] at hm;have aa:=St.start col w0;refine go ?_;refine Xd (col:=(Zi col)) 1 rfl ?_;intro am ai ah aj ac;refine go ?_;refine Xc ac ?_;obtain ⟨an,ak,hm⟩:=bZ hm;replace ae:=ae.keep (Zj.start col w0);replace aa:=aa.grow aj;refine Zh (Znk ak (ae.ks aa)) ?_;rintro _ al ⟨rfl,ad⟩;refine ⟨_,rfl,?_⟩;replace ad:Zg ah ai ah al:=.of_below ad;refine go ?_;replace ac:=ac.gr ad;replace aa:=aa.grow ad;refine Zq hm (fun hb hm=>go ?_) fun hb hm=>go ?_
 ·cases hm;exact ⟨rfl,rfl,aa.below⟩
 refine Xc ac ?_;refine go ?_;refine Zq hm (fun hb hm=>go ?_) fun hb hm=>go ?_
 ·cases hm;exact ⟨rfl,rfl,aa.below⟩
 cases hm;exact ⟨rfl,rfl,aa.below⟩
def Zj9 (N:Nat) (aa:R4) (ab:R4):Option Int:=
  (Sw N (aa.1,aa.2)).bind fun ac=>(Sw N (ab.1,ab.2)).bind fun ad=>if (decide (ac<ad))=true then (some (-1)) else (if (decide (ad<ac))=true then (some 1) else ((Zdv N aa.2 ab.2).bind fun ae=>some (i64.wrap (ac * ae))))
theorem Zz4 {N aj ak:Nat} {al am:Option Addr} {col:Zf} {w0:World} {ad ae:R4} {r:Int} (hm:Zj9 N ad ae=some r) (af:Sl (Za.int .u32) col w0 al aj ad.2) (ag:Sl (Za.int .u32) col w0 am ak ae.2):
    Calls Tryz.prog 184 #[(.agg #[.bool ad.1,.slice al ad.2.length aj]),(.agg #[.bool ae.1,.slice am ae.2.length ak])] w0 (fun e w'=>e= .returned ((.int .i64 r))∧Below w0.heap.size w0 w'):=by
 refine Xi 4 (m:=26) func184 rfl rfl rfl rfl rfl ?_;rw [Zj9.eq_1] at hm;have aa:=St.start col w0;refine go ?_;refine Xd (col:=(Zi col)) 1 rfl ?_;intro az a0 ao ap ac;refine Xd (col:=ao) 2 rfl ?_;intro a1 a2 ab an ah;refine go ?_;refine Wc (col:=ab) (by kernel_rfl) (by kernel_rfl) ?_;replace ac:=ac.gr an;refine qv rfl (fun _ hC=>Xa isAgg45 sizeOf45 (ac.gr (hC.bl ab))) ?_;obtain ⟨aq,ar,hm⟩:=bZ hm;replace af:=af.keep (Zj.start col w0);replace aa:=(aa.grow ap).grow an;refine qc (v:=(.int .i64 aq)) rfl (fun _ hC=>⟨_,_,S0 call187 rfl,(Zfm ar ((af.ks aa).gr (hC.bl ab)):).mono fun _ _ h=>⟨h.1,hC.trans (.of_below h.2)⟩⟩) ?_;refine qv rfl (fun _ hC=>Xa isAgg45 sizeOf45 (ah.gr (hC.bl ab))) ?_;obtain ⟨au,av,hm⟩:=bZ hm;replace ag:=ag.keep (Zj.start col w0);refine qc (v:=(.int .i64 au)) rfl (fun _ hC=>⟨_,_,S0 call187 rfl,(Zfm av ((ag.ks aa).gr (hC.bl ab)):).mono fun _ _ h=>⟨h.1,hC.trans (.of_below h.2)⟩⟩) ?_;refine go ?_;refine Yf ?_;intro aw hC;replace hC:=hC.bl ab;refine go ?_;replace ac:=ac.gr hC;replace ah:=ah.gr hC;replace aa:=aa.grow hC;refine Zq hm (fun hb hm=>go ?_) fun hb hm=>go ?_
 ·cases hm;exact ⟨rfl,rfl,aa.below⟩
 refine Zq hm (fun hb hm=>go ?_) fun hb hm=>go ?_
 ·cases hm;exact ⟨rfl,rfl,aa.below⟩
 refine Xc ac<|Xc ah ?_;obtain ⟨a3,ax,hm⟩:=bZ hm;refine Zh (Znl ax (af.ks aa) (ag.ks aa)) ?_;rintro _ ay ⟨rfl,ai⟩;refine ⟨_,rfl,?_⟩;replace ai:Zg ab aw ab ay:=.of_below ai;refine go ?_;cases hm;replace aa:=aa.grow ai;exact ⟨rfl,rfl,aa.below⟩
def Zb5 (N:Nat) (aa:R1) (ab:R1):Option Int:=
  (Vy N ((ab.1.1,ab.1.2),ab.2)).bind fun ae=>(Q5 N (aa.1.1,aa.1.2) ae).bind fun ac=>(Vy N ((aa.1.1,aa.1.2),aa.2)).bind fun af=>(Q5 N (ab.1.1,ab.1.2) af).bind fun ad=>(Zj9 N (ac.1,ac.2) (ad.1,ad.2)).bind fun ag=>some ag
theorem Zni {N ap a0 aq a1:Nat} {ar a2 au a3:Option Addr} {col:Zf} {w0:World} {ac ad:R1} {r:Int} (hm:Zb5 N ac ad=some r) (al:Sl (Za.int .u32) col w0 ar ap ac.1.2) (av:Sl (Za.int .u32) col w0 a2 a0 ac.2) (am:Sl (Za.int .u32) col w0 au aq ad.1.2) (aw:Sl (Za.int .u32) col w0 a3 a1 ad.2):
    Calls Tryz.prog 71 #[(.agg #[.bool ac.1.1,.slice ar ac.1.2.length ap,.slice a2 ac.2.length a0]),(.agg #[.bool ad.1.1,.slice au ad.1.2.length aq,.slice a3 ad.2.length a1])] w0 (fun e w'=>e= .returned ((.int .i64 r))∧Below w0.heap.size w0 w'):=by
 refine Xi 4 (m:=16) func71 rfl rfl rfl rfl rfl ?_;rw [Zb5.eq_1] at hm;have aa:=St.start col w0;refine go ?_;refine Xd (col:=(Zi col)) 1 rfl ?_;intro bm bn a8 a9 an;refine Xd (col:=a8) 2 rfl ?_;intro bo bp ae a4 a5;refine go ?_;refine Yv (col:=ae) [(0,1),(1,0),(2,0),(5,1),(6,0),(7,0),(3,3),(4,3),(8,3),(9,3),(10,3),(11,1)] (by kernel_rfl) (by kernel_rfl)<|xF ⟨_,_,rfl⟩ ?_;replace an:=an.gr a4;refine xv (v:=(.agg #[.bool ac.1.1,.slice ar ac.1.2.length ap])) rfl rfl (fun _ hC=>Xn isAgg45 sizeOf45 rfl rfl (((an.atN).part 0 2 _ rfl).gr (hC.bl ae))) ?_;refine xv rfl rfl (fun _ hC=>Xa isAgg47 sizeOf47 (a5.gr (hC.bl ae))) ?_;refine xF ⟨_,_,rfl⟩ ?_;refine xv (v:=(.agg #[.bool ad.1.1,.slice au ad.1.2.length aq])) rfl rfl (fun _ hC=>Xn isAgg45 sizeOf45 rfl rfl (((a5.atN).part 0 2 _ rfl).gr (hC.bl ae))) ?_;refine xv rfl rfl (fun _ hC=>Xa isAgg47 sizeOf47 (an.gr (hC.bl ae))) ?_;refine xe rfl rfl ?_;intro bq hC0;have hC:=hC0.bl ae;obtain ⟨br,ba,hm⟩:=bZ hm;replace am:=am.keep (Zj.start col w0);replace aw:=aw.keep (Zj.start col w0);replace aa:=((aa.grow a9).grow a4).grow hC;refine Zh (Te 3 ba (am.ks aa) (aw.ks aa)) ?_;rintro _ bs ⟨ah,bt,bu,rfl,a6,ax⟩;refine ⟨_,rfl,?_⟩;refine Zk<|Xg ah hC0 a6<|xe rfl rfl ?_;intro bb hC0;have hC:=hC0.bl ah;obtain ⟨bv,bc,hm⟩:=bZ hm;replace al:=al.keep (Zj.start col w0);replace aa:=(aa.grow a6).grow hC;replace ax:=ax.gr hC;refine Zh (Zfk 4 bc ((al.ks aa).froz 3) (ax.toSlF (Zl.int .u32))) ?_;rintro _ bw ⟨bd,bx,bz,rfl,ai,ab⟩;refine ⟨_,rfl,?_⟩;replace av:=av.keep (Zj.start col w0);replace ab:=ab.thaw (Zv .u32) ai ((Fz.refl (col:=ah)).froz 3) (by decide);replace ai:=ai.thawR (col:=ah);generalize Z4 bb.heap.size ah bd=a7 at *;refine Zk<|Xg a7 hC0 ai<|xe rfl rfl ?_;intro b0 hC0;have hC:=hC0.bl a7;obtain ⟨b1,be,hm⟩:=bZ hm;replace aa:=(aa.grow ai).grow hC;refine Zh (Te 5 be (al.ks aa) (av.ks aa)) ?_;rintro _ b2 ⟨aj,b3,b4,rfl,ay,az⟩;refine ⟨_,rfl,?_⟩;refine Zk<|Xg aj hC0 ay<|xe rfl rfl ?_;intro bf hC0;replace ab:=(ab.gr hC).gr ay;have hC:=hC0.bl aj;obtain ⟨b5,bg,hm⟩:=bZ hm;replace aa:=(aa.grow ay).grow hC;replace az:=az.gr hC
 refine Zh (Zfk 6 bg ((am.ks aa).froz 5) (az.toSlF (Zl.int .u32))) ?_;rintro _ b6 ⟨bh,b7,b8,rfl,af,ak⟩;refine ⟨_,rfl,?_⟩;replace ak:=ak.thaw (Zv .u32) af ((Fz.refl (col:=aj)).froz 5) (by decide);replace af:=af.thawR (col:=aj);generalize Z4 bf.heap.size aj bh=ag at *;refine Zk<|Xg ag hC0 af<|xe rfl rfl ?_;intro bi hC0;replace ab:=(ab.gr hC).gr af;have hC:=hC0.bl ag;obtain ⟨b9,bj,hm⟩:=bZ hm;replace ab:=ab.gr hC;replace ak:=ak.gr hC;refine Zh (Zz4 bj ((ab.toSlF (Zl.int .u32)).froz 6) ((ak.froz 4 (by decide)).toSlF (Zl.int .u32))) ?_;rintro _ bk ⟨rfl,ao⟩;refine ⟨_,rfl,?_⟩;replace ao:Zg ag bi ag bk:=.of_below ao;refine Zk<|Xg ag hC0 ao<|xu rfl rfl (fun _=>Zia rfl) ?_;refine Yn ?_;replace aa:=((aa.grow af).grow hC).grow ao;intro ca hC;replace hC:=hC.bl ag;refine Ys ?_;cases hm;replace aa:=aa.grow hC;exact ⟨rfl,rfl,aa.below⟩
def Zb8 (N:Nat):List R1→Bool→R2→R2→Option R1
  | [],aa,ab,ac=>some ((aa,ab),ac)
  | ad :: af,aa,ab,ac=>(Qa N ((aa,ab),ac) ((ad.1.1,ad.1.2),ad.2)).bind fun ae=>(Zb8 N af) ae.1.1 ae.1.2 ae.2
termination_by structural x=>x
def Zdp (N:Nat) (aa:Rc):Option R1:=
  (Zay N 1).bind fun ab=>Zb8 N aa false ([]:List Int) ab
theorem Zql {N ba:Nat} {a0:Option Addr} {col:Zf} {w0:World} {af:Rc} {r:R1} (c1 c2:Nat) (hm:Zdp N af=some r) (h0:Sl (Za.pair (Za.pair Za.bool (Za.slice (Za.int .u32))) (Za.slice (Za.int .u32))) col w0 a0 ba af):
    Calls Tryz.prog 69 #[.slice a0 af.length ba] w0 (fun e w'=>∃ (col':Zf) (ra1:Option Addr) (rc2:Nat) (ra4:Option Addr) (rc5:Nat),e= .returned ((.agg #[.bool r.1.1,.slice ra1 r.1.2.length rc2,.slice ra4 r.2.length rc5]))∧Zg col w0 col' w'∧Zc (Za.int .u32) 79 c1 col' w' ra1 rc2 r.1.2∧Zc (Za.int .u32) 79 c2 col' w' ra4 rc5 r.2):=by
 refine X2 (m:=19) func69 rfl rfl rfl ?_;rw [Zdp.eq_1] at hm;have aa:=St.start col w0;refine go ?_;refine Xf (col:=(Zi col)) #[.bool false,.slice none (([]:List Int).length) 0,.slice none (([]:List Int).length) 0] 1 zeroValue47 ?_;intro bc cb bd be ab;refine go ?_;obtain ⟨bf,bg,hm⟩:=bZ hm;refine Zh (Zis (col:=bd) 2 bg) ?_;rintro _ cc ⟨bh,bi,bj,rfl,bb,aw⟩;refine ⟨_,rfl,?_⟩;refine lV (.agg #[.bool false,.slice none (([]:List Int).length) 0,.slice bi bf.length bj]) (Yc (l:=[_,_]) (qs:=[(0,2),(2,1)]) underlying47 zeroValue47 ⟨rfl,sizeOf45,rfl,sizeOf43,trivial⟩ rfl)<|Xf (col:=bh) #[.bool false,.slice none (([]:List Int).length) 0,.slice none (([]:List Int).length) 0] 3 zeroValue47 ?_;intro bk cd ce ax bm;refine Zw bm ?_;intro cf ay bn ac;refine go ?_;replace aa:=(((aa.grow be).grow bb).grow ax).kp ay bn;replace ab:=((ab.gr bb).gr ax).kp ay;replace aw:=(aw.gr ax).kp ay;refine Z8 [2,3,8,9,1000000] (fun n f ak=>∃ ag an az a1 a2 aq a3 a4 ar ao,n=ao.length∧af.drop an=ao∧Zb8 N ao az aq ar=some r∧St w0 (Zi col) ag ak∧Zn 47 1 ag ak bc #[.bool false,.slice none (([]:List Int).length) 0,.slice none (([]:List Int).length) 0]∧Zc (Za.int .u32) 79 4 ag ak a1 a2 aq∧Zc (Za.int .u32) 79 2 ag ak a3 a4 ar∧Zn 47 3 ag ak bk #[.bool az,.slice a1 aq.length a2,.slice a3 ar.length a4]∧[10].map f=[.int .i64 an]) af.length ⟨_,0,_,none,0,_,_,_,_,_,rfl,rfl,hm,aa,ab,Zc.nil,aw,ac,rfl⟩ ?_;clear hm;intro n f ak hI;obtain ⟨ag,an,az,a1,a2,aq,a3,a4,ar,ao,hn,hl,hm,aa,ab,al,am,ac,hs⟩:=hI;subst hn;refine .lL [10] hs ?_;replace h0:=h0.keep (Zj.start col w0)
 cases ao with
 | nil=>
  have hk:¬ ((an:Int)<(af.length:Int)):=by have:=List.drop_eq_nil_iff.1 hl;omega
  have hkb:=decide_eq_false hk;rw [Zb8.eq_1] at hm;refine go ?_;refine Y7 (congrArg Value.bool hkb)<|go ?_;refine lV _ (Xa isAgg47 sizeOf47 ac)<|Zw ab ?_;intro cg a5 bo bp;refine go ?_;cases hm;replace al:=al.kp a5;replace am:=am.kp a5;replace aa:=aa.kp a5 bo;exact ⟨rfl,_,ra bp.atN,_,_,_,_,_,rfl,aa.fin (cm [(4,c1),(2,c2)]),aa.fo al,aa.fo am⟩
 | cons a6 bq=>
  obtain ⟨a7,br,bs⟩:=Wg hl;have hk:(an:Int)<(af.length:Int):=by omega
  have hkb:=decide_eq_true hk;rw [Zb8.eq_2] at hm;refine go ?_;refine Y8 (congrArg Value.bool hkb)<|go ?_;refine lI a7 ((h0.ks aa).addr a7) ?_;obtain ⟨_,bt,bu⟩:=(h0.ks aa).atN a7;obtain ⟨_,_,rfl,bv,bw⟩:=Y5 bt;obtain ⟨_,_,rfl,bx,bz⟩:=Y5 bv;obtain ⟨rfl,_⟩:=bx;obtain ⟨⟨b0,b1,rfl,a8⟩,_⟩:=bz;obtain ⟨⟨b2,b3,rfl,a9⟩,_⟩:=bw;refine lV (.agg #[.bool a6.1.1,.slice b0 a6.1.2.length b1,.slice b2 a6.2.length b3]) (Xn isAgg47 sizeOf47 rfl rfl bu)<|Xf (col:=ag) #[.bool false,.slice none (([]:List Int).length) 0,.slice none (([]:List Int).length) 0] 5 zeroValue47 ?_;intro ch ci au ah b4;refine Zw b4 ?_;intro b5 ai b6 b7;refine go ?_;replace ac:=(ac.gr ah).kp ai;refine lV _ (Xa isAgg47 sizeOf47 ac)<|lV _ (Xa isAgg47 sizeOf47 b7) ?_;obtain ⟨cj,b8,hm⟩:=bZ hm;replace al:=(al.gr ah).kp ai;replace am:=(am.gr ah).kp ai;replace a8:=(a8.gr ah).kp ai;replace a9:=(a9.gr ah).kp ai;refine Zh (Zk8 6 7 b8 ((al.toSlF (Zl.int .u32)).froz 2) ((am.froz 4 (by decide)).toSlF (Zl.int .u32)) ((a8.froz 4).froz 2) ((a9.froz 4).froz 2)) ?_;rintro _ ck ⟨b9,cl,cn,co,cp,rfl,aj,ad,ae⟩;refine ⟨_,rfl,?_⟩;replace ad:=ad.thaw (Zv .u32) aj (((Fz.refl (col:=au)).froz 4).froz 2) (by decide);replace ae:=ae.thaw (Zv .u32) aj (((Fz.refl (col:=au)).froz 4).froz 2) (by decide);replace aj:=aj.thawR (col:=au);generalize Z4 b5.heap.size au b9=cq at *;replace ac:=ac.gr aj;refine Zw ac ?_;intro cr av ca ap;refine go ?_;replace ad:=ad.kp av;replace ad:=ad.recolSelf 4 (by decide);replace ae:=ae.kp av;replace ae:=ae.recol 6 4 (by decide);replace ab:=(((ab.gr ah).kp ai).gr aj).kp av;replace ab:=ab.recol 6 4 (by decide);replace ap:=ap.recol 6 4 (by decide);replace aa:=(((aa.grow ah).kp ai b6).grow aj).kp av ca;replace aa:=aa.recol 6 4 (by decide) (by decide);replace ad:=ad.recol 7 2 (by decide);replace ae:=ae.recolSelf 2 (by decide);replace ab:=ab.recol 7 2 (by decide);replace ap:=ap.recol 7 2 (by decide);replace aa:=aa.recol 7 2 (by decide) (by decide);exact ⟨bq.length,by simp,rfl,⟨_,_,_,_,_,_,_,_,_,_,rfl,br,hm,aa,ab,ad,ae,ap,(Wq (congrArg (Value.int .i64) (Wj (Nat.lt_of_lt_of_le bs (h0.ks aa).1.1))) rfl)⟩⟩
def Zc3 (N:Nat) (aa:Int):Option R4:=
  if (decide (aa<0))=true then ((Zay N (u64.wrap (-(u64.wrap aa)))).bind fun ad=>(Tk N true ad).bind fun ab=>some (ab.1,ab.2)) else ((Zay N (u64.wrap aa)).bind fun ae=>(Tk N false ae).bind fun ac=>some (ac.1,ac.2))
theorem Znx {N:Nat} {col:Zf} {w0:World} {ai:Int} {r:R4} (c1:Nat) (hm:Zc3 N ai=some r):
    Calls Tryz.prog 262 #[.int .i64 ai] w0 (fun e w'=>∃ (col':Zf) (ra1:Option Addr) (rc2:Nat),e= .returned ((.agg #[.bool r.1,.slice ra1 r.2.length rc2]))∧Zg col w0 col' w'∧Zc (Za.int .u32) 79 c1 col' w' ra1 rc2 r.2):=by
 refine X2 (m:=14) func262 rfl rfl rfl ?_;rw [Zc3.eq_1] at hm;have aa:=St.start col w0;refine go ?_;refine Xf (col:=(Zi col)) #[.bool false,.slice none (([]:List Int).length) 0] 1 zeroValue45 ?_;intro a5 a6 aj ao ab;refine go ?_;replace aa:=aa.grow ao;refine Zq hm (fun hb hm=>go ?_) fun hb hm=>go ?_
 ·obtain ⟨a7,ap,hm⟩:=bZ hm;refine Zh (Zis (col:=aj) 2 ap) ?_;rintro _ aq ⟨ag,a8,a9,rfl,ak,ar⟩;refine ⟨_,rfl,?_⟩;obtain ⟨ba,au,hm⟩:=bZ hm;refine Zh (Qu 3 au (ar.toSlF (Zl.int .u32))) ?_;rintro _ bb ⟨av,bc,bd,rfl,ac,ad⟩;refine ⟨_,rfl,?_⟩;replace ad:=ad.thaw (Zv .u32) ac ((Fz.refl (col:=ag)).froz 2) (by decide);replace ac:=ac.thawR (col:=ag);generalize Z4 aq.heap.size ag av=be at *;replace ab:=(ab.gr ak).gr ac;refine Zw ab ?_;intro bf al aw ax;refine go ?_;cases hm;replace aa:=((aa.grow ak).grow ac).kp al aw;replace ad:=ad.kp al;exact ⟨rfl,_,ra ax.atN,_,_,_,rfl,aa.fin (cm [(3,c1)]),aa.fo ad⟩
 obtain ⟨bg,ay,hm⟩:=bZ hm;refine Zh (Zis (col:=aj) 4 ay) ?_;rintro _ az ⟨ah,bh,bi,rfl,am,a0⟩;refine ⟨_,rfl,?_⟩;obtain ⟨bj,a1,hm⟩:=bZ hm;refine Zh (Qu 5 a1 (a0.toSlF (Zl.int .u32))) ?_;rintro _ bk ⟨a2,bm,bn,rfl,ae,af⟩;refine ⟨_,rfl,?_⟩;replace af:=af.thaw (Zv .u32) ae ((Fz.refl (col:=ah)).froz 4) (by decide);replace ae:=ae.thawR (col:=ah);generalize Z4 az.heap.size ah a2=bo at *;replace ab:=(ab.gr am).gr ae;refine Zw ab ?_;intro bp an a3 a4;refine go ?_;cases hm;replace aa:=((aa.grow am).grow ae).kp an a3;replace af:=af.kp an;exact ⟨rfl,_,ra a4.atN,_,_,_,rfl,aa.fin (cm [(5,c1)]),aa.fo af⟩
def Zi8 (N:Nat) (ac:R4) (aa:R4):Option (R1×Int):=
  (Sw N (aa.1,aa.2)).bind fun ad=>if (decide (ad=0))=true then (some (((false,([]:List Int)),([]:List Int)),11)) else ((Zat N (!decide (ac.1=aa.1)) ac.2 aa.2).bind fun ab=>some (((ab.1.1,ab.1.2),ab.2),0))
theorem Zyi {N an ao:Nat} {ap aq:Option Addr} {col:Zf} {w0:World} {ae af:R4} {r:(R1×Int)} (c1 c2:Nat) (hm:Zi8 N ae af=some r) (ai:Sl (Za.int .u32) col w0 ap an ae.2) (ag:Sl (Za.int .u32) col w0 aq ao af.2):
    Calls Tryz.prog 114 #[(.agg #[.bool ae.1,.slice ap ae.2.length an]),(.agg #[.bool af.1,.slice aq af.2.length ao])] w0 (fun e w'=>∃ (col':Zf) (ra1:Option Addr) (rc2:Nat) (ra4:Option Addr) (rc5:Nat),e= .returned (.tuple #[(.agg #[.bool r.1.1.1,.slice ra1 r.1.1.2.length rc2,.slice ra4 r.1.2.length rc5]),.int .i64 r.2])∧Zg col w0 col' w'∧Zc (Za.int .u32) 79 c1 col' w' ra1 rc2 r.1.1.2∧Zc (Za.int .u32) 79 c2 col' w' ra4 rc5 r.1.2):=by
 refine X2 (m:=20) func114 rfl rfl rfl ?_;rw [Zi8.eq_1] at hm;have aa:=St.start col w0;refine go ?_;refine Xd (col:=(Zi col)) 1 rfl ?_;intro a8 a9 aw ax ah;refine Xd (col:=aw) 2 rfl ?_;intro ba bb ay ar ab;refine Xf (col:=ay) #[.bool false,.slice none (([]:List Int).length) 0,.slice none (([]:List Int).length) 0] 3 zeroValue47 ?_;intro bc az au aj ac;refine go ?_;replace ab:=ab.gr aj;refine lV _ (Xa isAgg45 sizeOf45 ab) ?_;obtain ⟨bd,a0,hm⟩:=bZ hm;replace ag:=ag.keep (Zj.start col w0);replace aa:=((aa.grow ax).grow ar).grow aj;refine Zh (Zfm a0 (ag.ks aa)) ?_;rintro _ a1 ⟨rfl,ad⟩;refine ⟨_,rfl,?_⟩;replace ad:Zg au az au a1:=.of_below ad;refine go ?_;replace ai:=ai.keep (Zj.start col w0);replace ah:=((ah.gr ar).gr aj).gr ad;replace ab:=ab.gr ad;replace ac:=ac.gr ad;replace aa:=aa.grow ad;refine Zq hm (fun hb hm=>go ?_) fun hb hm=>go ?_
 ·refine lV (.agg #[.bool false,.slice none (([]:List Int).length) 0,.slice none (([]:List Int).length) 0]) (Yc (l:=[_,_]) (qs:=[(0,2),(2,1)]) underlying47 zeroValue47 ⟨rfl,sizeOf45,rfl,sizeOf43,trivial⟩ rfl)<|Zw ac ?_;intro be a2 a3 a4;refine go ?_;cases hm;replace aa:=aa.kp a2 a3;exact ⟨rfl,_,T8 a4.atN,_,none,0,none,0,rfl,aa.fin (cm []),Zc.nil,Zc.nil⟩
 refine Xc ah<|Xc ab ?_;refine go ?_;refine Xc ah<|Xc ab ?_;obtain ⟨bf,a5,hm⟩:=bZ hm;refine Zh (Ziq 4 5 a5 (ai.ks aa) (ag.ks aa)) ?_;rintro _ bg ⟨bh,bi,bj,bk,bm,rfl,av,ak,al⟩;refine ⟨_,rfl,?_⟩;replace ac:=ac.gr av;refine Zw ac ?_;intro bn am a6 a7;refine go ?_;cases hm;replace aa:=(aa.grow av).kp am a6;replace ak:=ak.kp am;replace al:=al.kp am;exact ⟨rfl,_,T8 a7.atN,_,_,_,_,_,rfl,aa.fin (cm [(4,c1),(5,c2)]),aa.fo ak,aa.fo al⟩
def Zi9 (N:Nat) (ad:Int) (ae:Int):Option (R1×Int):=
  (Zc3 N ad).bind fun ab=>(Zc3 N ae).bind fun ac=>(Zi8 N (ab.1,ab.2) (ac.1,ac.2)).bind fun aa=>some (((aa.1.1.1,aa.1.1.2),aa.1.2),aa.2)
theorem Zyj {N:Nat} {col:Zf} {w0:World} {ak al:Int} {r:(R1×Int)} (c1 c2:Nat) (hm:Zi9 N ak al=some r):
    Calls Tryz.prog 190 #[.int .i64 ak,.int .i64 al] w0 (fun e w'=>∃ (col':Zf) (ra1:Option Addr) (rc2:Nat) (ra4:Option Addr) (rc5:Nat),e= .returned (.tuple #[(.agg #[.bool r.1.1.1,.slice ra1 r.1.1.2.length rc2,.slice ra4 r.1.2.length rc5]),.int .i64 r.2])∧Zg col w0 col' w'∧Zc (Za.int .u32) 79 c1 col' w' ra1 rc2 r.1.1.2∧Zc (Za.int .u32) 79 c2 col' w' ra4 rc5 r.1.2):=by
 refine X2 (m:=13) func190 rfl rfl rfl ?_;rw [Zi9.eq_1] at hm;have ab:=St.start col w0;refine go ?_;refine Xf (col:=(Zi col)) #[.bool false,.slice none (([]:List Int).length) 0,.slice none (([]:List Int).length) 0] 1 zeroValue47 ?_;intro a4 a5 an ao ag;refine go ?_;obtain ⟨a6,ap,hm⟩:=bZ hm;refine Zh (Znx (col:=an) 2 ap) ?_;rintro _ a7 ⟨aq,a8,a9,rfl,am,ah⟩;refine ⟨_,rfl,?_⟩;refine Xo rfl ?_;obtain ⟨ba,ar,hm⟩:=bZ hm;refine Zh (Znx (col:=aq) 3 ar) ?_;rintro _ au ⟨ae,bb,bc,rfl,ai,av⟩;refine ⟨_,rfl,?_⟩;obtain ⟨af,aw,hm⟩:=bZ hm;replace ah:=ah.gr ai;refine Zh (Zyi 4 5 aw ((ah.toSlF (Zl.int .u32)).froz 3) ((av.froz 2 (by decide)).toSlF (Zl.int .u32))) ?_;rintro _ bd ⟨ax,ay,az,a0,a1,rfl,aa,ac,ad⟩;refine ⟨_,rfl,?_⟩;replace ac:=ac.thaw (Zv .u32) aa (((Fz.refl (col:=ae)).froz 2).froz 3) (by decide);replace ad:=ad.thaw (Zv .u32) aa (((Fz.refl (col:=ae)).froz 2).froz 3) (by decide);replace aa:=aa.thawR (col:=ae);generalize Z4 au.heap.size ae ax=be at *;refine lV (.agg #[.bool af.1.1.1,.slice ay af.1.1.2.length az,.slice a0 af.1.2.length a1]) (Xl rfl rfl)<|lV (.int .i64 af.2) (Xl rfl rfl) ?_;replace ag:=((ag.gr am).gr ai).gr aa;refine Zw ag ?_;intro bf aj a2 a3;refine go ?_;cases hm;replace ab:=((((ab.grow ao).grow am).grow ai).grow aa).kp aj a2;replace ac:=ac.kp aj;replace ad:=ad.kp aj;exact ⟨rfl,_,T8 a3.atN,_,_,_,_,_,rfl,ab.fin (cm [(4,c1),(5,c2)]),ab.fo ac,ab.fo ad⟩
def Zb6 (N:Nat) (aa:R1):Option Int:=
  (Sw N (aa.1.1,aa.1.2)).bind fun ab=>some ab
theorem Zqj {N ac ag:Nat} {ad ah:Option Addr} {col:Zf} {w0:World} {aa:R1} {r:Int} (hm:Zb6 N aa=some r) (ae:Sl (Za.int .u32) col w0 ad ac aa.1.2) (ao:Sl (Za.int .u32) col w0 ah ag aa.2):
    Calls Tryz.prog 72 #[(.agg #[.bool aa.1.1,.slice ad aa.1.2.length ac,.slice ah aa.2.length ag])] w0 (fun e w'=>e= .returned ((.int .i64 r))∧Below w0.heap.size w0 w'):=by
 refine Xi 2 (m:=6) func72 rfl rfl rfl rfl rfl ?_;rw [Zb6.eq_1] at hm;have ab:=St.start col w0;refine go ?_;refine Xd (col:=(Zi col)) 1 rfl ?_;intro ap aj ai ak al;refine go ?_;refine Xh ⟨_,_,rfl⟩ ?_;refine lV (.agg #[.bool aa.1.1,.slice ad aa.1.2.length ac]) (Xn isAgg45 sizeOf45 rfl rfl ((al.atN).part 0 2 _ rfl)) ?_;obtain ⟨aq,am,hm⟩:=bZ hm;replace ae:=ae.keep (Zj.start col w0);replace ab:=ab.grow ak;refine Zh (Zfm am (ae.ks ab)) ?_;rintro _ an ⟨rfl,af⟩;refine ⟨_,rfl,?_⟩;replace af:Zg ai aj ai an:=.of_below af;refine go ?_;cases hm;replace ab:=ab.grow af;exact ⟨rfl,rfl,ab.below⟩
def Zgc (N:Nat) (aa:R1):Option R1:=
  (Vy N ((aa.1.1,aa.1.2),aa.2)).bind fun ac=>(Zat N (!aa.1.1) aa.1.2 ac).bind fun ab=>some ((ab.1.1,ab.1.2),ab.2)
theorem Zyh {N aq ar:Nat} {au av:Option Addr} {col:Zf} {w0:World} {af r:R1} (c1 c2:Nat) (hm:Zgc N af=some r) (aj:Sl (Za.int .u32) col w0 au aq af.1.2) (al:Sl (Za.int .u32) col w0 av ar af.2):
    Calls Tryz.prog 132 #[(.agg #[.bool af.1.1,.slice au af.1.2.length aq,.slice av af.2.length ar])] w0 (fun e w'=>∃ (col':Zf) (ra1:Option Addr) (rc2:Nat) (ra4:Option Addr) (rc5:Nat),e= .returned ((.agg #[.bool r.1.1,.slice ra1 r.1.2.length rc2,.slice ra4 r.2.length rc5]))∧Zg col w0 col' w'∧Zc (Za.int .u32) 79 c1 col' w' ra1 rc2 r.1.2∧Zc (Za.int .u32) 79 c2 col' w' ra4 rc5 r.2):=by
 refine X2 (m:=13) func132 rfl rfl rfl ?_;rw [Zgc.eq_1] at hm;have aa:=St.start col w0;refine go ?_;refine Xd (col:=(Zi col)) 1 rfl ?_;intro a4 a5 ax ay ah;refine Xf (col:=ax) #[.bool false,.slice none (([]:List Int).length) 0,.slice none (([]:List Int).length) 0] 2 zeroValue47 ?_;intro a6 a7 ai aw ab;refine go ?_;refine Yv (col:=ai) [(0,1),(1,1),(2,0),(3,1),(4,1),(5,1),(6,0),(7,0),(8,3),(9,3),(10,2)] (by kernel_rfl) (by kernel_rfl)<|xF ⟨_,_,rfl⟩ ?_;refine xF (Wi ⟨_,_,rfl⟩) ?_;replace ah:=ah.gr aw;refine xW (fun _ hC=>((((ah.atN).part 0 2 _ rfl)).nth (q:=0) rfl).gr (hC.bl ai)) ?_;refine xu rfl rfl (fun _=>Zmt _ rfl) ?_;refine xF ⟨_,_,rfl⟩ ?_;refine xF (Wi ⟨_,_,rfl⟩) ?_;refine xW (fun _ hC=>((((ah.atN).part 0 2 _ rfl)).nth (q:=1) rfl).gr (hC.bl ai)) ?_;refine xv rfl rfl (fun _ hC=>Xa isAgg47 sizeOf47 (ah.gr (hC.bl ai))) ?_;refine xe rfl rfl ?_;intro a8 hC0;have hC:=hC0.bl ai;obtain ⟨a9,az,hm⟩:=bZ hm;replace aj:=aj.keep (Zj.start col w0);replace al:=al.keep (Zj.start col w0);replace aa:=((aa.grow ay).grow aw).grow hC;refine Zh (Te 3 az (aj.ks aa) (al.ks aa)) ?_;rintro _ ba ⟨ag,bb,bc,rfl,am,an⟩;refine ⟨_,rfl,?_⟩;refine Zk<|Xg ag hC0 am<|xe rfl rfl ?_;intro a0 hC0;replace ab:=(ab.gr hC).gr am;have hC:=hC0.bl ag;obtain ⟨bd,a1,hm⟩:=bZ hm;replace aa:=(aa.grow am).grow hC;replace an:=an.gr hC;refine Zh (Ziq 4 5 a1 ((aj.ks aa).froz 3) (an.toSlF (Zl.int .u32))) ?_;rintro _ be ⟨a2,bf,bg,bh,bi,rfl,ac,ad,ae⟩;refine ⟨_,rfl,?_⟩;replace ad:=ad.thaw (Zv .u32) ac ((Fz.refl (col:=ag)).froz 3) (by decide);replace ae:=ae.thaw (Zv .u32) ac ((Fz.refl (col:=ag)).froz 3) (by decide);replace ac:=ac.thawR (col:=ag);generalize Z4 a0.heap.size ag a2=ak at *;refine Zk<|Xg ak hC0 ac<|xe rfl rfl ?_;intro bj hC0;replace ab:=(ab.gr hC).gr ac;have hC:=hC0.bl ak;replace ab:=ab.gr hC;refine Zw ab ?_;intro bk ao a3 ap;refine Zk<|xk ak<|Yn ?_;replace aa:=((aa.grow ac).grow hC).kp ao a3;replace ad:=(ad.gr hC).kp ao;replace ae:=(ae.gr hC).kp ao;intro bm hC;replace hC:=hC.bl ak;refine Ys ?_;cases hm;replace ad:=ad.gr hC;replace ae:=ae.gr hC;replace ap:=ap.gr hC;replace aa:=aa.grow hC;exact ⟨rfl,_,ra ap.atN,_,_,_,_,_,rfl,aa.fin (cm [(4,c1),(5,c2)]),aa.fo ad,aa.fo ae⟩
def Zh3 (N:Nat) (aa:R4):Option R4:=
  (Tk N (!aa.1) aa.2).bind fun ab=>some (ab.1,ab.2)
theorem Zz7 {N ag:Nat} {ah:Option Addr} {col:Zf} {w0:World} {ab r:R4} (c1:Nat) (hm:Zh3 N ab=some r) (ad:Sl (Za.int .u32) col w0 ah ag ab.2):
    Calls Tryz.prog 130 #[(.agg #[.bool ab.1,.slice ah ab.2.length ag])] w0 (fun e w'=>∃ (col':Zf) (ra1:Option Addr) (rc2:Nat),e= .returned ((.agg #[.bool r.1,.slice ra1 r.2.length rc2]))∧Zg col w0 col' w'∧Zc (Za.int .u32) 79 c1 col' w' ra1 rc2 r.2):=by
 refine X2 (m:=9) func130 rfl rfl rfl ?_;rw [Zh3.eq_1] at hm;have aa:=St.start col w0;refine go ?_;refine Xd (col:=(Zi col)) 1 rfl ?_;intro aq ar al am ac;refine Xf (col:=al) #[.bool false,.slice none (([]:List Int).length) 0] 2 zeroValue45 ?_;intro au av aw ai ae;refine go ?_;refine Xh ⟨_,_,rfl⟩ ?_;replace ac:=ac.gr ai;refine lW ((ac.atN).nth (q:=0) rfl)<|go ?_;refine Xc ac ?_;obtain ⟨ax,an,hm⟩:=bZ hm;replace ad:=ad.keep (Zj.start col w0);replace aa:=(aa.grow am).grow ai;refine Zh (Qu 3 an (ad.ks aa)) ?_;rintro _ ay ⟨az,a0,a1,rfl,aj,af⟩;refine ⟨_,rfl,?_⟩;replace ae:=ae.gr aj;refine Zw ae ?_;intro a2 ak ao ap;refine go ?_;cases hm;replace aa:=(aa.grow aj).kp ak ao;replace af:=af.kp ak;exact ⟨rfl,_,ra ap.atN,_,_,_,rfl,aa.fin (cm [(3,c1)]),aa.fo af⟩
theorem Zal {N k:Nat} {neg:Bool} {m:List Int} (hm:Zp m) (hk:m.length≤k) (hr:Xe N k):Tk N neg m=some (Zs (Zr (neg,m))):=by
 obtain ⟨r1,r2⟩:=hr
 rw [Tk,Zot hm (by omega) (by omega),Option.bind_some,Zkf]
 have e:decide (0<((Zd (Zb m)).length:Int))=decide (Zb m≠0):=by
  by_cases h:Zb m=0
  ·rw [h,Wz];decide
  ·have:=Tu h
   rw [decide_eq_true (by omega),decide_eq_true h]
 cases neg
 ·rw [if_neg (by decide),Zh5,Bool.false_and]
 ·rw [if_pos rfl,Zh5,e,Bool.true_and]
theorem Z40 {N k:Nat} {a:ZV} (hm:Zp a.2) (hk:a.2.length≤k) (hr:Xe N k):Zkc N a=some (Zs (Zr a)):=by
 rw [Zkc,Zal hm hk hr];rfl
theorem Zig {N k:Nat} {a:ZV} (hm:Zp a.2) (hk:a.2.length≤k) (hr:Xe N k):Sw N a=some (Zr a).sign:=by
 obtain ⟨r1,r2⟩:=hr
 rw [Sw,Znf hm (by omega) (by omega),Option.bind_some,Zr]
 by_cases h:Zb a.2=0
 ·rw [h,Zfj,if_pos (by decide)];simp
 ·have h1:Xb (Zb a.2)≠0:=by rw [Xb,if_neg h];omega
  rw [if_neg (by rw [decide_eq_false (by omega)];decide)]
  by_cases h2:a.1=true
  ·rw [if_pos h2,if_pos h2,Int.sign_eq_neg_one_of_neg (by omega)]
  ·rw [if_neg h2,if_neg h2,Int.sign_eq_one_of_pos (by omega)]
theorem Zii {a b:ZV}:(a.1=b.1→Zr (a.1,Zd (Zb a.2+Zb b.2))=Zr a+Zr b)∧(a.1≠b.1→(Zb b.2≤Zb a.2→Zr (a.1,Zd (Zb a.2 - Zb b.2))=Zr a+Zr b)∧(Zb a.2<Zb b.2→Zr (b.1,Zd (Zb b.2 - Zb a.2))=Zr a+Zr b)):=by
 obtain ⟨s,x⟩:=a
 obtain ⟨t,y⟩:=b
 simp only [Zr,Z0]
 cases s <;> cases t <;> simp <;> (try constructor) <;> intros <;> omega
theorem Zps {N k l:Nat} {a b:ZV} (ha:Zp a.2) (hb:Zp b.2) (hk:a.2.length≤k) (hl:b.2.length≤l) (hr:Xe N (k+l+1)):Zc2 N a b=some (Zs (Zr a+Zr b)):=by
 have hr':=hr
 obtain ⟨r1,r2⟩:=hr'
 have la:=X0 ha
 have lb:=X0 hb
 have lsum:(Zd (Zb a.2+Zb b.2)).length≤k+l+1:=Zft (by omega) (by omega)
 have ls1:(Zd (Zb a.2 - Zb b.2)).length≤k+l+1:=by have:=Y3 (Nat.sub_le (Zb a.2) (Zb b.2));omega
 have ls2:(Zd (Zb b.2 - Zb a.2)).length≤k+l+1:=by have:=Y3 (Nat.sub_le (Zb b.2) (Zb a.2));omega
 rw [Zc2]
 by_cases h:a.1=b.1
 ·rw [if_pos (decide_eq_true h),Zxw ha hb (by omega) (by omega) (by omega) (by omega),Option.bind_some,Zal (Z2 _) lsum hr,Option.bind_some,Zii.1 h]
 ·rw [if_neg (by rw [decide_eq_false h];decide),Zw8 ha hb (by omega) (by omega) (by omega) (by omega),Option.bind_some]
  by_cases hlt:Zb a.2<Zb b.2
  ·rw [if_pos hlt,if_neg (by decide),Zw8 hb ha (by omega) (by omega) (by omega) (by omega),Option.bind_some,if_neg (by omega),Zal (Z2 _) ls2 hr,Option.bind_some,(Zii.2 h).2 hlt]
  ·rw [if_neg hlt,if_pos rfl,Zal (Z2 _) ls1 hr,Option.bind_some,(Zii.2 h).1 (by omega)]
theorem Zna (b:ZV):Zr (!b.1,b.2)= -Zr b:=by
 obtain ⟨s,x⟩:=b
 cases s <;> simp [Zr]
theorem Zxq {N k l:Nat} {a b:ZV} (ha:Zp a.2) (hb:Zp b.2) (hk:a.2.length≤k) (hl:b.2.length≤l) (hr:Xe N (k+l+1)):Ze4 N a b=some (Zs (Zr a - Zr b)):=by
 rw [Ze4,Zps (a:=(a.1,a.2)) (b:=(!b.1,b.2)) ha hb hk hl hr,Option.bind_some,Zna,Int.sub_eq_add_neg]
theorem Z4z {N k:Nat} {a:ZV} (hm:Zp a.2) (hk:a.2.length≤k) (hr:Xe N k):Zh3 N a=some (Zs (-Zr a)):=by
 rw [Zh3,Zal hm hk hr,Option.bind_some,Zna]
theorem Zp0 (a b:ZV):Zr (!decide (a.1=b.1),Zd (Zb a.2 * Zb b.2))=Zr a * Zr b:=by
 obtain ⟨s,x⟩:=a
 obtain ⟨t,y⟩:=b
 simp only [Zr,Z0]
 cases s <;> cases t <;> simp [Int.natCast_mul,Int.neg_mul,Int.mul_neg]
theorem Z4y {N k l:Nat} {a b:ZV} (ha:Zp a.2) (hb:Zp b.2) (hk:a.2.length≤k) (hl:b.2.length≤l) (hr:Xe N (k+l)):Zkb N a b=some (Zs (Zr a * Zr b)):=by
 have hr':=hr
 obtain ⟨r1,r2⟩:=hr'
 have la:=X0 ha
 have lb:=X0 hb
 have:=U5 (Zb a.2) (Zb b.2)
 rw [Zkb,Zoq ha hb (by omega) (by omega),Option.bind_some,Zal (k:=k+l) (Z2 _) (by omega) hr,Option.bind_some,Zp0]
theorem Z45 (a b:ZV):(if (Zr a).sign<(Zr b).sign then -1 else if (Zr b).sign<(Zr a).sign then 1 else (Zr a).sign * (if Zb a.2<Zb b.2 then -1 else if Zb b.2<Zb a.2 then 1 else 0))=Qn (Zr a) (Zr b):=by
 obtain ⟨s,x⟩:=a
 obtain ⟨t,y⟩:=b
 have key:∀ z:Int,z.sign=if z<0 then -1 else if 0<z then 1 else 0:=fun z=>(Zm9 z).symm
 rw [key,key]
 unfold Qn
 simp only [Zr]
 generalize Zb x=X
 generalize Zb y=Y
 cases s <;> cases t <;> simp only [if_true,Bool.false_eq_true,if_false] <;> (repeat' split) <;> omega
theorem Z4w {N k l:Nat} {a b:ZV} (ha:Zp a.2) (hb:Zp b.2) (hk:a.2.length≤k) (hl:b.2.length≤l) (hr:Xe N (k+l)):Zj9 N a b=some (Qn (Zr a) (Zr b)):=by
 have hr':=hr
 obtain ⟨r1,r2⟩:=hr'
 have sa:-1≤(Zr a).sign∧(Zr a).sign≤1:=by rw [← Zm9];unfold Qn;(repeat' split) <;> omega
 rw [Zj9,Zig ha hk (hr.mono (by omega)),Option.bind_some,Zig hb hl (hr.mono (by omega)),Option.bind_some,← Z45 a b]
 by_cases h1:(Zr a).sign<(Zr b).sign
 ·rw [if_pos (decide_eq_true h1),if_pos h1]
 ·rw [if_neg (by rw [decide_eq_false h1];decide),if_neg h1]
  by_cases h2:(Zr b).sign<(Zr a).sign
  ·rw [if_pos (decide_eq_true h2),if_pos h2]
  ·rw [if_neg (by rw [decide_eq_false h2];decide),if_neg h2,Zn2 ha hb (by omega) (by omega) (by omega) (by omega),Option.bind_some]
   congr 1
   refine Zt ?_
   have:(Zr a).sign= -1∨(Zr a).sign=0∨(Zr a).sign=1:=by omega
   rcases this with h | h | h <;> rw [h] <;> (repeat' split) <;> decide
theorem Zpw {N:Nat} {z:Int} (h:-9223372036854775808≤z∧z≤9223372036854775807) (hr:Xe N 2):Zc3 N z=some (Zs z):=by
 have hr':=hr
 obtain ⟨r1,r2⟩:=hr'
 have l2:∀ n:Nat,n<18446744073709551616→(Zd n).length≤2:=fun n hn=>Wt.2 (by simpa using hn)
 rw [Zc3]
 by_cases hz:z<0
 ·have e:u64.wrap (-u64.wrap z)= -z:=by rw [IntKind.wrap_u64,IntKind.wrap_u64];omega
  rw [if_pos (decide_eq_true hz),e,Zkg (by omega) (by omega),Option.bind_some,Zal (Z2 _) (l2 _ (by omega)) hr,Option.bind_some]
  have e2:Zr (true,Zd (-z).toNat)=z:=by simp only [Zr,Z0,if_true];omega
  rw [e2]
 ·rw [if_neg (by rw [decide_eq_false hz];decide),Xm (by omega),Zkg (by omega) (by omega),Option.bind_some,Zal (Z2 _) (l2 _ (by omega)) hr,Option.bind_some]
  have e2:Zr (false,Zd z.toNat)=z:=by simp only [Zr,Z0];simp;omega
  rw [e2]
theorem Zak {N k:Nat} {a:QV} (ha:RV k a) (hr:Xe N k):Vy N a=some (Zd (Xx a.2)):=by
 obtain ⟨r1,r2⟩:=hr
 have:=ha.ld
 rw [Vy,Zot ha.d (by omega) (by omega),Option.bind_some,Xx]
 by_cases h:Zb a.2=0
 ·rw [h,Wz,if_neg (by decide),if_pos rfl,Zkg (by decide) (by omega)];rfl
 ·have:=Tu h
  rw [if_pos (decide_eq_true (by omega)),if_neg h]
theorem Um {k:Nat} {a:QV} (ha:RV k a):(Zd (Xx a.2)).length≤k+1:=by
 have h1:=X0 ha.d
 have h2:=ha.ld
 rw [Xx]
 split
 ·rw [W8];simp
 ·omega
theorem Zh7 {N k l n:Nat} {a:ZV} (ha:Zp a.2) (hk:a.2.length≤k) (hl:(Zd n).length≤l) (hr:Xe N (k+l)):Q5 N a (Zd n)=some (Zs (Zr a * n)):=by
 rw [Q5,Z4y (a:=(a.1,a.2)) (b:=(false,Zd n)) ha (Z2 _) hk hl hr,Option.bind_some]
 have e:Zr (false,Zd n)=n:=by simp [Zr,Z0]
 rw [e]
theorem Zi3 {N k l:Nat} {neg:Bool} {num den:List Int} (hn:Zp num) (hd:Zp den) (h0:Zb den≠0) (hk:num.length≤k) (hl:den.length≤l) (hr:Xe N (k+l)):
  Zat N neg num den=some (Zm (mkRat (Zr (neg,num)) (Zb den))):=by
 have hr':=hr
 obtain ⟨r1,r2⟩:=hr'
 have l1:=X0 hn
 have l2:=X0 hd
 have hg:Nat.gcd (Zb num) (Zb den)≠0:=fun h=>h0 (Nat.gcd_eq_zero_iff.1 h).2
 have lg:(Zd (Nat.gcd (Zb num) (Zb den))).length≤den.length:=Nat.le_trans (Y3 (Nat.gcd_le_right _ (by omega))) l2
 have lq:=Y3 (Nat.div_le_self (Zb num) (Nat.gcd (Zb num) (Zb den)))
 rw [Zat,Z1g hn hd (by omega) (by omega),Option.bind_some,Ziy hn (Z2 _) (by omega) (by omega),Option.bind_some,Ziy hd (Z2 _) (by omega) (by omega),Option.bind_some,Z0,if_neg hg,if_neg hg,
  Z40 (k:=k) (a:=(neg,Zd (Zb num / Nat.gcd (Zb num) (Zb den)))) (Z2 _) (by simp only;omega) (hr.mono (by omega)),Option.bind_some,Zt8 h0,Zkf,Z0]
theorem Z1a {N k:Nat} {a:QV} (ha:RV k a) (hr:Xe N (2 * k+1)):Zgc N a=some (Zm (-Z6 a)):=by
 have ld:=Um ha
 rw [Zgc,Zak ha (hr.mono (by omega)),Option.bind_some,Zi3 (k:=k) (l:=k+1) ha.m (Z2 _) (by rw [Z0];exact V4 _) ha.lm ld (hr.mono (by omega)),Option.bind_some,Z0,Zna a.1,Z6,Rat.neg_mkRat]
theorem Zsc {N k:Nat} {a:QV} (ha:RV k a) (hr:Xe N k):Zb6 N a=some (Qh (Z6 a)):=by
 rw [Zb6,Zig (a:=(a.1.1,a.1.2)) ha.m ha.lm hr,Option.bind_some,Zu1]
theorem Vm (z:Int):(Zs z).2=Zd z.natAbs:=rfl
theorem Qx {k l n:Nat} {a:ZV} (ha:Zp a.2) (hk:a.2.length≤k) (hl:(Zd n).length≤l):(Zs (Zr a * n)).2.length≤k+l:=by
 rw [Vm,Int.natAbs_mul,Int.natAbs_natCast,Zbt]
 have h1:=U5 (Zb a.2) n
 have h2:=X0 ha
 omega
theorem Zn7 {N k l:Nat} {a b:QV} (ha:RV k a) (hb:RV l b) (hr:Xe N (2 * (k+l+2))):Zb5 N a b=some (Vu (Z6 a) (Z6 b)):=by
 have da:=Um ha
 have db:=Um hb
 have o1:=Qx (n:=Xx b.2) ha.m ha.lm db
 have o2:=Qx (n:=Xx a.2) hb.m hb.lm da
 rw [Zb5,Zak hb (hr.mono (by omega)),Option.bind_some,Zh7 (k:=k) (l:=l+1) ha.m ha.lm db (hr.mono (by omega)),Option.bind_some,Zak ha (hr.mono (by omega)),Option.bind_some,Zh7 (k:=l) (l:=k+1) hb.m hb.lm da (hr.mono (by omega)),Option.bind_some,
  Z4w (a:=Zs _) (b:=Zs _) (Yj _) (Yj _) o1 o2 (hr.mono (by omega)),Option.bind_some,Yt,Yt,Z6,Z6,Zo0 (V4 _) (V4 _)]
theorem Zix {N k l:Nat} {a b:QV} (ha:RV k a) (hb:RV l b) (hr:Xe N (k+l+2)):Q7 N (Zd (Xx a.2)) (Zd (Xx b.2))=some (Zd (Xx a.2 * Xx b.2))∧(Zd (Xx a.2 * Xx b.2)).length≤k+l+2∧Xx a.2 * Xx b.2≠0:=by
 have da:=Um ha
 have db:=Um hb
 have hr':=hr
 obtain ⟨r1,r2⟩:=hr'
 have:=U5 (Xx a.2) (Xx b.2)
 refine ⟨by rw [Zoq (Z2 _) (Z2 _) (by omega) (by omega),Z0,Z0],by omega,Nat.mul_ne_zero (V4 _) (V4 _)⟩
theorem Zm3 {x y:Int} {k:Nat} (hx:(Zs x).2.length≤k) (hy:(Zs y).2.length≤k):(Zs (x+y)).2.length≤k+1:=by
 rw [Vm] at *
 exact Nat.le_trans (Y3 (Int.natAbs_add_le _ _)) (Zft hx hy)
theorem Zw9 {x y:Int} {k:Nat} (hx:(Zs x).2.length≤k) (hy:(Zs y).2.length≤k):(Zs (x - y)).2.length≤k+1:=by
 rw [Int.sub_eq_add_neg]
 refine Zm3 hx ?_
 rw [Vm,Int.natAbs_neg];exact hy
theorem Zua (z:Int):((Zs z).1,(Zs z).2)=Zs z:=rfl
theorem Zll {N k l:Nat} {a b:QV} (ha:RV k a) (hb:RV l b) (hr:Xe N (2 * (k+l+3))):Qa N a b=some (Zm (Z6 a+Z6 b)):=by
 have da:=Um ha
 have db:=Um hb
 have o1:=Qx (n:=Xx b.2) ha.m ha.lm db
 have o2:=Qx (n:=Xx a.2) hb.m hb.lm da
 obtain ⟨m1,m2,m3⟩:=Zix ha hb (hr.mono (by omega))
 have sl:=Zm3 (k:=k+l+1) (by omega) (Nat.le_trans o2 (by omega))
 rw [Qa,Zak hb (hr.mono (by omega)),Option.bind_some,Zh7 (k:=k) (l:=l+1) ha.m ha.lm db (hr.mono (by omega)),Option.bind_some,Zak ha (hr.mono (by omega)),Option.bind_some,Zh7 (k:=l) (l:=k+1) hb.m hb.lm da (hr.mono (by omega)),Option.bind_some,
  Zps (a:=Zs _) (b:=Zs _) (Yj _) (Yj _) o1 o2 (hr.mono (by omega)),Option.bind_some,Yt,Yt,Option.bind_some,Option.bind_some,m1,Option.bind_some,
  Zi3 (Yj _) (Z2 _) (by rw [Z0];exact m3) sl m2 (hr.mono (by omega)),Option.bind_some,Zua,Yt,Z0,Z6,Z6,Rat.mkRat_add_mkRat _ _ (V4 _) (V4 _)]
theorem Z2j (n₁ n₂:Int) {d₁ d₂:Nat} (z₁:d₁≠0) (z₂:d₂≠0):mkRat n₁ d₁ - mkRat n₂ d₂=mkRat (n₁ * d₂ - n₂ * d₁) (d₁ * d₂):=by
 rw [Rat.sub_eq_add_neg,Rat.neg_mkRat,Rat.mkRat_add_mkRat _ _ z₁ z₂,Int.neg_mul,Int.sub_eq_add_neg]
theorem Zsd {N k l:Nat} {a b:QV} (ha:RV k a) (hb:RV l b) (hr:Xe N (2 * (k+l+3))):Zb7 N a b=some (Zm (Z6 a - Z6 b)):=by
 have da:=Um ha
 have db:=Um hb
 have o1:=Qx (n:=Xx b.2) ha.m ha.lm db
 have o2:=Qx (n:=Xx a.2) hb.m hb.lm da
 obtain ⟨m1,m2,m3⟩:=Zix ha hb (hr.mono (by omega))
 have sl:=Zw9 (k:=k+l+1) (by omega) (Nat.le_trans o2 (by omega))
 rw [Zb7,Zak hb (hr.mono (by omega)),Option.bind_some,Zh7 (k:=k) (l:=l+1) ha.m ha.lm db (hr.mono (by omega)),Option.bind_some,Zak ha (hr.mono (by omega)),Option.bind_some,Zh7 (k:=l) (l:=k+1) hb.m hb.lm da (hr.mono (by omega)),Option.bind_some,
  Zxq (a:=Zs _) (b:=Zs _) (Yj _) (Yj _) o1 o2 (hr.mono (by omega)),Option.bind_some,Yt,Yt,Option.bind_some,Option.bind_some,m1,Option.bind_some,
  Zi3 (Yj _) (Z2 _) (by rw [Z0];exact m3) sl m2 (hr.mono (by omega)),Option.bind_some,Zua,Yt,Z0,Z6,Z6,Z2j _ _ (V4 _) (V4 _)]
theorem Zr7 {N k l:Nat} {a b:QV} (ha:RV k a) (hb:RV l b) (hr:Xe N (2 * (k+l+3))):Zas N a b=some (Zm (Z6 a * Z6 b)):=by
 have hr':=hr
 obtain ⟨r1,r2⟩:=hr'
 have h1:=ha.lm
 have h2:=hb.lm
 have la:=X0 ha.m
 have lb:=X0 hb.m
 have lm:=U5 (Zb a.1.2) (Zb b.1.2)
 obtain ⟨m1,m2,m3⟩:=Zix ha hb (hr.mono (by omega))
 rw [Zas,Zoq ha.m hb.m (by omega) (by omega),Option.bind_some,Zak ha (hr.mono (by omega)),Option.bind_some,Zak hb (hr.mono (by omega)),Option.bind_some,m1,Option.bind_some,
  Zi3 (k:=k+l) (Z2 _) (Z2 _) (by rw [Z0];exact m3) (by omega) m2 (hr.mono (by omega)),Option.bind_some,Zp0,Z0,Z6,Z6,Rat.mkRat_mul_mkRat]
theorem Ztr (n₁:Int) (d₁:Nat) (b:ZV) (d₂:Nat) (s:Bool) (x:List Int) (h:n₁=Zr (s,x)) (hb:Zb b.2≠0):mkRat n₁ d₁ / mkRat (Zr b) d₂=mkRat (Zr (!decide (s=b.1),Zd (Zb x * d₂))) (d₁ * Zb b.2):=by
 have e1:mkRat (Zr b) d₂=(Zr b:Rat) / (d₂:Rat):=Rat.mkRat_eq_div _ _
 have hz:(Zr b:Rat)=(if b.1=true then -1 else 1) * (Zb b.2:Rat):=by
  rw [Zr];split
  ·rw [Rat.intCast_neg,Rat.neg_mul,Rat.one_mul];rfl
  ·rw [Rat.one_mul];rfl
 have hn:(Zr (!decide (s=b.1),Zd (Zb x * d₂)):Rat)=(if b.1=true then -1 else 1) * (n₁:Rat) * (d₂:Rat):=by
  subst h
  have:Zr (!decide (s=b.1),Zd (Zb x * d₂))=(if b.1=true then -1 else 1) * Zr (s,x) * (d₂:Int):=by
   obtain ⟨t,y⟩:=b
   simp only [Zr,Z0]
   cases s <;> cases t <;> simp [Int.natCast_mul,Int.neg_mul]
  rw [this,Rat.intCast_mul,Rat.intCast_mul]
  congr 2
  split <;> rfl
 have hbr:(Zb b.2:Rat)≠0:=fun h=>hb (Rat.natCast_eq_zero_iff.1 h)
 rw [Rat.mkRat_eq_div,e1,Rat.mkRat_eq_div,hn,hz,Rat.natCast_mul]
 have hs:(if b.1=true then (-1:Rat) else 1) * (if b.1=true then (-1:Rat) else 1)=1:=by split <;> grind
 generalize (if b.1=true then (-1:Rat) else 1)=sg at *
 generalize (n₁:Rat)=p
 generalize (d₁:Rat)=q
 generalize (d₂:Rat)=r
 generalize (Zb b.2:Rat)=m at *
 have hsg:sg≠0:=fun h=>by rw [h] at hs;grind
 have hinv:sg⁻¹=sg:=Rat.inv_eq_of_mul_eq_one hs
 simp only [Rat.div_def,Rat.inv_mul_rev,Rat.inv_inv,hinv]
 grind
theorem Z1b {N k l:Nat} {a b:ZV} (ha:Zp a.2) (hb:Zp b.2) (hk:a.2.length≤k) (hl:b.2.length≤l) (hr:Xe N (k+l)):Zi8 N a b=some (if Zr b=0 then (((false,[]),[]),11) else (Zm ((Zr a:Rat) / (Zr b:Rat)),0)):=by
 rw [Zi8,Zig (a:=(b.1,b.2)) hb hl (hr.mono (by omega)),Option.bind_some]
 by_cases h0:Zr b=0
 ·rw [if_pos h0,h0,if_pos (by decide)]
 ·have hb0:Zb b.2≠0:=fun h=>h0 (by have:=Zbt b;omega)
  have e:=Ztr (Zr a) 1 b 1 a.1 a.2 rfl hb0
  have hs:¬ (Zr b).sign=0:=fun h=>h0 (Int.sign_eq_zero_iff_zero.1 h)
  rw [if_neg (by rw [decide_eq_false hs];decide),if_neg h0,Zi3 ha hb hb0 hk hl hr,Option.bind_some]
  rw [Rat.mkRat_eq_div,Rat.mkRat_eq_div] at e
  have e1:(Zr a:Rat) / ((1:Nat):Rat) / ((Zr b:Rat) / ((1:Nat):Rat))=(Zr a:Rat) / (Zr b:Rat):=by
   have h1:((1:Nat):Rat)=1:=rfl
   have h2:(1:Rat)⁻¹=1:=Rat.inv_eq_of_mul_eq_one (by grind)
   simp only [h1,Rat.div_def,h2,Rat.mul_one]
  rw [e1,Nat.one_mul,Nat.mul_one] at e
  rw [e]
  have e2:Zr (!decide (a.1=b.1),Zd (Zb a.2))=Zr (!decide (a.1=b.1),a.2):=by simp only [Zr,Z0]
  rw [e2]
theorem Z1c {N:Nat} {a b:Int} (h:-9223372036854775808≤a∧a≤9223372036854775807) (g:-9223372036854775808≤b∧b≤9223372036854775807) (hr:Xe N 4):Zi9 N a b=some (if b=0 then (((false,[]),[]),11) else (Zm ((a:Rat) / (b:Rat)),0)):=by
 have l2:∀ z:Int,-9223372036854775808≤z∧z≤9223372036854775807→(Zs z).2.length≤2:=fun z hz=>Wt.2 (by simp;omega)
 rw [Zi9,Zpw h (hr.mono (by omega)),Option.bind_some,Zpw g (hr.mono (by omega)),Option.bind_some,Z1b (a:=Zs a) (b:=Zs b) (Yj _) (Yj _) (l2 _ h) (l2 _ g) hr,Option.bind_some,Yt,Yt]
def Vf (l:List QV):Rat:=(l.map Z6).sum
def X9:List QV→Nat
 | []=>0
 | a :: l=>max a.1.2.length a.2.length+2+X9 l
theorem Zda {a:QV} (hm:Zp a.1.2) (hd:Zp a.2):RV (max a.1.2.length a.2.length) a:=⟨hm,hd,Nat.le_max_left _ _,Nat.le_max_right _ _⟩
def W2 (a:QV):Prop:=Zp a.1.2∧Zp a.2
theorem Zml {a:QV} (h:W2 a):qs (Z6 a)≤max a.1.2.length a.2.length+1:=by
 have:=Zu0 (Zda h.1 h.2)
 omega
theorem Zse {N:Nat}:∀ (l:List QV) (q:Rat),(∀ a ∈ l,W2 a)→Xe N (4 * (qs q+X9 l+3))→Zb8 N l (Zm q).1.1 (Zm q).1.2 (Zm q).2=some (Zm (q+Vf l))∧qs (q+Vf l)≤qs q+X9 l
 | [],q,_,_=>by
  rw [Zb8.eq_1,Vf]
  simp only [List.map_nil,List.sum_nil,Rat.add_zero,X9]
  exact ⟨trivial,by omega⟩
 | a :: l,q,hl,hr=>by
  have ha:=hl a List.mem_cons_self
  have hs:=Zml ha
  rw [X9] at hr ⊢
  rw [Zb8.eq_2,Zll (k:=qs q) (l:=max a.1.2.length a.2.length) (Zpk q) (Zda ha.1 ha.2) (hr.mono (by omega)),Option.bind_some]
  have e:Z6 ((((Zm q).1.1,(Zm q).1.2),(Zm q).2):QV)=q:=Yr q
  have e2:Z6 (((a.1.1,a.1.2),a.2):QV)=Z6 a:=rfl
  have h1:=Zmk q (Z6 a)
  obtain ⟨h2,h3⟩:=Zse l (q+Z6 a) (fun x hx=>hl x (List.mem_cons_of_mem _ hx)) (hr.mono (by omega))
  rw [e,e2,h2]
  have e3:q+Z6 a+Vf l=q+Vf (a :: l):=by rw [Vf,Vf,List.map_cons,List.sum_cons,Rat.add_assoc]
  rw [e3] at h3 ⊢
  exact ⟨rfl,by omega⟩
theorem Zob {N:Nat} {l:List QV} (hl:∀ a ∈ l,W2 a) (hr:Xe N (4 * (X9 l+4))):Zdp N l=some (Zm (Vf l))∧qs (Vf l)≤X9 l+1:=by
 have hr':=hr
 obtain ⟨r1,r2⟩:=hr'
 obtain ⟨h1,h2⟩:=Zse (N:=N) l 0 hl (hr.mono (by rw [Zo7];omega))
 rw [Rat.zero_add] at h1 h2
 rw [Zo7] at h2
 have e:Zm 0=((false,[]),[1]):=by
  rw [Zm,Zs]
  simp only [Rat.zero_num,Rat.zero_den,Int.natAbs_zero,Wz,W8]
  rfl
 rw [e] at h1
 refine ⟨?_,by omega⟩
 rw [Zdp,Zkg (by decide) (by omega),Option.bind_some,← h1]
 rw [show (1:Int).toNat=1 from rfl,W8]
def Bd (D M:Nat) (q:Rat):Prop:=∃ z:Int,q=mkRat z D∧z.natAbs≤M * D
theorem Bd.qs {D M:Nat} {q:Rat} (h:Bd D M q) (hD:D≠0) (hM:1≤M):qs q≤(Zd (M * D)).length:=by
 obtain ⟨z,rfl,hz⟩:=h
 have h1:D≤M * D:=Nat.le_mul_of_pos_left D hM
 exact Ze8 (Y3 hz) (Y3 h1) (Tu (by omega))
theorem Bd.up {D M K:Nat} {q:Rat} (h:Bd D M q) (hK:M≤K):Bd D K q:=by
 obtain ⟨z,e,hz⟩:=h
 exact ⟨z,e,Nat.le_trans hz (Nat.mul_le_mul_right D hK)⟩
theorem Bd.lift {D M:Nat} (E:Nat) {q:Rat} (h:Bd D M q) (hD:D≠0) (hE:E≠0):Bd (D * E) M q:=by
 obtain ⟨z,rfl,hz⟩:=h
 refine ⟨z * E,?_,?_⟩
 ·rw [Zts hD (Nat.mul_ne_zero hD hE),Int.natCast_mul,Int.mul_assoc,Int.mul_comm (E:Int)]
 ·rw [Int.natAbs_mul,Int.natAbs_natCast,← Nat.mul_assoc]
  exact Nat.mul_le_mul_right E hz
theorem Ztq (a b:Int) {D:Nat} (hD:D≠0):mkRat a D+mkRat b D=mkRat (a+b) D:=by
 rw [Rat.mkRat_add_mkRat _ _ hD hD,← Int.add_mul,Zts (Nat.mul_ne_zero hD hD) hD,Int.natCast_mul,Int.mul_assoc]
theorem Bd.add {D M K:Nat} {a b:Rat} (ha:Bd D M a) (hb:Bd D K b) (hD:D≠0):Bd D (M+K) (a+b):=by
 obtain ⟨x,rfl,hx⟩:=ha
 obtain ⟨y,rfl,hy⟩:=hb
 refine ⟨x+y,Ztq x y hD,Nat.le_trans (Int.natAbs_add_le _ _) ?_⟩
 rw [Nat.add_mul];omega
theorem Bd.neg {D M:Nat} {a:Rat} (ha:Bd D M a):Bd D M (-a):=by
 obtain ⟨x,rfl,hx⟩:=ha
 exact ⟨-x,by rw [Rat.neg_mkRat],by rw [Int.natAbs_neg];exact hx⟩
theorem Bd.sub {D M K:Nat} {a b:Rat} (ha:Bd D M a) (hb:Bd D K b) (hD:D≠0):Bd D (M+K) (a - b):=by
 rw [Rat.sub_eq_add_neg]
 exact ha.add hb.neg hD
theorem Bd.mul {D E M K:Nat} {a b:Rat} (ha:Bd D M a) (hb:Bd E K b):Bd (D * E) (M * K) (a * b):=by
 obtain ⟨x,rfl,hx⟩:=ha
 obtain ⟨y,rfl,hy⟩:=hb
 refine ⟨x * y,Rat.mkRat_mul_mkRat _ _ _ _,?_⟩
 rw [Int.natAbs_mul,Nat.mul_mul_mul_comm M K D E]
 exact Nat.mul_le_mul hx hy
theorem Bd.zero (D M:Nat):Bd D M 0:=⟨0,by rw [Rat.zero_mkRat],by simp⟩
theorem Bd.one:Bd 1 1 1:=⟨1,rfl,by simp⟩
def Tg:List QV→Nat
 | []=>1
 | x :: t=>Xx x.2 * Tg t
theorem Zlj:∀ t:List QV,Tg t≠0
 | []=>by simp [Tg]
 | x :: t=>Nat.mul_ne_zero (V4 x.2) (Zlj t)
theorem Zrs:∀ (t:List QV),(∀ x ∈ t,W2 x)→(Zd (Tg t)).length≤X9 t+1
 | [],_=>by rw [Tg,W8];simp
 | x :: t,h=>by
  have hx:=h x List.mem_cons_self
  have h1:=Um (Zda hx.1 hx.2)
  have h2:=Zrs t fun y hy=>h y (List.mem_cons_of_mem _ hy)
  have h3:=U5 (Xx x.2) (Tg t)
  rw [Tg,X9];omega
theorem Zx2 {x:QV} (h:0≤Z6 x) (g:Z6 x≤1):Bd (Xx x.2) 1 (Z6 x):=by
 refine ⟨Zr x.1,rfl,?_⟩
 have hd:=V4 x.2
 have h1:¬ Zr x.1<0:=fun hn=>by
  have:Z6 x<0:=by
   rw [Z6,show (0:Rat)=mkRat 0 1 from rfl,Zbm hd (by decide)];omega
  exact absurd h (Rat.not_le.2 this)
 have h2:¬ (Xx x.2:Int)<Zr x.1:=fun hn=>by
  have:1<Z6 x:=by
   rw [Z6,show (1:Rat)=mkRat 1 1 from rfl,Zbm (by decide) hd];omega
  exact absurd g (Rat.not_le.2 this)
 omega
def V0 (long:Rat):List QV→Rat→List (Rat×Rat)
 | [],_=>[]
 | x :: t,at_=>(at_,at_+long * Z6 x) :: V0 long t (at_+long * Z6 x)
theorem Zoy (long:Rat):∀ (t:List QV) (a:Rat),(V0 long t a).length=t.length
 | [],_=>rfl
 | x :: t,a=>by rw [V0,List.length_cons,Zoy long t,List.length_cons]
theorem Zun {D M L:Nat} {long:Rat} (hD:D≠0) (hl:Bd D L long):∀ (t:List QV) (F:Nat) (a:Rat) (M:Nat),F≠0→(∀ x ∈ t,0≤Z6 x∧Z6 x≤1)→Bd (D * F) M a→∀ p ∈ V0 long t a,Bd (D * (F * Tg t)) (M+L * t.length) p.1∧Bd (D * (F * Tg t)) (M+L * t.length) p.2
 | [],F,a,M,hF,_,ha,p,hp=>by rw [V0] at hp;cases hp
 | x :: t,F,a,M,hF,ht,ha,p,hp=>by
  have hx:=ht x List.mem_cons_self
  have hdx:=V4 x.2
  have h1:Bd (D * (F * Xx x.2)) (M+L) (a+long * Z6 x):=by
   have e1:Bd (D * F * Xx x.2) M a:=ha.lift _ (Nat.mul_ne_zero hD hF) hdx
   have e2:Bd (D * Xx x.2 * F) (L * 1) (long * Z6 x):=(hl.mul (Zx2 hx.1 hx.2)).lift _ (Nat.mul_ne_zero hD hdx) hF
   rw [Nat.mul_one,Nat.mul_assoc,Nat.mul_comm (Xx x.2) F] at e2
   rw [Nat.mul_assoc] at e1
   exact e1.add e2 (Nat.mul_ne_zero hD (Nat.mul_ne_zero hF hdx))
  have hle:L≤L * (t.length+1):=by rw [Nat.mul_succ];omega
  rw [V0] at hp
  rw [Tg,← Nat.mul_assoc F,List.length_cons]
  rcases List.mem_cons.1 hp with rfl | hp
  ·have e1:Bd (D * (F * Xx x.2)) M a:=by
    have:=ha.lift (Xx x.2) (Nat.mul_ne_zero hD hF) hdx
    rwa [Nat.mul_assoc] at this
   have nz:=Nat.mul_ne_zero hD (Nat.mul_ne_zero hF hdx)
   have e3:=(e1.lift (Tg t) nz (Zlj t)).up (K:=M+L * (t.length+1)) (by omega)
   have e4:=(h1.lift (Tg t) nz (Zlj t)).up (K:=M+L * (t.length+1)) (by omega)
   rw [Nat.mul_assoc] at e3 e4
   exact ⟨e3,e4⟩
  ·have:=Zun (M:=M) hD hl t (F * Xx x.2) _ (M+L) (Nat.mul_ne_zero hF hdx) (fun y hy=>ht y (List.mem_cons_of_mem _ hy)) h1 p hp
   rw [show M+L+L * t.length=M+L * (t.length+1) by rw [Nat.mul_succ];omega] at this
   exact this
def Zb3 (kk_L2:(Option Int)):List Int→(List (Int×Int))→Option Int
  | [],aa=>kk_L2
  | ab :: ac,aa=>if (decide (0<((Wh aa ab).getD 0)))=true then (some 40) else ((some (Sy aa ab 1)).bind fun ad=>(Zb3 kk_L2 ac) ad)
termination_by structural x=>x
def Q1:List R2→Option Int
  | []=>some 0
  | aa :: ab=>Zb3 (Q1 ab) aa ([]:List (Int×Int))
termination_by structural x=>x
def Zf5 (kk_L4:(Option Int)) (aa:Bool):Option Int:=
  if aa=true then (some 3) else kk_L4
def Q2 (aa:Ra) (kk_L1:(Option Int)):List Int→Option Int
  | []=>kk_L1
  | ab :: ac=>if (decide (ab<0))=true then (Zf5 (Q2 aa kk_L1 ac) true) else (Zf5 (Q2 aa kk_L1 ac) (decide ((aa.length:Int)≤ab)))
termination_by structural x=>x
def Q0 (aa:Ra):List R2→Option Int
  | []=>Q1 aa
  | ab :: ac=>Q2 aa (Q0 aa ac) ab
termination_by structural x=>x
def Zf4 (aa:Ra):Option Int:=
  Q0 aa aa
theorem Zyd {a6:Nat} {a0:Option Addr} {col:Zf} {w0:World} {ab:Ra} {r:Int} (hm:Zf4 ab=some r) (h0:Sl (Za.slice (Za.int .i64)) col w0 a0 a6 ab):
    Calls Tryz.prog 201 #[.slice a0 ab.length a6] w0 (fun e w'=>e= .returned ((.int .i64 r))∧Below w0.heap.size w0 w'):=by
 refine Xi 2 (m:=57) func201 rfl rfl rfl rfl rfl ?_;rw [Zf4.eq_1] at hm;have aa:=St.start col w0;refine go ?_;refine Z8 [0,12,13,1000000] (fun n f a7=>∃ a8 ag ah,n=ah.length∧ab.drop ag=ah∧Q0 ab ah=some r∧St w0 (Zi col) a8 a7∧[14].map f=[.int .i64 ag]) ab.length ⟨_,0,_,rfl,rfl,hm,aa,rfl⟩ ?_;clear hm;intro n f a7 hI;obtain ⟨a8,ag,ah,hn,hl,hm,aa,hs⟩:=hI;subst hn;refine .lL [14] hs ?_;replace h0:=h0.keep (Zj.start col w0)
 cases ah with
 | nil=>
  have hk:¬ ((ag:Int)<(ab.length:Int)):=by have:=List.drop_eq_nil_iff.1 hl;omega
  have hkb:=decide_eq_false hk;rw [Q0.eq_1] at hm;refine go ?_;refine Y7 (congrArg Value.bool hkb)<|go ?_;refine Z8 [34,35,1000000] (fun n f a9=>∃ au ai aj,n=aj.length∧ab.drop ai=aj∧Q1 aj=some r∧St w0 (Zi col) au a9∧[36].map f=[.int .i64 ai]) ab.length ⟨_,0,_,rfl,rfl,hm,aa,rfl⟩ ?_;clear hm;intro n f a9 hI;obtain ⟨au,ai,aj,hn,hl,hm,aa,hs⟩:=hI;subst hn;refine .lL [36] hs ?_
  cases aj with
  | nil=>
   have hk:¬ ((ai:Int)<(ab.length:Int)):=by have:=List.drop_eq_nil_iff.1 hl;omega
   have hkb:=decide_eq_false hk;rw [Q1.eq_1] at hm;refine go ?_;refine Y7 (congrArg Value.bool hkb)<|go ?_;cases hm;exact ⟨rfl,rfl,aa.below⟩
  | cons ak ba=>
   obtain ⟨ac,bi,bj⟩:=Wg hl;have hk:(ai:Int)<(ab.length:Int):=by omega
   have hkb:=decide_eq_true hk;rw [Q1.eq_2] at hm;refine go ?_;refine Y8 (congrArg Value.bool hkb)<|go ?_;refine lI ac ((h0.ks aa).addr ac) ?_;obtain ⟨_,bk,bm⟩:=(h0.ks aa).atN ac;obtain ⟨⟨bn,bo,rfl,ad⟩,_⟩:=bk;refine lW bm.one<|go ?_;refine Z1u (col:=au) (fk:=(Value.int .i64)) (fv:=(Value.int .i64)) 1 rfl underlying243 rfl ?_;intro b3 b4 b5 bb bp;refine go ?_;replace ad:=ad.gr bb;replace aa:=aa.grow bb;refine Z8 [34,35,36,43,44,1000000] (fun n f aq=>∃ ar al av am an,n=an.length∧ak.drop al=an∧Zb3 (Q1 ba) an am=some r∧St w0 (Zi col) ar aq∧Sl (Za.int .i64) ar aq bn bo ak∧Vi (Value.int .i64) (Value.int .i64) 1 ar aq av am∧[45,9].map f=[.int .i64 al,.map (some av)]) ak.length ⟨_,0,_,_,_,rfl,rfl,hm,aa,ad,bp,rfl⟩ ?_;clear hm;intro n f aq hI;obtain ⟨ar,al,av,am,an,hn,hl,hm,aa,ad,bc,hs⟩:=hI;subst hn;refine .lL [45,9] hs ?_
   cases an with
   | nil=>
    have hk:¬ ((al:Int)<(ak.length:Int)):=by have:=List.drop_eq_nil_iff.1 hl;omega
    have hkb:=decide_eq_false hk;rw [Zb3.eq_1] at hm;refine go ?_;refine Y7 (congrArg Value.bool hkb)<|go ?_;exact ⟨ba.length,by simp,rfl,⟨_,_,_,rfl,bi,hm,aa,(Wq (congrArg (Value.int .i64) (Wj (Nat.lt_of_lt_of_le bj (h0.ks aa).1.1))) rfl)⟩⟩
   | cons aw bq=>
    obtain ⟨ac,br,bs⟩:=Wg hl;have hk:(al:Int)<(ak.length:Int):=by omega
    have hkb:=decide_eq_true hk;rw [Zb3.eq_2] at hm;refine go ?_;refine Y8 (congrArg Value.bool hkb)<|go ?_;refine lI ac (ad.addr ac)<|lW (ad.atInt ac) ?_;refine go ?_;refine lV (.int .i64 ((Wh am aw).getD 0)) (Zu9 Sc.int bc underlying243 underlying3 zeroValue3 rfl rfl)<|go ?_;refine Zq hm (fun hb hm=>go ?_) fun hb hm=>go ?_
    ·cases hm;exact ⟨rfl,rfl,aa.below⟩
    obtain ⟨bt,ax,hm⟩:=bZ hm;have ax:bt=Sy am aw 1:=(Option.some.inj ax).symm;refine Zsv (k:=aw) (v:=1) Sc.int bc underlying243 underlying3 rfl rfl rfl ?_;intro b6 bd bu be;rw [← ax] at be;refine go ?_;replace ad:=ad.kp bd;replace aa:=aa.kp bd bu;exact ⟨bq.length,by simp,rfl,⟨_,_,_,_,_,rfl,br,hm,aa,ad,be,(Wq (congrArg (Value.int .i64) (Wj (Nat.lt_of_lt_of_le bs ad.1.1))) rfl)⟩⟩
 | cons af ay=>
  obtain ⟨ac,bv,bw⟩:=Wg hl;have hk:(ag:Int)<(ab.length:Int):=by omega
  have hkb:=decide_eq_true hk;rw [Q0.eq_2] at hm;refine go ?_;refine Y8 (congrArg Value.bool hkb)<|go ?_;refine lI ac ((h0.ks aa).addr ac) ?_;obtain ⟨_,bx,bz⟩:=(h0.ks aa).atN ac;obtain ⟨⟨bf,bg,rfl,ae⟩,_⟩:=bx;refine lW bz.one<|go ?_;refine Z8 [0,12,13,14,18,19,1000000] (fun n f az=>∃ a1 ao ap,n=ap.length∧af.drop ao=ap∧Q2 ab (Q0 ab ay) ap=some r∧St w0 (Zi col) a1 az∧Sl (Za.int .i64) a1 az bf bg af∧[20].map f=[.int .i64 ao]) af.length ⟨_,0,_,rfl,rfl,hm,aa,ae,rfl⟩ ?_;clear hm;intro n f az hI;obtain ⟨a1,ao,ap,hn,hl,hm,aa,ae,hs⟩:=hI;subst hn;refine .lL [20] hs ?_
  cases ap with
  | nil=>
   have hk:¬ ((ao:Int)<(af.length:Int)):=by have:=List.drop_eq_nil_iff.1 hl;omega
   have hkb:=decide_eq_false hk;rw [Q2.eq_1] at hm;refine go ?_;refine Y7 (congrArg Value.bool hkb)<|go ?_;exact ⟨ay.length,by simp,rfl,⟨_,_,_,rfl,bv,hm,aa,(Wq (congrArg (Value.int .i64) (Wj (Nat.lt_of_lt_of_le bw (h0.ks aa).1.1))) rfl)⟩⟩
  | cons b0 bh=>
   obtain ⟨ac,b1,b2⟩:=Wg hl;have hk:(ao:Int)<(af.length:Int):=by omega
   have hkb:=decide_eq_true hk;rw [Q2.eq_2] at hm;refine go ?_;refine Y8 (congrArg Value.bool hkb)<|go ?_;refine lI ac (ae.addr ac)<|lW (ae.atInt ac)<|Yu rfl<|Zk<|Zy ?_;refine Wp.cutK [0,12,13,14,18,19,20,1000000] (fun f a2=>∃ a3 a4,Zf5 (Q2 ab (Q0 ab ay) bh) a4=some r∧St w0 (Zi col) a3 a2∧Sl (Za.int .i64) a3 a2 bf bg af∧[31].map f=[.bool a4]) ?_ ?_
   ·intro f a2 hJ;obtain ⟨a3,a4,hm,aa,ae,hs⟩:=hJ;rw [Zf5.eq_1] at hm;refine .lL [31] hs ?_;refine Zq hm (fun hb hm=>go ?_) fun hb hm=>go ?_
    ·cases hm;exact ⟨rfl,rfl,aa.below⟩
    exact ⟨bh.length,by simp,rfl,⟨_,_,_,rfl,b1,hm,aa,ae,(Wq (congrArg (Value.int .i64) (Wj (Nat.lt_of_lt_of_le b2 ae.1.1))) rfl)⟩⟩
   refine go ?_;refine Xv hm (fun a5 hm=>go ?_) fun a5 hm=>go ?_
   ·refine lV (.bool true) (Xj (congrArg Value.bool a5) rfl)<|Zk ?_;exact ⟨rfl,_,_,hm,aa,ae,rfl⟩
   refine lV (.bool (decide ((ab.length:Int)≤b0))) (Xs (congrArg Value.bool a5) rfl)<|Zk ?_;exact ⟨rfl,_,_,hm,aa,ae,rfl⟩
theorem Z0s:W4 Tryz.prog 3 1 8:=⟨Tryz.t3,_,rfl,rfl,rfl,rfl,rfl⟩
def Zb2 (aa:Nat) (kk_L1:(Nat→Ra→Option Ra)):List Int→Ra→Option Ra
  | [],ab=>kk_L1 (aa+1) ab
  | ad :: ae,ab=>(Zo ab ad).bind fun ac=>Z1 ((ac.length+[(aa:Int)].length) * 8≤140737488355328∧ac.length+[(aa:Int)].length≤maxLen) ((Zb2 aa kk_L1 ae) (ab.set (Int.toNat ad) (ac++[(aa:Int)])))
termination_by structural x=>x
def Qz:List R2→Nat→Ra→Option Ra
  | [],ab,aa=>some aa
  | ac :: ad,ab,aa=>Zb2 ab (Qz ad) ac aa
termination_by structural x=>x
def Zf3 (aa:Ra):Option Ra:=
  Z1 (aa.length * 24≤281474976710656∧aa.length≤maxLen) (Qz aa 0 (List.replicate aa.length (([]:List Int):List Int)))
theorem Zyc {a7:Nat} {a0:Option Addr} {col:Zf} {w0:World} {ae r:Ra} (c1:Nat) (hm:Zf3 ae=some r) (h0:Sl (Za.slice (Za.int .i64)) col w0 a0 a7 ae):
    Calls Tryz.prog 203 #[.slice a0 ae.length a7] w0 (fun e w'=>∃ (col':Zf) (ra1:Option Addr) (rc2:Nat),e= .returned ((.slice ra1 r.length rc2))∧Zg col w0 col' w'∧Zc (Za.row 3 (Za.int .i64)) 40 c1 col' w' ra1 rc2 r):=by
 refine Xi 2 (m:=37) func203 rfl rfl rfl rfl rfl ?_;rw [Zf3.eq_1] at hm;have aa:=St.start col w0;refine go ?_;obtain ⟨a8,hm⟩:=Z3 hm;refine Sh (col:=(Zi col)) (w:=w0) (r:=(Za.row 3 (Za.int .i64))) (n:=ae.length) (x0:=([]:List Int)) 1 rfl underlying24 Tryz.t40 rfl rfl rfl rfl rfl rfl rfl a8.1 a8.2 Z3x ?_;intro b4 b5 b6 bg bh;refine go ?_;replace aa:=aa.grow bg;refine Z8 [11,12,1000000] (fun n f aw=>∃ ax ab ay az ap aj,n=aj.length∧ae.drop ab=aj∧Qz aj ab ap=some r∧St w0 (Zi col) ax aw∧Zc (Za.row 3 (Za.int .i64)) 40 1 ax aw ay az ap∧[13,3].map f=[.int .i64 ab,.slice ay ap.length az]) ae.length ⟨_,0,_,_,_,_,rfl,rfl,hm,aa,bh,rfl⟩ ?_;clear hm;intro n f aw hI;obtain ⟨ax,ab,ay,az,ap,aj,hn,hl,hm,aa,a9,hs⟩:=hI;subst hn;refine .lL [13,3] hs ?_;replace h0:=h0.keep (Zj.start col w0)
 cases aj with
 | nil=>
  have hk:¬ ((ab:Int)<(ae.length:Int)):=by have:=List.drop_eq_nil_iff.1 hl;omega
  have hkb:=decide_eq_false hk;rw [Qz.eq_1] at hm;refine go ?_;refine Y7 (congrArg Value.bool hkb)<|go ?_;cases hm;exact ⟨rfl,_,_,_,rfl,aa.fin (cm [(1,c1)]),aa.fo a9⟩
 | cons ak ba=>
  obtain ⟨af,bi,bj⟩:=Wg hl;have hk:(ab:Int)<(ae.length:Int):=by omega
  have hkb:=decide_eq_true hk;rw [Qz.eq_2] at hm;refine go ?_;refine Y8 (congrArg Value.bool hkb)<|go ?_;refine lI af ((h0.ks aa).addr af) ?_;obtain ⟨_,bk,bm⟩:=(h0.ks aa).atN af;obtain ⟨⟨bn,bo,rfl,ac⟩,_⟩:=bk;refine lW bm.one<|go ?_;refine Z8 [11,12,13,18,19,4,1000000] (fun n f al=>∃ aq am ag ah ad an,n=an.length∧ak.drop am=an∧Zb2 ab (Qz ba) an ad=some r∧St w0 (Zi col) aq al∧Sl (Za.int .i64) aq al bn bo ak∧Zc (Za.row 3 (Za.int .i64)) 40 1 aq al ag ah ad∧[20,3].map f=[.int .i64 am,.slice ag ad.length ah]) ak.length ⟨_,0,_,_,_,_,rfl,rfl,hm,aa,ac,a9,rfl⟩ ?_;clear hm;intro n f al hI;obtain ⟨aq,am,ag,ah,ad,an,hn,hl,hm,aa,ac,a1,hs⟩:=hI;subst hn;refine .lL [20,3] hs ?_
  cases an with
  | nil=>
   have hk:¬ ((am:Int)<(ak.length:Int)):=by have:=List.drop_eq_nil_iff.1 hl;omega
   have hkb:=decide_eq_false hk;rw [Zb2.eq_1] at hm;refine go ?_;refine Y7 (congrArg Value.bool hkb)<|go ?_;exact ⟨ba.length,by simp,rfl,⟨_,_,_,_,_,_,rfl,bi,hm,aa,a1,(Wq (congrArg (Value.int .i64) (Wj (Nat.lt_of_lt_of_le bj (h0.ks aa).1.1))) rfl)⟩⟩
  | cons ar bp=>
   obtain ⟨af,bq,br⟩:=Wg hl;have hk:(am:Int)<(ak.length:Int):=by omega
   have hkb:=decide_eq_true hk;rw [Zb2.eq_2] at hm;refine go ?_;refine Y8 (congrArg Value.bool hkb)<|go ?_;refine lI af (ac.addr af)<|lW (ac.atInt af) ?_;refine go ?_;obtain ⟨ao,au,hm⟩:=bZ hm;refine lI au (a1.addr au) ?_;obtain ⟨_,bb,bc,ai,bs⟩:=a1.open_ 2 (by decide) au;obtain ⟨bt,bu,rfl,a2⟩:=bs.row;replace ai:Wo (Za.row 3 (Za.int .i64)) 40 1 bb al ag ah ad (Int.toNat ar) [.slice bt ao.length bu]:=ai;refine lW ai.atN.one<|Xo rfl<|Wx (col:=bb) [(ab:Int)] 3 ?_;intro b7 bv bw av bx;obtain ⟨bd,hm⟩:=Z3 hm;replace a2:=a2.gr av;refine Zfr (col:=bw) (w:=bv) (r:=(Za.int .i64)) (c:=2) (c2:=2) (a2.ex) (bx.srcN (NB.int (k:=.i64))) rfl underlying40 Z0s rfl rfl rfl bd.1 bd.2 (by decide) ?_;intro be bf b8 bz a3 a4;replace ai:=(ai.gr av).kpp a3;refine lI au (ai.addr)<|Z1x (v:=(.slice be ((ao++[(ab:Int)]).length) bf)) ai rfl sizeOf40 rfl (by intro u hu;simp only [Value.cells,List.mem_cons,List.not_mem_nil,or_false] at hu;subst hu;rfl) rfl rfl (by decide) ?_;intro b0 a5 b1 a6;replace a6:Wo (Za.row 3 (Za.int .i64)) 40 1 bz b0 ag ah ad (Int.toNat ar) [.slice be ((ao++[(ab:Int)]).length) bf]:=a6;replace a4:=a4.kp a5;have b2:=a4.new;have b3:=a6.close b2.has (by decide) (by decide);replace ac:=(((ac.kpp bc).gr av).kpp a3).kp a5;replace ac:=ac.recol 2 1 (by decide);replace aa:=(((aa.kpp bc).grow av).kpp a3).kp a5 b1;replace aa:=aa.recol 2 1 (by decide) (by decide);refine .ld (d:=3) (v:=(.slice ag ((ad.set (Int.toNat ar) (ao++[(ab:Int)])).length) ah)) (congrArg (fun n=>Value.slice ag n ah) (show ad.length=(ad.set (Int.toNat ar) (ao++[(ab:Int)])).length by simp only [List.length_set])) ?_;refine go ?_;exact ⟨bp.length,by simp,rfl,⟨_,_,_,_,_,_,rfl,bq,hm,aa,ac,b3,(Wq (congrArg (Value.int .i64) (Wj (Nat.lt_of_lt_of_le br ac.1.1))) rfl)⟩⟩
def Zb4 (aa:Int) (kk_L2:(Int→Int→Option R7)) (ab:Int):Option R7:=
  kk_L2 (i64.wrap (aa+1)) ab
def Zf6 (aa:Int) (ab:Int) (kk_L2:(Int→Int→Option R7)) (ac:Int) (ad:Bool):Option R7:=
  if ad=true then (Zb4 aa kk_L2 ac) else (Zb4 aa kk_L2 ab)
def Sk (N:Nat) (ad:List Int) (ag:Int) (aa:List Int) (ac:Int) (kk_L1:(List Int→Int→Option R7)):Nat→Int→Int→Option R7
  | 0,_,_=>none
  | ah+1,ae,ab=>if (decide (ae<2))=true then ((Zo [i64.wrap ((i64.wrap (2 * ac))+1),i64.wrap ((i64.wrap (2 * ac))+2)] ae).bind fun af=>if (decide (af<(i64.wrap ((ad.length:Int) - 1))))=true then ((Zo aa af).bind fun aj=>(Zo aa ab).bind fun ak=>Zf6 ae ab (Sk N ad ag aa ac kk_L1 ah) af (decide (aj<ak))) else (Zf6 ae ab (Sk N ad ag aa ac kk_L1 ah) af false)) else (if (decide (ab=ac))=true then (some (ag,aa.take (Int.toNat (i64.wrap ((ad.length:Int) - 1))))) else ((Zo aa ab).bind fun al=>(Zo aa ac).bind fun am=>(some (aa.set (Int.toNat ac) al)).bind fun ai=>(Zo ai ab).bind fun ao=>(some (ai.set (Int.toNat ab) am)).bind fun an=>kk_L1 an ab))
termination_by structural x=>x
def Sj (N:Nat) (aa:List Int) (ab:Int):Nat→R2→Int→Option R7
  | 0,_,_=>none
  | ad+1,ae,ac=>Sk N aa ab ae ac (Sj N aa ab ad) N 0 ac
termination_by structural x=>x
def Zi6 (N:Nat) (aa:List Int):Option R7:=
  (Zo aa 0).bind fun ac=>(Zo aa (i64.wrap ((aa.length:Int) - 1))).bind fun ad=>(some (aa.set (Int.toNat 0) ad)).bind fun ab=>Z1 ((0:Int)≤(i64.wrap ((aa.length:Int) - 1))∧(i64.wrap ((aa.length:Int) - 1))≤(ab.length:Int)) (Sj N aa ac N ab 0)
theorem Zye {N g0 al:Nat} {am:Option Addr} {col:Zf} {w0:World} {aa:R2} {r:R7} (qc0 ai:Nat) (hm:Zi6 N aa=some r) (hd:Qv [qc0,ai]=true) (ap:Zc (Za.int .i64) 3 ai col w0 am al aa) (hb0:Zn 244 qc0 col w0 g0 #[.slice am aa.length al]):
    Calls Tryz.prog 267 #[.pointer (some ⟨g0,0,none⟩)] w0 (fun e w'=>∃ (col':Zf) (oa1:Option Addr) (oc2:Nat),e= .returned ((.int .i64 r.1))∧Zz (pS [qc0,ai]) col w0 col' w'∧Zc (Za.int .i64) 3 ai col' w' oa1 oc2 r.2∧Zn 244 qc0 col' w' g0 #[.slice oa1 r.2.length oc2]):=by
 refine Xi 2 (m:=76) func267 rfl rfl rfl rfl rfl ?_;rw [Zi6.eq_1] at hm;have ac:=St.startL (l:=[qc0,ai]) rfl col w0;replace hb0:=hb0.startL (Zby hd 0 rfl) (Zbx hd 0 rfl);replace ap:=ap.startL (Zby hd 1 rfl) (Zbx hd 1 rfl);refine go ?_;refine lV (.pointer (some ⟨g0,0,none⟩)) (Qj rfl)<|lW hb0.at1<|go ?_;obtain ⟨au,av,hm⟩:=bZ hm;refine lI av (ap.addr av)<|lW (ap.atInt av) ?_;refine go ?_;obtain ⟨bm,be,hm⟩:=bZ hm;refine lI be (ap.addr be)<|lW (ap.atInt be)<|lI av (ap.addr av) ?_;obtain ⟨an,ay,hm⟩:=bZ hm;have ay:an=aa.set (Int.toNat 0) bm:=(Option.some.inj ay).symm;refine Yz (x1:=bm) ap av ?_;intro bu bn bv az;rw [← ay] at az;refine .ld (d:=3) (v:=(.slice am an.length al)) (congrArg (fun n=>Value.slice am n al) (show aa.length=an.length by rw [ay,List.length_set])) ?_;replace hb0:=hb0.kp bn;replace hb0:Zn 244 440 (Xw [qc0,ai] col) bu g0 #[.slice am an.length al]:=by rw [← (show aa.length=an.length by rw [ay,List.length_set])];exact hb0
 refine go ?_;obtain ⟨bf,hm⟩:=Z3 hm;refine lv (v:=.slice am (Int.toNat (i64.wrap ((aa.length:Int) - 1))) al) rfl rfl (V1 underlying244 sizeOf3 rfl rfl bf.1 (by have:=az.lecap;have:=bf.2;omega))<|.ld (d:=28) (v:=(.slice am ((an.take (Int.toNat (i64.wrap ((aa.length:Int) - 1)))).length) al)) (congrArg (fun n=>Value.slice am n al) (List.length_take_of_le (show (Int.toNat (i64.wrap ((aa.length:Int) - 1)))≤an.length by have:=bf.2;omega)).symm) ?_;refine lV (.pointer (some ⟨g0,0,none⟩)) (Qj rfl)<|Zi1 (v:=(.slice am ((an.take (Int.toNat (i64.wrap ((aa.length:Int) - 1)))).length) al)) hb0 sizeOf244 rfl rfl (by intro u hu;simp only [Value.cells,List.mem_cons,List.not_mem_nil,or_false] at hu;subst hu;rfl) rfl rfl ?_;intro bw bo bx ab;replace ab:Zn 244 440 (Xw [qc0,ai] col) bw g0 #[(.slice am ((an.take (Int.toNat (i64.wrap ((aa.length:Int) - 1)))).length) al)]:=ab;refine go ?_;replace ac:=(ac.kp bn bv).kp bo bx;replace az:=az.kp bo;refine Z8 [4,5,1000000] (fun n f a4=>∃ a5 af ag ah ak ao,ao=n∧Sj N aa au ao ah ak=some r∧St w0 (Xw [qc0,ai] col) a5 a4∧Zc (Za.int .i64) 3 441 a5 a4 af ag ah∧Zn 244 440 a5 a4 g0 #[(.slice af ((ah.take (Int.toNat (i64.wrap ((aa.length:Int) - 1)))).length) ag)]∧[3,6].map f=[.slice af ah.length ag,.int .i64 ak]) N ⟨_,_,_,_,0,_,rfl,hm,ac,az,ab,rfl⟩ ?_;clear hm;intro n f a4 hI;obtain ⟨a5,af,ag,ah,ak,ao,hn,hm,ac,ad,ab,hs⟩:=hI;subst hn;refine .lL [3,6] hs ?_
 cases ao with
 | zero=>rw [Sj.eq_1] at hm;cases hm
 | succ ao=>
  rw [Sj.eq_2] at hm;refine go ?_;refine lV (.agg #[(.int .i64 (i64.wrap ((i64.wrap (2 * ak))+1))),(.int .i64 (i64.wrap ((i64.wrap (2 * ak))+2)))]) (Z3c underlying261 sizeOf3 zeroValue261 rfl)<|go ?_;refine Z8 [3,37,4,5,6,1000000] (fun n f a6=>∃ ae a0 a1 aq,aq=n∧Sk N aa au ah ak (Sj N aa au ao) aq a0 a1=some r∧St w0 (Xw [qc0,ai] col) ae a6∧Zc (Za.int .i64) 3 441 ae a6 af ag ah∧Zn 244 440 ae a6 g0 #[(.slice af ((ah.take (Int.toNat (i64.wrap ((aa.length:Int) - 1)))).length) ag)]∧[38,7].map f=[.int .i64 a0,.int .i64 a1]) N ⟨_,0,_,_,rfl,hm,ac,ad,ab,rfl⟩ ?_;clear hm;intro n f a6 hI;obtain ⟨ae,a0,a1,aq,hn,hm,ac,ad,ab,hs⟩:=hI;subst hn;refine .lL [38,7] hs ?_
  cases aq with
  | zero=>rw [Sk.eq_1] at hm;cases hm
  | succ aq=>
   rw [Sk.eq_2] at hm;refine go ?_;refine Zq hm (fun hb hm=>?_) fun hb hm=>go ?_
   ·refine X8<|Zy ?_;refine Wp.cutK [3,37,38,4,5,6,1000000] (fun f a7=>∃ a8 bg,Zb4 a0 (Sk N aa au ah ak (Sj N aa au ao) aq) bg=some r∧St w0 (Xw [qc0,ai] col) a8 a7∧Zc (Za.int .i64) 3 441 a8 a7 af ag ah∧Zn 244 440 a8 a7 g0 #[(.slice af ((ah.take (Int.toNat (i64.wrap ((aa.length:Int) - 1)))).length) ag)]∧[7].map f=[.int .i64 bg]) ?_ ?_
    ·intro f a7 hJ;obtain ⟨a8,bg,hm,ac,ad,ab,hs⟩:=hJ;rw [Zb4.eq_1] at hm;refine .lL [7] hs<|go ?_;exact ⟨aq,by omega,rfl,⟨_,_,_,_,rfl,hm,ac,ad,ab,rfl⟩⟩
    refine go ?_;obtain ⟨bp,bz,hm⟩:=bZ hm;refine lV (.int .i64 bp) (Z3k (l:=[i64.wrap ((i64.wrap (2 * ak))+1),i64.wrap ((i64.wrap (2 * ak))+2)]) (k:=.i64) underlying261 sizeOf3 isAgg3 rfl rfl rfl bz)<|Yu rfl<|Zk<|Zy ?_;refine Wp.cutK [3,37,38,4,5,6,7,9,1000000] (fun f a9=>∃ ba bh,Zf6 a0 a1 (Sk N aa au ah ak (Sj N aa au ao) aq) bp bh=some r∧St w0 (Xw [qc0,ai] col) ba a9∧Zc (Za.int .i64) 3 441 ba a9 af ag ah∧Zn 244 440 ba a9 g0 #[(.slice af ((ah.take (Int.toNat (i64.wrap ((aa.length:Int) - 1)))).length) ag)]∧[54].map f=[.bool bh]) ?_ ?_
    ·intro f a9 hJ;obtain ⟨ba,bh,hm,ac,ad,ab,hs⟩:=hJ;rw [Zf6.eq_1] at hm;refine .lL [54] hs ?_;refine Zq hm (fun hb hm=>go ?_) fun hb hm=>?_
     ·exact ⟨rfl,_,_,hm,ac,ad,ab,rfl⟩
     refine X8 ?_;exact ⟨rfl,_,_,hm,ac,ad,ab,rfl⟩
    refine Wc (col:=ae) (by kernel_rfl) (by kernel_rfl)<|go ?_;refine Xv hm (fun bi hm=>go ?_) fun bi hm=>go ?_
    ·obtain ⟨b0,bj,hm⟩:=bZ hm;refine qI bj (ad.addr bj) ?_;refine go ?_;refine qW (fun _ hC=>(ad.gr (hC.bl ae)).atInt bj) ?_;refine go ?_;obtain ⟨b1,bk,hm⟩:=bZ hm;refine qI bk (ad.addr bk) ?_;refine go ?_;refine qW (fun _ hC=>(ad.gr (hC.bl ae)).atInt bk) ?_;refine go ?_;refine qv (v:=(.bool (decide (b0<b1)))) rfl (fun _ hC=>Xj (congrArg Value.bool bi) rfl) ?_;refine Yf ?_;intro b6 hC;replace hC:=hC.bl ae;replace ad:=ad.gr hC;replace ab:=ab.gr hC;replace ac:=ac.grow hC;exact ⟨rfl,_,_,hm,ac,ad,ab,rfl⟩
    refine qv (v:=(.bool false)) rfl (fun _ hC=>Xs (congrArg Value.bool bi) rfl) ?_;refine Yf ?_;intro b7 hC;replace hC:=hC.bl ae;replace ad:=ad.gr hC;replace ab:=ab.gr hC;replace ac:=ac.grow hC;exact ⟨rfl,_,_,hm,ac,ad,ab,rfl⟩
   refine Zq hm (fun hb hm=>go ?_) fun hb hm=>go ?_
   ·cases hm;exact ⟨rfl,S5 w0.heap.size [qc0,ai] col ae (fun n=>bif Nat.beq n 441 then ai else bif Nat.beq n 440 then qc0 else 0),af,ag,rfl,ac.finL rfl (fun n=>bif Nat.beq n 441 then ai else bif Nat.beq n 440 then qc0 else 0),ac.finOwnL (g:=(fun n=>bif Nat.beq n 441 then ai else bif Nat.beq n 440 then qc0 else 0)) rfl (ad.take (Int.toNat (i64.wrap ((aa.length:Int) - 1)))) (by decide) (by decide) rfl,ac.finBoxL (g:=(fun n=>bif Nat.beq n 441 then ai else bif Nat.beq n 440 then qc0 else 0)) ab (by decide) (by decide) rfl⟩
   refine Yv (col:=ae) [(0,1),(1,1),(2,1),(3,1),(4,1),(5,1),(6,1),(7,0),(8,1),(9,1),(10,1),(11,0),(12,1),(13,2),(14,1),(15,2)] (by kernel_rfl) (by kernel_rfl)<|xu rfl rfl (fun _=>Vb rfl) ?_;refine xu rfl rfl (fun _=>Vg rfl) ?_;refine xu rfl rfl (fun _=>Vb rfl) ?_;refine xu rfl rfl (fun _=>Vg rfl) ?_;refine xu rfl rfl (fun _=>Vb rfl) ?_;refine xu rfl rfl (fun _=>Vg rfl) ?_;obtain ⟨bq,bb,hm⟩:=bZ hm;refine xu rfl rfl (fun _=>Wb underlying244 sizeOf3 rfl rfl (Xp bb).1 (Xp bb).2.1 (ad.addr bb)) ?_;refine xW (fun _ hC=>(ad.gr (hC.bl ae)).atInt bb) ?_;refine xu rfl rfl (fun _=>Vb rfl) ?_;refine xu rfl rfl (fun _=>Vg rfl) ?_;obtain ⟨br,ar,hm⟩:=bZ hm;refine xu rfl rfl (fun _=>Wb underlying244 sizeOf3 rfl rfl (Xp ar).1 (Xp ar).2.1 (ad.addr ar)) ?_;refine xW (fun _ hC=>(ad.gr (hC.bl ae)).atInt ar) ?_;refine xu rfl rfl (fun _=>Wb underlying244 sizeOf3 rfl rfl (Xp ar).1 (Xp ar).2.1 (ad.addr ar)) ?_;refine xe rfl rfl ?_;intro b8 hC0;have hC:=hC0.bl ae;obtain ⟨aj,aw,hm⟩:=bZ hm;have aw:aj=ah.set (Int.toNat ak) bq:=(Option.some.inj aw).symm;replace ad:=ad.gr hC;refine Yz (x1:=bq) ad ar ?_;intro b2 bs b3 a2;rw [← aw] at a2;refine .ld (d:=3) (v:=(.slice af aj.length ag)) (congrArg (fun n=>Value.slice af n ag) (show ah.length=aj.length by rw [aw,List.length_set])) ?_;refine .ld (d:=63) (v:=(.slice af aj.length ag)) (congrArg (fun n=>Value.slice af n ag) (show ah.length=aj.length by rw [aw,List.length_set])) ?_;replace ab:=(ab.gr hC).kp bs;replace ab:Zn 244 440 ae b2 g0 #[(.slice af ((aj.take (Int.toNat (i64.wrap ((aa.length:Int) - 1)))).length) ag)]:=by rw [← (show (ah.take (Int.toNat (i64.wrap ((aa.length:Int) - 1)))).length=(aj.take (Int.toNat (i64.wrap ((aa.length:Int) - 1)))).length by rw [List.length_take,List.length_take,(show ah.length=aj.length by rw [aw,List.length_set])])];exact ab
   refine Zk<|xk ae ?_;obtain ⟨b9,bc,hm⟩:=bZ hm;refine xu rfl rfl (fun _=>Wb underlying244 sizeOf3 rfl rfl (Xp bc).1 (Xp bc).2.1 (a2.addr bc)) ?_;refine xe rfl rfl ?_;intro ca hC0;replace ac:=(ac.grow hC).kp bs b3;have hC:=hC0.bl ae;obtain ⟨ax,a3,hm⟩:=bZ hm;have a3:ax=aj.set (Int.toNat a1) br:=(Option.some.inj a3).symm;replace a2:=a2.gr hC;refine Yz (x1:=br) a2 bc ?_;intro b4 bt b5 bd;rw [← a3] at bd;refine .ld (d:=3) (v:=(.slice af ax.length ag)) (congrArg (fun n=>Value.slice af n ag) (show aj.length=ax.length by rw [a3,List.length_set])) ?_;replace ab:=(ab.gr hC).kp bt;replace ab:Zn 244 440 ae b4 g0 #[(.slice af ((ax.take (Int.toNat (i64.wrap ((aa.length:Int) - 1)))).length) ag)]:=by rw [← (show (aj.take (Int.toNat (i64.wrap ((aa.length:Int) - 1)))).length=(ax.take (Int.toNat (i64.wrap ((aa.length:Int) - 1)))).length by rw [List.length_take,List.length_take,(show aj.length=ax.length by rw [a3,List.length_set])])];exact ab
   refine Zk<|xk ae<|Yn ?_;replace ac:=(ac.grow hC).kp bt b5;intro cb hC;replace hC:=hC.bl ae;refine go ?_;replace bd:=bd.gr hC;replace ab:=ab.gr hC;replace ac:=ac.grow hC;exact ⟨ao,by omega,rfl,⟨_,_,_,_,_,_,rfl,hm,ac,bd,ab,rfl⟩⟩
theorem Z0t:W4 Tryz.prog 3 1 8:=⟨Tryz.t3,_,rfl,rfl,rfl,rfl,rfl⟩
def Zf8 (ab:List Int) (aa:Int) (kk_L1:(List Int→Int→Option R2)) (ad:Bool):Option R2:=
  if ad=true then ((Zo ab (i64.wrap (Int.tdiv (i64.wrap (aa - 1)) 2))).bind fun ae=>(Zo ab aa).bind fun af=>(some (ab.set (Int.toNat aa) ae)).bind fun ac=>(Zo ac (i64.wrap (Int.tdiv (i64.wrap (aa - 1)) 2))).bind fun ah=>(some (ac.set (Int.toNat (i64.wrap (Int.tdiv (i64.wrap (aa - 1)) 2))) af)).bind fun ag=>kk_L1 ag (i64.wrap (Int.tdiv (i64.wrap (aa - 1)) 2))) else (some ab)
def Zar (N:Nat):Nat→R2→Int→Option R2
  | 0,_,_=>none
  | ac+1,ab,aa=>if (decide (0<aa))=true then ((Zo ab aa).bind fun ad=>(Zo ab (i64.wrap (Int.tdiv (i64.wrap (aa - 1)) 2))).bind fun ae=>Zf8 ab aa (Zar N ac) (decide (ad<ae))) else (Zf8 ab aa (Zar N ac) false)
termination_by structural x=>x
def Zf7 (N:Nat) (aa:List Int) (ab:Int):Option R2:=
  Z1 ((aa.length+[ab].length) * 8≤140737488355328∧aa.length+[ab].length≤maxLen) (Zar N N (aa++[ab]) (i64.wrap (((aa++[ab]).length:Int) - 1)))
theorem Zqi {N g0 a7:Nat} {a8:Option Addr} {col:Zf} {w0:World} {ao:R2} {an:Int} {r:R2} (qc0 af:Nat) (hm:Zf7 N ao an=some r) (hd:Qv [qc0,af]=true) (ap:Zc (Za.int .i64) 3 af col w0 a8 a7 ao) (hb0:Zn 244 qc0 col w0 g0 #[.slice a8 ao.length a7]):
    Calls Tryz.prog 266 #[.pointer (some ⟨g0,0,none⟩),.int .i64 an] w0 (fun e w'=>∃ (col':Zf) (oa1:Option Addr) (oc2:Nat),e= .returned (.tuple #[])∧Zz (pS [qc0,af]) col w0 col' w'∧Zc (Za.int .i64) 3 af col' w' oa1 oc2 r∧Zn 244 qc0 col' w' g0 #[.slice oa1 r.length oc2]):=by
 refine Znz (m:=66) (args:=[.pointer (some ⟨g0,0,none⟩),.int .i64 an]) func266 rfl rfl rfl rfl ?_;rw [Zf7.eq_1] at hm;have ab:=St.startL (l:=[qc0,af]) rfl col w0;replace hb0:=hb0.startL (Zby hd 0 rfl) (Zbx hd 0 rfl);replace ap:=ap.startL (Zby hd 1 rfl) (Zbx hd 1 rfl);refine go ?_;refine lV (.pointer (some ⟨g0,0,none⟩)) (Qj rfl)<|lW hb0.at1<|Xo rfl<|Wx (col:=(Xw [qc0,af] col)) [an] 1 ?_;intro bw bi bj a0 bk;obtain ⟨a9,hm⟩:=Z3 hm;replace ap:=ap.gr a0;refine Zfr (col:=bj) (w:=bi) (r:=(Za.int .i64)) (c:=441) (c2:=441) (ap.ex) (bk.srcN (NB.int (k:=.i64))) rfl underlying244 Z0t rfl rfl rfl a9.1 a9.2 (by decide) ?_;intro ba bb bx bm bc a1;refine lV (.pointer (some ⟨g0,0,none⟩)) (Qj rfl) ?_;replace hb0:=(hb0.gr a0).kpp bc;refine Zi1 (v:=(.slice ba ((ao++[an]).length) bb)) hb0 sizeOf244 rfl rfl (by intro u hu;simp only [Value.cells,List.mem_cons,List.not_mem_nil,or_false] at hu;subst hu;rfl) rfl rfl ?_;intro bn bd bo aa;replace aa:Zn 244 440 bm bn g0 #[.slice ba ((ao++[an]).length) bb]:=aa;replace a1:=a1.kp bd;have bp:=a1.new;refine go ?_;refine lV (.pointer (some ⟨g0,0,none⟩)) (Qj rfl)<|lW aa.at1<|go ?_;replace ab:=((ab.grow a0).kpp bc).kp bd bo;refine Z8 [0,1000000] (fun n f au=>∃ ag ah ai aj ae al,al=n∧Zar N al aj ae=some r∧St w0 (Xw [qc0,af] col) ag au∧Zc (Za.int .i64) 3 441 ag au ah ai aj∧Zn 244 440 ag au g0 #[.slice ah aj.length ai]∧[4].map f=[.int .i64 ae]) N ⟨_,_,_,_,_,_,rfl,hm,ab,bp,aa,rfl⟩ ?_;clear hm;intro n f au hI;obtain ⟨ag,ah,ai,aj,ae,al,hn,hm,ab,ac,aa,hs⟩:=hI;subst hn;refine .lL [4] hs ?_
 cases al with
 | zero=>rw [Zar.eq_1] at hm;cases hm
 | succ al=>
  rw [Zar.eq_2] at hm;refine Zy<|Zy ?_;refine Wp.cutK [0,4,1000000] (fun f av=>∃ ad a2,Zf8 aj ae (Zar N al) a2=some r∧St w0 (Xw [qc0,af] col) ad av∧Zc (Za.int .i64) 3 441 ad av ah ai aj∧Zn 244 440 ad av g0 #[.slice ah aj.length ai]∧[36].map f=[.bool a2]) ?_ ?_
  ·intro f av hJ;obtain ⟨ad,a2,hm,ab,ac,aa,hs⟩:=hJ;rw [Zf8.eq_1] at hm;refine .lL [36] hs ?_;refine Zq hm (fun hb hm=>go ?_) fun hb hm=>go ?_
   ·refine Yv (col:=ad) [(0,1),(1,1),(2,0),(3,1),(4,1),(5,1),(6,0),(7,1),(8,1),(9,1),(10,1),(11,1),(12,0),(13,1),(14,1),(15,1),(16,1),(17,0),(18,1),(19,1),(20,0),(21,1),(22,1),(23,0),(24,1),(25,2),(26,1),(27,2)] (by kernel_rfl) (by kernel_rfl)<|xu rfl rfl (fun _=>Zmr rfl) ?_;refine xu (v:=(.pointer (some ⟨g0,0,none⟩))) rfl rfl (fun _=>Qj rfl) ?_;refine xW (fun _ hC=>aa.at1.gr (hC.bl ad)) ?_;refine xu rfl rfl (fun _=>Vg rfl) ?_;refine xu rfl rfl (fun _=>Zmr rfl) ?_;refine xu (v:=(.pointer (some ⟨g0,0,none⟩))) rfl rfl (fun _=>Qj rfl) ?_;refine xW (fun _ hC=>aa.at1.gr (hC.bl ad)) ?_;refine xu rfl rfl (fun _=>Vg rfl) ?_;refine xu rfl rfl (fun _=>Zmu _ _ rfl rfl) ?_;refine xu (v:=(.int .i64 (i64.wrap (Int.tdiv (i64.wrap (ae - 1)) 2)))) rfl rfl (fun _=>Wy (i64.wrap (ae - 1)) 2 rfl rfl (by decide)) ?_;refine xu rfl rfl (fun _=>Zmr rfl) ?_;refine xu (v:=(.pointer (some ⟨g0,0,none⟩))) rfl rfl (fun _=>Qj rfl) ?_;refine xW (fun _ hC=>aa.at1.gr (hC.bl ad)) ?_;refine xu rfl rfl (fun _=>Vg rfl) ?_;refine xu rfl rfl (fun _=>Zmu _ _ rfl rfl) ?_;refine xu (v:=(.int .i64 (i64.wrap (Int.tdiv (i64.wrap (ae - 1)) 2)))) rfl rfl (fun _=>Wy (i64.wrap (ae - 1)) 2 rfl rfl (by decide)) ?_;obtain ⟨be,aw,hm⟩:=bZ hm;refine xu rfl rfl (fun _=>Wb underlying244 sizeOf3 rfl rfl (Xp aw).1 (Xp aw).2.1 (ac.addr aw)) ?_;refine xW (fun _ hC=>(ac.gr (hC.bl ad)).atInt aw) ?_;refine xu rfl rfl (fun _=>Zmr rfl) ?_;refine xu (v:=(.pointer (some ⟨g0,0,none⟩))) rfl rfl (fun _=>Qj rfl) ?_;refine xW (fun _ hC=>aa.at1.gr (hC.bl ad)) ?_;refine xu rfl rfl (fun _=>Vg rfl) ?_;obtain ⟨bf,ak,hm⟩:=bZ hm;refine xu rfl rfl (fun _=>Wb underlying244 sizeOf3 rfl rfl (Xp ak).1 (Xp ak).2.1 (ac.addr ak)) ?_;refine xW (fun _ hC=>(ac.gr (hC.bl ad)).atInt ak) ?_;refine xu rfl rfl (fun _=>Wb underlying244 sizeOf3 rfl rfl (Xp ak).1 (Xp ak).2.1 (ac.addr ak)) ?_;refine xe rfl rfl ?_;intro bz hC0;have hC:=hC0.bl ad;obtain ⟨am,aq,hm⟩:=bZ hm;have aq:am=aj.set (Int.toNat ae) be:=(Option.some.inj aq).symm;replace ac:=ac.gr hC;refine Yz (x1:=be) ac ak ?_;intro bq bg br ar;rw [← aq] at ar;refine .ld (d:=46) (v:=(.slice ah am.length ai)) (congrArg (fun n=>Value.slice ah n ai) (show aj.length=am.length by rw [aq,List.length_set])) ?_;replace aa:=(aa.gr hC).kp bg;replace aa:Zn 244 440 ad bq g0 #[.slice ah am.length ai]:=by rw [← (show aj.length=am.length by rw [aq,List.length_set])];exact aa
    refine Zk<|xk ad ?_;obtain ⟨b0,ax,hm⟩:=bZ hm;refine xu rfl rfl (fun _=>Wb underlying244 sizeOf3 rfl rfl (Xp ax).1 (Xp ax).2.1 (ar.addr ax)) ?_;refine xe rfl rfl ?_;intro b1 hC0;replace ab:=(ab.grow hC).kp bg br;have hC:=hC0.bl ad;obtain ⟨a3,ay,hm⟩:=bZ hm;have ay:a3=am.set (Int.toNat (i64.wrap (Int.tdiv (i64.wrap (ae - 1)) 2))) bf:=(Option.some.inj ay).symm;replace ar:=ar.gr hC;refine Yz (x1:=bf) ar ax ?_;intro bs bh bt az;rw [← ay] at az;replace aa:=(aa.gr hC).kp bh;replace aa:Zn 244 440 ad bs g0 #[.slice ah a3.length ai]:=by rw [← (show am.length=a3.length by rw [ay,List.length_set])];exact aa
    refine Zk<|xk ad<|Yn ?_;replace ab:=(ab.grow hC).kp bh bt;intro b2 hC;replace hC:=hC.bl ad;refine go ?_;refine lV (.int .i64 (i64.wrap (Int.tdiv (i64.wrap (ae - 1)) 2))) (Wy (i64.wrap (ae - 1)) 2 rfl rfl (by decide))<|go ?_;replace az:=az.gr hC;replace aa:=aa.gr hC;replace ab:=ab.grow hC;exact ⟨al,by omega,rfl,⟨_,_,_,_,_,_,rfl,hm,ab,az,aa,rfl⟩⟩
   cases hm;exact ⟨rfl,S5 w0.heap.size [qc0,af] col ad (fun n=>bif Nat.beq n 441 then af else bif Nat.beq n 440 then qc0 else 0),ah,ai,rfl,ab.finL rfl (fun n=>bif Nat.beq n 441 then af else bif Nat.beq n 440 then qc0 else 0),ab.finOwnL (g:=(fun n=>bif Nat.beq n 441 then af else bif Nat.beq n 440 then qc0 else 0)) rfl ac (by decide) (by decide) rfl,ab.finBoxL (g:=(fun n=>bif Nat.beq n 441 then af else bif Nat.beq n 440 then qc0 else 0)) aa (by decide) (by decide) rfl⟩
  refine Wc (col:=ag) (by kernel_rfl) (by kernel_rfl)<|go ?_;refine Xv hm (fun a4 hm=>go ?_) fun a4 hm=>go ?_
  ·refine qv (v:=(.pointer (some ⟨g0,0,none⟩))) rfl (fun _ hC=>Qj rfl) ?_;refine go ?_;refine qW (fun _ hC=>aa.at1.gr (hC.bl ag)) ?_;refine go ?_;obtain ⟨bu,a5,hm⟩:=bZ hm;refine qI a5 (ac.addr a5) ?_;refine go ?_;refine qW (fun _ hC=>(ac.gr (hC.bl ag)).atInt a5) ?_;refine go ?_;refine qv (v:=(.pointer (some ⟨g0,0,none⟩))) rfl (fun _ hC=>Qj rfl) ?_;refine go ?_;refine qW (fun _ hC=>aa.at1.gr (hC.bl ag)) ?_;refine go ?_;refine qv (v:=(.int .i64 (i64.wrap (Int.tdiv (i64.wrap (ae - 1)) 2)))) rfl (fun _ hC=>Wy (i64.wrap (ae - 1)) 2 rfl rfl (by decide)) ?_;refine go ?_;obtain ⟨bv,a6,hm⟩:=bZ hm;refine qI a6 (ac.addr a6) ?_;refine go ?_;refine qW (fun _ hC=>(ac.gr (hC.bl ag)).atInt a6) ?_;refine go ?_;refine qv (v:=(.bool (decide (bu<bv)))) rfl (fun _ hC=>Xj (congrArg Value.bool a4) rfl) ?_;refine Yf ?_;intro b3 hC;replace hC:=hC.bl ag;replace ac:=ac.gr hC;replace aa:=aa.gr hC;replace ab:=ab.grow hC;exact ⟨rfl,_,_,hm,ab,ac,aa,rfl⟩
  refine qv (v:=(.bool false)) rfl (fun _ hC=>Xs (congrArg Value.bool a4) rfl) ?_;refine Yf ?_;intro b4 hC;replace hC:=hC.bl ag;replace ac:=ac.gr hC;replace aa:=aa.gr hC;replace ab:=ab.grow hC;exact ⟨rfl,_,_,hm,ab,ac,aa,rfl⟩
def Zga (kk_L3:(List Int→R2→Option R2)) (aa:List Int) (ab:List Int):Option R2:=
  kk_L3 aa ab
def Q4 (N:Nat) (ad:List Int) (kk_L2:(List Int→R2→R2→Option R2)) (ae:R7):List Int→R2→R2→Option R2
  | [],aa,ab=>kk_L2 aa ab (ad++[ae.1])
  | ac :: ag,aa,ab=>(Zo aa ac).bind fun ah=>(some (aa.set (Int.toNat ac) (i64.wrap (ah - 1)))).bind fun af=>(Zo af ac).bind fun ai=>if (decide (ai=0))=true then ((Zf7 N ab ac).bind fun aj=>Zga (Q4 N ad kk_L2 ae ag) af aj) else (Zga (Q4 N ad kk_L2 ae ag) af ab)
termination_by structural x=>x
def U6 (N:Nat) (ac:Ra):Nat→R2→R2→R2→Option R2
  | 0,_,_,_=>none
  | ae+1,af,ad,ab=>if (decide (0<(ad.length:Int)))=true then ((Zi6 N ad).bind fun aa=>Z1 ((ab.length+[aa.1].length) * 8≤140737488355328∧ab.length+[aa.1].length≤maxLen) ((Zo ac aa.1).bind fun ag=>Q4 N ab (U6 N ac ae) aa ag af aa.2)) else (some ab)
termination_by structural x=>x
def Zgb (aa:Nat) (kk_L1:(Nat→R2→R2→Option R2)) (ab:List Int) (ac:List Int):Option R2:=
  kk_L1 (aa+1) ab ac
def Q3 (N:Nat) (ad:Ra):List R2→Nat→R2→R2→Option R2
  | [],aa,ab,ac=>U6 N ad N ab ac ([]:List Int)
  | ae :: af,aa,ab,ac=>(Zo ab (aa:Int)).bind fun ai=>(some (ab.set (Int.toNat (aa:Int)) (ae.length:Int))).bind fun ag=>if (decide ((ae.length:Int)=0))=true then ((Zf7 N ac (aa:Int)).bind fun ah=>Zgb aa (Q3 N ad af) ag ah) else (Zgb aa (Q3 N ad af) ag ac)
termination_by structural x=>x
def Zf9 (N:Nat) (aa:Ra) (ab:Ra):Option R2:=
  Z1 (aa.length * 8≤281474976710656∧aa.length≤maxLen) (Q3 N ab aa 0 (List.replicate aa.length (0:Int)) ([]:List Int))
theorem Zyf {N cs ct:Nat} {a0 a1:Option Addr} {col:Zf} {w0:World} {af ag:Ra} {r:R2} (c1:Nat) (hm:Zf9 N af ag=some r) (h0:Sl (Za.slice (Za.int .i64)) col w0 a0 cs af) (h1:Sl (Za.slice (Za.int .i64)) col w0 a1 ct ag):
    Calls Tryz.prog 202 #[.slice a0 af.length cs,.slice a1 ag.length ct] w0 (fun e w'=>∃ (col':Zf) (ra1:Option Addr) (rc2:Nat),e= .returned ((.slice ra1 r.length rc2))∧Zg col w0 col' w'∧Zc (Za.int .i64) 3 c1 col' w' ra1 rc2 r):=by
 refine Xi 4 (m:=66) func202 rfl rfl rfl rfl rfl ?_;rw [Zf9.eq_1] at hm;have aa:=St.start col w0;refine go ?_;obtain ⟨cu,hm⟩:=Z3 hm;refine Sh (col:=(Zi col)) (w:=w0) (r:=(Za.int .i64)) (n:=af.length) (x0:=0) 1 rfl underlying40 Tryz.t3 rfl rfl rfl rfl rfl rfl rfl cu.1 cu.2 (S3 .i64 0) ?_;intro d2 d3 c6 c7 bx;refine go ?_;refine Zof (col:=c6) (v:=(.slice none (([]:List Int).length) 0)) 2 rfl zeroValue244 ?_;intro aq c8 c9 cv ab;replace ab:Zn 244 2 c9 c8 aq #[.slice none (([]:List Int).length) 0]:=ab;refine go ?_;replace aa:=(aa.grow c7).grow cv;replace bx:=bx.gr cv;refine Z8 [1,16,17,6,1000000] (fun n f az=>∃ a2 ah a3 a4 ar bz b0 bj a5,n=a5.length∧af.drop ah=a5∧Q3 N ag a5 ah ar bj=some r∧St w0 (Zi col) a2 az∧Zc (Za.int .i64) 3 1 a2 az a3 a4 ar∧Zc (Za.int .i64) 3 3 a2 az bz b0 bj∧Zn 244 2 a2 az aq #[.slice bz bj.length b0]∧[18,5].map f=[.int .i64 ah,.slice a3 ar.length a4]) af.length ⟨_,0,_,_,_,none,0,_,_,rfl,rfl,hm,aa,bx,Zc.nil,ab,rfl⟩ ?_;clear hm;intro n f az hI;obtain ⟨a2,ah,a3,a4,ar,bz,b0,bj,a5,hn,hl,hm,aa,b1,a6,ab,hs⟩:=hI;subst hn;refine .lL [18,5] hs ?_;replace h0:=h0.keep (Zj.start col w0);replace h1:=h1.keep (Zj.start col w0)
 cases a5 with
 | nil=>
  have hk:¬ ((ah:Int)<(af.length:Int)):=by have:=List.drop_eq_nil_iff.1 hl;omega
  have hkb:=decide_eq_false hk;rw [Q3.eq_1] at hm;refine go ?_;refine Y7 (congrArg Value.bool hkb)<|go ?_;refine Z8 [1,6,1000000] (fun n f au=>∃ av b2 b3 bk b4 b5 bm b6 b7 ai aj,aj=n∧U6 N ag aj bk bm ai=some r∧St w0 (Zi col) av au∧Zc (Za.int .i64) 3 1 av au b2 b3 bk∧Zc (Za.int .i64) 3 3 av au b4 b5 bm∧Zn 244 2 av au aq #[.slice b4 bm.length b5]∧Zc (Za.int .i64) 3 4 av au b6 b7 ai∧[5,9].map f=[.slice b2 bk.length b3,.slice b6 ai.length b7]) N ⟨_,_,_,_,_,_,_,none,0,_,_,rfl,hm,aa,b1,a6,ab,Zc.nil,rfl⟩ ?_;clear hm;intro n f au hI;obtain ⟨av,b2,b3,bk,b4,b5,bm,b6,b7,ai,aj,hn,hm,aa,b8,da,ab,bn,hs⟩:=hI;subst hn;refine .lL [5,9] hs ?_
  cases aj with
  | zero=>rw [U6.eq_1] at hm;cases hm
  | succ aj=>
   rw [U6.eq_2] at hm;refine go ?_;refine lW ab.at1<|go ?_;refine Zq hm (fun hb hm=>go ?_) fun hb hm=>go ?_
   ·obtain ⟨a7,db,hm⟩:=bZ hm;refine Zh (Zye 2 3 db rfl da ab) ?_;rintro _ d4 ⟨dc,d5,d6,rfl,b9,ca,ad⟩;refine ⟨_,rfl,go ?_⟩;refine Wx (col:=dc) [a7.1] 5 ?_;intro d7 d8 d9 a8 dd;obtain ⟨de,hm⟩:=Z3 hm;replace bn:=(bn.kpp b9).gr a8;refine Ws bn (dd.srcN (NB.int (k:=.i64))) de ?_;intro cw cx ea eb bo ae;refine go ?_;obtain ⟨aw,cb,hm⟩:=bZ hm;replace aa:=((aa.kpp b9).grow a8).kpp bo;refine lI cb ((h1.ks aa).addr cb) ?_;obtain ⟨_,df,dg⟩:=(h1.ks aa).atN cb;obtain ⟨⟨cy,cz,rfl,ac⟩,_⟩:=df;refine lW dg.one<|go ?_;replace b8:=((b8.kpp b9).gr a8).kpp bo;replace ca:=(ca.gr a8).kpp bo;replace ad:=(ad.gr a8).kpp bo;refine Z8 [1,45,46,6,9,1000000] (fun n f ak=>∃ al a9 ba bb ax cc cd bp bc,n=bc.length∧aw.drop a9=bc∧Q4 N ai (U6 N ag aj) a7 bc ax bp=some r∧St w0 (Zi col) al ak∧Sl (Za.int .i64) al ak cy cz aw∧Zc (Za.int .i64) 3 1 al ak ba bb ax∧Zc (Za.int .i64) 3 3 al ak cc cd bp∧Zn 244 2 al ak aq #[.slice cc bp.length cd]∧Zc (Za.int .i64) 3 4 al ak cw cx (ai++[a7.1])∧[47,5].map f=[.int .i64 a9,.slice ba ax.length bb]) aw.length ⟨_,0,_,_,_,_,_,_,_,rfl,rfl,hm,aa,ac,b8,ca,ad,ae,rfl⟩ ?_;clear hm;intro n f ak hI;obtain ⟨al,a9,ba,bb,ax,cc,cd,bp,bc,hn,hl,hm,aa,ac,bd,be,ad,ae,hs⟩:=hI;subst hn;refine .lL [47,5] hs ?_
    cases bc with
    | nil=>
     have hk:¬ ((a9:Int)<(aw.length:Int)):=by have:=List.drop_eq_nil_iff.1 hl;omega
     have hkb:=decide_eq_false hk;rw [Q4.eq_1] at hm;refine go ?_;refine Y7 (congrArg Value.bool hkb)<|go ?_;exact ⟨aj,by omega,rfl,⟨_,_,_,_,_,_,_,_,_,_,_,rfl,hm,aa,bd,be,ad,ae,rfl⟩⟩
    | cons dh c0=>
     obtain ⟨am,di,dj⟩:=Wg hl;have hk:(a9:Int)<(aw.length:Int):=by omega
     have hkb:=decide_eq_true hk;rw [Q4.eq_2] at hm;refine go ?_;refine Y8 (congrArg Value.bool hkb)<|X8<|Zy ?_;refine Wp.cutK [1,45,46,47,6,9,1000000] (fun f an=>∃ ao ce cf bq cg ch br,Zga (Q4 N ai (U6 N ag aj) a7 c0) bq br=some r∧St w0 (Zi col) ao an∧Sl (Za.int .i64) ao an cy cz aw∧Zc (Za.int .i64) 3 1 ao an ce cf bq∧Zc (Za.int .i64) 3 3 ao an cg ch br∧Zn 244 2 ao an aq #[.slice cg br.length ch]∧Zc (Za.int .i64) 3 4 ao an cw cx (ai++[a7.1])∧[5].map f=[.slice ce bq.length cf]) ?_ ?_
     ·intro f an hJ;obtain ⟨ao,ce,cf,bq,cg,ch,br,hm,aa,ac,dl,dm,ad,ae,hs⟩:=hJ;rw [Zga.eq_1] at hm;refine .lL [5] hs<|go ?_;exact ⟨c0.length,by simp,rfl,⟨_,_,_,_,_,_,_,_,_,rfl,di,hm,aa,ac,dl,dm,ad,ae,(Wq (congrArg (Value.int .i64) (Wj (Nat.lt_of_lt_of_le dj ac.1.1))) rfl)⟩⟩
     refine go ?_;refine lI am (ac.addr am)<|lW (ac.atInt am) ?_;refine go ?_;obtain ⟨c2,ay,hm⟩:=bZ hm;refine lI ay (bd.addr ay)<|lW (bd.atInt ay) ?_;refine go ?_;refine lI ay (bd.addr ay) ?_;obtain ⟨ci,bs,hm⟩:=bZ hm;have bs:ci=ax.set (Int.toNat dh) (i64.wrap (c2 - 1)):=(Option.some.inj bs).symm;refine Yz (x1:=i64.wrap (c2 - 1)) bd ay ?_;intro ec bf dn ap;rw [← bs] at ap;refine .ld (d:=5) (v:=(.slice ba ci.length bb)) (congrArg (fun n=>Value.slice ba n bb) (show ax.length=ci.length by rw [bs,List.length_set])) ?_;refine go ?_;obtain ⟨ed,cj,hm⟩:=bZ hm;refine lI cj (ap.addr cj)<|lW (ap.atInt cj) ?_;refine go ?_;replace ac:=ac.kp bf;replace be:=be.kp bf;replace ae:=ae.kp bf;replace ad:=ad.kp bf;replace aa:=aa.kp bf dn;refine Zq hm (fun hb hm=>go ?_) fun hb hm=>?_
     ·obtain ⟨ee,dp,hm⟩:=bZ hm;refine Zh (Zqi 2 3 dp rfl be ad) ?_;rintro _ ef ⟨eg,eh,ei,rfl,bt,dq,dr⟩;refine ⟨_,rfl,?_⟩;refine Zk ?_;replace ac:=ac.kpp bt;replace ap:=ap.kpp bt;replace ae:=ae.kpp bt;replace aa:=aa.kpp bt;exact ⟨rfl,_,_,_,_,_,_,_,hm,aa,ac,ap,dq,dr,ae,rfl⟩
     refine X8 ?_;exact ⟨rfl,_,_,_,_,_,_,_,hm,aa,ac,ap,be,ad,ae,rfl⟩
   cases hm;exact ⟨rfl,_,_,_,rfl,aa.fin (cm [(4,c1)]),aa.fo bn⟩
 | cons c3 c4=>
  obtain ⟨am,ds,dt⟩:=Wg hl;have hk:(ah:Int)<(af.length:Int):=by omega
  have hkb:=decide_eq_true hk;rw [Q3.eq_2] at hm;refine go ?_;refine Y8 (congrArg Value.bool hkb)<|X8<|Zy ?_;refine Wp.cutK [1,16,17,18,6,1000000] (fun f bg=>∃ bh ck cl bu cn co bv,Zgb ah (Q3 N ag c4) bu bv=some r∧St w0 (Zi col) bh bg∧Zc (Za.int .i64) 3 1 bh bg ck cl bu∧Zc (Za.int .i64) 3 3 bh bg cn co bv∧Zn 244 2 bh bg aq #[.slice cn bv.length co]∧[5].map f=[.slice ck bu.length cl]) ?_ ?_
  ·intro f bg hJ;obtain ⟨bh,ck,cl,bu,cn,co,bv,hm,aa,du,dv,ab,hs⟩:=hJ;rw [Zgb.eq_1] at hm;refine .lL [5] hs<|go ?_;exact ⟨c4.length,by simp,rfl,⟨_,_,_,_,_,_,_,_,_,rfl,ds,hm,aa,du,dv,ab,(Wq (congrArg (Value.int .i64) (Wj (Nat.lt_of_lt_of_le dt (h0.ks aa).1.1))) rfl)⟩⟩
  refine go ?_;refine lI am ((h0.ks aa).addr am) ?_;obtain ⟨_,dw,dx⟩:=(h0.ks aa).atN am;obtain ⟨⟨ej,ek,rfl,el⟩,_⟩:=dw;refine lW dx.one<|go ?_;obtain ⟨em,cp,hm⟩:=bZ hm;refine lI cp (b1.addr cp) ?_;obtain ⟨cq,bw,hm⟩:=bZ hm;have bw:cq=ar.set (Int.toNat (ah:Int)) (c3.length:Int):=(Option.some.inj bw).symm;refine Yz (x1:=(c3.length:Int)) b1 cp ?_;intro en cr dy bi;rw [← bw] at bi;refine .ld (d:=5) (v:=(.slice a3 cq.length a4)) (congrArg (fun n=>Value.slice a3 n a4) (show ar.length=cq.length by rw [bw,List.length_set])) ?_;refine go ?_;replace a6:=a6.kp cr;replace ab:=ab.kp cr;replace aa:=aa.kp cr dy;refine Zq hm (fun hb hm=>go ?_) fun hb hm=>?_
  ·obtain ⟨eo,dz,hm⟩:=bZ hm;refine Zh (Zqi 2 3 dz rfl a6 ab) ?_;rintro _ ep ⟨eq,er,es,rfl,c5,d0,d1⟩;refine ⟨_,rfl,?_⟩;refine Zk ?_;replace bi:=bi.kpp c5;replace aa:=aa.kpp c5;exact ⟨rfl,_,_,_,_,_,_,_,hm,aa,bi,d0,d1,rfl⟩
  refine X8 ?_;exact ⟨rfl,_,_,_,_,_,_,_,hm,aa,bi,a6,ab,rfl⟩
def Qy (N:Nat) (aa:Ra):Option Rd:=
  (Zf4 aa).bind fun ab=>if (!decide (ab=0))=true then (some (([]:List Int),ab)) else ((Zf3 aa).bind fun ad=>(Zf9 N aa ad).bind fun ac=>if (decide ((ac.length:Int)<(aa.length:Int)))=true then (some (([]:List Int),42)) else (some (ac,0)))
theorem Zqh {N ad:Nat} {a0:Option Addr} {col:Zf} {w0:World} {ab:Ra} {r:Rd} (c1:Nat) (hm:Qy N ab=some r) (h0:Sl (Za.slice (Za.int .i64)) col w0 a0 ad ab):
    Calls Tryz.prog 89 #[.slice a0 ab.length ad] w0 (fun e w'=>∃ (col':Zf) (ra1:Option Addr) (rc2:Nat),e= .returned (.tuple #[.slice ra1 r.1.length rc2,.int .i64 r.2])∧Zg col w0 col' w'∧Zc (Za.int .i64) 3 c1 col' w' ra1 rc2 r.1):=by
 refine Zdg 2 3 (m:=21) (args:=[.slice a0 ab.length ad]) func89 rfl rfl rfl rfl rfl ?_;rw [Qy.eq_1] at hm;have aa:=St.start col w0;refine go ?_;obtain ⟨ap,ah,hm⟩:=bZ hm;replace h0:=h0.keep (Zj.start col w0);refine Zh (Zyd ah (h0.ks aa)) ?_;rintro _ ai ⟨rfl,ae⟩;refine ⟨_,rfl,?_⟩;replace ae:Zg (Zi col) w0 (Zi col) ai:=.of_below ae;refine go ?_;replace aa:=aa.grow ae;refine Zq hm (fun hb hm=>go ?_) fun hb hm=>go ?_
 ·cases hm;exact ⟨rfl,_,none,0,rfl,aa.fin (cm []),Zc.nil⟩
 obtain ⟨aq,aj,hm⟩:=bZ hm;refine Zh (Zyc 1 aj (h0.ks aa)) ?_;rintro _ ak ⟨af,ar,au,rfl,al,am⟩;refine ⟨_,rfl,?_⟩;obtain ⟨av,an,hm⟩:=bZ hm;replace aa:=aa.grow al;refine Zh (Zyf 2 an ((h0.ks aa).froz 1) (am.toSlF (Zl.row (Zl.int .i64)))) ?_;rintro _ aw ⟨ao,ax,ay,rfl,ac,ag⟩;refine ⟨_,rfl,?_⟩;replace ag:=ag.thaw (Zv .i64) ac ((Fz.refl (col:=af)).froz 1) (by decide);replace ac:=ac.thawR (col:=af);generalize Z4 ak.heap.size af ao=az at *;refine go ?_;replace aa:=aa.grow ac;refine Zq hm (fun hb hm=>go ?_) fun hb hm=>go ?_
 ·cases hm;exact ⟨rfl,_,none,0,rfl,aa.fin (cm []),Zc.nil⟩
 cases hm;exact ⟨rfl,_,_,_,rfl,aa.fin (cm [(2,c1)]),aa.fo ag⟩
def Zaq (N:Nat) (aa:Ra):Option Int:=
  (Qy N aa).bind fun ab=>some ab.2
theorem Zyb {N ad:Nat} {a0:Option Addr} {col:Zf} {w0:World} {ac:Ra} {r:Int} (hm:Zaq N ac=some r) (h0:Sl (Za.slice (Za.int .i64)) col w0 a0 ad ac):
    Calls Tryz.prog 175 #[.slice a0 ac.length ad] w0 (fun e w'=>e= .returned ((.int .i64 r))∧Below w0.heap.size w0 w'):=by
 refine Xi 2 (m:=11) func175 rfl rfl rfl rfl rfl ?_;rw [Zaq.eq_1] at hm;have aa:=St.start col w0;refine go ?_;obtain ⟨ab,ag,hm⟩:=bZ hm;replace h0:=h0.keep (Zj.start col w0);refine Zh (Zqh 1 ag (h0.ks aa)) ?_;rintro _ ai ⟨aj,ae,af,rfl,ah,ak⟩;refine ⟨_,rfl,?_⟩;refine lM (.tuple #[.slice ae ab.1.length af,.int .i64 ab.2])<|lV (.slice ae ab.1.length af) (Xl rfl rfl)<|lV (.int .i64 ab.2) (Xl rfl rfl)<|go ?_;cases hm;replace aa:=aa.grow ah;exact ⟨rfl,rfl,aa.below⟩
def Zhe (aa:Int) (kk_L2:(Int→Option Bool)) (ab:Bool):Option Bool:=
  if ab=true then (some false) else (kk_L2 (i64.wrap (aa+1)))
def Zbb (N:Nat) (aa:Ra) (ab:Int) (kk_L1:(Int→Option Bool)):Nat→Int→Option Bool
  | 0,_=>none
  | ad+1,ac=>(Zo aa ab).bind fun ae=>if (decide (ac<(ae.length:Int)))=true then ((Zo ae ac).bind fun af=>if (decide (af<0))=true then (Zhe ac (Zbb N aa ab kk_L1 ad) true) else (Zhe ac (Zbb N aa ab kk_L1 ad) (decide ((aa.length:Int)≤af)))) else (kk_L1 (i64.wrap (ab+1)))
termination_by structural x=>x
def Zad (N:Nat) (aa:Ra):Nat→Int→Option Bool
  | 0,_=>none
  | ac+1,ab=>if (decide (ab<(aa.length:Int)))=true then (Zbb N aa ab (Zad N aa ac) N 0) else (some true)
termination_by structural x=>x
def Zhd (N:Nat) (aa:Ra):Option Bool:=
  Zad N aa N 0
theorem Zzc {N ak:Nat} {a0:Option Addr} {col:Zf} {w0:World} {ab:Ra} {r:Bool} (hm:Zhd N ab=some r) (h0:Sl (Za.slice (Za.int .i64)) col w0 a0 ak ab):
    Calls Tryz.prog 263 #[.slice a0 ab.length ak] w0 (fun e w'=>e= .returned ((.bool r))∧Below w0.heap.size w0 w'):=by
 refine Xi 2 (m:=36) func263 rfl rfl rfl rfl rfl ?_;rw [Zhd.eq_1] at hm;have aa:=St.start col w0;refine go ?_;refine Z8 [0,1000000] (fun n f al=>∃ am af ac,ac=n∧Zad N ab ac af=some r∧St w0 (Zi col) am al∧[3].map f=[.int .i64 af]) N ⟨_,0,_,rfl,hm,aa,rfl⟩ ?_;clear hm;intro n f al hI;obtain ⟨am,af,ac,hn,hm,aa,hs⟩:=hI;subst hn;refine .lL [3] hs ?_;replace h0:=h0.keep (Zj.start col w0)
 cases ac with
 | zero=>rw [Zad.eq_1] at hm;cases hm
 | succ ac=>
  rw [Zad.eq_2] at hm;refine go ?_;refine Zq hm (fun hb hm=>go ?_) fun hb hm=>go ?_
  ·refine Z8 [0,3,1000000] (fun n f an=>∃ ao ag ad,ad=n∧Zbb N ab af (Zad N ab ac) ad ag=some r∧St w0 (Zi col) ao an∧[4].map f=[.int .i64 ag]) N ⟨_,0,_,rfl,hm,aa,rfl⟩ ?_;clear hm;intro n f an hI;obtain ⟨ao,ag,ad,hn,hm,aa,hs⟩:=hI;subst hn;refine .lL [4] hs ?_
   cases ad with
   | zero=>rw [Zbb.eq_1] at hm;cases hm
   | succ ad=>
    rw [Zbb.eq_2] at hm;refine go ?_;obtain ⟨az,ae,hm⟩:=bZ hm;refine lI ae ((h0.ks aa).addr ae) ?_;obtain ⟨_,au,av⟩:=(h0.ks aa).atN ae;obtain ⟨⟨a1,a2,rfl,a3⟩,_⟩:=au;refine lW av.one<|go ?_;refine Zq hm (fun hb hm=>go ?_) fun hb hm=>go ?_
    ·refine lI ae ((h0.ks aa).addr ae) ?_;obtain ⟨_,aw,ax⟩:=(h0.ks aa).atN ae;obtain ⟨⟨a4,a5,rfl,ap⟩,_⟩:=aw;refine lW ax.one<|Xo rfl ?_;obtain ⟨ay,ah,hm⟩:=bZ hm;refine lI ah (ap.addr ah)<|lW (ap.atInt ah)<|Yu rfl<|Zk<|Zy ?_;refine Wp.cutK [0,3,4,1000000] (fun f aq=>∃ ar ai,Zhe ag (Zbb N ab af (Zad N ab ac) ad) ai=some r∧St w0 (Zi col) ar aq∧[35].map f=[.bool ai]) ?_ ?_
     ·intro f aq hJ;obtain ⟨ar,ai,hm,aa,hs⟩:=hJ;rw [Zhe.eq_1] at hm;refine .lL [35] hs ?_;refine Zq hm (fun hb hm=>go ?_) fun hb hm=>go ?_
      ·cases hm;exact ⟨rfl,rfl,aa.below⟩
      exact ⟨ad,by omega,rfl,⟨_,_,_,rfl,hm,aa,rfl⟩⟩
     refine go ?_;refine Xv hm (fun aj hm=>go ?_) fun aj hm=>go ?_
     ·refine lV (.bool true) (Xj (congrArg Value.bool aj) rfl)<|Zk ?_;exact ⟨rfl,_,_,hm,aa,rfl⟩
     refine lV (.bool (decide ((ab.length:Int)≤ay))) (Xs (congrArg Value.bool aj) rfl)<|Zk ?_;exact ⟨rfl,_,_,hm,aa,rfl⟩
    exact ⟨ac,by omega,rfl,⟨_,_,_,rfl,hm,aa,rfl⟩⟩
  cases hm;exact ⟨rfl,rfl,aa.below⟩
def Zej (N:Nat) (aa:List Int) (ac:Int):Nat→Int→Option Bool
  | 0,_=>none
  | ad+1,ab=>if (decide (ab<(aa.length:Int)))=true then ((Zo aa ab).bind fun ae=>if (decide (ae=ac))=true then (some true) else ((Zej N aa ac ad) (i64.wrap (ab+1)))) else (some false)
termination_by structural x=>x
def Zei (N:Nat) (aa:List Int) (ab:Int):Option Bool:=
  Zej N aa ab N 0
theorem Znv {N ag:Nat} {a0:Option Addr} {col:Zf} {w0:World} {ac:R2} {ad:Int} {r:Bool} (hm:Zei N ac ad=some r) (h0:Sl (Za.int .i64) col w0 a0 ag ac):
    Calls Tryz.prog 265 #[.slice a0 ac.length ag,.int .i64 ad] w0 (fun e w'=>e= .returned ((.bool r))∧Below w0.heap.size w0 w'):=by
 refine Xi 4 (m:=18) func265 rfl rfl rfl rfl rfl ?_;rw [Zei.eq_1] at hm;have aa:=St.start col w0;refine go ?_;refine Z8 [0,1,1000000] (fun n f ah=>∃ ai ae ab,ab=n∧Zej N ac ad ab ae=some r∧St w0 (Zi col) ai ah∧[5].map f=[.int .i64 ae]) N ⟨_,0,_,rfl,hm,aa,rfl⟩ ?_;clear hm;intro n f ah hI;obtain ⟨ai,ae,ab,hn,hm,aa,hs⟩:=hI;subst hn;refine .lL [5] hs ?_;replace h0:=h0.keep (Zj.start col w0)
 cases ab with
 | zero=>rw [Zej.eq_1] at hm;cases hm
 | succ ab=>
  rw [Zej.eq_2] at hm;refine go ?_;refine Zq hm (fun hb hm=>go ?_) fun hb hm=>go ?_
  ·obtain ⟨aj,af,hm⟩:=bZ hm;refine lI af ((h0.ks aa).addr af)<|lW ((h0.ks aa).atInt af) ?_;refine go ?_;refine Zq hm (fun hb hm=>go ?_) fun hb hm=>go ?_
   ·cases hm;exact ⟨rfl,rfl,aa.below⟩
   exact ⟨ab,by omega,rfl,⟨_,_,_,rfl,hm,aa,rfl⟩⟩
  cases hm;exact ⟨rfl,rfl,aa.below⟩
def Zek (N:Nat) (ad:Ra) (ac:Int) (kk_L1:(Int→Option Bool)):Nat→Int→Option Bool
  | 0,_=>none
  | ae+1,aa=>(Zo ad ac).bind fun ab=>if (decide (aa<(ab.length:Int)))=true then (Z1 ((0:Int)≤aa∧aa≤(ab.length:Int)) ((Zo ab aa).bind fun af=>(Zei N (ab.take (Int.toNat aa)) af).bind fun ag=>if ag=true then (some true) else ((Zek N ad ac kk_L1 ae) (i64.wrap (aa+1))))) else (kk_L1 (i64.wrap (ac+1)))
termination_by structural x=>x
def Zbd (N:Nat) (aa:Ra):Nat→Int→Option Bool
  | 0,_=>none
  | ac+1,ab=>if (decide (ab<(aa.length:Int)))=true then (Zek N aa ab (Zbd N aa ac) N 0) else (some false)
termination_by structural x=>x
def Zhh (N:Nat) (aa:Ra):Option Bool:=
  Zbd N aa N 0
theorem Zzd {N am:Nat} {a0:Option Addr} {col:Zf} {w0:World} {af:Ra} {r:Bool} (hm:Zhh N af=some r) (h0:Sl (Za.slice (Za.int .i64)) col w0 a0 am af):
    Calls Tryz.prog 264 #[.slice a0 af.length am] w0 (fun e w'=>e= .returned ((.bool r))∧Below w0.heap.size w0 w'):=by
 refine Xi 2 (m:=34) func264 rfl rfl rfl rfl rfl ?_;rw [Zhh.eq_1] at hm;have aa:=St.start col w0;refine go ?_;refine Z8 [0,1000000] (fun n f an=>∃ ao ah ad,ad=n∧Zbd N af ad ah=some r∧St w0 (Zi col) ao an∧[3].map f=[.int .i64 ah]) N ⟨_,0,_,rfl,hm,aa,rfl⟩ ?_;clear hm;intro n f an hI;obtain ⟨ao,ah,ad,hn,hm,aa,hs⟩:=hI;subst hn;refine .lL [3] hs ?_;replace h0:=h0.keep (Zj.start col w0)
 cases ad with
 | zero=>rw [Zbd.eq_1] at hm;cases hm
 | succ ad=>
  rw [Zbd.eq_2] at hm;refine go ?_;refine Zq hm (fun hb hm=>go ?_) fun hb hm=>go ?_
  ·refine Z8 [0,3,1000000] (fun n f ap=>∃ ac ae ag,ag=n∧Zek N af ah (Zbd N af ad) ag ae=some r∧St w0 (Zi col) ac ap∧[4].map f=[.int .i64 ae]) N ⟨_,0,_,rfl,hm,aa,rfl⟩ ?_;clear hm;intro n f ap hI;obtain ⟨ac,ae,ag,hn,hm,aa,hs⟩:=hI;subst hn;refine .lL [4] hs ?_
   cases ag with
   | zero=>rw [Zek.eq_1] at hm;cases hm
   | succ ag=>
    rw [Zek.eq_2] at hm;refine go ?_;obtain ⟨aq,ab,hm⟩:=bZ hm;refine lI ab ((h0.ks aa).addr ab) ?_;obtain ⟨_,av,aw⟩:=(h0.ks aa).atN ab;obtain ⟨⟨a4,a5,rfl,a6⟩,_⟩:=av;refine lW aw.one<|go ?_;refine Zq hm (fun hb hm=>go ?_) fun hb hm=>go ?_
    ·refine Wc (col:=ac) (by kernel_rfl) (by kernel_rfl)<|go ?_;refine qI ab ((h0.ks aa).addr ab) ?_;obtain ⟨_,ax,ay⟩:=(h0.ks aa).atN ab;obtain ⟨⟨ai,aj,rfl,ar⟩,_⟩:=ax;refine qW (fun _ hC=>ay.one.gr (hC.bl ac)) ?_;refine go ?_;obtain ⟨ak,hm⟩:=Z3 hm;refine qv (v:=.slice ai (Int.toNat ae) aj) rfl (fun _ hC=>V1 underlying40 sizeOf3 rfl rfl ak.1 (by have:=ar.1.2;have:=ak.2;omega)) ?_;refine .ld (d:=25) (v:=(.slice ai ((aq.take (Int.toNat ae)).length) aj)) (congrArg (fun n=>Value.slice ai n aj) (List.length_take_of_le (show (Int.toNat ae)≤aq.length by have:=ak.2;omega)).symm) ?_;refine go ?_;refine qI ab ((h0.ks aa).addr ab) ?_;obtain ⟨_,az,a1⟩:=(h0.ks aa).atN ab;obtain ⟨⟨a7,a8,rfl,au⟩,_⟩:=az;refine qW (fun _ hC=>a1.one.gr (hC.bl ac)) ?_;refine go ?_;obtain ⟨a9,al,hm⟩:=bZ hm;refine qI al (au.addr al)<|qW (fun _ hC=>(au.gr (hC.bl ac)).atInt al) ?_;obtain ⟨a2,a3,hm⟩:=bZ hm;refine qc (v:=(.bool a2)) rfl (fun _ hC=>⟨_,_,Zc6 call265 rfl rfl,(Znv a3 ((ar.take (Int.toNat ae)).gr (hC.bl ac)):).mono fun _ _ h=>⟨h.1,hC.trans (.of_below h.2)⟩⟩) ?_;refine Yf ?_;intro ba hC;replace hC:=hC.bl ac;replace aa:=aa.grow hC;refine Zq hm (fun hb hm=>go ?_) fun hb hm=>go ?_
     ·cases hm;exact ⟨rfl,rfl,aa.below⟩
     exact ⟨ag,by omega,rfl,⟨_,_,_,rfl,hm,aa,rfl⟩⟩
    exact ⟨ad,by omega,rfl,⟨_,_,_,rfl,hm,aa,rfl⟩⟩
  cases hm;exact ⟨rfl,rfl,aa.below⟩
def Zhf (aa:Int) (kk_L2:(Int→Int→Option R2)) (ab:Int):Option R2:=
  kk_L2 ab (i64.wrap (aa+1))
def Zhg (aa:Int) (kk_L3:(Bool→Int→Option R2)) (ab:Bool):Option R2:=
  kk_L3 ab (i64.wrap (aa+1))
def Zbc (N:Nat) (ac:Ra) (ad:List Int) (ae:Int) (aa:Int) (kk_L2:(Int→Int→Option R2)):Nat→Bool→Int→Option R2
  | 0,_,_=>none
  | af+1,ag,ab=>(Zo ac aa).bind fun ah=>if (decide (ab<(ah.length:Int)))=true then (if ag=true then ((Zo ah ab).bind fun ai=>(Zei N ad ai).bind fun aj=>Zhg ab (Zbc N ac ad ae aa kk_L2 af) aj) else (Zhg ab (Zbc N ac ad ae aa kk_L2 af) false)) else (if ag=true then (Zhf aa kk_L2 aa) else (Zhf aa kk_L2 ae))
termination_by structural x=>x
def Zcr (N:Nat) (ad:Ra) (aa:List Int) (kk_L1:(List Int→Option R2)) (ab:Int) (ac:Int) (kk_L2:(Int→Int→Option R2)) (ae:Bool):Option R2:=
  if ae=true then ((Zei N aa ac).bind fun af=>Zbc N ad aa ab ac kk_L2 N (!af) 0) else (if (decide (ab<0))=true then (some aa) else (Z1 ((aa.length+[ab].length) * 8≤140737488355328∧aa.length+[ab].length≤maxLen) (kk_L1 (aa++[ab]))))
def Tj (N:Nat) (aa:Ra) (ab:List Int) (kk_L1:(List Int→Option R2)):Nat→Int→Int→Option R2
  | 0,_,_=>none
  | ae+1,ac,ad=>if (decide (ad<(aa.length:Int)))=true then (Zcr N aa ab kk_L1 ac ad (Tj N aa ab kk_L1 ae) (decide (ac<0))) else (Zcr N aa ab kk_L1 ac ad (Tj N aa ab kk_L1 ae) false)
termination_by structural x=>x
def Uc (N:Nat) (aa:Ra):Nat→R2→Option R2
  | 0,_=>none
  | ab+1,ac=>Tj N aa ac (Uc N aa ab) N (-1) 0
termination_by structural x=>x
def Ti (N:Nat) (aa:Ra):Option R2:=
  Uc N aa N ([]:List Int)
theorem Zq1 {N bb:Nat} {a0:Option Addr} {col:Zf} {w0:World} {ac:Ra} {r:R2} (c1:Nat) (hm:Ti N ac=some r) (h0:Sl (Za.slice (Za.int .i64)) col w0 a0 bb ac):
    Calls Tryz.prog 199 #[.slice a0 ac.length bb] w0 (fun e w'=>∃ (col':Zf) (ra1:Option Addr) (rc2:Nat),e= .returned ((.slice ra1 r.length rc2))∧Zg col w0 col' w'∧Zc (Za.int .i64) 3 c1 col' w' ra1 rc2 r):=by
 refine Xi 2 (m:=52) func199 rfl rfl rfl rfl rfl ?_;rw [Ti.eq_1] at hm;have aa:=St.start col w0;refine go ?_;refine Z8 [0,1000000] (fun n f av=>∃ aw ag ah ad ae,ae=n∧Uc N ac ae ad=some r∧St w0 (Zi col) aw av∧Zc (Za.int .i64) 3 1 aw av ag ah ad∧[3].map f=[.slice ag ad.length ah]) N ⟨_,none,0,_,_,rfl,hm,aa,Zc.nil,rfl⟩ ?_;clear hm;intro n f av hI;obtain ⟨aw,ag,ah,ad,ae,hn,hm,aa,ab,hs⟩:=hI;subst hn;refine .lL [3] hs ?_;replace h0:=h0.keep (Zj.start col w0)
 cases ae with
 | zero=>rw [Uc.eq_1] at hm;cases hm
 | succ ae=>
  rw [Uc.eq_2] at hm;refine go ?_;refine Z8 [0,3,1000000] (fun n f ax=>∃ ay ai aj af,af=n∧Tj N ac ad (Uc N ac ae) af ai aj=some r∧St w0 (Zi col) ay ax∧Zc (Za.int .i64) 3 1 ay ax ag ah ad∧[4,5].map f=[.int .i64 ai,.int .i64 aj]) N ⟨_,_,0,_,rfl,hm,aa,ab,rfl⟩ ?_;clear hm;intro n f ax hI;obtain ⟨ay,ai,aj,af,hn,hm,aa,ab,hs⟩:=hI;subst hn;refine .lL [4,5] hs ?_
  cases af with
  | zero=>rw [Tj.eq_1] at hm;cases hm
  | succ af=>
   rw [Tj.eq_2] at hm;refine Zy<|Zy ?_;refine Wp.cutK [0,3,4,5,1000000] (fun f ao=>∃ al az,Zcr N ac ad (Uc N ac ae) ai aj (Tj N ac ad (Uc N ac ae) af) az=some r∧St w0 (Zi col) al ao∧Zc (Za.int .i64) 3 1 al ao ag ah ad∧[15].map f=[.bool az]) ?_ ?_
   ·intro f ao hJ;obtain ⟨al,az,hm,aa,ab,hs⟩:=hJ;rw [Zcr.eq_1] at hm;refine .lL [15] hs ?_;refine Zq hm (fun hb hm=>?_) fun hb hm=>go ?_
    ·refine X8<|Zy ?_;refine Wp.cutK [0,3,5,1000000] (fun f a1=>∃ a2 a3,Zhf aj (Tj N ac ad (Uc N ac ae) af) a3=some r∧St w0 (Zi col) a2 a1∧Zc (Za.int .i64) 3 1 a2 a1 ag ah ad∧[4].map f=[.int .i64 a3]) ?_ ?_
     ·intro f a1 hJ;obtain ⟨a2,a3,hm,aa,ab,hs⟩:=hJ;rw [Zhf.eq_1] at hm;refine .lL [4] hs<|go ?_;exact ⟨af,by omega,rfl,⟨_,_,_,_,rfl,hm,aa,ab,rfl⟩⟩
     refine go ?_;obtain ⟨bs,be,hm⟩:=bZ hm;refine Zh (Znv be (ab.toSlF (Zl.int .i64))) ?_;rintro _ bf ⟨rfl,ap⟩;refine ⟨_,rfl,?_⟩;replace ap:Zg al ao al bf:=.of_below ap;refine go ?_;replace ab:=ab.gr ap;replace aa:=aa.grow ap;refine Z8 [0,3,4,5,1000000] (fun n f aq=>∃ an a4 ar ak,ak=n∧Zbc N ac ad ai aj (Tj N ac ad (Uc N ac ae) af) ak a4 ar=some r∧St w0 (Zi col) an aq∧Zc (Za.int .i64) 3 1 an aq ag ah ad∧[6,7].map f=[.bool a4,.int .i64 ar]) N ⟨_,_,0,_,rfl,hm,aa,ab,rfl⟩ ?_;clear hm;intro n f aq hI;obtain ⟨an,a4,ar,ak,hn,hm,aa,ab,hs⟩:=hI;subst hn;refine .lL [6,7] hs ?_
     cases ak with
     | zero=>rw [Zbc.eq_1] at hm;cases hm
     | succ ak=>
      rw [Zbc.eq_2] at hm;refine go ?_;obtain ⟨bt,am,hm⟩:=bZ hm;refine lI am ((h0.ks aa).addr am) ?_;obtain ⟨_,bg,bh⟩:=(h0.ks aa).atN am;obtain ⟨⟨bu,bv,rfl,bw⟩,_⟩:=bg;refine lW bh.one<|go ?_;refine Zq hm (fun hb hm=>?_) fun hb hm=>go ?_
      ·refine X8<|Zy ?_;refine Wp.cutK [0,3,4,5,7,1000000] (fun f a5=>∃ a6 a7,Zhg ar (Zbc N ac ad ai aj (Tj N ac ad (Uc N ac ae) af) ak) a7=some r∧St w0 (Zi col) a6 a5∧Zc (Za.int .i64) 3 1 a6 a5 ag ah ad∧[6].map f=[.bool a7]) ?_ ?_
       ·intro f a5 hJ;obtain ⟨a6,a7,hm,aa,ab,hs⟩:=hJ;rw [Zhg.eq_1] at hm;refine .lL [6] hs<|go ?_;exact ⟨ak,by omega,rfl,⟨_,_,_,_,rfl,hm,aa,ab,rfl⟩⟩
       refine go ?_;refine Xv hm (fun a8 hm=>go ?_) fun a8 hm=>go ?_
       ·refine lI am ((h0.ks aa).addr am) ?_;refine go ?_;obtain ⟨_,bi,bj⟩:=(h0.ks aa).atN am;obtain ⟨⟨bx,bz,rfl,bc⟩,_⟩:=bi;refine lW bj.one<|go ?_;obtain ⟨b0,a9,hm⟩:=bZ hm;refine lI a9 (bc.addr a9) ?_;refine go ?_;refine lW (bc.atInt a9)<|go ?_;obtain ⟨bk,bm,hm⟩:=bZ hm;refine Zh (Znv bm (ab.toSlF (Zl.int .i64))) ?_;rintro _ bn ⟨rfl,au⟩;refine ⟨_,rfl,?_⟩;replace au:Zg an aq an bn:=.of_below au;refine lV (.bool bk) (Xj (congrArg Value.bool a8) rfl)<|go ?_;replace ab:=ab.gr au;replace aa:=aa.grow au;exact ⟨rfl,_,_,hm,aa,ab,rfl⟩
       refine lV (.bool false) (Xs (congrArg Value.bool a8) rfl)<|go ?_;exact ⟨rfl,_,_,hm,aa,ab,rfl⟩
      refine Zq hm (fun hb hm=>go ?_) fun hb hm=>?_
      ·exact ⟨rfl,_,_,hm,aa,ab,rfl⟩
      refine X8 ?_;exact ⟨rfl,_,_,hm,aa,ab,rfl⟩
    refine Zq hm (fun hb hm=>go ?_) fun hb hm=>go ?_
    ·cases hm;exact ⟨rfl,_,_,_,rfl,aa.fin (cm [(1,c1)]),aa.fo ab⟩
    refine Wx (col:=al) [ai] 2 ?_;intro b1 b2 b3 bd bo;obtain ⟨bp,hm⟩:=Z3 hm;replace ab:=ab.gr bd;refine Ws ab (bo.srcN (NB.int (k:=.i64))) bp ?_;intro b4 b5 b6 b7 bq br;refine go ?_;replace aa:=(aa.grow bd).kpp bq;exact ⟨ae,by omega,rfl,⟨_,_,_,_,_,rfl,hm,aa,br,rfl⟩⟩
   refine go ?_;refine Xv hm (fun ba hm=>go ?_) fun ba hm=>go ?_
   ·refine lV (.bool (decide (ai<0))) (Xj (congrArg Value.bool ba) rfl)<|Zk ?_;exact ⟨rfl,_,_,hm,aa,ab,rfl⟩
   refine lV (.bool false) (Xs (congrArg Value.bool ba) rfl)<|Zk ?_;exact ⟨rfl,_,_,hm,aa,ab,rfl⟩
def Ss (N:Nat) (aa:Ra):Option Int:=
  (Zhd N aa).bind fun ab=>if (!ab)=true then (some 3) else ((Zhh N aa).bind fun ac=>if ac=true then (some 40) else ((Ti N aa).bind fun ad=>if (decide ((ad.length:Int)<(aa.length:Int)))=true then (some 42) else (some 0)))
theorem Zq0 {N ae:Nat} {a0:Option Addr} {col:Zf} {w0:World} {ab:Ra} {r:Int} (hm:Ss N ab=some r) (h0:Sl (Za.slice (Za.int .i64)) col w0 a0 ae ab):
    Calls Tryz.prog 193 #[.slice a0 ab.length ae] w0 (fun e w'=>e= .returned ((.int .i64 r))∧Below w0.heap.size w0 w'):=by
 refine Xi 2 (m:=18) func193 rfl rfl rfl rfl rfl ?_;rw [Ss.eq_1] at hm;have aa:=St.start col w0;refine go ?_;obtain ⟨al,ag,hm⟩:=bZ hm;replace h0:=h0.keep (Zj.start col w0);refine Zh (Zzc ag (h0.ks aa)) ?_;rintro _ af ⟨rfl,ac⟩;refine ⟨_,rfl,?_⟩;replace ac:Zg (Zi col) w0 (Zi col) af:=.of_below ac;refine go ?_;replace aa:=aa.grow ac;refine Zq hm (fun hb hm=>go ?_) fun hb hm=>go ?_
 ·cases hm;exact ⟨rfl,rfl,aa.below⟩
 obtain ⟨am,ah,hm⟩:=bZ hm;refine Zh (Zzd ah (h0.ks aa)) ?_;rintro _ ai ⟨rfl,ad⟩;refine ⟨_,rfl,?_⟩;replace ad:Zg (Zi col) af (Zi col) ai:=.of_below ad;refine go ?_;replace aa:=aa.grow ad;refine Zq hm (fun hb hm=>go ?_) fun hb hm=>go ?_
 ·cases hm;exact ⟨rfl,rfl,aa.below⟩
 obtain ⟨an,aj,hm⟩:=bZ hm;refine Zh (Zq1 1 aj (h0.ks aa)) ?_;rintro _ ao ⟨ap,aq,ar,rfl,ak,au⟩;refine ⟨_,rfl,go ?_⟩;replace aa:=aa.grow ak;refine Zq hm (fun hb hm=>go ?_) fun hb hm=>go ?_
 ·cases hm;exact ⟨rfl,rfl,aa.below⟩
 cases hm;exact ⟨rfl,rfl,aa.below⟩
theorem Zp4 (N:Nat) (l:List Int) (x:Int) (hl:l.length≤1048576):∀ (n k:Nat),l.length<n+k→k≤l.length→Zej N l x n (k:Int)=some (decide (x ∈ l.drop k))
 | 0,k,h,hk=>by omega
 | n+1,k,h,hk=>by
  rw [Zej.eq_2]
  by_cases hlt:k<l.length
  ·rw [if_pos (by simpa using hlt),Z7 hlt,Option.bind_some,wS (by omega),Zp4 N l x hl n (k+1) (by omega) (by omega),List.drop_eq_getElem_cons hlt]
   by_cases he:l[k]=x
   ·rw [if_pos (by simpa using he),decide_eq_true (by rw [he];exact List.mem_cons_self)]
   ·rw [if_neg (by simpa using he)]
    exact congrArg some (decide_eq_decide.2 ⟨fun h=>List.mem_cons_of_mem _ h,fun h=>(List.mem_cons.1 h).resolve_left (Ne.symm he)⟩)
  ·rw [if_neg (by simpa using hlt),List.drop_eq_nil_of_le (by omega)];simp
theorem Znc {N:Nat} {l:List Int} {x:Int} (hl:l.length≤1048576) (hN:1048576<N):Zei N l x=some (decide (x ∈ l)):=by
 rw [Zei];simpa using Zp4 N l x hl N 0 (by omega) (by omega)
def Ul (m:Int) (P:List R2):Bool:=P.all fun l=>l.all fun p=>decide (0≤p∧p<m)
theorem Zsm (N:Nat) (P:List R2) (i:Nat) (hi:i<P.length) (hP:P.length≤1048576) (hl:P[i].length≤1048576) (kk:Int→Option Bool):∀ (n k:Nat),P[i].length<n+k→k≤P[i].length→
  Zbb N P (i:Int) kk n (k:Int)=if (P[i].drop k).all (fun p=>decide (0≤p∧p<(P.length:Int))) then kk ((i+1:Nat):Int) else some false
 | 0,k,h,hk=>by omega
 | n+1,k,h,hk=>by
  rw [Zbb.eq_2,Z7 hi,Option.bind_some]
  by_cases hlt:k<P[i].length
  ·rw [if_pos (by simpa using hlt),Z7 hlt,Option.bind_some,Zhe,Zhe,wS (by omega),Zsm N P i hi hP hl kk n (k+1) (by omega) (by omega),List.drop_eq_getElem_cons hlt]
   by_cases h1:P[i][k]<0
   ·rw [if_pos (by simpa using h1),if_pos rfl,if_neg (fun h=>by rw [List.all_cons,Bool.and_eq_true,decide_eq_true_eq] at h;omega)]
   ·rw [if_neg (by simpa using h1)]
    by_cases h2:(P.length:Int)≤P[i][k]
    ·rw [if_pos (by simpa using h2),if_neg (fun h=>by rw [List.all_cons,Bool.and_eq_true,decide_eq_true_eq] at h;omega)]
    ·rw [if_neg (by simpa using h2)]
     simp only [List.all_cons,Bool.and_eq_true]
     have h3:decide (0≤P[i][k]∧P[i][k]<(P.length:Int))=true:=by simp;omega
     simp only [h3,true_and]
  ·rw [if_neg (by simpa using hlt),List.drop_eq_nil_of_le (by omega),wS (by omega)];simp
theorem Zsl (N:Nat) (P:List R2) (hP:P.length≤1048576) (hl:∀ l ∈ P,l.length≤1048576) (hN:1048576<N):∀ (n i:Nat),P.length<n+i→i≤P.length→
  Zad N P n (i:Int)=some (Ul P.length (P.drop i))
 | 0,i,h,hi=>by omega
 | n+1,i,h,hi=>by
  rw [Zad.eq_2]
  by_cases hlt:i<P.length
  ·have h0:=Zsm N P i hlt hP (hl _ (List.getElem_mem hlt)) (Zad N P n) N 0 (by have:=hl _ (List.getElem_mem hlt);omega) (by omega)
   rw [if_pos (by simpa using hlt)]
   rw [show (0:Int)=((0:Nat):Int) from rfl,h0,Zsl N P hP hl hN n (i+1) (by omega) (by omega),List.drop_eq_getElem_cons hlt]
   simp only [Ul,List.all_cons,List.drop_zero]
   by_cases h1:(P[i].all fun p=>decide (0≤p∧p<(P.length:Int)))=true
   ·rw [if_pos h1,h1,Bool.true_and]
   ·rw [if_neg h1,Bool.eq_false_iff.2 h1,Bool.false_and]
  ·rw [if_neg (by simpa using hlt),List.drop_eq_nil_of_le (by omega)];rfl
theorem Z1m {N:Nat} {P:List R2} (hP:P.length≤1048576) (hl:∀ l ∈ P,l.length≤1048576) (hN:1048576<N):Zhd N P=some (Ul P.length P):=by
 rw [Zhd];simpa using Zsl N P hP hl hN N 0 (by omega) (by omega)
def Ta (P:List R2):Bool:=P.any fun l=>!decide l.Nodup
theorem Zt5 (l:List Int) (k:Nat) (hk:k<l.length):(l.take (k+1)).Nodup↔(l.take k).Nodup∧l[k] ∉ l.take k:=by
 rw [List.take_succ_eq_append_getElem hk,List.nodup_append]
 simp only [List.nodup_cons,List.not_mem_nil,not_false_eq_true,List.nodup_nil,and_self,List.mem_singleton,true_and]
 constructor
 ·rintro ⟨h1,h2⟩;exact ⟨h1,fun h=>h2 _ h _ rfl rfl⟩
 ·rintro ⟨h1,h2⟩;exact ⟨h1,fun a ha b hb e=>h2 (by rw [← hb,← e];exact ha)⟩
theorem Zxm (N:Nat) (P:List R2) (i:Nat) (hi:i<P.length) (hP:P.length≤1048576) (hl:P[i].length≤1048576) (hN:1048576<N) (kk:Int→Option Bool):∀ (n k:Nat),P[i].length<n+k→k≤P[i].length→(P[i].take k).Nodup→
  Zek N P (i:Int) kk n (k:Int)=if P[i].Nodup then kk ((i+1:Nat):Int) else some true
 | 0,k,h,hk,_=>by omega
 | n+1,k,h,hk,hnd=>by
  rw [Zek.eq_2,Z7 hi,Option.bind_some]
  by_cases hlt:k<P[i].length
  ·rw [if_pos (by simpa using hlt),Z9 (by omega),Z7 hlt,Option.bind_some,Znc (by simp;omega) hN,Option.bind_some,Int.toNat_natCast]
   by_cases h1:P[i][k] ∈ P[i].take k
   ·rw [if_pos (by simpa using h1),if_neg]
    intro h2
    exact ((Zt5 _ k hlt).1 (h2.sublist (List.take_sublist _ _))).2 h1
   ·rw [if_neg (by simpa using h1),wS (by omega)]
    exact Zxm N P i hi hP hl hN kk n (k+1) (by omega) (by omega) ((Zt5 _ k hlt).2 ⟨hnd,h1⟩)
  ·rw [if_neg (by simpa using hlt),wS (by omega)]
   rw [List.take_of_length_le (by omega)] at hnd
   rw [if_pos hnd]
theorem Zxl (N:Nat) (P:List R2) (hP:P.length≤1048576) (hl:∀ l ∈ P,l.length≤1048576) (hN:1048576<N):∀ (n i:Nat),P.length<n+i→i≤P.length→
  Zbd N P n (i:Int)=some (Ta (P.drop i))
 | 0,i,h,hi=>by omega
 | n+1,i,h,hi=>by
  rw [Zbd.eq_2]
  by_cases hlt:i<P.length
  ·have h0:=Zxm N P i hlt hP (hl _ (List.getElem_mem hlt)) hN (Zbd N P n) N 0 (by have:=hl _ (List.getElem_mem hlt);omega) (by omega) (by simp)
   rw [if_pos (by simpa using hlt)]
   rw [show (0:Int)=((0:Nat):Int) from rfl,h0,Zxl N P hP hl hN n (i+1) (by omega) (by omega),List.drop_eq_getElem_cons hlt]
   simp only [Ta,List.any_cons]
   by_cases h1:P[i].Nodup
   ·rw [if_pos h1];simp [h1]
   ·rw [if_neg h1];simp [h1]
  ·rw [if_neg (by simpa using hlt),List.drop_eq_nil_of_le (by omega)];rfl
theorem Z4r {N:Nat} {P:List R2} (hP:P.length≤1048576) (hl:∀ l ∈ P,l.length≤1048576) (hN:1048576<N):Zhh N P=some (Ta P):=by
 rw [Zhh];simpa using Zxl N P hP hl hN N 0 (by omega) (by omega)
def U9 (P:List R2):Nat:=(P.map List.length).sum
theorem Zkq (l:List Int) (P:List R2):U9 (l :: P)=l.length+U9 P:=by simp [U9]
theorem Zm5 {l:List Int}:∀ {P:List R2},l ∈ P→l.length≤U9 P
 | x :: P,h=>by
  rw [Zkq]
  rcases List.mem_cons.1 h with rfl | h
  ·omega
  ·have:=Zm5 h;omega
def Zn5:Nat→List R2→List (Int×Int)
 | _,[]=>[]
 | k,l :: P=>l.map (fun p=>(p,(k:Int)))++Zn5 (k+1) P
theorem Z0q:∀ (k:Nat) (P:List R2),(Zn5 k P).length=U9 P
 | _,[]=>rfl
 | k,l :: P=>by rw [Zn5,List.length_append,List.length_map,Z0q,Zkq]
def Tm (P:List R2) (l:List Int) (i:Nat):Bool:=!decide ((i:Int) ∈ l)&&(P.getD i []).all fun p=>decide (p ∈ l)
def W9 (P:List R2) (l:List Int) (i:Nat):Option Nat:=(List.range' i (P.length - i)).find? (Tm P l)
theorem Z2q (P:List R2) (l:List Int) (i:Nat) (h:P.length≤i):W9 P l i=none:=by
 rw [W9,Nat.sub_eq_zero_of_le h];rfl
theorem Z2s (P:List R2) (l:List Int) (i:Nat) (h:i<P.length):W9 P l i=if Tm P l i then some i else W9 P l (i+1):=by
 rw [W9,W9,show P.length - i=(P.length - (i+1))+1 by omega,List.range'_succ,List.find?_cons]
 cases Tm P l i <;> simp
section
variable (N:Nat) (P:List R2) (l:List Int)
theorem Zov (hP:P.length≤1048576) (hl:l.length≤1048576) (hN:1048576<N) (next:Int) (i:Nat) (hi:i<P.length) (hli:P[i].length≤1048576) (kk:Int→Int→Option R2):∀ (n:Nat) (b:Bool) (k:Nat),P[i].length<n+k→k≤P[i].length→
  Zbc N P l next (i:Int) kk n b (k:Int)=kk (if (b&&(P[i].drop k).all fun p=>decide (p ∈ l))=true then (i:Int) else next) ((i+1:Nat):Int)
 | 0,b,k,h,hk=>by omega
 | n+1,b,k,h,hk=>by
  rw [Zbc.eq_2,Z7 hi,Option.bind_some]
  by_cases hlt:k<P[i].length
  ·rw [if_pos (by simpa using hlt),Z7 hlt,Option.bind_some,Znc hl hN,Option.bind_some,Zhg,Zhg,wS (by omega),Zov hP hl hN next i hi hli kk n _ (k+1) (by omega) (by omega),Zov hP hl hN next i hi hli kk n _ (k+1) (by omega) (by omega),List.drop_eq_getElem_cons hlt,List.all_cons]
   cases b
   ·rw [if_neg (by decide),Bool.false_and,Bool.false_and]
   ·rw [if_pos rfl,Bool.true_and]
  ·rw [if_neg (by simpa using hlt),List.drop_eq_nil_of_le (by omega),Zhf,Zhf,wS (by omega),List.all_nil,Bool.and_true]
   cases b
   ·rw [if_neg (by decide),if_neg (by decide)]
   ·rw [if_pos rfl,if_pos rfl]
def Zus (kk:List Int→Option R2):Option Nat→Option R2
 | none=>some l
 | some i=>kk (l++[(i:Int)])
theorem Zug (hl:l.length<1048576) (kk:List Int→Option R2) (i:Nat) (i':Int) (kk2:Int→Int→Option R2):Zcr N P l kk (i:Int) i' kk2 false=kk (l++[(i:Int)]):=by
 rw [Zcr,if_neg (by decide),if_neg (by rw [decide_eq_true_eq];omega),Z9 (by simp only [List.length_cons,List.length_nil,maxLen];omega)]
theorem Zuf (hP:P.length≤1048576) (hls:∀ x ∈ P,x.length≤1048576) (hl:l.length<1048576) (hN:1048576<N) (kk:List Int→Option R2):∀ (n i:Nat),P.length<n+i→i≤P.length→
  Tj N P l kk n (-1) (i:Int)=Zus l kk (W9 P l i)
 | 0,i,h,hi=>by omega
 | n+1,i,h,hi=>by
  rw [Tj.eq_2]
  by_cases hlt:i<P.length
  ·have h3:=Zov N P l hP (by omega) hN (-1) i hlt (hls _ (List.getElem_mem hlt)) (Tj N P l kk n) N (!decide ((i:Int) ∈ l)) 0 (by have:=hls _ (List.getElem_mem hlt);omega) (by omega)
   rw [if_pos (by simpa using hlt),Zcr,if_pos (by decide),Znc (by omega) hN,Option.bind_some]
   rw [show (0:Int)=((0:Nat):Int) from rfl,h3,Z2s P l i hlt,List.drop_zero]
   have hb:(!decide ((i:Int) ∈ l)&&P[i].all fun p=>decide (p ∈ l))=Tm P l i:=by
    rw [Tm,List.getD_eq_getElem?_getD,List.getElem?_eq_getElem hlt];rfl
   rw [hb]
   by_cases hr:Tm P l i=true
   ·rw [if_pos hr,if_pos hr]
    match n,h with
    | 0,h=>omega
    | n+1,h=>
     rw [Tj.eq_2]
     by_cases h2:i+1<P.length
     ·rw [if_pos (decide_eq_true (by omega)),show decide ((i:Int)<0)=false from decide_eq_false (by omega)]
      exact Zug N P l hl kk i _ _
     ·rw [if_neg (by rw [decide_eq_true_eq];omega)]
      exact Zug N P l hl kk i _ _
   ·rw [if_neg hr,if_neg hr]
    exact Zuf hP hls hl hN kk n (i+1) (by omega) (by omega)
  ·rw [if_neg (by simpa using hlt),Z2q P l i (by omega),Zcr,if_neg (by decide),if_pos (by decide)];rfl
end
theorem Zow {N:Nat} {P:List R2} {l:List Int} (hP:P.length≤1048576) (hls:∀ x ∈ P,x.length≤1048576) (hl:l.length<1048576) (hN:1048576<N) (n:Nat):
  Uc N P (n+1) l=Zus l (Uc N P n) (W9 P l 0):=by
 rw [Uc.eq_2]
 exact Zuf N P l hP hls hl hN _ N 0 (by omega) (by omega)
theorem Zor {P:List R2} {l:List Int} {i j:Nat} (h:W9 P l i=some j):i≤j∧j<P.length∧Tm P l j=true∧∀ k,i≤k→k<j→Tm P l k=false:=by
 rw [W9,List.find?_range'_eq_some] at h
 obtain ⟨h1,h2,h3⟩:=h
 rw [List.mem_range'] at h2
 obtain ⟨q,h4,h5⟩:=h2
 refine ⟨by omega,by omega,h1,fun k hk1 hk2=>?_⟩
 have:=h3 k hk1 hk2
 simpa using this
theorem Z2r {P:List R2} {l:List Int} {i:Nat} (h:W9 P l i=none):∀ k,i≤k→k<P.length→Tm P l k=false:=by
 rw [W9,List.find?_eq_none] at h
 intro k hk1 hk2
 have:=h k (by rw [List.mem_range'];exact ⟨k - i,by omega,by omega⟩)
 simpa using this
theorem Zvs {P:List R2} {l:List Int} {i:Nat} (hi:i<P.length):Tm P l i=true↔(i:Int) ∉ l∧∀ p ∈ P[i],p ∈ l:=by
 rw [Tm,List.getD_eq_getElem?_getD,List.getElem?_eq_getElem hi]
 simp
def U2 (P:List R2) (l:List Int):Prop:=l.Nodup∧(∀ x ∈ l,0≤x∧x<(P.length:Int))∧∀ (i:Nat) (hi:i<P.length),(i:Int) ∈ l→∀ p ∈ P[i],p ∈ l
theorem U2.len {P:List R2} {l:List Int} (h:U2 P l):l.length≤P.length:=by
 have h1:=Zkd (r:=(List.range P.length).map fun i:Nat=>(i:Int)) h.1 fun x hx=>by
  have:=h.2.1 x hx
  exact List.mem_map.2 ⟨x.toNat,List.mem_range.2 (by omega),by omega⟩
 simpa using h1
theorem U2.step {P:List R2} {l:List Int} {j:Nat} (h:U2 P l) (hn:W9 P l 0=some j):U2 P (l++[(j:Int)])∧l.length<P.length:=by
 obtain ⟨_,h2,h3,_⟩:=Zor hn
 obtain ⟨h4,h5⟩:=(Zvs h2).1 h3
 have h6:U2 P (l++[(j:Int)]):=by
  refine ⟨?_,?_,?_⟩
  ·rw [List.nodup_append]
   refine ⟨h.1,by simp,fun a ha b hb e=>?_⟩
   rw [List.mem_singleton] at hb;subst hb;subst e;exact h4 ha
  ·intro x hx
   rcases List.mem_append.1 hx with hx | hx
   ·exact h.2.1 x hx
   ·rw [List.mem_singleton] at hx;omega
  ·intro i hi hm p hp
   rcases List.mem_append.1 hm with hm | hm
   ·exact List.mem_append_left _ (h.2.2 i hi hm p hp)
   ·rw [List.mem_singleton] at hm
    have:i=j:=by omega
    subst this
    exact List.mem_append_left _ (h5 p hp)
 exact ⟨h6,by have:=h6.len;rw [List.length_append,List.length_cons,List.length_nil] at this;omega⟩
theorem Zuh {N:Nat} {P:List R2} (hP:P.length<1048576) (hls:∀ x ∈ P,x.length≤1048576) (hN:1048576<N):∀ (n:Nat) (l:List Int),U2 P l→P.length<n+l.length→
  ∃ r,Uc N P n l=some r∧U2 P r∧W9 P r 0=none
 | 0,l,h,hn=>by have:=h.len;omega
 | n+1,l,h,hn=>by
  have hl:=h.len
  rw [Zow (by omega) hls (by omega) hN]
  cases hnx:W9 P l 0 with
  | none=>exact ⟨l,rfl,h,hnx⟩
  | some j=>
   obtain ⟨h1,h2⟩:=h.step hnx
   exact Zuh hP hls hN n _ h1 (by simp;omega)
theorem Z22 {N:Nat} {P:List R2} (hP:P.length<1048576) (hls:∀ x ∈ P,x.length≤1048576) (hN:1048576<N):∃ r,Ti N P=some r∧U2 P r∧W9 P r 0=none:=by
 rw [Ti]
 exact Zuh hP hls hN N [] ⟨.nil,by simp,by simp⟩ (by simp;omega)
def gD (h:List Int) (j:Nat):Int:=h.getD j 0
theorem S7 {h:List Int} {j:Nat} (hj:j<h.length):gD h j=h[j]:=by rw [gD,List.getD_eq_getElem?_getD,List.getElem?_eq_getElem hj];rfl
theorem Qr {h:List Int} {j:Nat} (hj:j<h.length):Zo h (j:Int)=some (gD h j):=by rw [Z7 hj,S7 hj]
def Tn (h:List Int) (i p:Nat):List Int:=(h.set i (gD h p)).set p (gD h i)
theorem Zkp (h:List Int) (i p:Nat):(Tn h i p).length=h.length:=by simp [Tn]
theorem Zxa {h:List Int} {i p:Nat} (hi:i<h.length) (hp:p<h.length):(Tn h i p).Perm h:=by
 rw [Tn,S7 hi,S7 hp];exact List.set_set_perm hi hp
theorem Zlm (h:List Int) (i j:Nat) (x:Int) (hi:i<h.length):gD (h.set i x) j=if j=i then x else gD h j:=by
 rw [gD,gD,List.getD_eq_getElem?_getD,List.getD_eq_getElem?_getD,List.getElem?_set]
 by_cases h1:i=j
 ·subst h1;rw [if_pos rfl,if_pos hi,if_pos rfl];rfl
 ·rw [if_neg h1,if_neg (Ne.symm h1)]
theorem Zbz {h:List Int} {i p:Nat} (hi:i<h.length) (hp:p<h.length) (j:Nat):gD (Tn h i p) j=if j=p then gD h i else if j=i then gD h p else gD h j:=by
 rw [Tn,Zlm _ _ _ _ (by simpa using hp),Zlm _ _ _ _ hi]
def Sb (h:List Int) (n:Nat):Prop:=∀ j,0<j→j<n→gD h ((j - 1) / 2)≤gD h j
theorem Sb.min {h:List Int} {n:Nat} (hh:Sb h n):∀ j,j<n→gD h 0≤gD h j:=by
 intro j
 induction j using Nat.strongRecOn with
 | ind j ih=>
  intro hj
  by_cases h0:j=0
  ·subst h0;exact Int.le_refl _
  ·exact Int.le_trans (ih ((j - 1) / 2) (by omega) (by omega)) (hh j (by omega) hj)
/-! ### push -/
def Zk1 (h:List Int) (i:Nat):Prop:=(∀ j,0<j→j<h.length→j≠i→gD h ((j - 1) / 2)≤gD h j)∧∀ j,0<j→j<h.length→(j - 1) / 2=i→0<i→gD h ((i - 1) / 2)≤gD h j
theorem Zk1.step {h:List Int} {i:Nat} (hu:Zk1 h i) (hi:i<h.length) (h0:0<i) (hlt:gD h i<gD h ((i - 1) / 2)):Zk1 (Tn h i ((i - 1) / 2)) ((i - 1) / 2):=by
 have hp:(i - 1) / 2<h.length:=by omega
 refine ⟨fun j hj0 hj hjp=>?_,fun j hj0 hj hjp hp0=>?_⟩
 ·rw [Zkp] at hj
  rw [Zbz hi hp,Zbz hi hp,if_neg hjp]
  by_cases hji:j=i
  ·subst hji;rw [if_pos rfl,if_pos rfl];omega
  ·rw [if_neg hji]
   have h1:=hu.1 j hj0 hj hji
   by_cases hq:(j - 1) / 2=(i - 1) / 2
   ·rw [if_pos hq];rw [hq] at h1;omega
   ·rw [if_neg hq]
    by_cases hq2:(j - 1) / 2=i
    ·rw [if_pos hq2];exact hu.2 j hj0 hj hq2 h0
    ·rw [if_neg hq2];exact h1
 ·rw [Zkp] at hj
  rw [Zbz hi hp,Zbz hi hp,if_neg (by omega),if_neg (by omega),if_neg (by omega)]
  have h1:=hu.1 ((i - 1) / 2) hp0 hp (by omega)
  by_cases hji:j=i
  ·rw [if_pos hji];exact h1
  ·rw [if_neg hji]
   have h2:=hu.1 j hj0 hj hji
   rw [hjp] at h2;omega
theorem Zum {i:Nat} (h0:0<i) (h1:i≤9000000):i64.wrap (Int.tdiv (i64.wrap ((i:Int) - 1)) 2)=(((i - 1) / 2:Nat):Int):=by
 rw [Zt (x:=(i:Int) - 1) (by omega),Int.tdiv_eq_ediv_of_nonneg (by omega),Zt (by omega)];omega
theorem Zuq (N:Nat):∀ (n:Nat) (h:List Int) (i:Nat),i<n→i<h.length→h.length≤9000000→Zk1 h i→
  ∃ h',Zar N n h (i:Int)=some h'∧h'.Perm h∧Sb h' h'.length
 | 0,h,i,hn,_,_,_=>by omega
 | n+1,h,i,hn,hi,hl,hu=>by
  rw [Zar.eq_2]
  by_cases h0:0<i
  ·have hp:(i - 1) / 2<h.length:=by omega
   rw [if_pos (decide_eq_true (by omega)),Qr hi,Option.bind_some,Zum h0 (by omega),Qr hp,Option.bind_some,Zf8,Zum h0 (by omega)]
   by_cases hlt:gD h i<gD h ((i - 1) / 2)
   ·obtain ⟨h',h1,h2,h3⟩:=Zuq N n (Tn h i ((i - 1) / 2)) ((i - 1) / 2) (by omega) (by rw [Zkp];exact hp) (by rw [Zkp];exact hl) (hu.step hi h0 hlt)
    refine ⟨h',?_,h2.trans (Zxa hi hp),h3⟩
    rw [if_pos (decide_eq_true hlt),Qr hp,Option.bind_some,Qr hi,Option.bind_some,Option.bind_some,Int.toNat_natCast,Int.toNat_natCast,Z7 (by simpa using hp),Option.bind_some,Option.bind_some]
    exact h1
   ·refine ⟨h,by rw [if_neg (by simpa using hlt)],.refl _,fun j hj0 hj=>?_⟩
    by_cases hji:j=i
    ·subst hji;omega
    ·exact hu.1 j hj0 hj hji
  ·have:i=0:=by omega
   subst this
   rw [if_neg (by decide),Zf8,if_neg (by decide)]
   exact ⟨h,rfl,.refl _,fun j hj0 hj=>hu.1 j hj0 hj (by omega)⟩
theorem Zsf {h:List Int} {x:Int} {j:Nat} (hj:j<h.length):gD (h++[x]) j=gD h j:=by
 rw [S7 hj,S7 (by simp;omega),List.getElem_append_left hj]
theorem Zur {N:Nat} {h:List Int} (x:Int) (hl:h.length<2000000) (hh:Sb h h.length) (hN:2000000<N):∃ h',Zf7 N h x=some h'∧h'.Perm (x :: h)∧Sb h' h'.length:=by
 rw [Zf7,Z9 (by simp only [List.length_cons,List.length_nil,maxLen];omega)]
 have hle:(h++[x]).length=h.length+1:=by simp
 rw [Zt (by omega),show (((h++[x]).length:Int) - 1)=((h.length:Nat):Int) by omega]
 obtain ⟨h',h1,h2,h3⟩:=Zuq N N (h++[x]) h.length (by omega) (by omega) (by omega) ⟨fun j hj0 hj hji=>by rw [Zsf (by omega),Zsf (by omega)];exact hh j hj0 (by omega),fun j hj0 hj hji h0=>by omega⟩
 exact ⟨h',h1,h2.trans (List.perm_append_singleton x h),h3⟩
/-! ### pop -/
def Zik (l:List Int) (n i:Nat):Prop:=(∀ j,0<j→j<n→(j - 1) / 2≠i→gD l ((j - 1) / 2)≤gD l j)∧∀ j,0<j→j<n→(j - 1) / 2=i→0<i→gD l ((i - 1) / 2)≤gD l j
theorem Zik.step {l:List Int} {n i q:Nat} (hu:Zik l n i) (hn:n≤l.length) (hi:i<n) (hq:q<n) (hqi:(q - 1) / 2=i) (hq0:0<q) (hlt:gD l q<gD l i) (hle:∀ j,0<j→j<n→(j - 1) / 2=i→gD l q≤gD l j):Zik (Tn l i q) n q:=by
 have hi':i<l.length:=by omega
 have hq':q<l.length:=by omega
 refine ⟨fun j hj0 hj hjp=>?_,fun j hj0 hj hjp _=>?_⟩
 ·rw [Zbz hi' hq',Zbz hi' hq',if_neg hjp]
  by_cases h1:(j - 1) / 2=i
  ·rw [if_pos h1]
   by_cases h2:j=q
   ·rw [if_pos h2];omega
   ·rw [if_neg h2,if_neg (by omega)];exact hle j hj0 hj h1
  ·rw [if_neg h1,if_neg (show j≠q by omega)]
   by_cases h2:j=i
   ·subst h2
    rw [if_pos rfl];exact hu.2 q hq0 hq hqi hj0
   ·rw [if_neg h2];exact hu.1 j hj0 hj h1
 ·rw [Zbz hi' hq',Zbz hi' hq',hqi,if_neg (by omega),if_pos rfl,if_neg (by omega),if_neg (by omega)]
  have:=hu.1 j hj0 hj (by omega)
  rwa [hjp] at this
theorem Z4q {l:List Int} {n i q:Nat} (hn:n≤l.length) (hi:i<n) (hq:q<n):(Tn l i q).take n=Tn (l.take n) i q:=by
 have h1:∀ j,j<n→gD (l.take n) j=gD l j:=fun j hj=>by rw [S7 (by simp;omega),S7 (by omega),List.getElem_take]
 rw [Tn,Tn,List.take_set,List.take_set,h1 i hi,h1 q hq]
theorem Zuo (N:Nat) (p0:List Int) (x0:Int) (n:Nat) (hp0:p0.length=n+1) (hn:n≤2000000) (hN:2000000<N):∀ (m:Nat) (l:List Int) (i:Nat),n<m+i→(i<n∨n=0∧i=0)→l.length=n+1→Zik l n i→
  ∃ t,Sj N p0 x0 m l (i:Int)=some (x0,t)∧t.Perm (l.take n)∧Sb t n
 | 0,l,i,hm,hi,hl,hu=>by omega
 | m+1,l,i,hm,hi,hl,hu=>by
  rw [Sj.eq_2]
  obtain ⟨N,rfl⟩:∃ N',N=N'+1+1+1:=⟨N - 3,by omega⟩
  have w1:i64.wrap ((p0.length:Int) - 1)=(n:Int):=by rw [Zt (by omega)];omega
  have wa:i64.wrap (i64.wrap (2 * (i:Int))+1)=((2 * i+1:Nat):Int):=by rw [Zt (x:=2 * (i:Int)) (by omega),Zt (by omega)];omega
  have wb:i64.wrap (i64.wrap (2 * (i:Int))+2)=((2 * i+2:Nat):Int):=by rw [Zt (x:=2 * (i:Int)) (by omega),Zt (by omega)];omega
  -- one child after the other
  have stepv:∀ (v:Nat) (k least:Nat),v<2→k=2 * i+1+v→(least<n∨n=0)→least<l.length→∀ f kk,Sk (N+1+1+1) p0 x0 l (i:Int) kk (f+1) (v:Int) (least:Int)=
    Sk (N+1+1+1) p0 x0 l (i:Int) kk f ((v+1:Nat):Int) ((if k<n∧gD l k<gD l least then k else least:Nat):Int):=by
   intro v k least hv hk hle hll f kk
   rw [Sk.eq_2,if_pos (decide_eq_true (by omega)),wa,wb,w1]
   have hat:Zo [((2 * i+1:Nat):Int),((2 * i+2:Nat):Int)] (v:Int)=some (k:Int):=by
    rw [Us]
    match v,hv with
    | 0,_=>simp [hk]
    | 1,_=>simp [hk];omega
   rw [hat,Option.bind_some]
   by_cases h1:k<n
   ·rw [if_pos (decide_eq_true (by omega)),Qr (by omega),Option.bind_some,Qr hll,Option.bind_some,Zf6,Zb4,Zb4,wS (by omega)]
    by_cases h2:gD l k<gD l least
    ·rw [if_pos (decide_eq_true h2),if_pos ⟨h1,h2⟩]
    ·rw [if_neg (by simpa using h2),if_neg (fun h=>h2 h.2)]
   ·rw [if_neg (by rw [decide_eq_true_eq];omega),Zf6,Zb4,Zb4,if_neg (by decide),wS (by omega),if_neg (fun h=>h1 h.1)]
  have hil:i<l.length:=by omega
  have e1:=stepv 0 (2 * i+1) i (by omega) (by omega) (by omega) hil (N+1+1) (Sj (N+1+1+1) p0 x0 m)
  generalize hq1:(if 2 * i+1<n∧gD l (2 * i+1)<gD l i then 2 * i+1 else i)=q1 at e1
  have hq1':(q1=i∧(2 * i+1<n→gD l i≤gD l (2 * i+1)))∨(q1=2 * i+1∧q1<n∧gD l q1<gD l i):=by
   by_cases hc:2 * i+1<n∧gD l (2 * i+1)<gD l i
   ·rw [if_pos hc] at hq1;subst hq1;exact .inr ⟨rfl,hc.1,hc.2⟩
   ·rw [if_neg hc] at hq1;subst hq1;exact .inl ⟨rfl,fun h=>by omega⟩
  have e2:=stepv 1 (2 * i+2) q1 (by omega) (by omega) (by omega) (by omega) (N+1) (Sj (N+1+1+1) p0 x0 m)
  generalize hq2:(if 2 * i+2<n∧gD l (2 * i+2)<gD l q1 then 2 * i+2 else q1)=q2 at e2
  have hq2':(q2=i∧(2 * i+1<n→gD l i≤gD l (2 * i+1))∧(2 * i+2<n→gD l i≤gD l (2 * i+2)))∨((q2=2 * i+1∨q2=2 * i+2)∧q2<n∧gD l q2<gD l i∧(2 * i+1<n→gD l q2≤gD l (2 * i+1))∧(2 * i+2<n→gD l q2≤gD l (2 * i+2))):=by
   by_cases hc:2 * i+2<n∧gD l (2 * i+2)<gD l q1
   ·rw [if_pos hc] at hq2;subst hq2
    rcases hq1' with ⟨rfl,h3⟩ | ⟨rfl,h3,h4⟩
    ·exact .inr ⟨.inr rfl,hc.1,hc.2,fun h=>by have:=h3 h;omega,fun _=>Int.le_refl _⟩
    ·exact .inr ⟨.inr rfl,hc.1,by omega,fun _=>by omega,fun _=>Int.le_refl _⟩
   ·rw [if_neg hc] at hq2;subst hq2
    rcases hq1' with ⟨rfl,h3⟩ | ⟨rfl,h3,h4⟩
    ·exact .inl ⟨rfl,h3,fun h=>by omega⟩
    ·exact .inr ⟨.inl rfl,h3,h4,fun _=>Int.le_refl _,fun h=>by omega⟩
  rw [show (0:Int)=((0:Nat):Int) from rfl,e1]
  rw [show ((0+1:Nat):Int)=((1:Nat):Int) from rfl,e2,Sk.eq_2,if_neg (by decide),w1,Int.toNat_natCast]
  rcases hq2' with ⟨rfl,h3,h4⟩ | ⟨h2,h3,h4,h5,h6⟩
  ·rw [if_pos (by simp)]
   refine ⟨_,rfl,.refl _,fun j hj0 hj=>?_⟩
   have ht:∀ k,k<n→gD (l.take n) k=gD l k:=fun k hk=>by rw [S7 (by simp;omega),S7 (by omega),List.getElem_take]
   rw [ht _ (by omega),ht _ hj]
   by_cases hq:(j - 1) / 2=q2
   ·rw [hq]
    rcases (show j=2 * q2+1∨j=2 * q2+2 by omega) with rfl | rfl
    ·exact h3 hj
    ·exact h4 hj
   ·exact hu.1 j hj0 hj hq
  ·have hq2l:q2<l.length:=by omega
   have hin:i<n:=by omega
   have hd:=hu.step (by omega) hin h3 (by omega) (by omega) h4 (fun j hj0 hj hji=>by
    rcases (show j=2 * i+1∨j=2 * i+2 by omega) with rfl | rfl
    ·exact h5 hj
    ·exact h6 hj)
   obtain ⟨t,k1,k2,k3⟩:=Zuo (N+1+1+1) p0 x0 n hp0 hn hN m (Tn l i q2) q2 (by omega) (.inl h3) (by rw [Zkp];exact hl) hd
   refine ⟨t,?_,k2.trans ?_,k3⟩
   ·rw [if_neg (by simp;omega),Qr hq2l,Option.bind_some,Qr hil,Option.bind_some,Option.bind_some,Int.toNat_natCast,Int.toNat_natCast,Z7 (by simpa using hq2l),Option.bind_some,Option.bind_some]
    exact k1
   ·rw [Z4q (by omega) hin h3];exact Zxa (by simp;omega) (by simp;omega)
theorem Z24 {N:Nat} {h:List Int} (hl:h.length≤2000000) (h0:0<h.length) (hh:Sb h h.length) (hN:2000000<N):∃ x t,Zi6 N h=some (x,t)∧h.Perm (x :: t)∧(∀ y ∈ h,x≤y)∧Sb t t.length:=by
 rw [Zi6]
 obtain ⟨n,hn⟩:∃ n,h.length=n+1:=⟨h.length - 1,by omega⟩
 have w1:i64.wrap ((h.length:Int) - 1)=(n:Int):=by rw [Zt (by omega)];omega
 rw [w1,show (0:Int)=((0:Nat):Int) from rfl,Qr h0,Option.bind_some,Qr (by omega),Option.bind_some,Option.bind_some,Z9 (by simp;omega),Int.toNat_natCast]
 have hd:Zik (h.set 0 (gD h n)) n 0:=by
  refine ⟨fun j hj0 hj hji=>?_,fun j _ _ _ h=>by omega⟩
  rw [Zlm _ _ _ _ h0,Zlm _ _ _ _ h0,if_neg (by omega),if_neg (by omega)]
  exact hh j hj0 (by omega)
 obtain ⟨t,h1,h2,h3⟩:=Zuo N h (gD h 0) n hn (by omega) hN N (h.set 0 (gD h n)) 0 (by omega) (by omega) (by simpa using hn) hd
 have hpm:h.Perm (gD h 0 :: (h.set 0 (gD h n)).take n):=by
  match h,hn with
  | x :: r,hn=>
   have hr:r.length=n:=by simpa using hn
   match n,hr with
   | 0,hr=>rw [List.length_eq_zero_iff.1 hr];exact .refl _
   | n+1,hr=>
    have e:gD (x :: r) (n+1)=gD r n:=rfl
    rw [e,List.set_cons_zero,List.take_succ_cons]
    refine List.Perm.cons x ?_
    have:r=r.take n++[gD r n]:=by
     have:=List.take_succ_eq_append_getElem (show n<r.length by omega)
     rw [List.take_of_length_le (by omega)] at this
     rw [S7 (by omega)];exact this
    conv=>lhs;rw [this]
    exact List.perm_append_singleton _ _
 have hp2:h.Perm (gD h 0 :: t):=hpm.trans (List.Perm.cons _ h2.symm)
 refine ⟨gD h 0,t,h1,hp2,fun y hy=>?_,?_⟩
 ·obtain ⟨j,hj,rfl⟩:=List.getElem_of_mem hy
  rw [← S7 hj];exact hh.min j hj
 ·have:=hp2.length_eq
  rw [List.length_cons,hn] at this
  rw [show t.length=n by omega];exact h3
theorem Yp {α:Type} {l:List α} {d:α} {j:Nat} (hj:j<l.length):l.getD j d=l[j]:=by rw [List.getD_eq_getElem?_getD,List.getElem?_eq_getElem hj];rfl
theorem Vl {α:Type} {l:List α} (d:α) {j:Nat} (hj:j<l.length):Zo l (j:Int)=some (l.getD j d):=by rw [Z7 hj,Yp hj]
theorem Tv {α:Type} (l:List α) (d:α) (i j:Nat) (x:α) (hi:i<l.length):(l.set i x).getD j d=if j=i then x else l.getD j d:=by
 rw [List.getD_eq_getElem?_getD,List.getD_eq_getElem?_getD,List.getElem?_set]
 by_cases h1:i=j
 ·subst h1;rw [if_pos rfl,if_pos hi,if_pos rfl];rfl
 ·rw [if_neg h1,if_neg (Ne.symm h1)]
def V8:Nat→List R2→Int→List Int
 | _,[],_=>[]
 | k,l :: P,p=>List.replicate (l.count p) (k:Int)++V8 (k+1) P p
def Zkv (n:Nat) (l:List Int):Prop:=∀ x ∈ l,0≤x∧x<(n:Int)
theorem Zq9 (k:Nat) (kk:Nat→List R2→Option Ra):∀ (l:List Int) (out:List R2),Zkv out.length l→(∀ p:Nat,(out.getD p []).length+l.length≤1048576)→
  ∃ out',Zb2 k kk l out=kk (k+1) out'∧out'.length=out.length∧∀ p:Nat,p<out.length→out'.getD p []=out.getD p []++List.replicate (l.count (p:Int)) (k:Int)
 | [],out,h,hb=>⟨out,by rw [Zb2.eq_1],rfl,fun p hp=>by simp⟩
 | x :: l,out,h,hb=>by
  obtain ⟨h0,h1⟩:=h x List.mem_cons_self
  obtain ⟨q,rfl⟩:=Int.eq_ofNat_of_zero_le h0
  have hq:q<out.length:=by omega
  have hbq:=hb q
  simp only [List.length_cons] at hbq hb
  rw [Zb2.eq_2,Vl [] hq,Option.bind_some,Z9 (by simp only [List.length_cons,List.length_nil,maxLen];omega),Int.toNat_natCast]
  obtain ⟨out',h2,h3,h4⟩:=Zq9 k kk l (out.set q (out.getD q []++[(k:Int)])) (by rw [List.length_set];exact fun y hy=>h y (List.mem_cons_of_mem _ hy)) (fun p=>by
   rw [Tv _ _ _ _ _ hq]
   have:=hb p
   split
   ·simp only [List.length_append,List.length_cons,List.length_nil];omega
   ·omega)
  refine ⟨out',h2,by rw [h3,List.length_set],fun p hp=>?_⟩
  rw [h4 p (by rw [List.length_set];exact hp),Tv _ _ _ _ _ hq,List.count_cons]
  by_cases hpq:p=q
  ·subst hpq
   rw [if_pos rfl,if_pos (by simp),List.append_assoc,show l.count (p:Int)+1=1+l.count (p:Int) by omega,show [(k:Int)]=List.replicate 1 (k:Int) from rfl,List.replicate_append_replicate]
  ·rw [if_neg hpq,if_neg (by simp;omega),Nat.add_zero]
theorem Zss (p:Int):∀ (k:Nat) (P:List R2),(V8 k P p).length≤U9 P
 | _,[]=>by simp [V8]
 | k,l :: P=>by
  rw [V8,List.length_append,List.length_replicate,Zkq]
  have:=Zss p (k+1) P
  have:=List.count_le_length (a:=p) (l:=l)
  omega
theorem Zq8 (n:Nat):∀ (P:List R2) (k:Nat) (out:List R2),out.length=n→(∀ l ∈ P,Zkv n l)→(∀ p:Nat,(out.getD p []).length+U9 P≤1048576)→
  ∃ out',Qz P k out=some out'∧out'.length=n∧∀ p:Nat,p<n→out'.getD p []=out.getD p []++V8 k P p
 | [],k,out,hn,_,_=>⟨out,by rw [Qz.eq_1],hn,fun p hp=>by simp [V8]⟩
 | l :: P,k,out,hn,h,hb=>by
  simp only [Zkq] at hb
  rw [Qz.eq_2]
  obtain ⟨out1,h1,h2,h3⟩:=Zq9 k (Qz P) l out (by rw [hn];exact h l List.mem_cons_self) (fun p=>by have:=hb p;omega)
  obtain ⟨out',h4,h5,h6⟩:=Zq8 n P (k+1) out1 (by omega) (fun x hx=>h x (List.mem_cons_of_mem _ hx)) (fun p=>by
   have:=hb p
   by_cases hp:p<out.length
   ·rw [h3 p hp,List.length_append,List.length_replicate]
    have:=List.count_le_length (a:=(p:Int)) (l:=l)
    omega
   ·rw [List.getD_eq_getElem?_getD,List.getElem?_eq_none (by omega)];simp;omega)
  refine ⟨out',by rw [h1,h4],h5,fun p hp=>?_⟩
  rw [h6 p hp,h3 p (by omega),List.append_assoc,V8]
theorem Z0c {P:List R2} (hP:P.length≤1048576) (ht:U9 P≤1048576) (h:∀ l ∈ P,Zkv P.length l):∃ D,Zf3 P=some D∧D.length=P.length∧∀ p:Nat,p<P.length→D.getD p []=V8 0 P p:=by
 rw [Zf3,Z9 (by simp only [maxLen];omega)]
 have hr:∀ p:Nat,(List.replicate P.length ([]:List Int)).getD p []=[]:=fun p=>by
  rw [List.getD_eq_getElem?_getD,List.getElem?_replicate];split <;> rfl
 obtain ⟨D,h1,h2,h3⟩:=Zq8 P.length P 0 (List.replicate P.length []) (by simp) h (fun p=>by rw [hr];simpa using ht)
 exact ⟨D,h1,h2,fun p hp=>by rw [h3 p hp,hr];rfl⟩
theorem Zoe (p:Int):∀ (k:Nat) (P:List R2) (c:Nat),(V8 k P p).count (c:Int)=if k≤c then (P.getD (c - k) []).count p else 0
 | k,[],c=>by simp [V8]
 | k,l :: P,c=>by
  rw [V8,List.count_append,Zoe p (k+1) P c,List.count_replicate]
  by_cases h1:k=c
  ·subst h1
   rw [if_pos (by simp),if_neg (by omega),if_pos (Nat.le_refl _),Nat.sub_self];rfl
  ·rw [if_neg (by simp;omega)]
   by_cases h2:k≤c
   ·rw [if_pos (by omega),if_pos h2,show c - k=(c - (k+1))+1 by omega];simp
   ·rw [if_neg (by omega),if_neg h2]
theorem Zst (p:Int):∀ (k:Nat) (P:List R2) (x:Int),x ∈ V8 k P p→∃ c:Nat,x=(c:Int)∧k≤c∧c<k+P.length
 | k,[],x,h=>by simp [V8] at h
 | k,l :: P,x,h=>by
  rw [V8] at h
  rcases List.mem_append.1 h with h | h
  ·exact ⟨k,(List.mem_replicate.1 h).2,Nat.le_refl _,by simp⟩
  ·obtain ⟨c,h1,h2,h3⟩:=Zst p (k+1) P x h
   exact ⟨c,h1,by omega,by rw [List.length_cons];omega⟩
def Tq (P:List R2) (out:List Int) (c:Nat):Nat:=(P.getD c []).countP fun q=>!decide (q ∈ out)
theorem Zre (out:List Int) (p:Int) (hp:p ∉ out):∀ l:List Int,(l.countP fun q=>!decide (q ∈ out))=(l.countP fun q=>!decide (q ∈ out++[p]))+l.count p
 | []=>rfl
 | x :: l=>by
  rw [List.countP_cons,List.countP_cons,List.count_cons,Zre out p hp l]
  by_cases h1:x=p
  ·subst h1
   have h2:(!decide (x ∈ out))=true:=by simp [hp]
   have h3:(!decide (x ∈ out++[x]))=false:=by simp
   rw [h2,h3];simp;omega
  ·have h3:(x ∈ out++[p])↔x ∈ out:=by simp [h1]
   rw [show (!decide (x ∈ out++[p]))=(!decide (x ∈ out)) from congrArg _ (decide_eq_decide.2 h3),if_neg (show ¬ ((x==p)=true) by simpa using h1)];omega
theorem Zrd {P:List R2} {out:List Int} {p:Int} (hp:p ∉ out) (c:Nat):Tq P out c=Tq P (out++[p]) c+(P.getD c []).count p:=Zre out p hp _
theorem Zvr (P:List R2) (out:List Int) (c:Nat):Tm P out c=true↔(c:Int) ∉ out∧Tq P out c=0:=by
 rw [Tm,Tq,List.countP_eq_zero]
 simp
structure Zkw (P:List R2) (out left ready:List Int):Prop where
 ok:U2 P out
 len:left.length=P.length
 cnt:∀ c:Nat,c<P.length→left.getD c 0=(Tq P out c:Int)
 heap:Sb ready ready.length
 nd:ready.Nodup
 mem:∀ y:Int,y ∈ ready↔∃ c:Nat,c<P.length∧y=(c:Int)∧(c:Int) ∉ out∧left.getD c 0=0
theorem Zpn (N:Nat) (P:List R2) (hP:P.length≤1048576) (ht:U9 P≤1048576) (hN:2000000<N) (out:List Int) (p:Nat) (r2:List Int) (kk:List Int→List Int→List Int→Option R2):
  ∀ (rest left ready:List Int),rest.length≤9000000000000000000→left.length=P.length→(∀ c:Nat,c<P.length→left.getD c 0=((Tq P (out++[(p:Int)]) c+rest.count (c:Int):Nat):Int))→
   Sb ready ready.length→ready.Nodup→(∀ y:Int,y ∈ ready↔∃ c:Nat,c<P.length∧y=(c:Int)∧(c:Int) ∉ out++[(p:Int)]∧left.getD c 0=0)→
   (∀ x ∈ rest,∃ c:Nat,c<P.length∧x=(c:Int)∧x ∉ out++[(p:Int)])→
   ∃ left' ready',Q4 N out kk ((p:Int),r2) rest left ready=kk left' ready' (out++[(p:Int)])∧left'.length=P.length∧(∀ c:Nat,c<P.length→left'.getD c 0=(Tq P (out++[(p:Int)]) c:Int))∧
    Sb ready' ready'.length∧ready'.Nodup∧∀ y:Int,y ∈ ready'↔∃ c:Nat,c<P.length∧y=(c:Int)∧(c:Int) ∉ out++[(p:Int)]∧left'.getD c 0=0
 | [],left,ready,_,h1,h2,h3,h4,h5,_=>⟨left,ready,by rw [Q4.eq_1],h1,fun c hc=>by rw [h2 c hc];simp,h3,h4,h5⟩
 | x :: rest,left,ready,hrest,h1,h2,h3,h4,h5,h6=>by
  obtain ⟨c0,hc0,rfl,hx⟩:=h6 x List.mem_cons_self
  have hc0l:c0<left.length:=by omega
  have hcx:=h2 c0 hc0
  rw [List.count_cons,if_pos (by simp)] at hcx
  have hle:Tq P (out++[(p:Int)]) c0≤1048576:=by
   have h7:=List.countP_le_length (p:=fun q=>!decide (q ∈ out++[(p:Int)])) (l:=P.getD c0 [])
   rw [Yp hc0] at h7
   have h8:=Zm5 (P:=P) (List.getElem_mem hc0)
   rw [Tq,Yp hc0];omega
  have hrl:ready.length≤P.length:=by
   have h7:=Zkd (r:=(List.range P.length).map fun i:Nat=>(i:Int)) h4 fun y hy=>by
    obtain ⟨c,h8,h9,_⟩:=(h5 y).1 hy
    exact List.mem_map.2 ⟨c,List.mem_range.2 h8,h9.symm⟩
   simpa using h7
  have hv:i64.wrap (left.getD c0 0 - 1)=((Tq P (out++[(p:Int)]) c0+rest.count (c0:Int):Nat):Int):=by
   have h9:=List.count_le_length (a:=(c0:Int)) (l:=rest)
   rw [hcx,Zt]
   ·omega
   ·simp only [List.length_cons] at hrest
    omega
  have hl1:∀ c:Nat,c<P.length→(left.set c0 (i64.wrap (left.getD c0 0 - 1))).getD c 0=((Tq P (out++[(p:Int)]) c+rest.count (c:Int):Nat):Int):=fun c hc=>by
   rw [Tv _ _ _ _ _ hc0l]
   by_cases hcc:c=c0
   ·subst hcc;rw [if_pos rfl,hv]
   ·rw [if_neg hcc,h2 c hc,List.count_cons,if_neg (by simp;omega),Nat.add_zero]
  have hne:left.getD c0 0≠0:=by rw [hcx];omega
  have hnr:(c0:Int) ∉ ready:=fun h=>by
   obtain ⟨c,h8,h9,_,h10⟩:=(h5 _).1 h
   have:c=c0:=by omega
   subst this;exact hne h10
  have h6':∀ x ∈ rest,∃ c:Nat,c<P.length∧x=(c:Int)∧x ∉ out++[(p:Int)]:=fun x hx=>h6 x (List.mem_cons_of_mem _ hx)
  have hr':rest.length≤9000000000000000000:=by simp only [List.length_cons] at hrest;omega
  rw [Q4.eq_2,Vl 0 hc0l,Option.bind_some,Option.bind_some,Int.toNat_natCast,Vl 0 (by rw [List.length_set];exact hc0l),Option.bind_some,Zga,Tv _ _ _ _ _ hc0l,if_pos rfl]
  by_cases hz:i64.wrap (left.getD c0 0 - 1)=0
  ·obtain ⟨ready1,k1,k2,k3⟩:=Zur (N:=N) (c0:Int) (by omega:ready.length<2000000) h3 hN
   rw [if_pos (by simpa using hz),k1,Option.bind_some,Zga]
   refine Zpn N P hP ht hN out p r2 kk rest _ ready1 hr' (by rw [List.length_set];exact h1) hl1 k3 (k2.nodup_iff.2 (List.nodup_cons.2 ⟨hnr,h4⟩)) (fun y=>?_) h6'
   rw [k2.mem_iff,List.mem_cons]
   constructor
   ·rintro (rfl | hy)
    ·exact ⟨c0,hc0,rfl,hx,by rw [Tv _ _ _ _ _ hc0l,if_pos rfl,hz]⟩
    ·obtain ⟨c,h8,h9,h10,h11⟩:=(h5 y).1 hy
     refine ⟨c,h8,h9,h10,?_⟩
     rw [Tv _ _ _ _ _ hc0l]
     split
     ·exact hz
     ·exact h11
   ·rintro ⟨c,h8,h9,h10,h11⟩
    by_cases hcc:c=c0
    ·subst hcc;exact .inl h9
    ·rw [Tv _ _ _ _ _ hc0l,if_neg hcc] at h11
     exact .inr ((h5 y).2 ⟨c,h8,h9,h10,h11⟩)
  ·rw [if_neg (by simpa using hz)]
   refine Zpn N P hP ht hN out p r2 kk rest _ ready hr' (by rw [List.length_set];exact h1) hl1 h3 h4 (fun y=>?_) h6'
   rw [h5 y]
   constructor
   ·rintro ⟨c,h8,h9,h10,h11⟩
    refine ⟨c,h8,h9,h10,?_⟩
    rw [Tv _ _ _ _ _ hc0l,if_neg (fun h=>hne (by rw [← h];exact h11))];exact h11
   ·rintro ⟨c,h8,h9,h10,h11⟩
    refine ⟨c,h8,h9,h10,?_⟩
    rw [Tv _ _ _ _ _ hc0l] at h11
    split at h11
    ·exact absurd h11 hz
    ·exact h11
theorem Z4n {N:Nat} {P D:List R2} (hP:P.length≤1048576) (ht:U9 P≤1048576) (hN:2000000<N) (hD:D.length=P.length) (hDk:∀ p:Nat,p<P.length→D.getD p []=V8 0 P p) {out left ready:List Int} (hi:Zkw P out left ready) (n:Nat):
  (W9 P out 0=none→U6 N D (n+1) left ready out=some out)∧
  ∀ p,W9 P out 0=some p→∃ left' ready',Zkw P (out++[(p:Int)]) left' ready'∧U6 N D (n+1) left ready out=U6 N D n left' ready' (out++[(p:Int)]):=by
 have hrl:ready.length≤P.length:=by
  have h7:=Zkd (r:=(List.range P.length).map fun i:Nat=>(i:Int)) hi.nd fun y hy=>by
   obtain ⟨c,h8,h9,_⟩:=(hi.mem y).1 hy
   exact List.mem_map.2 ⟨c,List.mem_range.2 h8,h9.symm⟩
  simpa using h7
 have hrd:∀ c:Nat,c<P.length→(Tm P out c=true↔(c:Int) ∈ ready):=fun c hc=>by
  rw [Zvr,hi.mem]
  constructor
  ·rintro ⟨h1,h2⟩;exact ⟨c,hc,rfl,h1,by rw [hi.cnt c hc,h2];rfl⟩
  ·rintro ⟨c',h1,h2,h3,h4⟩
   have:c'=c:=by omega
   subst this
   rw [hi.cnt c' h1] at h4
   exact ⟨h3,by omega⟩
 refine ⟨fun hn=>?_,fun p hn=>?_⟩
 ·have h0:ready=[]:=by
   cases hr:ready with
   | nil=>rfl
   | cons y l=>
    obtain ⟨c,h1,h2,_⟩:=(hi.mem y).1 (by rw [hr];exact List.mem_cons_self)
    have h3:=Z2r hn c (Nat.zero_le _) h1
    have h4:=(hrd c h1).2 (by rw [← h2,hr];exact List.mem_cons_self)
    rw [h3] at h4;cases h4
  rw [U6.eq_2,h0,if_neg (by decide)]
 ·obtain ⟨_,hp,hr,hmin⟩:=Zor hn
  have hpr:=(hrd p hp).1 hr
  have hpos:0<ready.length:=List.length_pos_of_mem hpr
  obtain ⟨x,t,k1,k2,k3,k4⟩:=Z24 (N:=N) (by omega:ready.length≤2000000) hpos hi.heap hN
  have hxr:x ∈ ready:=k2.mem_iff.2 List.mem_cons_self
  have hxp:x=(p:Int):=by
   obtain ⟨c,h1,h2,_⟩:=(hi.mem x).1 hxr
   have h3:=k3 _ hpr
   have h4:¬ c<p:=fun hlt=>by
    have h5:=hmin c (Nat.zero_le _) hlt
    have h6:=(hrd c h1).2 (by rw [← h2];exact hxr)
    rw [h5] at h6;cases h6
   omega
  subst hxp
  have hnd:((p:Int) :: t).Nodup:=k2.nodup_iff.1 hi.nd
  obtain ⟨hp1,hp2⟩:=(Zvr P out p).1 hr
  obtain ⟨hok,hlt⟩:=hi.ok.step hn
  have hol:=hi.ok.len
  have hself:(P.getD p []).count (p:Int)=0:=by have:=Zrd (P:=P) hp1 p;omega
  rw [U6.eq_2,if_pos (decide_eq_true (by omega)),k1,Option.bind_some,Z9 (by simp only [List.length_cons,List.length_nil,maxLen];omega),Vl [] (by rw [hD];exact hp),Option.bind_some,hDk p hp]
  have hkl:=Zss (p:Int) 0 P
  obtain ⟨left',ready',h1,h2,h3,h4,h5,h6⟩:=Zpn N P hP ht hN out p t (U6 N D n) (V8 0 P p) left t (by omega) hi.len (fun c hc=>by
    rw [hi.cnt c hc,Zrd hp1 c,Zoe (p:Int) 0 P c,if_pos (Nat.zero_le _),Nat.sub_zero]) k4 (List.nodup_cons.1 hnd).2 (fun y=>by
    have h7:y ∈ t↔y ∈ ready∧y≠(p:Int):=by
     rw [k2.mem_iff,List.mem_cons]
     exact ⟨fun h=>⟨.inr h,fun e=>(List.nodup_cons.1 hnd).1 (by rw [← e];exact h)⟩,fun h=>h.1.resolve_left h.2⟩
    rw [h7,hi.mem]
    constructor
    ·rintro ⟨⟨c,h8,h9,h10,h11⟩,h12⟩
     exact ⟨c,h8,h9,by rw [List.mem_append,List.mem_singleton];exact fun h=>h.elim h10 fun h=>h12 (by rw [h9,h]),h11⟩
    ·rintro ⟨c,h8,h9,h10,h11⟩
     rw [List.mem_append,List.mem_singleton] at h10
     exact ⟨⟨c,h8,h9,fun h=>h10 (.inl h),h11⟩,fun h=>h10 (.inr (by rw [← h9,h]))⟩) (fun x hx=>by
    obtain ⟨c,h7,_,h8⟩:=Zst (p:Int) 0 P x hx
    have h8:c<P.length:=by omega
    have h9:=Zoe (p:Int) 0 P c
    rw [if_pos (Nat.zero_le _),Nat.sub_zero] at h9
    have h10:0<(P.getD c []).count (p:Int):=by rw [← h9,← h7];exact List.count_pos_iff.2 hx
    refine ⟨c,h8,h7,fun h=>?_⟩
    rcases List.mem_append.1 h with h | h
    ·rw [h7] at h
     have h11:=hi.ok.2.2 c h8 h (p:Int) (by rw [Yp h8] at h10;exact List.count_pos_iff.1 h10)
     exact hp1 h11
    ·rw [List.mem_singleton] at h
     have:c=p:=by omega
     subst this
     omega)
  exact ⟨left',ready',⟨hok,h2,h3,h4,h5,h6⟩,h1⟩
theorem Zw6 {N:Nat} {P D:List R2} (hP:P.length<1048576) (hls:∀ x ∈ P,x.length≤1048576) (ht:U9 P≤1048576) (hN:2000000<N) (hD:D.length=P.length) (hDk:∀ p:Nat,p<P.length→D.getD p []=V8 0 P p):∀ (n:Nat) (out left ready:List Int),Zkw P out left ready→P.length<n+out.length→
  U6 N D n left ready out=Uc N P n out
 | 0,out,left,ready,hi,hn=>by have:=hi.ok.len;omega
 | n+1,out,left,ready,hi,hn=>by
  have hl:=hi.ok.len
  obtain ⟨h1,h2⟩:=Z4n (N:=N) (by omega) ht hN hD hDk hi n
  rw [Zow (by omega) hls (by omega) (by omega)]
  cases hnx:W9 P out 0 with
  | none=>rw [h1 hnx];rfl
  | some p=>
   obtain ⟨left',ready',h3,h4⟩:=h2 p hnx
   rw [h4]
   exact Zw6 hP hls ht hN hD hDk n _ _ _ h3 (by simp;omega)
theorem Zpm {N:Nat} (P D:List R2) (hP:P.length<1048576) (hN:2000000<N) (hl:∀ l ∈ P,l.length≤1048576):∀ (Q:List R2) (k:Nat) (left ready:List Int),P.drop k=Q→k≤P.length→left.length=P.length→
  (∀ c:Nat,c<k→left.getD c 0=((P.getD c []).length:Int))→Sb ready ready.length→ready.Nodup→(∀ y:Int,y ∈ ready↔∃ c:Nat,c<k∧y=(c:Int)∧(P.getD c []).length=0)→
  ∃ left' ready',Q3 N D Q k left ready=U6 N D N left' ready' []∧Zkw P [] left' ready'
 | [],k,left,ready,hQ,hk,h1,h2,h3,h4,h5=>by
  have hkP:k=P.length:=by have:=congrArg List.length hQ;simp at this;omega
  subst hkP
  have hc0:∀ c,Tq P [] c=(P.getD c []).length:=fun c=>by
   rw [Tq,List.countP_eq_length.2 (fun a _=>by simp)]
  refine ⟨left,ready,by rw [Q3.eq_1],⟨⟨.nil,by simp,by simp⟩,h1,fun c hc=>by rw [h2 c hc,hc0],h3,h4,fun y=>?_⟩⟩
  rw [h5]
  constructor
  ·rintro ⟨c,h6,h7,h8⟩;exact ⟨c,h6,h7,by simp,by rw [h2 c h6,h8];rfl⟩
  ·rintro ⟨c,h6,h7,_,h8⟩;exact ⟨c,h6,h7,by rw [h2 c h6] at h8;omega⟩
 | x :: Q,k,left,ready,hQ,hk,h1,h2,h3,h4,h5=>by
  have hkl:k<P.length:=by
   rcases Nat.lt_or_ge k P.length with h | h
   ·exact h
   ·rw [List.drop_eq_nil_of_le h] at hQ;cases hQ
  rw [List.drop_eq_getElem_cons hkl] at hQ
  obtain ⟨hx,hQ⟩:=List.cons.inj hQ
  have hxd:P.getD k []=x:=by rw [Yp hkl,hx]
  have hkl':k<left.length:=by omega
  have hrl:ready.length≤k:=by
   have h7:=Zkd (r:=(List.range k).map fun i:Nat=>(i:Int)) h4 fun y hy=>by
    obtain ⟨c,h8,h9,_⟩:=(h5 y).1 hy
    exact List.mem_map.2 ⟨c,List.mem_range.2 h8,h9.symm⟩
   simpa using h7
  have hl1:∀ c:Nat,c<k+1→(left.set k (x.length:Int)).getD c 0=((P.getD c []).length:Int):=fun c hc=>by
   rw [Tv _ _ _ _ _ hkl']
   by_cases hck:c=k
   ·subst hck;rw [if_pos rfl,hxd]
   ·rw [if_neg hck,h2 c (by omega)]
  have hnr:(k:Int) ∉ ready:=fun h=>by obtain ⟨c,h6,h7,_⟩:=(h5 _).1 h;omega
  rw [Q3.eq_2,Vl 0 hkl',Option.bind_some,Option.bind_some,Int.toNat_natCast]
  by_cases h0:x.length=0
  ·obtain ⟨ready1,k1,k2,k3⟩:=Zur (N:=N) (k:Int) (by omega:ready.length<2000000) h3 hN
   rw [if_pos (decide_eq_true (by omega)),k1,Option.bind_some,Zgb]
   refine Zpm P D hP hN hl Q (k+1) _ ready1 hQ (by omega) (by rw [List.length_set];exact h1) hl1 k3 (k2.nodup_iff.2 (List.nodup_cons.2 ⟨hnr,h4⟩)) (fun y=>?_)
   rw [k2.mem_iff,List.mem_cons,h5]
   constructor
   ·rintro (rfl | ⟨c,h6,h7,h8⟩)
    ·exact ⟨k,by omega,rfl,by rw [hxd];exact h0⟩
    ·exact ⟨c,by omega,h7,h8⟩
   ·rintro ⟨c,h6,h7,h8⟩
    by_cases hck:c=k
    ·subst hck;exact .inl h7
    ·exact .inr ⟨c,by omega,h7,h8⟩
  ·rw [if_neg (by rw [decide_eq_true_eq];omega),Zgb]
   refine Zpm P D hP hN hl Q (k+1) _ ready hQ (by omega) (by rw [List.length_set];exact h1) hl1 h3 h4 (fun y=>?_)
   rw [h5]
   constructor
   ·rintro ⟨c,h6,h7,h8⟩;exact ⟨c,by omega,h7,h8⟩
   ·rintro ⟨c,h6,h7,h8⟩
    by_cases hck:c=k
    ·subst hck;rw [hxd] at h8;exact absurd h8 h0
    ·exact ⟨c,by omega,h7,h8⟩
theorem Z4m {N:Nat} {P D:List R2} (hP:P.length<1048576) (hls:∀ x ∈ P,x.length≤1048576) (ht:U9 P≤1048576) (hN:2000000<N) (hD:D.length=P.length) (hDk:∀ p:Nat,p<P.length→D.getD p []=V8 0 P p):Zf9 N P D=Ti N P:=by
 rw [Zf9,Z9 (by simp only [maxLen];omega),Ti]
 obtain ⟨left,ready,h1,h2⟩:=Zpm (N:=N) P D hP hN hls P 0 (List.replicate P.length 0) [] rfl (Nat.zero_le _) (by simp) (fun c hc=>by omega) (fun j _ hj=>by simp at hj) .nil (fun y=>by simp)
 rw [h1]
 exact Zw6 hP hls ht hN hD hDk N [] _ _ h2 (by simp;omega)
theorem Zr3 (kk:Option Int):∀ (l:List Int) (seen:List (Int×Int)) (S:List Int),S.Nodup→(∀ k,Wh seen k=if k ∈ S then some 1 else none)→Zb3 kk l seen=if (S++l).Nodup then kk else some 40
 | [],seen,S,h1,h2=>by rw [Zb3.eq_1,List.append_nil,if_pos h1]
 | x :: l,seen,S,h1,h2=>by
  rw [Zb3.eq_2,h2 x]
  by_cases hx:x ∈ S
  ·rw [if_pos hx,if_pos (by decide),if_neg]
   intro h
   exact (List.nodup_append.1 h).2.2 x hx x List.mem_cons_self rfl
  ·rw [if_neg hx,if_neg (by decide),Option.bind_some,Zr3 kk l _ (S++[x]) (by
    rw [List.nodup_append]
    refine ⟨h1,by simp,fun a ha b hb e=>?_⟩
    rw [List.mem_singleton] at hb;subst hb;subst e;exact hx ha) (fun k=>by
    rw [Ztl,h2 k]
    by_cases hk:k=x
    ·subst hk;rw [if_pos rfl,if_pos (by simp)]
    ·rw [if_neg hk]
     by_cases hs:k ∈ S
     ·rw [if_pos hs,if_pos (by simp [hs])]
     ·rw [if_neg hs,if_neg (by simp [hs,hk])])]
   rw [List.append_assoc];rfl
theorem Zr2:∀ P:List R2,Q1 P=if Ta P then some 40 else some 0
 | []=>by rw [Q1.eq_1];rfl
 | l :: P=>by
  rw [Q1.eq_2,Zr3 _ l [] [] .nil (fun k=>by simp [Wh]),Zr2 P,List.nil_append]
  by_cases h:l.Nodup
  ·rw [if_pos h]
   have:Ta (l :: P)=Ta P:=by rw [Ta,Ta,List.any_cons,decide_eq_true h];rfl
   rw [this]
  ·rw [if_neg h]
   have:Ta (l :: P)=true:=by rw [Ta,List.any_cons,decide_eq_false h];rfl
   rw [this];rfl
theorem Zr4 (P:List R2) (kk:Option Int):∀ l:List Int,Q2 P kk l=if (l.all fun p=>decide (0≤p∧p<(P.length:Int)))=true then kk else some 3
 | []=>by rw [Q2.eq_1];rfl
 | x :: l=>by
  rw [Q2.eq_2,Zr4 P kk l,Zf5,Zf5,List.all_cons]
  by_cases h1:x<0
  ·rw [if_pos (by simpa using h1),if_pos rfl,decide_eq_false (by omega),Bool.false_and,if_neg (by decide)]
  ·rw [if_neg (by simpa using h1)]
   by_cases h2:(P.length:Int)≤x
   ·rw [if_pos (by simpa using h2),decide_eq_false (by omega),Bool.false_and,if_neg (by decide)]
   ·rw [if_neg (by simpa using h2),decide_eq_true (by omega),Bool.true_and]
theorem Zr1 (P:List R2):∀ Q:List R2,Q0 P Q=if Ul P.length Q=true then Q1 P else some 3
 | []=>by rw [Q0.eq_1];rfl
 | l :: Q=>by
  rw [Q0.eq_2,Zr4,Zr1 P Q]
  by_cases h:(l.all fun p=>decide (0≤p∧p<(P.length:Int)))=true
  ·rw [if_pos h]
   have:Ul P.length (l :: Q)=Ul P.length Q:=by rw [Ul,Ul,List.all_cons,h,Bool.true_and]
   rw [this]
  ·rw [if_neg h]
   have:Ul P.length (l :: Q)=false:=by rw [Ul,List.all_cons,Bool.eq_false_iff.2 h,Bool.false_and]
   rw [this,if_neg (by decide)]
theorem Z07 (P:List R2):Zf4 P=if Ul P.length P=true then (if Ta P=true then some 40 else some 0) else some 3:=by
 rw [Zf4,Zr1,Zr2]
structure Zky (P:List R2):Prop where
 n:P.length≤1048575
 t:U9 P≤1048576
theorem Zky.ls {P:List R2} (h:Zky P):∀ x ∈ P,x.length≤1048576:=fun x hx=>Nat.le_trans (Zm5 hx) h.t
theorem Zsk {P:List R2} {n:Nat} (h:Ul n P=true):∀ l ∈ P,Zkv n l:=by
 intro l hl x hx
 rw [Ul,List.all_eq_true] at h
 have:=List.all_eq_true.1 (h l hl) x hx
 simpa using this
inductive Zkx (N:Nat) (P:List R2):Prop
 | err (e:Int) (D:Qy N P=some ([],e)) (R:Ss N P=some e) (ne:e=3∨e=40):Zkx N P
 | cyc (I:Ul P.length P=true) (T:Ta P=false) (l:List Int) (o:Ti N P=some l) (ok:U2 P l) (mx:W9 P l 0=none) (lt:l.length<P.length) (D:Qy N P=some ([],42)) (R:Ss N P=some 42):Zkx N P
 | ord (I:Ul P.length P=true) (T:Ta P=false) (l:List Int) (o:Ti N P=some l) (ok:U2 P l) (mx:W9 P l 0=none) (eq:l.length=P.length) (D:Qy N P=some (l,0)) (R:Ss N P=some 0):Zkx N P
theorem Zw1 {N:Nat} {P:List R2} (h:Zky P) (hN:2000000<N):Zkx N P:=by
 have hn:=h.n
 have ht:=h.t
 have hls:=h.ls
 have hls':∀ x ∈ P,x.length≤1048576:=fun x hx=>by have:=hls x hx;omega
 have hD:Qy N P=(Zf4 P).bind fun r_1=>if (!decide (r_1=0))=true then (some (([]:List Int),r_1)) else ((Zf3 P).bind fun r_5=>(Zf9 N P r_5).bind fun r_13=>if (decide ((r_13.length:Int)<(P.length:Int)))=true then (some (([]:List Int),42)) else (some (r_13,0))):=by rw [Qy]
 have hR:Ss N P=(Zhd N P).bind fun r_1=>if (!r_1)=true then (some 3) else ((Zhh N P).bind fun r_5=>if r_5=true then (some 40) else ((Ti N P).bind fun r_9=>if (decide ((r_9.length:Int)<(P.length:Int)))=true then (some 42) else (some 0))):=by rw [Ss]
 rw [Z07] at hD
 rw [Z1m (by omega) hls' (by omega),Option.bind_some] at hR
 by_cases hI:Ul P.length P=true
 ·rw [hI,if_neg (by decide),Z4r (by omega) hls' (by omega),Option.bind_some] at hR
  rw [if_pos hI] at hD
  by_cases hT:Ta P=true
  ·rw [if_pos hT] at hD hR
   exact .err 40 (by rw [hD];rfl) hR (.inr rfl)
  ·rw [if_neg hT] at hD hR
   obtain ⟨l,h1,h2,h3⟩:=Z22 (N:=N) (P:=P) (by omega) hls' (by omega)
   obtain ⟨D,h4,h5,h6⟩:=Z0c (P:=P) (by omega) (by omega) (Zsk hI)
   rw [h1,Option.bind_some] at hR
   rw [Option.bind_some,if_neg (by decide),h4,Option.bind_some,Z4m (by omega) hls' (by omega) hN h5 h6,h1,Option.bind_some] at hD
   have hT:=Bool.eq_false_iff.2 hT
   have hle:=h2.len
   by_cases hlt:l.length<P.length
   ·rw [if_pos (decide_eq_true (by omega))] at hR hD
    exact .cyc hI hT l h1 h2 h3 hlt hD hR
   ·rw [if_neg (by rw [decide_eq_true_eq];omega)] at hR hD
    exact .ord hI hT l h1 h2 h3 (by omega) hD hR
 ·rw [Bool.eq_false_iff.2 hI,if_pos (by decide)] at hR
  rw [if_neg hI] at hD
  exact .err 3 (by rw [hD];rfl) hR (.inl rfl)
def Zg4 (ab:List Int) (aa:Int) (kk_L1:(Int→Option R2)) (ac:Bool):Option R2:=
  if ac=true then (kk_L1 (i64.wrap (aa - 1))) else (Z1 ((0:Int)≤aa∧aa≤(ab.length:Int)) (Z1 ((([]:List Int).length+(ab.take (Int.toNat aa)).length) * 4≤140737488355328∧([]:List Int).length+(ab.take (Int.toNat aa)).length≤maxLen) (some (([]:List Int)++(ab.take (Int.toNat aa))))))
def Za6 (N:Nat) (aa:List Int):Nat→Int→Option R2
  | 0,_=>none
  | ac+1,ab=>if (decide (0<ab))=true then ((Zo aa (i64.wrap (ab - 1))).bind fun ad=>Zg4 aa ab (Za6 N aa ac) (decide (ad=0))) else (Zg4 aa ab (Za6 N aa ac) false)
termination_by structural x=>x
def Vs (N:Nat) (aa:List Int):Option R2:=
  Za6 N aa N (aa.length:Int)
theorem Ut {N ae:Nat} {a0:Option Addr} {col:Zf} {w0:World} {ab r:R2} (c1:Nat) (hm:Vs N ab=some r) (h0:Sl (Za.int .u32) col w0 a0 ae ab):
    Calls Tryz.prog 212 #[.slice a0 ab.length ae] w0 (fun e w'=>∃ (col':Zf) (ra1:Option Addr) (rc2:Nat),e= .returned ((.slice ra1 r.length rc2))∧Zg col w0 col' w'∧Zc (Za.int .u32) 79 c1 col' w' ra1 rc2 r):=by
 refine Xi 2 (m:=24) func212 rfl rfl rfl rfl rfl ?_;rw [Vs.eq_1] at hm;have aa:=St.start col w0;refine go ?_;refine Z8 [0,1000000] (fun n f aj=>∃ ak ac ad,ad=n∧Za6 N ab ad ac=some r∧St w0 (Zi col) ak aj∧[3].map f=[.int .i64 ac]) N ⟨_,_,_,rfl,hm,aa,rfl⟩ ?_;clear hm;intro n f aj hI;obtain ⟨ak,ac,ad,hn,hm,aa,hs⟩:=hI;subst hn;refine .lL [3] hs ?_;replace h0:=h0.keep (Zj.start col w0)
 cases ad with
 | zero=>rw [Za6.eq_1] at hm;cases hm
 | succ ad=>
  rw [Za6.eq_2] at hm;refine Zy<|Zy ?_;refine Wp.cutK [0,3,1000000] (fun f al=>∃ am af,Zg4 ab ac (Za6 N ab ad) af=some r∧St w0 (Zi col) am al∧[16].map f=[.bool af]) ?_ ?_
  ·intro f al hJ;obtain ⟨am,af,hm,aa,hs⟩:=hJ;rw [Zg4.eq_1] at hm;refine .lL [16] hs ?_;refine Zq hm (fun hb hm=>go ?_) fun hb hm=>go ?_
   ·exact ⟨ad,by omega,rfl,⟨_,_,_,rfl,hm,aa,rfl⟩⟩
   obtain ⟨ag,hm⟩:=Z3 hm;refine lv (v:=.slice a0 (Int.toNat ac) ae) rfl rfl (V1 underlying43 sizeOf79 rfl rfl ag.1 (by have:=(h0.ks aa).1.2;have:=ag.2;omega))<|.ld (d:=22) (v:=(.slice a0 ((ab.take (Int.toNat ac)).length) ae)) (congrArg (fun n=>Value.slice a0 n ae) (List.length_take_of_le (show (Int.toNat ac)≤ab.length by have:=ag.2;omega)).symm) ?_;obtain ⟨an,hm⟩:=Z3 hm;refine Ws (c:=1) Zc.nil ((h0.ks aa).take (Int.toNat ac)).srcC an ?_;intro ar au av aw ao ap;refine go ?_;cases hm;replace aa:=aa.kpp ao;exact ⟨rfl,_,_,_,rfl,aa.fin (cm [(1,c1)]),aa.fo ap⟩
  refine go ?_;refine Xv hm (fun ah hm=>go ?_) fun ah hm=>go ?_
  ·obtain ⟨aq,ai,hm⟩:=bZ hm;refine lI ai ((h0.ks aa).addr ai) ?_;refine go ?_;refine lW ((h0.ks aa).atInt ai)<|go ?_;refine lV (.bool (decide (aq=0))) (Xj (congrArg Value.bool ah) rfl)<|Zk ?_;exact ⟨rfl,_,_,hm,aa,rfl⟩
  refine lV (.bool false) (Xs (congrArg Value.bool ah) rfl)<|Zk ?_;exact ⟨rfl,_,_,hm,aa,rfl⟩
def Zd4 (N:Nat):Nat→Int→Int→Option Int
  | 0,_,_=>none
  | ac+1,aa,ab=>if (decide (0<ab))=true then ((Zd4 N ac) (i64.wrap (aa+1)) (u32.wrap (Int.tdiv ab 2))) else (some aa)
termination_by structural x=>x
def Za2 (N:Nat) (ab:List Int):Option Int:=
  (Vs N ab).bind fun aa=>if (decide ((aa.length:Int)=0))=true then (some 0) else ((Zo aa (i64.wrap ((aa.length:Int) - 1))).bind fun ac=>Zd4 N N (i64.wrap (32 * (i64.wrap ((aa.length:Int) - 1)))) ac)
theorem Zno {N ag:Nat} {a0:Option Addr} {col:Zf} {w0:World} {ad:R2} {r:Int} (hm:Za2 N ad=some r) (h0:Sl (Za.int .u32) col w0 a0 ag ad):
    Calls Tryz.prog 121 #[.slice a0 ad.length ag] w0 (fun e w'=>e= .returned ((.int .i64 r))∧Below w0.heap.size w0 w'):=by
 refine Xi 2 (m:=28) func121 rfl rfl rfl rfl rfl ?_;rw [Za2.eq_1] at hm;have aa:=St.start col w0;refine go ?_;obtain ⟨am,ak,hm⟩:=bZ hm;replace h0:=h0.keep (Zj.start col w0);refine Zh (Ut 1 ak (h0.ks aa)) ?_;rintro _ an ⟨ao,ap,aq,rfl,al,ah⟩;refine ⟨_,rfl,go ?_⟩;replace aa:=aa.grow al;refine Zq hm (fun hb hm=>go ?_) fun hb hm=>go ?_
 ·cases hm;exact ⟨rfl,rfl,aa.below⟩
 obtain ⟨ar,ae,hm⟩:=bZ hm;refine lI ae (ah.addr ae)<|lW (ah.atInt ae) ?_;refine go ?_;refine Z8 [1000000] (fun n f ai=>∃ aj af ac ab,ab=n∧Zd4 N ab af ac=some r∧St w0 (Zi col) aj ai∧[4,5].map f=[.int .i64 af,.int .u32 ac]) N ⟨_,_,_,_,rfl,hm,aa,rfl⟩ ?_;clear hm;intro n f ai hI;obtain ⟨aj,af,ac,ab,hn,hm,aa,hs⟩:=hI;subst hn;refine .lL [4,5] hs ?_
 cases ab with
 | zero=>rw [Zd4.eq_1] at hm;cases hm
 | succ ab=>
  rw [Zd4.eq_2] at hm;refine go ?_;refine Zq hm (fun hb hm=>go ?_) fun hb hm=>go ?_
  ·refine lV (.int .u32 (u32.wrap (Int.tdiv ac 2))) (Wy ac 2 rfl rfl (by decide))<|go ?_;exact ⟨ab,by omega,rfl,⟨_,_,_,_,rfl,hm,aa,rfl⟩⟩
  cases hm;exact ⟨rfl,rfl,aa.below⟩
def Qd (aa:List Int) (ab:Int):Option Int:=
  if (decide (ab<(aa.length:Int)))=true then ((Zo aa ab).bind fun ac=>some (u64.wrap ac)) else (some 0)
theorem Zdf {ad:Nat} {a0:Option Addr} {col:Zf} {w0:World} {ab:R2} {ae r:Int} (hm:Qd ab ae=some r) (h0:Sl (Za.int .u32) col w0 a0 ad ab):
    Calls Tryz.prog 275 #[.slice a0 ab.length ad,.int .i64 ae] w0 (fun e w'=>e= .returned ((.int .u64 r))∧Below w0.heap.size w0 w'):=by
 refine Xi 4 (m:=14) func275 rfl rfl rfl rfl rfl ?_;rw [Qd.eq_1] at hm;have aa:=St.start col w0;refine go ?_;replace h0:=h0.keep (Zj.start col w0);refine Zq hm (fun hb hm=>go ?_) fun hb hm=>go ?_
 ·obtain ⟨af,ac,hm⟩:=bZ hm;refine lI ac ((h0.ks aa).addr ac)<|lW ((h0.ks aa).atInt ac) ?_;refine go ?_;cases hm;exact ⟨rfl,rfl,aa.below⟩
 cases hm;exact ⟨rfl,rfl,aa.below⟩
def Zgz (ab:List Int) (aa:Int):Option Int:=
  (Qd ab (i64.wrap (Int.tdiv aa 32))).bind fun ac=>Z1 (0≤(Int.tmod aa 32)) (some (Int.tmod (u32.wrap (X4 .u64 ac (Int.tmod aa 32))) 2))
theorem Zqs {af:Nat} {a0:Option Addr} {col:Zf} {w0:World} {ad:R2} {aa r:Int} (hm:Zgz ad aa=some r) (h0:Sl (Za.int .u32) col w0 a0 af ad):
    Calls Tryz.prog 230 #[.slice a0 ad.length af,.int .i64 aa] w0 (fun e w'=>e= .returned ((.int .u32 r))∧Below w0.heap.size w0 w'):=by
 refine Xi 4 (m:=14) func230 rfl rfl rfl rfl rfl ?_;rw [Zgz.eq_1] at hm;have ab:=St.start col w0;refine go ?_;refine lV (.int .i64 (i64.wrap (Int.tdiv aa 32))) (Wy aa 32 rfl rfl (by decide)) ?_;obtain ⟨ac,ag,hm⟩:=bZ hm;replace h0:=h0.keep (Zj.start col w0);refine Zh (Zdf ag (h0.ks ab)) ?_;rintro _ ah ⟨rfl,ae⟩;refine ⟨_,rfl,?_⟩;replace ae:Zg (Zi col) w0 (Zi col) ah:=.of_below ae;refine Xo rfl<|lV (.int .i64 (Int.tmod aa 32)) (U8 aa 32 rfl rfl (by decide)) ?_;obtain ⟨ai,hm⟩:=Z3 hm;refine lV (.int .u64 (X4 .u64 ac (Int.tmod aa 32))) (Tl ac (Int.tmod aa 32) rfl rfl ai)<|go ?_;refine lV (.int .u32 (Int.tmod (u32.wrap (X4 .u64 ac (Int.tmod aa 32))) 2)) (U8 (u32.wrap (X4 .u64 ac (Int.tmod aa 32))) 2 rfl rfl (by decide))<|go ?_;cases hm;replace ab:=ab.grow ae;exact ⟨rfl,rfl,ab.below⟩
def Zg8 (aa:List Int):Option R2:=
  some aa
def Zeb (N:Nat) (ad:List Int):Nat→R2→Int→Int→Option R2
  | 0,_,_,_=>none
  | af+1,ab,aa,ae=>if (decide (ae<(ad.length:Int)))=true then ((Zo ad ae).bind fun ac=>Z1 ((ab.length+[u32.wrap (Int.tmod (u64.wrap (aa+(u64.wrap (2 * (u64.wrap ac))))) 4294967296)].length) * 4≤140737488355328∧ab.length+[u32.wrap (Int.tmod (u64.wrap (aa+(u64.wrap (2 * (u64.wrap ac))))) 4294967296)].length≤maxLen) ((Zeb N ad af) (ab++[u32.wrap (Int.tmod (u64.wrap (aa+(u64.wrap (2 * (u64.wrap ac))))) 4294967296)]) (u64.wrap (Int.tdiv (u64.wrap (aa+(u64.wrap (2 * (u64.wrap ac))))) 4294967296)) (i64.wrap (ae+1)))) else (if (decide (0<aa))=true then (Z1 ((ab.length+[u32.wrap aa].length) * 4≤140737488355328∧ab.length+[u32.wrap aa].length≤maxLen) (Zg8 (ab++[u32.wrap aa]))) else (Zg8 ab))
termination_by structural x=>x
def Zg7 (N:Nat) (aa:List Int) (ab:Int):Option R2:=
  Zeb N aa N ([]:List Int) (u64.wrap ab) 0
theorem Zqu {N au:Nat} {a0:Option Addr} {col:Zf} {w0:World} {ag:R2} {av:Int} {r:R2} (c1:Nat) (hm:Zg7 N ag av=some r) (h0:Sl (Za.int .u32) col w0 a0 au ag):
    Calls Tryz.prog 291 #[.slice a0 ag.length au,.int .u32 av] w0 (fun e w'=>∃ (col':Zf) (ra1:Option Addr) (rc2:Nat),e= .returned ((.slice ra1 r.length rc2))∧Zg col w0 col' w'∧Zc (Za.int .u32) 79 c1 col' w' ra1 rc2 r):=by
 refine Xi 4 (m:=40) func291 rfl rfl rfl rfl rfl ?_;rw [Zg7.eq_1] at hm;have aa:=St.start col w0;refine go ?_;refine Z8 [0,1000000] (fun n f aj=>∃ ae ak al ah ab am ad,ad=n∧Zeb N ag ad ah ab am=some r∧St w0 (Zi col) ae aj∧Zc (Za.int .u32) 79 1 ae aj ak al ah∧[5,6,7].map f=[.slice ak ah.length al,.int .u64 ab,.int .i64 am]) N ⟨_,none,0,_,_,0,_,rfl,hm,aa,Zc.nil,rfl⟩ ?_;clear hm;intro n f aj hI;obtain ⟨ae,ak,al,ah,ab,am,ad,hn,hm,aa,ac,hs⟩:=hI;subst hn;refine .lL [5,6,7] hs ?_;replace h0:=h0.keep (Zj.start col w0)
 cases ad with
 | zero=>rw [Zeb.eq_1] at hm;cases hm
 | succ ad=>
  rw [Zeb.eq_2] at hm;refine go ?_;refine Zq hm (fun hb hm=>go ?_) fun hb hm=>?_
  ·obtain ⟨af,an,hm⟩:=bZ hm;refine lI an ((h0.ks aa).addr an)<|lW ((h0.ks aa).atInt an) ?_;refine go ?_;refine lV (.int .u64 (Int.tmod (u64.wrap (ab+(u64.wrap (2 * (u64.wrap af))))) 4294967296)) (U8 (u64.wrap (ab+(u64.wrap (2 * (u64.wrap af))))) 4294967296 rfl rfl (by decide))<|go ?_;refine Wx (col:=ae) [u32.wrap (Int.tmod (u64.wrap (ab+(u64.wrap (2 * (u64.wrap af))))) 4294967296)] 2 ?_;intro a8 a9 ba aw ay;obtain ⟨az,hm⟩:=Z3 hm;replace ac:=ac.gr aw;refine Ws ac (ay.srcN (NB.int (k:=.u32))) az ?_;intro bb bc bd be a1 a2;refine go ?_;refine lV (.int .u64 (u64.wrap (Int.tdiv (u64.wrap (ab+(u64.wrap (2 * (u64.wrap af))))) 4294967296))) (Wy (u64.wrap (ab+(u64.wrap (2 * (u64.wrap af))))) 4294967296 rfl rfl (by decide))<|go ?_;replace aa:=(aa.grow aw).kpp a1;exact ⟨ad,by omega,rfl,⟨_,_,_,_,_,_,_,rfl,hm,aa,a2,rfl⟩⟩
  refine Zkt (Zi0 ?_);refine Zy ?_;refine Wp.cutK [1000000] (fun f ao=>∃ ap aq ar ai,Zg8 ai=some r∧St w0 (Zi col) ap ao∧Zc (Za.int .u32) 79 1 ap ao aq ar ai∧[5].map f=[.slice aq ai.length ar]) ?_ ?_
  ·intro f ao hJ;obtain ⟨ap,aq,ar,ai,hm,aa,a3,hs⟩:=hJ;rw [Zg8.eq_1] at hm;refine .lL [5] hs<|go ?_;cases hm;exact ⟨rfl,_,_,_,rfl,aa.fin (cm [(1,c1)]),aa.fo a3⟩
  refine go ?_;refine Zq hm (fun hb hm=>go ?_) fun hb hm=>?_
  ·refine Wx (col:=ae) [u32.wrap ab] 3 ?_;intro bf bg bh ax a4;obtain ⟨a5,hm⟩:=Z3 hm;replace ac:=ac.gr ax;refine Ws ac (a4.srcN (NB.int (k:=.u32))) a5 ?_;intro bi bj bk bm a6 a7;refine go ?_;replace aa:=(aa.grow ax).kpp a6;exact ⟨rfl,_,_,_,_,hm,aa,a7,rfl⟩
  refine X8 ?_;exact ⟨rfl,_,_,_,_,hm,aa,ac,rfl⟩
def Zd6 (N:Nat) (ab:List Int) (ac:List Int):Nat→Int→Option Int
  | 0,_=>none
  | af+1,aa=>if (decide (0≤aa))=true then ((Qd ab aa).bind fun ad=>(Qd ac aa).bind fun ae=>if (decide (ad<ae))=true then (some (-1)) else (if (decide (ae<ad))=true then (some 1) else ((Zd6 N ab ac af) (i64.wrap (aa - 1))))) else (some 0)
termination_by structural x=>x
def Zg0 (N:Nat) (aa:List Int) (ab:List Int) (ac:Int):Option Int:=
  Zd6 N aa ab N (i64.wrap (ac - 1))
def Zd5 (N:Nat) (aa:List Int) (ab:List Int):Option Int:=
  if (decide ((aa.length:Int)<(ab.length:Int)))=true then (Zg0 N aa ab (ab.length:Int)) else (Zg0 N aa ab (aa.length:Int))
theorem Znp {N ak al:Nat} {a0 a1:Option Addr} {col:Zf} {w0:World} {ad ae:R2} {r:Int} (hm:Zd5 N ad ae=some r) (h0:Sl (Za.int .u32) col w0 a0 ak ad) (h1:Sl (Za.int .u32) col w0 a1 al ae):
    Calls Tryz.prog 276 #[.slice a0 ad.length ak,.slice a1 ae.length al] w0 (fun e w'=>e= .returned ((.int .i64 r))∧Below w0.heap.size w0 w'):=by
 refine Xi 4 (m:=35) func276 rfl rfl rfl rfl rfl ?_;rw [Zd5.eq_1] at hm;have aa:=St.start col w0;refine Zy<|Wd<|Yu rfl<|Zk<|Zy<|Wd<|Wa rfl<|lV _ (T7 underlying43 rfl)<|Yu rfl<|Zk<|Zy ?_;replace h0:=h0.keep (Zj.start col w0);replace h1:=h1.keep (Zj.start col w0);refine Wp.cutK [0,1,1000000] (fun f am=>∃ an af,Zg0 N ad ae af=some r∧St w0 (Zi col) an am∧[5].map f=[.int .i64 af]) ?_ ?_
 ·intro f am hJ;obtain ⟨an,af,hm,aa,hs⟩:=hJ;rw [Zg0.eq_1] at hm;refine .lL [5] hs<|go ?_;refine Z8 [0,1,1000000] (fun n f ag=>∃ ab ah ac,ac=n∧Zd6 N ad ae ac ah=some r∧St w0 (Zi col) ab ag∧[6].map f=[.int .i64 ah]) N ⟨_,_,_,rfl,hm,aa,rfl⟩ ?_;clear hm;intro n f ag hI;obtain ⟨ab,ah,ac,hn,hm,aa,hs⟩:=hI;subst hn;refine .lL [6] hs ?_
  cases ac with
  | zero=>rw [Zd6.eq_1] at hm;cases hm
  | succ ac=>
   rw [Zd6.eq_2] at hm;refine go ?_;refine Zq hm (fun hb hm=>go ?_) fun hb hm=>go ?_
   ·obtain ⟨au,ap,hm⟩:=bZ hm;refine Zh (Zdf ap (h0.ks aa)) ?_;rintro _ ao ⟨rfl,ai⟩;refine ⟨_,rfl,?_⟩;replace ai:Zg ab ag ab ao:=.of_below ai;refine go ?_;obtain ⟨av,aq,hm⟩:=bZ hm;replace aa:=aa.grow ai;refine Zh (Zdf aq (h1.ks aa)) ?_;rintro _ ar ⟨rfl,aj⟩;refine ⟨_,rfl,?_⟩;replace aj:Zg ab ao ab ar:=.of_below aj;refine go ?_;replace aa:=aa.grow aj;refine Zq hm (fun hb hm=>go ?_) fun hb hm=>go ?_
    ·cases hm;exact ⟨rfl,rfl,aa.below⟩
    refine Zq hm (fun hb hm=>go ?_) fun hb hm=>go ?_
    ·cases hm;exact ⟨rfl,rfl,aa.below⟩
    exact ⟨ac,by omega,rfl,⟨_,_,_,rfl,hm,aa,rfl⟩⟩
   cases hm;exact ⟨rfl,rfl,aa.below⟩
 refine go ?_;refine Zq hm (fun hb hm=>go ?_) fun hb hm=>?_
 ·exact ⟨rfl,_,_,hm,aa,rfl⟩
 refine X8 ?_;exact ⟨rfl,_,_,hm,aa,rfl⟩
def Zlx (aa:Int) (kk_L1:(List Int→Int→Int→Option Rh)) (ab:List Int) (ac:Int):Option Rh:=
  kk_L1 ab ac (i64.wrap (aa+1))
def Zg6 (aa:List Int) (ab:Int) (ae:Int) (kk_L1:(List Int→Int→Int→Option Rh)) (ac:Int) (af:Int) (ad:Int):Option Rh:=
  Z1 ((aa.length+[u32.wrap (u64.wrap (ad - (u64.wrap (ac+ab))))].length) * 4≤140737488355328∧aa.length+[u32.wrap (u64.wrap (ad - (u64.wrap (ac+ab))))].length≤maxLen) (Zlx ae kk_L1 (aa++[u32.wrap (u64.wrap (ad - (u64.wrap (ac+ab))))]) af)
def Qc (N:Nat) (ab:List Int) (ac:List Int):Nat→R2→Int→Int→Option Rh
  | 0,_,_,_=>none
  | ah+1,ad,ae,aa=>if (decide (aa<(ab.length:Int)))=true then ((Qd ab aa).bind fun af=>(Qd ac aa).bind fun ag=>if (decide (af<(u64.wrap (ag+ae))))=true then (Zg6 ad ae aa (Qc N ab ac ah) ag 1 (u64.wrap (af+4294967296))) else (Zg6 ad ae aa (Qc N ab ac ah) ag 0 af)) else ((Vs N ad).bind fun ai=>some (ai,true))
termination_by structural x=>x
def Zcl (N:Nat) (aa:List Int) (ab:List Int):Option Rh:=
  (Zd5 N aa ab).bind fun ac=>if (decide (ac<0))=true then (some (([]:List Int),false)) else (Qc N aa ab N ([]:List Int) 0 0)
theorem Zla {N au av:Nat} {a0 a1:Option Addr} {col:Zf} {w0:World} {ae af:R2} {r:Rh} (c1:Nat) (hm:Zcl N ae af=some r) (h0:Sl (Za.int .u32) col w0 a0 au ae) (h1:Sl (Za.int .u32) col w0 a1 av af):
    Calls Tryz.prog 228 #[.slice a0 ae.length au,.slice a1 af.length av] w0 (fun e w'=>∃ (col':Zf) (ra1:Option Addr) (rc2:Nat),e= .returned (.tuple #[.slice ra1 r.1.length rc2,.bool r.2])∧Zg col w0 col' w'∧Zc (Za.int .u32) 79 c1 col' w' ra1 rc2 r.1):=by
 refine Zdg 4 5 (m:=43) (args:=[.slice a0 ae.length au,.slice a1 af.length av]) func228 rfl rfl rfl rfl rfl ?_;rw [Zcl.eq_1] at hm;have aa:=St.start col w0;refine go ?_;obtain ⟨bn,ba,hm⟩:=bZ hm;replace h0:=h0.keep (Zj.start col w0);replace h1:=h1.keep (Zj.start col w0);refine Zh (Znp ba (h0.ks aa) (h1.ks aa)) ?_;rintro _ bb ⟨rfl,aw⟩;refine ⟨_,rfl,?_⟩;replace aw:Zg (Zi col) w0 (Zi col) bb:=.of_below aw;refine go ?_;replace aa:=aa.grow aw;refine Zq hm (fun hb hm=>go ?_) fun hb hm=>go ?_
 ·cases hm;exact ⟨rfl,_,none,0,rfl,aa.fin (cm []),Zc.nil⟩
 refine Z8 [0,1,1000000] (fun n f ah=>∃ ab ak al ag ai aj ad,ad=n∧Qc N ae af ad ag ai aj=some r∧St w0 (Zi col) ab ah∧Zc (Za.int .u32) 79 1 ab ah ak al ag∧[6,7,8].map f=[.slice ak ag.length al,.int .u64 ai,.int .i64 aj]) N ⟨_,none,0,_,0,0,_,rfl,hm,aa,Zc.nil,rfl⟩ ?_;clear hm;intro n f ah hI;obtain ⟨ab,ak,al,ag,ai,aj,ad,hn,hm,aa,ac,hs⟩:=hI;subst hn;refine .lL [6,7,8] hs ?_
 cases ad with
 | zero=>rw [Qc.eq_1] at hm;cases hm
 | succ ad=>
  rw [Qc.eq_2] at hm;refine go ?_;refine Zq hm (fun hb hm=>?_) fun hb hm=>go ?_
  ·refine X8<|Zy ?_;refine Wp.cutK [0,1,8,1000000] (fun f ax=>∃ ay az a2 am a3,Zlx aj (Qc N ae af ad) am a3=some r∧St w0 (Zi col) ay ax∧Zc (Za.int .u32) 79 1 ay ax az a2 am∧[6,7].map f=[.slice az am.length a2,.int .u64 a3]) ?_ ?_
   ·intro f ax hJ;obtain ⟨ay,az,a2,am,a3,hm,aa,bc,hs⟩:=hJ;rw [Zlx.eq_1] at hm;refine .lL [6,7] hs<|go ?_;exact ⟨ad,by omega,rfl,⟨_,_,_,_,_,_,_,rfl,hm,aa,bc,rfl⟩⟩
   refine go ?_;obtain ⟨bo,bd,hm⟩:=bZ hm;refine Zh (Zdf bd (h0.ks aa)) ?_;rintro _ a7 ⟨rfl,an⟩;refine ⟨_,rfl,?_⟩;replace an:Zg ab ah ab a7:=.of_below an;refine go ?_;obtain ⟨a8,be,hm⟩:=bZ hm;replace aa:=aa.grow an;refine Zh (Zdf be (h1.ks aa)) ?_;rintro _ bf ⟨rfl,ao⟩;refine ⟨_,rfl,?_⟩;replace ao:Zg ab a7 ab bf:=.of_below ao;refine Xo rfl<|lV _ (Qi _ _ rfl rfl)<|Yu rfl<|Zk<|Zy<|Wd<|Yu rfl<|Zk<|Zy ?_;replace ac:=(ac.gr an).gr ao;replace aa:=aa.grow ao;refine Wp.cutK [0,1,10,6,8,1000000] (fun f a4=>∃ ap a5 aq,Zg6 ag ai aj (Qc N ae af ad) a8 a5 aq=some r∧St w0 (Zi col) ap a4∧Zc (Za.int .u32) 79 1 ap a4 ak al ag∧[7,9].map f=[.int .u64 a5,.int .u64 aq]) ?_ ?_
   ·intro f a4 hJ;obtain ⟨ap,a5,aq,hm,aa,ac,hs⟩:=hJ;rw [Zg6.eq_1] at hm;refine .lL [7,9] hs<|go ?_;refine Wx (col:=ap) [u32.wrap (u64.wrap (aq - (u64.wrap (a8+ai))))] 2 ?_;intro bp bq br a9 bg;obtain ⟨bh,hm⟩:=Z3 hm;replace ac:=ac.gr a9;refine Ws ac (bg.srcN (NB.int (k:=.u32))) bh ?_;intro bs bt bu bv bi bj;refine go ?_;replace aa:=(aa.grow a9).kpp bi;exact ⟨rfl,_,_,_,_,_,hm,aa,bj,rfl⟩
   refine go ?_;refine Zq hm (fun hb hm=>go ?_) fun hb hm=>?_
   ·exact ⟨rfl,_,1,_,hm,aa,ac,rfl⟩
   refine X8 ?_;exact ⟨rfl,_,0,_,hm,aa,ac,rfl⟩
  obtain ⟨bw,bk,hm⟩:=bZ hm;refine Zh (Ut 3 bk (ac.toSlF (Zl.int .u32))) ?_;rintro _ bx ⟨bm,bz,b0,rfl,ar,a6⟩;refine ⟨_,rfl,?_⟩;replace a6:=a6.thaw (Zv .u32) ar ((Fz.refl (col:=ab)).froz 1) (by decide);replace ar:=ar.thawR (col:=ab);generalize Z4 ah.heap.size ab bm=b1 at *;refine go ?_;cases hm;replace aa:=aa.grow ar;exact ⟨rfl,_,_,_,rfl,aa.fin (cm [(3,c1)]),aa.fo a6⟩
def Zg1 (aa:Int) (kk_L1:(List Int→Int→R2→Option Rb)) (ab:List Int) (ac:List Int):Option Rb:=
  kk_L1 ab (i64.wrap (aa - 1)) ac
def Za3 (N:Nat) (ad:List Int) (ab:List Int):Nat→R2→Int→R2→Option Rb
  | 0,_,_,_=>none
  | af+1,ag,aa,ac=>if (decide (0≤aa))=true then ((Zgz ad aa).bind fun ah=>(Zg7 N ag ah).bind fun ai=>(Vs N ai).bind fun ae=>(Zd5 N ae ab).bind fun aj=>if (decide (0≤aj))=true then ((Zcl N ae ab).bind fun ak=>(Zo ac (i64.wrap (Int.tdiv aa 32))).bind fun al=>Z1 (0≤(Int.tmod aa 32)) ((some (ac.set (Int.toNat (i64.wrap (Int.tdiv aa 32))) (u32.wrap (al+(Xq .u32 1 (Int.tmod aa 32)))))).bind fun am=>Zg1 aa (Za3 N ad ab af) ak.1 am)) else (Zg1 aa (Za3 N ad ab af) ae ac)) else ((Vs N ac).bind fun an=>some (an,ag,0))
termination_by structural x=>x
def Zd7 (N:Nat) (ab:List Int) (ad:List Int):Option Rb:=
  (Vs N ad).bind fun ac=>if (decide ((ac.length:Int)=0))=true then (some (([]:List Int),([]:List Int),11)) else ((Za2 N ab).bind fun aa=>Z1 ((Int.toNat (i64.wrap (Int.tdiv (i64.wrap (aa+31)) 32))) * 4≤281474976710656∧(Int.toNat (i64.wrap (Int.tdiv (i64.wrap (aa+31)) 32)))≤maxLen∧0≤(i64.wrap (Int.tdiv (i64.wrap (aa+31)) 32))) (Za3 N ab ac N ([]:List Int) (i64.wrap (aa - 1)) (List.replicate (Int.toNat (i64.wrap (Int.tdiv (i64.wrap (aa+31)) 32))) (0:Int))))
theorem Znq {N bd be:Nat} {a0 a1:Option Addr} {col:Zf} {w0:World} {ak a4:R2} {r:Rb} (c1 c2:Nat) (hm:Zd7 N ak a4=some r) (h0:Sl (Za.int .u32) col w0 a0 bd ak) (h1:Sl (Za.int .u32) col w0 a1 be a4):
    Calls Tryz.prog 272 #[.slice a0 ak.length bd,.slice a1 a4.length be] w0 (fun e w'=>∃ (col':Zf) (ra1:Option Addr) (rc2:Nat) (ra4:Option Addr) (rc5:Nat),e= .returned (.tuple #[.slice ra1 r.1.length rc2,.slice ra4 r.2.1.length rc5,.int .i64 r.2.2])∧Zg col w0 col' w'∧Zc (Za.int .u32) 79 c1 col' w' ra1 rc2 r.1∧Zc (Za.int .u32) 79 c2 col' w' ra4 rc5 r.2.1):=by
 refine Zq7 4 5 6 (m:=61) (args:=[.slice a0 ak.length bd,.slice a1 a4.length be]) func272 rfl rfl rfl rfl rfl ?_;rw [Zd7.eq_1] at hm;have aa:=St.start col w0;refine go ?_;obtain ⟨a5,b3,hm⟩:=bZ hm;replace h1:=h1.keep (Zj.start col w0);refine Zh (Ut 1 b3 (h1.ks aa)) ?_;rintro _ b4 ⟨bf,bt,bu,rfl,b5,ab⟩;refine ⟨_,rfl,go ?_⟩;replace h0:=h0.keep (Zj.start col w0);replace aa:=aa.grow b5;refine Zq hm (fun hb hm=>go ?_) fun hb hm=>go ?_
 ·cases hm;exact ⟨rfl,_,none,0,none,0,rfl,aa.fin (cm []),Zc.nil,Zc.nil⟩
 obtain ⟨bg,b6,hm⟩:=bZ hm;refine Zh (Zno b6 (h0.ks aa)) ?_;rintro _ bv ⟨rfl,a6⟩;refine ⟨_,rfl,?_⟩;replace a6:Zg bf b4 bf bv:=.of_below a6;refine go ?_;refine lV (.int .i64 (i64.wrap (Int.tdiv (i64.wrap (bg+31)) 32))) (Wy (i64.wrap (bg+31)) 32 rfl rfl (by decide)) ?_;obtain ⟨a7,hm⟩:=Z3 hm;refine Sh (col:=bf) (w:=bv) (r:=(Za.int .u32)) (n:=(Int.toNat (i64.wrap (Int.tdiv (i64.wrap (bg+31)) 32)))) (x0:=0) 2 rfl underlying43 Tryz.t79 rfl rfl rfl rfl rfl (congrArg (Value.int _) (Int.toNat_of_nonneg a7.2.2).symm) (congrArg (Value.int _) (Int.toNat_of_nonneg a7.2.2).symm) a7.1 a7.2.1 (S3 .u32 0) ?_;intro cp cq cr bw b7;refine go ?_;replace ab:=(ab.gr a6).gr bw;replace aa:=(aa.grow a6).grow bw;refine Z8 [0,7,1000000] (fun n f ai=>∃ ae bh bi a8 ac av aw al aj,aj=n∧Za3 N ak a5 aj a8 ac al=some r∧St w0 (Zi col) ae ai∧Zc (Za.int .u32) 79 3 ae ai bh bi a8∧Zc (Za.int .u32) 79 1 ae ai bt bu a5∧Zc (Za.int .u32) 79 2 ae ai av aw al∧[10,11,9].map f=[.slice bh a8.length bi,.int .i64 ac,.slice av al.length aw]) N ⟨_,none,0,_,_,_,_,_,_,rfl,hm,aa,Zc.nil,ab,b7,rfl⟩ ?_;clear hm;intro n f ai hI;obtain ⟨ae,bh,bi,a8,ac,av,aw,al,aj,hn,hm,aa,am,ab,ad,hs⟩:=hI;subst hn;refine .lL [10,11,9] hs ?_
 cases aj with
 | zero=>rw [Za3.eq_1] at hm;cases hm
 | succ aj=>
  rw [Za3.eq_2] at hm;refine go ?_;refine Zq hm (fun hb hm=>?_) fun hb hm=>go ?_
  ·refine X8<|Zy ?_;refine Wp.cutK [0,11,7,1000000] (fun f ax=>∃ ay bj bk a9 bm bn ba,Zg1 ac (Za3 N ak a5 aj) a9 ba=some r∧St w0 (Zi col) ay ax∧Zc (Za.int .u32) 79 3 ay ax bj bk a9∧Zc (Za.int .u32) 79 1 ay ax bt bu a5∧Zc (Za.int .u32) 79 2 ay ax bm bn ba∧[10,9].map f=[.slice bj a9.length bk,.slice bm ba.length bn]) ?_ ?_
   ·intro f ax hJ;obtain ⟨ay,bj,bk,a9,bm,bn,ba,hm,aa,b8,ab,b9,hs⟩:=hJ;rw [Zg1.eq_1] at hm;refine .lL [10,9] hs<|go ?_;exact ⟨aj,by omega,rfl,⟨_,_,_,_,_,_,_,_,_,rfl,hm,aa,b8,ab,b9,rfl⟩⟩
   refine go ?_;obtain ⟨cs,ca,hm⟩:=bZ hm;refine Zh (Zqs ca (h0.ks aa)) ?_;rintro _ bx ⟨rfl,an⟩;refine ⟨_,rfl,?_⟩;replace an:Zg ae ai ae bx:=.of_below an;obtain ⟨ct,cb,hm⟩:=bZ hm;replace am:=am.gr an;refine Zh (Zqu 4 cb (am.toSlF (Zl.int .u32))) ?_;rintro _ cc ⟨cd,cu,cv,rfl,ao,bo⟩;refine ⟨_,rfl,?_⟩;replace bo:=bo.thaw (Zv .u32) ao ((Fz.refl (col:=ae)).froz 3) (by decide);replace ao:=ao.thawR (col:=ae);generalize Z4 bx.heap.size ae cd=bp at *;obtain ⟨cw,ce,hm⟩:=bZ hm;refine Zh (Ut 5 ce (bo.toSlF (Zl.int .u32))) ?_;rintro _ cf ⟨cg,cx,cy,rfl,ap,af⟩;refine ⟨_,rfl,?_⟩;replace af:=af.thaw (Zv .u32) ap ((Fz.refl (col:=bp)).froz 4) (by decide);replace ap:=ap.thawR (col:=bp);generalize Z4 cc.heap.size bp cg=az at *;refine go ?_;obtain ⟨cz,ch,hm⟩:=bZ hm;replace ab:=((ab.gr an).gr ao).gr ap;refine Zh (Znp ch ((af.toSlF (Zl.int .u32)).froz 1) ((ab.froz 5 (by decide)).toSlF (Zl.int .u32))) ?_;rintro _ bz ⟨rfl,aq⟩;refine ⟨_,rfl,?_⟩;replace aq:Zg az cf az bz:=.of_below aq;refine go ?_;replace ad:=(((ad.gr an).gr ao).gr ap).gr aq;replace aa:=(((aa.grow an).grow ao).grow ap).grow aq;replace ab:=ab.gr aq;replace af:=af.gr aq;refine Zq hm (fun hb hm=>go ?_) fun hb hm=>?_
   ·obtain ⟨bb,ci,hm⟩:=bZ hm;refine Zh (Zla 6 ci ((af.toSlF (Zl.int .u32)).froz 1) ((ab.froz 5 (by decide)).toSlF (Zl.int .u32))) ?_;rintro _ c0 ⟨cj,b0,b1,rfl,ar,ag⟩;refine ⟨_,rfl,?_⟩;replace ag:=ag.thaw (Zv .u32) ar (((Fz.refl (col:=az)).froz 5).froz 1) (by decide);replace ar:=ar.thawR (col:=az);generalize Z4 bz.heap.size az cj=a2 at *;refine lM (.tuple #[.slice b0 bb.1.length b1,.bool bb.2])<|lV (.slice b0 bb.1.length b1) (Xl rfl rfl)<|lV (.bool bb.2) (Xl rfl rfl)<|go ?_;refine Yv (col:=a2) [(0,1),(1,1),(2,1),(3,1),(4,1),(5,1),(6,1),(7,0),(8,1),(9,1),(10,1),(11,1),(12,1),(13,2)] (by kernel_rfl) (by kernel_rfl)<|xu rfl rfl (fun _=>Vb rfl) ?_;refine xu rfl rfl (fun _=>Vg rfl) ?_;refine xu (v:=(.int .i64 (i64.wrap (Int.tdiv ac 32)))) rfl rfl (fun _=>Wy ac 32 rfl rfl (by decide)) ?_;refine xu rfl rfl (fun _=>Vb rfl) ?_;refine xu rfl rfl (fun _=>Vg rfl) ?_;refine xu (v:=(.int .i64 (i64.wrap (Int.tdiv ac 32)))) rfl rfl (fun _=>Wy ac 32 rfl rfl (by decide)) ?_;obtain ⟨b2,ah,hm⟩:=bZ hm;replace ad:=ad.gr ar;refine xu rfl rfl (fun _=>Wb underlying43 sizeOf79 rfl rfl (Xp ah).1 (Xp ah).2.1 (ad.addr ah)) ?_;refine xW (fun _ hC=>(ad.gr (hC.bl a2)).atInt ah) ?_;refine xu rfl rfl (fun _=>Vg rfl) ?_;refine xu (v:=(.int .i64 (Int.tmod ac 32))) rfl rfl (fun _=>U8 ac 32 rfl rfl (by decide)) ?_;obtain ⟨ck,hm⟩:=Z3 hm;refine xu (v:=(.int .u32 (Xq .u32 1 (Int.tmod ac 32)))) rfl rfl (fun _=>Zbo 1 (Int.tmod ac 32) rfl rfl ck) ?_;refine xu rfl rfl (fun _=>Qi _ _ rfl rfl) ?_;refine xu rfl rfl (fun _=>Wb underlying43 sizeOf79 rfl rfl (Xp ah).1 (Xp ah).2.1 (ad.addr ah)) ?_;refine xe rfl rfl ?_;intro c3 hC0;have hC:=hC0.bl a2;obtain ⟨bq,bc,hm⟩:=bZ hm;have bc:bq=al.set (Int.toNat (i64.wrap (Int.tdiv ac 32))) (u32.wrap (b2+(Xq .u32 1 (Int.tmod ac 32)))):=(Option.some.inj bc).symm;replace ad:=ad.gr hC;refine Yz (x1:=u32.wrap (b2+(Xq .u32 1 (Int.tmod ac 32)))) ad ah ?_;intro c4 br cl au;rw [← bc] at au;refine .ld (d:=9) (v:=(.slice av bq.length aw)) (congrArg (fun n=>Value.slice av n aw) (show al.length=bq.length by rw [bc,List.length_set])) ?_;refine Zk<|xk a2<|Yn ?_;replace ab:=((ab.gr ar).gr hC).kp br;replace aa:=((aa.grow ar).grow hC).kp br cl;replace ag:=(ag.gr hC).kp br;intro c5 hC;replace hC:=hC.bl a2;replace ab:=ab.gr hC;replace ab:=ab.recol 6 3 (by decide);replace au:=au.gr hC
    replace au:=au.recol 6 3 (by decide);replace ag:=ag.gr hC;replace ag:=ag.recolSelf 3 (by decide);replace aa:=aa.grow hC;replace aa:=aa.recol 6 3 (by decide) (by decide);exact ⟨rfl,_,_,_,_,_,_,_,hm,aa,ag,ab,au,rfl⟩
   refine X8 ?_;replace ab:=ab.recol 5 3 (by decide);replace ad:=ad.recol 5 3 (by decide);replace af:=af.recolSelf 3 (by decide);replace aa:=aa.recol 5 3 (by decide) (by decide);exact ⟨rfl,_,_,_,_,_,_,_,hm,aa,af,ab,ad,rfl⟩
  obtain ⟨c6,cn,hm⟩:=bZ hm;refine Zh (Ut 7 cn (ad.toSlF (Zl.int .u32))) ?_;rintro _ c7 ⟨co,c8,c9,rfl,a3,bs⟩;refine ⟨_,rfl,?_⟩;replace bs:=bs.thaw (Zv .u32) a3 ((Fz.refl (col:=ae)).froz 2) (by decide);replace a3:=a3.thawR (col:=ae);generalize Z4 ai.heap.size ae co=da at *;refine go ?_;cases hm;replace am:=am.gr a3;replace aa:=aa.grow a3;exact ⟨rfl,_,_,_,_,_,rfl,aa.fin (cm [(7,c1),(3,c2)]),aa.fo bs,aa.fo am⟩
def Zjt (aa:Bool):Option Bool:=
  some aa
def Zcm (aa:List Int):Option Bool:=
  if (decide ((aa.length:Int)=0))=true then (Zjt true) else ((Zo aa 0).bind fun ab=>Zjt (decide ((Int.tmod ab 2)=0)))
theorem Zlb {ag:Nat} {a0:Option Addr} {col:Zf} {w0:World} {ab:R2} {r:Bool} (hm:Zcm ab=some r) (h0:Sl (Za.int .u32) col w0 a0 ag ab):
    Calls Tryz.prog 289 #[.slice a0 ab.length ag] w0 (fun e w'=>e= .returned ((.bool r))∧Below w0.heap.size w0 w'):=by
 refine Xi 2 (m:=13) func289 rfl rfl rfl rfl rfl ?_;rw [Zcm.eq_1] at hm;have aa:=St.start col w0;refine Zy<|Wd<|Zfq rfl<|Zk<|Zy ?_;replace h0:=h0.keep (Zj.start col w0);refine Wp.cutK [1000000] (fun f ah=>∃ ai ac,Zjt ac=some r∧St w0 (Zi col) ai ah∧[2].map f=[.bool ac]) ?_ ?_
 ·intro f ah hJ;obtain ⟨ai,ac,hm,aa,hs⟩:=hJ;rw [Zjt.eq_1] at hm;refine .lL [2] hs<|Ys ?_;cases hm;exact ⟨rfl,rfl,aa.below⟩
 refine go ?_;refine Xv hm (fun ad hm=>go ?_) fun ad hm=>go ?_
 ·refine lV (.bool true) (Xj (congrArg Value.bool ad) rfl)<|go ?_;exact ⟨rfl,_,_,hm,aa,rfl⟩
 obtain ⟨ae,af,hm⟩:=bZ hm;refine lI af ((h0.ks aa).addr af) ?_;refine go ?_;refine lW ((h0.ks aa).atInt af)<|go ?_;refine lV (.int .u32 (Int.tmod ae 2)) (U8 ae 2 rfl rfl (by decide))<|go ?_;refine lV (.bool (decide ((Int.tmod ae 2)=0))) (Xs (congrArg Value.bool ad) rfl)<|go ?_;exact ⟨rfl,_,_,hm,aa,rfl⟩
def Zec (N:Nat) (ac:List Int):Nat→R2→Int→Int→Option R2
  | 0,_,_,_=>none
  | af+1,ab,ad,aa=>if (decide (0≤aa))=true then ((Zo ac aa).bind fun ae=>(Zo ab aa).bind fun ai=>(some (ab.set (Int.toNat aa) (u32.wrap (u64.wrap (Int.tdiv (u64.wrap ((u64.wrap (ad * 4294967296))+(u64.wrap ae))) 2))))).bind fun ag=>(Zec N ac af) ag (Int.tmod (u64.wrap ((u64.wrap (ad * 4294967296))+(u64.wrap ae))) 2) (i64.wrap (aa - 1))) else ((Vs N ab).bind fun ah=>some ah)
termination_by structural x=>x
def Zcn (N:Nat) (aa:List Int):Option R2:=
  Z1 (aa.length * 4≤281474976710656∧aa.length≤maxLen) (Zec N aa N (List.replicate aa.length (0:Int)) 0 (i64.wrap ((aa.length:Int) - 1)))
theorem Zlc {N au:Nat} {a0:Option Addr} {col:Zf} {w0:World} {ag r:R2} (c1:Nat) (hm:Zcn N ag=some r) (h0:Sl (Za.int .u32) col w0 a0 au ag):
    Calls Tryz.prog 290 #[.slice a0 ag.length au] w0 (fun e w'=>∃ (col':Zf) (ra1:Option Addr) (rc2:Nat),e= .returned ((.slice ra1 r.length rc2))∧Zg col w0 col' w'∧Zc (Za.int .u32) 79 c1 col' w' ra1 rc2 r):=by
 refine Xi 2 (m:=34) func290 rfl rfl rfl rfl rfl ?_;rw [Zcn.eq_1] at hm;have aa:=St.start col w0;refine go ?_;obtain ⟨av,hm⟩:=Z3 hm;refine Sh (col:=(Zi col)) (w:=w0) (r:=(Za.int .u32)) (n:=ag.length) (x0:=0) 1 rfl underlying43 Tryz.t79 rfl rfl rfl rfl rfl rfl rfl av.1 av.2 (S3 .u32 0) ?_;intro a4 a5 a6 ax ay;refine go ?_;replace aa:=aa.grow ax;refine Z8 [0,1000000] (fun n f aj=>∃ ac ah ai ad ab ak ae,ae=n∧Zec N ag ae ad ab ak=some r∧St w0 (Zi col) ac aj∧Zc (Za.int .u32) 79 1 ac aj ah ai ad∧[3,4,5].map f=[.slice ah ad.length ai,.int .u64 ab,.int .i64 ak]) N ⟨_,_,_,_,0,_,_,rfl,hm,aa,ay,rfl⟩ ?_;clear hm;intro n f aj hI;obtain ⟨ac,ah,ai,ad,ab,ak,ae,hn,hm,aa,an,hs⟩:=hI;subst hn;refine .lL [3,4,5] hs ?_;replace h0:=h0.keep (Zj.start col w0)
 cases ae with
 | zero=>rw [Zec.eq_1] at hm;cases hm
 | succ ae=>
  rw [Zec.eq_2] at hm;refine go ?_;refine Zq hm (fun hb hm=>go ?_) fun hb hm=>go ?_
  ·obtain ⟨af,ao,hm⟩:=bZ hm;refine lI ao ((h0.ks aa).addr ao)<|lW ((h0.ks aa).atInt ao) ?_;refine go ?_;refine lV (.int .u64 (u64.wrap (Int.tdiv (u64.wrap ((u64.wrap (ab * 4294967296))+(u64.wrap af))) 2))) (Wy (u64.wrap ((u64.wrap (ab * 4294967296))+(u64.wrap af))) 2 rfl rfl (by decide))<|go ?_;obtain ⟨a7,ap,hm⟩:=bZ hm;refine lI ap (an.addr ap) ?_;obtain ⟨aq,al,hm⟩:=bZ hm;have al:aq=ad.set (Int.toNat ak) (u32.wrap (u64.wrap (Int.tdiv (u64.wrap ((u64.wrap (ab * 4294967296))+(u64.wrap af))) 2))):=(Option.some.inj al).symm;refine Yz (x1:=u32.wrap (u64.wrap (Int.tdiv (u64.wrap ((u64.wrap (ab * 4294967296))+(u64.wrap af))) 2))) an ap ?_;intro a8 az a1 aw;rw [← al] at aw;refine .ld (d:=3) (v:=(.slice ah aq.length ai)) (congrArg (fun n=>Value.slice ah n ai) (show ad.length=aq.length by rw [al,List.length_set])) ?_;refine go ?_;refine lV (.int .u64 (Int.tmod (u64.wrap ((u64.wrap (ab * 4294967296))+(u64.wrap af))) 2)) (U8 (u64.wrap ((u64.wrap (ab * 4294967296))+(u64.wrap af))) 2 rfl rfl (by decide))<|go ?_;replace aa:=aa.kp az a1;exact ⟨ae,by omega,rfl,⟨_,_,_,_,_,_,_,rfl,hm,aa,aw,rfl⟩⟩
  obtain ⟨a9,a2,hm⟩:=bZ hm;refine Zh (Ut 2 a2 (an.toSlF (Zl.int .u32))) ?_;rintro _ ba ⟨a3,bb,bc,rfl,am,ar⟩;refine ⟨_,rfl,?_⟩;replace ar:=ar.thaw (Zv .u32) am ((Fz.refl (col:=ac)).froz 1) (by decide);replace am:=am.thawR (col:=ac);generalize Z4 aj.heap.size ac a3=bd at *;refine go ?_;cases hm;replace aa:=aa.grow am;exact ⟨rfl,_,_,_,rfl,aa.fin (cm [(2,c1)]),aa.fo ar⟩
def Zg3 (N:Nat) (kk_L2:(List Int→R2→Option R2)) (aa:List Int) (ab:List Int):Option R2:=
  (Zcl N ab aa).bind fun ac=>kk_L2 aa ac.1
def Zjs (N:Nat) (kk_L2:(List Int→R2→Option R2)) (ab:List Int) (aa:List Int) (kk_L4:(List Int→Option R2)) (ac:Bool):Option R2:=
  if ac=true then ((Zcn N aa).bind fun ad=>kk_L4 ad) else ((Zd5 N ab aa).bind fun ae=>if (decide (0<ae))=true then (Zg3 N kk_L2 aa ab) else (Zg3 N kk_L2 ab aa))
def Q9 (N:Nat) (kk_L2:(List Int→R2→Option R2)) (aa:List Int):Nat→R2→Option R2
  | 0,_=>none
  | ac+1,ab=>if (decide (0<(ab.length:Int)))=true then ((Zcm ab).bind fun ad=>Zjs N kk_L2 aa ab (Q9 N kk_L2 aa ac) ad) else (Zjs N kk_L2 aa ab (Q9 N kk_L2 aa ac) false)
termination_by structural x=>x
def Zd8 (N:Nat) (ab:List Int) (kk_L2:(List Int→R2→Option R2)):Nat→R2→Option R2
  | 0,_=>none
  | ac+1,aa=>(Zcm aa).bind fun ad=>if ad=true then ((Zcn N aa).bind fun ae=>(Zd8 N ab kk_L2 ac) ae) else (Q9 N kk_L2 aa N ab)
termination_by structural x=>x
def Zd9 (N:Nat) (aa:Int):Nat→R2→Int→Option R2
  | 0,_,_=>none
  | ad+1,ab,ac=>if (decide (ac<aa))=true then ((Zg7 N ab 0).bind fun ae=>(Zd9 N aa ad) ae (i64.wrap (ac+1))) else (some ab)
termination_by structural x=>x
def Ub (N:Nat) (aa:Int):Nat→R2→R2→Option R2
  | 0,_,_=>none
  | ad+1,ab,ac=>if (decide (0<(ac.length:Int)))=true then (Zd8 N ac (Ub N aa ad) N ab) else (Zd9 N aa N ab 0)
termination_by structural x=>x
def Zg2 (N:Nat) (aa:List Int) (ab:List Int) (ac:Int) (kk_L1:(List Int→R2→Int→Option R2)) (ad:Bool):Option R2:=
  if ad=true then ((Zcn N aa).bind fun ae=>(Zcn N ab).bind fun af=>kk_L1 ae af (i64.wrap (ac+1))) else (Ub N ac N aa ab)
def Za4 (N:Nat):Nat→R2→R2→Int→Option R2
  | 0,_,_,_=>none
  | ac+1,aa,ab,ad=>(Zcm aa).bind fun ae=>if ae=true then ((Zcm ab).bind fun af=>Zg2 N aa ab ad (Za4 N ac) af) else (Zg2 N aa ab ad (Za4 N ac) false)
termination_by structural x=>x
def Zjr (N:Nat) (ac:List Int) (ad:List Int):Option R2:=
  (Vs N ac).bind fun aa=>(Vs N ad).bind fun ab=>if (decide ((aa.length:Int)=0))=true then (some ab) else (if (decide ((ab.length:Int)=0))=true then (some aa) else (Za4 N N aa ab 0))
theorem Zy2 {N cs ct:Nat} {a0 a1:Option Addr} {col:Zf} {w0:World} {cb cc r:R2} (c1:Nat) (hm:Zjr N cb cc=some r) (h0:Sl (Za.int .u32) col w0 a0 cs cb) (h1:Sl (Za.int .u32) col w0 a1 ct cc):
    Calls Tryz.prog 271 #[.slice a0 cb.length cs,.slice a1 cc.length ct] w0 (fun e w'=>∃ (col':Zf) (ra1:Option Addr) (rc2:Nat),e= .returned ((.slice ra1 r.length rc2))∧Zg col w0 col' w'∧Zc (Za.int .u32) 79 c1 col' w' ra1 rc2 r):=by
 refine Xi 4 (m:=69) func271 rfl rfl rfl rfl rfl ?_;rw [Zjr.eq_1] at hm;have aa:=St.start col w0;refine go ?_;obtain ⟨dw,c3,hm⟩:=bZ hm;replace h0:=h0.keep (Zj.start col w0);refine Zh (Ut 1 c3 (h0.ks aa)) ?_;rintro _ dx ⟨dy,dz,d0,rfl,c4,bs⟩;refine ⟨_,rfl,go ?_⟩;obtain ⟨d1,c5,hm⟩:=bZ hm;replace h1:=h1.keep (Zj.start col w0);replace aa:=aa.grow c4;refine Zh (Ut 2 c5 (h1.ks aa)) ?_;rintro _ d2 ⟨d3,d4,d5,rfl,cu,cv⟩;refine ⟨_,rfl,go ?_⟩;replace bs:=bs.gr cu;replace aa:=aa.grow cu;refine Zq hm (fun hb hm=>go ?_) fun hb hm=>go ?_
 ·cases hm;exact ⟨rfl,_,_,_,rfl,aa.fin (cm [(2,c1)]),aa.fo cv⟩
 refine Zq hm (fun hb hm=>go ?_) fun hb hm=>go ?_
 ·cases hm;exact ⟨rfl,_,_,_,rfl,aa.fin (cm [(1,c1)]),aa.fo bs⟩
 refine Z8 [1000000] (fun n f a6=>∃ am bt bu au bv bw av ae an,an=n∧Za4 N an au av ae=some r∧St w0 (Zi col) am a6∧Zc (Za.int .u32) 79 1 am a6 bt bu au∧Zc (Za.int .u32) 79 2 am a6 bv bw av∧[5,6,7].map f=[.slice bt au.length bu,.slice bv av.length bw,.int .i64 ae]) N ⟨_,_,_,_,_,_,_,0,_,rfl,hm,aa,bs,cv,rfl⟩ ?_;clear hm;intro n f a6 hI;obtain ⟨am,bt,bu,au,bv,bw,av,ae,an,hn,hm,aa,ag,ad,hs⟩:=hI;subst hn;refine .lL [5,6,7] hs ?_
 cases an with
 | zero=>rw [Za4.eq_1] at hm;cases hm
 | succ an=>
  rw [Za4.eq_2] at hm;refine Zy<|Zy ?_;refine Wp.cutK [5,6,7,1000000] (fun f a7=>∃ ao cd,Zg2 N au av ae (Za4 N an) cd=some r∧St w0 (Zi col) ao a7∧Zc (Za.int .u32) 79 1 ao a7 bt bu au∧Zc (Za.int .u32) 79 2 ao a7 bv bw av∧[26].map f=[.bool cd]) ?_ ?_
  ·intro f a7 hJ;obtain ⟨ao,cd,hm,aa,ag,ad,hs⟩:=hJ;rw [Zg2.eq_1] at hm;refine .lL [26] hs ?_;refine Zq hm (fun hb hm=>go ?_) fun hb hm=>go ?_
   ·obtain ⟨d6,c6,hm⟩:=bZ hm;refine Zh (Zlc 3 c6 (ag.toSlF (Zl.int .u32))) ?_;rintro _ c7 ⟨c8,d7,d8,rfl,a8,ai⟩;refine ⟨_,rfl,?_⟩;replace ai:=ai.thaw (Zv .u32) a8 ((Fz.refl (col:=ao)).froz 1) (by decide);replace a8:=a8.thawR (col:=ao);generalize Z4 a7.heap.size ao c8=ce at *;refine go ?_;obtain ⟨d9,c9,hm⟩:=bZ hm;replace ad:=ad.gr a8;refine Zh (Zlc 4 c9 (ad.toSlF (Zl.int .u32))) ?_;rintro _ ea ⟨da,eb,ec,rfl,a9,ap⟩;refine ⟨_,rfl,?_⟩;replace ap:=ap.thaw (Zv .u32) a9 ((Fz.refl (col:=ce)).froz 2) (by decide);replace a9:=a9.thawR (col:=ce);generalize Z4 c7.heap.size ce da=ed at *;refine go ?_;replace ai:=ai.gr a9;replace ai:=ai.recolSelf 1 (by decide);replace ap:=ap.recol 3 1 (by decide);replace aa:=(aa.grow a8).grow a9;replace aa:=aa.recol 3 1 (by decide) (by decide);replace ai:=ai.recol 4 2 (by decide);replace ap:=ap.recolSelf 2 (by decide);replace aa:=aa.recol 4 2 (by decide) (by decide);exact ⟨an,by omega,rfl,⟨_,_,_,_,_,_,_,_,_,rfl,hm,aa,ai,ap,rfl⟩⟩
   refine Z8 [7,1000000] (fun n f bx=>∃ bz cf cg b0 b1 b2 aw af,af=n∧Ub N ae af b0 aw=some r∧St w0 (Zi col) bz bx∧Zc (Za.int .u32) 79 1 bz bx cf cg b0∧Zc (Za.int .u32) 79 2 bz bx b1 b2 aw∧[5,6].map f=[.slice cf b0.length cg,.slice b1 aw.length b2]) N ⟨_,_,_,_,_,_,_,_,rfl,hm,aa,ag,ad,rfl⟩ ?_;clear hm;intro n f bx hI;obtain ⟨bz,cf,cg,b0,b1,b2,aw,af,hn,hm,aa,cw,ah,hs⟩:=hI;subst hn;refine .lL [5,6] hs ?_
   cases af with
   | zero=>rw [Ub.eq_1] at hm;cases hm
   | succ af=>
    rw [Ub.eq_2] at hm;refine go ?_;refine Zq hm (fun hb hm=>go ?_) fun hb hm=>go ?_
    ·refine Z8 [6,7,1000000] (fun n f ba=>∃ aj bb bc ak ax,ax=n∧Zd8 N aw (Ub N ae af) ax ak=some r∧St w0 (Zi col) aj ba∧Zc (Za.int .u32) 79 1 aj ba bb bc ak∧Zc (Za.int .u32) 79 2 aj ba b1 b2 aw∧[5].map f=[.slice bb ak.length bc]) N ⟨_,_,_,_,_,rfl,hm,aa,cw,ah,rfl⟩ ?_;clear hm;intro n f ba hI;obtain ⟨aj,bb,bc,ak,ax,hn,hm,aa,ab,ah,hs⟩:=hI;subst hn;refine .lL [5] hs ?_
     cases ax with
     | zero=>rw [Zd8.eq_1] at hm;cases hm
     | succ ax=>
      rw [Zd8.eq_2] at hm;refine go ?_;obtain ⟨ee,db,hm⟩:=bZ hm;refine Zh (Zlb db (ab.toSlF (Zl.int .u32))) ?_;rintro _ cx ⟨rfl,bd⟩;refine ⟨_,rfl,?_⟩;replace bd:Zg aj ba aj cx:=.of_below bd;refine Zk ?_;replace ab:=ab.gr bd;replace ah:=ah.gr bd;replace aa:=aa.grow bd;refine Zq hm (fun hb hm=>go ?_) fun hb hm=>go ?_
      ·obtain ⟨ef,dc,hm⟩:=bZ hm;refine Zh (Zlc 5 dc (ab.toSlF (Zl.int .u32))) ?_;rintro _ eg ⟨dd,eh,ei,rfl,be,bf⟩;refine ⟨_,rfl,?_⟩;replace bf:=bf.thaw (Zv .u32) be ((Fz.refl (col:=aj)).froz 1) (by decide);replace be:=be.thawR (col:=aj);generalize Z4 cx.heap.size aj dd=ej at *;refine go ?_;replace ah:=ah.gr be;replace ah:=ah.recol 5 1 (by decide);replace bf:=bf.recolSelf 1 (by decide);replace aa:=aa.grow be;replace aa:=aa.recol 5 1 (by decide) (by decide);exact ⟨ax,by omega,rfl,⟨_,_,_,_,_,rfl,hm,aa,bf,ah,rfl⟩⟩
      refine Z8 [5,7,1000000] (fun n f bg=>∃ ay b3 b4 az aq,aq=n∧Q9 N (Ub N ae af) ak aq az=some r∧St w0 (Zi col) ay bg∧Zc (Za.int .u32) 79 1 ay bg bb bc ak∧Zc (Za.int .u32) 79 2 ay bg b3 b4 az∧[6].map f=[.slice b3 az.length b4]) N ⟨_,_,_,_,_,rfl,hm,aa,ab,ah,rfl⟩ ?_;clear hm;intro n f bg hI;obtain ⟨ay,b3,b4,az,aq,hn,hm,aa,ab,ac,hs⟩:=hI;subst hn;refine .lL [6] hs ?_
      cases aq with
      | zero=>rw [Q9.eq_1] at hm;cases hm
      | succ aq=>
       rw [Q9.eq_2] at hm;refine Zy<|Zy ?_;refine Wp.cutK [5,6,7,1000000] (fun f a2=>∃ al ch,Zjs N (Ub N ae af) ak az (Q9 N (Ub N ae af) ak aq) ch=some r∧St w0 (Zi col) al a2∧Zc (Za.int .u32) 79 1 al a2 bb bc ak∧Zc (Za.int .u32) 79 2 al a2 b3 b4 az∧[46].map f=[.bool ch]) ?_ ?_
       ·intro f a2 hJ;obtain ⟨al,ch,hm,aa,ab,ac,hs⟩:=hJ;rw [Zjs.eq_1] at hm;refine .lL [46] hs ?_;refine Zq hm (fun hb hm=>go ?_) fun hb hm=>?_
        ·obtain ⟨ek,de,hm⟩:=bZ hm;refine Zh (Zlc 6 de (ac.toSlF (Zl.int .u32))) ?_;rintro _ el ⟨df,em,en,rfl,bh,bi⟩;refine ⟨_,rfl,?_⟩;replace bi:=bi.thaw (Zv .u32) bh ((Fz.refl (col:=al)).froz 2) (by decide);replace bh:=bh.thawR (col:=al);generalize Z4 a2.heap.size al df=eo at *;refine go ?_;replace ab:=ab.gr bh;replace ab:=ab.recol 6 2 (by decide);replace bi:=bi.recolSelf 2 (by decide);replace aa:=aa.grow bh;replace aa:=aa.recol 6 2 (by decide) (by decide);exact ⟨aq,by omega,rfl,⟨_,_,_,_,_,rfl,hm,aa,ab,bi,rfl⟩⟩
        refine Zkt (Zi0 ?_);refine Zy ?_;refine Wp.cutK [7,1000000] (fun f bj=>∃ ar ci cj b5 ck cl b6,Zg3 N (Ub N ae af) b5 b6=some r∧St w0 (Zi col) ar bj∧Zc (Za.int .u32) 79 1 ar bj ci cj b5∧Zc (Za.int .u32) 79 2 ar bj ck cl b6∧[5,6].map f=[.slice ci b5.length cj,.slice ck b6.length cl]) ?_ ?_
        ·intro f bj hJ;obtain ⟨ar,ci,cj,b5,ck,cl,b6,hm,aa,a3,dg,hs⟩:=hJ;rw [Zg3.eq_1] at hm;refine .lL [5,6] hs<|go ?_;obtain ⟨b7,dh,hm⟩:=bZ hm;refine Zh (Zla 7 dh ((dg.toSlF (Zl.int .u32)).froz 1) ((a3.froz 2 (by decide)).toSlF (Zl.int .u32))) ?_;rintro _ ep ⟨di,cy,cz,rfl,bk,bm⟩;refine ⟨_,rfl,?_⟩;replace bm:=bm.thaw (Zv .u32) bk (((Fz.refl (col:=ar)).froz 2).froz 1) (by decide);replace bk:=bk.thawR (col:=ar);generalize Z4 bj.heap.size ar di=eq at *;refine lM (.tuple #[.slice cy b7.1.length cz,.bool b7.2])<|lV (.slice cy b7.1.length cz) (Xl rfl rfl)<|lV (.bool b7.2) (Xl rfl rfl)<|go ?_;replace a3:=a3.gr bk;replace a3:=a3.recol 7 2 (by decide);replace bm:=bm.recolSelf 2 (by decide);replace aa:=aa.grow bk;replace aa:=aa.recol 7 2 (by decide) (by decide);exact ⟨af,by omega,rfl,⟨_,_,_,_,_,_,_,_,rfl,hm,aa,a3,bm,rfl⟩⟩
        refine go ?_;obtain ⟨er,dj,hm⟩:=bZ hm;refine Zh (Znp dj ((ab.toSlF (Zl.int .u32)).froz 2) ((ac.froz 1 (by decide)).toSlF (Zl.int .u32))) ?_;rintro _ dl ⟨rfl,bn⟩;refine ⟨_,rfl,?_⟩;replace bn:Zg al a2 al dl:=.of_below bn;refine go ?_;replace ab:=ab.gr bn;replace ac:=ac.gr bn;replace aa:=aa.grow bn;refine Zq hm (fun hb hm=>go ?_) fun hb hm=>?_
        ·replace ac:=ac.recol 1 8 (by decide);replace ab:=ab.recolSelf 8 (by decide);replace aa:=aa.recol 1 8 (by decide) (by decide);replace ac:=ac.recolSelf 1 (by decide);replace ab:=ab.recol 2 1 (by decide);replace aa:=aa.recol 2 1 (by decide) (by decide);replace ac:=ac.recol 8 2 (by decide);replace ab:=ab.recolSelf 2 (by decide);replace aa:=aa.recol 8 2 (by decide) (by decide);exact ⟨rfl,_,_,_,_,_,_,_,hm,aa,ac,ab,rfl⟩
        refine X8 ?_;exact ⟨rfl,_,_,_,_,_,_,_,hm,aa,ab,ac,rfl⟩
       refine go ?_;refine Xv hm (fun cn hm=>go ?_) fun cn hm=>go ?_
       ·obtain ⟨dm,dn,hm⟩:=bZ hm;refine Zh (Zlb dn (ac.toSlF (Zl.int .u32))) ?_;rintro _ dp ⟨rfl,bo⟩;refine ⟨_,rfl,?_⟩;replace bo:Zg ay bg ay dp:=.of_below bo;refine lV (.bool dm) (Xj (congrArg Value.bool cn) rfl)<|Zk ?_;replace ab:=ab.gr bo;replace ac:=ac.gr bo;replace aa:=aa.grow bo;exact ⟨rfl,_,_,hm,aa,ab,ac,rfl⟩
       refine lV (.bool false) (Xs (congrArg Value.bool cn) rfl)<|Zk ?_;exact ⟨rfl,_,_,hm,aa,ab,ac,rfl⟩
    refine Z8 [7,1000000] (fun n f b8=>∃ a4 co cp b9 cq a5,a5=n∧Zd9 N ae a5 b9 cq=some r∧St w0 (Zi col) a4 b8∧Zc (Za.int .u32) 79 1 a4 b8 co cp b9∧[5,8].map f=[.slice co b9.length cp,.int .i64 cq]) N ⟨_,_,_,_,0,_,rfl,hm,aa,cw,rfl⟩ ?_;clear hm;intro n f b8 hI;obtain ⟨a4,co,cp,b9,cq,a5,hn,hm,aa,c0,hs⟩:=hI;subst hn;refine .lL [5,8] hs ?_
    cases a5 with
    | zero=>rw [Zd9.eq_1] at hm;cases hm
    | succ a5=>
     rw [Zd9.eq_2] at hm;refine go ?_;refine Zq hm (fun hb hm=>go ?_) fun hb hm=>go ?_
     ·obtain ⟨es,dq,hm⟩:=bZ hm;refine Zh (Zqu 9 dq (c0.toSlF (Zl.int .u32))) ?_;rintro _ et ⟨dr,eu,ew,rfl,ca,bp⟩;refine ⟨_,rfl,?_⟩;replace bp:=bp.thaw (Zv .u32) ca ((Fz.refl (col:=a4)).froz 1) (by decide);replace ca:=ca.thawR (col:=a4);generalize Z4 b8.heap.size a4 dr=ey at *;refine go ?_;replace bp:=bp.recolSelf 1 (by decide);replace aa:=aa.grow ca;replace aa:=aa.recol 9 1 (by decide) (by decide);exact ⟨a5,by omega,rfl,⟨_,_,_,_,_,_,rfl,hm,aa,bp,rfl⟩⟩
     cases hm;exact ⟨rfl,_,_,_,rfl,aa.fin (cm [(1,c1)]),aa.fo c0⟩
  refine go ?_;obtain ⟨ez,ds,hm⟩:=bZ hm;refine Zh (Zlb ds (ag.toSlF (Zl.int .u32))) ?_;rintro _ c2 ⟨rfl,bq⟩;refine ⟨_,rfl,?_⟩;replace bq:Zg am a6 am c2:=.of_below bq;refine Yo rfl ?_;replace ag:=ag.gr bq;replace ad:=ad.gr bq;replace aa:=aa.grow bq;refine Xv hm (fun cr hm=>go ?_) fun cr hm=>go ?_
  ·obtain ⟨dt,du,hm⟩:=bZ hm;refine Zh (Zlb du (ad.toSlF (Zl.int .u32))) ?_;rintro _ dv ⟨rfl,br⟩;refine ⟨_,rfl,?_⟩;replace br:Zg am c2 am dv:=.of_below br;refine lV (.bool dt) (Xj (congrArg Value.bool cr) rfl)<|Zk ?_;replace ag:=ag.gr br;replace ad:=ad.gr br;replace aa:=aa.grow br;exact ⟨rfl,_,_,hm,aa,ag,ad,rfl⟩
  refine lV (.bool false) (Xs (congrArg Value.bool cr) rfl)<|Zk ?_;exact ⟨rfl,_,_,hm,aa,ag,ad,rfl⟩

end Go.Proofs.YtbmjpjhbankpoaaGreat
