/-
  What functions of the program compute, as plain Lean functions (m_..), and proofs that they compute it (c_..). Printed by a program of the author; no conditions.
-/
import Derived.Test.YtkhnlgdenkikoaaGreatCodeShortBFloat
import Derived.Test.YtkhnlgdenkikoaaGreatProg
import Derived.Test.YtkhnlgdenkikoaaGreatCodeShortBBrief
import Derived.Test.YtkhnlgdenkikoaaGreatCodeShortBMixD
import Derived.Test.YtkhnlgdenkikoaaGreatCodeShortBThree
import Derived.Test.YtkhnlgdenkikoaaGreatCodeShortF3
set_option linter.unusedVariables false
set_option maxRecDepth 100000
set_option maxHeartbeats 2000000
namespace Go.Proofs.YtkhnlgdenkikoaaGreat
open Go Go.RowKit
open Go.IntKind (i8 i16 i32 i64 u8 u16 u32 u64)
open Go.Proofs.Tryz

def Zfw (aa:Nat) (ab:Bool) (ac:List Int) (ad:List Int) (ae:Bool) (af:List Int) (ag:List Int) (kk_L1:(Nat→Bool→R2→R2→Bool→R2→R2→Option Rh)) (ah:Bool):Option Rh:=
  if ah=true then (some ((((false,([]:List Int)),([]:List Int)),((false,([]:List Int)),([]:List Int))),3)) else (kk_L1 (aa+1) ab ac ad ae af ag)
def Ql (N:Nat) (aa:R0) (ad:List Int):List Int→Nat→Bool→R2→R2→Bool→R2→R2→Option Rh
  | [],ac,ae,af,ag,ah,ai,aj=>(Te N aa.2.2.2.1).bind fun ao=>(Zfx N (aa.1,aa.2.1,aa.2.2.1,aa.2.2.2.1,aa.2.2.2.2) ao.1 ad).bind fun ab=>(Zcg N ((ab.2.1.1.1.1,ab.2.1.1.1.2),ab.2.1.1.2)).bind fun ak=>(Zcg N ((ab.2.1.2.1.1,ab.2.1.2.1.2),ab.2.1.2.2)).bind fun al=>some ((((ak.1.1,ak.1.2),ak.2),((al.1.1,al.1.2),al.2)),0)
  | am :: an,ac,ae,af,ag,ah,ai,aj=>if (decide (am<0))=true then (Zfw ac ae af ag ah ai aj (Ql N aa ad an) true) else ((Zp aa.2.2.1 (ac:Int)).bind fun ap=>Zfw ac ae af ag ah ai aj (Ql N aa ad an) (decide ((ap.length:Int)≤am)))
termination_by structural x=>x
def Zcd (N:Nat) (aa:R0) (ab:List Int):Option Rh:=
  (Vn N (aa.1,aa.2.1,aa.2.2.1,aa.2.2.2.1,aa.2.2.2.2)).bind fun ac=>if (!decide (ac=0))=true then (some ((((false,([]:List Int)),([]:List Int)),((false,([]:List Int)),([]:List Int))),ac)) else (if (!decide ((ab.length:Int)=(aa.2.1.length:Int)))=true then (some ((((false,([]:List Int)),([]:List Int)),((false,([]:List Int)),([]:List Int))),3)) else (Ql N aa ab ab 0 false ([]:List Int) ([]:List Int) false ([]:List Int) ([]:List Int)))
theorem Zq8 {N bj bk bm bn au:Nat} {bo bp bq br a1:Option Addr} {col:Ze} {w0:World} {ab:R0} {ag:R2} {r:Rh} (c1 c2 c3 c4:Nat) (hm:Zcd N ab ag=some r) (bs:Sl Za.str col w0 bo bj ab.2.1) (av:Sl (Za.slice Za.str) col w0 bp bk ab.2.2.1) (az:Sl (Za.slice (Za.int .i64)) col w0 bq bm ab.2.2.2.1) (bt:Sl (Za.slice (Za.pair (Za.pair Za.bool (Za.slice (Za.int .u32))) (Za.slice (Za.int .u32)))) col w0 br bn ab.2.2.2.2) (h1:Sl (Za.int .i64) col w0 a1 au ag):
    Calls prog 37 #[(.agg #[.string ab.1,.slice bo ab.2.1.length bj,.slice bp ab.2.2.1.length bk,.slice bq ab.2.2.2.1.length bm,.slice br ab.2.2.2.2.length bn]),.slice a1 ag.length au] w0 (fun e w'=>∃ (col':Ze) (ra1:Option Addr) (rc2:Nat) (ra4:Option Addr) (rc5:Nat) (ra7:Option Addr) (rc8:Nat) (ra10:Option Addr) (rc11:Nat),e= .returned (.tuple #[(.agg #[.bool r.1.1.1.1,.slice ra1 r.1.1.1.2.length rc2,.slice ra4 r.1.1.2.length rc5,.bool r.1.2.1.1,.slice ra7 r.1.2.1.2.length rc8,.slice ra10 r.1.2.2.length rc11]),.int .i64 r.2])∧Zf col w0 col' w'∧Zc (Za.int .u32) 95 c1 col' w' ra1 rc2 r.1.1.1.2∧Zc (Za.int .u32) 95 c2 col' w' ra4 rc5 r.1.1.2∧Zc (Za.int .u32) 95 c3 col' w' ra7 rc8 r.1.2.1.2∧Zc (Za.int .u32) 95 c4 col' w' ra10 rc11 r.1.2.2):=by
 refine Y2 (m:=69) func37 rfl rfl rfl ?_;rw [Zcd.eq_1] at hm;have aa:=St.start col w0;refine go ?_;refine Xv (col:=(Zk col)) 1 rfl ?_;intro co d8 c5 c6 ae;refine Zdw (col:=c5) (v:=(.slice a1 ag.length au)) 2 rfl rfl ?_;intro bu c7 cp cq af;replace af:Zj 33 2 cp c7 bu #[.slice a1 ag.length au]:=af;refine Xj (col:=cp) #[.bool false,.slice none (([]:List Int).length) 0,.slice none (([]:List Int).length) 0,.bool false,.slice none (([]:List Int).length) 0,.slice none (([]:List Int).length) 0] 3 zeroValue68 ?_;intro cr c8 cs b4 ac;refine go ?_;replace ae:=(ae.gr cq).gr b4;refine lV _ (Xb isAgg27 sizeOf27 ae) ?_;obtain ⟨d9,c9,hm⟩:=bZ hm;replace bs:=bs.keep (Zl.start col w0);replace av:=av.keep (Zl.start col w0);replace az:=az.keep (Zl.start col w0);replace bt:=bt.keep (Zl.start col w0);replace aa:=((aa.grow c6).grow cq).grow b4;refine Zh (Zia c9 (bs.ks aa) (av.ks aa) (az.ks aa) (bt.ks aa)) ?_;rintro _ da ⟨rfl,aw⟩;refine ⟨_,rfl,?_⟩;replace aw:Zf cs c8 cs da:=.of_below aw;refine go ?_;replace h1:=h1.keep (Zl.start col w0);replace af:=(af.gr b4).gr aw;replace ae:=ae.gr aw;replace ac:=ac.gr aw;replace aa:=aa.grow aw;refine Zq hm (fun hb hm=>go ?_) fun hb hm=>go ?_
 ·refine lV (.agg #[.bool false,.slice none (([]:List Int).length) 0,.slice none (([]:List Int).length) 0,.bool false,.slice none (([]:List Int).length) 0,.slice none (([]:List Int).length) 0]) (Yo (l:=[_,_]) (qs:=[(0,3),(3,3)]) underlying68 zeroValue68 ⟨rfl,sizeOf39,rfl,sizeOf39,trivial⟩ rfl)<|Yf rfl<|Zw ac ?_;intro ea db dc dd;refine go ?_;cases hm;replace aa:=aa.kp db dc;exact ⟨rfl,_,Tw dd.atN,_,none,0,none,0,none,0,none,0,rfl,aa.fin (cm []),Zc.nil,Zc.nil,Zc.nil,Zc.nil⟩
 refine lW af.at1<|go ?_;refine Xz ae ?_;refine go ?_;refine Zq hm (fun hb hm=>go ?_) fun hb hm=>go ?_
 ·refine lV (.agg #[.bool false,.slice none (([]:List Int).length) 0,.slice none (([]:List Int).length) 0,.bool false,.slice none (([]:List Int).length) 0,.slice none (([]:List Int).length) 0]) (Yo (l:=[_,_]) (qs:=[(0,3),(3,3)]) underlying68 zeroValue68 ⟨rfl,sizeOf39,rfl,sizeOf39,trivial⟩ rfl)<|Zw ac ?_;intro eb de df dg;refine go ?_;cases hm;replace aa:=aa.kp de df;exact ⟨rfl,_,Tw dg.atN,_,none,0,none,0,none,0,none,0,rfl,aa.fin (cm []),Zc.nil,Zc.nil,Zc.nil,Zc.nil⟩
 refine lW af.at1<|go ?_;refine Z9 [2,27,28,3,4,1000000] (fun n f ah=>∃ ai al a0 a2 a3 am a4 a5 an a6 a7 a8 ao a9 ba ap bb,n=bb.length∧ag.drop al=bb∧Ql N ab ag bb al a0 am an a6 ao ap=some r∧St w0 (Zk col) ai ah∧Zj 27 1 ai ah co #[.string ab.1,.slice bo ab.2.1.length bj,.slice bp ab.2.2.1.length bk,.slice bq ab.2.2.2.1.length bm,.slice br ab.2.2.2.2.length bn]∧Zj 33 2 ai ah bu #[.slice a1 ag.length au]∧Zc (Za.int .u32) 95 4 ai ah a2 a3 am∧Zc (Za.int .u32) 95 5 ai ah a4 a5 an∧Zc (Za.int .u32) 95 6 ai ah a7 a8 ao∧Zc (Za.int .u32) 95 7 ai ah a9 ba ap∧Zj 68 3 ai ah cr #[.bool a0,.slice a2 am.length a3,.slice a4 an.length a5,.bool a6,.slice a7 ao.length a8,.slice a9 ap.length ba]∧[29].map f=[.int .i64 al]) ag.length ⟨_,0,_,none,0,_,none,0,_,_,none,0,_,none,0,_,_,rfl,rfl,hm,aa,ae,af,Zc.nil,Zc.nil,Zc.nil,Zc.nil,ac,rfl⟩ ?_;clear hm;intro n f ah hI;obtain ⟨ai,al,a0,a2,a3,am,a4,a5,an,a6,a7,a8,ao,a9,ba,ap,bb,hn,hl,hm,aa,ae,af,bv,bw,bx,bz,ac,hs⟩:=hI;subst hn;refine .lL [29] hs ?_
 cases bb with
 | nil=>
  have hk:¬ ((al:Int)<(ag.length:Int)):=by have:=List.drop_eq_nil_iff.1 hl;omega
  have hkb:=decide_eq_false hk;rw [Ql.eq_1] at hm;refine go ?_;refine X9 (congrArg Value.bool hkb)<|go ?_;refine Xz ae ?_;obtain ⟨b0,dh,hm⟩:=bZ hm;refine Zh (Znp 8 dh (az.ks aa)) ?_;rintro _ ec ⟨ed,ct,cu,rfl,b1,b5⟩;refine ⟨_,rfl,?_⟩;refine lM (.tuple #[.slice ct b0.1.length cu,.int .i64 b0.2])<|lV (.slice ct b0.1.length cu) (Xf rfl rfl)<|lV (.int .i64 b0.2) (Xf rfl rfl)<|go ?_;replace ae:=ae.gr b1;refine lV _ (Xb isAgg27 sizeOf27 ae)<|Wt rfl<|lV (.func (.func 119) #[] #[.pointer (some ⟨bu,0,none⟩)]) (Zps rfl) ?_;replace b5:=(b5).toSlF (Zg.int .i64);replace af:=af.gr b1;replace af:=af.froz 8 (by decide);replace ac:=ac.gr b1;replace ac:=ac.froz 8 (by decide);replace aa:=aa.grow b1;replace aa:=aa.froz 8 (by decide) (by decide);obtain ⟨ad,di,hm⟩:=bZ hm;refine Zh (Zyv 9 2 di (by decide) (bs.ks aa) (av.ks aa) (az.ks aa) (bt.ks aa) b5 (h1.ks aa) af) ?_;rintro _ ee ⟨dj,cv,cw,b6,b7,b8,b9,ca,cb,cc,cd,rfl,cx,ef,ce,cf,bc,bd⟩;refine ⟨_,rfl,?_⟩;refine lM (.tuple #[.slice cv ad.1.length cw,(.agg #[.bool ad.2.1.1.1.1,.slice b6 ad.2.1.1.1.2.length b7,.slice b8 ad.2.1.1.2.length b9,.bool ad.2.1.2.1.1,.slice ca ad.2.1.2.1.2.length cb,.slice cc ad.2.1.2.2.length cd]),.bool ad.2.2])<|lV (.slice cv ad.1.length cw) (Xf rfl rfl)<|lV (.agg #[.bool ad.2.1.1.1.1,.slice b6 ad.2.1.1.1.2.length b7,.slice b8 ad.2.1.1.2.length b9,.bool ad.2.1.2.1.1,.slice ca ad.2.1.2.1.2.length cb,.slice cc ad.2.1.2.2.length cd]) (Xf rfl rfl)<|lV (.bool ad.2.2) (Xf rfl rfl)<|Xj (col:=dj) #[.bool false,.slice none (([]:List Int).length) 0,.slice none (([]:List Int).length) 0,.bool false,.slice none (([]:List Int).length) 0,.slice none (([]:List Int).length) 0] 10 zeroValue68 ?_;intro eg eh b2 ax dl;refine Q6 rfl<|Zw dl ?_;intro ei ay dm cy;refine go ?_;refine Wi (col:=b2) [(0,1),(1,0),(3,1),(4,0),(2,3),(5,3),(6,1),(7,2),(8,1)] (by kernel_rfl) (by kernel_rfl)<|xF ⟨_,_,rfl⟩ ?_;refine xv (v:=(.agg #[.bool ad.2.1.1.1.1,.slice b6 ad.2.1.1.1.2.length b7,.slice b8 ad.2.1.1.2.length b9])) rfl rfl (fun _ hC=>Xt isAgg39 sizeOf39 rfl rfl (((cy.atN).part 0 3 _ rfl).gr (hC.bl b2))) ?_;refine xF ⟨_,_,rfl⟩ ?_
  refine xv (v:=(.agg #[.bool ad.2.1.2.1.1,.slice ca ad.2.1.2.1.2.length cb,.slice cc ad.2.1.2.2.length cd])) rfl rfl (fun _ hC=>Xt isAgg39 sizeOf39 rfl rfl (((cy.atN).part 3 3 _ rfl).gr (hC.bl b2))) ?_;refine xe rfl rfl ?_;intro ej hC0;have hC:=hC0.bl b2;obtain ⟨cg,dn,hm⟩:=bZ hm;replace ce:=((ce.gr ax).kp ay).gr hC;replace cf:=((cf.gr ax).kp ay).gr hC;refine Zh (Zq9 11 12 dn ce cf) ?_;rintro _ ek ⟨cz,dp,dq,dr,ds,rfl,be,aq,ar⟩;refine ⟨_,rfl,?_⟩;refine Zm<|X4 cz hC0 be<|xe rfl rfl ?_;intro el hC0;replace ac:=((((ac.gr cx).gr ax).kp ay).gr hC).gr be;replace aa:=((((aa.grow cx).grow ax).kp ay dm).grow hC).grow be;replace bc:=(((bc.gr ax).kp ay).gr hC).gr be;replace bd:=(((bd.gr ax).kp ay).gr hC).gr be;have hC:=hC0.bl cz;obtain ⟨ch,dt,hm⟩:=bZ hm;replace bc:=bc.gr hC;replace bd:=bd.gr hC;refine Zh (Zq9 13 14 dt bc bd) ?_;rintro _ em ⟨b3,du,dv,dw,dx,rfl,bf,bg,bh⟩;refine ⟨_,rfl,?_⟩;refine Zm<|X4 b3 hC0 bf<|xu (v:=(.agg #[.bool cg.1.1,.slice dp cg.1.2.length dq,.slice dr cg.2.length ds,.bool ch.1.1,.slice du ch.1.2.length dv,.slice dw ch.2.length dx])) rfl rfl (fun _=>Yo (l:=[_,_]) (qs:=[(0,3),(3,3)]) underlying68 zeroValue68 ⟨rfl,sizeOf39,rfl,sizeOf39,trivial⟩ rfl) ?_;refine xe rfl rfl ?_;intro en hC0;replace aq:=(aq.gr hC).gr bf;replace ar:=(ar.gr hC).gr bf;replace ac:=(ac.gr hC).gr bf;replace aa:=(aa.grow hC).grow bf;have hC:=hC0.bl b3;replace ac:=ac.gr hC;refine Zw ac ?_;intro eo bi dy ci;refine Zm<|xk b3<|xu rfl rfl (fun _=>Zhs rfl) ?_;refine Wf ?_;replace aq:=(aq.gr hC).kp bi;replace ar:=(ar.gr hC).kp bi;replace bg:=(bg.gr hC).kp bi;replace bh:=(bh.gr hC).kp bi;replace aa:=(aa.grow hC).kp bi dy;intro ep hC;replace hC:=hC.bl b3;refine W4 ?_;cases hm;replace aq:=aq.gr hC;replace ar:=ar.gr hC;replace bg:=bg.gr hC;replace bh:=bh.gr hC;replace ci:=ci.gr hC;replace aa:=aa.grow hC;exact ⟨rfl,_,Tw ci.atN,_,_,_,_,_,_,_,_,_,rfl,aa.fin (cm [(11,c1),(12,c2),(13,c3),(14,c4)]),aa.fo aq,aa.fo ar,aa.fo bg,aa.fo bh⟩
 | cons dz c0=>
  obtain ⟨cj,d0,d1⟩:=Ym hl;have hk:(al:Int)<(ag.length:Int):=by omega
  have hkb:=decide_eq_true hk;rw [Ql.eq_2] at hm;refine go ?_;refine Yc (congrArg Value.bool hkb)<|go ?_;refine lI cj ((h1.ks aa).addr cj)<|lW ((h1.ks aa).atInt cj)<|Yx rfl<|Yx rfl<|Zm<|Zv ?_;refine Wp.cutK [2,27,28,29,3,4,1000000] (fun f aj=>∃ ak ck,Zfw al a0 am an a6 ao ap (Ql N ab ag c0) ck=some r∧St w0 (Zk col) ak aj∧Zj 27 1 ak aj co #[.string ab.1,.slice bo ab.2.1.length bj,.slice bp ab.2.2.1.length bk,.slice bq ab.2.2.2.1.length bm,.slice br ab.2.2.2.2.length bn]∧Zj 33 2 ak aj bu #[.slice a1 ag.length au]∧Zc (Za.int .u32) 95 4 ak aj a2 a3 am∧Zc (Za.int .u32) 95 5 ak aj a4 a5 an∧Zc (Za.int .u32) 95 6 ak aj a7 a8 ao∧Zc (Za.int .u32) 95 7 ak aj a9 ba ap∧Zj 68 3 ak aj cr #[.bool a0,.slice a2 am.length a3,.slice a4 an.length a5,.bool a6,.slice a7 ao.length a8,.slice a9 ap.length ba]∧[45].map f=[.bool ck]) ?_ ?_
  ·intro f aj hJ;obtain ⟨ak,ck,hm,aa,ae,af,bv,bw,bx,bz,ac,hs⟩:=hJ;rw [Zfw.eq_1] at hm;refine .lL [45] hs ?_;refine Zq hm (fun hb hm=>go ?_) fun hb hm=>go ?_
   ·refine lV (.agg #[.bool false,.slice none (([]:List Int).length) 0,.slice none (([]:List Int).length) 0,.bool false,.slice none (([]:List Int).length) 0,.slice none (([]:List Int).length) 0]) (Yo (l:=[_,_]) (qs:=[(0,3),(3,3)]) underlying68 zeroValue68 ⟨rfl,sizeOf39,rfl,sizeOf39,trivial⟩ rfl)<|Zw ac ?_;intro eq d2 d3 d4;refine go ?_;cases hm;replace aa:=aa.kp d2 d3;exact ⟨rfl,_,Tw d4.atN,_,none,0,none,0,none,0,none,0,rfl,aa.fin (cm []),Zc.nil,Zc.nil,Zc.nil,Zc.nil⟩
   exact ⟨c0.length,by simp,rfl,⟨_,_,_,_,_,_,_,_,_,_,_,_,_,_,_,_,_,rfl,d0,hm,aa,ae,af,bv,bw,bx,bz,ac,(Ys (congrArg (Value.int .i64) (Yp (Nat.lt_of_lt_of_le d1 (h1.ks aa).1.1))) rfl)⟩⟩
  refine go ?_;refine X8 hm (fun cl hm=>go ?_) fun cl hm=>go ?_
  ·refine lV (.bool true) (Xr (congrArg Value.bool cl) rfl)<|Zm ?_;exact ⟨rfl,_,_,hm,aa,ae,af,bv,bw,bx,bz,ac,rfl⟩
  refine Xx ⟨_,_,rfl⟩ ?_;refine go ?_;refine lW ((ae.atN).nth (q:=2) rfl)<|go ?_;obtain ⟨d5,cn,hm⟩:=bZ hm;refine lI cn ((av.ks aa).addr cn) ?_;refine go ?_;obtain ⟨_,d6,d7⟩:=(av.ks aa).atN cn;obtain ⟨⟨er,es,rfl,et⟩,_⟩:=d6;refine lW d7.one<|go ?_;refine lV (.bool (decide ((d5.length:Int)≤dz))) (Xh (congrArg Value.bool cl) rfl)<|Zm ?_;exact ⟨rfl,_,_,hm,aa,ae,af,bv,bw,bx,bz,ac,rfl⟩
section
variable {N K:Nat} {n:Z2} (hf:Yq N n) (hr:Xi N (8 * K+40))
include hf hr
variable (nv:List Int) (b1:Bool) (l1 l2:List Int) (b3:Bool) (l3 l4:List Int) (w:List Int) (hw:X2 n w)
 (kk:Bool→List Int→List Int→Bool→List Int→List Int→List Int→Bool→List Int→List Int→Bool→List Int→List Int→List Int→T3)
include hw
theorem Zsg {v:Nat} (hv:v<n.2.1.length) (hl:∀ x ∈ Z1 n w v,Vr x∧max x.1.2.length x.2.length≤K) {long:Rat} (hlong:qs long≤K) (F:List (QV×QV)→T3)
  (hF:∀ P:List (QV×QV),((Zfv (v:Int) P nv).bind fun r=>if (decide (r<0))=true then (some (([]:List Int),(((false,([]:List Int)),([]:List Int)),((false,([]:List Int)),([]:List Int))),false)) else ((Zp P r).bind fun e=>(Zp w (v:Int)).bind fun _=>(some (w.set (Int.toNat (v:Int)) r)).bind fun xs=>kk e.1.1.1 e.1.1.2 e.1.2 e.2.1.1 e.2.1.2 e.2.2 nv b1 l1 l2 b3 l3 l4 xs))=F P):
  ∀ (l:List QV) (f j:Nat) (a:Rat) (parts:List (QV×QV)),(Z1 n w v).drop j=l→j≤cnt n v→cnt n v<f+j→qs a≤K→(∀ p ∈ Xs long l a,qs p.1≤K∧qs p.2≤K)→parts.length=j→
   Zd0 N n nv b1 l1 l2 b3 l3 l4 w kk (v:Int) (Y8 n w v:Int) (Zn long) (n.2.2.1.getD v []) f (Zn a).1.1 (Zn a).1.2 (Zn a).2 parts (j:Int)=F (parts++(Xs long l a).map Y0)
 | l,0,j,a,parts,_,h1,h2,_,_,_=>by omega
 | l,f+1,j,a,parts,hd,h1,h2,ha,hp,hpl=>by
  have hlen:=hf.rowT_len hw hv
  have hrow:=hf.row hw hv
  have hrows:=hf.rows hv
  rw [Zd0.eq_2]
  cases l with
  | nil=>
   have h3:=List.drop_eq_nil_iff.1 hd
   rw [if_neg (dF (by rw [cnt] at h1 hlen;omega)),hF,Xs,List.map_nil,List.append_nil]
  | cons y l=>
   have hj:j<(Z1 n w v).length:=by
    rcases Nat.lt_or_ge j (Z1 n w v).length with h | h
    ·exact h
    ·rw [List.drop_eq_nil_of_le h] at hd;cases hd
   have hy:(Z1 n w v)[j]=y∧(Z1 n w v).drop (j+1)=l:=by
    rw [List.drop_eq_getElem_cons hj] at hd
    exact List.cons.inj hd
   have hyK:=hl y (hy.1 ▸ List.getElem_mem hj)
   have hjc:j<cnt n v:=by omega
   have hq:=hp _ List.mem_cons_self
   have e0:(0:Int)≤((Y8 n w v * cnt n v:Nat):Int):=Int.natCast_nonneg _
   have e1:i64.wrap ((Y8 n w v:Int) * ((n.2.2.1.getD v []).length:Int))=((Y8 n w v * cnt n v:Nat):Int):=by
    rw [show ((n.2.2.1.getD v []).length:Int)=((cnt n v:Nat):Int) from rfl,← Int.natCast_mul]
    exact Zz (by omega)
   have e2:i64.wrap (((Y8 n w v * cnt n v:Nat):Int)+(j:Int))=((Y8 n w v * cnt n v+j:Nat):Int):=by
    rw [← Int.natCast_add]
    exact Zz (by omega)
   have r1:=Zdk hyK.1.1 hyK.1.2
   have m1:Uv N (((Zn long).1.1,(Zn long).1.2),(Zn long).2) ((y.1.1,y.1.2),y.2)=some (Zn (long * Zu y)):=by
    have:=Zih (Y4 hlong) (r1.mono hyK.2) (hr.mono (by omega))
    rwa [Y3] at this
   have s1:qs (long * Zu y)≤K+(K+1):=by
    have h4:=Zdi long (Zu y)
    have h5:=Zmt hyK.1
    omega
   have a1:V4 N (((Zn a).1.1,(Zn a).1.2),(Zn a).2) (((Zn (long * Zu y)).1.1,(Zn (long * Zu y)).1.2),(Zn (long * Zu y)).2)=some (Zn (a+long * Zu y)):=by
    have:=Zb7 (Y4 ha) (Y4 s1) (hr.mono (by omega))
    rwa [Y3,Y3] at this
   rw [if_pos (dT (by rw [cnt] at hjc;omega)),Wx [] (by rw [hf.ev.t];exact hv),oB,Wx [] (by rw [hf.ev.v];exact hv),oB,e1,e2,Zp6 hj,hy.1,oB,m1,oB,a1,oB,
    Xg (by simp only [List.length_singleton,maxLen];omega),Zz (x:=(j:Int)+1) (by omega)]
   have ih:=Zsg hv hl hlong F hF l f (j+1) (a+long * Zu y) (parts++[Y0 (a,a+long * Zu y)]) hy.2 (by omega) (by omega) hq.2 (fun p h=>hp p (List.mem_cons_of_mem _ h)) (by rw [nA,List.length_singleton];omega)
   rw [List.append_assoc] at ih
   exact ih
omit hr in
theorem Zsf (a b:QV) (x:Int):∀ (ps:List Int) (r k:Nat),(∀ q ∈ ps,0≤q∧q<(n.2.1.length:Int))→r<k→k≤65536→Y9 n.2.2.1 ps k≤65536→
  Zbc N n a.1.1 a.1.2 a.2 b.1.1 b.1.2 b.2 nv b1 l1 l2 b3 l3 l4 w kk x ps (r:Int)=Zbc N n a.1.1 a.1.2 a.2 b.1.1 b.1.2 b.2 nv b1 l1 l2 b3 l3 l4 w kk x [] (Tj n w ps r:Int)
 | [],r,k,_,_,_,_=>rfl
 | p :: ps,r,k,hp,h1,h2,h3=>by
  obtain ⟨g1,g2,g3⟩:=Zm5 hf.ev hw hp h1 h2 h3
  have hpp:=hp p List.mem_cons_self
  have hwp:=hw.ok p.toNat (by rw [hw.len];omega)
  have g4:r * cnt n p.toNat≤k * cnt n p.toNat:=Nat.mul_le_mul_right _ (by omega)
  have q1:Zp n.2.2.1 p=some (n.2.2.1.getD p.toNat []):=by
   have:=Wx (l:=n.2.2.1) [] (j:=p.toNat) (by rw [hf.ev.v];omega)
   rwa [show ((p.toNat:Nat):Int)=p by omega] at this
  have q2:Zp w p=some (w.getD p.toNat 0):=by
   have:=Wx (l:=w) 0 (j:=p.toNat) (by rw [hw.len];omega)
   rwa [show ((p.toNat:Nat):Int)=p by omega] at this
  have e1:i64.wrap ((r:Int) * ((n.2.2.1.getD p.toNat []).length:Int))=((r * cnt n p.toNat:Nat):Int):=by
   rw [show ((n.2.2.1.getD p.toNat []).length:Int)=((cnt n p.toNat:Nat):Int) from rfl,← Int.natCast_mul]
   exact Zz (by omega)
  have e2:i64.wrap (((r * cnt n p.toNat:Nat):Int)+w.getD p.toNat 0)=((r * cnt n p.toNat+(w.getD p.toNat 0).toNat:Nat):Int):=by
   rw [Int.natCast_add,show (((w.getD p.toNat 0).toNat:Nat):Int)=w.getD p.toNat 0 by omega]
   exact Zz (by omega)
  rw [Zbc.eq_2,q1,oB,q2,oB,e1,e2]
  exact Zsf a b x ps _ _ (fun q hq=>hp q (List.mem_cons_of_mem _ hq)) g1 g2 g3
end
theorem Zse {N W K:Nat} {n:Z2} (hf:Yq N n) (hs:Wk n W) (hr:Xi N (8 * K+40)) (hWK:W≤K) (hN:65536<N) {nv:List Int} (hnv:X2 n nv) {ord:List Int} (ho:V0 n.2.2.2.1 ord):∀ (l pre w:List Int) (s:Rat×Rat) (D M:Nat) (b1:Bool) (l1 l2:List Int) (b3:Bool) (l3 l4:List Int),ord=pre++l→X2 n w→(∀ p ∈ pre,w.getD p.toNat 0=nv.getD p.toNat 0)→U9 D M s→
  (Zd M).length+(Zd D).length+l.length * (W+2)+2≤K→
  ∃ w',Qm N n l (Zn s.1).1.1 (Zn s.1).1.2 (Zn s.1).2 (Zn s.2).1.1 (Zn s.2).1.2 (Zn s.2).2 nv b1 l1 l2 b3 l3 l4 w=some (w',Y0 (Xe n nv l s),true)
 | [],pre,w,s,D,M,b1,l1,l2,b3,l3,l4,_,_,_,_,_=>⟨w,rfl⟩
 | v :: l,pre,w,s,D,M,b1,l1,l2,b3,l3,l4,he,hw,hag,hL,hK=>by
  have hvr:=ho.rg v (by rw [he];simp)
  rw [hf.ev.p] at hvr
  obtain ⟨k,rfl⟩:∃ k:Nat,v=(k:Int):=⟨v.toNat,by omega⟩
  have hv:k<n.2.1.length:=by omega
  have hpar:∀ p ∈ n.2.2.2.1.getD k [],w.getD p.toNat 0=nv.getD p.toNat 0:=fun p hp=>hag p (ho.up pre k l he p (by rw [Int.toNat_natCast];exact hp))
  have hrow:Y8 n w k=Y8 n nv k:=Zm4 _ _ hpar
  have hrT:Z1 n w k=Z1 n nv k:=by rw [Z1,Z1,hrow]
  obtain ⟨D',M',c1,c2,c3⟩:=Zot hf hs hw hv hL
  have hKs:(l.length+1) * (W+2)=l.length * (W+2)+(W+2):=by rw [Nat.add_mul,Nat.one_mul]
  rw [nC,hKs] at hK
  have hrows:=hf.rows hv
  have hcl:cnt n k≤65536:=by have:=(hf.row hw hv).1;omega
  have hsub:Qq N (((Zn s.2).1.1,(Zn s.2).1.2),(Zn s.2).2) (((Zn s.1).1.1,(Zn s.1).1.2),(Zn s.1).2)=some (Zn (s.2 - s.1)):=by
   have:=Zok (Y4 hL.qb) (Y4 hL.qa) (hr.mono (s:=2 * ((Zd M).length+(Zd D).length+((Zd M).length+(Zd D).length)+3)) (by omega))
   rwa [Y3,Y3] at this
  rw [Qm.eq_2,Wx [] (by rw [hf.ev.p];exact hv),oB]
  have h2:=Zsf hf nv b1 l1 l2 b3 l3 l4 w hw (Qm N n l) (Zn s.1) (Zn s.2) (k:Int) (n.2.2.2.1.getD k []) 0 1 (hf.pars hv) (by omega) (by omega) hrows.2.2
  rw [show ((0:Nat):Int)=0 from rfl] at h2
  rw [h2,Zbc.eq_1,hsub,oB,Wx [] (by rw [hf.ev.v];exact hv),oB]
  have h3:=Zsg hf hr nv b1 l1 l2 b3 l3 l4 w hw (Qm N n l) hv (fun x hx=>by have:=Zfj hf hs hv x (Qx hx);exact ⟨this.1,by omega⟩) (long:=s.2 - s.1) (by omega) _ (fun _=>rfl) (Z1 n w k) N 0 s.1 [] rfl (Nat.zero_le _) (by omega) (by have:=hL.qa;omega) (fun p hp=>⟨by have:=(c2 p hp).qa;omega,by have:=(c2 p hp).qb;omega⟩) rfl
  rw [show ((0:Nat):Int)=0 from rfl] at h3
  have h3':=h3
  rw [Y8] at h3'
  rw [h3',List.nil_append]
  have hnk:=hnv.ok k (by rw [hnv.len];exact hv)
  obtain ⟨q,hq⟩:∃ q:Nat,nv.getD k 0=(q:Int):=⟨(nv.getD k 0).toNat,by omega⟩
  have hql:q<(Xs (s.2 - s.1) (Z1 n w k) s.1).length:=by rw [Tu,hf.rowT_len hw hv];omega
  have hch:Zfv (k:Int) ((Xs (s.2 - s.1) (Z1 n w k) s.1).map Y0) nv=some (q:Int):=by
   rw [Zfv,Wx 0 (by rw [hnv.len];exact hv),hq];rfl
  rw [hch,oB,if_neg (dF (by omega)),Zuw hql,oB,Wx 0 (by rw [hw.len];exact hv),oB,oB,Int.toNat_natCast]
  have hset:=hw.set (v:=k) (k:=(q:Int)) (by omega)
  have ih:=Zse hf hs hr hWK hN hnv ho l (pre++[(k:Int)]) (w.set k q) _ D' M' b1 l1 l2 b3 l3 l4 (by rw [he,List.append_assoc];rfl) hset (fun p hp=>?_) (c2 _ (Zdf hql)) (by omega)
  ·obtain ⟨w',hw'⟩:=ih
   refine ⟨w',?_⟩
   rw [Xe,Int.toNat_natCast,hq,Int.toNat_natCast,← hrT]
   exact hw'
  ·rcases List.mem_append.1 hp with hp | hp
   ·rw [Uu w 0 k _ _ (by rw [hw.len];exact hv)]
    split
    ·rename_i e;rw [e,hq]
    ·exact hag p hp
   ·rw [List.mem_singleton] at hp
    rw [hp,Int.toNat_natCast,Uu w 0 k _ _ (by rw [hw.len];exact hv),if_pos rfl,hq]
theorem Z05 {N W K:Nat} {n:Z2} (hf:Yq N n) (hs:Wk n W) (hr:Xi N (8 * K+40)) (hWK:1025 * (W+2)+4≤K) (hN:65536<N) {nv:List Int} (hnv:X2 n nv) {ord:List Int} (ho:V0 n.2.2.2.1 ord) (hol:ord.length≤1024):
  ∃ w',Zfx N n ord nv=some (w',Y0 (Xe n nv ord (0,1)),true):=by
 have hnm:=hf.le
 have hmul:ord.length * (W+2)≤1024 * (W+2):=Nat.mul_le_mul_right _ hol
 have h1:(Zd 1).length=1:=by rw [Uj];rfl
 obtain ⟨w',h⟩:=Zse hf hs hr (by omega) hN hnv ho ord [] (List.replicate n.2.1.length 0) (0,1) 1 1 false [] [] false [] [] rfl (X2.zero hf.ev) (by simp) U9.zero (by omega)
 refine ⟨w',?_⟩
 rw [Zfx,Xg (by simp only [maxLen];omega),Zol (hr.mono (by omega)),oB,Zk5,oB]
 exact h
def Vm (n:Z2):List Int→Nat→Bool
 | [],_=>true
 | x :: l,k=>!decide (x<0)&&(!decide ((cnt n k:Int)≤x)&&Vm n l (k+1))
theorem Zt2 {n:Z2}:∀ (l:List Int) (k:Nat),Vm n l k=true→∀ i,i<l.length→0≤l.getD i 0∧l.getD i 0<(cnt n (k+i):Int)
 | [],_,_,i,hi=>by simp at hi
 | x :: l,k,h,i,hi=>by
  simp only [Vm,Bool.and_eq_true,Bool.not_eq_true',decide_eq_false_iff_not] at h
  cases i with
  | zero=>rw [List.getD_cons_zero,Nat.add_zero];omega
  | succ i=>
   rw [List.getD_cons_succ,show k+(i+1)=k+1+i by omega]
   exact Zt2 l (k+1) h.2.2 i (by simpa using hi)
theorem Z2n {n:Z2} {w:List Int} (hl:w.length=n.2.1.length) (h:Vm n w 0=true):X2 n w:=⟨hl,fun i hi=>by have:=Zt2 w 0 h i hi;rwa [Nat.zero_add] at this⟩
section
variable {N:Nat} {n:Z2} (he:Tm n)
include he
theorem Zxu (hl:n.2.1.length≤1048576) (w:List Int) (hw:w.length=n.2.1.length):∀ (l:List Int) (k:Nat) (b1:Bool) (l1 l2:List Int) (b3:Bool) (l3 l4:List Int),w.drop k=l→k≤w.length→Ql N n w l k b1 l1 l2 b3 l3 l4=if Vm n l k=true then Ql N n w [] w.length b1 l1 l2 b3 l3 l4 else some ((((false,([]:List Int)),([]:List Int)),((false,([]:List Int)),([]:List Int))),3)
 | [],k,b1,l1,l2,b3,l3,l4,hd,h1=>by
  have:=List.drop_eq_nil_iff.1 hd
  rw [Vm,if_pos rfl,show k=w.length by omega]
 | x :: l,k,b1,l1,l2,b3,l3,l4,hd,h1=>by
  have hk:k<w.length:=by
   rcases Nat.lt_or_ge k w.length with h | h
   ·exact h
   ·rw [List.drop_eq_nil_of_le h] at hd;cases hd
  rw [List.drop_eq_getElem_cons hk] at hd
  obtain ⟨e1,e2⟩:=List.cons.inj hd
  rw [Ql.eq_2,Vm]
  by_cases hx:x<0
  ·rw [if_pos (dT hx),Zfw,if_pos rfl,decide_eq_true hx];rfl
  ·rw [if_neg (dF hx),Wx [] (by rw [he.v];omega),oB,Zfw,decide_eq_false hx]
   by_cases hc:(cnt n k:Int)≤x
   ·rw [show ((n.2.2.1.getD k []).length:Int)=(cnt n k:Int) from rfl,decide_eq_true hc,if_pos rfl];rfl
   ·rw [show ((n.2.2.1.getD k []).length:Int)=(cnt n k:Int) from rfl,decide_eq_false hc,if_neg (by decide),Zxu hl w hw l (k+1) b1 l1 l2 b3 l3 l4 e2 (by omega)];rfl
end
def errS (k:Int):(QV×QV)×Int:=((((false,([]:List Int)),([]:List Int)),((false,([]:List Int)),([]:List Int))),k)
theorem Ztr {N K:Nat} {q:Rat} (hr:Xi N (8 * K+40)) (hq:qs q≤K):Zcg N (((Zn q).1.1,(Zn q).1.2),(Zn q).2)=some (Zn q):=by
 have hz:RV 0 ((false,([]:List Int)),([]:List Int)):=⟨by simp [Zo],by simp [Zo],by simp,by simp⟩
 have h1:=Zb7 (Y4 hq) hz (hr.mono (by omega))
 have h2:Zu ((false,([]:List Int)),([]:List Int))=0:=by rw [Zu];simp [Zr,Zb]
 rw [Y3,h2,Rat.add_zero] at h1
 rw [Zcg]
 have h3:V4 N (((Zn q).1.1,(Zn q).1.2),(Zn q).2) ((false,([]:List Int)),([]:List Int))=some (Zn q):=h1
 rw [h3];rfl
def Zbh (N:Nat) (ab:R0) (ac:List Int) (aa:Nat) (ah:Bool) (ai:List Int) (aj:List Int) (kk_L2:(Nat→Bool→R2→R2→Option (R1×Int))) (ak:R6):List Int→Int→Option (R1×Int)
  | [],ad=>(Zp ab.2.2.1 (aa:Int)).bind fun am=>(Zp ac (aa:Int)).bind fun an=>(Zp ak (i64.wrap ((i64.wrap (ad * (am.length:Int)))+an))).bind fun ae=>(Zct N ((ae.1.1,ae.1.2),ae.2)).bind fun af=>(Uv N ((ah,ai),aj) ((af.1.1,af.1.2),af.2)).bind fun ag=>kk_L2 (aa+1) ag.1.1 ag.1.2 ag.2
  | al :: ao,ad=>(Zp ab.2.2.1 al).bind fun ap=>(Zp ac al).bind fun aq=>(Zbh N ab ac aa ah ai aj kk_L2 ak ao) (i64.wrap ((i64.wrap (ad * (ap.length:Int)))+aq))
termination_by structural x=>x
def Zbg (N:Nat) (aa:R0) (af:List Int):List R6→Nat→Bool→R2→R2→Option (R1×Int)
  | [],ab,ac,ad,ae=>some (((ac,ad),ae),0)
  | ag :: ah,ab,ac,ad,ae=>(Zp aa.2.2.2.1 (ab:Int)).bind fun ai=>Zbh N aa af ab ac ad ae (Zbg N aa af ah) ag ai 0
termination_by structural x=>x
def Zgn (aa:Nat) (ab:Bool) (ac:List Int) (ad:List Int) (kk_L1:(Nat→Bool→R2→R2→Option (R1×Int))) (ae:Bool):Option (R1×Int):=
  if ae=true then (some (((false,([]:List Int)),([]:List Int)),3)) else (kk_L1 (aa+1) ab ac ad)
def Qr (N:Nat) (aa:R0) (ac:List Int):List Int→Nat→Bool→R2→R2→Option (R1×Int)
  | [],ab,ad,ae,af=>(Zeb N).bind fun ag=>Zbg N aa ac aa.2.2.2.2 0 ag.1.1 ag.1.2 ag.2
  | ah :: ai,ab,ad,ae,af=>if (decide (ah<0))=true then (Zgn ab ad ae af (Qr N aa ac ai) true) else ((Zp aa.2.2.1 (ab:Int)).bind fun aj=>Zgn ab ad ae af (Qr N aa ac ai) (decide ((aj.length:Int)≤ah)))
termination_by structural x=>x
def Zgm (N:Nat) (aa:R0) (ab:List Int):Option (R1×Int):=
  (Vn N (aa.1,aa.2.1,aa.2.2.1,aa.2.2.2.1,aa.2.2.2.2)).bind fun ac=>if (!decide (ac=0))=true then (some (((false,([]:List Int)),([]:List Int)),ac)) else (if (!decide ((ab.length:Int)=(aa.2.1.length:Int)))=true then (some (((false,([]:List Int)),([]:List Int)),60)) else (Qr N aa ab ab 0 false ([]:List Int) ([]:List Int)))
theorem Zzk {N bf bg bh bi cu:Nat} {bj bk bm bn a1:Option Addr} {col:Ze} {w0:World} {ab:R0} {ak:R2} {r:(R1×Int)} (c1 c2:Nat) (hm:Zgm N ab ak=some r) (cd:Sl Za.str col w0 bj bf ab.2.1) (au:Sl (Za.slice Za.str) col w0 bk bg ab.2.2.1) (bt:Sl (Za.slice (Za.int .i64)) col w0 bm bh ab.2.2.2.1) (bo:Sl (Za.slice (Za.pair (Za.pair Za.bool (Za.slice (Za.int .u32))) (Za.slice (Za.int .u32)))) col w0 bn bi ab.2.2.2.2) (h1:Sl (Za.int .i64) col w0 a1 cu ak):
    Calls prog 26 #[(.agg #[.string ab.1,.slice bj ab.2.1.length bf,.slice bk ab.2.2.1.length bg,.slice bm ab.2.2.2.1.length bh,.slice bn ab.2.2.2.2.length bi]),.slice a1 ak.length cu] w0 (fun e w'=>∃ (col':Ze) (ra1:Option Addr) (rc2:Nat) (ra4:Option Addr) (rc5:Nat),e= .returned (.tuple #[(.agg #[.bool r.1.1.1,.slice ra1 r.1.1.2.length rc2,.slice ra4 r.1.2.length rc5]),.int .i64 r.2])∧Zf col w0 col' w'∧Zc (Za.int .u32) 95 c1 col' w' ra1 rc2 r.1.1.2∧Zc (Za.int .u32) 95 c2 col' w' ra4 rc5 r.1.2):=by
 refine Y2 (m:=103) func26 rfl rfl rfl ?_;rw [Zgm.eq_1] at hm;have aa:=St.start col w0;refine go ?_;refine Xv (col:=(Zk col)) 1 rfl ?_;intro b7 er c3 c4 ac;refine Xj (col:=c3) #[.bool false,.slice none (([]:List Int).length) 0,.slice none (([]:List Int).length) 0] 2 zeroValue39 ?_;intro b8 c5 cv cw ad;refine go ?_;replace ac:=ac.gr cw;refine lV _ (Xb isAgg27 sizeOf27 ac) ?_;obtain ⟨es,c6,hm⟩:=bZ hm;replace cd:=cd.keep (Zl.start col w0);replace au:=au.keep (Zl.start col w0);replace bt:=bt.keep (Zl.start col w0);replace bo:=bo.keep (Zl.start col w0);replace aa:=(aa.grow c4).grow cw;refine Zh (Zia c6 (cd.ks aa) (au.ks aa) (bt.ks aa) (bo.ks aa)) ?_;rintro _ c7 ⟨rfl,bu⟩;refine ⟨_,rfl,?_⟩;replace bu:Zf cv c5 cv c7:=.of_below bu;refine go ?_;replace h1:=h1.keep (Zl.start col w0);replace ac:=ac.gr bu;replace ad:=ad.gr bu;replace aa:=aa.grow bu;refine Zq hm (fun hb hm=>go ?_) fun hb hm=>go ?_
 ·refine lV (.agg #[.bool false,.slice none (([]:List Int).length) 0,.slice none (([]:List Int).length) 0]) (Yo (l:=[_,_]) (qs:=[(0,2),(2,1)]) underlying39 zeroValue39 ⟨rfl,sizeOf37,rfl,sizeOf35,trivial⟩ rfl)<|Yf rfl<|Zw ad ?_;intro et c8 c9 da;refine go ?_;cases hm;replace aa:=aa.kp c8 c9;exact ⟨rfl,_,Tw da.atN,_,none,0,none,0,rfl,aa.fin (cm []),Zc.nil,Zc.nil⟩
 refine Xz ac ?_;refine go ?_;refine Zq hm (fun hb hm=>go ?_) fun hb hm=>go ?_
 ·refine lV (.agg #[.bool false,.slice none (([]:List Int).length) 0,.slice none (([]:List Int).length) 0]) (Yo (l:=[_,_]) (qs:=[(0,2),(2,1)]) underlying39 zeroValue39 ⟨rfl,sizeOf37,rfl,sizeOf35,trivial⟩ rfl)<|Zw ad ?_;intro eu db dc dd;refine go ?_;cases hm;replace aa:=aa.kp db dc;exact ⟨rfl,_,Tw dd.atN,_,none,0,none,0,rfl,aa.fin (cm []),Zc.nil,Zc.nil⟩
 refine Z9 [1,2,28,29,4,1000000] (fun n f bp=>∃ a4 a5 a6 av aw al ax ay am bv,n=bv.length∧ak.drop a5=bv∧Qr N ab ak bv a5 a6 al am=some r∧St w0 (Zk col) a4 bp∧Zj 27 1 a4 bp b7 #[.string ab.1,.slice bj ab.2.1.length bf,.slice bk ab.2.2.1.length bg,.slice bm ab.2.2.2.1.length bh,.slice bn ab.2.2.2.2.length bi]∧Zc (Za.int .u32) 95 3 a4 bp av aw al∧Zc (Za.int .u32) 95 4 a4 bp ax ay am∧Zj 39 2 a4 bp b8 #[.bool a6,.slice av al.length aw,.slice ax am.length ay]∧[30].map f=[.int .i64 a5]) ak.length ⟨_,0,_,none,0,_,none,0,_,_,rfl,rfl,hm,aa,ac,Zc.nil,Zc.nil,ad,rfl⟩ ?_;clear hm;intro n f bp hI;obtain ⟨a4,a5,a6,av,aw,al,ax,ay,am,bv,hn,hl,hm,aa,ac,ae,af,ad,hs⟩:=hI;subst hn;refine .lL [30] hs ?_
 cases bv with
 | nil=>
  have hk:¬ ((a5:Int)<(ak.length:Int)):=by have:=List.drop_eq_nil_iff.1 hl;omega
  have hkb:=decide_eq_false hk;rw [Qr.eq_1] at hm;refine go ?_;refine X9 (congrArg Value.bool hkb)<|go ?_;obtain ⟨ew,de,hm⟩:=bZ hm;refine lc rfl rfl (Zax call103) (Zns (col:=a4) 5 6 de:) ?_;rintro _ ey ⟨df,ez,e0,e1,e2,rfl,bw,ce,cf⟩;refine ⟨_,rfl,?_⟩;refine Xj (col:=df) #[.bool false,.slice none (([]:List Int).length) 0,.slice none (([]:List Int).length) 0] 7 zeroValue39 ?_;intro cx e3 e4 a7 dg;refine Zw dg ?_;intro e5 a8 dh ah;refine go ?_;refine Xx ⟨_,_,rfl⟩ ?_;replace ac:=((ac.gr bw).gr a7).kp a8;refine lW ((ac.atN).nth (q:=4) rfl)<|go ?_;replace ae:=((ae.gr bw).gr a7).kp a8;replace af:=((af.gr bw).gr a7).kp a8;replace ad:=((ad.gr bw).gr a7).kp a8;replace aa:=((aa.grow bw).grow a7).kp a8 dh;replace ce:=(ce.gr a7).kp a8;replace cf:=(cf.gr a7).kp a8;refine Z9 [1,2,4,51,52,9,1000000] (fun n f az=>∃ a0 a9 bx bz b0 ba b1 b2 bb b3,n=b3.length∧ab.2.2.2.2.drop a9=b3∧Zbg N ab ak b3 a9 bx ba bb=some r∧St w0 (Zk col) a0 az∧Zj 27 1 a0 az b7 #[.string ab.1,.slice bj ab.2.1.length bf,.slice bk ab.2.2.1.length bg,.slice bm ab.2.2.2.1.length bh,.slice bn ab.2.2.2.2.length bi]∧Zc (Za.int .u32) 95 3 a0 az av aw al∧Zc (Za.int .u32) 95 4 a0 az ax ay am∧Zj 39 2 a0 az b8 #[.bool a6,.slice av al.length aw,.slice ax am.length ay]∧Zc (Za.int .u32) 95 5 a0 az bz b0 ba∧Zc (Za.int .u32) 95 6 a0 az b1 b2 bb∧Zj 39 7 a0 az cx #[.bool bx,.slice bz ba.length b0,.slice b1 bb.length b2]∧[53].map f=[.int .i64 a9]) ab.2.2.2.2.length ⟨_,0,_,_,_,_,_,_,_,_,rfl,rfl,hm,aa,ac,ae,af,ad,ce,cf,ah,rfl⟩ ?_;clear hm;intro n f az hI;obtain ⟨a0,a9,bx,bz,b0,ba,b1,b2,bb,b3,hn,hl,hm,aa,ac,ae,af,ad,ai,aj,ah,hs⟩:=hI;subst hn;refine .lL [53] hs ?_
  cases b3 with
  | nil=>
   have hk:¬ ((a9:Int)<(ab.2.2.2.2.length:Int)):=by have:=List.drop_eq_nil_iff.1 hl;omega
   have hkb:=decide_eq_false hk;rw [Zbg.eq_1] at hm;refine go ?_;refine X9 (congrArg Value.bool hkb)<|go ?_;refine lV _ (Xb isAgg39 sizeOf39 ah)<|Zw ad ?_;intro e6 cg di dj;refine go ?_;cases hm;replace ai:=ai.kp cg;replace aj:=aj.kp cg;replace aa:=aa.kp cg di;exact ⟨rfl,_,Tw dj.atN,_,_,_,_,_,rfl,aa.fin (cm [(5,c1),(6,c2)]),aa.fo ai,aa.fo aj⟩
  | cons cy cz=>
   obtain ⟨an,dl,dm⟩:=Ym hl;have hk:(a9:Int)<(ab.2.2.2.2.length:Int):=by omega
   have hkb:=decide_eq_true hk;rw [Zbg.eq_2] at hm;refine go ?_;refine Yc (congrArg Value.bool hkb)<|go ?_;refine lI an ((bo.ks aa).addr an) ?_;obtain ⟨_,dn,dp⟩:=(bo.ks aa).atN an;obtain ⟨⟨dq,dr,rfl,bc⟩,_⟩:=dn;refine lW dp.one<|go ?_;refine Xz ac<|Yf rfl ?_;obtain ⟨b4,ch,hm⟩:=bZ hm;refine lI ch ((bt.ks aa).addr ch) ?_;obtain ⟨_,ds,dt⟩:=(bt.ks aa).atN ch;obtain ⟨⟨du,dv,rfl,a3⟩,_⟩:=ds;refine lW dt.one<|go ?_;refine Z9 [1,10,11,2,4,51,52,53,62,63,9,1000000] (fun n f ao=>∃ ag ci b5 b6,n=b6.length∧b4.drop b5=b6∧Zbh N ab ak a9 bx ba bb (Zbg N ab ak cz) cy b6 ci=some r∧St w0 (Zk col) ag ao∧Sl (Za.pair (Za.pair Za.bool (Za.slice (Za.int .u32))) (Za.slice (Za.int .u32))) ag ao dq dr cy∧Zj 27 1 ag ao b7 #[.string ab.1,.slice bj ab.2.1.length bf,.slice bk ab.2.2.1.length bg,.slice bm ab.2.2.2.1.length bh,.slice bn ab.2.2.2.2.length bi]∧Zc (Za.int .u32) 95 3 ag ao av aw al∧Zc (Za.int .u32) 95 4 ag ao ax ay am∧Zj 39 2 ag ao b8 #[.bool a6,.slice av al.length aw,.slice ax am.length ay]∧Sl (Za.int .i64) ag ao du dv b4∧Zc (Za.int .u32) 95 5 ag ao bz b0 ba∧Zc (Za.int .u32) 95 6 ag ao b1 b2 bb∧Zj 39 7 ag ao cx #[.bool bx,.slice bz ba.length b0,.slice b1 bb.length b2]∧[64,12].map f=[.int .i64 b5,.int .i64 ci]) b4.length ⟨_,0,0,_,rfl,rfl,hm,aa,bc,ac,ae,af,ad,a3,ai,aj,ah,rfl⟩ ?_;clear hm;intro n f ao hI;obtain ⟨ag,ci,b5,b6,hn,hl,hm,aa,bc,ac,ae,af,ad,a3,ai,aj,ah,hs⟩:=hI;subst hn;refine .lL [64,12] hs ?_
   cases b6 with
   | nil=>
    have hk:¬ ((b5:Int)<(b4.length:Int)):=by have:=List.drop_eq_nil_iff.1 hl;omega
    have hkb:=decide_eq_false hk;rw [Zbh.eq_1] at hm;refine go ?_;refine X9 (congrArg Value.bool hkb)<|go ?_;refine Wi (col:=ag) [(0,0),(1,1),(2,1),(3,1),(4,0),(5,1),(6,1),(7,0),(8,1),(9,1),(10,1),(11,1),(12,1),(13,0),(14,1),(15,1),(16,0),(17,3),(18,3),(19,2)] (by kernel_rfl) (by kernel_rfl)<|xv rfl rfl (fun _ hC=>Xb isAgg39 sizeOf39 (ah.gr (hC.bl ag))) ?_;refine xu rfl rfl (fun _=>Vu rfl) ?_;refine xu rfl rfl (fun _=>W1 rfl) ?_;refine xF ⟨_,_,rfl⟩ ?_;refine xW (fun _ hC=>((ac.atN).nth (q:=2) rfl).gr (hC.bl ag)) ?_;refine xu rfl rfl (fun _=>W1 rfl) ?_;obtain ⟨e7,b9,hm⟩:=bZ hm;refine xu rfl rfl (fun _=>We underlying23 sizeOf22 rfl rfl (Xl b9).1 (Xl b9).2.1 ((au.ks aa).addr b9)) ?_;obtain ⟨_,dw,dx⟩:=(au.ks aa).atN b9;obtain ⟨⟨e8,e9,rfl,fa⟩,_⟩:=dw;refine xW (fun _ hC=>dx.one.gr (hC.bl ag)) ?_;refine xu rfl rfl (fun _=>Zay underlying22 rfl) ?_;refine xu rfl rfl (fun _=>Ze2 _ _ rfl rfl) ?_;refine xu rfl rfl (fun _=>Vu rfl) ?_;refine xu rfl rfl (fun _=>W1 rfl) ?_;obtain ⟨fb,ca,hm⟩:=bZ hm;refine xu rfl rfl (fun _=>We underlying33 sizeOf3 rfl rfl (Xl ca).1 (Xl ca).2.1 ((h1.ks aa).addr ca)) ?_;refine xW (fun _ hC=>((h1.ks aa).gr (hC.bl ag)).atInt ca) ?_;refine xu rfl rfl (fun _=>Qc _ _ rfl rfl) ?_;obtain ⟨cj,cb,hm⟩:=bZ hm;refine xu rfl rfl (fun _=>We underlying114 sizeOf39 rfl rfl (Xl cb).1 (Xl cb).2.1 (bc.addr cb)) ?_;obtain ⟨_,dy,dz⟩:=bc.atN cb;obtain ⟨_,_,rfl,d0,d1⟩:=Va dy;obtain ⟨_,_,rfl,d2,d3⟩:=Va d0;obtain ⟨rfl,_⟩:=d2;obtain ⟨⟨d4,d5,rfl,ck⟩,_⟩:=d3;obtain ⟨⟨d6,d7,rfl,cl⟩,_⟩:=d1;refine xv (v:=(.agg #[.bool cj.1.1,.slice d4 cj.1.2.length d5,.slice d6 cj.2.length d7])) rfl rfl (fun _ hC=>Xt isAgg39 sizeOf39 rfl rfl (dz.gr (hC.bl ag))) ?_;refine xe rfl rfl ?_;intro fc hC0;have hC:=hC0.bl ag;obtain ⟨fd,d8,hm⟩:=bZ hm;replace ck:=ck.gr hC;replace cl:=cl.gr hC;refine Zh (Zre d8 ck cl) ?_;rintro _ fe ⟨bq,ff,fg,fh,fi,rfl,a2,cn,co⟩;refine ⟨_,rfl,?_⟩;refine Zm<|X4 bq hC0 a2<|xe rfl rfl ?_;intro d9 hC0;replace ae:=(ae.gr hC).gr a2;replace af:=(af.gr hC).gr a2;replace ai:=(ai.gr hC).gr a2;replace aj:=(aj.gr hC).gr a2;replace ac:=(ac.gr hC).gr a2;replace ad:=(ad.gr hC).gr a2;replace ah:=(ah.gr hC).gr a2;replace aa:=(aa.grow hC).grow a2
    have hC:=hC0.bl bq;obtain ⟨fj,ea,hm⟩:=bZ hm;replace ai:=ai.gr hC;replace aj:=aj.gr hC;replace cn:=cn.gr hC;replace co:=co.gr hC;refine Zh (Zfd 8 9 ea ((ai.toSlF (Zg.int .u32)).froz 6) ((aj.froz 5 (by decide)).toSlF (Zg.int .u32)) ((cn.froz 5).froz 6) ((co.froz 5).froz 6)) ?_;rintro _ fk ⟨eb,fl,fm,fn,fp,rfl,ap,aq,ar⟩;refine ⟨_,rfl,?_⟩;replace aq:=aq.thaw (Zy .u32) ap (((Fz.refl (col:=bq)).froz 5).froz 6) (by decide);replace ar:=ar.thaw (Zy .u32) ap (((Fz.refl (col:=bq)).froz 5).froz 6) (by decide);replace ap:=ap.thawR (col:=bq);generalize Z7 d9.heap.size bq eb=cc at *;refine Zm<|X4 cc hC0 ap<|xe rfl rfl ?_;intro fq hC0;replace ae:=(ae.gr hC).gr ap;replace af:=(af.gr hC).gr ap;replace ac:=(ac.gr hC).gr ap;replace ad:=(ad.gr hC).gr ap;replace ah:=(ah.gr hC).gr ap;replace aa:=(aa.grow hC).grow ap;have hC:=hC0.bl cc;replace ah:=ah.gr hC;refine Zw ah ?_;intro fr bd ec be;refine Zm<|xk cc<|Wf ?_;replace ae:=(ae.gr hC).kp bd;replace af:=(af.gr hC).kp bd;replace aq:=(aq.gr hC).kp bd;replace ar:=(ar.gr hC).kp bd;replace ac:=(ac.gr hC).kp bd;replace ad:=(ad.gr hC).kp bd;replace aa:=(aa.grow hC).kp bd ec;intro ft hC;replace hC:=hC.bl cc;refine go ?_;replace ae:=ae.gr hC;replace ae:=ae.recol 8 5 (by decide);replace af:=af.gr hC;replace af:=af.recol 8 5 (by decide);replace aq:=aq.gr hC;replace aq:=aq.recolSelf 5 (by decide);replace ar:=ar.gr hC;replace ar:=ar.recol 8 5 (by decide);replace ac:=ac.gr hC;replace ac:=ac.recol 8 5 (by decide);replace ad:=ad.gr hC;replace ad:=ad.recol 8 5 (by decide);replace be:=be.gr hC;replace be:=be.recol 8 5 (by decide);replace aa:=aa.grow hC;replace aa:=aa.recol 8 5 (by decide) (by decide);replace ae:=ae.recol 9 6 (by decide);replace af:=af.recol 9 6 (by decide);replace aq:=aq.recol 9 6 (by decide);replace ar:=ar.recolSelf 6 (by decide);replace ac:=ac.recol 9 6 (by decide);replace ad:=ad.recol 9 6 (by decide);replace be:=be.recol 9 6 (by decide);replace aa:=aa.recol 9 6 (by decide) (by decide);exact ⟨cz.length,by simp,rfl,⟨_,_,_,_,_,_,_,_,_,_,rfl,dl,hm,aa,ac,ae,af,ad,aq,ar,be,(Ys (congrArg (Value.int .i64) (Yp (Nat.lt_of_lt_of_le dm (bo.ks aa).1.1))) rfl)⟩⟩
   | cons fu ed=>
    obtain ⟨an,ee,ef⟩:=Ym hl;have hk:(b5:Int)<(b4.length:Int):=by omega
    have hkb:=decide_eq_true hk;rw [Zbh.eq_2] at hm;refine go ?_;refine Yc (congrArg Value.bool hkb)<|go ?_;refine lI an (a3.addr an)<|lW (a3.atInt an) ?_;refine go ?_;refine Un (col:=ag) (by kernel_rfl) (by kernel_rfl)<|go ?_;refine qF ⟨_,_,rfl⟩ ?_;refine qW (fun _ hC=>((ac.atN).nth (q:=2) rfl).gr (hC.bl ag)) ?_;refine go ?_;obtain ⟨fv,cp,hm⟩:=bZ hm;refine qI cp ((au.ks aa).addr cp) ?_;obtain ⟨_,eg,eh⟩:=(au.ks aa).atN cp;obtain ⟨⟨fw,fx,rfl,fy⟩,_⟩:=eg;refine qW (fun _ hC=>eh.one.gr (hC.bl ag)) ?_;refine go ?_;obtain ⟨fz,cq,hm⟩:=bZ hm;refine qI cq ((h1.ks aa).addr cq)<|qW (fun _ hC=>((h1.ks aa).gr (hC.bl ag)).atInt cq) ?_;refine go ?_;refine Wv ?_;intro f0 hC;replace hC:=hC.bl ag;refine go ?_;replace bc:=bc.gr hC;replace ae:=ae.gr hC;replace af:=af.gr hC;replace a3:=a3.gr hC;replace ai:=ai.gr hC;replace aj:=aj.gr hC;replace ac:=ac.gr hC;replace ad:=ad.gr hC;replace ah:=ah.gr hC;replace aa:=aa.grow hC;exact ⟨ed.length,by simp,rfl,⟨_,_,_,_,rfl,ee,hm,aa,bc,ac,ae,af,ad,a3,ai,aj,ah,(Ys (congrArg (Value.int .i64) (Yp (Nat.lt_of_lt_of_le ef a3.1.1))) rfl)⟩⟩
 | cons ei c0=>
  obtain ⟨an,ej,ek⟩:=Ym hl;have hk:(a5:Int)<(ak.length:Int):=by omega
  have hkb:=decide_eq_true hk;rw [Qr.eq_2] at hm;refine go ?_;refine Yc (congrArg Value.bool hkb)<|go ?_;refine lI an ((h1.ks aa).addr an)<|lW ((h1.ks aa).atInt an)<|Yx rfl<|Yx rfl<|Zm<|Zv ?_;refine Wp.cutK [1,2,28,29,30,4,1000000] (fun f br=>∃ bs cr,Zgn a5 a6 al am (Qr N ab ak c0) cr=some r∧St w0 (Zk col) bs br∧Zj 27 1 bs br b7 #[.string ab.1,.slice bj ab.2.1.length bf,.slice bk ab.2.2.1.length bg,.slice bm ab.2.2.2.1.length bh,.slice bn ab.2.2.2.2.length bi]∧Zc (Za.int .u32) 95 3 bs br av aw al∧Zc (Za.int .u32) 95 4 bs br ax ay am∧Zj 39 2 bs br b8 #[.bool a6,.slice av al.length aw,.slice ax am.length ay]∧[46].map f=[.bool cr]) ?_ ?_
  ·intro f br hJ;obtain ⟨bs,cr,hm,aa,ac,ae,af,ad,hs⟩:=hJ;rw [Zgn.eq_1] at hm;refine .lL [46] hs ?_;refine Zq hm (fun hb hm=>go ?_) fun hb hm=>go ?_
   ·refine lV (.agg #[.bool false,.slice none (([]:List Int).length) 0,.slice none (([]:List Int).length) 0]) (Yo (l:=[_,_]) (qs:=[(0,2),(2,1)]) underlying39 zeroValue39 ⟨rfl,sizeOf37,rfl,sizeOf35,trivial⟩ rfl)<|Zw ad ?_;intro f1 el em en;refine go ?_;cases hm;replace aa:=aa.kp el em;exact ⟨rfl,_,Tw en.atN,_,none,0,none,0,rfl,aa.fin (cm []),Zc.nil,Zc.nil⟩
   exact ⟨c0.length,by simp,rfl,⟨_,_,_,_,_,_,_,_,_,_,rfl,ej,hm,aa,ac,ae,af,ad,(Ys (congrArg (Value.int .i64) (Yp (Nat.lt_of_lt_of_le ek (h1.ks aa).1.1))) rfl)⟩⟩
  refine go ?_;refine X8 hm (fun cs hm=>go ?_) fun cs hm=>go ?_
  ·refine lV (.bool true) (Xr (congrArg Value.bool cs) rfl)<|Zm ?_;exact ⟨rfl,_,_,hm,aa,ac,ae,af,ad,rfl⟩
  refine Xx ⟨_,_,rfl⟩ ?_;refine go ?_;refine lW ((ac.atN).nth (q:=2) rfl)<|go ?_;obtain ⟨eo,ct,hm⟩:=bZ hm;refine lI ct ((au.ks aa).addr ct) ?_;refine go ?_;obtain ⟨_,ep,eq⟩:=(au.ks aa).atN ct;obtain ⟨⟨f2,f3,rfl,f4⟩,_⟩:=ep;refine lW eq.one<|go ?_;refine lV (.bool (decide ((eo.length:Int)≤ei))) (Xh (congrArg Value.bool cs) rfl)<|Zm ?_;exact ⟨rfl,_,_,hm,aa,ac,ae,af,ad,rfl⟩
def ent (n:Z2) (w:List Int) (v:Nat):Rat:=Zu ((Z1 n w v).getD (w.getD v 0).toNat ((false,[]),[]))
def Th (n:Z2) (w:List Int):List Int→Rat
 | []=>1
 | v :: l=>ent n w v.toNat * Th n w l
def Vz (n:Z2) (w:List Int):Nat→Nat→Rat→Rat
 | 0,_,q=>q
 | m+1,k,q=>Vz n w m (k+1) (q * ent n w k)
section
variable {N:Nat} {n:Z2} (hf:Yq N n) {w:List Int} (hw:X2 n w)
include hf hw
theorem Zxv {ord:List Int} (ho:V0 n.2.2.2.1 ord):∀ (l:List Int) (s:Rat×Rat),(∀ y ∈ l,y ∈ ord)→(Xe n w l s).2 - (Xe n w l s).1=(s.2 - s.1) * Th n w l
 | [],s,_=>by rw [Th,Rat.mul_one];rfl
 | v :: l,s,he=>by
  have hvr:=ho.rg v (he v List.mem_cons_self)
  rw [hf.ev.p] at hvr
  have hv:v.toNat<n.2.1.length:=by omega
  have hwv:=hw.ok v.toNat (by rw [hw.len];exact hv)
  have hq:(w.getD v.toNat 0).toNat<(Z1 n w v.toNat).length:=by rw [hf.rowT_len hw hv];omega
  have hp:=Zv0 (s.2 - s.1) (Z1 n w v.toNat) s.1 _ hq
  rw [Xe,Zxv ho l _ fun y hy=>he y (List.mem_cons_of_mem _ hy),Th,ent,Yz hq,← Rat.mul_assoc]
  congr 1
  generalize (Xs (s.2 - s.1) (Z1 n w v.toNat) s.1).getD (w.getD v.toNat 0).toNat (0,0)=p at *
  rw [hp]
  grind
variable {W K:Nat} (hs:Wk n W) (hr:Xi N (8 * K+40)) (hWK:1025 * (W+2)+4≤K)
include hs hr hWK
omit hr hWK in
theorem Ztb {k:Nat} (hk:k<n.2.1.length):qs (ent n w k)≤W+1:=by
 have hwv:=hw.ok k (by rw [hw.len];exact hk)
 have hq:(w.getD k 0).toNat<(Z1 n w k).length:=by rw [hf.rowT_len hw hk];omega
 rw [ent,Yz hq]
 obtain ⟨h1,h2⟩:=Zfj hf hs hk _ (Qx (List.getElem_mem hq))
 have:=Zmt h1
 omega
omit hs hr hWK in
theorem Zrw {k:Nat} (hk:k<n.2.1.length) (a:Bool) (b c:List Int) (kk:Nat→Bool→List Int→List Int→Option (QV×Int)) (t:List QV):∀ (ps:List Int) (r kb:Nat),(∀ q ∈ ps,0≤q∧q<(n.2.1.length:Int))→r<kb→kb≤65536→Y9 n.2.2.1 ps kb≤65536→
  Zbh N n w k a b c kk t ps (r:Int)=Zbh N n w k a b c kk t [] (Tj n w ps r:Int)
 | [],r,kb,_,_,_,_=>rfl
 | p :: ps,r,kb,hp,h1,h2,h3=>by
  obtain ⟨g1,g2,g3⟩:=Zm5 hf.ev hw hp h1 h2 h3
  have hpp:=hp p List.mem_cons_self
  have hwp:=hw.ok p.toNat (by rw [hw.len];omega)
  have g4:r * cnt n p.toNat≤kb * cnt n p.toNat:=Nat.mul_le_mul_right _ (by omega)
  have q1:Zp n.2.2.1 p=some (n.2.2.1.getD p.toNat []):=by
   have:=Wx (l:=n.2.2.1) [] (j:=p.toNat) (by rw [hf.ev.v];omega)
   rwa [show ((p.toNat:Nat):Int)=p by omega] at this
  have q2:Zp w p=some (w.getD p.toNat 0):=by
   have:=Wx (l:=w) 0 (j:=p.toNat) (by rw [hw.len];omega)
   rwa [show ((p.toNat:Nat):Int)=p by omega] at this
  have e1:i64.wrap ((r:Int) * ((n.2.2.1.getD p.toNat []).length:Int))=((r * cnt n p.toNat:Nat):Int):=by
   rw [show ((n.2.2.1.getD p.toNat []).length:Int)=((cnt n p.toNat:Nat):Int) from rfl,← Int.natCast_mul]
   exact Zz (by omega)
  have e2:i64.wrap (((r * cnt n p.toNat:Nat):Int)+w.getD p.toNat 0)=((r * cnt n p.toNat+(w.getD p.toNat 0).toNat:Nat):Int):=by
   rw [Int.natCast_add,show (((w.getD p.toNat 0).toNat:Nat):Int)=w.getD p.toNat 0 by omega]
   exact Zz (by omega)
  rw [Zbh.eq_2,q1,oB,q2,oB,e1,e2]
  exact Zrw hk a b c kk t ps _ _ (fun q hq=>hp q (List.mem_cons_of_mem _ hq)) g1 g2 g3
theorem Zrv:∀ (l:List (List QV)) (k:Nat) (q:Rat),n.2.2.2.2.drop k=l→k≤n.2.1.length→qs q≤k * (W+1)+1→Zbg N n w l k (Zn q).1.1 (Zn q).1.2 (Zn q).2=some (Zn (Vz n w l.length k q),0)
 | [],k,q,_,_,_=>rfl
 | t :: l,k,q,hd,hk,hq=>by
  have ht:=hf.ev.t
  have hle:=hf.le
  have hk1:k<n.2.2.2.2.length:=by
   rcases Nat.lt_or_ge k n.2.2.2.2.length with h | h
   ·exact h
   ·rw [List.drop_eq_nil_of_le h] at hd;cases hd
  have hv:k<n.2.1.length:=by omega
  rw [List.drop_eq_getElem_cons hk1] at hd
  obtain ⟨e1,e2⟩:=List.cons.inj hd
  have htd:n.2.2.2.2.getD k []=t:=by rw [Yz hk1];exact e1
  have hrows:=hf.rows hv
  have hrow:=hf.row hw hv
  have hwk:=hw.ok k (by rw [hw.len];exact hv)
  have h2:=Zrw hf hw hv (Zn q).1.1 (Zn q).1.2 (Zn q).2 (Zbg N n w l) t (n.2.2.2.1.getD k []) 0 1 (hf.pars hv) (by omega) (by omega) hrows.2.2
  rw [show ((0:Nat):Int)=0 from rfl] at h2
  have hj:(w.getD k 0).toNat<(Z1 n w k).length:=by rw [hf.rowT_len hw hv];omega
  have e3:i64.wrap ((Y8 n w k:Int) * ((n.2.2.1.getD k []).length:Int))=((Y8 n w k * cnt n k:Nat):Int):=by
   rw [show ((n.2.2.1.getD k []).length:Int)=((cnt n k:Nat):Int) from rfl,← Int.natCast_mul]
   exact Zz (by omega)
  have e4:i64.wrap (((Y8 n w k * cnt n k:Nat):Int)+w.getD k 0)=((Y8 n w k * cnt n k+(w.getD k 0).toNat:Nat):Int):=by
   rw [Int.natCast_add,show (((w.getD k 0).toNat:Nat):Int)=w.getD k 0 by omega]
   exact Zz (by omega)
  have hat:Zp t ((Y8 n w k * cnt n k+(w.getD k 0).toNat:Nat):Int)=some (Z1 n w k)[(w.getD k 0).toNat]:=by
   rw [← htd];exact Zp6 hj
  obtain ⟨y,hy⟩:∃ y,y=(Z1 n w k)[(w.getD k 0).toNat]:=⟨_,rfl⟩
  obtain ⟨y1,y2⟩:=Zfj hf hs hv y (Qx (hy ▸ List.getElem_mem hj))
  have he:ent n w k=Zu y:=by rw [ent,Yz hj,hy]
  have hmul:k * (W+1)≤1024 * (W+1):=Nat.mul_le_mul_right _ (by omega)
  have hfit:Vr (Wz y):=by
   rw [Wz];split
   ·exact ⟨y1.1,by simp [Zo]⟩
   ·exact y1
  have hfk:RV (W+1) (Wz y):=by
   refine ⟨hfit.1,hfit.2,?_,?_⟩
   ·rw [Wz];split
    ·simp only;omega
    ·omega
   ·rw [Wz];split
    ·simp
    ·omega
  have f1:Zct N ((y.1.1,y.1.2),y.2)=some (Wz y):=Ztk y1 y2 (hr.mono (by omega))
  have m1:Uv N (((Zn q).1.1,(Zn q).1.2),(Zn q).2) (((Wz y).1.1,(Wz y).1.2),(Wz y).2)=some (Zn (q * ent n w k)):=by
   have:=Zih (Y4 hq) hfk (hr.mono (by omega))
   rwa [Y3,Zoh,← he] at this
  have hqs:=Zdi q (ent n w k)
  have hqe:=Ztb hf hw hs hv
  have ih:=Zrv l (k+1) (q * ent n w k) e2 (by omega) (by rw [Nat.add_mul,Nat.one_mul];omega)
  rw [Zbg.eq_2,Wx [] (by rw [hf.ev.p];exact hv),oB,h2,← Y8,Zbh.eq_1,Wx [] (by rw [hf.ev.v];exact hv),oB,Wx 0 (by rw [hw.len];exact hv),oB,e3,e4,hat,← hy,oB,f1,oB,m1,oB,nC,Vz]
  exact ih
end
theorem Zru {N:Nat} {n:Z2} (he:Tm n) (hl:n.2.1.length≤1048576) (w:List Int) (hw:w.length=n.2.1.length):∀ (l:List Int) (k:Nat) (b:Bool) (l1 l2:List Int),w.drop k=l→k≤w.length→Qr N n w l k b l1 l2=if Vm n l k=true then Qr N n w [] w.length b l1 l2 else some (((false,([]:List Int)),([]:List Int)),3)
 | [],k,b,l1,l2,hd,h1=>by
  have:=List.drop_eq_nil_iff.1 hd
  rw [Vm,if_pos rfl,show k=w.length by omega]
 | x :: l,k,b,l1,l2,hd,h1=>by
  have hk:k<w.length:=by
   rcases Nat.lt_or_ge k w.length with h | h
   ·exact h
   ·rw [List.drop_eq_nil_of_le h] at hd;cases hd
  rw [List.drop_eq_getElem_cons hk] at hd
  obtain ⟨e1,e2⟩:=List.cons.inj hd
  rw [Qr.eq_2,Vm]
  by_cases hx:x<0
  ·rw [if_pos (dT hx),Zgn,if_pos rfl,decide_eq_true hx];rfl
  ·rw [if_neg (dF hx),Wx [] (by rw [he.v];omega),oB,Zgn,decide_eq_false hx]
   by_cases hc:(cnt n k:Int)≤x
   ·rw [show ((n.2.2.1.getD k []).length:Int)=(cnt n k:Int) from rfl,decide_eq_true hc,if_pos rfl];rfl
   ·rw [show ((n.2.2.1.getD k []).length:Int)=(cnt n k:Int) from rfl,decide_eq_false hc,if_neg (by decide),Zru he hl w hw l (k+1) b l1 l2 e2 (by omega)];rfl
theorem Z0r {N W K:Nat} {n:Z2} (hf:Yq N n) (hs:Wk n W) (hr:Xi N (8 * K+40)) (hWK:1025 * (W+2)+4≤K) (hN:2000000<N) (hC:Vn N n=some 0) (w:List Int):
  ∃ p e,Zgm N n w=some (p,e)∧((e≠0∧(decide (w.length=n.2.1.length)&&Vm n w 0)=false)∨(e=0∧X2 n w∧p=Zn (Vz n w n.2.1.length 0 1))):=by
 have hC':Vn N (n.1,n.2.1,n.2.2.1,n.2.2.2.1,n.2.2.2.2)=some 0:=hC
 have hle:=hf.le
 rw [Zgm,hC',oB,if_neg (by decide)]
 by_cases hlen:w.length=n.2.1.length
 ·rw [if_neg (show ¬ (!decide ((w.length:Int)=(n.2.1.length:Int)))=true by rw [decide_eq_true (by omega)];decide),Zru hf.ev (by omega) w hlen w 0 false [] [] rfl (Nat.zero_le _)]
  cases hin:Vm n w 0 with
  | false=>rw [if_neg (show ¬ false=true by decide)];exact ⟨_,3,rfl,.inl ⟨by decide,by simp⟩⟩
  | true=>
   have hw:=Z2n hlen hin
   have h2:=Zrv hf hw hs hr hWK n.2.2.2.2 0 1 rfl (Nat.zero_le _) (by rw [Zhr];omega)
   rw [if_pos rfl,Qr.eq_1,Zo6 (hr.mono (by omega)),oB,h2,hf.ev.t]
   exact ⟨_,0,rfl,.inr ⟨rfl,hw,rfl⟩⟩
 ·rw [if_pos (show (!decide ((w.length:Int)=(n.2.1.length:Int)))=true by rw [decide_eq_false (by omega)];rfl)]
  exact ⟨_,60,rfl,.inl ⟨by decide,by rw [decide_eq_false hlen];rfl⟩⟩
theorem Z33 {n:Z2} {l:List Int} (ho:U1 n.2.2.2.1 l) (hl:l.length=n.2.2.2.1.length) (hp:n.2.2.2.1.length=n.2.1.length):∀ i,i<n.2.1.length→(i:Int) ∈ l:=fun i hi=>by
 apply Classical.byContradiction
 intro hn
 have h1:=Zhp (l:=(i:Int) :: l) (r:=(List.range n.2.2.2.1.length).map fun j:Nat=>(j:Int)) (List.nodup_cons.2 ⟨hn,ho.1⟩) fun x hx=>by
  rw [List.mem_map]
  rcases List.mem_cons.1 hx with rfl | hx
  ·exact ⟨i,List.mem_range.2 (by omega),rfl⟩
  ·have:=ho.2.1 x hx
   exact ⟨x.toNat,List.mem_range.2 (by omega),by omega⟩
 rw [List.length_map,List.length_range,nC] at h1
 omega
theorem Z2o {n:Z2} {w:List Int} (hd:X2 n w):(decide (w.length=n.2.1.length)&&Vm n w 0)=true:=by
 have:∀ (l:List Int) (j:Nat),w.drop j=l→Vm n l j=true:=by
  intro l
  induction l with
  | nil=>intro j _;rfl
  | cons x l ihl=>
   intro j hj
   have hjl:j<w.length:=by
    rcases Nat.lt_or_ge j w.length with h | h
    ·exact h
    ·rw [List.drop_eq_nil_of_le h] at hj;cases hj
   rw [List.drop_eq_getElem_cons hjl] at hj
   obtain ⟨a1,a2⟩:=List.cons.inj hj
   have hok:=hd.ok j hjl
   rw [Yz hjl,a1] at hok
   rw [Vm,ihl (j+1) a2,decide_eq_false (by omega),decide_eq_false (by omega)];rfl
 rw [this w 0 (by rw [List.drop_zero]),Bool.and_true]
 exact decide_eq_true hd.len
def Zhm (N:Nat) (ab:R3) (ac:R3):Option (R3×R3×Int):=
  (Zcx N ab.2 ac.2).bind fun aa=>if (!decide (aa.2.2=0))=true then (some ((false,([]:List Int)),(false,([]:List Int)),aa.2.2)) else ((Tt N (!decide (ab.1=ac.1)) aa.1).bind fun ad=>(Tt N ab.1 aa.2.1).bind fun ae=>some ((ad.1,ad.2),(ae.1,ae.2),0))
theorem Z0o {N a3 a4:Nat} {a5 a6:Option Addr} {col:Ze} {w0:World} {aq ar:R3} {r:(R3×R3×Int)} (c1 c2:Nat) (hm:Zhm N aq ar=some r) (ax:Sl (Za.int .u32) col w0 a5 a3 aq.2) (ay:Sl (Za.int .u32) col w0 a6 a4 ar.2):
    Calls prog 189 #[(.agg #[.bool aq.1,.slice a5 aq.2.length a3]),(.agg #[.bool ar.1,.slice a6 ar.2.length a4])] w0 (fun e w'=>∃ (col':Ze) (ra1:Option Addr) (rc2:Nat) (ra4:Option Addr) (rc5:Nat),e= .returned (.tuple #[(.agg #[.bool r.1.1,.slice ra1 r.1.2.length rc2]),(.agg #[.bool r.2.1.1,.slice ra4 r.2.1.2.length rc5]),.int .i64 r.2.2])∧Zf col w0 col' w'∧Zc (Za.int .u32) 95 c1 col' w' ra1 rc2 r.1.2∧Zc (Za.int .u32) 95 c2 col' w' ra4 rc5 r.2.1.2):=by
 refine Y2 (m:=35) func189 rfl rfl rfl ?_;rw [Zhm.eq_1] at hm;have aa:=St.start col w0;refine go ?_;refine Xv (col:=(Zk col)) 1 rfl ?_;intro bv bw be bf ai;refine Xv (col:=be) 2 rfl ?_;intro bx bz bg a7 aj;refine Xj (col:=bg) #[.bool false,.slice none (([]:List Int).length) 0] 3 zeroValue37 ?_;intro b0 b1 bh az ad;refine Xj (col:=bh) #[.bool false,.slice none (([]:List Int).length) 0] 4 zeroValue37 ?_;intro b2 b3 b4 au ab;refine go ?_;refine Xx ⟨_,_,rfl⟩ ?_;replace ai:=((ai.gr a7).gr az).gr au;refine lW ((ai.atN).nth (q:=1) rfl)<|Xx ⟨_,_,rfl⟩ ?_;replace aj:=(aj.gr az).gr au;refine lW ((aj.atN).nth (q:=1) rfl) ?_;obtain ⟨ak,bi,hm⟩:=bZ hm;replace ax:=ax.keep (Zl.start col w0);replace ay:=ay.keep (Zl.start col w0);replace aa:=(((aa.grow bf).grow a7).grow az).grow au;refine Zh (Zkw 5 6 bi (ax.ks aa) (ay.ks aa)) ?_;rintro _ b5 ⟨af,a8,a9,ba,bb,rfl,am,a0,an⟩;refine ⟨_,rfl,?_⟩;refine lM (.tuple #[.slice a8 ak.1.length a9,.slice ba ak.2.1.length bb,.int .i64 ak.2.2])<|lV (.slice a8 ak.1.length a9) (Xf rfl rfl)<|lV (.slice ba ak.2.1.length bb) (Xf rfl rfl)<|lV (.int .i64 ak.2.2) (Xf rfl rfl)<|go ?_;replace ad:=(ad.gr au).gr am;replace ai:=ai.gr am;replace aj:=aj.gr am;replace ab:=ab.gr am;replace aa:=aa.grow am;refine Zq hm (fun hb hm=>go ?_) fun hb hm=>go ?_
 ·refine lV (.agg #[.bool false,.slice none (([]:List Int).length) 0]) (Yo (l:=[_,_]) (qs:=[(0,1),(1,1)]) underlying37 zeroValue37 ⟨rfl,sizeOf4,rfl,sizeOf35,trivial⟩ rfl)<|lV (.agg #[.bool false,.slice none (([]:List Int).length) 0]) (Yo (l:=[_,_]) (qs:=[(0,1),(1,1)]) underlying37 zeroValue37 ⟨rfl,sizeOf4,rfl,sizeOf35,trivial⟩ rfl)<|Yf rfl<|Zw ad ?_;intro b6 bc bj a1;replace ab:=ab.kp bc;refine Zw ab ?_;intro b7 bd bk bm;refine go ?_;cases hm;replace aa:=(aa.kp bc bj).kp bd bk;replace a1:=a1.kp bd;exact ⟨rfl,_,Zm0 rfl rfl isAgg37 sizeOf37 rfl rfl a1.atN rfl isAgg37 sizeOf37 rfl rfl bm.atN rfl rfl,_,none,0,none,0,rfl,aa.fin (cm []),Zc.nil,Zc.nil⟩
 refine Wi (col:=af) [(0,1),(1,0),(2,1),(3,0),(4,1),(5,1),(7,1),(8,0),(9,1),(6,3),(10,3),(11,2),(12,2),(13,1)] (by kernel_rfl) (by kernel_rfl)<|xF ⟨_,_,rfl⟩ ?_;refine xW (fun _ hC=>((ai.atN).nth (q:=0) rfl).gr (hC.bl af)) ?_;refine xF ⟨_,_,rfl⟩ ?_;refine xW (fun _ hC=>((aj.atN).nth (q:=0) rfl).gr (hC.bl af)) ?_;refine xu rfl rfl (fun _=>Zj7 _ _ underlying4 rfl rfl) ?_;refine xu rfl rfl (fun _=>Vu rfl) ?_;refine xF ⟨_,_,rfl⟩ ?_;refine xW (fun _ hC=>((ai.atN).nth (q:=0) rfl).gr (hC.bl af)) ?_;refine xu rfl rfl (fun _=>Vu rfl) ?_;refine xe rfl rfl ?_;intro bn hC0;have hC:=hC0.bl af;obtain ⟨b8,bo,hm⟩:=bZ hm;replace a0:=a0.gr hC;refine Zh (Q5 7 bo (a0.toSlF (Zg.int .u32))) ?_;rintro _ b9 ⟨bp,ca,cb,rfl,ag,ac⟩;refine ⟨_,rfl,?_⟩;replace ac:=ac.thaw (Zy .u32) ag ((Fz.refl (col:=af)).froz 5) (by decide);replace ag:=ag.thawR (col:=af);generalize Z7 bn.heap.size af bp=ao at *;refine Zm<|X4 ao hC0 ag<|xe rfl rfl ?_;intro bq hC0;replace an:=(an.gr hC).gr ag;replace ad:=(ad.gr hC).gr ag;replace ab:=(ab.gr hC).gr ag;replace aa:=(aa.grow hC).grow ag;have hC:=hC0.bl ao;obtain ⟨cc,br,hm⟩:=bZ hm;replace an:=an.gr hC;refine Zh (Q5 8 br (an.toSlF (Zg.int .u32))) ?_;rintro _ cd ⟨bs,ce,cf,rfl,ah,ae⟩;refine ⟨_,rfl,?_⟩;replace ae:=ae.thaw (Zy .u32) ah ((Fz.refl (col:=ao)).froz 6) (by decide);replace ah:=ah.thawR (col:=ao);generalize Z7 bq.heap.size ao bs=al at *;refine Zm<|X4 al hC0 ah<|xe rfl rfl ?_;intro cg hC0;replace ac:=(ac.gr hC).gr ah;replace ad:=(ad.gr hC).gr ah;replace ab:=(ab.gr hC).gr ah;replace aa:=(aa.grow hC).grow ah;have hC:=hC0.bl al;replace ad:=ad.gr hC;refine Zw ad ?_;intro ch av bt ap;refine Zm<|xk al<|xe rfl rfl ?_;intro ci hC0;replace ac:=(ac.gr hC).kp av;replace ae:=(ae.gr hC).kp av;replace ab:=(ab.gr hC).kp av;replace aa:=(aa.grow hC).kp av bt;have hC:=hC0.bl al;replace ab:=ab.gr hC;refine Zw ab ?_;intro cj aw bu a2;refine Zm<|xk al<|xu rfl rfl (fun _=>Zhs rfl) ?_;refine Wf ?_;replace ac:=(ac.gr hC).kp aw;replace ae:=(ae.gr hC).kp aw;replace ap:=(ap.gr hC).kp aw;replace aa:=(aa.grow hC).kp aw bu;intro ck hC;replace hC:=hC.bl al;refine W4 ?_;cases hm;replace ac:=ac.gr hC;replace ae:=ae.gr hC;replace ap:=ap.gr hC;replace a2:=a2.gr hC;replace aa:=aa.grow hC
 exact ⟨rfl,_,Zm0 rfl rfl isAgg37 sizeOf37 rfl rfl ap.atN rfl isAgg37 sizeOf37 rfl rfl a2.atN rfl rfl,_,_,_,_,_,rfl,aa.fin (cm [(7,c1),(8,c2)]),aa.fo ac,aa.fo ae⟩
def Zhk (N:Nat) (ab:R3) (aa:(R3×R3×Int)) (af:Bool):Option (R3×R3×Int):=
  if af=true then (some ((aa.1.1,aa.1.2),(aa.2.1.1,aa.2.1.2),aa.2.2)) else ((Zde N 1).bind fun ac=>(Zex N (aa.1.1,aa.1.2) (ac.1,ac.2)).bind fun ad=>(Zdd N (aa.2.1.1,aa.2.1.2) (ab.1,ab.2)).bind fun ae=>some ((ad.1,ad.2),(ae.1,ae.2),0))
def Zju (N:Nat) (ac:R3) (aa:R3):Option (R3×R3×Int):=
  (Zhm N (ac.1,ac.2) (aa.1,aa.2)).bind fun ab=>if (!decide (ab.2.2=0))=true then (Zhk N aa ab true) else ((Sf N (ab.2.1.1,ab.2.1.2)).bind fun ad=>(Sf N (aa.1,aa.2)).bind fun ae=>Zhk N aa ab (decide (0≤(i64.wrap (ad * ae)))))
theorem Z0k {N bt bf:Nat} {bu bg:Option Addr} {col:Ze} {w0:World} {a9 ap:R3} {r:(R3×R3×Int)} (c1 c2:Nat) (hm:Zju N a9 ap=some r) (bh:Sl (Za.int .u32) col w0 bu bt a9.2) (az:Sl (Za.int .u32) col w0 bg bf ap.2):
    Calls prog 146 #[(.agg #[.bool a9.1,.slice bu a9.2.length bt]),(.agg #[.bool ap.1,.slice bg ap.2.length bf])] w0 (fun e w'=>∃ (col':Ze) (ra1:Option Addr) (rc2:Nat) (ra4:Option Addr) (rc5:Nat),e= .returned (.tuple #[(.agg #[.bool r.1.1,.slice ra1 r.1.2.length rc2]),(.agg #[.bool r.2.1.1,.slice ra4 r.2.1.2.length rc5]),.int .i64 r.2.2])∧Zf col w0 col' w'∧Zc (Za.int .u32) 95 c1 col' w' ra1 rc2 r.1.2∧Zc (Za.int .u32) 95 c2 col' w' ra4 rc5 r.2.1.2):=by
 refine Y2 (m:=36) func146 rfl rfl rfl ?_;rw [Zju.eq_1] at hm;have aa:=St.start col w0;refine go ?_;refine Xv (col:=(Zk col)) 1 rfl ?_;intro cu cv b2 b3 bi;refine Xv (col:=b2) 2 rfl ?_;intro b4 cw b5 bv ah;refine Xj (col:=b5) #[.bool false,.slice none (([]:List Int).length) 0] 3 zeroValue37 ?_;intro b6 cx b7 bj af;refine Xj (col:=b7) #[.bool false,.slice none (([]:List Int).length) 0] 4 zeroValue37 ?_;intro b8 cy cz ba ac;refine go ?_;replace bi:=((bi.gr bv).gr bj).gr ba;refine lV _ (Xb isAgg37 sizeOf37 bi) ?_;replace ah:=(ah.gr bj).gr ba;refine lV _ (Xb isAgg37 sizeOf37 ah) ?_;obtain ⟨ae,b9,hm⟩:=bZ hm;replace bh:=bh.keep (Zl.start col w0);replace az:=az.keep (Zl.start col w0);replace aa:=(((aa.grow b3).grow bv).grow bj).grow ba;refine Zh (Z0o 5 6 b9 (bh.ks aa) (az.ks aa)) ?_;rintro _ c0 ⟨ca,a0,a1,a2,a3,rfl,bb,ag,ad⟩;refine ⟨_,rfl,?_⟩;refine lM (.tuple #[(.agg #[.bool ae.1.1,.slice a0 ae.1.2.length a1]),(.agg #[.bool ae.2.1.1,.slice a2 ae.2.1.2.length a3]),.int .i64 ae.2.2])<|lV (.agg #[.bool ae.1.1,.slice a0 ae.1.2.length a1]) (Xf rfl rfl)<|lV (.agg #[.bool ae.2.1.1,.slice a2 ae.2.1.2.length a3]) (Xf rfl rfl)<|lV (.int .i64 ae.2.2) (Xf rfl rfl)<|Xj (col:=ca) #[.bool false,.slice none (([]:List Int).length) 0] 7 zeroValue37 ?_;intro cb c3 cc aw bk;refine Xj (col:=cc) #[.bool false,.slice none (([]:List Int).length) 0] 8 zeroValue37 ?_;intro cd c4 aq ar bm;replace bk:=bk.gr ar;refine Zw bk ?_;intro c5 au ce ai;replace bm:=bm.kp au;refine Zw bm ?_;intro c6 av cf ak;refine Yx rfl<|Zm<|Zv<|Zv ?_;replace af:=(((((af.gr ba).gr bb).gr aw).gr ar).kp au).kp av;replace ah:=((((ah.gr bb).gr aw).gr ar).kp au).kp av;replace ac:=((((ac.gr bb).gr aw).gr ar).kp au).kp av;replace aa:=((((aa.grow bb).grow aw).grow ar).kp au ce).kp av cf;replace ag:=(((ag.gr aw).gr ar).kp au).kp av;replace ad:=(((ad.gr aw).gr ar).kp au).kp av;replace ai:=ai.kp av
 refine Wp.cutK [3,4,5,7,8,9,1000000] (fun f al=>∃ ab bn,Zhk N ap ae bn=some r∧St w0 (Zk col) ab al∧Zj 37 2 ab al b4 #[.bool ap.1,.slice bg ap.2.length bf]∧Zj 37 3 ab al b6 #[.bool false,.slice none (([]:List Int).length) 0]∧Zj 37 4 ab al b8 #[.bool false,.slice none (([]:List Int).length) 0]∧Zc (Za.int .u32) 95 5 ab al a0 a1 ae.1.2∧Zj 37 7 ab al cb #[.bool ae.1.1,.slice a0 ae.1.2.length a1]∧Zc (Za.int .u32) 95 6 ab al a2 a3 ae.2.1.2∧Zj 37 8 ab al cd #[.bool ae.2.1.1,.slice a2 ae.2.1.2.length a3]∧[26].map f=[.bool bn]) ?_ ?_
 ·intro f al hJ;obtain ⟨ab,bn,hm,aa,ah,af,ac,ag,ai,ad,ak,hs⟩:=hJ;rw [Zhk.eq_1] at hm;refine .lL [26] hs ?_;refine Zq hm (fun hb hm=>?_) fun hb hm=>go ?_
  ·refine Zv<|Z53 (col:=ab) (pS [3]) [(0,0),(1,5),(2,1),(3,4),(4,2),(5,1)] (by kernel_rfl) (by kernel_rfl)<|xvD (v:=(.agg #[.bool ae.1.1,.slice a0 ae.1.2.length a1])) rfl rfl (fun _ hC=>Xt isAgg37 sizeOf37 rfl rfl (ai.atN.gr (hC.bl ab))) ?_;refine xsD (v:=(.agg #[.bool ae.2.1.1,.slice a2 ae.2.1.2.length a3])) rfl rfl (fun _ hC=>Xt isAgg37 sizeOf37 rfl rfl (ak.dk hC rfl rfl).atN) ?_;refine xuD (v:=(.int .i64 ae.2.2)) rfl rfl (fun _=>W2 rfl) ?_;refine xeD rfl rfl ?_;intro cg hC0;have hC:=hC0.bl ab;replace ag:=ag.gr hC;replace ad:=ad.gr hC;replace af:=af.gr hC;replace ac:=ac.gr hC;replace aa:=aa.grow hC;have bo:Zt (pS [3]) ab al ab cg:=hC.toP;refine Zw af ?_;intro bw a4 bx a5;replace bo:=bo.kp a4 bx rfl;refine Zm ?_;refine ⟨fun w'=>Zf ab bw ab w',fun w'=>∃ c',Zt (pS [3]) ab bw c' w',Zf.refl _ _,fun _ h=>⟨_,h.toP⟩,fun h=>absurd h (by decide),fun _ _ ⟨c9,h⟩=>⟨c9,bo.trans h⟩,?_⟩;refine xeD rfl rfl ?_;intro c7 hC0;have hC:=hC0.bl ab;replace ac:=(ac.kp a4).gr hC;refine Zw ac ?_;intro bz bc ch bp;refine Zm ?_;refine ⟨fun w'=>Zf ab bz ab w',fun w'=>∃ c',Zt (pS [3]) ab bz c' w',Zf.refl _ _,fun _ h=>⟨_,h.toP⟩,fun h=>absurd h (by decide),fun h=>absurd h (by decide),?_⟩;refine xuD (v:=(.int .i64 ae.2.2)) rfl rfl (fun _=>V7 rfl) ?_;refine Z6a ?_;replace ag:=((ag.kp a4).gr hC).kp bc;replace ad:=((ad.kp a4).gr hC).kp bc;replace aa:=((aa.kp a4 bx).grow hC).kp bc ch;replace a5:=(a5.gr hC).kp bc;intro c8 hC;replace hC:=hC.bl ab;refine W4 ?_;cases hm;replace ag:=ag.gr hC;replace ad:=ad.gr hC;replace a5:=a5.gr hC;replace bp:=bp.gr hC;replace aa:=aa.grow hC;exact ⟨rfl,_,Zm0 rfl rfl isAgg37 sizeOf37 rfl rfl a5.atN rfl isAgg37 sizeOf37 rfl rfl bp.atN rfl rfl,_,_,_,_,_,rfl,aa.fin (cm [(5,c1),(6,c2)]),aa.fo ag,aa.fo ad⟩
  refine Wi (col:=ab) [(0,0),(3,0),(4,0),(1,3),(2,3),(5,3),(6,2),(7,2),(8,1)] (by kernel_rfl) (by kernel_rfl)<|xv rfl rfl (fun _ hC=>Xb isAgg37 sizeOf37 (ai.gr (hC.bl ab))) ?_;refine xv rfl rfl (fun _ hC=>Xb isAgg37 sizeOf37 (ak.gr (hC.bl ab))) ?_;refine xv rfl rfl (fun _ hC=>Xb isAgg37 sizeOf37 (ah.gr (hC.bl ab))) ?_;refine xe rfl rfl ?_;intro da hC0;have hC:=hC0.bl ab;obtain ⟨db,ci,hm⟩:=bZ hm;refine Zh (Zn2 (col:=ab) 9 ci) ?_;rintro _ dc ⟨a6,dd,de,rfl,ax,bq⟩;refine ⟨_,rfl,?_⟩;refine Zm<|X4 a6 hC0 ax<|xe rfl rfl ?_;intro cj hC0;replace ag:=(ag.gr hC).gr ax;replace ad:=(ad.gr hC).gr ax;replace af:=(af.gr hC).gr ax;replace ac:=(ac.gr hC).gr ax;replace aa:=(aa.grow hC).grow ax;have hC:=hC0.bl a6;obtain ⟨df,ck,hm⟩:=bZ hm;replace ag:=ag.gr hC;replace bq:=bq.gr hC;refine Zh (Zrq 10 ck ((ag.toSlF (Zg.int .u32)).froz 9) ((bq.froz 5 (by decide)).toSlF (Zg.int .u32))) ?_;rintro _ dg ⟨cl,dh,di,rfl,an,aj⟩;refine ⟨_,rfl,?_⟩;replace aj:=aj.thaw (Zy .u32) an (((Fz.refl (col:=a6)).froz 5).froz 9) (by decide);replace an:=an.thawR (col:=a6);generalize Z7 cj.heap.size a6 cl=a7 at *;refine Zm<|X4 a7 hC0 an<|xe rfl rfl ?_;intro cn hC0;replace ad:=(ad.gr hC).gr an;replace af:=(af.gr hC).gr an;replace ac:=(ac.gr hC).gr an;replace aa:=(aa.grow hC).grow an;have hC:=hC0.bl a7;obtain ⟨dj,co,hm⟩:=bZ hm;replace ad:=ad.gr hC;replace aa:=aa.grow hC;refine Zh (Zn1 11 co (ad.toSlF (Zg.int .u32)) ((az.ks aa).froz 6)) ?_;rintro _ dl ⟨cp,dm,dn,rfl,ao,am⟩;refine ⟨_,rfl,?_⟩;replace am:=am.thaw (Zy .u32) ao ((Fz.refl (col:=a7)).froz 6) (by decide);replace ao:=ao.thawR (col:=a7);generalize Z7 cn.heap.size a7 cp=ay at *;refine Zm<|X4 ay hC0 ao<|xe rfl rfl ?_;intro dp hC0;replace aj:=(aj.gr hC).gr ao;replace af:=(af.gr hC).gr ao;replace ac:=(ac.gr hC).gr ao;have hC:=hC0.bl ay;replace af:=af.gr hC;refine Zw af ?_;intro dq bd cq a8;refine Zm<|xk ay<|xe rfl rfl ?_;intro dr hC0;replace aa:=((aa.grow ao).grow hC).kp bd cq;replace aj:=(aj.gr hC).kp bd;replace am:=(am.gr hC).kp bd;replace ac:=(ac.gr hC).kp bd;have hC:=hC0.bl ay;replace ac:=ac.gr hC;refine Zw ac ?_
  intro ds be cr br;refine Zm<|xk ay<|xu rfl rfl (fun _=>Zhs rfl) ?_;refine Wf ?_;replace aj:=(aj.gr hC).kp be;replace am:=(am.gr hC).kp be;replace a8:=(a8.gr hC).kp be;replace aa:=(aa.grow hC).kp be cr;intro dt hC;replace hC:=hC.bl ay;refine W4 ?_;cases hm;replace aj:=aj.gr hC;replace am:=am.gr hC;replace a8:=a8.gr hC;replace br:=br.gr hC;replace aa:=aa.grow hC;exact ⟨rfl,_,Zm0 rfl rfl isAgg37 sizeOf37 rfl rfl a8.atN rfl isAgg37 sizeOf37 rfl rfl br.atN rfl rfl,_,_,_,_,_,rfl,aa.fin (cm [(10,c1),(11,c2)]),aa.fo aj,aa.fo am⟩
 refine Un (col:=aq) (by kernel_rfl) (by kernel_rfl)<|go ?_;refine X8 hm (fun bs hm=>go ?_) fun bs hm=>go ?_
 ·refine qv (v:=(.bool true)) rfl (fun _ hC=>Xr (congrArg Value.bool bs) rfl) ?_;refine Wv ?_;intro du hC;replace hC:=hC.bl aq;replace ag:=ag.gr hC;replace ad:=ad.gr hC;replace ah:=ah.gr hC;replace af:=af.gr hC;replace ac:=ac.gr hC;replace ai:=ai.gr hC;replace ak:=ak.gr hC;replace aa:=aa.grow hC;exact ⟨rfl,_,_,hm,aa,ah,af,ac,ag,ai,ad,ak,rfl⟩
 refine qv rfl (fun _ hC=>Xb isAgg37 sizeOf37 (ak.gr (hC.bl aq))) ?_;refine go ?_;obtain ⟨b0,cs,hm⟩:=bZ hm;refine qc (v:=(.int .i64 b0)) rfl (fun _ hC=>⟨_,_,Ze1 call62 rfl,(Zdt cs ((ad.gr (hC.bl aq)).toSlF (Zg.int .u32)):).mono fun _ _ h=>⟨h.1,hC.trans (.of_below h.2)⟩⟩) ?_;refine go ?_;refine qv rfl (fun _ hC=>Xb isAgg37 sizeOf37 (ah.gr (hC.bl aq))) ?_;refine go ?_;obtain ⟨b1,ct,hm⟩:=bZ hm;refine qc (v:=(.int .i64 b1)) rfl (fun _ hC=>⟨_,_,Ze1 call62 rfl,(Zdt ct ((az.ks aa).gr (hC.bl aq)):).mono fun _ _ h=>⟨h.1,hC.trans (.of_below h.2)⟩⟩) ?_;refine go ?_;refine qv (v:=(.bool (decide (0≤(i64.wrap (b0 * b1)))))) rfl (fun _ hC=>Xh (congrArg Value.bool bs) rfl) ?_;refine Wv ?_;intro dv hC;replace hC:=hC.bl aq;replace ag:=ag.gr hC;replace ad:=ad.gr hC;replace ah:=ah.gr hC;replace af:=af.gr hC;replace ac:=ac.gr hC;replace ai:=ai.gr hC;replace ak:=ak.gr hC;replace aa:=aa.grow hC;exact ⟨rfl,_,_,hm,aa,ah,af,ac,ag,ai,ad,ak,rfl⟩
def Zip (N:Nat) (aa:R1):Option R3:=
  (V5 N ((aa.1.1,aa.1.2),aa.2)).bind fun ac=>(Zju N (aa.1.1,aa.1.2) (false,ac)).bind fun ab=>some (ab.1.1,ab.1.2)
theorem Zy7 {N aw a5:Nat} {ax a6:Option Addr} {col:Ze} {w0:World} {ag:R1} {r:R3} (c1:Nat) (hm:Zip N ag=some r) (ay:Sl (Za.int .u32) col w0 ax aw ag.1.2) (a7:Sl (Za.int .u32) col w0 a6 a5 ag.2):
    Calls prog 67 #[(.agg #[.bool ag.1.1,.slice ax ag.1.2.length aw,.slice a6 ag.2.length a5])] w0 (fun e w'=>∃ (col':Ze) (ra1:Option Addr) (rc2:Nat),e= .returned ((.agg #[.bool r.1,.slice ra1 r.2.length rc2]))∧Zf col w0 col' w'∧Zc (Za.int .u32) 95 c1 col' w' ra1 rc2 r.2):=by
 refine Y2 (m:=17) func67 rfl rfl rfl ?_;rw [Zip.eq_1] at hm;have ad:=St.start col w0;refine go ?_;refine Xv (col:=(Zk col)) 1 rfl ?_;intro bm b4 bn bo az;refine Xj (col:=bn) #[.bool false,.slice none (([]:List Int).length) 0] 2 zeroValue37 ?_;intro b5 a0 ao bd ah;refine go ?_;have a8:=Zt.clip (fun _=>false) ao a0;refine Zhx (col:=ao) [(0,1),(1,0),(2,0),(3,3),(4,1),(5,3),(6,1),(7,1),(8,1),(9,1),(10,4),(11,4),(12,2),(13,2),(14,1)] (by kernel_rfl) (by kernel_rfl) ⟨fun h=>absurd h (by decide),fun h=>absurd h (by decide),fun h=>absurd h (by decide),fun h=>absurd h (by decide),fun h=>absurd h (by decide),fun h=>absurd h (by decide),fun h=>absurd h (by decide),fun h=>absurd h (by decide),fun h=>absurd h (by decide),fun h=>absurd h (by decide),fun _=>⟨_,_,_,rfl,Tq zeroValue37⟩,fun _=>⟨_,_,_,rfl,Tq zeroValue37⟩,fun h=>absurd h (by decide),fun h=>absurd h (by decide),fun h=>absurd h (by decide),trivial⟩<|Yr (v:=(.pointer ((some (⟨bm,0,none⟩:Addr)).map (·.add 0)))) rfl rfl (fun _=>Sn (sz:=2) (off:=0) underlying39 rfl sizeOf37 (by decide) rfl rfl ⟨_,_,rfl⟩) ?_;replace az:=(az.gr bd).kpp a8;refine W7 (v:=(.agg #[.bool ag.1.1,.slice ax ag.1.2.length aw])) rfl rfl (fun _ hC=>Xt isAgg37 sizeOf37 rfl rfl (((az.atN).part 0 2 _ rfl).gr (hC.bl (Zi a0 ao)))) ?_;refine W7 (v:=(.agg #[.bool ag.1.1,.slice ax ag.1.2.length aw,.slice a6 ag.2.length a5])) rfl rfl (fun _ hC=>Xt isAgg39 sizeOf39 rfl rfl (az.atN.gr (hC.bl (Zi a0 ao)))) ?_;refine Vb rfl rfl ?_;intro b6 hC0;have hC:=hC0.bl (Zi a0 ao);obtain ⟨bp,bq,hm⟩:=bZ hm;replace ay:=ay.keep (Zl.start col w0);replace a7:=a7.keep (Zl.start col w0);replace ad:=(((ad.grow bo).grow bd).kpp a8).grow hC;refine Zh (Tb 3 bq (ay.ks ad) (a7.ks ad)) ?_;rintro _ aj ⟨al,br,bs,rfl,ap,a9⟩;refine ⟨_,rfl,?_⟩;refine Zm ?_;refine ⟨fun w'=>Zf (Zi aj al) aj (Zi aj al) w',fun g=>(Zi aj al) g=497,Zf.refl _ _,W6,fun _=>⟨fun _ h=>Uc hC0 ap h,fun b hb=>ap.below.block b hb,fun g x1 x2=>Ug ap g x1 (by first | exact x2 | (simp only [Xn,x2];rfl) | (simp only [Xn,Xc,x2];rfl))⟩,?_⟩;have ba:=Zt.clip (fun _=>false) al aj;refine Yr (v:=(.agg #[.bool false,.slice br bp.length bs])) rfl rfl (fun _=>Yo (l:=[_,_]) (qs:=[(0,1),(1,1)]) underlying37 zeroValue37 ⟨rfl,sizeOf4,rfl,sizeOf35,trivial⟩ rfl) ?_;refine Vb rfl rfl ?_;intro bt hC0
 replace ah:=(((ah.kpp a8).gr hC).gr ap).kpp ba;have hC:=hC0.bl (Zi aj al);obtain ⟨ai,bu,hm⟩:=bZ hm;replace ad:=((ad.grow ap).kpp ba).grow hC;replace a9:=(a9.kpp ba).gr hC;refine Zh (Z0k 4 5 bu ((ay.ks ad).froz 3) (a9.toSlF (Zg.int .u32))) ?_;rintro _ aa ⟨bv,be,bf,bg,bh,rfl,am,ak,b7⟩;refine ⟨_,rfl,?_⟩;replace ak:=ak.thaw (Zy .u32) am ((Fz.refl (col:=(Zi aj al))).froz 3) (by decide);replace am:=am.thawR (col:=(Zi aj al));generalize Z7 bt.heap.size (Zi aj al) bv=ab at *;refine Zm ?_;refine ⟨fun w'=>Zf (Zi aa ab) aa (Zi aa ab) w',fun g=>(Zi aa ab) g=497,Zf.refl _ _,W6,fun _=>⟨fun _ h=>Uc hC0 am h,fun b hb=>am.below.block b hb,fun g x1 x2=>Ug am g x1 (by first | exact x2 | (simp only [Xn,x2];rfl) | (simp only [Xn,Xc,x2];rfl))⟩,?_⟩;have bb:=Zt.clip (fun _=>false) ab aa;refine Yr (v:=(.tuple #[(.agg #[.bool ai.1.1,.slice be ai.1.2.length bf]),(.agg #[.bool ai.2.1.1,.slice bg ai.2.1.2.length bh]),.int .i64 ai.2.2])) rfl rfl (fun _=>W2 rfl) ?_;refine Yr (v:=(.agg #[.bool ai.1.1,.slice be ai.1.2.length bf])) rfl rfl (fun _=>Xf rfl rfl) ?_;refine Yr (v:=(.agg #[.bool ai.2.1.1,.slice bg ai.2.1.2.length bh])) rfl rfl (fun _=>Xf rfl rfl) ?_;refine Yr (v:=(.int .i64 ai.2.2)) rfl rfl (fun _=>Xf rfl rfl) ?_;refine Ze7 rfl rfl (Tq zeroValue37) ?_;intro ac bw;refine Ze7 rfl rfl (Tq zeroValue37) ?_;intro ae bi;refine Vb rfl rfl ?_;intro bj ⟨⟨hC0,hZ0⟩,hZ1⟩;replace ah:=((ah.gr hC).gr am).kpp bb;have hC:=hC0.bl (Zi aa ab);obtain ⟨bc,aq⟩:=Zdq (col:=(Zi aa ab)) 6 hZ0 bw;replace aq:Zj 37 6 (Xd ac 6 (Zi aa ab)) bj ac #[.bool false,.slice none (([]:List Int).length) 0]:=aq;obtain ⟨a1,ar⟩:=Zdq (col:=(Xd ac 6 (Zi aa ab))) 7 hZ1 ((if_neg bi.2:Xd ac 6 _ ae=_).trans bi.1);replace ar:Zj 37 7 (Xd ae 7 (Xd ac 6 (Zi aa ab))) bj ae #[.bool false,.slice none (([]:List Int).length) 0]:=ar;replace aq:=aq.kpp a1;refine Zw aq ?_;intro af a2 bx au;refine Zm ?_;refine ⟨fun w'=>Zf (Zi af (Xd ae 7 (Xd ac 6 (Zi aa ab)))) af (Zi af (Xd ae 7 (Xd ac 6 (Zi aa ab)))) w',fun g=>(Zi af (Xd ae 7 (Xd ac 6 (Zi aa ab)))) g=497,Zf.refl _ _,W6,fun h=>absurd h (by decide),?_⟩;have av:=Zt.clip (fun _=>false) (Xd ae 7 (Xd ac 6 (Zi aa ab))) af
 refine Vb rfl rfl ?_;intro bz hC0;replace ad:=((((((ad.grow am).kpp bb).grow hC).kpp bc).kpp a1).kp a2 bx).kpp av;replace ak:=(((((ak.kpp bb).gr hC).kpp bc).kpp a1).kp a2).kpp av;replace ah:=((((ah.gr hC).kpp bc).kpp a1).kp a2).kpp av;have hC:Zf (Zi af (Xd ae 7 (Xd ac 6 (Zi aa ab)))) af (Zi af (Xd ae 7 (Xd ac 6 (Zi aa ab)))) bz:=.of_below hC0.below;replace ar:=((ar.kp a2).kpp av).gr hC;refine Zw ar ?_;intro an a3 b0 b8;refine Zm ?_;refine ⟨fun w'=>Zf (Zi an (Zi af (Xd ae 7 (Xd ac 6 (Zi aa ab))))) an (Zi an (Zi af (Xd ae 7 (Xd ac 6 (Zi aa ab))))) w',fun g=>(Zi an (Zi af (Xd ae 7 (Xd ac 6 (Zi aa ab))))) g=497,Zf.refl _ _,W6,fun h=>absurd h (by decide),?_⟩;have a4:=Zt.clip (fun _=>false) (Zi af (Xd ae 7 (Xd ac 6 (Zi aa ab)))) an;refine Yr (v:=(.int .i64 ai.2.2)) rfl rfl (fun _=>V7 rfl) ?_;refine Zhz ?_;replace au:=(((au.kpp av).gr hC).kp a3).kpp a4;replace ak:=((ak.gr hC).kp a3).kpp a4;replace ah:=((ah.gr hC).kp a3).kpp a4;replace ad:=((ad.grow hC).kp a3 b0).kpp a4;intro b1 hC;replace hC:Zf (Zi an (Zi af (Xd ae 7 (Xd ac 6 (Zi aa ab))))) an (Zi an (Zi af (Xd ae 7 (Xd ac 6 (Zi aa ab))))) b1:=.of_below hC.below;refine go ?_;replace au:=au.gr hC;refine lV _ (Xb isAgg37 sizeOf37 au) ?_;replace ah:=ah.gr hC;refine Zw ah ?_;intro b9 bk b2 b3;refine go ?_;cases hm;replace ak:=(ak.gr hC).kp bk;replace ad:=(ad.grow hC).kp bk b2;exact ⟨rfl,_,ra b3.atN,_,_,_,rfl,ad.fin (cm [(4,c1)]),ad.fo ak⟩
theorem Z1g (s:Bool) (n d:Nat) (hd:d≠0):(if Zr (s,Zd (n % d))<0 then Zr (s,Zd (n / d)) - 1 else Zr (s,Zd (n / d)))=Zr (s,Zd n) / (d:Int):=by
 have h1:=Nat.div_add_mod n d
 have h2:=Nat.mod_lt n (Nat.pos_of_ne_zero hd)
 generalize hq:n / d=q at *
 generalize hr:n % d=r at *
 have e:(n:Int)=(d:Int) * (q:Int)+(r:Int):=by rw [← h1];simp
 simp only [Zr,Z5]
 cases s with
 | false=>
  simp only [Bool.false_eq_true,↓reduceIte]
  rw [if_neg (by omega)]
  refine ((Int.ediv_emod_unique (a:=(n:Int)) (r:=(r:Int)) (q:=(q:Int)) (show (0:Int)<d by omega)).2 ⟨?_,by omega,by omega⟩).1.symm
  rw [e,Int.add_comm]
 | true=>
  rw [if_pos rfl,if_pos rfl,if_pos rfl]
  by_cases h0:r=0
  ·subst h0
   rw [if_neg (by omega)]
   refine ((Int.ediv_emod_unique (a:= -(n:Int)) (r:=0) (q:= -(q:Int)) (show (0:Int)<d by omega)).2 ⟨?_,by omega,by omega⟩).1.symm
   rw [e,Int.mul_neg];omega
  ·rw [if_pos (by omega)]
   refine ((Int.ediv_emod_unique (a:= -(n:Int)) (r:=(d:Int) - r) (q:= -(q:Int) - 1) (show (0:Int)<d by omega)).2 ⟨?_,by omega,by omega⟩).1.symm
   rw [e,Int.mul_sub,Int.mul_neg,Int.mul_one];omega
theorem Z6d (a:ZV):Zr (a.1,Zd (Zb a.2))=Zr a:=by
 simp only [Zr,Z5]
theorem Zui (s:Bool) (n:Nat):(Xa (Zr (s,Zd n))).2.length≤(Zd n).length:=Z24 (a:=(s,Zd n)) (Z8 _)
section
variable {N k l:Nat} {a:ZV} {d:Nat} (hm:Zo a.2) (hk:a.2.length≤k) (hd:d≠0) (hl:(Zd d).length≤l) (hr:Xi N (k+l+8))
include hm hk hd hl hr
theorem Z59:Zhm N a (false,Zd d)=some (Xa (Zr (a.1,Zd (Zb a.2 / d))),Xa (Zr (a.1,Zd (Zb a.2 % d))),0):=by
 have h1:(Zd (Zb a.2 / d)).length≤k:=Nat.le_trans (Wm (Nat.div_le_self _ _)) (Nat.le_trans (Yu hm) hk)
 have h2:(Zd (Zb a.2 % d)).length≤k:=Nat.le_trans (Wm (Nat.mod_le _ _)) (Nat.le_trans (Yu hm) hk)
 have e:=Zif (N:=N) hm (Z8 d) (by have:=hr.1;omega) (by have:=hr.2;omega)
 have f:(!decide (a.1=false))=a.1:=by cases a.1 <;> rfl
 rw [Z5,if_neg hd] at e
 rw [Zhm,e,oB,if_neg (show ¬ (!decide ((0:Int)=0))=true by decide),f,Za2 (Z8 _) h1 (hr.mono (by omega)),oB,Za2 (Z8 _) h2 (hr.mono (by omega)),oB]
theorem Z52:∃ t,Zju N a (false,Zd d)=some (Xa (Zr a / (d:Int)),t):=by
 have h1:(Zd (Zb a.2 / d)).length≤k:=Nat.le_trans (Wm (Nat.div_le_self _ _)) (Nat.le_trans (Yu hm) hk)
 have h2:(Zd (Zb a.2 % d)).length≤k:=Nat.le_trans (Wm (Nat.mod_le _ _)) (Nat.le_trans (Yu hm) hk)
 have l1:=Nat.le_trans (Zui a.1 (Zb a.2 / d)) h1
 have l2:=Nat.le_trans (Zui a.1 (Zb a.2 % d)) h2
 have h:=Z1g a.1 (Zb a.2) d hd
 rw [Z6d] at h
 have hq:Zhm N (a.1,a.2) ((false,Zd d).1,(false,Zd d).2)=_:=Z59 hm hk hd hl hr
 have s1:Sf N (((Xa (Zr (a.1,Zd (Zb a.2 % d)))).1,(Xa (Zr (a.1,Zd (Zb a.2 % d)))).2))=some (Zr (a.1,Zd (Zb a.2 % d))).sign:=by
  have:=Zhy (N:=N) (a:=Xa (Zr (a.1,Zd (Zb a.2 % d)))) (V3 _) l2 (hr.mono (by omega))
  rwa [V8] at this
 have s2:Sf N (((false,Zd d):ZV).1,((false,Zd d):ZV).2)=some 1:=by
  have:=Zhy (N:=N) (a:=(false,Zd d)) (Z8 _) hl (hr.mono (by omega))
  rw [Z6c,Int.sign_eq_one_of_pos (by omega)] at this
  exact this
 have hz:-1≤(Zr (a.1,Zd (Zb a.2 % d))).sign∧(Zr (a.1,Zd (Zb a.2 % d))).sign≤1:=by
  rcases Int.lt_trichotomy (Zr (a.1,Zd (Zb a.2 % d))) 0 with g | g | g
  ·rw [Int.sign_eq_neg_one_of_neg g];decide
  ·rw [g];decide
  ·rw [Int.sign_eq_one_of_pos g];decide
 rw [Zju,hq,oB,if_neg (show ¬ (!decide ((0:Int)=0))=true by decide),s1,oB,s2,oB,Int.mul_one,Zz (by omega)]
 by_cases hn:Zr (a.1,Zd (Zb a.2 % d))<0
 ·rw [if_pos hn] at h
  have o1:Zde N 1=some (Xa 1):=Zqj (by omega) (hr.mono (by omega))
  have lo:(Xa 1).2.length≤1:=by rw [Q8];simp [Uj]
  have su:=Zyf (N:=N) (a:=Xa (Zr (a.1,Zd (Zb a.2 / d)))) (b:=Xa 1) (V3 _) (V3 _) l1 lo (hr.mono (by omega))
  have ad:=Zqg (N:=N) (a:=Xa (Zr (a.1,Zd (Zb a.2 % d)))) (b:=(false,Zd d)) (V3 _) (Z8 _) l2 hl (hr.mono (by omega))
  rw [V8,V8,h] at su
  have su':Zex N ((Xa (Zr (a.1,Zd (Zb a.2 / d)))).1,(Xa (Zr (a.1,Zd (Zb a.2 / d)))).2) ((Xa 1).1,(Xa 1).2)=_:=su
  have ad':Zdd N ((Xa (Zr (a.1,Zd (Zb a.2 % d)))).1,(Xa (Zr (a.1,Zd (Zb a.2 % d)))).2) (((false,Zd d):ZV).1,((false,Zd d):ZV).2)=_:=ad
  rw [Int.sign_eq_neg_one_of_neg hn,Zhk,if_neg (by decide),o1,oB,su',oB,ad',oB]
  exact ⟨_,rfl⟩
 ·rw [if_neg hn] at h
  rw [decide_eq_true (Int.sign_nonneg_iff.2 (by omega)),Zhk,if_pos rfl,h]
  exact ⟨_,rfl⟩
end
def Vk (q:Rat):Int:=q.num / (q.den:Int)
theorem Z31 (q:Rat):Zr (Zn q).1=q.num:=by
 rw [Zn];exact V8 _
theorem Z30 (q:Rat):Yn (Zn q).2=q.den:=by
 rw [Zn];exact Zs2 q.den_nz
theorem Z10 {N k:Nat} {q:Rat} (hq:qs q≤k) (hr:Xi N (2 * k+16)):Zip N (((Zn q).1.1,(Zn q).1.2),(Zn q).2)=some (Xa (Vk q)):=by
 have hv:=Y4 hq
 have u:V5 N (((Zn q).1.1,(Zn q).1.2),(Zn q).2)=some (Zd q.den):=by
  have:=Za1 hv (N:=N) (hr.mono (by omega))
  rwa [Z30] at this
 have hl:(Zd q.den).length≤k:=Nat.le_trans (Nat.le_max_right _ _) hq
 obtain ⟨t,ht⟩:=Z52 (N:=N) (a:=((Zn q).1.1,(Zn q).1.2)) hv.m hv.lm q.den_nz hl (hr.mono (by omega))
 rw [Zip,u,oB,ht,oB]
 have:Zr ((Zn q).1.1,(Zn q).1.2)=q.num:=Z31 q
 rw [this];rfl
theorem Ztn (q:Rat):q<(Vk q:Rat)+1:=by
 have hd:(0:Int)<q.den:=by have:=q.den_nz;omega
 have h:q.num<(Vk q+1) * (q.den:Int):=by
  have h1:=Int.emod_lt_of_pos q.num hd
  have h2:=Int.mul_ediv_add_emod q.num q.den
  rw [Vk,Int.add_mul,Int.one_mul,Int.mul_comm];omega
 have e:(Vk q:Rat)+1=mkRat (Vk q+1) 1:=by
  rw [Rat.mkRat_one];simp
 rw [e]
 conv=>lhs;rw [← Rat.mkRat_self q]
 rw [Ve q.den_nz (by decide)]
 simpa using h
theorem Zto (q:Rat):(Xa (Vk q)).2.length≤qs q+1:=by
 rw [Q8]
 have hd:(0:Int)<q.den:=by have:=q.den_nz;omega
 have h:(Vk q).natAbs≤q.num.natAbs+1:=by
  have h1:=Int.natAbs_ediv_le_natAbs q.num q.den
  rw [Vk];omega
 refine Nat.le_trans (Wm h) (Zik (Nat.le_max_left _ _) ?_)
 rw [Uj]
 exact Zwe q
def Zox (aa:Int) (kk_L1:(Int→R2→Option R9)) (ab:List Int):Option R9:=
  kk_L1 (i64.wrap (aa+1)) ab
def Zlo (ab:Int) (aa:Int) (ac:List Int) (kk_L1:(Int→R2→Option R9)) (ad:Int):Option R9:=
  (Zp ac aa).bind fun ae=>Z3 (0≤(Int.tmod (i64.wrap (-ab)) 32)) ((some (ac.set (Int.toNat aa) (u32.wrap (Yd .u64 (Yw .u64 (Xu .u64 ad 32) (u64.wrap ae)) (Int.tmod (i64.wrap (-ab)) 32))))).bind fun af=>Zox aa kk_L1 af)
def Zc0 (N:Nat) (ac:Int) (ad:List Int):Nat→Int→R2→Option R9
  | 0,_,_=>none
  | ae+1,aa,ab=>if (decide (aa<(ad.length:Int)))=true then (if (decide ((i64.wrap (aa+1))<(ab.length:Int)))=true then ((Zp ab (i64.wrap (aa+1))).bind fun af=>Zlo ac aa ab (Zc0 N ac ad ae) (u64.wrap af)) else (Zlo ac aa ab (Zc0 N ac ad ae) 0)) else ((Ud N ab).bind fun ag=>some (ag,0))
termination_by structural x=>x
def Zi1 (N:Nat) (ae:List Int) (aa:Int) (af:Bool):Option R9:=
  if af=true then (some (([]:List Int),3)) else ((Uw N ae).bind fun ab=>if (decide (0≤aa))=true then (Z3 (((Int.toNat (i64.wrap ((i64.wrap ((i64.wrap (Int.tdiv aa 32))+(ab.length:Int)))+1))) * 4≤281474976710656∧(Int.toNat (i64.wrap ((i64.wrap ((i64.wrap (Int.tdiv aa 32))+(ab.length:Int)))+1)))≤maxLen∧0≤(i64.wrap ((i64.wrap ((i64.wrap (Int.tdiv aa 32))+(ab.length:Int)))+1)))∧0≤(i64.wrap (Int.tdiv aa 32))∧(Int.toNat (i64.wrap (Int.tdiv aa 32)))≤(Int.toNat (i64.wrap ((i64.wrap ((i64.wrap (Int.tdiv aa 32))+(ab.length:Int)))+1)))) ((Zej ab (Int.tmod aa 32)).bind fun ac=>Z3 (((List.replicate (Int.toNat (i64.wrap (Int.tdiv aa 32))) (0:Int)).length+ac.length) * 4≤140737488355328∧(List.replicate (Int.toNat (i64.wrap (Int.tdiv aa 32))) (0:Int)).length+ac.length≤maxLen) ((Ud N ((List.replicate (Int.toNat (i64.wrap (Int.tdiv aa 32))) (0:Int))++ac)).bind fun ag=>some (ag,0)))) else (if (decide ((ab.length:Int)≤(i64.wrap (Int.tdiv (i64.wrap (-aa)) 32))))=true then (some (([]:List Int),0)) else (Z3 ((0:Int)≤(i64.wrap (Int.tdiv (i64.wrap (-aa)) 32))∧(i64.wrap (Int.tdiv (i64.wrap (-aa)) 32))≤(ab.length:Int)) ((Zdb (ab.drop (Int.toNat (i64.wrap (Int.tdiv (i64.wrap (-aa)) 32))))).bind fun ad=>Zc0 N aa ad N 0 ad))))
def Zi0 (N:Nat) (ab:List Int) (aa:Int):Option R9:=
  if (decide (aa<(-262144)))=true then (Zi1 N ab aa true) else (Zi1 N ab aa (decide (262144<aa)))
theorem Zzt {N az:Nat} {a0:Option Addr} {col:Ze} {w0:World} {al:R2} {aa:Int} {r:R9} (c1:Nat) (hm:Zi0 N al aa=some r) (h0:Sl (Za.int .u32) col w0 a0 az al):
    Calls prog 144 #[.slice a0 al.length az,.int .i64 aa] w0 (fun e w'=>∃ (col':Ze) (ra1:Option Addr) (rc2:Nat),e= .returned (.tuple #[.slice ra1 r.1.length rc2,.int .i64 r.2])∧Zf col w0 col' w'∧Zc (Za.int .u32) 95 c1 col' w' ra1 rc2 r.1):=by
 refine Zdu 4 5 (m:=82) (args:=[.slice a0 al.length az,.int .i64 aa]) func144 rfl rfl rfl rfl rfl ?_;rw [Zi0.eq_1] at hm;have ab:=St.start col w0;refine Zv<|Wq<|Q6 rfl<|Yx rfl<|Zm<|Zv<|Zv ?_;replace h0:=h0.keep (Zl.start col w0);refine Wp.cutK [0,1,1000000] (fun f bg=>∃ bh a1,Zi1 N al aa a1=some r∧St w0 (Zk col) bh bg∧[15].map f=[.bool a1]) ?_ ?_
 ·intro f bg hJ;obtain ⟨bh,a1,hm,ab,hs⟩:=hJ;rw [Zi1.eq_1] at hm;refine .lL [15] hs ?_;refine Zq hm (fun hb hm=>go ?_) fun hb hm=>go ?_
  ·cases hm;exact ⟨rfl,_,none,0,rfl,ab.fin (cm []),Zc.nil⟩
  obtain ⟨ao,bo,hm⟩:=bZ hm;refine Zh (T5 bo (h0.ks ab)) ?_;rintro _ bp ⟨bq,ap,am,rfl,br,aq⟩;refine ⟨_,rfl,go ?_⟩;replace ab:=ab.grow br;refine Zq hm (fun hb hm=>go ?_) fun hb hm=>go ?_
  ·refine lV (.int .i64 (i64.wrap (Int.tdiv aa 32))) (Vf aa 32 rfl rfl (by decide))<|Yf rfl<|lV (.int .i64 (i64.wrap (Int.tdiv aa 32))) (Vf aa 32 rfl rfl (by decide))<|go ?_;obtain ⟨an,hm⟩:=Z6 hm;refine Z2z (col:=bq) (w:=bp) (r:=(Za.int .u32)) (l:=(Int.toNat (i64.wrap (Int.tdiv aa 32)))) (n:=(Int.toNat (i64.wrap ((i64.wrap ((i64.wrap (Int.tdiv aa 32))+(ao.length:Int)))+1)))) (x0:=0) 1 rfl underlying35 Tryz.t95 rfl rfl rfl rfl rfl (congrArg (Value.int _) (Int.toNat_of_nonneg an.2.1).symm) (congrArg (Value.int _) (Int.toNat_of_nonneg an.1.2.2).symm) an.1.1 an.1.2.1 an.2.2 (Qe .u32 0) ?_;intro cb cc cd bi a2;refine go ?_;refine lV (.int .i64 (Int.tmod aa 32)) (Ti aa 32 rfl rfl (by decide)) ?_;obtain ⟨ce,bs,hm⟩:=bZ hm;replace aq:=aq.gr bi;refine Zh (Znw 2 bs aq) ?_;rintro _ cf ⟨cg,ch,ci,rfl,bj,bt⟩;refine ⟨_,rfl,?_⟩;obtain ⟨bu,hm⟩:=Z6 hm;replace a2:=a2.gr bj;refine U3 a2 (bt.srcN (NB.int (k:=.u32))) bu ?_;intro cj ck bv a3 bw bx;obtain ⟨cl,bz,hm⟩:=bZ hm;refine Zh (Tc 3 bz (bx.toSlF (Zg.int .u32))) ?_;rintro _ cn ⟨b0,co,cp,rfl,ar,a4⟩;refine ⟨_,rfl,?_⟩;replace a4:=a4.thaw (Zy .u32) ar ((Fz.refl (col:=a3)).froz 1) (by decide);replace ar:=ar.thawR (col:=a3);generalize Z7 bv.heap.size a3 b0=cq at *;refine go ?_;cases hm;replace ab:=(((ab.grow bi).grow bj).kpp bw).grow ar;exact ⟨rfl,_,_,_,rfl,ab.fin (cm [(3,c1)]),ab.fo a4⟩
  refine lV (.int .i64 (i64.wrap (Int.tdiv (i64.wrap (-aa)) 32))) (Vf (i64.wrap (-aa)) 32 rfl rfl (by decide))<|go ?_;refine Zq hm (fun hb hm=>go ?_) fun hb hm=>go ?_
  ·cases hm;exact ⟨rfl,_,none,0,rfl,ab.fin (cm []),Zc.nil⟩
  refine lV (.int .i64 (i64.wrap (Int.tdiv (i64.wrap (-aa)) 32))) (Vf (i64.wrap (-aa)) 32 rfl rfl (by decide)) ?_;obtain ⟨bk,hm⟩:=Z6 hm;have b1:=aq.drop (sz:=1) rfl (Int.toNat (i64.wrap (Int.tdiv (i64.wrap (-aa)) 32)));refine lv (v:=.slice (if am=(Int.toNat (i64.wrap (Int.tdiv (i64.wrap (-aa)) 32))) then ap else ap.map (·.add ((Int.toNat (i64.wrap (Int.tdiv (i64.wrap (-aa)) 32))) * 1))) (ao.length - (Int.toNat (i64.wrap (Int.tdiv (i64.wrap (-aa)) 32)))) (am - (Int.toNat (i64.wrap (Int.tdiv (i64.wrap (-aa)) 32))))) rfl rfl (Zwr underlying35 sizeOf95 rfl rfl bk.1 bk.2) ?_;generalize (if am=(Int.toNat (i64.wrap (Int.tdiv (i64.wrap (-aa)) 32))) then ap else ap.map (·.add ((Int.toNat (i64.wrap (Int.tdiv (i64.wrap (-aa)) 32))) * 1)))=bm at *;refine .ld (d:=46) (v:=(.slice bm ((ao.drop (Int.toNat (i64.wrap (Int.tdiv (i64.wrap (-aa)) 32)))).length) (am - (Int.toNat (i64.wrap (Int.tdiv (i64.wrap (-aa)) 32)))))) (congrArg (fun n=>Value.slice bm n (am - (Int.toNat (i64.wrap (Int.tdiv (i64.wrap (-aa)) 32))))) (List.length_drop (i:=(Int.toNat (i64.wrap (Int.tdiv (i64.wrap (-aa)) 32)))) (l:=ao)).symm) ?_;obtain ⟨a5,b2,hm⟩:=bZ hm;refine Zh (Zkz 4 b2 b1) ?_;rintro _ cr ⟨cs,ct,cu,rfl,b3,b4⟩;refine ⟨_,rfl,go ?_⟩;replace ab:=ab.grow b3;refine Z9 [1,49,1000000] (fun n f au=>∃ ag ah ai aj ae af,af=n∧Zc0 N aa a5 af ah ae=some r∧St w0 (Zk col) ag au∧Zc (Za.int .u32) 95 4 ag au ai aj ae∧[50,7].map f=[.int .i64 ah,.slice ai ae.length aj]) N ⟨_,0,_,_,_,_,rfl,hm,ab,b4,rfl⟩ ?_;clear hm;intro n f au hI;obtain ⟨ag,ah,ai,aj,ae,af,hn,hm,ab,ac,hs⟩:=hI;subst hn;refine .lL [50,7] hs ?_
  cases af with
  | zero=>rw [Zc0.eq_1] at hm;cases hm
  | succ af=>
   rw [Zc0.eq_2] at hm;refine go ?_;refine Zq hm (fun hb hm=>?_) fun hb hm=>go ?_
   ·refine X3<|Zv ?_;refine Wp.cutK [1,49,50,1000000] (fun f a6=>∃ a7 a8 a9 av,Zox ah (Zc0 N aa a5 af) av=some r∧St w0 (Zk col) a7 a6∧Zc (Za.int .u32) 95 4 a7 a6 a8 a9 av∧[7].map f=[.slice a8 av.length a9]) ?_ ?_
    ·intro f a6 hJ;obtain ⟨a7,a8,a9,av,hm,ab,b5,hs⟩:=hJ;rw [Zox.eq_1] at hm;refine .lL [7] hs<|go ?_;exact ⟨af,by omega,rfl,⟨_,_,_,_,_,_,rfl,hm,ab,b5,rfl⟩⟩
    refine Ze6<|Zv<|Wq<|Yf rfl<|Yx rfl<|Zm<|Zv<|Wq<|Yx rfl<|Zm<|Zv ?_;refine Wp.cutK [1,49,50,7,8,1000000] (fun f ba=>∃ bb ad,Zlo aa ah ae (Zc0 N aa a5 af) ad=some r∧St w0 (Zk col) bb ba∧Zc (Za.int .u32) 95 4 bb ba ai aj ae∧[9].map f=[.int .u64 ad]) ?_ ?_
    ·intro f ba hJ;obtain ⟨bb,ad,hm,ab,ac,hs⟩:=hJ;rw [Zlo.eq_1] at hm;refine .lL [9] hs<|go ?_;refine lV (.int .u64 (Xu .u64 ad 32)) (Zdj ad 32 rfl rfl (by decide))<|go ?_;obtain ⟨aw,ak,hm⟩:=bZ hm;refine lI ak (ac.addr ak)<|lW (ac.atInt ak) ?_;refine go ?_;refine lV (.int .i64 (Int.tmod (i64.wrap (-aa)) 32)) (Ti (i64.wrap (-aa)) 32 rfl rfl (by decide)) ?_;obtain ⟨b6,hm⟩:=Z6 hm;refine lV (.int .u64 (Yd .u64 (Yw .u64 (Xu .u64 ad 32) (u64.wrap aw)) (Int.tmod (i64.wrap (-aa)) 32))) (Tv (Yw .u64 (Xu .u64 ad 32) (u64.wrap aw)) (Int.tmod (i64.wrap (-aa)) 32) rfl rfl b6)<|go ?_;refine lI ak (ac.addr ak) ?_;obtain ⟨bc,ax,hm⟩:=bZ hm;have ax:bc=ae.set (Int.toNat ah) (u32.wrap (Yd .u64 (Yw .u64 (Xu .u64 ad 32) (u64.wrap aw)) (Int.tmod (i64.wrap (-aa)) 32))):=(Option.some.inj ax).symm;refine Y7 (x1:=u32.wrap (Yd .u64 (Yw .u64 (Xu .u64 ad 32) (u64.wrap aw)) (Int.tmod (i64.wrap (-aa)) 32))) ac ak ?_;intro cv b7 b8 bn;rw [← ax] at bn;refine .ld (d:=7) (v:=(.slice ai bc.length aj)) (congrArg (fun n=>Value.slice ai n aj) (show ae.length=bc.length by rw [ax,nS])) ?_;refine Zm ?_;replace ab:=ab.kp b7 b8;exact ⟨rfl,_,_,_,_,hm,ab,bn,rfl⟩
    refine go ?_;refine Zq hm (fun hb hm=>go ?_) fun hb hm=>?_
    ·obtain ⟨cw,bd,hm⟩:=bZ hm;refine lI bd (ac.addr bd)<|lW (ac.atInt bd) ?_;refine go ?_;exact ⟨rfl,_,_,hm,ab,ac,rfl⟩
    refine X3 ?_;exact ⟨rfl,_,0,hm,ab,ac,rfl⟩
   obtain ⟨cx,b9,hm⟩:=bZ hm;refine Zh (Tc 5 b9 (ac.toSlF (Zg.int .u32))) ?_;rintro _ cy ⟨ca,cz,c0,rfl,ay,be⟩;refine ⟨_,rfl,?_⟩;replace be:=be.thaw (Zy .u32) ay ((Fz.refl (col:=ag)).froz 4) (by decide);replace ay:=ay.thawR (col:=ag);generalize Z7 au.heap.size ag ca=c2 at *;refine go ?_;cases hm;replace ab:=ab.grow ay;exact ⟨rfl,_,_,_,rfl,ab.fin (cm [(5,c1)]),ab.fo be⟩
 refine go ?_;refine X8 hm (fun bf hm=>go ?_) fun bf hm=>go ?_
 ·refine lV (.bool true) (Xr (congrArg Value.bool bf) rfl)<|Zm ?_;exact ⟨rfl,_,_,hm,ab,rfl⟩
 refine lV (.bool (decide (262144<aa))) (Xh (congrArg Value.bool bf) rfl)<|Zm ?_;exact ⟨rfl,_,_,hm,ab,rfl⟩
def Zd2 (N:Nat):Nat→Int→R2→Option R1
  | 0,_,_=>none
  | ac+1,aa,ab=>if (decide (0<aa))=true then ((Zi0 N ab (if 262144<aa then 262144 else aa)).bind fun ad=>(Zd2 N ac) (i64.wrap (aa - (if 262144<aa then 262144 else aa))) ad.1) else (some ((false,ab),[1]))
termination_by structural x=>x
def Zim (N:Nat) (aa:Int):Option R1:=
  Zd2 N N aa [1]
theorem Zyz {N:Nat} {col:Ze} {w0:World} {aq:Int} {r:R1} (c1 c2:Nat) (hm:Zim N aq=some r):
    Calls prog 65 #[.int .i64 aq] w0 (fun e w'=>∃ (col':Ze) (ra1:Option Addr) (rc2:Nat) (ra4:Option Addr) (rc5:Nat),e= .returned ((.agg #[.bool r.1.1,.slice ra1 r.1.2.length rc2,.slice ra4 r.2.length rc5]))∧Zf col w0 col' w'∧Zc (Za.int .u32) 95 c1 col' w' ra1 rc2 r.1.2∧Zc (Za.int .u32) 95 c2 col' w' ra4 rc5 r.2):=by
 refine Y2 (m:=23) func65 rfl rfl rfl ?_;rw [Zim.eq_1] at hm;have aa:=St.start col w0;refine go ?_;refine Xj (col:=(Zk col)) #[.bool false,.slice none (([]:List Int).length) 0,.slice none (([]:List Int).length) 0] 1 zeroValue39 ?_;intro aw a5 ax ay ab;refine go ?_;refine W8 (col:=ax) [1] 2 ?_;intro a6 a7 a8 ar az;refine go ?_;replace aa:=(aa.grow ay).grow ar;replace ab:=ab.gr ar;refine Z9 [2,1000000] (fun n f ag=>∃ ac ad ah ai ae af,af=n∧Zd2 N af ad ae=some r∧St w0 (Zk col) ac ag∧Zj 39 1 ac ag aw #[.bool false,.slice none (([]:List Int).length) 0,.slice none (([]:List Int).length) 0]∧Zc (Za.int .u32) 95 2 ac ag ah ai ae∧[0,3].map f=[.int .i64 ad,.slice ah ae.length ai]) N ⟨_,_,_,1,_,_,rfl,hm,aa,ab,az,rfl⟩ ?_;clear hm;intro n f ag hI;obtain ⟨ac,ad,ah,ai,ae,af,hn,hm,aa,ab,al,hs⟩:=hI;subst hn;refine .lL [0,3] hs ?_
 cases af with
 | zero=>rw [Zd2.eq_1] at hm;cases hm
 | succ af=>
  rw [Zd2.eq_2] at hm;refine go ?_;refine Zq hm (fun hb hm=>go ?_) fun hb hm=>go ?_
  ·refine lV (.int .i64 (if 262144<ad then 262144 else ad)) (Zmz ad 262144 rfl rfl)<|go ?_;obtain ⟨am,a0,hm⟩:=bZ hm;refine Zh (Zzt 3 a0 (al.toSlF (Zg.int .u32))) ?_;rintro _ a9 ⟨a1,au,av,rfl,aj,ak⟩;refine ⟨_,rfl,?_⟩;replace ak:=ak.thaw (Zy .u32) aj ((Fz.refl (col:=ac)).froz 2) (by decide);replace aj:=aj.thawR (col:=ac);generalize Z7 ag.heap.size ac a1=ba at *;refine lM (.tuple #[.slice au am.1.length av,.int .i64 am.2])<|lV (.slice au am.1.length av) (Xf rfl rfl)<|lV (.int .i64 am.2) (Xf rfl rfl)<|go ?_;replace ak:=ak.recolSelf 2 (by decide);replace ab:=ab.gr aj;replace ab:=ab.recol 3 2 (by decide);replace aa:=aa.grow aj;replace aa:=aa.recol 3 2 (by decide) (by decide);exact ⟨af,by omega,rfl,⟨_,_,_,_,_,_,rfl,hm,aa,ab,ak,rfl⟩⟩
  refine lV (.agg #[.bool false,.slice ah ae.length ai]) (Yo (l:=[_,_]) (qs:=[(0,1),(1,1)]) underlying37 zeroValue37 ⟨rfl,sizeOf4,rfl,sizeOf35,trivial⟩ rfl)<|W8 (col:=ac) [1] 4 ?_;intro a2 bb bc an ao;refine lV (.agg #[.bool false,.slice ah ae.length ai,.slice a2 ([1].length) 1]) (Yo (l:=[_,_]) (qs:=[(0,2),(2,1)]) underlying39 zeroValue39 ⟨rfl,sizeOf37,rfl,sizeOf35,trivial⟩ rfl) ?_;replace ab:=ab.gr an;refine Zw ab ?_;intro bd ap a3 a4;refine go ?_;cases hm;replace al:=(al.gr an).kp ap;replace aa:=(aa.grow an).kp ap a3;replace ao:=ao.kp ap;exact ⟨rfl,_,ra a4.atN,_,_,_,_,1,rfl,aa.fin (cm [(2,c1),(4,c2)]),aa.fo al,aa.fo ao⟩
theorem Z5h {N x n:Nat} (hn:n≤262144) (hx:(Zd x).length+8400≤1099511627776) (hN:(Zd x).length+8400<N):Zi0 N (Zd x) (n:Int)=some (Zd (x * 2 ^ n),0):=by
 have e1:i64.wrap (Int.tdiv (n:Int) 32)=((n / 32:Nat):Int):=by rw [Int.tdiv_eq_ediv_of_nonneg (by omega),Zz (by omega)];omega
 have e2:Int.tmod (n:Int) 32=((n % 32:Nat):Int):=by rw [Int.tmod_eq_emod_of_nonneg (by omega)];omega
 have e3:i64.wrap (i64.wrap (((n / 32:Nat):Int)+((Zd x).length:Int))+1)=((n / 32+(Zd x).length+1:Nat):Int):=by
  rw [Zz (x:=((n / 32:Nat):Int)+((Zd x).length:Int)) (by omega),Zz (by omega)];omega
 obtain ⟨o,o1,o2,o3,o4,_⟩:=Zor (a:=Zd x) (s:=n % 32) (by omega) (Z8 _) (by omega)
 have ow:=Sj (N:=N) (a:=List.replicate (n / 32) 0++o) ((Zo.zeros _).app o3) (by rw [nA,List.length_replicate,o2];omega) (by rw [nA,List.length_replicate,o2];omega)
 have v:Zb (List.replicate (n / 32) 0++o)=x * 2 ^ n:=by
  rw [Sg,Si,List.length_replicate,o4,Z5,Nat.zero_add,show (4294967296:Nat)=2 ^ 32 from rfl,← Nat.pow_mul,← Nat.mul_assoc,← Nat.pow_add,show 32 * (n / 32)+n % 32=n by omega,Nat.mul_comm]
 rw [v] at ow
 rw [Zi0,if_neg (dF (by omega)),decide_eq_false (show ¬ 262144<(n:Int) by omega),Zi1,if_neg (by decide),Sp (Z8 _) (by omega) (by omega),Z5,oB,if_pos (dT (by omega)),e1,e2,e3,Int.toNat_natCast,Int.toNat_natCast,
  Xg (by simp only [maxLen];omega),o1,oB,Xg (by simp only [List.length_replicate,o2,maxLen];omega),ow,oB]
theorem Zv2 {N:Nat}:∀ (f k x:Nat),k<f→k<4611686018427387904→(Zd (x * 2 ^ k)).length+8400≤1099511627776→(Zd (x * 2 ^ k)).length+8400<N→Zd2 N f (k:Int) (Zd x)=some ((false,Zd (x * 2 ^ k)),[1])
 | 0,k,x,h1,_,_,_=>by omega
 | f+1,k,x,h1,h2,h3,h4=>by
  rw [Zd2.eq_2]
  by_cases hk:0<k
  ·obtain ⟨s,s1,s2,s3,s4⟩:∃ s:Nat,(if 262144<(k:Int) then 262144 else (k:Int))=(s:Int)∧s≤262144∧s≤k∧0<s:=by
    by_cases h:262144<(k:Int)
    ·rw [if_pos h];exact ⟨262144,rfl,Nat.le_refl _,by omega,by decide⟩
    ·rw [if_neg h];exact ⟨k,rfl,by omega,Nat.le_refl _,hk⟩
   have hle:x≤x * 2 ^ k:=Nat.le_mul_of_pos_right _ (Nat.pow_pos (by decide))
   have hl:=Wm hle
   have e:x * 2 ^ s * 2 ^ (k - s)=x * 2 ^ k:=by rw [Nat.mul_assoc,← Nat.pow_add,show s+(k - s)=k by omega]
   have ih:=Zv2 (N:=N) f (k - s) (x * 2 ^ s) (by omega) (by omega) (by rw [e];exact h3) (by rw [e];exact h4)
   rw [e] at ih
   rw [if_pos (dT (by omega)),s1,Z5h s2 (by omega) (by omega),oB,Zz (x:=(k:Int) - (s:Int)) (by omega),show (k:Int) - (s:Int)=((k - s:Nat):Int) by omega]
   exact ih
  ·have:k=0:=by omega
   subst this
   rw [if_neg (dF (by omega)),Nat.pow_zero,Nat.mul_one]
theorem Zmn (k:Nat):(Zd (2 ^ k)).length≤k / 32+1:=by
 rw [W0,show (4294967296:Nat)=2 ^ 32 from rfl,← Nat.pow_mul]
 exact Nat.pow_lt_pow_right (by decide) (by omega)
def pw (k:Nat):QV:=((false,Zd (2 ^ k)),[1])
theorem Z4a {N k:Nat} (hk:k≤1099511627776) (hN:2199023255552<N):Zim N (k:Int)=some (pw k):=by
 have h:=Zmn k
 have:=Zv2 (N:=N) N k 1 (by omega) (by omega) (by rw [Nat.one_mul];omega) (by rw [Nat.one_mul];omega)
 rw [Uj,Nat.one_mul] at this
 rw [Zim,this];rfl
theorem Z5g (k:Nat):RV (k / 32+1) (pw k):=⟨Z8 _,by simp [Zo,pw],Zmn k,by simp [pw]⟩
theorem Z4i (k:Nat):Zu (pw k)=mkRat ((2 ^ k:Nat):Int) 1:=by
 have:Zr (false,Zd (2 ^ k))=((2 ^ k:Nat):Int):=by simp only [Zr,Z5];rfl
 rw [Zu,pw,this];rfl
def Zfz (aa:Int) (kk_L1:(Int→R2→Option ByteArray)) (ab:List Int):Option ByteArray:=
  kk_L1 (i64.wrap (aa+1)) ab
def Zf0 (aa:Int) (kk_L1:(Int→R2→Option ByteArray)) (ab:List Int) (ac:Bool):Option ByteArray:=
  if ac=true then ((Zp ab aa).bind fun ae=>(some (ab.set (Int.toNat aa) 49)).bind fun ad=>Zfz aa kk_L1 ad) else (Zfz aa kk_L1 ab)
def S0 (N:Nat) (ac:List Int) (ab:Int):Nat→Int→R2→Option ByteArray
  | 0,_,_=>none
  | ae+1,aa,ad=>if (decide (aa<((List.replicate (Int.toNat ab) (0:Int)).length:Int)))=true then ((Zp ad aa).bind fun ah=>(some (ad.set (Int.toNat aa) 48)).bind fun af=>if (decide ((i64.wrap (Int.tdiv (i64.wrap ((i64.wrap (ab - 1)) - aa)) 32))<(ac.length:Int)))=true then ((Zp ac (i64.wrap (Int.tdiv (i64.wrap ((i64.wrap (ab - 1)) - aa)) 32))).bind fun ag=>Z3 (0≤(Int.tmod (i64.wrap ((i64.wrap (ab - 1)) - aa)) 32)) (Zf0 aa (S0 N ac ab ae) af (decide ((Uh .u32 (Yd .u32 ag (Int.tmod (i64.wrap ((i64.wrap (ab - 1)) - aa)) 32)) 1)=1)))) else (Zf0 aa (S0 N ac ab ae) af false)) else (some (Yl ad))
termination_by structural x=>x
def Zfy (N:Nat) (ab:List Int) (aa:Int):Option ByteArray:=
  Z3 ((Int.toNat aa) * 1≤281474976710656∧(Int.toNat aa)≤maxLen∧0≤aa) (S0 N ab aa N 0 (List.replicate (Int.toNat aa) (0:Int)))
theorem Zyx {N a7:Nat} {a0:Option Addr} {col:Ze} {w0:World} {aj:R2} {ac:Int} {r:ByteArray} (hm:Zfy N aj ac=some r) (h0:Sl (Za.int .u32) col w0 a0 a7 aj):
    Calls prog 70 #[.slice a0 aj.length a7,.int .i64 ac] w0 (fun e w'=>e= .returned ((.string r))∧Below w0.heap.size w0 w'):=by
 refine Xm 4 (m:=45) func70 rfl rfl rfl rfl rfl ?_;rw [Zfy.eq_1] at hm;have aa:=St.start col w0;refine go ?_;obtain ⟨ak,hm⟩:=Z6 hm;refine T9 (col:=(Zk col)) (w:=w0) (r:=(Za.int .u8)) (n:=(Int.toNat ac)) (x0:=0) 1 rfl underlying164 Tryz.t5 rfl rfl rfl rfl rfl (congrArg (Value.int _) (Int.toNat_of_nonneg ak.2.2).symm) (congrArg (Value.int _) (Int.toNat_of_nonneg ak.2.2).symm) ak.1 ak.2.1 (Qe .u8 0) ?_;intro bh bi bj a9 ba;refine go ?_;replace aa:=aa.grow a9;refine Z9 [0,1,11,1000000] (fun n f ao=>∃ ap ab ad ae ag af,af=n∧S0 N aj ac af ab ag=some r∧St w0 (Zk col) ap ao∧Zc (Za.int .u8) 5 1 ap ao ad ae ag∧[12,5].map f=[.int .i64 ab,.slice ad ag.length ae]) N ⟨_,0,_,_,_,_,rfl,hm,aa,ba,rfl⟩ ?_;clear hm;intro n f ao hI;obtain ⟨ap,ab,ad,ae,ag,af,hn,hm,aa,aq,hs⟩:=hI;subst hn;refine .lL [12,5] hs ?_;replace h0:=h0.keep (Zl.start col w0)
 cases af with
 | zero=>rw [S0.eq_1] at hm;cases hm
 | succ af=>
  rw [S0.eq_2] at hm;refine go ?_;refine Zq hm (fun hb hm=>?_) fun hb hm=>go ?_
  ·refine X3<|Zv ?_;refine Wp.cutK [0,1,11,12,1000000] (fun f ar=>∃ au av aw al,Zfz ab (S0 N aj ac af) al=some r∧St w0 (Zk col) au ar∧Zc (Za.int .u8) 5 1 au ar av aw al∧[5].map f=[.slice av al.length aw]) ?_ ?_
   ·intro f ar hJ;obtain ⟨au,av,aw,al,hm,aa,bb,hs⟩:=hJ;rw [Zfz.eq_1] at hm;refine .lL [5] hs<|go ?_;exact ⟨af,by omega,rfl,⟨_,_,_,_,_,_,rfl,hm,aa,bb,rfl⟩⟩
   refine go ?_;obtain ⟨bk,ax,hm⟩:=bZ hm;refine lI ax (aq.addr ax) ?_;obtain ⟨ah,am,hm⟩:=bZ hm;have am:ah=ag.set (Int.toNat ab) 48:=(Option.some.inj am).symm;refine Y7 (x1:=48) aq ax ?_;intro bm bc bd ai;rw [← am] at ai;refine .ld (d:=5) (v:=(.slice ad ah.length ae)) (congrArg (fun n=>Value.slice ad n ae) (show ag.length=ah.length by rw [am,nS])) ?_;refine Zm<|Zv ?_;replace aa:=aa.kp bc bd;refine Wp.cutK [0,1,11,12,5,6,1000000] (fun f ay=>∃ az a1,Zf0 ab (S0 N aj ac af) ah a1=some r∧St w0 (Zk col) az ay∧Zc (Za.int .u8) 5 1 az ay ad ae ah∧[38].map f=[.bool a1]) ?_ ?_
   ·intro f ay hJ;obtain ⟨az,a1,hm,aa,ai,hs⟩:=hJ;rw [Zf0.eq_1] at hm;refine .lL [38] hs ?_;refine Zq hm (fun hb hm=>go ?_) fun hb hm=>?_
    ·obtain ⟨bn,a2,hm⟩:=bZ hm;refine lI a2 (ai.addr a2) ?_;obtain ⟨a3,an,hm⟩:=bZ hm;have an:a3=ah.set (Int.toNat ab) 49:=(Option.some.inj an).symm;refine Y7 (x1:=49) ai a2 ?_;intro bo be bf a8;rw [← an] at a8;refine .ld (d:=5) (v:=(.slice ad a3.length ae)) (congrArg (fun n=>Value.slice ad n ae) (show ah.length=a3.length by rw [an,nS])) ?_;refine Zm ?_;replace aa:=aa.kp be bf;exact ⟨rfl,_,_,_,_,hm,aa,a8,rfl⟩
    refine X3 ?_;exact ⟨rfl,_,_,_,_,hm,aa,ai,rfl⟩
   refine go ?_;refine lV (.int .i64 (i64.wrap (Int.tdiv (i64.wrap ((i64.wrap (ac - 1)) - ab)) 32))) (Vf (i64.wrap ((i64.wrap (ac - 1)) - ab)) 32 rfl rfl (by decide))<|go ?_;refine X8 hm (fun a4 hm=>go ?_) fun a4 hm=>go ?_
   ·refine lV (.int .i64 (i64.wrap (Int.tdiv (i64.wrap ((i64.wrap (ac - 1)) - ab)) 32))) (Vf (i64.wrap ((i64.wrap (ac - 1)) - ab)) 32 rfl rfl (by decide))<|go ?_;obtain ⟨a5,a6,hm⟩:=bZ hm;refine lI a6 ((h0.ks aa).addr a6) ?_;refine go ?_;refine lW ((h0.ks aa).atInt a6)<|go ?_;refine lV (.int .i64 (Int.tmod (i64.wrap ((i64.wrap (ac - 1)) - ab)) 32)) (Ti (i64.wrap ((i64.wrap (ac - 1)) - ab)) 32 rfl rfl (by decide))<|go ?_;obtain ⟨bg,hm⟩:=Z6 hm;refine lV (.int .u32 (Yd .u32 a5 (Int.tmod (i64.wrap ((i64.wrap (ac - 1)) - ab)) 32))) (Tv a5 (Int.tmod (i64.wrap ((i64.wrap (ac - 1)) - ab)) 32) rfl rfl bg)<|go ?_;refine lV (.bool (decide ((Uh .u32 (Yd .u32 a5 (Int.tmod (i64.wrap ((i64.wrap (ac - 1)) - ab)) 32)) 1)=1))) (Xr (congrArg Value.bool a4) rfl)<|Zm ?_;exact ⟨rfl,_,_,hm,aa,ai,rfl⟩
   refine lV (.bool false) (Xh (congrArg Value.bool a4) rfl)<|Zm ?_;exact ⟨rfl,_,_,hm,aa,ai,rfl⟩
  refine lV (.string (Yl ag)) (Zwj (c:=1) (c2:=1) (aq.srcN NB.int) underlying164 underlying5 underlying9 rfl)<|go ?_;cases hm;exact ⟨rfl,rfl,aa.below⟩
def Yi (v:Nat):Nat→List Int
 | 0=>[]
 | m+1=>(48+((v / 2 ^ m % 2:Nat):Int)) :: Yi v m
theorem Zys {a:List Int} (h:Zo a) (i:Nat):Zb a / 2 ^ i % 2=Xq a (i / 32) / 2 ^ (i % 32) % 2:=by
 have e3:=Zqy (Zb (a.take (i / 32))) (Xq a (i / 32)) (Zb (a.drop (i / 32+1))) (i / 32) (i % 32) (Zj0 h _) (by omega)
 rwa [← U6 a,← U7,show 32 * (i / 32)+i % 32=i by omega] at e3
theorem Zym {y:Nat} (h:y<4294967296):Uh .u32 (y:Int) 1=((y % 2:Nat):Int):=by
 rw [Uh,BitVec.toNat_and,Zb1 _ _ (by simp only [IntKind.bits];omega),show (1:Int)=((1:Nat):Int) from rfl,Zb1 _ _ (by simp only [IntKind.bits];omega),Nat.and_one_is_mod,Zql]
 omega
theorem Zsw {N k:Nat} {a:List Int} (ha:Zo a) (hk:k≤1099511627776) (hl:a.length≤1099511627776):∀ (f m:Nat) (pre:List Int),pre.length+m=k→m<f→
  S0 N a (k:Int) f (pre.length:Int) (pre++List.replicate m 0)=some (Yl (pre++Yi (Zb a) m))
 | 0,m,pre,h1,h2=>by omega
 | f+1,0,pre,h1,h2=>by
  rw [S0.eq_2,List.length_replicate,Int.toNat_natCast,if_neg (dF (by omega))];rfl
 | f+1,m+1,pre,h1,h2=>by
  have e0:i64.wrap (i64.wrap ((k:Int) - 1) - (pre.length:Int))=(m:Int):=by
   rw [Zz (x:=(k:Int) - 1) (by omega),Zz (by omega)];omega
  have e1:i64.wrap (Int.tdiv (m:Int) 32)=((m / 32:Nat):Int):=by rw [Int.tdiv_eq_ediv_of_nonneg (by omega),Zz (by omega)];omega
  have e2:Int.tmod (m:Int) 32=((m % 32:Nat):Int):=by rw [Int.tmod_eq_emod_of_nonneg (by omega)];omega
  have sett:∀ x c:Int,(pre++x :: List.replicate m 0).set pre.length c=(pre++[c])++List.replicate m 0:=fun x c=>by
   rw [List.set_append_right (i:=pre.length) c (Nat.le_refl _),Nat.sub_self,List.set_cons_zero,List.append_assoc];rfl
  have ih:=fun c:Int=>Zsw (N:=N) ha hk hl f m (pre++[c]) (by rw [nA,List.length_singleton];omega) (by omega)
  simp only [nA,List.length_singleton] at ih
  have hJ:∀ b:Bool,(b=decide (Zb a / 2 ^ m % 2=1))→Zf0 (pre.length:Int) (S0 N a (k:Int) f) ((pre++[48])++List.replicate m 0) b=some (Yl (pre++Yi (Zb a) (m+1))):=by
   intro b hb
   rw [Zf0,Yi]
   by_cases h:Zb a / 2 ^ m % 2=1
   ·rw [decide_eq_true h] at hb
    rw [if_pos hb,Xk (by rw [nA,nA,List.length_singleton];omega),oB,Int.toNat_natCast,List.append_assoc,List.singleton_append,sett,oB,Zfz,wS (by omega),ih 49,h,List.append_assoc];rfl
   ·rw [decide_eq_false h] at hb
    have h0:Zb a / 2 ^ m % 2=0:=by omega
    rw [if_neg (by rw [hb];decide),Zfz,wS (by omega),ih 48,h0,List.append_assoc];rfl
  rw [S0.eq_2,List.length_replicate,Int.toNat_natCast,if_pos (dT (by omega)),Xk (by rw [nA,List.length_replicate];omega),oB,Int.toNat_natCast,List.replicate_succ,sett,oB,e0,e1,e2]
  have hbit:=Zys ha m
  by_cases hp:m / 32<a.length
  ·have he:=ha.get hp
   obtain ⟨y,hy⟩:∃ y:Nat,a[m / 32]=(y:Int):=⟨(a[m / 32]).toNat,by omega⟩
   have hla:Xq a (m / 32)=y:=by rw [Xq,List.getD_eq_getElem?_getD,List.getElem?_eq_getElem hp,Option.getD_some,hy,Int.toNat_natCast]
   rw [hla] at hbit
   have hd:=Nat.div_le_self y (2 ^ (m % 32))
   rw [if_pos (dT (by omega)),Xk hp,hy,oB,Xg (by omega),Zkb _ _ _ (by simp only [IntKind.bits];omega)]
   refine hJ _ ?_
   rw [hbit]
   generalize y / 2 ^ (m % 32)=z at *
   rw [Zym (by omega)]
   rw [Bool.eq_iff_iff,decide_eq_true_iff,decide_eq_true_iff]
   omega
  ·have hla:Xq a (m / 32)=0:=by rw [Xq,List.getD_eq_getElem?_getD,List.getElem?_eq_none (by omega)];rfl
   rw [hla,Nat.zero_div] at hbit
   rw [if_neg (dF (by omega))]
   refine hJ _ ?_
   rw [hbit];rfl
theorem Z1e {N k:Nat} {a:List Int} (ha:Zo a) (hk:k≤1099511627776) (hl:a.length≤1099511627776) (hN:k<N):Zfy N a (k:Int)=some (Yl (Yi (Zb a) k)):=by
 rw [Zfy,Xg (by rw [Int.toNat_natCast];simp only [maxLen];omega),Int.toNat_natCast]
 exact Zsw ha hk hl N k [] (by simp) hN
def Zbb (N:Nat) (aa:Rh):Nat→Int→Option Re
  | 0,_=>none
  | ak+1,ac=>(Zim N ac).bind fun ab=>(Uv N ((aa.1.1.1.1,aa.1.1.1.2),aa.1.1.2) ((ab.1.1,ab.1.2),ab.2)).bind fun ad=>(Zgc N ((ad.1.1,ad.1.2),ad.2)).bind fun ae=>(Zip N ((ae.1.1,ae.1.2),ae.2)).bind fun aj=>(Zhl N (aj.1,aj.2)).bind fun af=>(Zch).bind fun ag=>(V4 N ((af.1,af.2),[1]) ((ag.1.1,ag.1.2),ag.2)).bind fun ah=>(Uv N ((aa.1.2.1.1,aa.1.2.1.2),aa.1.2.2) ((ab.1.1,ab.1.2),ab.2)).bind fun ai=>(U4 N ((ah.1.1,ah.1.2),ah.2) ((ai.1.1,ai.1.2),ai.2)).bind fun al=>if (decide (al≤0))=true then ((Zfy N af.2 ac).bind fun am=>some (am,0)) else ((Zbb N aa ak) (i64.wrap (ac+1)))
termination_by structural x=>x
def Q9 (N:Nat) (ab:R0) (af:List Int):Option Re:=
  (Zcd N (ab.1,ab.2.1,ab.2.2.1,ab.2.2.2.1,ab.2.2.2.2) af).bind fun aa=>if (!decide (aa.2=0))=true then (some (⟨#[]⟩,aa.2)) else ((Qq N ((aa.1.2.1.1,aa.1.2.1.2),aa.1.2.2) ((aa.1.1.1.1,aa.1.1.1.2),aa.1.1.2)).bind fun ac=>(Zag N ((ac.1.1,ac.1.2),ac.2)).bind fun ag=>if (decide (ag≤0))=true then (some (⟨#[]⟩,52)) else ((Zbl N ac.2).bind fun ad=>(Zbl N ac.1.2).bind fun ae=>Zbb N aa N (if 0>(i64.wrap ((i64.wrap (ad - ae)) - 1)) then 0 else (i64.wrap ((i64.wrap (ad - ae)) - 1)))))
theorem Zq7 {N b6 b7 b8 b9 ca:Nat} {cb cc cd ce a1:Option Addr} {col:Ze} {w0:World} {ah:R0} {bz:R2} {r:Re} (hm:Q9 N ah bz=some r) (cf:Sl Za.str col w0 cb b6 ah.2.1) (cg:Sl (Za.slice Za.str) col w0 cc b7 ah.2.2.1) (ch:Sl (Za.slice (Za.int .i64)) col w0 cd b8 ah.2.2.2.1) (ci:Sl (Za.slice (Za.pair (Za.pair Za.bool (Za.slice (Za.int .u32))) (Za.slice (Za.int .u32)))) col w0 ce b9 ah.2.2.2.2) (h1:Sl (Za.int .i64) col w0 a1 ca bz):
    Calls prog 13 #[(.agg #[.string ah.1,.slice cb ah.2.1.length b6,.slice cc ah.2.2.1.length b7,.slice cd ah.2.2.2.1.length b8,.slice ce ah.2.2.2.2.length b9]),.slice a1 bz.length ca] w0 (fun e w'=>e= .returned (.tuple #[.string r.1,.int .i64 r.2])∧Below w0.heap.size w0 w'):=by
 refine Zdu 4 5 (m:=66) (args:=[(.agg #[.string ah.1,.slice cb ah.2.1.length b6,.slice cc ah.2.2.1.length b7,.slice cd ah.2.2.2.1.length b8,.slice ce ah.2.2.2.2.length b9]),.slice a1 bz.length ca]) func13 rfl rfl rfl rfl rfl ?_;rw [Q9.eq_1] at hm;have ab:=St.start col w0;refine go ?_;refine Xv (col:=(Zk col)) 1 rfl ?_;intro eh ei ej cw cx;refine go ?_;refine lV _ (Xb isAgg27 sizeOf27 cx)<|Wt rfl ?_;obtain ⟨aa,cy,hm⟩:=bZ hm;replace cf:=cf.keep (Zl.start col w0);replace cg:=cg.keep (Zl.start col w0);replace ch:=ch.keep (Zl.start col w0);replace ci:=ci.keep (Zl.start col w0);replace h1:=h1.keep (Zl.start col w0);replace ab:=ab.grow cw;refine Zh (Zq8 2 3 4 5 cy (cf.ks ab) (cg.ks ab) (ch.ks ab) (ci.ks ab) (h1.ks ab)) ?_;rintro _ ek ⟨cz,be,bf,bg,bh,bi,bj,bk,bm,rfl,c0,ad,ae,af,ag⟩;refine ⟨_,rfl,?_⟩;refine lM (.tuple #[(.agg #[.bool aa.1.1.1.1,.slice be aa.1.1.1.2.length bf,.slice bg aa.1.1.2.length bh,.bool aa.1.2.1.1,.slice bi aa.1.2.1.2.length bj,.slice bk aa.1.2.2.length bm]),.int .i64 aa.2])<|lV (.agg #[.bool aa.1.1.1.1,.slice be aa.1.1.1.2.length bf,.slice bg aa.1.1.2.length bh,.bool aa.1.2.1.1,.slice bi aa.1.2.1.2.length bj,.slice bk aa.1.2.2.length bm]) (Xf rfl rfl)<|lV (.int .i64 aa.2) (Xf rfl rfl)<|Xj (col:=cz) #[.bool false,.slice none (([]:List Int).length) 0,.slice none (([]:List Int).length) 0,.bool false,.slice none (([]:List Int).length) 0,.slice none (([]:List Int).length) 0] 6 zeroValue68 ?_;intro c1 el b0 bs c2;refine Zw c2 ?_;intro c3 bt c4 ac;refine go ?_;replace ab:=((ab.grow c0).grow bs).kp bt c4;replace ad:=(ad.gr bs).kp bt;replace ae:=(ae.gr bs).kp bt;replace af:=(af.gr bs).kp bt;replace ag:=(ag.gr bs).kp bt;refine Zq hm (fun hb hm=>go ?_) fun hb hm=>go ?_
 ·cases hm;exact ⟨rfl,rfl,ab.below⟩
 refine Xx ⟨_,_,rfl⟩ ?_;refine lV (.agg #[.bool aa.1.2.1.1,.slice bi aa.1.2.1.2.length bj,.slice bk aa.1.2.2.length bm]) (Xt isAgg39 sizeOf39 rfl rfl ((ac.atN).part 3 3 _ rfl))<|Xx ⟨_,_,rfl⟩ ?_;refine lV (.agg #[.bool aa.1.1.1.1,.slice be aa.1.1.1.2.length bf,.slice bg aa.1.1.2.length bh]) (Xt isAgg39 sizeOf39 rfl rfl ((ac.atN).part 0 3 _ rfl)) ?_;obtain ⟨em,c5,hm⟩:=bZ hm;refine Zh (Znr 7 8 c5 ((((af.toSlF (Zg.int .u32)).froz 5).froz 2).froz 3) ((((ag.froz 4 (by decide)).toSlF (Zg.int .u32)).froz 2).froz 3) ((((ad.froz 4 (by decide)).froz 5 (by decide)).toSlF (Zg.int .u32)).froz 3) ((((ae.froz 4 (by decide)).froz 5 (by decide)).froz 2 (by decide)).toSlF (Zg.int .u32))) ?_;rintro _ en ⟨c6,eo,ep,eq,er,rfl,ax,a2,a3⟩;refine ⟨_,rfl,?_⟩;replace a2:=a2.thaw (Zy .u32) ax (((((Fz.refl (col:=b0)).froz 4).froz 5).froz 2).froz 3) (by decide);replace a3:=a3.thaw (Zy .u32) ax (((((Fz.refl (col:=b0)).froz 4).froz 5).froz 2).froz 3) (by decide);replace ax:=ax.thawR (col:=b0);generalize Z7 c3.heap.size b0 c6=c7 at *;refine Xj (col:=c7) #[.bool false,.slice none (([]:List Int).length) 0,.slice none (([]:List Int).length) 0] 9 zeroValue39 ?_;intro es et a4 a5 c8;refine Zw c8 ?_;intro c9 a6 da bu;refine go ?_;refine lV _ (Xb isAgg39 sizeOf39 bu) ?_;obtain ⟨eu,db,hm⟩:=bZ hm;replace a2:=(a2.gr a5).kp a6;replace a3:=(a3.gr a5).kp a6;refine Zh (Znq db ((a2.toSlF (Zg.int .u32)).froz 8) ((a3.froz 7 (by decide)).toSlF (Zg.int .u32))) ?_;rintro _ dc ⟨rfl,ar⟩;refine ⟨_,rfl,?_⟩;replace ar:Zf a4 c9 a4 dc:=.of_below ar;refine go ?_;replace ad:=(((ad.gr ax).gr a5).kp a6).gr ar;replace ae:=(((ae.gr ax).gr a5).kp a6).gr ar;replace af:=(((af.gr ax).gr a5).kp a6).gr ar;replace ag:=(((ag.gr ax).gr a5).kp a6).gr ar;replace ac:=(((ac.gr ax).gr a5).kp a6).gr ar;replace ab:=(((ab.grow ax).grow a5).kp a6 da).grow ar;replace a2:=a2.gr ar;replace a3:=a3.gr ar;replace bu:=bu.gr ar;refine Zq hm (fun hb hm=>go ?_) fun hb hm=>go ?_
 ·cases hm;exact ⟨rfl,rfl,ab.below⟩
 refine Un (col:=a4) (by kernel_rfl) (by kernel_rfl)<|qF ⟨_,_,rfl⟩ ?_;refine qW (fun _ hC=>((bu.atN).nth (q:=2) rfl).gr (hC.bl a4)) ?_;obtain ⟨b1,dd,hm⟩:=bZ hm;refine qc (v:=(.int .i64 b1)) rfl (fun _ hC=>⟨_,_,Ze1 call64 rfl,(Znt dd ((a3.gr (hC.bl a4)).toSlF (Zg.int .u32)):).mono fun _ _ h=>⟨h.1,hC.trans (.of_below h.2)⟩⟩) ?_;refine qF ⟨_,_,rfl⟩ ?_;refine qF (Tz ⟨_,_,rfl⟩) ?_;refine qW (fun _ hC=>((((bu.atN).part 0 2 _ rfl)).nth (q:=1) rfl).gr (hC.bl a4)) ?_;obtain ⟨b2,de,hm⟩:=bZ hm;refine qc (v:=(.int .i64 b2)) rfl (fun _ hC=>⟨_,_,Ze1 call64 rfl,(Znt de ((a2.gr (hC.bl a4)).toSlF (Zg.int .u32)):).mono fun _ _ h=>⟨h.1,hC.trans (.of_below h.2)⟩⟩) ?_;refine go ?_;refine qv (v:=(.int .i64 (if 0>(i64.wrap ((i64.wrap (b1 - b2)) - 1)) then 0 else (i64.wrap ((i64.wrap (b1 - b2)) - 1))))) rfl (fun _ hC=>Z4w (i64.wrap ((i64.wrap (b1 - b2)) - 1)) 0 rfl rfl) ?_;refine go ?_;refine Wv ?_;intro ew hC;replace hC:=hC.bl a4;refine Ze6 ?_;replace ad:=ad.gr hC;replace ae:=ae.gr hC;replace af:=af.gr hC;replace ag:=ag.gr hC;replace ac:=ac.gr hC;replace ab:=ab.grow hC;refine Z9 [6,1000000] (fun n f bb=>∃ a7 cj bn,bn=n∧Zbb N aa bn cj=some r∧St w0 (Zk col) a7 bb∧Zc (Za.int .u32) 95 2 a7 bb be bf aa.1.1.1.2∧Zc (Za.int .u32) 95 3 a7 bb bg bh aa.1.1.2∧Zc (Za.int .u32) 95 4 a7 bb bi bj aa.1.2.1.2∧Zc (Za.int .u32) 95 5 a7 bb bk bm aa.1.2.2∧Zj 68 6 a7 bb c1 #[.bool aa.1.1.1.1,.slice be aa.1.1.1.2.length bf,.slice bg aa.1.1.2.length bh,.bool aa.1.2.1.1,.slice bi aa.1.2.1.2.length bj,.slice bk aa.1.2.2.length bm]∧[9].map f=[.int .i64 cj]) N ⟨_,_,_,rfl,hm,ab,ad,ae,af,ag,ac,rfl⟩ ?_;clear hm;intro n f bb hI;obtain ⟨a7,cj,bn,hn,hm,ab,ad,ae,af,ag,ac,hs⟩:=hI;subst hn;refine .lL [9] hs ?_
 cases bn with
 | zero=>rw [Zbb.eq_1] at hm;cases hm
 | succ bn=>
  rw [Zbb.eq_2] at hm;refine go ?_;obtain ⟨ey,df,hm⟩:=bZ hm;refine Zh (Zyz (col:=a7) 10 11 df) ?_;rintro _ ez ⟨dg,e0,e1,e2,e3,rfl,bo,ay,az⟩;refine ⟨_,rfl,?_⟩;refine Xj (col:=dg) #[.bool false,.slice none (([]:List Int).length) 0,.slice none (([]:List Int).length) 0] 12 zeroValue39 ?_;intro e4 e5 b3 a8 dh;refine Zw dh ?_;intro di a9 dj b4;refine go ?_;refine Xx ⟨_,_,rfl⟩ ?_;replace ac:=((ac.gr bo).gr a8).kp a9;refine lV (.agg #[.bool aa.1.1.1.1,.slice be aa.1.1.1.2.length bf,.slice bg aa.1.1.2.length bh]) (Xt isAgg39 sizeOf39 rfl rfl ((ac.atN).part 0 3 _ rfl))<|lV _ (Xb isAgg39 sizeOf39 b4) ?_;obtain ⟨e6,dl,hm⟩:=bZ hm;replace ad:=((ad.gr bo).gr a8).kp a9;replace ae:=((ae.gr bo).gr a8).kp a9;replace ay:=(ay.gr a8).kp a9;replace az:=(az.gr a8).kp a9;refine Zh (Zfd 13 14 dl ((((ad.toSlF (Zg.int .u32)).froz 3).froz 10).froz 11) ((((ae.froz 2 (by decide)).toSlF (Zg.int .u32)).froz 10).froz 11) ((((ay.froz 2 (by decide)).froz 3 (by decide)).toSlF (Zg.int .u32)).froz 11) ((((az.froz 2 (by decide)).froz 3 (by decide)).froz 10 (by decide)).toSlF (Zg.int .u32))) ?_;rintro _ dm ⟨dn,e7,e8,e9,fa,rfl,al,ck,cl⟩;refine ⟨_,rfl,?_⟩;replace ck:=ck.thaw (Zy .u32) al (((((Fz.refl (col:=b3)).froz 2).froz 3).froz 10).froz 11) (by decide);replace cl:=cl.thaw (Zy .u32) al (((((Fz.refl (col:=b3)).froz 2).froz 3).froz 10).froz 11) (by decide);replace al:=al.thawR (col:=b3);generalize Z7 di.heap.size b3 dn=b5 at *;obtain ⟨fb,dp,hm⟩:=bZ hm;refine Zh (Zy8 15 16 dp ((ck.toSlF (Zg.int .u32)).froz 14) ((cl.froz 13 (by decide)).toSlF (Zg.int .u32))) ?_;rintro _ dq ⟨dr,fc,fd,fe,ff,rfl,am,cn,co⟩;refine ⟨_,rfl,?_⟩;replace cn:=cn.thaw (Zy .u32) am (((Fz.refl (col:=b5)).froz 13).froz 14) (by decide);replace co:=co.thaw (Zy .u32) am (((Fz.refl (col:=b5)).froz 13).froz 14) (by decide);replace am:=am.thawR (col:=b5);generalize Z7 dm.heap.size b5 dr=cp at *;obtain ⟨fg,ds,hm⟩:=bZ hm;refine Zh (Zy7 17 ds ((cn.toSlF (Zg.int .u32)).froz 16) ((co.froz 15 (by decide)).toSlF (Zg.int .u32))) ?_
  rintro _ dt ⟨du,fh,fi,rfl,an,cq⟩;refine ⟨_,rfl,?_⟩;replace cq:=cq.thaw (Zy .u32) an (((Fz.refl (col:=cp)).froz 15).froz 16) (by decide);replace an:=an.thawR (col:=cp);generalize Z7 dq.heap.size cp du=cr at *;obtain ⟨cv,dv,hm⟩:=bZ hm;refine Zh (Z0m 18 dv (cq.toSlF (Zg.int .u32))) ?_;rintro _ fj ⟨dw,dx,dy,rfl,ao,ak⟩;refine ⟨_,rfl,?_⟩;replace ak:=ak.thaw (Zy .u32) ao ((Fz.refl (col:=cr)).froz 17) (by decide);replace ao:=ao.thawR (col:=cr);generalize Z7 dt.heap.size cr dw=dz at *;refine W8 (col:=dz) [1] 19 ?_;intro d0 fk d1 a0 bv;refine lV (.agg #[.bool cv.1,.slice dx cv.2.length dy,.slice d0 ([1].length) 1]) (Yo (l:=[_,_]) (qs:=[(0,2),(2,1)]) underlying39 zeroValue39 ⟨rfl,sizeOf37,rfl,sizeOf35,trivial⟩ rfl)<|Xj (col:=d1) #[.bool false,.slice none (([]:List Int).length) 0,.slice none (([]:List Int).length) 0] 20 zeroValue39 ?_;intro fl fm bp au d2;refine Zw d2 ?_;intro fn av d3 ap;refine go ?_;refine Wi (col:=bp) [(0,0),(3,1),(4,0),(5,0),(1,3),(2,3),(6,3),(7,3),(8,1)] (by kernel_rfl) (by kernel_rfl)<|xv rfl rfl (fun _ hC=>Xb isAgg39 sizeOf39 (ap.gr (hC.bl bp))) ?_;refine xF ⟨_,_,rfl⟩ ?_;replace ac:=((((((ac.gr al).gr am).gr an).gr ao).gr a0).gr au).kp av;refine xv (v:=(.agg #[.bool aa.1.2.1.1,.slice bi aa.1.2.1.2.length bj,.slice bk aa.1.2.2.length bm])) rfl rfl (fun _ hC=>Xt isAgg39 sizeOf39 rfl rfl (((ac.atN).part 3 3 _ rfl).gr (hC.bl bp))) ?_;replace b4:=((((((b4.gr al).gr am).gr an).gr ao).gr a0).gr au).kp av;refine xv rfl rfl (fun _ hC=>Xb isAgg39 sizeOf39 (b4.gr (hC.bl bp))) ?_;refine xe rfl rfl ?_;intro fp hC0;have hC:=hC0.bl bp;obtain ⟨fq,d4,hm⟩:=bZ hm;refine lc rfl rfl (Zax call69) (Zkt (col:=bp) 21 22 d4:) ?_;rintro _ fr ⟨bq,ft,fu,fv,fw,rfl,aq,cs,ct⟩;refine ⟨_,rfl,?_⟩;refine Zm<|X4 bq hC0 aq<|xe rfl rfl ?_;intro d5 hC0;replace af:=(((((((((((af.gr bo).gr a8).kp a9).gr al).gr am).gr an).gr ao).gr a0).gr au).kp av).gr hC).gr aq;replace ag:=(((((((((((ag.gr bo).gr a8).kp a9).gr al).gr am).gr an).gr ao).gr a0).gr au).kp av).gr hC).gr aq
  replace ab:=(((((((((((ab.grow bo).grow a8).kp a9 dj).grow al).grow am).grow an).grow ao).grow a0).grow au).kp av d3).grow hC).grow aq;replace ad:=((((((((ad.gr al).gr am).gr an).gr ao).gr a0).gr au).kp av).gr hC).gr aq;replace ae:=((((((((ae.gr al).gr am).gr an).gr ao).gr a0).gr au).kp av).gr hC).gr aq;replace ay:=((((((((ay.gr al).gr am).gr an).gr ao).gr a0).gr au).kp av).gr hC).gr aq;replace az:=((((((((az.gr al).gr am).gr an).gr ao).gr a0).gr au).kp av).gr hC).gr aq;replace ak:=((((ak.gr a0).gr au).kp av).gr hC).gr aq;replace bv:=(((bv.gr au).kp av).gr hC).gr aq;replace ac:=(ac.gr hC).gr aq;replace ap:=(ap.gr hC).gr aq;have hC:=hC0.bl bq;obtain ⟨fx,d6,hm⟩:=bZ hm;replace ak:=ak.gr hC;replace bv:=bv.gr hC;replace cs:=cs.gr hC;replace ct:=ct.gr hC;refine Zh (Zb2 23 24 d6 ((((ak.toSlF (Zg.int .u32)).froz 19).froz 21).froz 22) ((((bv.froz 18 (by decide)).toSlF (Zg.int .u32)).froz 21).froz 22) ((((cs.froz 18 (by decide)).froz 19 (by decide)).toSlF (Zg.int .u32)).froz 22) ((((ct.froz 18 (by decide)).froz 19 (by decide)).froz 21 (by decide)).toSlF (Zg.int .u32))) ?_;rintro _ fy ⟨d7,fz,f0,f1,f2,rfl,ai,bc,bd⟩;refine ⟨_,rfl,?_⟩;replace bc:=bc.thaw (Zy .u32) ai (((((Fz.refl (col:=bq)).froz 18).froz 19).froz 21).froz 22) (by decide);replace bd:=bd.thaw (Zy .u32) ai (((((Fz.refl (col:=bq)).froz 18).froz 19).froz 21).froz 22) (by decide);replace ai:=ai.thawR (col:=bq);generalize Z7 d5.heap.size bq d7=br at *;refine Zm<|X4 br hC0 ai<|xe rfl rfl ?_;intro d8 hC0;replace ad:=(ad.gr hC).gr ai;replace ae:=(ae.gr hC).gr ai;replace af:=(af.gr hC).gr ai;replace ag:=(ag.gr hC).gr ai;replace ay:=(ay.gr hC).gr ai;replace az:=(az.gr hC).gr ai;replace ac:=(ac.gr hC).gr ai;replace ap:=(ap.gr hC).gr ai;replace ab:=(ab.grow hC).grow ai;have hC:=hC0.bl br;obtain ⟨f3,d9,hm⟩:=bZ hm;replace af:=af.gr hC;replace ag:=ag.gr hC;replace ay:=ay.gr hC;replace az:=az.gr hC
  refine Zh (Zfd 25 26 d9 ((((af.toSlF (Zg.int .u32)).froz 5).froz 10).froz 11) ((((ag.froz 4 (by decide)).toSlF (Zg.int .u32)).froz 10).froz 11) ((((ay.froz 4 (by decide)).froz 5 (by decide)).toSlF (Zg.int .u32)).froz 11) ((((az.froz 4 (by decide)).froz 5 (by decide)).froz 10 (by decide)).toSlF (Zg.int .u32))) ?_;rintro _ f4 ⟨ea,f5,f6,f7,f8,rfl,aj,bw,bx⟩;refine ⟨_,rfl,?_⟩;replace bw:=bw.thaw (Zy .u32) aj (((((Fz.refl (col:=br)).froz 4).froz 5).froz 10).froz 11) (by decide);replace bx:=bx.thaw (Zy .u32) aj (((((Fz.refl (col:=br)).froz 4).froz 5).froz 10).froz 11) (by decide);replace aj:=aj.thawR (col:=br);generalize Z7 d8.heap.size br ea=ba at *;refine Zm<|X4 ba hC0 aj<|xe rfl rfl ?_;intro eb hC0;replace ak:=((ak.gr ai).gr hC).gr aj;replace ad:=(ad.gr hC).gr aj;replace ae:=(ae.gr hC).gr aj;replace bc:=(bc.gr hC).gr aj;replace bd:=(bd.gr hC).gr aj;replace ac:=(ac.gr hC).gr aj;replace ap:=(ap.gr hC).gr aj;replace ab:=(ab.grow hC).grow aj;have hC:=hC0.bl ba;obtain ⟨f9,ec,hm⟩:=bZ hm;replace bc:=bc.gr hC;replace bd:=bd.gr hC;replace bw:=bw.gr hC;replace bx:=bx.gr hC;refine Zh (Zdr ec ((((bc.toSlF (Zg.int .u32)).froz 24).froz 25).froz 26) ((((bd.froz 23 (by decide)).toSlF (Zg.int .u32)).froz 25).froz 26) ((((bw.froz 23 (by decide)).froz 24 (by decide)).toSlF (Zg.int .u32)).froz 26) ((((bx.froz 23 (by decide)).froz 24 (by decide)).froz 25 (by decide)).toSlF (Zg.int .u32))) ?_;rintro _ ed ⟨rfl,aw⟩;refine ⟨_,rfl,?_⟩;replace aw:Zf ba eb ba ed:=.of_below aw;refine Zm<|X4 ba hC0 aw<|xu rfl rfl (fun _=>Zpw _ _ rfl rfl) ?_;refine Wf ?_;replace af:=((af.gr aj).gr hC).gr aw;replace ag:=((ag.gr aj).gr hC).gr aw;replace ad:=(ad.gr hC).gr aw;replace ae:=(ae.gr hC).gr aw;replace ak:=(ak.gr hC).gr aw;replace ac:=(ac.gr hC).gr aw;replace ap:=(ap.gr hC).gr aw;replace ab:=(ab.grow hC).grow aw;intro ee hC;replace hC:=hC.bl ba;replace ad:=ad.gr hC;replace ae:=ae.gr hC;replace af:=af.gr hC;replace ag:=ag.gr hC;replace ak:=ak.gr hC;replace ac:=ac.gr hC;replace ap:=ap.gr hC;replace ab:=ab.grow hC
  refine Zq hm (fun hb hm=>go ?_) fun hb hm=>go ?_
  ·refine Xx ⟨_,_,rfl⟩ ?_;refine Xx (Tz ⟨_,_,rfl⟩) ?_;refine lW ((((ap.atN).part 0 2 _ rfl)).nth (q:=1) rfl)<|Yf rfl ?_;obtain ⟨ga,ef,hm⟩:=bZ hm;refine Zh (Zyx ef (ak.toSlF (Zg.int .u32))) ?_;rintro _ eg ⟨rfl,cu⟩;refine ⟨_,rfl,?_⟩;replace cu:Zf ba ee ba eg:=.of_below cu;refine go ?_;cases hm;replace ab:=ab.grow cu;exact ⟨rfl,rfl,ab.below⟩
  exact ⟨bn,by omega,rfl,⟨_,_,_,rfl,hm,ab,ad,ae,af,ag,ac,rfl⟩⟩
theorem Zj5 {a b:Rat}:Vt a b≤0↔a≤b:=by
 rw [Vt,← Rat.not_lt]
 by_cases h:a<b
 ·rw [if_pos h];exact ⟨fun _ g=>absurd (Rat.le_of_lt h) (Rat.not_le.2 g),fun _=>by decide⟩
 ·rw [if_neg h]
  by_cases g:b<a
  ·rw [if_pos g];exact ⟨fun e=>absurd e (by decide),fun e=>absurd g e⟩
  ·rw [if_neg g];exact ⟨fun _=>g,fun _=>by decide⟩
abbrev Y1 (k:Nat):Rat:=mkRat ((2 ^ k:Nat):Int) 1
def bN (f:Rat) (k:Nat):Int:= -Vk (-(f * Y1 k))
theorem Z3x (b:Int):mkRat b 1+1=mkRat (b+1) 1:=Zjy b 1 (D:=1) (by decide)
theorem Zk4 {b:Int} {t:Rat} {Z:Nat} (hZ:Z≠0):Vt (mkRat b 1+1) (t * mkRat (Z:Int) 1)≤0↔mkRat (b+1) Z≤t:=by
 have ht:=Rat.mkRat_self t
 have hd:=t.den_nz
 generalize t.num=n at ht
 generalize t.den=d at ht hd
 subst ht
 rw [Zj5,Z3x,Rat.mkRat_mul_mkRat,← Rat.not_lt,← Rat.not_lt,Ve (by omega) (by decide),Ve hd hZ]
 simp
theorem Zqx {q:Rat} (h:0<q) {Z:Nat} (hZ:2 * q.den≤Z):2≤q * mkRat (Z:Int) 1:=by
 have hn:mkRat 0 1<mkRat q.num q.den:=by rw [Rat.mkRat_self];exact h
 rw [Ve (by decide) q.den_nz] at hn
 have ht:=Rat.mkRat_self q
 have hd:=q.den_nz
 generalize q.num=n at *
 generalize q.den=d at *
 subst ht
 rw [Rat.mkRat_mul_mkRat,← Rat.not_lt,show (2:Rat)=mkRat 2 1 from rfl,Ve (by omega) (by decide)]
 have h1:1 * (Z:Int)≤n * (Z:Int):=Int.mul_le_mul_of_nonneg_right (by simp at hn;omega) (by omega)
 have e:((d * 1:Nat):Int)=(d:Int):=by rw [Nat.mul_one]
 rw [e]
 have e1:((1:Nat):Int)=1:=rfl
 rw [e1,Int.mul_one]
 omega
theorem Z18 {f t:Rat} (h:f<t):mkRat (bN f (Z0 (t - f).den+1)+1) (2 ^ (Z0 (t - f).den+1))≤t:=by
 have hl:0<t - f:=by grind
 have hZ:2 * (t - f).den≤2 ^ (Z0 (t - f).den+1):=by
  have:=Vi.1 (Nat.le_refl (Z0 (t - f).den))
  rw [Nat.pow_succ];omega
 have h2:=Zqx hl hZ
 have hne:(2 ^ (Z0 (t - f).den+1):Nat)≠0:=Nat.pos_iff_ne_zero.1 (Nat.pow_pos (by decide))
 rw [← Zk4 hne,Zj5,bN]
 generalize (Z0 (t - f).den+1)=k at *
 have h3:=Ztn (-(f * Y1 k))
 generalize hF:Vk (-(f * Y1 k))=F at *
 have e:mkRat (-F) 1= -(F:Rat):=by rw [Rat.mkRat_one];simp
 rw [e]
 have h4:2≤t * Y1 k - f * Y1 k:=by
  have e2:t * Y1 k - f * Y1 k=(t - f) * Y1 k:=by grind
  rw [e2];exact h2
 generalize f * Y1 k=x at *
 generalize t * Y1 k=y at *
 have h5:2≤y - x:=h4
 have h6:-x<(F:Rat)+1:=h3
 show -(F:Rat)+1≤y
 grind
section
variable {N K:Nat} {f t:Rat} (hf:qs f≤K) (ht:qs t≤K) (hr:Xi N (13 * K+64)) {k:Nat} (hk:k / 32+1≤2 * K+3)
theorem Zpp (k:Nat):qs (Y1 k)≤k / 32+1:=by
 refine Zdh ?_ ?_ (by omega)
 ·rw [Int.natAbs_natCast];exact Zmn k
 ·rw [Uj];simp
include hf hr hk
omit hr in
theorem Zyp:(Xa (bN f k)).2.length≤3 * K+4:=by
 have h1:=Zto (-(f * Y1 k))
 rw [Zms] at h1
 have h2:=Zdi f (Y1 k)
 have h3:=Zpp k
 rw [Q8] at h1 ⊢
 rw [bN,Int.natAbs_neg]
 omega
include ht
theorem Zta (hN:2199023255552<N) (g:Nat):Zbb N ((Zn f,Zn t),0) (g+1) (k:Int)=if mkRat (bN f k+1) (2 ^ k)≤t then some (Yl (Yi (bN f k).natAbs k),0) else Zbb N ((Zn f,Zn t),0) g ((k+1:Nat):Int):=by
 have hroom:=hr.2
 have hroom1:=hr.1
 have lb:=Zyp (f:=f) hf hk
 have q2:=Zpp k
 have q3:=Zdi f (Y1 k)
 have q4:=Zdi t (Y1 k)
 have hp:RV (2 * K+3) (pw k):=(Z5g k).mono hk
 have mul:∀ q:Rat,qs q≤K→Uv N (((Zn q).1.1,(Zn q).1.2),(Zn q).2) (((pw k).1.1,(pw k).1.2),(pw k).2)=some (Zn (q * Y1 k)):=fun q hq=>by
  have:=Zih (Y4 hq) hp (hr.mono (by omega))
  rwa [Y3,Z4i] at this
 have ne:Zgc N (((Zn (f * Y1 k)).1.1,(Zn (f * Y1 k)).1.2),(Zn (f * Y1 k)).2)=some (Zn (-(f * Y1 k))):=by
  have:=Z2b (Y4 (Nat.le_refl (qs (f * Y1 k)))) (hr.mono (by omega))
  rwa [Y3] at this
 have fl:=Z10 (N:=N) (q:= -(f * Y1 k)) (Nat.le_refl _) (hr.mono (by rw [Zms];omega))
 have wn:Zhl N ((Xa (Vk (-(f * Y1 k)))).1,(Xa (Vk (-(f * Y1 k)))).2)=some (Xa (bN f k)):=by
  have hl:=Zto (-(f * Y1 k))
  rw [Zms] at hl
  have:=Z55 (N:=N) (a:=Xa (Vk (-(f * Y1 k)))) (V3 _) hl (hr.mono (by omega))
  rwa [V8] at this
 have hb:RV (3 * K+4) (Xa (bN f k),[1]):=⟨V3 _,by simp [Zo],lb,by simp⟩
 have vb:Zu (Xa (bN f k),[1])=mkRat (bN f k) 1:=by
  rw [Zu];simp only [V8];rfl
 have ad:V4 N (((Xa (bN f k)).1,(Xa (bN f k)).2),[1]) (((Zn 1).1.1,(Zn 1).1.2),(Zn 1).2)=some (Zn (mkRat (bN f k) 1+1)):=by
  have:=Zb7 hb (Y4 (Nat.le_of_eq Zhr)) (hr.mono (by omega))
  rwa [Y3,vb] at this
 have q1:qs (mkRat (bN f k) 1+1)≤3 * K+6:=by
  have h1:=Zmr (mkRat (bN f k) 1) 1
  rw [Zhr] at h1
  have h2:qs (mkRat (bN f k) 1)≤3 * K+4:=Zdh (by rwa [Q8] at lb) (by rw [Uj];simp) (by omega)
  omega
 have cm:U4 N (((Zn (mkRat (bN f k) 1+1)).1.1,(Zn (mkRat (bN f k) 1+1)).1.2),(Zn (mkRat (bN f k) 1+1)).2) (((Zn (t * Y1 k)).1.1,(Zn (t * Y1 k)).1.2),(Zn (t * Y1 k)).2)=some (Vt (mkRat (bN f k) 1+1) (t * Y1 k)):=by
  have:=Zdv (Y4 q1) (Y4 (k:=3 * K+3) (q:=t * Y1 k) (by omega)) (hr.mono (by omega))
  rwa [Y3,Y3] at this
 have bi:Zfy N (Xa (bN f k)).2 (k:Int)=some (Yl (Yi (bN f k).natAbs k)):=by
  have:=Z1e (N:=N) (k:=k) (a:=(Xa (bN f k)).2) (V3 _) (by omega) (by omega) (by omega)
  rwa [Q8,Z5] at this
 have hne:(2 ^ k:Nat)≠0:=Nat.pos_iff_ne_zero.1 (Nat.pow_pos (by decide))
 rw [Zbb.eq_2,Z4a (by omega) (by omega),oB]
 dsimp only
 rw [mul f hf,oB,ne,oB,fl,oB,wn,oB,Zk5,oB,ad,oB,mul t ht,oB,cm,oB]
 by_cases h:mkRat (bN f k+1) (2 ^ k)≤t
 ·rw [if_pos (dT ((Zk4 hne).2 h)),if_pos h,bi,oB]
 ·rw [if_neg (by rw [decide_eq_false (fun e=>h ((Zk4 hne).1 e))];decide),if_neg h,wS (by omega)]
end
def Zf2 (aa:Nat) (kk_L1:(Nat→Option Int)):Option Int:=
  kk_L1 (aa+1)
def Zci (aa:Nat) (kk_L1:(Nat→Option Int)) (ab:Bool):Option Int:=
  if ab=true then (some (aa:Int)) else (Zf2 aa kk_L1)
def Qo (N:Nat) (ab:(R1×R1)):List (R1×R1)→Nat→Option Int
  | [],ac=>some (-1)
  | aa :: ad,ac=>(U4 N ((aa.1.1.1,aa.1.1.2),aa.1.2) ((ab.1.1.1,ab.1.1.2),ab.1.2)).bind fun ae=>if (decide (ae≤0))=true then ((U4 N ((ab.2.1.1,ab.2.1.2),ab.2.2) ((aa.2.1.1,aa.2.1.2),aa.2.2)).bind fun af=>if (decide (af≤0))=true then ((U4 N ((aa.1.1.1,aa.1.1.2),aa.1.2) ((aa.2.1.1,aa.2.1.2),aa.2.2)).bind fun ag=>Zci ac (Qo N ab ad) (decide (ag<0))) else (Zci ac (Qo N ab ad) false)) else (Zci ac (Qo N ab ad) false)
termination_by structural x=>x
def Zlf (N:Nat) (ac:Int) (aa:Rg) (ab:(R1×R1)):Option Int:=
  Qo N ab aa 0
theorem Zy1 (N:Nat) (col:Ze) (w0:World) (qc2:Nat) (hqqc2:qc2≠0) (bq:Int) (a1:Option Addr) (br:Nat) (al:Rg) (g2:Nat) (aa:(R1×R1)) (am:Option Addr) (an:Nat) (ao:Option Addr) (ap:Nat) (aq:Option Addr) (ar:Nat) (au:Option Addr) (av:Nat) (h1:Sl (Za.pair (Za.pair (Za.pair Za.bool (Za.slice (Za.int .u32))) (Za.slice (Za.int .u32))) (Za.pair (Za.pair Za.bool (Za.slice (Za.int .u32))) (Za.slice (Za.int .u32)))) col w0 a1 br al) (a3:Sl (Za.int .u32) col w0 am an aa.1.1.2) (a4:Sl (Za.int .u32) col w0 ao ap aa.1.2) (a5:Sl (Za.int .u32) col w0 aq ar aa.2.1.2) (a6:Sl (Za.int .u32) col w0 au av aa.2.2) (hb2:Zj 68 qc2 col w0 g2 #[.bool aa.1.1.1,.slice am aa.1.1.2.length an,.slice ao aa.1.2.length ap,.bool aa.2.1.1,.slice aq aa.2.1.2.length ar,.slice au aa.2.2.length av]) (r:Int) (hm:Zlf N bq al aa=some r):
    Calls prog 158 #[.int .i64 bq,.slice a1 al.length br,.pointer (some ⟨g2,0,none⟩)] w0 (fun e w'=>e= .returned ((.int .i64 r))∧Below w0.heap.size w0 w'):=by
 refine Xm 5 (m:=39) func158 rfl rfl rfl rfl rfl ?_;rw [Zlf.eq_1] at hm;have ab:=St.start col w0;replace hb2:=hb2.start0 hqqc2;refine go ?_;refine Z9 [2,8,9,1000000] (fun n f a7=>∃ a0 af az,n=az.length∧al.drop af=az∧Qo N aa az af=some r∧St w0 (Zk col) a0 a7∧Zj 68 999 a0 a7 g2 #[.bool aa.1.1.1,.slice am aa.1.1.2.length an,.slice ao aa.1.2.length ap,.bool aa.2.1.1,.slice aq aa.2.1.2.length ar,.slice au aa.2.2.length av]∧[10].map f=[.int .i64 af]) al.length ⟨_,0,_,rfl,rfl,hm,ab,hb2,rfl⟩ ?_;clear hm;intro n f a7 hI;obtain ⟨a0,af,az,hn,hl,hm,ab,hb2,hs⟩:=hI;subst hn;refine .lL [10] hs ?_;replace h1:=h1.keep (Zl.start col w0);replace a3:=a3.keep (Zl.start col w0);replace a4:=a4.keep (Zl.start col w0);replace a5:=a5.keep (Zl.start col w0);replace a6:=a6.keep (Zl.start col w0)
 cases az with
 | nil=>
  have hk:¬ ((af:Int)<(al.length:Int)):=by have:=List.drop_eq_nil_iff.1 hl;omega
  have hkb:=decide_eq_false hk;rw [Qo.eq_1] at hm;refine go ?_;refine X9 (congrArg Value.bool hkb)<|go ?_;cases hm;exact ⟨rfl,rfl,ab.below⟩
 | cons ac a8=>
  obtain ⟨a9,bu,bv⟩:=Ym hl;have hk:(af:Int)<(al.length:Int):=by omega
  have hkb:=decide_eq_true hk;rw [Qo.eq_2] at hm;refine go ?_;refine Yc (congrArg Value.bool hkb)<|X3<|Zv ?_;refine Wp.cutK [10,2,8,9,1000000] (fun f ba=>∃ bb,Zf2 af (Qo N aa a8)=some r∧St w0 (Zk col) bb ba∧Zj 68 999 bb ba g2 #[.bool aa.1.1.1,.slice am aa.1.1.2.length an,.slice ao aa.1.2.length ap,.bool aa.2.1.1,.slice aq aa.2.1.2.length ar,.slice au aa.2.2.length av]) ?_ ?_
  ·intro f ba hJ;obtain ⟨bb,hm,ab,hb2⟩:=hJ;rw [Zf2.eq_1] at hm;refine go ?_;exact ⟨a8.length,by simp,rfl,⟨_,_,_,rfl,bu,hm,ab,hb2,(Ys (congrArg (Value.int .i64) (Yp (Nat.lt_of_lt_of_le bv (h1.ks ab).1.1))) rfl)⟩⟩
  refine go ?_;refine lI a9 ((h1.ks ab).addr a9) ?_;obtain ⟨_,bw,bx⟩:=(h1.ks ab).atN a9;obtain ⟨_,_,rfl,bz,b0⟩:=Va bw;obtain ⟨_,_,rfl,b1,b2⟩:=Va bz;obtain ⟨_,_,rfl,b3,b4⟩:=Va b1;obtain ⟨rfl,_⟩:=b3;obtain ⟨⟨bc,bd,rfl,ag⟩,_⟩:=b4;obtain ⟨⟨be,bf,rfl,ah⟩,_⟩:=b2;obtain ⟨_,_,rfl,b5,b6⟩:=Va b0;obtain ⟨_,_,rfl,b7,b8⟩:=Va b5;obtain ⟨rfl,_⟩:=b7;obtain ⟨⟨bg,bh,rfl,ai⟩,_⟩:=b8;obtain ⟨⟨bi,bj,rfl,aj⟩,_⟩:=b6;refine lV (.agg #[.bool ac.1.1.1,.slice bc ac.1.1.2.length bd,.slice be ac.1.2.length bf,.bool ac.2.1.1,.slice bg ac.2.1.2.length bh,.slice bi ac.2.2.length bj]) (Xt isAgg68 sizeOf68 rfl rfl bx)<|Xj (col:=a0) #[.bool false,.slice none (([]:List Int).length) 0,.slice none (([]:List Int).length) 0,.bool false,.slice none (([]:List Int).length) 0,.slice none (([]:List Int).length) 0] 1 zeroValue68 ?_;intro ci cj aw ax b9;refine Yx rfl<|Zw b9 ?_;intro ca ay cb ak;refine Zm<|Zv ?_;replace ag:=(ag.gr ax).kp ay;replace ah:=(ah.gr ax).kp ay;replace ai:=(ai.gr ax).kp ay;replace aj:=(aj.gr ax).kp ay;replace hb2:=(hb2.gr ax).kp ay;replace ab:=(ab.grow ax).kp ay cb;refine Wp.cutK [10,2,6,8,9,1000000] (fun f bk=>∃ bm bn,Zci af (Qo N aa a8) bn=some r∧St w0 (Zk col) bm bk∧Zj 68 999 bm bk g2 #[.bool aa.1.1.1,.slice am aa.1.1.2.length an,.slice ao aa.1.2.length ap,.bool aa.2.1.1,.slice aq aa.2.1.2.length ar,.slice au aa.2.2.length av]∧[36].map f=[.bool bn]) ?_ ?_
  ·intro f bk hJ;obtain ⟨bm,bn,hm,ab,hb2,hs⟩:=hJ;rw [Zci.eq_1] at hm;refine .lL [36] hs ?_;refine Zq hm (fun hb hm=>go ?_) fun hb hm=>?_
   ·cases hm;exact ⟨rfl,rfl,ab.below⟩
   refine X3 ?_;exact ⟨rfl,_,hm,ab,hb2⟩
  refine Wq<|Xx ⟨_,_,rfl⟩ ?_;refine lV (.agg #[.bool ac.1.1.1,.slice bc ac.1.1.2.length bd,.slice be ac.1.2.length bf]) (Xt isAgg39 sizeOf39 rfl rfl ((ak.atN).part 0 3 _ rfl))<|Xx ⟨_,_,rfl⟩ ?_;refine lV (.agg #[.bool aa.1.1.1,.slice am aa.1.1.2.length an,.slice ao aa.1.2.length ap]) (Xt isAgg39 sizeOf39 rfl rfl ((hb2.atN).part 0 3 _ rfl)) ?_;obtain ⟨ck,cc,hm⟩:=bZ hm;refine Zh (Zdr cc ag ah (a3.ks ab) (a4.ks ab)) ?_;rintro _ bs ⟨rfl,ad⟩;refine ⟨_,rfl,?_⟩;replace ad:Zf aw ca aw bs:=.of_below ad;refine go ?_;replace ag:=ag.gr ad;replace ah:=ah.gr ad;replace ai:=ai.gr ad;replace aj:=aj.gr ad;replace hb2:=hb2.gr ad;replace ak:=ak.gr ad;replace ab:=ab.grow ad;refine X8 hm (fun bo hm=>go ?_) fun bo hm=>go ?_
  ·refine Xx ⟨_,_,rfl⟩ ?_;refine go ?_;refine lV (.agg #[.bool aa.2.1.1,.slice aq aa.2.1.2.length ar,.slice au aa.2.2.length av]) (Xt isAgg39 sizeOf39 rfl rfl ((hb2.atN).part 3 3 _ rfl))<|go ?_;refine Xx ⟨_,_,rfl⟩ ?_;refine go ?_;refine lV (.agg #[.bool ac.2.1.1,.slice bg ac.2.1.2.length bh,.slice bi ac.2.2.length bj]) (Xt isAgg39 sizeOf39 rfl rfl ((ak.atN).part 3 3 _ rfl))<|go ?_;obtain ⟨cd,ce,hm⟩:=bZ hm;refine Zh (Zdr ce (a5.ks ab) (a6.ks ab) ai aj) ?_;rintro _ bt ⟨rfl,ae⟩;refine ⟨_,rfl,?_⟩;replace ae:Zf aw bs aw bt:=.of_below ae;refine go ?_;refine lV (.bool (decide (cd≤0))) (Xr (congrArg Value.bool bo) rfl)<|Yt rfl ?_;replace ag:=ag.gr ae;replace ah:=ah.gr ae;replace ai:=ai.gr ae;replace aj:=aj.gr ae;replace hb2:=hb2.gr ae;replace ak:=ak.gr ae;replace ab:=ab.grow ae;refine X8 hm (fun bp hm=>go ?_) fun bp hm=>go ?_
   ·refine Xx ⟨_,_,rfl⟩ ?_;refine go ?_;refine lV (.agg #[.bool ac.1.1.1,.slice bc ac.1.1.2.length bd,.slice be ac.1.2.length bf]) (Xt isAgg39 sizeOf39 rfl rfl ((ak.atN).part 0 3 _ rfl))<|go ?_;refine Xx ⟨_,_,rfl⟩ ?_;refine go ?_;refine lV (.agg #[.bool ac.2.1.1,.slice bg ac.2.1.2.length bh,.slice bi ac.2.2.length bj]) (Xt isAgg39 sizeOf39 rfl rfl ((ak.atN).part 3 3 _ rfl))<|go ?_;obtain ⟨cf,cg,hm⟩:=bZ hm;refine Zh (Zdr cg ag ah ai aj) ?_;rintro _ ch ⟨rfl,a2⟩;refine ⟨_,rfl,?_⟩;replace a2:Zf aw bt aw ch:=.of_below a2;refine go ?_;refine lV (.bool (decide (cf<0))) (Xr (congrArg Value.bool bp) rfl)<|Zm ?_;replace hb2:=hb2.gr a2;replace ab:=ab.grow a2;exact ⟨rfl,_,_,hm,ab,hb2,rfl⟩
   refine lV (.bool false) (Xh (congrArg Value.bool bp) rfl)<|Zm ?_;exact ⟨rfl,_,_,hm,ab,hb2,rfl⟩
  refine lV (.bool false) (Xh (congrArg Value.bool bo) rfl)<|Yt rfl<|lP 29 rfl rfl<|lP 29 rfl rfl<|lP 29 rfl rfl<|lP 29 rfl rfl<|lP 29 rfl rfl<|lP 29 rfl rfl<|lV (.bool false) (Xh rfl rfl)<|Zm ?_;exact ⟨rfl,_,_,hm,ab,hb2,rfl⟩
def Zd1 (N:Nat) (ai:R0) (aj:Bool) (ak:List Int) (al:List Int) (am:Bool) (an:List Int) (ao:List Int) (aw:Bool) (ax:List Int) (ay:List Int) (az:Bool) (a0:List Int) (a1:List Int) (ap:List Int) (kk_L1:(Bool→R2→R2→Bool→R2→R2→Bool→R2→R2→Bool→R2→R2→Bool→R2→R2→Bool→R2→R2→R2→Option R7)) (ab:Int) (a2:Int) (ae:R1) (a3:List ByteArray):Nat→Bool→R2→R2→Rg→Int→Option R7
  | 0,_,_,_,_,_=>none
  | a4+1,af,ag,ah,ad,aq=>if (decide (aq<(a3.length:Int)))=true then ((Zp ai.2.2.2.2 ab).bind fun a5=>(Zp ai.2.2.1 ab).bind fun a6=>(Zp a5 (i64.wrap ((i64.wrap (a2 * (a6.length:Int)))+aq))).bind fun ar=>(Uv N ((ae.1.1,ae.1.2),ae.2) ((ar.1.1,ar.1.2),ar.2)).bind fun au=>(V4 N ((af,ag),ah) ((au.1.1,au.1.2),au.2)).bind fun aa=>Z3 ((ad.length+[(((af,ag),ah),((aa.1.1,aa.1.2),aa.2))].length) * 112≤140737488355328∧ad.length+[(((af,ag),ah),((aa.1.1,aa.1.2),aa.2))].length≤maxLen) ((Zd1 N ai aj ak al am an ao aw ax ay az a0 a1 ap kk_L1 ab a2 ae a3 a4) aa.1.1 aa.1.2 aa.2 (ad++[(((af,ag),ah),((aa.1.1,aa.1.2),aa.2))]) (i64.wrap (aq+1)))) else ((Zlf N ab ad (((aj,ak),al),((am,an),ao))).bind fun av=>if (decide (av<0))=true then (some (([]:List Int),(((false,([]:List Int)),([]:List Int)),((false,([]:List Int)),([]:List Int))),false)) else ((Zp ad av).bind fun ac=>(Zp ap ab).bind fun a8=>(some (ap.set (Int.toNat ab) av)).bind fun a7=>kk_L1 ac.1.1.1 ac.1.1.2 ac.1.2 ac.2.1.1 ac.2.1.2 ac.2.2 aj ak al am an ao aw ax ay az a0 a1 a7))
termination_by structural x=>x
def Zcf (N:Nat) (aa:R0) (ab:Bool) (ac:List Int) (ad:List Int) (ah:Bool) (ai:List Int) (aj:List Int) (ak:Bool) (al:List Int) (am:List Int) (an:Bool) (ao:List Int) (ap:List Int) (aq:Bool) (ar:List Int) (au:List Int) (av:Bool) (aw:List Int) (ax:List Int) (ae:List Int) (kk_L1:(Bool→R2→R2→Bool→R2→R2→Bool→R2→R2→Bool→R2→R2→Bool→R2→R2→Bool→R2→R2→R2→Option R7)) (af:Int):List Int→Int→Option R7
  | [],ag=>(Qq N ((ah,ai),aj) ((ab,ac),ad)).bind fun az=>(Zp aa.2.2.1 af).bind fun a0=>Zd1 N aa ak al am an ao ap aq ar au av aw ax ae kk_L1 af ag az a0 N ab ac ad ([]:List (R1×R1)) 0
  | ay :: a1,ag=>(Zp aa.2.2.1 ay).bind fun a2=>(Zp ae ay).bind fun a3=>(Zcf N aa ab ac ad ah ai aj ak al am an ao ap aq ar au av aw ax ae kk_L1 af a1) (i64.wrap ((i64.wrap (ag * (a2.length:Int)))+a3))
termination_by structural x=>x
def Qn (N:Nat) (aa:R0):List Int→Bool→R2→R2→Bool→R2→R2→Bool→R2→R2→Bool→R2→R2→Bool→R2→R2→Bool→R2→R2→R2→Option R7
  | [],ab,ac,ad,ae,af,ag,ai,aj,ak,al,am,an,ao,ap,aq,ar,au,av,ah=>some (ah,(((ab,ac),ad),((ae,af),ag)),true)
  | aw :: ax,ab,ac,ad,ae,af,ag,ai,aj,ak,al,am,an,ao,ap,aq,ar,au,av,ah=>(Zp aa.2.2.2.1 aw).bind fun ay=>Zcf N aa ab ac ad ae af ag ai aj ak al am an ao ap aq ar au av ah (Qn N aa ax) aw ay 0
termination_by structural x=>x
def Zce (N:Nat) (ab:R0) (ae:List Int) (aa:(R1×R1)):Option R7:=
  Z3 (ab.2.1.length * 8≤281474976710656∧ab.2.1.length≤maxLen) ((Zbe N ([]:List R1)).bind fun ac=>(Zch).bind fun ad=>Qn N ab ae ac.1.1 ac.1.2 ac.2 ad.1.1 ad.1.2 ad.2 aa.1.1.1 aa.1.1.2 aa.1.2 aa.2.1.1 aa.2.1.2 aa.2.2 false ([]:List Int) ([]:List Int) false ([]:List Int) ([]:List Int) (List.replicate ab.2.1.length (0:Int)))
theorem Zyw {N ed dl ee dm f5 g3 f6 f7 f8 f9:Nat} {ef cz eg c0 a1 ga gb gc gd:Option Addr} {col:Ze} {w0:World} {ag:R0} {dn:R2} {bx:(R1×R1)} {r:R7} (c1 qc3:Nat) (hm:Zce N ag dn bx=some r) (hqqc3:qc3≠0) (jr:Sl Za.str col w0 ef ed ag.2.1) (c2:Sl (Za.slice Za.str) col w0 cz dl ag.2.2.1) (er:Sl (Za.slice (Za.int .i64)) col w0 eg ee ag.2.2.2.1) (es:Sl (Za.slice (Za.pair (Za.pair Za.bool (Za.slice (Za.int .u32))) (Za.slice (Za.int .u32)))) col w0 c0 dm ag.2.2.2.2) (h1:Sl (Za.int .i64) col w0 a1 f5 dn) (e3:Sl (Za.int .u32) col w0 ga f6 bx.1.1.2) (e4:Sl (Za.int .u32) col w0 gb f7 bx.1.2) (e5:Sl (Za.int .u32) col w0 gc f8 bx.2.1.2) (e6:Sl (Za.int .u32) col w0 gd f9 bx.2.2) (hb3:Zj 68 qc3 col w0 g3 #[.bool bx.1.1.1,.slice ga bx.1.1.2.length f6,.slice gb bx.1.2.length f7,.bool bx.2.1.1,.slice gc bx.2.1.2.length f8,.slice gd bx.2.2.length f9]):
    Calls prog 81 #[(.agg #[.string ag.1,.slice ef ag.2.1.length ed,.slice cz ag.2.2.1.length dl,.slice eg ag.2.2.2.1.length ee,.slice c0 ag.2.2.2.2.length dm]),.slice a1 dn.length f5,(.func (.func 158) #[] #[.pointer (some ⟨g3,0,none⟩)])] w0 (fun e w'=>∃ (col':Ze) (ra1:Option Addr) (rc2:Nat) (ra4:Option Addr) (rc5:Nat) (ra7:Option Addr) (rc8:Nat) (ra10:Option Addr) (rc11:Nat) (ra13:Option Addr) (rc14:Nat),e= .returned (.tuple #[.slice ra1 r.1.length rc2,(.agg #[.bool r.2.1.1.1.1,.slice ra4 r.2.1.1.1.2.length rc5,.slice ra7 r.2.1.1.2.length rc8,.bool r.2.1.2.1.1,.slice ra10 r.2.1.2.1.2.length rc11,.slice ra13 r.2.1.2.2.length rc14]),.bool r.2.2])∧Zf col w0 col' w'∧Zc (Za.int .i64) 3 c1 col' w' ra1 rc2 r.1∧Sl (Za.int .u32) col' w' ra4 rc5 r.2.1.1.1.2∧Sl (Za.int .u32) col' w' ra7 rc8 r.2.1.1.2∧Sl (Za.int .u32) col' w' ra10 rc11 r.2.1.2.1.2∧Sl (Za.int .u32) col' w' ra13 rc14 r.2.1.2.2):=by
 refine Y2 (m:=122) func81 rfl rfl rfl ?_;rw [Zce.eq_1] at hm;have aa:=St.start col w0;replace hb3:=hb3.start0 hqqc3;refine go ?_;refine Xv (col:=(Zk col)) 1 rfl ?_;intro eh js gi ge ab;refine Q6 rfl<|Xj (col:=gi) #[.bool false,.slice none (([]:List Int).length) 0,.slice none (([]:List Int).length) 0,.bool false,.slice none (([]:List Int).length) 0,.slice none (([]:List Int).length) 0] 2 zeroValue68 ?_;intro e7 gj gk e8 ac;refine go ?_;refine Xx ⟨_,_,rfl⟩ ?_;replace ab:=ab.gr e8;refine lW ((ab.atN).nth (q:=1) rfl)<|go ?_;obtain ⟨gf,hm⟩:=Z6 hm;refine T9 (col:=gk) (w:=gj) (r:=(Za.int .i64)) (n:=ag.2.1.length) (x0:=0) 3 rfl underlying33 Tryz.t3 rfl rfl rfl rfl rfl rfl rfl gf.1 gf.2 (Qe .i64 0) ?_;intro jt ju gl et bz;refine go ?_;obtain ⟨e9,gm,hm⟩:=bZ hm;refine Zh (Zku (col:=gl) 4 5 gm Sl.nil) ?_;rintro _ jv ⟨gp,gs,gt,gu,gv,rfl,ei,b0,b1⟩;refine ⟨_,rfl,?_⟩;obtain ⟨fa,gw,hm⟩:=bZ hm;refine lc rfl rfl (Zax call69) (Zkt (col:=gp) 6 7 gw:) ?_;rintro _ jw ⟨gx,gy,gz,g0,g1,rfl,dp,b2,b3⟩;refine ⟨_,rfl,?_⟩;refine lV (.agg #[.bool e9.1.1,.slice gs e9.1.2.length gt,.slice gu e9.2.length gv,.bool fa.1.1,.slice gy fa.1.2.length gz,.slice g0 fa.2.length g1]) (Yo (l:=[_,_]) (qs:=[(0,3),(3,3)]) underlying68 zeroValue68 ⟨rfl,sizeOf39,rfl,sizeOf39,trivial⟩ rfl)<|Xj (col:=gx) #[.bool false,.slice none (([]:List Int).length) 0,.slice none (([]:List Int).length) 0,.bool false,.slice none (([]:List Int).length) 0,.slice none (([]:List Int).length) 0] 8 zeroValue68 ?_;intro fb jx jy co g2;refine Zw g2 ?_;intro jz cp g4 ad;refine go ?_;replace bz:=(((bz.gr ei).gr dp).gr co).kp cp;replace bz:=bz.froz 4 (by decide);replace b0:=((b0.gr dp).gr co).kp cp;replace b0:=(b0).toSlF (Zg.int .u32);replace b1:=((b1.gr dp).gr co).kp cp;replace b1:=b1.froz 4 (by decide);replace b2:=(b2.gr co).kp cp;replace b2:=b2.froz 4 (by decide);replace b3:=(b3.gr co).kp cp;replace b3:=b3.froz 4 (by decide);replace hb3:=((((((hb3.gr ge).gr e8).gr et).gr ei).gr dp).gr co).kp cp;replace hb3:=hb3.froz 4 (by decide);replace ab:=((((ab.gr et).gr ei).gr dp).gr co).kp cp;replace ab:=ab.froz 4 (by decide);replace ac:=((((ac.gr et).gr ei).gr dp).gr co).kp cp;replace ac:=ac.froz 4 (by decide);replace ad:=ad.froz 4 (by decide)
 replace aa:=((((((aa.grow ge).grow e8).grow et).grow ei).grow dp).grow co).kp cp g4;replace aa:=aa.froz 4 (by decide) (by decide);replace bz:=bz.froz 5 (by decide);replace b0:=b0.froz 5;replace b1:=(b1).toSlF (Zg.int .u32);replace b2:=b2.froz 5 (by decide);replace b3:=b3.froz 5 (by decide);replace hb3:=hb3.froz 5 (by decide);replace ab:=ab.froz 5 (by decide);replace ac:=ac.froz 5 (by decide);replace ad:=ad.froz 5 (by decide);replace aa:=aa.froz 5 (by decide) (by decide);replace bz:=bz.froz 6 (by decide);replace b0:=b0.froz 6;replace b1:=b1.froz 6;replace b2:=(b2).toSlF (Zg.int .u32);replace b3:=b3.froz 6 (by decide);replace hb3:=hb3.froz 6 (by decide);replace ab:=ab.froz 6 (by decide);replace ac:=ac.froz 6 (by decide);replace ad:=ad.froz 6 (by decide);replace aa:=aa.froz 6 (by decide) (by decide);replace bz:=bz.froz 7 (by decide);replace b0:=b0.froz 7;replace b1:=b1.froz 7;replace b2:=b2.froz 7;replace b3:=(b3).toSlF (Zg.int .u32);replace hb3:=hb3.froz 7 (by decide);replace ab:=ab.froz 7 (by decide);replace ac:=ac.froz 7 (by decide);replace ad:=ad.froz 7 (by decide);replace aa:=aa.froz 7 (by decide) (by decide);replace e3:=e3.keep (Zl.start col w0);replace e4:=e4.keep (Zl.start col w0);replace e5:=e5.keep (Zl.start col w0);replace e6:=e6.keep (Zl.start col w0)
 refine Z9 [10,2,29,3,30,7,1000000] (fun n f bk=>∃ a8 c3 cq cr b4 ct cu b5 dq c4 c5 ca c6 c7 cb c8 c9 da b6 db dc b7 dd de df b8 dg dh b9 ej dr ds dt cc du dv cd dw dx dy ce dz d0 cf d1 d2 cg ek,n=ek.length∧dn.drop ej=ek∧Qn N ag ek c3 b4 b5 dq ca cb c8 b6 b7 dd b8 b9 dr cc cd dw ce cf cg=some r∧St w0 (Zk col) a8 bk∧Sl (Za.int .u32) a8 bk cq cr b4∧Sl (Za.int .u32) a8 bk ct cu b5∧Sl (Za.int .u32) a8 bk c4 c5 ca∧Sl (Za.int .u32) a8 bk c6 c7 cb∧Zj 68 8 a8 bk fb #[.bool c3,.slice cq b4.length cr,.slice ct b5.length cu,.bool dq,.slice c4 ca.length c5,.slice c6 cb.length c7]∧Sl (Za.int .u32) a8 bk c9 da b6∧Sl (Za.int .u32) a8 bk db dc b7∧Sl (Za.int .u32) a8 bk de df b8∧Sl (Za.int .u32) a8 bk dg dh b9∧Zj 68 999 a8 bk g3 #[.bool c8,.slice c9 b6.length da,.slice db b7.length dc,.bool dd,.slice de b8.length df,.slice dg b9.length dh]∧Zj 27 1 a8 bk eh #[.string ag.1,.slice ef ag.2.1.length ed,.slice cz ag.2.2.1.length dl,.slice eg ag.2.2.2.1.length ee,.slice c0 ag.2.2.2.2.length dm]∧Zc (Za.int .u32) 95 9 a8 bk ds dt cc∧Zc (Za.int .u32) 95 10 a8 bk du dv cd∧Zc (Za.int .u32) 95 11 a8 bk dx dy ce∧Zc (Za.int .u32) 95 12 a8 bk dz d0 cf∧Zj 68 2 a8 bk e7 #[.bool dr,.slice ds cc.length dt,.slice du cd.length dv,.bool dw,.slice dx ce.length dy,.slice dz cf.length d0]∧Zc (Za.int .i64) 3 3 a8 bk d1 d2 cg∧[31,9].map f=[.int .i64 ej,.slice d1 cg.length d2]) dn.length ⟨_,_,_,_,_,_,_,_,_,_,_,_,_,_,_,_,_,_,_,_,_,_,_,_,_,_,_,_,_,0,_,none,0,_,none,0,_,_,none,0,_,none,0,_,_,_,_,_,rfl,rfl,hm,aa,b0,b1,b2,b3,ad,(e3.ks aa),(e4.ks aa),(e5.ks aa),(e6.ks aa),hb3,ab,Zc.nil,Zc.nil,Zc.nil,Zc.nil,ac,bz,rfl⟩ ?_;clear hm;intro n f bk hI;obtain ⟨a8,c3,cq,cr,b4,ct,cu,b5,dq,c4,c5,ca,c6,c7,cb,c8,c9,da,b6,db,dc,b7,dd,de,df,b8,dg,dh,b9,ej,dr,ds,dt,cc,du,dv,cd,dw,dx,dy,ce,dz,d0,cf,d1,d2,cg,ek,hn,hl,hm,aa,ak,al,am,an,ad,ao,ap,aq,ar,hb3,ab,au,av,aw,ax,ac,ah,hs⟩:=hI;subst hn
 refine .lL [31,9] hs ?_;replace c2:=c2.keep (Zl.start col w0);replace er:=er.keep (Zl.start col w0);replace es:=es.keep (Zl.start col w0);replace h1:=h1.keep (Zl.start col w0)
 cases ek with
 | nil=>
  have hk:¬ ((ej:Int)<(dn.length:Int)):=by have:=List.drop_eq_nil_iff.1 hl;omega
  have hkb:=decide_eq_false hk;rw [Qn.eq_1] at hm;refine go ?_;refine X9 (congrArg Value.bool hkb)<|go ?_;refine Wi (col:=a8) [(0,1),(1,0),(2,1),(3,2),(4,1)] (by kernel_rfl) (by kernel_rfl)<|xu rfl rfl (fun _=>Vu rfl) ?_;refine xv rfl rfl (fun _ hC=>Xb isAgg68 sizeOf68 (ad.gr (hC.bl a8))) ?_;refine xu rfl rfl (fun _=>Zmv rfl) ?_;refine xe rfl rfl ?_;intro j0 hC0;have hC:=hC0.bl a8;replace ac:=ac.gr hC;refine Zw ac ?_;intro j1 ea g5 fc;refine Zm<|xk a8<|xu rfl rfl (fun _=>Zmu rfl) ?_;refine Wf ?_;replace ak:=(ak.gr hC).kp ea;replace al:=(al.gr hC).kp ea;replace am:=(am.gr hC).kp ea;replace an:=(an.gr hC).kp ea;replace ah:=(ah.gr hC).kp ea;replace aa:=(aa.grow hC).kp ea g5;intro j2 hC;replace hC:=hC.bl a8;refine W4 ?_;cases hm;replace ak:=ak.gr hC;replace al:=al.gr hC;replace am:=am.gr hC;replace an:=an.gr hC;replace ah:=ah.gr hC;replace fc:=fc.gr hC;replace aa:=aa.grow hC;exact ⟨rfl,_,Zm1 rfl rfl rfl rfl isAgg68 sizeOf68 rfl rfl fc.atN rfl rfl,_,_,_,_,_,_,_,_,_,_,_,rfl,aa.fin (cm [(3,c1)]),aa.fo ah,aa.fs ak,aa.fs al,aa.fs am,aa.fs an⟩
 | cons di fd=>
  obtain ⟨d3,g6,g7⟩:=Ym hl;have hk:(ej:Int)<(dn.length:Int):=by omega
  have hkb:=decide_eq_true hk;rw [Qn.eq_2] at hm;refine go ?_;refine Yc (congrArg Value.bool hkb)<|go ?_;refine lI d3 ((h1.ks aa).addr d3)<|lW ((h1.ks aa).atInt d3) ?_;refine go ?_;refine Xz ab<|Yf rfl ?_;obtain ⟨el,fe,hm⟩:=bZ hm;refine lI fe ((er.ks aa).addr fe) ?_;obtain ⟨_,g8,g9⟩:=(er.ks aa).atN fe;obtain ⟨⟨ha,hc,rfl,dj⟩,_⟩:=g8;refine lW g9.one<|go ?_;refine Z9 [10,12,2,29,3,30,31,39,40,7,9,1000000] (fun n f be=>∃ a5 ch em en,n=en.length∧el.drop em=en∧Zcf N ag c3 b4 b5 dq ca cb c8 b6 b7 dd b8 b9 dr cc cd dw ce cf cg (Qn N ag fd) di en ch=some r∧St w0 (Zk col) a5 be∧Sl (Za.int .u32) a5 be cq cr b4∧Sl (Za.int .u32) a5 be ct cu b5∧Sl (Za.int .u32) a5 be c4 c5 ca∧Sl (Za.int .u32) a5 be c6 c7 cb∧Zj 68 8 a5 be fb #[.bool c3,.slice cq b4.length cr,.slice ct b5.length cu,.bool dq,.slice c4 ca.length c5,.slice c6 cb.length c7]∧Sl (Za.int .u32) a5 be c9 da b6∧Sl (Za.int .u32) a5 be db dc b7∧Sl (Za.int .u32) a5 be de df b8∧Sl (Za.int .u32) a5 be dg dh b9∧Zj 68 999 a5 be g3 #[.bool c8,.slice c9 b6.length da,.slice db b7.length dc,.bool dd,.slice de b8.length df,.slice dg b9.length dh]∧Zj 27 1 a5 be eh #[.string ag.1,.slice ef ag.2.1.length ed,.slice cz ag.2.2.1.length dl,.slice eg ag.2.2.2.1.length ee,.slice c0 ag.2.2.2.2.length dm]∧Sl (Za.int .i64) a5 be ha hc el∧Zc (Za.int .u32) 95 9 a5 be ds dt cc∧Zc (Za.int .u32) 95 10 a5 be du dv cd∧Zc (Za.int .u32) 95 11 a5 be dx dy ce∧Zc (Za.int .u32) 95 12 a5 be dz d0 cf∧Zj 68 2 a5 be e7 #[.bool dr,.slice ds cc.length dt,.slice du cd.length dv,.bool dw,.slice dx ce.length dy,.slice dz cf.length d0]∧Zc (Za.int .i64) 3 3 a5 be d1 d2 cg∧[41,13].map f=[.int .i64 em,.int .i64 ch]) el.length ⟨_,0,0,_,rfl,rfl,hm,aa,ak,al,am,an,ad,ao,ap,aq,ar,hb3,ab,dj,au,av,aw,ax,ac,ah,rfl⟩ ?_;clear hm;intro n f be hI;obtain ⟨a5,ch,em,en,hn,hl,hm,aa,ak,al,am,an,ad,ao,ap,aq,ar,hb3,ab,dj,au,av,aw,ax,ac,ah,hs⟩:=hI;subst hn;refine .lL [41,13] hs ?_
  cases en with
  | nil=>
   have hk:¬ ((em:Int)<(el.length:Int)):=by have:=List.drop_eq_nil_iff.1 hl;omega
   have hkb:=decide_eq_false hk;rw [Zcf.eq_1] at hm;refine go ?_;refine X9 (congrArg Value.bool hkb)<|go ?_;refine Xx ⟨_,_,rfl⟩ ?_;refine lV (.agg #[.bool dq,.slice c4 ca.length c5,.slice c6 cb.length c7]) (Xt isAgg39 sizeOf39 rfl rfl ((ad.atN).part 3 3 _ rfl))<|Xx ⟨_,_,rfl⟩ ?_;refine lV (.agg #[.bool c3,.slice cq b4.length cr,.slice ct b5.length cu]) (Xt isAgg39 sizeOf39 rfl rfl ((ad.atN).part 0 3 _ rfl)) ?_;obtain ⟨cv,hd,hm⟩:=bZ hm;refine Zh (Znr 13 14 hd am an ak al) ?_;rintro _ j3 ⟨he,ff,fg,fh,fi,rfl,bm,bf,bg⟩;refine ⟨_,rfl,?_⟩;refine Xj (col:=he) #[.bool false,.slice none (([]:List Int).length) 0,.slice none (([]:List Int).length) 0] 15 zeroValue39 ?_;intro hf j4 hg bh hh;refine Zw hh ?_;intro j5 bi hi ba;refine go ?_;refine Xx ⟨_,_,rfl⟩ ?_;replace ad:=((ad.gr bm).gr bh).kp bi;refine lV (.agg #[.bool c3,.slice cq b4.length cr,.slice ct b5.length cu]) (Xt isAgg39 sizeOf39 rfl rfl ((ad.atN).part 0 3 _ rfl))<|Xj (col:=hg) #[.bool false,.slice none (([]:List Int).length) 0,.slice none (([]:List Int).length) 0] 16 zeroValue39 ?_;intro hj j6 j7 bb ho;refine Zw ho ?_;intro j8 bc hp bd;refine go ?_;refine Xx ⟨_,_,rfl⟩ ?_;replace ab:=((((ab.gr bm).gr bh).kp bi).gr bb).kp bc;refine lW ((ab.atN).nth (q:=2) rfl)<|Yf rfl ?_;obtain ⟨hq,fj,hm⟩:=bZ hm;replace aa:=((((aa.grow bm).grow bh).kp bi hi).grow bb).kp bc hp;refine lI fj ((c2.ks aa).addr fj) ?_;obtain ⟨_,hr,ht⟩:=(c2.ks aa).atN fj;obtain ⟨⟨j9,ka,rfl,kb⟩,_⟩:=hr;refine lW ht.one<|go ?_;replace ak:=((((ak.gr bm).gr bh).kp bi).gr bb).kp bc;replace al:=((((al.gr bm).gr bh).kp bi).gr bb).kp bc;replace am:=((((am.gr bm).gr bh).kp bi).gr bb).kp bc;replace an:=((((an.gr bm).gr bh).kp bi).gr bb).kp bc;replace ao:=((((ao.gr bm).gr bh).kp bi).gr bb).kp bc;replace ap:=((((ap.gr bm).gr bh).kp bi).gr bb).kp bc;replace aq:=((((aq.gr bm).gr bh).kp bi).gr bb).kp bc;replace ar:=((((ar.gr bm).gr bh).kp bi).gr bb).kp bc;replace au:=((((au.gr bm).gr bh).kp bi).gr bb).kp bc;replace av:=((((av.gr bm).gr bh).kp bi).gr bb).kp bc;replace aw:=((((aw.gr bm).gr bh).kp bi).gr bb).kp bc
   replace ax:=((((ax.gr bm).gr bh).kp bi).gr bb).kp bc;replace ah:=((((ah.gr bm).gr bh).kp bi).gr bb).kp bc;replace hb3:=((((hb3.gr bm).gr bh).kp bi).gr bb).kp bc;replace ac:=((((ac.gr bm).gr bh).kp bi).gr bb).kp bc;replace bf:=(((bf.gr bh).kp bi).gr bb).kp bc;replace bg:=(((bg.gr bh).kp bi).gr bb).kp bc;replace ad:=(ad.gr bb).kp bc;replace ba:=(ba.gr bb).kp bc
   refine Z9 [10,12,13,16,17,2,29,3,30,31,7,71,9,1000000] (fun n f af=>∃ ae ci d4 d5 cj d6 d7 ck eu ew eo d8 eb,eb=n∧Zd1 N ag c8 b6 b7 dd b8 b9 dr cc cd dw ce cf cg (Qn N ag fd) di ch cv hq eb ci cj ck eo d8=some r∧St w0 (Zk col) ae af∧Sl (Za.int .u32) ae af cq cr b4∧Sl (Za.int .u32) ae af ct cu b5∧Sl (Za.int .u32) ae af c4 c5 ca∧Sl (Za.int .u32) ae af c6 c7 cb∧Zj 68 8 ae af fb #[.bool c3,.slice cq b4.length cr,.slice ct b5.length cu,.bool dq,.slice c4 ca.length c5,.slice c6 cb.length c7]∧Zc (Za.int .u32) 95 13 ae af ff fg cv.1.2∧Zc (Za.int .u32) 95 14 ae af fh fi cv.2∧Zj 39 15 ae af hf #[.bool cv.1.1,.slice ff cv.1.2.length fg,.slice fh cv.2.length fi]∧Sl (Za.int .u32) ae af d4 d5 cj∧Sl (Za.int .u32) ae af d6 d7 ck∧Zj 39 16 ae af hj #[.bool ci,.slice d4 cj.length d5,.slice d6 ck.length d7]∧Zc (Za.pair (Za.pair (Za.pair Za.bool (Za.slice (Za.int .u32))) (Za.slice (Za.int .u32))) (Za.pair (Za.pair Za.bool (Za.slice (Za.int .u32))) (Za.slice (Za.int .u32)))) 68 17 ae af eu ew eo∧Sl (Za.int .u32) ae af c9 da b6∧Sl (Za.int .u32) ae af db dc b7∧Sl (Za.int .u32) ae af de df b8∧Sl (Za.int .u32) ae af dg dh b9∧Zj 68 999 ae af g3 #[.bool c8,.slice c9 b6.length da,.slice db b7.length dc,.bool dd,.slice de b8.length df,.slice dg b9.length dh]∧Zj 27 1 ae af eh #[.string ag.1,.slice ef ag.2.1.length ed,.slice cz ag.2.2.1.length dl,.slice eg ag.2.2.2.1.length ee,.slice c0 ag.2.2.2.2.length dm]∧Zc (Za.int .u32) 95 9 ae af ds dt cc∧Zc (Za.int .u32) 95 10 ae af du dv cd∧Zc (Za.int .u32) 95 11 ae af dx dy ce∧Zc (Za.int .u32) 95 12 ae af dz d0 cf∧Zj 68 2 ae af e7 #[.bool dr,.slice ds cc.length dt,.slice du cd.length dv,.bool dw,.slice dx ce.length dy,.slice dz cf.length d0]∧Zc (Za.int .i64) 3 3 ae af d1 d2 cg∧[18,72].map f=[.slice eu eo.length ew,.int .i64 d8]) N ⟨_,_,_,_,_,_,_,_,none,0,_,0,_,rfl,hm,aa,ak,al,am,an,ad,bf,bg,ba,ak,al,bd,Zc.nil,ao,ap,aq,ar,hb3,ab,au,av,aw,ax,ac,ah,rfl⟩ ?_
   clear hm;intro n f af hI;obtain ⟨ae,ci,d4,d5,cj,d6,d7,ck,eu,ew,eo,d8,eb,hn,hm,aa,ak,al,am,an,ad,bf,bg,ba,bs,bt,bd,bj,ao,ap,aq,ar,hb3,ab,au,av,aw,ax,ac,ah,hs⟩:=hI;subst hn;refine .lL [18,72] hs ?_
   cases eb with
   | zero=>rw [Zd1.eq_1] at hm;cases hm
   | succ eb=>
    rw [Zd1.eq_2] at hm;refine go ?_;refine Zq hm (fun hb hm=>go ?_) fun hb hm=>go ?_
    ·have a6:=Zt.clip (fun _=>false) ae af;refine Zhx (col:=ae) [(0,0),(1,0),(2,1),(3,0),(4,1),(5,1),(6,0),(7,1),(8,1),(9,0),(10,1),(11,1),(12,0),(13,1),(14,1),(15,1),(16,1),(17,1),(18,0),(19,3),(20,3),(21,4),(22,2)] (by kernel_rfl) (by kernel_rfl) ⟨fun h=>absurd h (by decide),fun h=>absurd h (by decide),fun h=>absurd h (by decide),fun h=>absurd h (by decide),fun h=>absurd h (by decide),fun h=>absurd h (by decide),fun h=>absurd h (by decide),fun h=>absurd h (by decide),fun h=>absurd h (by decide),fun h=>absurd h (by decide),fun h=>absurd h (by decide),fun h=>absurd h (by decide),fun h=>absurd h (by decide),fun h=>absurd h (by decide),fun h=>absurd h (by decide),fun h=>absurd h (by decide),fun h=>absurd h (by decide),fun h=>absurd h (by decide),fun h=>absurd h (by decide),fun h=>absurd h (by decide),fun h=>absurd h (by decide),fun _=>⟨_,_,_,rfl,Tq zeroValue39⟩,fun h=>absurd h (by decide),trivial⟩ ?_;replace bd:=bd.kpp a6;refine W7 (v:=(.agg #[.bool ci,.slice d4 cj.length d5,.slice d6 ck.length d7])) rfl rfl (fun _ hC=>Xt isAgg39 sizeOf39 rfl rfl (bd.atN.gr (hC.bl (Zi af ae)))) ?_;replace ba:=ba.kpp a6;refine W7 (v:=(.agg #[.bool cv.1.1,.slice ff cv.1.2.length fg,.slice fh cv.2.length fi])) rfl rfl (fun _ hC=>Xt isAgg39 sizeOf39 rfl rfl (ba.atN.gr (hC.bl (Zi af ae)))) ?_;refine Yr (v:=(.pointer ((some (⟨eh,0,none⟩:Addr)).map (·.add 4)))) rfl rfl (fun _=>Sn (sz:=1) (off:=4) underlying27 rfl sizeOf25 (by decide) rfl rfl ⟨_,_,rfl⟩) ?_;replace ab:=ab.kpp a6;refine W7 (v:=(.slice c0 ag.2.2.2.2.length dm)) rfl rfl (fun _ hC=>Qd isAgg25 rfl (((ab.atN).nth (q:=4) (v:=(.slice c0 ag.2.2.2.2.length dm)) rfl).gr (hC.bl (Zi af ae)))) ?_;refine Yr (v:=(.int .i64 di)) rfl rfl (fun _=>W2 rfl) ?_;obtain ⟨hu,ey,hm⟩:=bZ hm;replace aa:=aa.kpp a6;refine Yr (v:=(X0 c0 (Int.toNat di * 1))) rfl rfl (fun _=>We underlying25 sizeOf114 rfl rfl (Xl ey).1 (Xl ey).2.1 ((es.ks aa).addr ey)) ?_;obtain ⟨_,hv,hw⟩:=(es.ks aa).atN ey;obtain ⟨⟨gg,hx,rfl,gh⟩,_⟩:=hv;refine W7 (v:=(.slice gg hu.length hx)) rfl rfl (fun _ hC=>Qd isAgg114 rfl (hw.one.gr (hC.bl (Zi af ae)))) ?_;refine Yr (v:=(.int .i64 ch)) rfl rfl (fun _=>W2 rfl) ?_;refine Yr (v:=(.pointer ((some (⟨eh,0,none⟩:Addr)).map (·.add 2)))) rfl rfl (fun _=>Sn (sz:=1) (off:=2) underlying27 rfl sizeOf23 (by decide) rfl rfl ⟨_,_,rfl⟩) ?_
     refine W7 (v:=(.slice cz ag.2.2.1.length dl)) rfl rfl (fun _ hC=>Qd isAgg23 rfl (((ab.atN).nth (q:=2) (v:=(.slice cz ag.2.2.1.length dl)) rfl).gr (hC.bl (Zi af ae)))) ?_;refine Yr (v:=(.int .i64 di)) rfl rfl (fun _=>W2 rfl) ?_;obtain ⟨d9,ez,hm⟩:=bZ hm;refine Yr (v:=(X0 cz (Int.toNat di * 1))) rfl rfl (fun _=>We underlying23 sizeOf22 rfl rfl (Xl ez).1 (Xl ez).2.1 ((c2.ks aa).addr ez)) ?_;obtain ⟨_,hy,hz⟩:=(c2.ks aa).atN ez;obtain ⟨⟨h0,h2,rfl,kc⟩,_⟩:=hy;refine W7 (v:=(.slice h0 d9.length h2)) rfl rfl (fun _ hC=>Qd isAgg22 rfl (hz.one.gr (hC.bl (Zi af ae)))) ?_;refine Yr (v:=(.int .i64 d9.length)) rfl rfl (fun _=>Zay underlying22 rfl) ?_;refine Yr (v:=(.int .i64 (i64.wrap (ch * (d9.length:Int))))) rfl rfl (fun _=>Ze2 ch (d9.length:Int) rfl rfl) ?_;refine Yr (v:=(.int .i64 d8)) rfl rfl (fun _=>W2 rfl) ?_;refine Yr (v:=(.int .i64 (i64.wrap ((i64.wrap (ch * (d9.length:Int)))+d8)))) rfl rfl (fun _=>Qc (i64.wrap (ch * (d9.length:Int))) d8 rfl rfl) ?_;obtain ⟨fk,e0,hm⟩:=bZ hm;refine Yr (v:=(X0 gg (Int.toNat (i64.wrap ((i64.wrap (ch * (d9.length:Int)))+d8)) * 3))) rfl rfl (fun _=>We underlying114 sizeOf39 rfl rfl (Xl e0).1 (Xl e0).2.1 (gh.addr e0)) ?_;obtain ⟨_,h3,h4⟩:=gh.atN e0;obtain ⟨_,_,rfl,h5,h6⟩:=Va h3;obtain ⟨_,_,rfl,h7,h8⟩:=Va h5;obtain ⟨rfl,_⟩:=h7;obtain ⟨⟨h9,ia,rfl,fl⟩,_⟩:=h8;obtain ⟨⟨ib,ic,rfl,fm⟩,_⟩:=h6;refine W7 (v:=(.agg #[.bool fk.1.1,.slice h9 fk.1.2.length ia,.slice ib fk.2.length ic])) rfl rfl (fun _ hC=>Xt isAgg39 sizeOf39 rfl rfl (h4.gr (hC.bl (Zi af ae)))) ?_;refine Vb rfl rfl ?_;intro id hC0;have hC:=hC0.bl (Zi af ae);obtain ⟨kd,ie,hm⟩:=bZ hm;replace bf:=(bf.kpp a6).gr hC;replace bg:=(bg.kpp a6).gr hC;replace fl:=fl.gr hC;replace fm:=fm.gr hC;refine Zh (Zfd 18 19 ie ((bf.toSlF (Zg.int .u32)).froz 14) ((bg.froz 13 (by decide)).toSlF (Zg.int .u32)) ((fl.froz 13).froz 14) ((fm.froz 13).froz 14)) ?_;rintro _ cl ⟨ig,ke,kg,kh,ki,rfl,ai,ep,eq⟩;refine ⟨_,rfl,?_⟩;replace ep:=ep.thaw (Zy .u32) ai (((Fz.refl (col:=(Zi af ae))).froz 13).froz 14) (by decide)
     replace eq:=eq.thaw (Zy .u32) ai (((Fz.refl (col:=(Zi af ae))).froz 13).froz 14) (by decide);replace ai:=ai.thawR (col:=(Zi af ae));generalize Z7 id.heap.size (Zi af ae) ig=cw at *;refine Zm ?_;refine ⟨fun w'=>Zf (Zi cl cw) cl (Zi cl cw) w',fun g=>(Zi cl cw) g=497,Zf.refl _ _,W6,fun _=>⟨fun _ h=>Uc hC0 ai h,fun b hb=>ai.below.block b hb,fun g x1 x2=>Ug ai g x1 (by first | exact x2 | (simp only [Xn,x2];rfl) | (simp only [Xn,Xc,x2];rfl))⟩,?_⟩;have az:=Zt.clip (fun _=>false) cw cl;refine Vb rfl rfl ?_;intro ih hC0;replace ak:=(((ak.kpp a6).gr hC).gr ai).kpp az;replace al:=(((al.kpp a6).gr hC).gr ai).kpp az;replace am:=(((am.kpp a6).gr hC).gr ai).kpp az;replace an:=(((an.kpp a6).gr hC).gr ai).kpp az;replace bs:=(((bs.kpp a6).gr hC).gr ai).kpp az;replace bt:=(((bt.kpp a6).gr hC).gr ai).kpp az;replace bj:=(((bj.kpp a6).gr hC).gr ai).kpp az;replace ao:=(((ao.kpp a6).gr hC).gr ai).kpp az;replace ap:=(((ap.kpp a6).gr hC).gr ai).kpp az;replace aq:=(((aq.kpp a6).gr hC).gr ai).kpp az;replace ar:=(((ar.kpp a6).gr hC).gr ai).kpp az;replace au:=(((au.kpp a6).gr hC).gr ai).kpp az;replace av:=(((av.kpp a6).gr hC).gr ai).kpp az;replace aw:=(((aw.kpp a6).gr hC).gr ai).kpp az;replace ax:=(((ax.kpp a6).gr hC).gr ai).kpp az;replace ah:=(((ah.kpp a6).gr hC).gr ai).kpp az;replace ad:=(((ad.kpp a6).gr hC).gr ai).kpp az;replace hb3:=(((hb3.kpp a6).gr hC).gr ai).kpp az;replace ac:=(((ac.kpp a6).gr hC).gr ai).kpp az;replace ba:=((ba.gr hC).gr ai).kpp az;replace bd:=((bd.gr hC).gr ai).kpp az;replace ab:=((ab.gr hC).gr ai).kpp az;replace aa:=((aa.grow hC).grow ai).kpp az;have hC:=hC0.bl (Zi cl cw);obtain ⟨bq,ii,hm⟩:=bZ hm;replace ep:=(ep.kpp az).gr hC;replace eq:=(eq.kpp az).gr hC;replace bs:=bs.gr hC;replace bt:=bt.gr hC;refine Zh (Zb2 20 21 ii ((bs.froz 18).froz 19) ((bt.froz 18).froz 19) ((ep.toSlF (Zg.int .u32)).froz 19) ((eq.froz 18 (by decide)).toSlF (Zg.int .u32))) ?_;rintro _ br ⟨ij,fn,fp,fq,fr,rfl,aj,bu,bv⟩;refine ⟨_,rfl,?_⟩;replace bu:=bu.thaw (Zy .u32) aj (((Fz.refl (col:=(Zi cl cw))).froz 18).froz 19) (by decide)
     replace bv:=bv.thaw (Zy .u32) aj (((Fz.refl (col:=(Zi cl cw))).froz 18).froz 19) (by decide);replace aj:=aj.thawR (col:=(Zi cl cw));generalize Z7 ih.heap.size (Zi cl cw) ij=bw at *;refine Zm ?_;refine ⟨fun w'=>Zf (Zi br bw) br (Zi br bw) w',fun g=>(Zi br bw) g=497,Zf.refl _ _,W6,fun _=>⟨fun _ h=>Uc hC0 aj h,fun b hb=>aj.below.block b hb,fun g x1 x2=>Ug aj g x1 (by first | exact x2 | (simp only [Xn,x2];rfl) | (simp only [Xn,Xc,x2];rfl))⟩,?_⟩;have a0:=Zt.clip (fun _=>false) bw br;refine Ze7 rfl rfl (Tq zeroValue39) ?_;intro cx ik;refine Vb rfl rfl ?_;intro il ⟨hC0,hZ0⟩;replace bf:=((((bf.gr ai).kpp az).gr hC).gr aj).kpp a0;replace bg:=((((bg.gr ai).kpp az).gr hC).gr aj).kpp a0;replace ak:=((ak.gr hC).gr aj).kpp a0;replace al:=((al.gr hC).gr aj).kpp a0;replace am:=((am.gr hC).gr aj).kpp a0;replace an:=((an.gr hC).gr aj).kpp a0;replace bj:=((bj.gr hC).gr aj).kpp a0;replace ao:=((ao.gr hC).gr aj).kpp a0;replace ap:=((ap.gr hC).gr aj).kpp a0;replace aq:=((aq.gr hC).gr aj).kpp a0;replace ar:=((ar.gr hC).gr aj).kpp a0;replace au:=((au.gr hC).gr aj).kpp a0;replace av:=((av.gr hC).gr aj).kpp a0;replace aw:=((aw.gr hC).gr aj).kpp a0;replace ax:=((ax.gr hC).gr aj).kpp a0;replace ah:=((ah.gr hC).gr aj).kpp a0;replace ad:=((ad.gr hC).gr aj).kpp a0;replace ba:=((ba.gr hC).gr aj).kpp a0;replace bd:=((bd.gr hC).gr aj).kpp a0;replace hb3:=((hb3.gr hC).gr aj).kpp a0;replace ab:=((ab.gr hC).gr aj).kpp a0;replace ac:=((ac.gr hC).gr aj).kpp a0;replace aa:=((aa.grow hC).grow aj).kpp a0;have hC:=hC0.bl (Zi br bw);obtain ⟨a2,ft⟩:=Zdq (col:=(Zi br bw)) 22 hZ0 ik;replace ft:Zj 39 22 (Xd cx 22 (Zi br bw)) il cx #[.bool false,.slice none (([]:List Int).length) 0,.slice none (([]:List Int).length) 0]:=ft;refine Zw ft ?_;intro cy a3 im cn;refine Zm ?_;refine ⟨fun w'=>Zf (Zi cy (Xd cx 22 (Zi br bw))) cy (Zi cy (Xd cx 22 (Zi br bw))) w',fun g=>(Zi cy (Xd cx 22 (Zi br bw))) g=497,Zf.refl _ _,W6,fun h=>absurd h (by decide),?_⟩;have ay:=Zt.clip (fun _=>false) (Xd cx 22 (Zi br bw)) cy;refine Zhz ?_;replace bs:=(((((bs.gr aj).kpp a0).gr hC).kpp a2).kp a3).kpp ay
     replace bt:=(((((bt.gr aj).kpp a0).gr hC).kpp a2).kp a3).kpp ay;replace bu:=((((bu.kpp a0).gr hC).kpp a2).kp a3).kpp ay;replace bv:=((((bv.kpp a0).gr hC).kpp a2).kp a3).kpp ay;replace ak:=(((ak.gr hC).kpp a2).kp a3).kpp ay;replace al:=(((al.gr hC).kpp a2).kp a3).kpp ay;replace am:=(((am.gr hC).kpp a2).kp a3).kpp ay;replace an:=(((an.gr hC).kpp a2).kp a3).kpp ay;replace bf:=(((bf.gr hC).kpp a2).kp a3).kpp ay;replace bg:=(((bg.gr hC).kpp a2).kp a3).kpp ay;replace bj:=(((bj.gr hC).kpp a2).kp a3).kpp ay;replace ao:=(((ao.gr hC).kpp a2).kp a3).kpp ay;replace ap:=(((ap.gr hC).kpp a2).kp a3).kpp ay;replace aq:=(((aq.gr hC).kpp a2).kp a3).kpp ay;replace ar:=(((ar.gr hC).kpp a2).kp a3).kpp ay;replace au:=(((au.gr hC).kpp a2).kp a3).kpp ay;replace av:=(((av.gr hC).kpp a2).kp a3).kpp ay;replace aw:=(((aw.gr hC).kpp a2).kp a3).kpp ay;replace ax:=(((ax.gr hC).kpp a2).kp a3).kpp ay;replace ah:=(((ah.gr hC).kpp a2).kp a3).kpp ay;replace ad:=(((ad.gr hC).kpp a2).kp a3).kpp ay;replace ba:=(((ba.gr hC).kpp a2).kp a3).kpp ay;replace bd:=(((bd.gr hC).kpp a2).kp a3).kpp ay;replace hb3:=(((hb3.gr hC).kpp a2).kp a3).kpp ay;replace ab:=(((ab.gr hC).kpp a2).kp a3).kpp ay;replace ac:=(((ac.gr hC).kpp a2).kp a3).kpp ay;replace aa:=(((aa.grow hC).kpp a2).kp a3 im).kpp ay;intro io hC;replace hC:Zf (Zi cy (Xd cx 22 (Zi br bw))) cy (Zi cy (Xd cx 22 (Zi br bw))) io:=.of_below hC.below;refine go ?_;replace bd:=bd.gr hC;refine lV _ (Xb isAgg39 sizeOf39 bd) ?_;replace cn:=(cn.kpp ay).gr hC;refine lV _ (Xb isAgg39 sizeOf39 cn)<|lV (.agg #[.bool ci,.slice d4 cj.length d5,.slice d6 ck.length d7,.bool bq.1.1,.slice fn bq.1.2.length fp,.slice fq bq.2.length fr]) (Yo (l:=[_,_]) (qs:=[(0,3),(3,3)]) underlying68 zeroValue68 ⟨rfl,sizeOf39,rfl,sizeOf39,trivial⟩ rfl) ?_;replace ak:=ak.gr hC;replace ak:=ak.froz 21;replace al:=al.gr hC;replace al:=al.froz 21;replace am:=am.gr hC;replace am:=am.froz 21;replace an:=an.gr hC;replace an:=an.froz 21;replace bf:=bf.gr hC;replace bf:=bf.froz 21 (by decide);replace bg:=bg.gr hC;replace bg:=bg.froz 21 (by decide);replace bs:=bs.gr hC;replace bs:=bs.froz 21;replace bt:=bt.gr hC;replace bt:=bt.froz 21
     replace ao:=ao.gr hC;replace ao:=ao.froz 21;replace ap:=ap.gr hC;replace ap:=ap.froz 21;replace aq:=aq.gr hC;replace aq:=aq.froz 21;replace ar:=ar.gr hC;replace ar:=ar.froz 21;replace au:=au.gr hC;replace au:=au.froz 21 (by decide);replace av:=av.gr hC;replace av:=av.froz 21 (by decide);replace aw:=aw.gr hC;replace aw:=aw.froz 21 (by decide);replace ax:=ax.gr hC;replace ax:=ax.froz 21 (by decide);replace ah:=ah.gr hC;replace ah:=ah.froz 21 (by decide);replace bu:=bu.gr hC;replace bu:=bu.froz 21 (by decide);replace bv:=bv.gr hC;replace bv:=(bv).toSlF (Zg.int .u32);replace bj:=bj.gr hC;replace bj:=bj.froz 21 (by decide);replace ad:=ad.gr hC;replace ad:=ad.froz 21 (by decide);replace ba:=ba.gr hC;replace ba:=ba.froz 21 (by decide);replace bd:=bd.froz 21 (by decide);replace hb3:=hb3.gr hC;replace hb3:=hb3.froz 21 (by decide);replace ab:=ab.gr hC;replace ab:=ab.froz 21 (by decide);replace ac:=ac.gr hC;replace ac:=ac.froz 21 (by decide);replace cn:=cn.froz 21 (by decide);replace aa:=aa.grow hC;replace aa:=aa.froz 21 (by decide) (by decide);replace ak:=ak.froz 20;replace al:=al.froz 20;replace am:=am.froz 20;replace an:=an.froz 20;replace bf:=bf.froz 20 (by decide);replace bg:=bg.froz 20 (by decide);replace bs:=bs.froz 20;replace bt:=bt.froz 20;replace ao:=ao.froz 20;replace ap:=ap.froz 20;replace aq:=aq.froz 20;replace ar:=ar.froz 20;replace au:=au.froz 20 (by decide);replace av:=av.froz 20 (by decide);replace aw:=aw.froz 20 (by decide);replace ax:=ax.froz 20 (by decide);replace ah:=ah.froz 20 (by decide);replace bu:=(bu).toSlF (Zg.int .u32);replace bv:=bv.froz 20;replace bj:=bj.froz 20 (by decide);replace ad:=ad.froz 20 (by decide);replace ba:=ba.froz 20 (by decide);replace bd:=bd.froz 20 (by decide);replace hb3:=hb3.froz 20 (by decide);replace ab:=ab.froz 20 (by decide);replace ac:=ac.froz 20 (by decide);replace cn:=cn.froz 20 (by decide);replace aa:=aa.froz 20 (by decide) (by decide)
     refine Sy (col:=(Xn 20 (Xn 21 (Zi cy (Xd cx 22 (Zi br bw)))))) (r:=(Za.pair (Za.pair (Za.pair Za.bool (Za.slice (Za.int .u32))) (Za.slice (Za.int .u32))) (Za.pair (Za.pair Za.bool (Za.slice (Za.int .u32))) (Za.slice (Za.int .u32))))) (xs:=[(((ci,cj),ck),((bq.1.1,bq.1.2),bq.2))]) [(.agg #[.bool ci,.slice d4 cj.length d5,.slice d6 ck.length d7,.bool bq.1.1,.slice fn bq.1.2.length fp,.slice fq bq.2.length fr])] 23 (Wb.ofF (Rows.consF (r:=(Za.pair (Za.pair (Za.pair Za.bool (Za.slice (Za.int .u32))) (Za.slice (Za.int .u32))) (Za.pair (Za.pair Za.bool (Za.slice (Za.int .u32))) (Za.slice (Za.int .u32))))) (x:=(((ci,cj),ck),((bq.1.1,bq.1.2),bq.2))) (cs:=[.bool ci,.slice d4 cj.length d5,.slice d6 ck.length d7,.bool bq.1.1,.slice fn bq.1.2.length fp,.slice fq bq.2.length fr]) (Qf (Qf (Qf (Tx ci) (Zaz bs)) (Zaz bt)) (Qf (Qf (Tx bq.1.1) (Zaz bu)) (Zaz bv))) Rows.nil0)) ?_;intro kj kk kl a4 ip;obtain ⟨iq,hm⟩:=Z6 hm;replace bj:=bj.gr a4;refine U3 bj (ip.srcN (NB.pair (NB.pair (NB.pair NB.bool NB.slice) NB.slice) (NB.pair (NB.pair NB.bool NB.slice) NB.slice))) iq ?_;intro km kn ko kq a7 fu;refine go ?_;replace cn:=(cn.gr a4).kpp a7;refine lV _ (Xb isAgg39 sizeOf39 cn) ?_;replace bd:=(bd.gr a4).kpp a7;refine Zw bd ?_;intro kr a9 ir it;refine go ?_;replace ak:=((ak.gr a4).kpp a7).kp a9;replace al:=((al.gr a4).kpp a7).kp a9;replace am:=((am.gr a4).kpp a7).kp a9;replace an:=((an.gr a4).kpp a7).kp a9;replace bf:=((bf.gr a4).kpp a7).kp a9;replace bg:=((bg.gr a4).kpp a7).kp a9;replace ao:=((ao.gr a4).kpp a7).kp a9;replace ap:=((ap.gr a4).kpp a7).kp a9;replace aq:=((aq.gr a4).kpp a7).kp a9;replace ar:=((ar.gr a4).kpp a7).kp a9;replace au:=((au.gr a4).kpp a7).kp a9;replace av:=((av.gr a4).kpp a7).kp a9;replace aw:=((aw.gr a4).kpp a7).kp a9;replace ax:=((ax.gr a4).kpp a7).kp a9;replace ah:=((ah.gr a4).kpp a7).kp a9;replace bu:=((bu.gr a4).kpp a7).kp a9;replace bv:=((bv.gr a4).kpp a7).kp a9;replace ad:=((ad.gr a4).kpp a7).kp a9;replace ba:=((ba.gr a4).kpp a7).kp a9;replace hb3:=((hb3.gr a4).kpp a7).kp a9;replace ab:=((ab.gr a4).kpp a7).kp a9
     replace ac:=((ac.gr a4).kpp a7).kp a9;replace aa:=((aa.grow a4).kpp a7).kp a9 ir;replace fu:=fu.kp a9;exact ⟨eb,by omega,rfl,⟨_,_,_,_,_,_,_,_,_,_,_,_,_,rfl,hm,aa,ak,al,am,an,ad,bf,bg,ba,bu,bv,it,fu,ao,ap,aq,ar,hb3,ab,au,av,aw,ax,ac,ah,rfl⟩⟩
    refine lM (.func (.func 158) #[] #[.pointer (some ⟨g3,0,none⟩)])<|go ?_;obtain ⟨fv,iu,hm⟩:=bZ hm;refine lc rfl rfl (Zwl call158 rfl rfl rfl) (Zy1 N (Xn 17 ae) _ 999 (by decide) di eu ew eo g3 (((c8,b6),b7),((dd,b8),b9)) c9 da db dc de df dg dh (bj.toSlF (Zg.pair (Zg.pair (Zg.pair Zg.bool Zg.slice) Zg.slice) (Zg.pair (Zg.pair Zg.bool Zg.slice) Zg.slice))) (ao.froz 17) (ap.froz 17) (aq.froz 17) (ar.froz 17) (hb3.froz 17 (by decide)) fv iu) ?_;rintro _ iv ⟨rfl,bn⟩;refine ⟨_,rfl,?_⟩;replace bn:Zf ae af ae iv:=.of_below bn;refine go ?_;replace bj:=bj.gr bn;replace ao:=ao.gr bn;replace ap:=ap.gr bn;replace aq:=aq.gr bn;replace ar:=ar.gr bn;replace au:=au.gr bn;replace av:=av.gr bn;replace aw:=aw.gr bn;replace ax:=ax.gr bn;replace ah:=ah.gr bn;replace ad:=ad.gr bn;replace hb3:=hb3.gr bn;replace ab:=ab.gr bn;replace ac:=ac.gr bn;replace aa:=aa.grow bn;refine Zq hm (fun hb hm=>go ?_) fun hb hm=>go ?_
    ·refine lV (.agg #[.bool false,.slice none (([]:List Int).length) 0,.slice none (([]:List Int).length) 0,.bool false,.slice none (([]:List Int).length) 0,.slice none (([]:List Int).length) 0]) (Yo (l:=[_,_]) (qs:=[(0,3),(3,3)]) underlying68 zeroValue68 ⟨rfl,sizeOf39,rfl,sizeOf39,trivial⟩ rfl)<|Q6 rfl<|Zw ac ?_;intro kt iw ix iy;refine go ?_;cases hm;replace aa:=aa.kp iw ix;exact ⟨rfl,_,Zm1 rfl rfl rfl rfl isAgg68 sizeOf68 rfl rfl iy.atN rfl rfl,_,none,0,none,0,none,0,none,0,none,0,rfl,aa.fin (cm []),Zc.nil,Sl.nil,Sl.nil,Sl.nil,Sl.nil⟩
    obtain ⟨ec,fw,hm⟩:=bZ hm;refine lI fw (bj.addr fw) ?_;obtain ⟨_,iz,i0⟩:=bj.atN fw;obtain ⟨_,_,rfl,i1,i2⟩:=iz.parts;obtain ⟨_,_,rfl,i3,i4⟩:=i1.parts;obtain ⟨_,_,rfl,i5,i6⟩:=i3.parts;obtain rfl:=i5.bool;obtain ⟨i7,i8,rfl,fx⟩:=i6.slice;obtain ⟨i9,ja,rfl,fy⟩:=i4.slice;obtain ⟨_,_,rfl,jb,jc⟩:=i2.parts;obtain ⟨_,_,rfl,jd,je⟩:=jb.parts;obtain rfl:=jd.bool;obtain ⟨jf,jg,rfl,fz⟩:=je.slice;obtain ⟨jh,ji,rfl,f0⟩:=jc.slice;refine lV (.agg #[.bool ec.1.1.1,.slice i7 ec.1.1.2.length i8,.slice i9 ec.1.2.length ja,.bool ec.2.1.1,.slice jf ec.2.1.2.length jg,.slice jh ec.2.2.length ji]) (Xt isAgg68 sizeOf68 rfl rfl i0) ?_;obtain ⟨ku,f1,hm⟩:=bZ hm;refine lI f1 (ah.addr f1) ?_;obtain ⟨f2,e1,hm⟩:=bZ hm;have e1:f2=cg.set (Int.toNat di) fv:=(Option.some.inj e1).symm;refine Y7 (x1:=fv) ah f1 ?_;intro kv bo jj e2;rw [← e1] at e2;refine .ld (d:=9) (v:=(.slice d1 f2.length d2)) (congrArg (fun n=>Value.slice d1 n d2) (show cg.length=f2.length by rw [e1,nS])) ?_;replace ad:=ad.kp bo;refine Zw ad ?_;intro kw bp jk jl;refine go ?_;replace ao:=(ao.kp bo).kp bp;replace ap:=(ap.kp bo).kp bp;replace aq:=(aq.kp bo).kp bp;replace ar:=(ar.kp bo).kp bp;replace au:=(au.kp bo).kp bp;replace av:=(av.kp bo).kp bp;replace aw:=(aw.kp bo).kp bp;replace ax:=(ax.kp bo).kp bp;replace fx:=(fx.kp bo).kp bp;replace fy:=(fy.kp bo).kp bp;replace fz:=(fz.kp bo).kp bp;replace f0:=(f0.kp bo).kp bp;replace hb3:=(hb3.kp bo).kp bp;replace ab:=(ab.kp bo).kp bp;replace ac:=(ac.kp bo).kp bp;replace aa:=(aa.kp bo jj).kp bp jk;replace e2:=e2.kp bp;exact ⟨fd.length,by simp,rfl,⟨_,_,_,_,_,_,_,_,_,_,_,_,_,_,_,_,_,_,_,_,_,_,_,_,_,_,_,_,_,_,_,_,_,_,_,_,_,_,_,_,_,_,_,_,_,_,_,_,rfl,g6,hm,aa,fx,fy,fz,f0,jl,ao,ap,aq,ar,hb3,ab,au,av,aw,ax,ac,e2,(Ys (congrArg (Value.int .i64) (Yp (Nat.lt_of_lt_of_le g7 (h1.ks aa).1.1))) rfl)⟩⟩
  | cons kx jm=>
   obtain ⟨d3,jn,jo⟩:=Ym hl;have hk:(em:Int)<(el.length:Int):=by omega
   have hkb:=decide_eq_true hk;rw [Zcf.eq_2] at hm;refine go ?_;refine Yc (congrArg Value.bool hkb)<|go ?_;refine lI d3 (dj.addr d3)<|lW (dj.atInt d3) ?_;refine go ?_;refine Un (col:=a5) (by kernel_rfl) (by kernel_rfl)<|go ?_;refine qF ⟨_,_,rfl⟩ ?_;refine qW (fun _ hC=>((ab.atN).nth (q:=2) rfl).gr (hC.bl a5)) ?_;refine go ?_;obtain ⟨ky,f3,hm⟩:=bZ hm;refine qI f3 ((c2.ks aa).addr f3) ?_;obtain ⟨_,jp,jq⟩:=(c2.ks aa).atN f3;obtain ⟨⟨kz,k0,rfl,k1⟩,_⟩:=jp;refine qW (fun _ hC=>jq.one.gr (hC.bl a5)) ?_;refine go ?_;obtain ⟨k2,f4,hm⟩:=bZ hm;refine qI f4 (ah.addr f4)<|qW (fun _ hC=>(ah.gr (hC.bl a5)).atInt f4) ?_;refine go ?_;refine Wv ?_;intro k3 hC;replace hC:=hC.bl a5;refine go ?_;replace ak:=ak.gr hC;replace al:=al.gr hC;replace am:=am.gr hC;replace an:=an.gr hC;replace ao:=ao.gr hC;replace ap:=ap.gr hC;replace aq:=aq.gr hC;replace ar:=ar.gr hC;replace dj:=dj.gr hC;replace au:=au.gr hC;replace av:=av.gr hC;replace aw:=aw.gr hC;replace ax:=ax.gr hC;replace ah:=ah.gr hC;replace ad:=ad.gr hC;replace hb3:=hb3.gr hC;replace ab:=ab.gr hC;replace ac:=ac.gr hC;replace aa:=aa.grow hC;exact ⟨jm.length,by simp,rfl,⟨_,_,_,_,rfl,jn,hm,aa,ak,al,am,an,ad,ao,ap,aq,ar,hb3,ab,dj,au,av,aw,ax,ac,ah,(Ys (congrArg (Value.int .i64) (Yp (Nat.lt_of_lt_of_le jo dj.1.1))) rfl)⟩⟩
section
variable (N:Nat) (n:Z2) (X V:QV×QV)
abbrev Zic:Int→List (QV×QV)→Option Int:=fun x P=>Zlf N x P X
theorem Zsj (w:List Int) (kk:Bool→List Int→List Int→Bool→List Int→List Int→Bool→List Int→List Int→Bool→List Int→List Int→Bool→List Int→List Int→Bool→List Int→List Int→List Int→T3) (x row:Int) (d:QV) (e:List ByteArray):∀ (f:Nat) (a:QV) (ps:List (QV×QV)) (k:Int),
  Zd1 N n X.1.1.1 X.1.1.2 X.1.2 X.2.1.1 X.2.1.2 X.2.2 V.1.1.1 V.1.1.2 V.1.2 V.2.1.1 V.2.1.2 V.2.2 w kk x row d e f a.1.1 a.1.2 a.2 ps k=
   Zfk N n (Zic N X) w (fun a b xs=>kk a.1.1 a.1.2 a.2 b.1.1 b.1.2 b.2 X.1.1.1 X.1.1.2 X.1.2 X.2.1.1 X.2.1.2 X.2.2 V.1.1.1 V.1.1.2 V.1.2 V.2.1.1 V.2.1.2 V.2.2 xs) x row d e f a ps k
 | 0,a,ps,k=>rfl
 | f+1,a,ps,k=>by
  have ih:=Zsj w kk x row d e f
  rw [Zd1.eq_2,Zfk]
  simp only [ih]
theorem Zsi (s:QV×QV) (w:List Int) (kk:Bool→List Int→List Int→Bool→List Int→List Int→Bool→List Int→List Int→Bool→List Int→List Int→Bool→List Int→List Int→Bool→List Int→List Int→List Int→T3) (x:Int):∀ (ps:List Int) (row:Int),
  Zcf N n s.1.1.1 s.1.1.2 s.1.2 s.2.1.1 s.2.1.2 s.2.2 X.1.1.1 X.1.1.2 X.1.2 X.2.1.1 X.2.1.2 X.2.2 V.1.1.1 V.1.1.2 V.1.2 V.2.1.1 V.2.1.2 V.2.2 w kk x ps row=
   Za8 N n (Zic N X) s w (fun a b xs=>kk a.1.1 a.1.2 a.2 b.1.1 b.1.2 b.2 X.1.1.1 X.1.1.2 X.1.2 X.2.1.1 X.2.1.2 X.2.2 V.1.1.1 V.1.1.2 V.1.2 V.2.1.1 V.2.1.2 V.2.2 xs) x ps row
 | [],row=>by
  rw [Zcf.eq_1,Za8]
  simp only [Zsj]
 | p :: ps,row=>by
  rw [Zcf.eq_2,Za8]
  simp only [Zsi s w kk x ps]
theorem Zsh:∀ (l:List Int) (a b:QV) (w:List Int),
  Qn N n l a.1.1 a.1.2 a.2 b.1.1 b.1.2 b.2 X.1.1.1 X.1.1.2 X.1.2 X.2.1.1 X.2.1.2 X.2.2 V.1.1.1 V.1.1.2 V.1.2 V.2.1.1 V.2.1.2 V.2.2 w=Zb9 N n (Zic N X) l a b w
 | [],a,b,w=>rfl
 | x :: l,a,b,w=>by
  rw [Qn.eq_2,Zb9]
  have e:(fun a b xs=>Qn N n l a.1.1 a.1.2 a.2 b.1.1 b.1.2 b.2 X.1.1.1 X.1.1.2 X.1.2 X.2.1.1 X.2.1.2 X.2.2 V.1.1.1 V.1.1.2 V.1.2 V.2.1.1 V.2.1.2 V.2.2 xs)=Zb9 N n (Zic N X) l:=by
   funext a b xs
   exact Zsh l a b xs
  have h:=fun ps=>Zsi N n X V (a,b) w (Qn N n l) x ps 0
  rw [e] at h
  simp only [h]
end
def Zfn (x:Rat×Rat) (p:Rat×Rat):Bool:=decide (p.1≤x.1)&&decide (x.2≤p.2)&&decide (p.1<p.2)
theorem Zfo {x p:Rat×Rat}:Zfn x p=true↔p.1≤x.1∧x.2≤p.2∧p.1<p.2:=by simp [Zfn,and_assoc]
theorem Zyk {x:Rat×Rat} (h:x.1<x.2):Znd x (Zfn x):=by
 refine ⟨fun p hp=>?_,fun p _ _ q hq=>?_⟩
 ·rw [Bool.eq_iff_iff,Zfo,Sx]
  exact ⟨fun g=>⟨g.1,Std.lt_of_lt_of_le h g.2.1,g.2.1⟩,fun g=>⟨g.1,g.2.2,Std.lt_of_le_of_lt g.1 g.2.1⟩⟩
 ·rw [Bool.eq_false_iff]
  intro g
  exact absurd (Zfo.1 g).1 (Rat.not_le.2 hq)
section
variable {N K:Nat} (hr:Xi N (8 * K+40)) {x:Rat×Rat} {X:QV×QV} (q1:RV K X.1) (q2:RV K X.2) (v1:Zu X.1=x.1) (v2:Zu X.2=x.2)
include hr q1 q2 v1 v2
theorem Zrt:∀ (P:List (Rat×Rat)) (k:Nat),(∀ p ∈ P,qs p.1≤K∧qs p.2≤K)→Qo N X (P.map Y0) k=some (T8 (Zfn x) P k)
 | [],k,_=>rfl
 | p :: P,k,h=>by
  have hp:=h p List.mem_cons_self
  have ih:=Zrt P (k+1) fun q hq=>h q (List.mem_cons_of_mem _ hq)
  have c1:U4 N (((Y0 p).1.1.1,(Y0 p).1.1.2),(Y0 p).1.2) ((X.1.1.1,X.1.1.2),X.1.2)=some (Vt p.1 x.1):=by
   have:=Zdv (Y4 hp.1) q1 (hr.mono (by omega))
   rwa [Y3,v1] at this
  have c2:U4 N ((X.2.1.1,X.2.1.2),X.2.2) (((Y0 p).2.1.1,(Y0 p).2.1.2),(Y0 p).2.2)=some (Vt x.2 p.2):=by
   have:=Zdv q2 (Y4 hp.2) (hr.mono (by omega))
   rwa [Y3,v2] at this
  have c3:U4 N (((Y0 p).1.1.1,(Y0 p).1.1.2),(Y0 p).1.2) (((Y0 p).2.1.1,(Y0 p).2.1.2),(Y0 p).2.2)=some (Vt p.1 p.2):=by
   have:=Zdv (Y4 hp.1) (Y4 hp.2) (hr.mono (by omega))
   rwa [Y3,Y3] at this
  rw [List.map_cons,Qo.eq_2,c1,oB,T8]
  by_cases a1:p.1≤x.1
  ·rw [if_pos (dT (Zmp.2 a1)),c2,oB]
   by_cases a2:x.2≤p.2
   ·rw [if_pos (dT (Zmp.2 a2)),c3,oB,Zci]
    by_cases a3:p.1<p.2
    ·rw [if_pos (dT (Zmq.2 a3)),if_pos (Zfo.2 ⟨a1,a2,a3⟩)]
    ·rw [if_neg (dF (fun e=>a3 (Zmq.1 e))),Zf2,ih,if_neg (fun e=>a3 (Zfo.1 e).2.2)]
   ·rw [if_neg (dF (fun e=>a2 (Zmp.1 e))),Zci,if_neg (by decide),Zf2,ih,if_neg (fun e=>a2 (Zfo.1 e).2.1)]
  ·rw [if_neg (dF (fun e=>a1 (Zmp.1 e))),Zci,if_neg (by decide),Zf2,ih,if_neg (fun e=>a1 (Zfo.1 e).1)]
end
section
variable {N W K:Nat} {n:Z2} (hf:Yq N n) (hs:Wk n W) (hr:Xi N (8 * K+40)) (hWK:1025 * (W+2)+4≤K) (hN:1048577<N) {ord:List Int} (ho:V0 n.2.2.2.1 ord) (hol:ord.length≤1024)
variable {x:Rat×Rat} {X:QV×QV} (q1:RV K X.1) (q2:RV K X.2) (v1:Zu X.1=x.1) (v2:Zu X.2=x.2)
include hf hs hr hWK hN ho hol q1 q2 v1 v2
theorem Z06:Zce N n ord X=Zie (Vj n (fun P=>T8 (Zfn x) P 0) ord (List.replicate n.2.1.length 0) (0,1)):=by
 have hnm:=hf.le
 have hmul:ord.length * (W+2)≤1024 * (W+2):=Nat.mul_le_mul_right _ hol
 have h1:(Zd 1).length=1:=by rw [Uj];rfl
 have h:=Ztw hf hs hr (by omega) ho (Z12 (Zfn x)) (ch:=Zic N X) (by omega) (fun v P hP _=>Zrt hr q1 q2 v1 v2 P 0 hP) ord (List.replicate n.2.1.length 0) (0,1) 1 1 (fun _ h=>h) (X2.zero hf.ev) U9.zero (by omega)
 rw [← Zsh N n X ((((false,[]),[]),((false,[]),[]))) ord] at h
 rw [Zce,Xg (by simp only [maxLen];omega),Zol (hr.mono (by omega)),oB,Zk5,oB]
 exact h
end
def Zf1 (N:Nat) (aa:(R1×R1)) (ad:Bool):Option (R1×R1):=
  (V4 N ((aa.1.1.1,aa.1.1.2),aa.1.2) ((aa.2.1.1,aa.2.1.2),aa.2.2)).bind fun ac=>(Uv N ((ac.1.1,ac.1.2),ac.2) ((false,[1]),[2])).bind fun ab=>if ad=true then (some (((ab.1.1,ab.1.2),ab.2),((aa.2.1.1,aa.2.1.2),aa.2.2))) else (some (((aa.1.1.1,aa.1.1.2),aa.1.2),((ab.1.1,ab.1.2),ab.2)))
theorem Zyy {N ai aj ak al:Nat} {am an ao ap:Option Addr} {col:Ze} {w0:World} {ab:(R1×R1)} {bb:Bool} {r:(R1×R1)} (hm:Zf1 N ab bb=some r) (az:Sl (Za.int .u32) col w0 am ai ab.1.1.2) (a0:Sl (Za.int .u32) col w0 an aj ab.1.2) (a1:Sl (Za.int .u32) col w0 ao ak ab.2.1.2) (a2:Sl (Za.int .u32) col w0 ap al ab.2.2):
    Calls prog 83 #[(.agg #[.bool ab.1.1.1,.slice am ab.1.1.2.length ai,.slice an ab.1.2.length aj,.bool ab.2.1.1,.slice ao ab.2.1.2.length ak,.slice ap ab.2.2.length al]),.bool bb] w0 (fun e w'=>∃ (col':Ze) (ra1:Option Addr) (rc2:Nat) (ra4:Option Addr) (rc5:Nat) (ra7:Option Addr) (rc8:Nat) (ra10:Option Addr) (rc11:Nat),e= .returned ((.agg #[.bool r.1.1.1,.slice ra1 r.1.1.2.length rc2,.slice ra4 r.1.2.length rc5,.bool r.2.1.1,.slice ra7 r.2.1.2.length rc8,.slice ra10 r.2.2.length rc11]))∧Zf col w0 col' w'∧Sl (Za.int .u32) col' w' ra1 rc2 r.1.1.2∧Sl (Za.int .u32) col' w' ra4 rc5 r.1.2∧Sl (Za.int .u32) col' w' ra7 rc8 r.2.1.2∧Sl (Za.int .u32) col' w' ra10 rc11 r.2.2):=by
 refine Y2 (m:=27) func83 rfl rfl rfl ?_;rw [Zf1.eq_1] at hm;have aa:=St.start col w0;refine go ?_;refine Xv (col:=(Zk col)) 1 rfl ?_;intro b4 b5 bj bk ae;refine Xj (col:=bj) #[.bool false,.slice none (([]:List Int).length) 0,.slice none (([]:List Int).length) 0,.bool false,.slice none (([]:List Int).length) 0,.slice none (([]:List Int).length) 0] 2 zeroValue68 ?_;intro b6 b7 b8 bc a3;refine go ?_;refine Xx ⟨_,_,rfl⟩ ?_;replace ae:=ae.gr bc;refine lV (.agg #[.bool ab.1.1.1,.slice am ab.1.1.2.length ai,.slice an ab.1.2.length aj]) (Xt isAgg39 sizeOf39 rfl rfl ((ae.atN).part 0 3 _ rfl))<|Xx ⟨_,_,rfl⟩ ?_;refine lV (.agg #[.bool ab.2.1.1,.slice ao ab.2.1.2.length ak,.slice ap ab.2.2.length al]) (Xt isAgg39 sizeOf39 rfl rfl ((ae.atN).part 3 3 _ rfl)) ?_;obtain ⟨b9,bm,hm⟩:=bZ hm;replace az:=az.keep (Zl.start col w0);replace a0:=a0.keep (Zl.start col w0);replace a1:=a1.keep (Zl.start col w0);replace a2:=a2.keep (Zl.start col w0);replace aa:=(aa.grow bk).grow bc;refine Zh (Zb2 3 4 bm (az.ks aa) (a0.ks aa) (a1.ks aa) (a2.ks aa)) ?_;rintro _ ca ⟨bn,cb,cc,cd,ce,rfl,a5,a6,a7⟩;refine ⟨_,rfl,?_⟩;refine Xj (col:=bn) #[.bool false,.slice none (([]:List Int).length) 0,.slice none (([]:List Int).length) 0] 5 zeroValue39 ?_;intro cf cg bo aq bp;refine Zw bp ?_;intro ch ar bq br;refine go ?_;refine lV _ (Xb isAgg39 sizeOf39 br)<|W8 (col:=bo) [1] 6 ?_;intro bd ci bs au a8;refine lV (.agg #[.bool false,.slice bd ([1].length) 1]) (Yo (l:=[_,_]) (qs:=[(0,1),(1,1)]) underlying37 zeroValue37 ⟨rfl,sizeOf4,rfl,sizeOf35,trivial⟩ rfl)<|W8 (col:=bs) [2] 7 ?_;intro bt bu a4 ag bv;refine lV (.agg #[.bool false,.slice bd ([1].length) 1,.slice bt ([2].length) 1]) (Yo (l:=[_,_]) (qs:=[(0,2),(2,1)]) underlying39 zeroValue39 ⟨rfl,sizeOf37,rfl,sizeOf35,trivial⟩ rfl) ?_;obtain ⟨ah,bw,hm⟩:=bZ hm;replace a6:=(((a6.gr aq).kp ar).gr au).gr ag;replace a7:=(((a7.gr aq).kp ar).gr au).gr ag;replace a8:=a8.gr ag
 refine Zh (Zfd 8 9 bw ((((a6.toSlF (Zg.int .u32)).froz 4).froz 6).froz 7) ((((a7.froz 3 (by decide)).toSlF (Zg.int .u32)).froz 6).froz 7) ((((a8.froz 3 (by decide)).froz 4 (by decide)).toSlF (Zg.int .u32)).froz 7) ((((bv.froz 3 (by decide)).froz 4 (by decide)).froz 6 (by decide)).toSlF (Zg.int .u32))) ?_;rintro _ cj ⟨bx,be,bf,bg,bh,rfl,af,ac,ad⟩;refine ⟨_,rfl,?_⟩;replace ac:=ac.thaw (Zy .u32) af (((((Fz.refl (col:=a4)).froz 3).froz 4).froz 6).froz 7) (by decide);replace ad:=ad.thaw (Zy .u32) af (((((Fz.refl (col:=a4)).froz 3).froz 4).froz 6).froz 7) (by decide);replace af:=af.thawR (col:=a4);generalize Z7 bu.heap.size a4 bx=bz at *;refine Xj (col:=bz) #[.bool false,.slice none (([]:List Int).length) 0,.slice none (([]:List Int).length) 0] 10 zeroValue39 ?_;intro ck cl cn av b0;refine Zw b0 ?_;intro co aw b1 bi;refine go ?_;replace ae:=(((((((ae.gr a5).gr aq).kp ar).gr au).gr ag).gr af).gr av).kp aw;replace a3:=(((((((a3.gr a5).gr aq).kp ar).gr au).gr ag).gr af).gr av).kp aw;replace aa:=(((((((aa.grow a5).grow aq).kp ar bq).grow au).grow ag).grow af).grow av).kp aw b1;replace ac:=(ac.gr av).kp aw;replace ad:=(ad.gr av).kp aw;refine Zq hm (fun hb hm=>go ?_) fun hb hm=>go ?_
 ·refine lV _ (Xb isAgg39 sizeOf39 bi)<|Xx ⟨_,_,rfl⟩ ?_;refine lV (.agg #[.bool ab.2.1.1,.slice ao ab.2.1.2.length ak,.slice ap ab.2.2.length al]) (Xt isAgg39 sizeOf39 rfl rfl ((ae.atN).part 3 3 _ rfl))<|lV (.agg #[.bool ah.1.1,.slice be ah.1.2.length bf,.slice bg ah.2.length bh,.bool ab.2.1.1,.slice ao ab.2.1.2.length ak,.slice ap ab.2.2.length al]) (Yo (l:=[_,_]) (qs:=[(0,3),(3,3)]) underlying68 zeroValue68 ⟨rfl,sizeOf39,rfl,sizeOf39,trivial⟩ rfl)<|Zw a3 ?_;intro cp a9 b2 ax;refine go ?_;replace ac:=ac.kp a9;replace ac:=(ac).toSlF (Zg.int .u32);replace ad:=ad.kp a9;replace ad:=ad.froz 8 (by decide);replace ax:=ax.froz 8 (by decide);replace aa:=aa.kp a9 b2;replace aa:=aa.froz 8 (by decide) (by decide);replace ac:=ac.froz 9;replace ad:=(ad).toSlF (Zg.int .u32);replace ax:=ax.froz 9 (by decide);replace aa:=aa.froz 9 (by decide) (by decide);cases hm;exact ⟨rfl,_,ra ax.atN,_,_,_,_,_,_,_,_,_,rfl,aa.fin (cm []),aa.fs ac,aa.fs ad,aa.fs (a1.ks aa),aa.fs (a2.ks aa)⟩
 refine Xx ⟨_,_,rfl⟩ ?_;refine lV (.agg #[.bool ab.1.1.1,.slice am ab.1.1.2.length ai,.slice an ab.1.2.length aj]) (Xt isAgg39 sizeOf39 rfl rfl ((ae.atN).part 0 3 _ rfl))<|lV _ (Xb isAgg39 sizeOf39 bi)<|lV (.agg #[.bool ab.1.1.1,.slice am ab.1.1.2.length ai,.slice an ab.1.2.length aj,.bool ah.1.1,.slice be ah.1.2.length bf,.slice bg ah.2.length bh]) (Yo (l:=[_,_]) (qs:=[(0,3),(3,3)]) underlying68 zeroValue68 ⟨rfl,sizeOf39,rfl,sizeOf39,trivial⟩ rfl)<|Zw a3 ?_;intro cq ba b3 ay;refine go ?_;replace ac:=ac.kp ba;replace ac:=(ac).toSlF (Zg.int .u32);replace ad:=ad.kp ba;replace ad:=ad.froz 8 (by decide);replace ay:=ay.froz 8 (by decide);replace aa:=aa.kp ba b3;replace aa:=aa.froz 8 (by decide) (by decide);replace ac:=ac.froz 9;replace ad:=(ad).toSlF (Zg.int .u32);replace ay:=ay.froz 9 (by decide);replace aa:=aa.froz 9 (by decide) (by decide);cases hm;exact ⟨rfl,_,ra ay.atN,_,_,_,_,_,_,_,_,_,rfl,aa.fin (cm []),aa.fs (az.ks aa),aa.fs (a0.ks aa),aa.fs ac,aa.fs ad⟩
/-! the number that bits tell -/
def Qh (s:ByteArray) (i:Nat):Nat:=if Ub s (i:Int)=some 49 then 1 else 0
def Y6 (s:ByteArray):Nat→Nat
 | 0=>0
 | i+1=>Y6 s i+Y6 s i+Qh s i
def Z4 (s:ByteArray) (i:Nat):Rat×Rat:=(mkRat (Y6 s i:Int) (2 ^ i),mkRat ((Y6 s i:Int)+1) (2 ^ i))
theorem Zs6 (s:ByteArray):∀ i,Y6 s i+1≤2 ^ i
 | 0=>by rw [Y6];decide
 | i+1=>by
  have h:=Zs6 s i
  have hb:Qh s i≤1:=by rw [Qh];split <;> omega
  rw [Y6,Nat.pow_succ]
  generalize (2 ^ i:Nat)=Z at *
  omega
theorem Sk (i:Nat):(2 ^ i:Nat)≠0:=Nat.pos_iff_ne_zero.1 (Nat.pow_pos (by decide))
theorem Zof (s:ByteArray) (i:Nat):(Z4 s i).1<(Z4 s i).2:=by
 have h:=Sk i
 rw [Z4,Ve h h]
 generalize (2 ^ i:Nat)=Z at *
 exact Int.mul_lt_mul_of_pos_right (by omega) (by omega)
theorem Zs7 (s:ByteArray) (i:Nat):0≤(Z4 s i).1:=by
 rw [Z4,← Rat.not_lt,show (0:Rat)=mkRat 0 1 from rfl,Ve (Sk i) (by decide)]
 intro h
 rw [Int.zero_mul] at h
 omega
theorem Zs9 (s:ByteArray):Z4 s 0=(0,1):=by
 rw [Z4,Y6]
 decide
theorem Z2l {n:Int} {Z:Nat} (hZ:Z≠0):(mkRat n Z+mkRat (n+1) Z) * mkRat 1 2=mkRat (n+n+1) (Z * 2):=by
 rw [Zjy _ _ hZ,Rat.mkRat_mul_mkRat,Int.mul_one,Int.add_assoc]
theorem Zt0 {n:Int} {Z:Nat} (hZ:Z≠0):mkRat n Z=mkRat (n+n) (Z * 2):=by
 rw [Zjz hZ (by omega),Int.natCast_mul]
 grind
theorem Z2k {N L:Nat} (hr:Xi N (4 * L+16)) (s:ByteArray) {i:Nat} (q1:qs (Z4 s i).1≤L) (q2:qs (Z4 s i).2≤L) {c:Int} (hc:Ub s (i:Int)=some c):Zf1 N (Y0 (Z4 s i)) (decide (c=49))=some (Y0 (Z4 s (i+1))):=by
 have hZ:=Sk i
 have a1:V4 N (((Y0 (Z4 s i)).1.1.1,(Y0 (Z4 s i)).1.1.2),(Y0 (Z4 s i)).1.2) (((Y0 (Z4 s i)).2.1.1,(Y0 (Z4 s i)).2.1.2),(Y0 (Z4 s i)).2.2)=some (Zn ((Z4 s i).1+(Z4 s i).2)):=by
  have:=Zb7 (Y4 q1) (Y4 q2) (hr.mono (by omega))
  rwa [Y3,Y3] at this
 have hh:RV 1 ((false,[1]),[2]):=⟨by simp [Zo],by simp [Zo],by simp,by simp⟩
 have hv:Zu ((false,[1]),[2])=mkRat 1 2:=by simp [Zu,Zr,Yn,Zb]
 have s1:=Zmr (Z4 s i).1 (Z4 s i).2
 have m1:Uv N ((Zn ((Z4 s i).1+(Z4 s i).2))) ((false,[1]),[2])=some (Zn (((Z4 s i).1+(Z4 s i).2) * mkRat 1 2)):=by
  have:=Zih (Y4 (q:=(Z4 s i).1+(Z4 s i).2) (k:=2 * L+1) (by omega)) hh (hr.mono (by omega))
  rwa [Y3,hv] at this
 have m1':Uv N (((Zn ((Z4 s i).1+(Z4 s i).2)).1.1,(Zn ((Z4 s i).1+(Z4 s i).2)).1.2),(Zn ((Z4 s i).1+(Z4 s i).2)).2) ((false,[1]),[2])=_:=m1
 have e0:((Z4 s i).1+(Z4 s i).2) * mkRat 1 2=mkRat ((Y6 s i:Int)+Y6 s i+1) (2 ^ i * 2):=Z2l hZ
 rw [Zf1,a1,oB,m1',oB,e0]
 by_cases h:c=49
 ·have e:Y6 s (i+1)=Y6 s i+Y6 s i+1:=by rw [Y6,Qh,hc,h,if_pos rfl]
  have r:Z4 s (i+1)=(mkRat ((Y6 s i:Int)+Y6 s i+1) (2 ^ i * 2),(Z4 s i).2):=by
   rw [Z4,e,Nat.pow_succ]
   refine Prod.ext ?_ ?_
   ·simp only [Int.natCast_add];rfl
   ·rw [Z4]
    simp only
    rw [Zt0 (n:=(Y6 s i:Int)+1) hZ]
    congr 1
    omega
  rw [if_pos (dT h),r];rfl
 ·have e:Y6 s (i+1)=Y6 s i+Y6 s i:=by rw [Y6,Qh,hc,if_neg (by simpa using h),Nat.add_zero]
  have r:Z4 s (i+1)=((Z4 s i).1,mkRat ((Y6 s i:Int)+Y6 s i+1) (2 ^ i * 2)):=by
   rw [Z4,e,Nat.pow_succ]
   refine Prod.ext ?_ ?_
   ·rw [Z4]
    simp only
    rw [Zt0 (n:=(Y6 s i:Int)) hZ]
    simp only [Int.natCast_add]
   ·simp only [Int.natCast_add]
  rw [if_neg (dF h),r];rfl
theorem Zqw {s:ByteArray} {k i:Nat} (hk:k≤s.size) (hi:i<k):Ub (s.extract 0 k) (i:Int)=Ub s (i:Int):=by
 have h1:(s.extract 0 k).size=k:=by rw [ByteArray.size_extract];omega
 rw [Ub,Ub,if_pos (by omega),if_pos (by omega),Int.toNat_natCast,getElem?_pos _ _ (by omega),getElem?_pos _ _ (by omega),ByteArray.getElem_extract]
 simp
def Zin (aa:(R1×R1)):Option (R1×R1):=
  some ((((aa.1.1.1,aa.1.1.2),aa.1.2),((aa.2.1.1,aa.2.1.2),aa.2.2)))
theorem Zy0 {ac ad ae af:Nat} {ag ah ai aj:Option Addr} {col:Ze} {w0:World} {ab r:(R1×R1)} (c1:Nat) (hm:Zin ab=some r) (ak:Sl (Za.int .u32) col w0 ag ac ab.1.1.2) (al:Sl (Za.int .u32) col w0 ah ad ab.1.2) (am:Sl (Za.int .u32) col w0 ai ae ab.2.1.2) (an:Sl (Za.int .u32) col w0 aj af ab.2.2):
    Calls prog 82 #[(.agg #[.bool ab.1.1.1,.slice ag ab.1.1.2.length ac,.slice ah ab.1.2.length ad,.bool ab.2.1.1,.slice ai ab.2.1.2.length ae,.slice aj ab.2.2.length af])] w0 (fun e w'=>∃ (col':Ze) (rg1:Nat) (ra3:Option Addr) (rc4:Nat) (ra6:Option Addr) (rc7:Nat) (ra9:Option Addr) (rc10:Nat) (ra12:Option Addr) (rc13:Nat),e= .returned ((.func (.func 158) #[] #[.pointer (some ⟨rg1,0,none⟩)]))∧Zf col w0 col' w'∧Zj 68 c1 col' w' rg1 #[.bool r.1.1.1,.slice ra3 r.1.1.2.length rc4,.slice ra6 r.1.2.length rc7,.bool r.2.1.1,.slice ra9 r.2.1.2.length rc10,.slice ra12 r.2.2.length rc13]∧Sl (Za.int .u32) col' w' ra3 rc4 r.1.1.2∧Sl (Za.int .u32) col' w' ra6 rc7 r.1.2∧Sl (Za.int .u32) col' w' ra9 rc10 r.2.1.2∧Sl (Za.int .u32) col' w' ra12 rc13 r.2.2):=by
 refine Xm 2 (m:=4) func82 rfl rfl rfl rfl rfl ?_;rw [Zin.eq_1] at hm;have aa:=St.start col w0;refine go ?_;refine Xv (col:=(Zk col)) 1 rfl ?_;intro ao au ap aq ar;refine lv (v:=_) rfl rfl (V7 rfl)<|go ?_;refine lV (.func (.func 158) #[] #[.pointer (some ⟨ao,0,none⟩)]) (Zps rfl)<|lA (.func (.func 158) #[] #[.pointer (some ⟨ao,0,none⟩)])<|go ?_;cases hm;replace ak:=ak.keep (Zl.start col w0);replace al:=al.keep (Zl.start col w0);replace am:=am.keep (Zl.start col w0);replace an:=an.keep (Zl.start col w0);replace aa:=aa.grow aq;exact ⟨rfl,V1 w0.heap.size col ap (fun n=>bif Nat.beq n 1 then c1 else 0),ao,ag,ac,ah,ad,ai,ae,aj,af,rfl,aa.fin (fun n=>bif Nat.beq n 1 then c1 else 0),aa.finBox (G:=(fun n=>bif Nat.beq n 1 then c1 else 0)) ar (by decide) (by decide) rfl,aa.finSl (g:=(fun n=>bif Nat.beq n 1 then c1 else 0)) rfl (ak.ks aa),aa.finSl (g:=(fun n=>bif Nat.beq n 1 then c1 else 0)) rfl (al.ks aa),aa.finSl (g:=(fun n=>bif Nat.beq n 1 then c1 else 0)) rfl (am.ks aa),aa.finSl (g:=(fun n=>bif Nat.beq n 1 then c1 else 0)) rfl (an.ks aa)⟩
def Zld (aa:Int) (kk_L1:(Bool→R2→R2→Bool→R2→R2→Int→Option Rc)) (ab:Bool) (ac:List Int) (ad:List Int) (ae:Bool) (af:List Int) (ag:List Int):Option Rc:=
  kk_L1 ab ac ad ae af ag (i64.wrap (aa+1))
def Zle (N:Nat) (ac:ByteArray) (ad:Bool) (ae:List Int) (af:List Int) (ag:Bool) (ah:List Int) (ai:List Int) (ab:Int) (kk_L1:(Bool→R2→R2→Bool→R2→R2→Int→Option Rc)):Option Rc:=
  (Ub ac ab).bind fun aj=>(Zf1 N (((ad,ae),af),((ag,ah),ai)) (decide (aj=49))).bind fun aa=>Zld ab kk_L1 aa.1.1.1 aa.1.1.2 aa.1.2 aa.2.1.1 aa.2.1.2 aa.2.2
def Zcc (N:Nat) (aa:ByteArray) (ab:Bool) (ac:List Int) (ad:List Int) (ae:Bool) (af:List Int) (ag:List Int) (ah:Int) (kk_L1:(Bool→R2→R2→Bool→R2→R2→Int→Option Rc)) (ai:Bool):Option Rc:=
  if ai=true then (some (([]:List Int),0,70)) else (Zle N aa ab ac ad ae af ag ah kk_L1)
def Tr (N:Nat) (ab:R0) (aa:ByteArray) (ae:R9):Nat→Bool→R2→R2→Bool→R2→R2→Int→Option Rc
  | 0,_,_,_,_,_,_,_=>none
  | al+1,af,ag,ah,ai,aj,ak,ac=>(Zin (((af,ag),ah),((ai,aj),ak))).bind fun ad=>(Zce N (ab.1,ab.2.1,ab.2.2.1,ab.2.2.2.1,ab.2.2.2.2) ae.1 (((ad.1.1.1,ad.1.1.2),ad.1.2),((ad.2.1.1,ad.2.1.2),ad.2.2))).bind fun am=>if am.2.2=true then (some (am.1,ac,0)) else (if (decide (ac=(aa.size:Int)))=true then (Zcc N aa af ag ah ai aj ak ac (Tr N ab aa ae al) true) else ((Ub aa ac).bind fun an=>if (!decide (an=48))=true then ((Ub aa ac).bind fun ao=>Zcc N aa af ag ah ai aj ak ac (Tr N ab aa ae al) (!decide (ao=49))) else (Zcc N aa af ag ah ai aj ak ac (Tr N ab aa ae al) false)))
termination_by structural x=>x
def Zcb (N:Nat) (aa:R0) (ae:ByteArray):Option Rc:=
  (Vn N (aa.1,aa.2.1,aa.2.2.1,aa.2.2.2.1,aa.2.2.2.2)).bind fun ad=>if (!decide (ad=0))=true then (some (([]:List Int),0,ad)) else ((Te N aa.2.2.2.1).bind fun af=>(Zbe N ([]:List R1)).bind fun ab=>(Zch).bind fun ac=>Tr N aa ae af N ab.1.1 ab.1.2 ab.2 ac.1.1 ac.1.2 ac.2 0)
theorem Zq6 {N be bf bg bh:Nat} {bi bj bk bm:Option Addr} {col:Ze} {w0:World} {ab:R0} {aw:ByteArray} {r:Rc} (c1:Nat) (hm:Zcb N ab aw=some r) (ch:Sl Za.str col w0 bi be ab.2.1) (ci:Sl (Za.slice Za.str) col w0 bj bf ab.2.2.1) (b8:Sl (Za.slice (Za.int .i64)) col w0 bk bg ab.2.2.2.1) (cj:Sl (Za.slice (Za.pair (Za.pair Za.bool (Za.slice (Za.int .u32))) (Za.slice (Za.int .u32)))) col w0 bm bh ab.2.2.2.2):
    Calls prog 17 #[(.agg #[.string ab.1,.slice bi ab.2.1.length be,.slice bj ab.2.2.1.length bf,.slice bk ab.2.2.2.1.length bg,.slice bm ab.2.2.2.2.length bh]),.string aw] w0 (fun e w'=>∃ (col':Ze) (ra1:Option Addr) (rc2:Nat),e= .returned (.tuple #[.slice ra1 r.1.length rc2,.int .i64 r.2.1,.int .i64 r.2.2])∧Zf col w0 col' w'∧Zc (Za.int .i64) 3 c1 col' w' ra1 rc2 r.1):=by
 refine Zn4 4 5 6 (m:=65) (args:=[(.agg #[.string ab.1,.slice bi ab.2.1.length be,.slice bj ab.2.2.1.length bf,.slice bk ab.2.2.2.1.length bg,.slice bm ab.2.2.2.2.length bh]),.string aw]) func17 rfl rfl rfl rfl rfl ?_;rw [Zcb.eq_1] at hm;have aa:=St.start col w0;refine go ?_;refine Xv (col:=(Zk col)) 1 rfl ?_;intro ck dw dl dx ac;refine go ?_;refine lV _ (Xb isAgg27 sizeOf27 ac) ?_;obtain ⟨ez,dy,hm⟩:=bZ hm;replace ch:=ch.keep (Zl.start col w0);replace ci:=ci.keep (Zl.start col w0);replace b8:=b8.keep (Zl.start col w0);replace cj:=cj.keep (Zl.start col w0);replace aa:=aa.grow dx;refine Zh (Zia dy (ch.ks aa) (ci.ks aa) (b8.ks aa) (cj.ks aa)) ?_;rintro _ dz ⟨rfl,cl⟩;refine ⟨_,rfl,?_⟩;replace cl:Zf dl dw dl dz:=.of_below cl;refine go ?_;replace ac:=ac.gr cl;replace aa:=aa.grow cl;refine Zq hm (fun hb hm=>go ?_) fun hb hm=>go ?_
 ·cases hm;exact ⟨rfl,_,none,0,rfl,aa.fin (cm []),Zc.nil⟩
 refine Xz ac ?_;obtain ⟨am,d0,hm⟩:=bZ hm;refine Zh (Znp 2 d0 (b8.ks aa)) ?_;rintro _ e0 ⟨d1,b1,b2,rfl,dm,ad⟩;refine ⟨_,rfl,?_⟩;refine lM (.tuple #[.slice b1 am.1.length b2,.int .i64 am.2])<|lV (.slice b1 am.1.length b2) (Xf rfl rfl)<|lV (.int .i64 am.2) (Xf rfl rfl)<|go ?_;obtain ⟨cu,d2,hm⟩:=bZ hm;refine Zh (Zku (col:=d1) 3 4 d2 Sl.nil) ?_;rintro _ e1 ⟨d3,d4,d5,d6,d7,rfl,cv,an,ao⟩;refine ⟨_,rfl,?_⟩;obtain ⟨cw,d8,hm⟩:=bZ hm;refine lc rfl rfl (Zax call69) (Zkt (col:=d3) 5 6 d8:) ?_;rintro _ e2 ⟨d9,ea,eb,ec,ed,rfl,b9,ap,aq⟩;refine ⟨_,rfl,?_⟩;refine lV (.agg #[.bool cu.1.1,.slice d4 cu.1.2.length d5,.slice d6 cu.2.length d7,.bool cw.1.1,.slice ea cw.1.2.length eb,.slice ec cw.2.length ed]) (Yo (l:=[_,_]) (qs:=[(0,3),(3,3)]) underlying68 zeroValue68 ⟨rfl,sizeOf39,rfl,sizeOf39,trivial⟩ rfl)<|Xj (col:=d9) #[.bool false,.slice none (([]:List Int).length) 0,.slice none (([]:List Int).length) 0,.bool false,.slice none (([]:List Int).length) 0,.slice none (([]:List Int).length) 0] 7 zeroValue68 ?_;intro cn e3 e4 b3 ee;refine Zw ee ?_;intro e5 b4 ef ae;refine go ?_;replace ad:=(((ad.gr cv).gr b9).gr b3).kp b4;replace ad:=ad.froz 3 (by decide);replace an:=((an.gr b9).gr b3).kp b4;replace an:=(an).toSlF (Zg.int .u32);replace ao:=((ao.gr b9).gr b3).kp b4;replace ao:=ao.froz 3 (by decide);replace ap:=(ap.gr b3).kp b4;replace ap:=ap.froz 3 (by decide);replace aq:=(aq.gr b3).kp b4;replace aq:=aq.froz 3 (by decide);replace ac:=((((ac.gr dm).gr cv).gr b9).gr b3).kp b4;replace ac:=ac.froz 3 (by decide);replace ae:=ae.froz 3 (by decide);replace aa:=((((aa.grow dm).grow cv).grow b9).grow b3).kp b4 ef;replace aa:=aa.froz 3 (by decide) (by decide);replace ad:=ad.froz 4 (by decide);replace an:=an.froz 4;replace ao:=(ao).toSlF (Zg.int .u32);replace ap:=ap.froz 4 (by decide);replace aq:=aq.froz 4 (by decide);replace ac:=ac.froz 4 (by decide);replace ae:=ae.froz 4 (by decide);replace aa:=aa.froz 4 (by decide) (by decide);replace ad:=ad.froz 5 (by decide);replace an:=an.froz 5;replace ao:=ao.froz 5;replace ap:=(ap).toSlF (Zg.int .u32);replace aq:=aq.froz 5 (by decide);replace ac:=ac.froz 5 (by decide);replace ae:=ae.froz 5 (by decide)
 replace aa:=aa.froz 5 (by decide) (by decide);replace ad:=ad.froz 6 (by decide);replace an:=an.froz 6;replace ao:=ao.froz 6;replace ap:=ap.froz 6;replace aq:=(aq).toSlF (Zg.int .u32);replace ac:=ac.froz 6 (by decide);replace ae:=ae.froz 6 (by decide);replace aa:=aa.froz 6 (by decide) (by decide);replace ad:=(ad).toSlF (Zg.int .i64);replace an:=an.froz 2;replace ao:=ao.froz 2;replace ap:=ap.froz 2;replace aq:=aq.froz 2;replace ac:=ac.froz 2 (by decide);replace ae:=ae.froz 2 (by decide);replace aa:=aa.froz 2 (by decide) (by decide);refine Z9 [1,10,2,8,1000000] (fun n f ar=>∃ ak bn bo bp ay bq br az bs bt bu a0 bv bw a1 b6 a4,a4=n∧Tr N ab aw am a4 bn ay az bs a0 a1 b6=some r∧St w0 (Zk col) ak ar∧Sl (Za.int .u32) ak ar bo bp ay∧Sl (Za.int .u32) ak ar bq br az∧Sl (Za.int .u32) ak ar bt bu a0∧Sl (Za.int .u32) ak ar bv bw a1∧Zj 68 7 ak ar cn #[.bool bn,.slice bo ay.length bp,.slice bq az.length br,.bool bs,.slice bt a0.length bu,.slice bv a1.length bw]∧Zj 27 1 ak ar ck #[.string ab.1,.slice bi ab.2.1.length be,.slice bj ab.2.2.1.length bf,.slice bk ab.2.2.2.1.length bg,.slice bm ab.2.2.2.2.length bh]∧Sl (Za.int .i64) ak ar b1 b2 am.1∧[11].map f=[.int .i64 b6]) N ⟨_,_,_,_,_,_,_,_,_,_,_,_,_,_,_,0,_,rfl,hm,aa,an,ao,ap,aq,ae,ac,ad,rfl⟩ ?_;clear hm;intro n f ar hI;obtain ⟨ak,bn,bo,bp,ay,bq,br,az,bs,bt,bu,a0,bv,bw,a1,b6,a4,hn,hm,aa,af,ag,ah,ai,ae,ac,ad,hs⟩:=hI;subst hn;refine .lL [11] hs ?_
 cases a4 with
 | zero=>rw [Tr.eq_1] at hm;cases hm
 | succ a4=>
  rw [Tr.eq_2] at hm;refine Zv ?_;refine Wp.cutK [1,10,11,2,8,1000000] (fun f a5=>∃ a6 cx cy cz co c0 c2 cp c3 c4 c5 cq c6 c7 cr,Zld b6 (Tr N ab aw am a4) cx co cp c3 cq cr=some r∧St w0 (Zk col) a6 a5∧Sl (Za.int .u32) a6 a5 cy cz co∧Sl (Za.int .u32) a6 a5 c0 c2 cp∧Sl (Za.int .u32) a6 a5 c4 c5 cq∧Sl (Za.int .u32) a6 a5 c6 c7 cr∧Zj 68 7 a6 a5 cn #[.bool cx,.slice cy co.length cz,.slice c0 cp.length c2,.bool c3,.slice c4 cq.length c5,.slice c6 cr.length c7]∧Zj 27 1 a6 a5 ck #[.string ab.1,.slice bi ab.2.1.length be,.slice bj ab.2.2.1.length bf,.slice bk ab.2.2.2.1.length bg,.slice bm ab.2.2.2.2.length bh]∧Sl (Za.int .i64) a6 a5 b1 b2 am.1) ?_ ?_
  ·intro f a5 hJ;obtain ⟨a6,cx,cy,cz,co,c0,c2,cp,c3,c4,c5,cq,c6,c7,cr,hm,aa,eg,eh,ei,ej,ae,ac,ad⟩:=hJ;rw [Zld.eq_1] at hm;refine go ?_;exact ⟨a4,by omega,rfl,⟨_,_,_,_,_,_,_,_,_,_,_,_,_,_,_,_,_,rfl,hm,aa,eg,eh,ei,ej,ae,ac,ad,rfl⟩⟩
  refine go ?_;have bx:=Zt.clip (fun _=>false) ak ar;refine Zhx (col:=ak) [(0,0),(1,1),(2,0),(3,3),(4,3),(5,1),(6,1),(7,1),(8,1),(9,4),(10,1),(11,2),(12,1)] (by kernel_rfl) (by kernel_rfl) ⟨fun h=>absurd h (by decide),fun h=>absurd h (by decide),fun h=>absurd h (by decide),fun h=>absurd h (by decide),fun h=>absurd h (by decide),fun h=>absurd h (by decide),fun h=>absurd h (by decide),fun h=>absurd h (by decide),fun h=>absurd h (by decide),fun _=>⟨_,_,_,rfl,Tq zeroValue68⟩,fun h=>absurd h (by decide),fun h=>absurd h (by decide),fun h=>absurd h (by decide),trivial⟩ ?_;replace ac:=ac.kpp bx;refine W7 (v:=(.agg #[.string ab.1,.slice bi ab.2.1.length be,.slice bj ab.2.2.1.length bf,.slice bk ab.2.2.2.1.length bg,.slice bm ab.2.2.2.2.length bh])) rfl rfl (fun _ hC=>Xt isAgg27 sizeOf27 rfl rfl (ac.atN.gr (hC.bl (Zi ar ak)))) ?_;refine Yr (v:=(.slice b1 am.1.length b2)) rfl rfl (fun _=>W2 rfl) ?_;replace ae:=ae.kpp bx;refine W7 (v:=(.agg #[.bool bn,.slice bo ay.length bp,.slice bq az.length br,.bool bs,.slice bt a0.length bu,.slice bv a1.length bw])) rfl rfl (fun _ hC=>Xt isAgg68 sizeOf68 rfl rfl (ae.atN.gr (hC.bl (Zi ar ak)))) ?_;refine Vb rfl rfl ?_;intro e6 hC0;have hC:=hC0.bl (Zi ar ak);obtain ⟨e7,ek,hm⟩:=bZ hm;replace af:=(af.kpp bx).gr hC;replace ag:=(ag.kpp bx).gr hC;replace ah:=(ah.kpp bx).gr hC;replace ai:=(ai.kpp bx).gr hC;refine Zh (Zy0 8 ek af ag ah ai) ?_;rintro _ b7 ⟨ca,e8,e9,fa,fb,fc,fd,fe,ff,fg,rfl,a2,c8,c9,da,db,dc⟩;refine ⟨_,rfl,?_⟩;refine Zm ?_;refine ⟨fun w'=>Zf (Zi b7 ca) b7 (Zi b7 ca) w',fun g=>(Zi b7 ca) g=497,Zf.refl _ _,W6,fun _=>⟨fun _ h=>Uc hC0 a2 h,fun b hb=>a2.below.block b hb,fun g x1 x2=>Ug a2 g x1 (by first | exact x2 | (simp only [Xn,x2];rfl) | (simp only [Xn,Xc,x2];rfl))⟩,?_⟩;have au:=Zt.clip (fun _=>false) ca b7;refine Vb rfl rfl ?_;intro fh hC0;replace ad:=(((ad.kpp bx).gr hC).gr a2).kpp au;replace aa:=(((aa.kpp bx).grow hC).grow a2).kpp au;replace ae:=((ae.gr hC).gr a2).kpp au;replace ac:=((ac.gr hC).gr a2).kpp au;have hC:=hC0.bl (Zi b7 ca);obtain ⟨aj,el,hm⟩:=bZ hm;replace c9:=(c9.kpp au).gr hC;replace da:=(da.kpp au).gr hC;replace db:=(db.kpp au).gr hC;replace dc:=(dc.kpp au).gr hC
  replace c8:=(c8.kpp au).gr hC;replace ad:=ad.gr hC;replace aa:=aa.grow hC;refine Zh (Zyw 9 8 el (by decide) (ch.ks aa) (ci.ks aa) (b8.ks aa) (cj.ks aa) ad c9 da db dc c8) ?_;rintro _ al ⟨av,dd,de,dn,dp,dq,dr,ds,dt,du,dv,rfl,a3,cb,fi,fj,fk,fl⟩;refine ⟨_,rfl,?_⟩;refine Zm ?_;refine ⟨fun w'=>Zf (Zi al av) al (Zi al av) w',fun g=>(Zi al av) g=497,Zf.refl _ _,W6,fun _=>⟨fun _ h=>Uc hC0 a3 h,fun b hb=>a3.below.block b hb,fun g x1 x2=>Ug a3 g x1 (by first | exact x2 | (simp only [Xn,x2];rfl) | (simp only [Xn,Xc,x2];rfl))⟩,?_⟩;have a7:=Zt.clip (fun _=>false) av al;refine Yr (v:=(.tuple #[.slice dd aj.1.length de,(.agg #[.bool aj.2.1.1.1.1,.slice dn aj.2.1.1.1.2.length dp,.slice dq aj.2.1.1.2.length dr,.bool aj.2.1.2.1.1,.slice ds aj.2.1.2.1.2.length dt,.slice du aj.2.1.2.2.length dv]),.bool aj.2.2])) rfl rfl (fun _=>W2 rfl) ?_;refine Yr (v:=(.slice dd aj.1.length de)) rfl rfl (fun _=>Xf rfl rfl) ?_;refine Yr (v:=(.agg #[.bool aj.2.1.1.1.1,.slice dn aj.2.1.1.1.2.length dp,.slice dq aj.2.1.1.2.length dr,.bool aj.2.1.2.1.1,.slice ds aj.2.1.2.1.2.length dt,.slice du aj.2.1.2.2.length dv])) rfl rfl (fun _=>Xf rfl rfl) ?_;refine Yr (v:=(.bool aj.2.2)) rfl rfl (fun _=>Xf rfl rfl) ?_;refine Ze7 rfl rfl (Tq zeroValue68) ?_;intro bz em;refine Yr (v:=(.slice dd aj.1.length de)) rfl rfl (fun _=>V7 rfl) ?_;refine Vb rfl rfl ?_;intro en ⟨hC0,hZ0⟩;replace af:=((((af.gr a2).kpp au).gr hC).gr a3).kpp a7;replace ag:=((((ag.gr a2).kpp au).gr hC).gr a3).kpp a7;replace ah:=((((ah.gr a2).kpp au).gr hC).gr a3).kpp a7;replace ai:=((((ai.gr a2).kpp au).gr hC).gr a3).kpp a7;replace ae:=((ae.gr hC).gr a3).kpp a7;replace ac:=((ac.gr hC).gr a3).kpp a7;have hC:=hC0.bl (Zi al av);obtain ⟨a8,df⟩:=Zdq (col:=(Zi al av)) 10 hZ0 em
  replace df:Zj 68 10 (Xd bz 10 (Zi al av)) en bz #[.bool false,.slice none (([]:List Int).length) 0,.slice none (([]:List Int).length) 0,.bool false,.slice none (([]:List Int).length) 0,.slice none (([]:List Int).length) 0]:=df;refine Zw df ?_;intro b0 a9 eo fm;refine Zm ?_;refine ⟨fun w'=>Zf (Zi b0 (Xd bz 10 (Zi al av))) b0 (Zi b0 (Xd bz 10 (Zi al av))) w',fun g=>(Zi b0 (Xd bz 10 (Zi al av))) g=497,Zf.refl _ _,W6,fun h=>absurd h (by decide),?_⟩;have ba:=Zt.clip (fun _=>false) (Xd bz 10 (Zi al av)) b0;refine Yr (v:=(.bool aj.2.2)) rfl rfl (fun _=>V7 rfl) ?_;refine Zhz ?_;replace ad:=(((((ad.gr a3).kpp a7).gr hC).kpp a8).kp a9).kpp ba;replace aa:=(((((aa.grow a3).kpp a7).grow hC).kpp a8).kp a9 eo).kpp ba;replace cb:=((((cb.kpp a7).gr hC).kpp a8).kp a9).kpp ba;replace af:=(((af.gr hC).kpp a8).kp a9).kpp ba;replace ag:=(((ag.gr hC).kpp a8).kp a9).kpp ba;replace ah:=(((ah.gr hC).kpp a8).kp a9).kpp ba;replace ai:=(((ai.gr hC).kpp a8).kp a9).kpp ba;replace ae:=(((ae.gr hC).kpp a8).kp a9).kpp ba;replace ac:=(((ac.gr hC).kpp a8).kp a9).kpp ba;intro ep hC;replace hC:Zf (Zi b0 (Xd bz 10 (Zi al av))) b0 (Zi b0 (Xd bz 10 (Zi al av))) ep:=.of_below hC.below;refine go ?_;replace af:=af.gr hC;replace ag:=ag.gr hC;replace ah:=ah.gr hC;replace ai:=ai.gr hC;replace ad:=ad.gr hC;replace cb:=cb.gr hC;replace ae:=ae.gr hC;replace ac:=ac.gr hC;replace aa:=aa.grow hC;refine Zq hm (fun hb hm=>go ?_) fun hb hm=>?_
  ·cases hm;exact ⟨rfl,_,_,_,rfl,aa.fin (cm [(9,c1)]),aa.fo cb⟩
  refine X3<|Zv ?_;refine Wp.cutK [1,10,11,2,8,1000000] (fun f bb=>∃ ax,Zle N aw bn ay az bs a0 a1 b6 (Tr N ab aw am a4)=some r∧St w0 (Zk col) ax bb∧Sl (Za.int .u32) ax bb bo bp ay∧Sl (Za.int .u32) ax bb bq br az∧Sl (Za.int .u32) ax bb bt bu a0∧Sl (Za.int .u32) ax bb bv bw a1∧Zj 68 7 ax bb cn #[.bool bn,.slice bo ay.length bp,.slice bq az.length br,.bool bs,.slice bt a0.length bu,.slice bv a1.length bw]∧Zj 27 1 ax bb ck #[.string ab.1,.slice bi ab.2.1.length be,.slice bj ab.2.2.1.length bf,.slice bk ab.2.2.2.1.length bg,.slice bm ab.2.2.2.2.length bh]∧Sl (Za.int .i64) ax bb b1 b2 am.1) ?_ ?_
  ·intro f bb hJ;obtain ⟨ax,hm,aa,af,ag,ah,ai,ae,ac,ad⟩:=hJ;rw [Zle.eq_1] at hm;refine Wi (col:=ax) [(0,0),(1,1),(2,1),(3,0),(4,1),(5,3),(6,2)] (by kernel_rfl) (by kernel_rfl)<|xv rfl rfl (fun _ hC=>Xb isAgg68 sizeOf68 (ae.gr (hC.bl ax))) ?_;refine xu rfl rfl (fun _=>Zpy rfl) ?_;refine xu rfl rfl (fun _=>W1 rfl) ?_;obtain ⟨eq,er,hm⟩:=bZ hm;refine xv (v:=(.int .u8 eq)) rfl rfl (fun _ hC=>Zmx (s:=aw) underlying9 rfl rfl er) ?_;refine xu rfl rfl (fun _=>Zpr _ _ rfl rfl) ?_;refine xe rfl rfl ?_;intro fn hC0;have hC:=hC0.bl ax;obtain ⟨fp,es,hm⟩:=bZ hm;replace af:=af.gr hC;replace ag:=ag.gr hC;replace ah:=ah.gr hC;replace ai:=ai.gr hC;refine Zh (Zyy es af ag ah ai) ?_;rintro _ fq ⟨cs,fr,ft,fu,fv,fw,fx,fy,fz,rfl,cc,cd,ce,cf,cg⟩;refine ⟨_,rfl,?_⟩;refine Zm<|X4 cs hC0 cc<|xe rfl rfl ?_;intro f0 hC0;replace ad:=(ad.gr hC).gr cc;replace ae:=(ae.gr hC).gr cc;replace ac:=(ac.gr hC).gr cc;replace aa:=(aa.grow hC).grow cc;have hC:=hC0.bl cs;replace ae:=ae.gr hC;refine Zw ae ?_;intro f1 b5 et dg;refine Zm<|xk cs<|Wf ?_;replace ad:=(ad.gr hC).kp b5;replace cd:=(cd.gr hC).kp b5;replace ce:=(ce.gr hC).kp b5;replace cf:=(cf.gr hC).kp b5;replace cg:=(cg.gr hC).kp b5;replace ac:=(ac.gr hC).kp b5;replace aa:=(aa.grow hC).kp b5 et;intro f2 hC;replace hC:=hC.bl cs;replace cd:=cd.gr hC;replace ce:=ce.gr hC;replace cf:=cf.gr hC;replace cg:=cg.gr hC;replace ad:=ad.gr hC;replace dg:=dg.gr hC;replace ac:=ac.gr hC;replace aa:=aa.grow hC;exact ⟨rfl,_,_,_,_,_,_,_,_,_,_,_,_,_,_,_,hm,aa,cd,ce,cf,cg,dg,ac,ad⟩
  refine Zv ?_;refine Wp.cutK [1,10,11,2,8,1000000] (fun f bc=>∃ bd dh,Zcc N aw bn ay az bs a0 a1 b6 (Tr N ab aw am a4) dh=some r∧St w0 (Zk col) bd bc∧Sl (Za.int .u32) bd bc bo bp ay∧Sl (Za.int .u32) bd bc bq br az∧Sl (Za.int .u32) bd bc bt bu a0∧Sl (Za.int .u32) bd bc bv bw a1∧Zj 68 7 bd bc cn #[.bool bn,.slice bo ay.length bp,.slice bq az.length br,.bool bs,.slice bt a0.length bu,.slice bv a1.length bw]∧Zj 27 1 bd bc ck #[.string ab.1,.slice bi ab.2.1.length be,.slice bj ab.2.2.1.length bf,.slice bk ab.2.2.2.1.length bg,.slice bm ab.2.2.2.2.length bh]∧Sl (Za.int .i64) bd bc b1 b2 am.1∧[58].map f=[.bool dh]) ?_ ?_
  ·intro f bc hJ;obtain ⟨bd,dh,hm,aa,af,ag,ah,ai,ae,ac,ad,hs⟩:=hJ;rw [Zcc.eq_1] at hm;refine .lL [58] hs ?_;refine Zq hm (fun hb hm=>go ?_) fun hb hm=>?_
   ·cases hm;exact ⟨rfl,_,none,0,rfl,aa.fin (cm []),Zc.nil⟩
   refine X3 ?_;exact ⟨rfl,_,hm,aa,af,ag,ah,ai,ae,ac,ad⟩
  refine go ?_;refine X8 hm (fun ct hm=>go ?_) fun ct hm=>go ?_
  ·refine Zfu 52 rfl rfl rfl rfl<|Zfu 52 rfl rfl rfl rfl<|Zfu 52 rfl rfl rfl rfl<|Zfu 52 rfl rfl rfl rfl<|go ?_;refine lV (.bool true) (Xr (congrArg Value.bool ct) rfl)<|Zm ?_;exact ⟨rfl,_,_,hm,aa,af,ag,ah,ai,ae,ac,ad,rfl⟩
  obtain ⟨eu,ew,hm⟩:=bZ hm;refine lV (.int .u8 eu) (Zmx (s:=aw) underlying9 rfl rfl ew)<|go ?_;refine X8 hm (fun di hm=>go ?_) fun di hm=>go ?_
  ·obtain ⟨dj,ey,hm⟩:=bZ hm;refine lV (.int .u8 dj) (Zmx (s:=aw) underlying9 rfl rfl ey)<|go ?_;refine lV (.bool (!decide (dj=49))) (Xr (congrArg Value.bool di) rfl)<|lV (.bool (!decide (dj=49))) (Xh (congrArg Value.bool ct) rfl)<|Zm ?_;exact ⟨rfl,_,_,hm,aa,af,ag,ah,ai,ae,ac,ad,rfl⟩
  refine lV (.bool false) (Xh (congrArg Value.bool di) rfl)<|lV (.bool false) (Xh (congrArg Value.bool ct) rfl)<|Zm ?_;exact ⟨rfl,_,_,hm,aa,af,ag,ah,ai,ae,ac,ad,rfl⟩
/-! numbers of bits -/
theorem Zs8 (s:ByteArray) (i:Nat):qs (Z4 s i).1≤i / 32+1∧qs (Z4 s i).2≤i / 32+1:=by
 have h:=Zs6 s i
 have h1:=Zmn i
 exact ⟨Zdh (Nat.le_trans (Wm (by rw [Int.natAbs_natCast];omega)) h1) h1 (by omega),Zdh (Nat.le_trans (Wm (by rw [show ((Y6 s i:Int)+1).natAbs=Y6 s i+1 by omega];exact h)) h1) h1 (by omega)⟩
theorem Z1j (s:ByteArray) (i:Nat):(Z4 s i).1≤(Z4 s (i+1)).1∧(Z4 s (i+1)).2≤(Z4 s i).2:=by
 have h:=Sk i
 have hb:Qh s i=0∨Qh s i=1:=by rw [Qh];split <;> simp
 rw [Z4,Z4,Y6,Nat.pow_succ]
 generalize (2 ^ i:Nat)=Z at *
 generalize Y6 s i=d at *
 simp only
 rw [← Rat.not_lt,← Rat.not_lt,Ve (by omega) h,Ve h (by omega)]
 have e0:((Z * 2:Nat):Int)=(Z:Int) * 2:=by simp
 rw [e0]
 have e1:(d:Int) * ((Z:Int) * 2)=(d:Int) * Z+(d:Int) * Z:=by rw [← Int.mul_assoc];omega
 have e2:((d:Int)+1) * ((Z:Int) * 2)=(d:Int) * Z+(d:Int) * Z+(Z:Int) * 2:=by rw [Int.add_mul,Int.one_mul,e1]
 rcases hb with hb | hb
 ·rw [hb,e1,e2]
  have e3:((d+d+0:Nat):Int) * (Z:Int)=(d:Int) * Z+(d:Int) * Z:=by rw [Nat.add_zero,Int.natCast_add,Int.add_mul]
  have e4:(((d+d+0:Nat):Int)+1) * (Z:Int)=(d:Int) * Z+(d:Int) * Z+Z:=by rw [Int.add_mul,e3,Int.one_mul]
  rw [e3,e4]
  exact ⟨by omega,by omega⟩
 ·rw [hb,e1,e2]
  have e3:((d+d+1:Nat):Int) * (Z:Int)=(d:Int) * Z+(d:Int) * Z+Z:=by rw [Int.natCast_add,Int.natCast_add,Int.add_mul,Int.add_mul];simp
  have e4:(((d+d+1:Nat):Int)+1) * (Z:Int)=(d:Int) * Z+(d:Int) * Z+Z+Z:=by rw [Int.add_mul,e3,Int.one_mul]
  rw [e3,e4]
  exact ⟨by omega,by omega⟩
theorem Zk3 (s:ByteArray) (j:Nat):∀ m,(Z4 s j).1≤(Z4 s (j+m)).1∧(Z4 s (j+m)).2≤(Z4 s j).2
 | 0=>⟨Rat.le_refl,Rat.le_refl⟩
 | m+1=>by
  obtain ⟨h1,h2⟩:=Zk3 s j m
  obtain ⟨g1,g2⟩:=Z1j s (j+m)
  exact ⟨Rat.le_trans h1 g1,Rat.le_trans g2 h2⟩
theorem Z1i (s:ByteArray) (i:Nat):(Z4 s i).2≤1:=by
 have h:=(Zk3 s 0 i).2
 rw [Nat.zero_add,Zs9] at h
 exact h
theorem Zs4 {s:ByteArray} {b k:Nat} (hb:b<2 ^ k) (hs:∀ j,j<k→Ub s (j:Int)=some (48+((b / 2 ^ (k - 1 - j) % 2:Nat):Int))):∀ j,j≤k→Y6 s j=b / 2 ^ (k - j)
 | 0,_=>by rw [Y6,Nat.sub_zero,Nat.div_eq_of_lt hb]
 | j+1,hj=>by
  have ih:=Zs4 hb hs j (by omega)
  have e:k - j=(k - 1 - j)+1:=by omega
  have e2:k - (j+1)=k - 1 - j:=by omega
  rw [Y6,ih,e2,e,Nat.pow_succ,← Nat.div_div_eq_div_mul,Qh,hs j (by omega)]
  generalize b / 2 ^ (k - 1 - j)=x
  have h:(if some (48+((x % 2:Nat):Int))=some 49 then 1 else 0)=x % 2:=by
   rcases Nat.mod_two_eq_zero_or_one x with h | h
   ·rw [h];rfl
   ·rw [h];rfl
  rw [h];omega
/-! texts of bits -/
theorem Zno:∀ (xs:List Int) (a:ByteArray),(xs.foldl (fun r n=>r.push (UInt8.ofNat n.toNat)) a).data=a.data++(xs.map fun n=>UInt8.ofNat n.toNat).toArray
 | [],a=>by simp
 | x :: xs,a=>by
  rw [List.foldl_cons,Zno xs,ByteArray.data_push,List.map_cons]
  simp
theorem Zh9 (xs:List Int):(Yl xs).size=xs.length:=by
 rw [← ByteArray.size_data,Yl,Zno];simp
theorem Zdo (v:Nat):∀ k,(Yi v k).length=k
 | 0=>rfl
 | k+1=>by rw [Yi,nC,Zdo v k]
theorem Zq0 (v:Nat):∀ (k j:Nat) (h:j<(Yi v k).length),(Yi v k)[j]=48+((v / 2 ^ (k - 1 - j) % 2:Nat):Int)
 | 0,j,h=>by rw [Yi] at h;simp at h
 | k+1,0,h=>by simp [Yi]
 | k+1,j+1,h=>by
  have h':j<(Yi v k).length:=by rw [Yi,nC] at h;omega
  have:=Zq0 v k j h'
  simp only [Yi,List.getElem_cons_succ]
  rw [this,show k+1 - 1 - (j+1)=k - 1 - j by omega]
theorem Zq1 (v k:Nat) (rest:ByteArray) {j:Nat} (hj:j<k):Ub (Yl (Yi v k)++rest) (j:Int)=some (48+((v / 2 ^ (k - 1 - j) % 2:Nat):Int)):=by
 have hs:(Yl (Yi v k)).size=k:=by rw [Zh9,Zdo]
 have h0:j<(Yl (Yi v k)++rest).size:=by rw [ByteArray.size_append];omega
 have h1:j<(Yl (Yi v k)).size:=by omega
 have e:(Yl (Yi v k))[j]=UInt8.ofNat (48+v / 2 ^ (k - 1 - j) % 2):=by
  have hl:j<(Yi v k).length:=by rw [Zdo];exact hj
  have hd:(Yl (Yi v k)).data=((Yi v k).map fun n=>UInt8.ofNat n.toNat).toArray:=by
   rw [Yl,Zno];simp
  rw [ByteArray.getElem_eq_getElem_data]
  simp only [hd,List.getElem_toArray,List.getElem_map]
  rw [Zq0 v k j hl]
  congr 1
 rw [Ub,if_pos (by omega),Int.toNat_natCast,getElem?_pos _ j h0,ByteArray.getElem_append_left h1,e]
 rcases Nat.mod_two_eq_zero_or_one (v / 2 ^ (k - 1 - j)) with h | h
 ·rw [h];rfl
 ·rw [h];rfl
/-! which bits fit -/
theorem Z2a (q:Rat):(Vk q:Rat)≤q:=by
 have hd:(0:Int)<q.den:=by have:=q.den_nz;omega
 have e:(Vk q:Rat)=mkRat (Vk q) 1:=by rw [Rat.mkRat_one]
 rw [e]
 conv=>rhs;rw [← Rat.mkRat_self q]
 rw [← Rat.not_lt,Ve q.den_nz (by decide)]
 have:=Int.ediv_mul_le q.num (b:=(q.den:Int)) (by omega)
 rw [Vk]
 have e1:((1:Nat):Int)=1:=rfl
 rw [e1,Int.mul_one]
 omega
theorem Z22 {z:Int} {q:Rat} (h:(z:Rat)≤q):z≤Vk q:=by
 have hd:(0:Int)<q.den:=by have:=q.den_nz;omega
 have e:(z:Rat)=mkRat z 1:=by rw [Rat.mkRat_one]
 rw [e,← Rat.mkRat_self q,← Rat.not_lt,Ve q.den_nz (by decide)] at h
 rw [Vk,Int.le_ediv_iff_mul_le hd]
 have e1:((1:Nat):Int)=1:=rfl
 rw [e1,Int.mul_one] at h
 omega
theorem Zvs {f:Rat} {c:Int} {Z:Nat} (hZ:Z≠0):f≤mkRat c Z↔f * mkRat (Z:Int) 1≤(c:Rat):=by
 have ht:=Rat.mkRat_self f
 have hd:=f.den_nz
 generalize f.num=m at ht
 generalize f.den=d at ht hd
 subst ht
 rw [show (c:Rat)=mkRat c 1 by rw [Rat.mkRat_one],Rat.mkRat_mul_mkRat,← Rat.not_lt,← Rat.not_lt,Ve hZ hd,Ve (by decide) (by omega)]
 simp
theorem Zqv (f:Rat) (k:Nat):f≤mkRat (bN f k) (2 ^ k):=by
 rw [Zvs (Sk k),bN]
 have:=Z2a (-(f * Y1 k))
 rw [Rat.intCast_neg]
 generalize (Vk (-(f * Y1 k)):Rat)=F at *
 show f * Y1 k≤ -F
 grind
theorem Zyo {f:Rat} {k:Nat} {c:Int} (h:f≤mkRat c (2 ^ k)):bN f k≤c:=by
 rw [Zvs (Sk k)] at h
 have h1:((-c:Int):Rat)≤ -(f * Y1 k):=by
  rw [Rat.intCast_neg]
  have h2:f * Y1 k≤(c:Rat):=h
  grind
 have:=Z22 h1
 rw [bN];omega
theorem Z3j {a b:Int} {Z:Nat} (hZ:Z≠0) (h:a≤b):mkRat a Z≤mkRat b Z:=by
 rw [← Rat.not_lt,Ve hZ hZ]
 have:=Int.mul_le_mul_of_nonneg_right h (show (0:Int)≤Z by omega)
 omega
theorem Z16 {f t:Rat} {k:Nat} {c:Int} (h1:f≤mkRat c (2 ^ k)) (h2:mkRat (c+1) (2 ^ k)≤t):mkRat (bN f k+1) (2 ^ k)≤t:=
 Rat.le_trans (Z3j (Sk k) (by have:=Zyo h1;omega)) h2
theorem Z15 {f t:Rat} {k:Nat} (hlt:f<t) (h:mkRat (bN f k+1) (2 ^ k)≤t):Z0 (t - f).den≤Z0 (t - f).num.natAbs+k:=by
 have h1:=Zqv f k
 have hZ:=Sk k
 have e:mkRat (bN f k+1) (2 ^ k)=mkRat (bN f k) (2 ^ k)+mkRat 1 (2 ^ k):=(Zjy _ _ hZ).symm
 rw [e] at h
 have h2:mkRat 1 (2 ^ k)≤t - f:=by
  generalize mkRat (bN f k) (2 ^ k)=x at *
  generalize mkRat 1 (2 ^ k)=y at *
  grind
 have h0:0<t - f:=by grind
 generalize t - f=q at *
 have hn:mkRat 0 1<mkRat q.num q.den:=by rw [Rat.mkRat_self];exact h0
 rw [Ve (by decide) q.den_nz] at hn
 rw [← Rat.mkRat_self q,← Rat.not_lt,Ve q.den_nz hZ,Int.one_mul] at h2
 have hnp:0<q.num:=by simp at hn;omega
 have h3:q.den≤q.num.natAbs * 2 ^ k:=by
  generalize (2 ^ k:Nat)=Z at *
  have:(q.num.natAbs:Int)=q.num:=by omega
  have e2:((q.num.natAbs * Z:Nat):Int)=q.num * (Z:Int):=by rw [Int.natCast_mul,this]
  omega
 rw [Vi,Nat.pow_add]
 have h4:=Vi.1 (Nat.le_refl (Z0 q.num.natAbs))
 have h5:q.num.natAbs * 2 ^ k<2 ^ Z0 q.num.natAbs * 2 ^ k:=Nat.mul_lt_mul_of_pos_right h4 (Nat.pow_pos (by decide))
 omega
section
variable {N K:Nat} {f t:Rat} (hf:qs f≤K) (ht:qs t≤K) (hr:Xi N (13 * K+64)) (hN:2199023255552<N) {e:Nat} (he:e / 32+1≤2 * K+3) (hT:mkRat (bN f e+1) (2 ^ e)≤t)
include hf ht hr hN he hT
theorem Z1x:∀ (m k h:Nat),k+m=e→m<h→∃ q,k≤q∧q≤e∧mkRat (bN f q+1) (2 ^ q)≤t∧(∀ j,k≤j→j<q→¬ mkRat (bN f j+1) (2 ^ j)≤t)∧Zbb N ((Zn f,Zn t),0) h (k:Int)=some (Yl (Yi (bN f q).natAbs q),0):=by
 intro m
 induction m with
 | zero=>
  intro k h hk h2
  obtain ⟨h,rfl⟩:∃ h',h=h'+1:=⟨h - 1,by omega⟩
  have:k=e:=by omega
  subst this
  exact ⟨k,Nat.le_refl _,Nat.le_refl _,hT,fun j a b=>by omega,by rw [Zta hf ht hr he hN,if_pos hT]⟩
 | succ m ih=>
  intro k h hk h2
  obtain ⟨h,rfl⟩:∃ h',h=h'+1:=⟨h - 1,by omega⟩
  have hke:k / 32+1≤2 * K+3:=by
   have:k / 32≤e / 32:=Nat.div_le_div_right (by omega)
   omega
  rw [Zta hf ht hr hke hN]
  by_cases hh:mkRat (bN f k+1) (2 ^ k)≤t
  ·exact ⟨k,Nat.le_refl _,by omega,hh,fun j a b=>by omega,by rw [if_pos hh]⟩
  ·obtain ⟨q,q1,q2,q3,q4,q5⟩:=ih (k+1) h (by omega) (by omega)
   refine ⟨q,by omega,q2,q3,fun j a b=>?_,by rw [if_neg hh];exact q5⟩
   by_cases ej:j=k
   ·subst ej;exact hh
   ·exact q4 j (by omega) b
end
/-! the interval of an assignment,by the program -/
section
variable {N W K:Nat} {n:Z2} (hf:Yq N n) (hs:Wk n W)
include hf hs
theorem Zul {w:List Int} (hw:X2 n w) {ord:List Int} (ho:V0 n.2.2.2.1 ord):∀ (l:List Int) (s:Rat×Rat) (D M:Nat),(∀ y ∈ l,y ∈ ord)→U9 D M s→∃ D' M',U9 D' M' (Xe n w l s)∧(Zd M').length+(Zd D').length≤(Zd M).length+(Zd D).length+l.length * (W+2)
 | [],s,D,M,_,h=>⟨D,M,h,by simp⟩
 | v :: l,s,D,M,he,h=>by
  have hvr:=ho.rg v (he v List.mem_cons_self)
  rw [hf.ev.p] at hvr
  have hv:v.toNat<n.2.1.length:=by omega
  have hwv:=hw.ok v.toNat (by rw [hw.len];exact hv)
  obtain ⟨D',M',c1,c2,c3⟩:=Zot hf hs hw hv h
  have hm:(Xs (s.2 - s.1) (Z1 n w v.toNat) s.1).getD (w.getD v.toNat 0).toNat (0,0) ∈ Xs (s.2 - s.1) (Z1 n w v.toNat) s.1:=Zdf (by rw [Tu,hf.rowT_len hw hv];omega)
  obtain ⟨D2,M2,g1,g2⟩:=Zul hw ho l _ D' M' (fun y hy=>he y (List.mem_cons_of_mem _ hy)) (c2 _ hm)
  refine ⟨D2,M2,by rw [Xe];exact g1,?_⟩
  rw [nC,Nat.add_mul,Nat.one_mul];omega
theorem Zxw {w:List Int} (hw:X2 n w) {ord:List Int} (ho:V0 n.2.2.2.1 ord):qs (Xe n w ord (0,1)).1≤ord.length * (W+2)+2∧qs (Xe n w ord (0,1)).2≤ord.length * (W+2)+2:=by
 obtain ⟨D,M,h1,h2⟩:=Zul hf hs hw ho ord (0,1) 1 1 (fun _ h=>h) U9.zero
 have hl:(Zd 1).length=1:=by rw [Uj];rfl
 have a:=h1.qa
 have b:=h1.qb
 exact ⟨by omega,by omega⟩
variable (hr:Xi N (8 * K+40)) (hWK:1025 * (W+2)+4≤K) (hN:2000000<N) (hC:Vn N n=some 0) {ord:List Int} (o1:Te N n.2.2.2.1=some (ord,0)) (ho:V0 n.2.2.2.1 ord) (hol:ord.length≤1024)
include hr hWK hN hC o1 ho hol
theorem Z5r (w:List Int):((decide (w.length=n.2.1.length)&&Vm n w 0)=false→Zcd N n w=some (errS 3))∧(X2 n w→(decide (w.length=n.2.1.length)&&Vm n w 0)=true→Zcd N n w=some (Y0 (Xe n w ord (0,1)),0)):=by
 have hC':Vn N (n.1,n.2.1,n.2.2.1,n.2.2.2.1,n.2.2.2.2)=some 0:=hC
 have hle:=hf.le
 rw [Zcd,hC',oB,if_neg (by decide)]
 by_cases hlen:w.length=n.2.1.length
 ·rw [if_neg (show ¬ (!decide ((w.length:Int)=(n.2.1.length:Int)))=true by rw [decide_eq_true (by omega)];decide),Zxu hf.ev (by omega) w hlen w 0 false [] [] false [] [] rfl (Nat.zero_le _),decide_eq_true hlen,Bool.true_and]
  cases hin:Vm n w 0 with
  | false=>
   rw [if_neg (show ¬ false=true by decide)]
   exact ⟨fun _=>rfl,fun _ h=>Bool.noConfusion h⟩
  | true=>
   refine ⟨fun h=>Bool.noConfusion h,fun hw _=>?_⟩
   obtain ⟨w',hc⟩:=Z05 hf hs hr hWK (by omega) hw ho hol
   obtain ⟨qa,qb⟩:=Zxw hf hs hw ho
   have hmul:ord.length * (W+2)≤1024 * (W+2):=Nat.mul_le_mul_right _ hol
   have hc':Zfx N (n.1,n.2.1,n.2.2.1,n.2.2.2.1,n.2.2.2.2) ord w=some (w',Y0 (Xe n w ord (0,1)),true):=hc
   rw [if_pos rfl,Ql.eq_1,o1,oB,hc',oB]
   have f1:=Ztr hr (q:=(Xe n w ord (0,1)).1) (by omega)
   have f2:=Ztr hr (q:=(Xe n w ord (0,1)).2) (by omega)
   exact (by
    show (Zcg N (((Zn (Xe n w ord (0,1)).1).1.1,(Zn (Xe n w ord (0,1)).1).1.2),(Zn (Xe n w ord (0,1)).1).2)).bind _=_
    rw [f1,oB]
    show (Zcg N (((Zn (Xe n w ord (0,1)).2).1.1,(Zn (Xe n w ord (0,1)).2).1.2),(Zn (Xe n w ord (0,1)).2).2)).bind _=_
    rw [f2];rfl)
 ·rw [if_pos (show (!decide ((w.length:Int)=(n.2.1.length:Int)))=true by rw [decide_eq_false (by omega)];rfl),decide_eq_false hlen,Bool.false_and]
  exact ⟨fun _=>rfl,fun _ h=>Bool.noConfusion h⟩
end

end Go.Proofs.YtkhnlgdenkikoaaGreat
