/-
  What functions of the program compute, as plain Lean functions (m_..), and proofs that they compute it (c_..). Printed by a program of the author; no conditions.
-/
import Derived.Test.YtlchacnggnhhbaaGreatCodeSideBFloat
import Derived.Test.YtlchacnggnhhbaaGreatProg
import Derived.Test.YtlchacnggnhhbaaGreatCodeSideBBrief
import Derived.Test.YtlchacnggnhhbaaGreatCodeSideBMixD
import Derived.Test.YtlchacnggnhhbaaGreatCodeSideBThree
import Derived.Test.YtlchacnggnhhbaaGreatCodeSideF3
set_option linter.unusedVariables false
set_option maxRecDepth 100000
set_option maxHeartbeats 2000000
namespace Go.Proofs.YtlchacnggnhhbaaGreat
open Go Go.RowKit
open Go.IntKind (i8 i16 i32 i64 u8 u16 u32 u64)
open Go.Proofs.Tryz

def Zfi (aa:Nat) (ab:Bool) (ac:List Int) (ad:List Int) (ae:Bool) (af:List Int) (ag:List Int) (kk_L1:(Nat→Bool→R2→R2→Bool→R2→R2→Option Re)) (ah:Bool):Option Re:=
  if ah=true then (some ((((false,([]:List Int)),([]:List Int)),((false,([]:List Int)),([]:List Int))),3)) else (kk_L1 (aa+1) ab ac ad ae af ag)
def Qa (N:Nat) (aa:R1) (ad:List Int):List Int→Nat→Bool→R2→R2→Bool→R2→R2→Option Re
  | [],ac,ae,af,ag,ah,ai,aj=>(Ua N aa.2.2.2.1).bind fun ao=>(Zfj N (aa.1,aa.2.1,aa.2.2.1,aa.2.2.2.1,aa.2.2.2.2) ao.1 ad).bind fun ab=>(Zb6 N ((ab.2.1.1.1.1,ab.2.1.1.1.2),ab.2.1.1.2)).bind fun ak=>(Zb6 N ((ab.2.1.2.1.1,ab.2.1.2.1.2),ab.2.1.2.2)).bind fun al=>some ((((ak.1.1,ak.1.2),ak.2),((al.1.1,al.1.2),al.2)),0)
  | am :: an,ac,ae,af,ag,ah,ai,aj=>if (decide (am<0))=true then (Zfi ac ae af ag ah ai aj (Qa N aa ad an) true) else ((Zn aa.2.2.1 (ac:Int)).bind fun ap=>Zfi ac ae af ag ah ai aj (Qa N aa ad an) (decide ((ap.length:Int)≤am)))
termination_by structural x=>x
def Zaw (N:Nat) (aa:R1) (ab:List Int):Option Re:=
  (W5 N (aa.1,aa.2.1,aa.2.2.1,aa.2.2.2.1,aa.2.2.2.2)).bind fun ac=>if (!decide (ac=0))=true then (some ((((false,([]:List Int)),([]:List Int)),((false,([]:List Int)),([]:List Int))),ac)) else (if (!decide ((ab.length:Int)=(aa.2.1.length:Int)))=true then (some ((((false,([]:List Int)),([]:List Int)),((false,([]:List Int)),([]:List Int))),3)) else (Qa N aa ab ab 0 false ([]:List Int) ([]:List Int) false ([]:List Int) ([]:List Int)))
theorem Zm3 {N bj bk bm bn au:Nat} {bo bp bq br a1:Option Addr} {col:Zd} {w0:World} {ab:R1} {ag:R2} {r:Re} (c1 c2 c3 c4:Nat) (hm:Zaw N ab ag=some r) (bs:Sl Za.str col w0 bo bj ab.2.1) (av:Sl (Za.slice Za.str) col w0 bp bk ab.2.2.1) (az:Sl (Za.slice (Za.int .i64)) col w0 bq bm ab.2.2.2.1) (bt:Sl (Za.slice (Za.pair (Za.pair Za.bool (Za.slice (Za.int .u32))) (Za.slice (Za.int .u32)))) col w0 br bn ab.2.2.2.2) (h1:Sl (Za.int .i64) col w0 a1 au ag):
    Calls Tryz.prog 19 #[(.agg #[.string ab.1,.slice bo ab.2.1.length bj,.slice bp ab.2.2.1.length bk,.slice bq ab.2.2.2.1.length bm,.slice br ab.2.2.2.2.length bn]),.slice a1 ag.length au] w0 (fun e w'=>∃ (col':Zd) (ra1:Option Addr) (rc2:Nat) (ra4:Option Addr) (rc5:Nat) (ra7:Option Addr) (rc8:Nat) (ra10:Option Addr) (rc11:Nat),e= .returned (.tuple #[(.agg #[.bool r.1.1.1.1,.slice ra1 r.1.1.1.2.length rc2,.slice ra4 r.1.1.2.length rc5,.bool r.1.2.1.1,.slice ra7 r.1.2.1.2.length rc8,.slice ra10 r.1.2.2.length rc11]),.int .i64 r.2])∧Zg col w0 col' w'∧Zb (Za.int .u32) 77 c1 col' w' ra1 rc2 r.1.1.1.2∧Zb (Za.int .u32) 77 c2 col' w' ra4 rc5 r.1.1.2∧Zb (Za.int .u32) 77 c3 col' w' ra7 rc8 r.1.2.1.2∧Zb (Za.int .u32) 77 c4 col' w' ra10 rc11 r.1.2.2):=by
 refine Yw (m:=69) func19 rfl rfl rfl ?_;rw [Zaw.eq_1] at hm;have aa:=St.start col w0;refine go ?_;refine Xp (col:=(Zk col)) 1 rfl ?_;intro co d8 c5 c6 ae;refine Zde (col:=c5) (v:=(.slice a1 ag.length au)) 2 rfl rfl ?_;intro bu c7 cp cq af;replace af:Zj 39 2 cp c7 bu #[.slice a1 ag.length au]:=af;refine Xa (col:=cp) #[.bool false,.slice none (([]:List Int).length) 0,.slice none (([]:List Int).length) 0,.bool false,.slice none (([]:List Int).length) 0,.slice none (([]:List Int).length) 0] 3 zeroValue55 ?_;intro cr c8 cs b4 ac;refine go ?_;replace ae:=(ae.gr cq).gr b4;refine lV _ (Z3 isAgg27 sizeOf27 ae) ?_;obtain ⟨d9,c9,hm⟩:=bZ hm;replace bs:=bs.keep (Zl.start col w0);replace av:=av.keep (Zl.start col w0);replace az:=az.keep (Zl.start col w0);replace bt:=bt.keep (Zl.start col w0);replace aa:=((aa.grow c6).grow cq).grow b4;refine Zi (Ze3 c9 (bs.ks aa) (av.ks aa) (az.ks aa) (bt.ks aa)) ?_;rintro _ da ⟨rfl,aw⟩;refine ⟨_,rfl,?_⟩;replace aw:Zg cs c8 cs da:=.of_below aw;refine go ?_;replace h1:=h1.keep (Zl.start col w0);replace af:=(af.gr b4).gr aw;replace ae:=ae.gr aw;replace ac:=ac.gr aw;replace aa:=aa.grow aw;refine Zp hm (fun hb hm=>go ?_) fun hb hm=>go ?_
 ·refine lV (.agg #[.bool false,.slice none (([]:List Int).length) 0,.slice none (([]:List Int).length) 0,.bool false,.slice none (([]:List Int).length) 0,.slice none (([]:List Int).length) 0]) (Yi (l:=[_,_]) (qs:=[(0,3),(3,3)]) underlying55 zeroValue55 ⟨rfl,sizeOf35,rfl,sizeOf35,trivial⟩ rfl)<|Ya rfl<|Zu ac ?_;intro ea db dc dd;refine go ?_;cases hm;replace aa:=aa.kp db dc;exact ⟨rfl,_,Ts dd.atN,_,none,0,none,0,none,0,none,0,rfl,aa.fin (cm []),Zb.nil,Zb.nil,Zb.nil,Zb.nil⟩
 refine lW af.at1<|go ?_;refine Xw ae ?_;refine go ?_;refine Zp hm (fun hb hm=>go ?_) fun hb hm=>go ?_
 ·refine lV (.agg #[.bool false,.slice none (([]:List Int).length) 0,.slice none (([]:List Int).length) 0,.bool false,.slice none (([]:List Int).length) 0,.slice none (([]:List Int).length) 0]) (Yi (l:=[_,_]) (qs:=[(0,3),(3,3)]) underlying55 zeroValue55 ⟨rfl,sizeOf35,rfl,sizeOf35,trivial⟩ rfl)<|Zu ac ?_;intro eb de df dg;refine go ?_;cases hm;replace aa:=aa.kp de df;exact ⟨rfl,_,Ts dg.atN,_,none,0,none,0,none,0,none,0,rfl,aa.fin (cm []),Zb.nil,Zb.nil,Zb.nil,Zb.nil⟩
 refine lW af.at1<|go ?_;refine Z5 [2,27,28,3,4,1000000] (fun n f ah=>∃ ai al a0 a2 a3 am a4 a5 an a6 a7 a8 ao a9 ba ap bb,n=bb.length∧ag.drop al=bb∧Qa N ab ag bb al a0 am an a6 ao ap=some r∧St w0 (Zk col) ai ah∧Zj 27 1 ai ah co #[.string ab.1,.slice bo ab.2.1.length bj,.slice bp ab.2.2.1.length bk,.slice bq ab.2.2.2.1.length bm,.slice br ab.2.2.2.2.length bn]∧Zj 39 2 ai ah bu #[.slice a1 ag.length au]∧Zb (Za.int .u32) 77 4 ai ah a2 a3 am∧Zb (Za.int .u32) 77 5 ai ah a4 a5 an∧Zb (Za.int .u32) 77 6 ai ah a7 a8 ao∧Zb (Za.int .u32) 77 7 ai ah a9 ba ap∧Zj 55 3 ai ah cr #[.bool a0,.slice a2 am.length a3,.slice a4 an.length a5,.bool a6,.slice a7 ao.length a8,.slice a9 ap.length ba]∧[29].map f=[.int .i64 al]) ag.length ⟨_,0,_,none,0,_,none,0,_,_,none,0,_,none,0,_,_,rfl,rfl,hm,aa,ae,af,Zb.nil,Zb.nil,Zb.nil,Zb.nil,ac,rfl⟩ ?_;clear hm;intro n f ah hI;obtain ⟨ai,al,a0,a2,a3,am,a4,a5,an,a6,a7,a8,ao,a9,ba,ap,bb,hn,hl,hm,aa,ae,af,bv,bw,bx,bz,ac,hs⟩:=hI;subst hn;refine .lL [29] hs ?_
 cases bb with
 | nil=>
  have hk:¬ ((al:Int)<(ag.length:Int)):=by have:=List.drop_eq_nil_iff.1 hl;omega
  have hkb:=decide_eq_false hk;rw [Qa.eq_1] at hm;refine go ?_;refine X4 (congrArg Value.bool hkb)<|go ?_;refine Xw ae ?_;obtain ⟨b0,dh,hm⟩:=bZ hm;refine Zi (Zj8 8 dh (az.ks aa)) ?_;rintro _ ec ⟨ed,ct,cu,rfl,b1,b5⟩;refine ⟨_,rfl,?_⟩;refine lM (.tuple #[.slice ct b0.1.length cu,.int .i64 b0.2])<|lV (.slice ct b0.1.length cu) (Z8 rfl rfl)<|lV (.int .i64 b0.2) (Z8 rfl rfl)<|go ?_;replace ae:=ae.gr b1;refine lV _ (Z3 isAgg27 sizeOf27 ae)<|Wk rfl<|lV (.func (.func 63) #[] #[.pointer (some ⟨bu,0,none⟩)]) (Zma rfl) ?_;replace b5:=(b5).toSlF (Ze.int .i64);replace af:=af.gr b1;replace af:=af.froz 8 (by decide);replace ac:=ac.gr b1;replace ac:=ac.froz 8 (by decide);replace aa:=aa.grow b1;replace aa:=aa.froz 8 (by decide) (by decide);obtain ⟨ad,di,hm⟩:=bZ hm;refine Zi (Zx0 9 2 di (by decide) (bs.ks aa) (av.ks aa) (az.ks aa) (bt.ks aa) b5 (h1.ks aa) af) ?_;rintro _ ee ⟨dj,cv,cw,b6,b7,b8,b9,ca,cb,cc,cd,rfl,cx,ef,ce,cf,bc,bd⟩;refine ⟨_,rfl,?_⟩;refine lM (.tuple #[.slice cv ad.1.length cw,(.agg #[.bool ad.2.1.1.1.1,.slice b6 ad.2.1.1.1.2.length b7,.slice b8 ad.2.1.1.2.length b9,.bool ad.2.1.2.1.1,.slice ca ad.2.1.2.1.2.length cb,.slice cc ad.2.1.2.2.length cd]),.bool ad.2.2])<|lV (.slice cv ad.1.length cw) (Z8 rfl rfl)<|lV (.agg #[.bool ad.2.1.1.1.1,.slice b6 ad.2.1.1.1.2.length b7,.slice b8 ad.2.1.1.2.length b9,.bool ad.2.1.2.1.1,.slice ca ad.2.1.2.1.2.length cb,.slice cc ad.2.1.2.2.length cd]) (Z8 rfl rfl)<|lV (.bool ad.2.2) (Z8 rfl rfl)<|Xa (col:=dj) #[.bool false,.slice none (([]:List Int).length) 0,.slice none (([]:List Int).length) 0,.bool false,.slice none (([]:List Int).length) 0,.slice none (([]:List Int).length) 0] 10 zeroValue55 ?_;intro eg eh b2 ax dl;refine T0 rfl<|Zu dl ?_;intro ei ay dm cy;refine go ?_;refine Wb (col:=b2) [(0,1),(1,0),(3,1),(4,0),(2,3),(5,3),(6,1),(7,2),(8,1)] (by kernel_rfl) (by kernel_rfl)<|xF ⟨_,_,rfl⟩ ?_;refine xv (v:=(.agg #[.bool ad.2.1.1.1.1,.slice b6 ad.2.1.1.1.2.length b7,.slice b8 ad.2.1.1.2.length b9])) rfl rfl (fun _ hC=>Xc isAgg35 sizeOf35 rfl rfl (((cy.atN).part 0 3 _ rfl).gr (hC.bl b2))) ?_;refine xF ⟨_,_,rfl⟩ ?_
  refine xv (v:=(.agg #[.bool ad.2.1.2.1.1,.slice ca ad.2.1.2.1.2.length cb,.slice cc ad.2.1.2.2.length cd])) rfl rfl (fun _ hC=>Xc isAgg35 sizeOf35 rfl rfl (((cy.atN).part 3 3 _ rfl).gr (hC.bl b2))) ?_;refine xe rfl rfl ?_;intro ej hC0;have hC:=hC0.bl b2;obtain ⟨cg,dn,hm⟩:=bZ hm;replace ce:=((ce.gr ax).kp ay).gr hC;replace cf:=((cf.gr ax).kp ay).gr hC;refine Zi (Zqt 11 12 dn ce cf) ?_;rintro _ ek ⟨cz,dp,dq,dr,ds,rfl,be,aq,ar⟩;refine ⟨_,rfl,?_⟩;refine Zm<|Xr cz hC0 be<|xe rfl rfl ?_;intro el hC0;replace ac:=((((ac.gr cx).gr ax).kp ay).gr hC).gr be;replace aa:=((((aa.grow cx).grow ax).kp ay dm).grow hC).grow be;replace bc:=(((bc.gr ax).kp ay).gr hC).gr be;replace bd:=(((bd.gr ax).kp ay).gr hC).gr be;have hC:=hC0.bl cz;obtain ⟨ch,dt,hm⟩:=bZ hm;replace bc:=bc.gr hC;replace bd:=bd.gr hC;refine Zi (Zqt 13 14 dt bc bd) ?_;rintro _ em ⟨b3,du,dv,dw,dx,rfl,bf,bg,bh⟩;refine ⟨_,rfl,?_⟩;refine Zm<|Xr b3 hC0 bf<|xu (v:=(.agg #[.bool cg.1.1,.slice dp cg.1.2.length dq,.slice dr cg.2.length ds,.bool ch.1.1,.slice du ch.1.2.length dv,.slice dw ch.2.length dx])) rfl rfl (fun _=>Yi (l:=[_,_]) (qs:=[(0,3),(3,3)]) underlying55 zeroValue55 ⟨rfl,sizeOf35,rfl,sizeOf35,trivial⟩ rfl) ?_;refine xe rfl rfl ?_;intro en hC0;replace aq:=(aq.gr hC).gr bf;replace ar:=(ar.gr hC).gr bf;replace ac:=(ac.gr hC).gr bf;replace aa:=(aa.grow hC).grow bf;have hC:=hC0.bl b3;replace ac:=ac.gr hC;refine Zu ac ?_;intro eo bi dy ci;refine Zm<|xk b3<|xu rfl rfl (fun _=>Zji rfl) ?_;refine Yz ?_;replace aq:=(aq.gr hC).kp bi;replace ar:=(ar.gr hC).kp bi;replace bg:=(bg.gr hC).kp bi;replace bh:=(bh.gr hC).kp bi;replace aa:=(aa.grow hC).kp bi dy;intro ep hC;replace hC:=hC.bl b3;refine Wx ?_;cases hm;replace aq:=aq.gr hC;replace ar:=ar.gr hC;replace bg:=bg.gr hC;replace bh:=bh.gr hC;replace ci:=ci.gr hC;replace aa:=aa.grow hC;exact ⟨rfl,_,Ts ci.atN,_,_,_,_,_,_,_,_,_,rfl,aa.fin (cm [(11,c1),(12,c2),(13,c3),(14,c4)]),aa.fo aq,aa.fo ar,aa.fo bg,aa.fo bh⟩
 | cons dz c0=>
  obtain ⟨cj,d0,d1⟩:=Yg hl;have hk:(al:Int)<(ag.length:Int):=by omega
  have hkb:=decide_eq_true hk;rw [Qa.eq_2] at hm;refine go ?_;refine X9 (congrArg Value.bool hkb)<|go ?_;refine lI cj ((h1.ks aa).addr cj)<|lW ((h1.ks aa).atInt cj)<|Yq rfl<|Yq rfl<|Zm<|Zw ?_;refine Wp.cutK [2,27,28,29,3,4,1000000] (fun f aj=>∃ ak ck,Zfi al a0 am an a6 ao ap (Qa N ab ag c0) ck=some r∧St w0 (Zk col) ak aj∧Zj 27 1 ak aj co #[.string ab.1,.slice bo ab.2.1.length bj,.slice bp ab.2.2.1.length bk,.slice bq ab.2.2.2.1.length bm,.slice br ab.2.2.2.2.length bn]∧Zj 39 2 ak aj bu #[.slice a1 ag.length au]∧Zb (Za.int .u32) 77 4 ak aj a2 a3 am∧Zb (Za.int .u32) 77 5 ak aj a4 a5 an∧Zb (Za.int .u32) 77 6 ak aj a7 a8 ao∧Zb (Za.int .u32) 77 7 ak aj a9 ba ap∧Zj 55 3 ak aj cr #[.bool a0,.slice a2 am.length a3,.slice a4 an.length a5,.bool a6,.slice a7 ao.length a8,.slice a9 ap.length ba]∧[45].map f=[.bool ck]) ?_ ?_
  ·intro f aj hJ;obtain ⟨ak,ck,hm,aa,ae,af,bv,bw,bx,bz,ac,hs⟩:=hJ;rw [Zfi.eq_1] at hm;refine .lL [45] hs ?_;refine Zp hm (fun hb hm=>go ?_) fun hb hm=>go ?_
   ·refine lV (.agg #[.bool false,.slice none (([]:List Int).length) 0,.slice none (([]:List Int).length) 0,.bool false,.slice none (([]:List Int).length) 0,.slice none (([]:List Int).length) 0]) (Yi (l:=[_,_]) (qs:=[(0,3),(3,3)]) underlying55 zeroValue55 ⟨rfl,sizeOf35,rfl,sizeOf35,trivial⟩ rfl)<|Zu ac ?_;intro eq d2 d3 d4;refine go ?_;cases hm;replace aa:=aa.kp d2 d3;exact ⟨rfl,_,Ts d4.atN,_,none,0,none,0,none,0,none,0,rfl,aa.fin (cm []),Zb.nil,Zb.nil,Zb.nil,Zb.nil⟩
   exact ⟨c0.length,by simp,rfl,⟨_,_,_,_,_,_,_,_,_,_,_,_,_,_,_,_,_,rfl,d0,hm,aa,ae,af,bv,bw,bx,bz,ac,(Ym (congrArg (Value.int .i64) (Yk (Nat.lt_of_lt_of_le d1 (h1.ks aa).1.1))) rfl)⟩⟩
  refine go ?_;refine Xz hm (fun cl hm=>go ?_) fun cl hm=>go ?_
  ·refine lV (.bool true) (Xm (congrArg Value.bool cl) rfl)<|Zm ?_;exact ⟨rfl,_,_,hm,aa,ae,af,bv,bw,bx,bz,ac,rfl⟩
  refine Xo ⟨_,_,rfl⟩ ?_;refine go ?_;refine lW ((ae.atN).nth (q:=2) rfl)<|go ?_;obtain ⟨d5,cn,hm⟩:=bZ hm;refine lI cn ((av.ks aa).addr cn) ?_;refine go ?_;obtain ⟨_,d6,d7⟩:=(av.ks aa).atN cn;obtain ⟨⟨er,es,rfl,et⟩,_⟩:=d6;refine lW d7.one<|go ?_;refine lV (.bool (decide ((d5.length:Int)≤dz))) (Xd (congrArg Value.bool cl) rfl)<|Zm ?_;exact ⟨rfl,_,_,hm,aa,ae,af,bv,bw,bx,bz,ac,rfl⟩
section
variable {N K:Nat} {n:Zz} (hf:Yt N n) (hr:Xj N (8 * K+40))
include hf hr
variable (nv:List Int) (b1:Bool) (l1 l2:List Int) (b3:Bool) (l3 l4:List Int) (w:List Int) (hw:X3 n w)
 (kk:Bool→List Int→List Int→Bool→List Int→List Int→List Int→Bool→List Int→List Int→Bool→List Int→List Int→List Int→Tw)
include hw
theorem Zrz {v:Nat} (hv:v<n.2.1.length) (hl:∀ x ∈ Z6 n w v,Vg x∧max x.1.2.length x.2.length≤K) {long:Rat} (hlong:qs long≤K) (F:List (QV×QV)→Tw)
  (hF:∀ P:List (QV×QV),((Zfh (v:Int) P nv).bind fun r=>if (decide (r<0))=true then (some (([]:List Int),(((false,([]:List Int)),([]:List Int)),((false,([]:List Int)),([]:List Int))),false)) else ((Zn P r).bind fun e=>(Zn w (v:Int)).bind fun _=>(some (w.set (Int.toNat (v:Int)) r)).bind fun xs=>kk e.1.1.1 e.1.1.2 e.1.2 e.2.1.1 e.2.1.2 e.2.2 nv b1 l1 l2 b3 l3 l4 xs))=F P):
  ∀ (l:List QV) (f j:Nat) (a:Rat) (parts:List (QV×QV)),(Z6 n w v).drop j=l→j≤cnt n v→cnt n v<f+j→qs a≤K→(∀ p ∈ Xx long l a,qs p.1≤K∧qs p.2≤K)→parts.length=j→
   Zdk N n nv b1 l1 l2 b3 l3 l4 w kk (v:Int) (Y5 n w v:Int) (Zq long) (n.2.2.1.getD v []) f (Zq a).1.1 (Zq a).1.2 (Zq a).2 parts (j:Int)=F (parts++(Xx long l a).map Xs)
 | l,0,j,a,parts,_,h1,h2,_,_,_=>by omega
 | l,f+1,j,a,parts,hd,h1,h2,ha,hp,hpl=>by
  have hlen:=hf.rowT_len hw hv
  have hrow:=hf.row hw hv
  have hrows:=hf.rows hv
  rw [Zdk.eq_2]
  cases l with
  | nil=>
   have h3:=List.drop_eq_nil_iff.1 hd
   rw [if_neg (by rw [decide_eq_false (by rw [cnt] at h1 hlen;omega)];decide),hF,Xx,List.map_nil,List.append_nil]
  | cons y l=>
   have hj:j<(Z6 n w v).length:=by
    rcases Nat.lt_or_ge j (Z6 n w v).length with h | h
    ·exact h
    ·rw [List.drop_eq_nil_of_le h] at hd;cases hd
   have hy:(Z6 n w v)[j]=y∧(Z6 n w v).drop (j+1)=l:=by
    rw [List.drop_eq_getElem_cons hj] at hd
    exact List.cons.inj hd
   have hyK:=hl y (hy.1 ▸ List.getElem_mem hj)
   have hjc:j<cnt n v:=by omega
   have hq:=hp _ List.mem_cons_self
   have e0:(0:Int)≤((Y5 n w v * cnt n v:Nat):Int):=Int.natCast_nonneg _
   have e1:i64.wrap ((Y5 n w v:Int) * ((n.2.2.1.getD v []).length:Int))=((Y5 n w v * cnt n v:Nat):Int):=by
    rw [show ((n.2.2.1.getD v []).length:Int)=((cnt n v:Nat):Int) from rfl,← Int.natCast_mul]
    exact Z4 (by omega)
   have e2:i64.wrap (((Y5 n w v * cnt n v:Nat):Int)+(j:Int))=((Y5 n w v * cnt n v+j:Nat):Int):=by
    rw [← Int.natCast_add]
    exact Z4 (by omega)
   have r1:=Zc4 hyK.1.1 hyK.1.2
   have m1:Ul N (((Zq long).1.1,(Zq long).1.2),(Zq long).2) ((y.1.1,y.1.2),y.2)=some (Zq (long * Zv y)):=by
    have:=Zkk (Wa hlong) (r1.mono hyK.2) (hr.mono (by omega))
    rwa [Yx] at this
   have s1:qs (long * Zv y)≤K+(K+1):=by
    have h4:=Zl6 long (Zv y)
    have h5:=Zl7 hyK.1
    omega
   have a1:V3 N (((Zq a).1.1,(Zq a).1.2),(Zq a).2) (((Zq (long * Zv y)).1.1,(Zq (long * Zv y)).1.2),(Zq (long * Zv y)).2)=some (Zq (a+long * Zv y)):=by
    have:=Ze8 (Wa ha) (Wa s1) (hr.mono (by omega))
    rwa [Yx,Yx] at this
   rw [if_pos (decide_eq_true (by rw [cnt] at hjc;omega)),W0 [] (by rw [hf.ev.t];exact hv),Option.bind_some,W0 [] (by rw [hf.ev.v];exact hv),Option.bind_some,e1,e2,Zp0 hj,hy.1,Option.bind_some,m1,Option.bind_some,a1,Option.bind_some,
    Xi (by simp only [List.length_singleton,maxLen];omega),Z4 (x:=(j:Int)+1) (by omega)]
   have ih:=Zrz hv hl hlong F hF l f (j+1) (a+long * Zv y) (parts++[Xs (a,a+long * Zv y)]) hy.2 (by omega) (by omega) hq.2 (fun p h=>hp p (List.mem_cons_of_mem _ h)) (by rw [List.length_append,List.length_singleton];omega)
   rw [List.append_assoc] at ih
   exact ih
omit hr in
theorem Zry (a b:QV) (x:Int):∀ (ps:List Int) (r k:Nat),(∀ q ∈ ps,0≤q∧q<(n.2.1.length:Int))→r<k→k≤65536→Y6 n.2.2.1 ps k≤65536→
  Zax N n a.1.1 a.1.2 a.2 b.1.1 b.1.2 b.2 nv b1 l1 l2 b3 l3 l4 w kk x ps (r:Int)=Zax N n a.1.1 a.1.2 a.2 b.1.1 b.1.2 b.2 nv b1 l1 l2 b3 l3 l4 w kk x [] (Tg n w ps r:Int)
 | [],r,k,_,_,_,_=>rfl
 | p :: ps,r,k,hp,h1,h2,h3=>by
  obtain ⟨g1,g2,g3⟩:=Zml hf.ev hw hp h1 h2 h3
  have hpp:=hp p List.mem_cons_self
  have hwp:=hw.ok p.toNat (by rw [hw.len];omega)
  have g4:r * cnt n p.toNat≤k * cnt n p.toNat:=Nat.mul_le_mul_right _ (by omega)
  have q1:Zn n.2.2.1 p=some (n.2.2.1.getD p.toNat []):=by
   have:=W0 (l:=n.2.2.1) [] (j:=p.toNat) (by rw [hf.ev.v];omega)
   rwa [show ((p.toNat:Nat):Int)=p by omega] at this
  have q2:Zn w p=some (w.getD p.toNat 0):=by
   have:=W0 (l:=w) 0 (j:=p.toNat) (by rw [hw.len];omega)
   rwa [show ((p.toNat:Nat):Int)=p by omega] at this
  have e1:i64.wrap ((r:Int) * ((n.2.2.1.getD p.toNat []).length:Int))=((r * cnt n p.toNat:Nat):Int):=by
   rw [show ((n.2.2.1.getD p.toNat []).length:Int)=((cnt n p.toNat:Nat):Int) from rfl,← Int.natCast_mul]
   exact Z4 (by omega)
  have e2:i64.wrap (((r * cnt n p.toNat:Nat):Int)+w.getD p.toNat 0)=((r * cnt n p.toNat+(w.getD p.toNat 0).toNat:Nat):Int):=by
   rw [Int.natCast_add,show (((w.getD p.toNat 0).toNat:Nat):Int)=w.getD p.toNat 0 by omega]
   exact Z4 (by omega)
  rw [Zax.eq_2,q1,Option.bind_some,q2,Option.bind_some,e1,e2]
  exact Zry a b x ps _ _ (fun q hq=>hp q (List.mem_cons_of_mem _ hq)) g1 g2 g3
end
theorem Zrx {N W K:Nat} {n:Zz} (hf:Yt N n) (hs:Wh n W) (hr:Xj N (8 * K+40)) (hWK:W≤K) (hN:65536<N) {nv:List Int} (hnv:X3 n nv) {ord:List Int} (ho:Vs n.2.2.2.1 ord):∀ (l pre w:List Int) (s:Rat×Rat) (D M:Nat) (b1:Bool) (l1 l2:List Int) (b3:Bool) (l3 l4:List Int),ord=pre++l→X3 n w→(∀ p ∈ pre,w.getD p.toNat 0=nv.getD p.toNat 0)→U3 D M s→
  (Zf M).length+(Zf D).length+l.length * (W+2)+2≤K→
  ∃ w',Qb N n l (Zq s.1).1.1 (Zq s.1).1.2 (Zq s.1).2 (Zq s.2).1.1 (Zq s.2).1.2 (Zq s.2).2 nv b1 l1 l2 b3 l3 l4 w=some (w',Xs (Ye n nv l s),true)
 | [],pre,w,s,D,M,b1,l1,l2,b3,l3,l4,_,_,_,_,_=>⟨w,rfl⟩
 | v :: l,pre,w,s,D,M,b1,l1,l2,b3,l3,l4,he,hw,hag,hL,hK=>by
  have hvr:=ho.rg v (by rw [he];simp)
  rw [hf.ev.p] at hvr
  obtain ⟨k,rfl⟩:∃ k:Nat,v=(k:Int):=⟨v.toNat,by omega⟩
  have hv:k<n.2.1.length:=by omega
  have hpar:∀ p ∈ n.2.2.2.1.getD k [],w.getD p.toNat 0=nv.getD p.toNat 0:=fun p hp=>hag p (ho.up pre k l he p (by rw [Int.toNat_natCast];exact hp))
  have hrow:Y5 n w k=Y5 n nv k:=Zmk _ _ hpar
  have hrT:Z6 n w k=Z6 n nv k:=by rw [Z6,Z6,hrow]
  obtain ⟨D',M',c1,c2,c3⟩:=Zn7 hf hs hw hv hL
  have hKs:(l.length+1) * (W+2)=l.length * (W+2)+(W+2):=by rw [Nat.add_mul,Nat.one_mul]
  rw [List.length_cons,hKs] at hK
  have hrows:=hf.rows hv
  have hcl:cnt n k≤65536:=by have:=(hf.row hw hv).1;omega
  have hsub:T6 N (((Zq s.2).1.1,(Zq s.2).1.2),(Zq s.2).2) (((Zq s.1).1.1,(Zq s.1).1.2),(Zq s.1).2)=some (Zq (s.2 - s.1)):=by
   have:=Znz (Wa hL.qb) (Wa hL.qa) (hr.mono (s:=2 * ((Zf M).length+(Zf D).length+((Zf M).length+(Zf D).length)+3)) (by omega))
   rwa [Yx,Yx] at this
  rw [Qb.eq_2,W0 [] (by rw [hf.ev.p];exact hv),Option.bind_some]
  have h2:=Zry hf nv b1 l1 l2 b3 l3 l4 w hw (Qb N n l) (Zq s.1) (Zq s.2) (k:Int) (n.2.2.2.1.getD k []) 0 1 (hf.pars hv) (by omega) (by omega) hrows.2.2
  rw [show ((0:Nat):Int)=0 from rfl] at h2
  rw [h2,Zax.eq_1,hsub,Option.bind_some,W0 [] (by rw [hf.ev.v];exact hv),Option.bind_some]
  have h3:=Zrz hf hr nv b1 l1 l2 b3 l3 l4 w hw (Qb N n l) hv (fun x hx=>by have:=Ze7 hf hs hv x (Zbk hx);exact ⟨this.1,by omega⟩) (long:=s.2 - s.1) (by omega) _ (fun _=>rfl) (Z6 n w k) N 0 s.1 [] rfl (Nat.zero_le _) (by omega) (by have:=hL.qa;omega) (fun p hp=>⟨by have:=(c2 p hp).qa;omega,by have:=(c2 p hp).qb;omega⟩) rfl
  rw [show ((0:Nat):Int)=0 from rfl] at h3
  have h3':=h3
  rw [Y5] at h3'
  rw [h3',List.nil_append]
  have hnk:=hnv.ok k (by rw [hnv.len];exact hv)
  obtain ⟨q,hq⟩:∃ q:Nat,nv.getD k 0=(q:Int):=⟨(nv.getD k 0).toNat,by omega⟩
  have hql:q<(Xx (s.2 - s.1) (Z6 n w k) s.1).length:=by rw [Zbl,hf.rowT_len hw hv];omega
  have hch:Zfh (k:Int) ((Xx (s.2 - s.1) (Z6 n w k) s.1).map Xs) nv=some (q:Int):=by
   rw [Zfh,W0 0 (by rw [hnv.len];exact hv),hq];rfl
  rw [hch,Option.bind_some,if_neg (by rw [decide_eq_false (by omega)];decide),Zty hql,Option.bind_some,W0 0 (by rw [hw.len];exact hv),Option.bind_some,Option.bind_some,Int.toNat_natCast]
  have hset:=hw.set (v:=k) (k:=(q:Int)) (by omega)
  have ih:=Zrx hf hs hr hWK hN hnv ho l (pre++[(k:Int)]) (w.set k q) _ D' M' b1 l1 l2 b3 l3 l4 (by rw [he,List.append_assoc];rfl) hset (fun p hp=>?_) (c2 _ (Zg4 hql)) (by omega)
  ·obtain ⟨w',hw'⟩:=ih
   refine ⟨w',?_⟩
   rw [Ye,Int.toNat_natCast,hq,Int.toNat_natCast,← hrT]
   exact hw'
  ·rcases List.mem_append.1 hp with hp | hp
   ·rw [Uk w 0 k _ _ (by rw [hw.len];exact hv)]
    split
    ·rename_i e;rw [e,hq]
    ·exact hag p hp
   ·rw [List.mem_singleton] at hp
    rw [hp,Int.toNat_natCast,Uk w 0 k _ _ (by rw [hw.len];exact hv),if_pos rfl,hq]
theorem Z0b {N W K:Nat} {n:Zz} (hf:Yt N n) (hs:Wh n W) (hr:Xj N (8 * K+40)) (hWK:1025 * (W+2)+4≤K) (hN:65536<N) {nv:List Int} (hnv:X3 n nv) {ord:List Int} (ho:Vs n.2.2.2.1 ord) (hol:ord.length≤1024):
  ∃ w',Zfj N n ord nv=some (w',Xs (Ye n nv ord (0,1)),true):=by
 have hnm:=hf.le
 have hmul:ord.length * (W+2)≤1024 * (W+2):=Nat.mul_le_mul_right _ hol
 have h1:(Zf 1).length=1:=by rw [T5];rfl
 obtain ⟨w',h⟩:=Zrx hf hs hr (by omega) hN hnv ho ord [] (List.replicate n.2.1.length 0) (0,1) 1 1 false [] [] false [] [] rfl (X3.zero hf.ev) (by simp) U3.zero (by omega)
 refine ⟨w',?_⟩
 rw [Zfj,Xi (by simp only [maxLen];omega),Zn0 (hr.mono (by omega)),Option.bind_some,Znw,Option.bind_some]
 exact h
def Vq (n:Zz):List Int→Nat→Bool
 | [],_=>true
 | x :: l,k=>!decide (x<0)&&(!decide ((cnt n k:Int)≤x)&&Vq n l (k+1))
theorem Zsz {n:Zz}:∀ (l:List Int) (k:Nat),Vq n l k=true→∀ i,i<l.length→0≤l.getD i 0∧l.getD i 0<(cnt n (k+i):Int)
 | [],_,_,i,hi=>by simp at hi
 | x :: l,k,h,i,hi=>by
  simp only [Vq,Bool.and_eq_true,Bool.not_eq_true',decide_eq_false_iff_not] at h
  cases i with
  | zero=>rw [List.getD_cons_zero,Nat.add_zero];omega
  | succ i=>
   rw [List.getD_cons_succ,show k+(i+1)=k+1+i by omega]
   exact Zsz l (k+1) h.2.2 i (by simpa using hi)
theorem Z1a {n:Zz} {w:List Int} (hl:w.length=n.2.1.length) (h:Vq n w 0=true):X3 n w:=⟨hl,fun i hi=>by have:=Zsz w 0 h i hi;rwa [Nat.zero_add] at this⟩
section
variable {N:Nat} {n:Zz} (he:Tj n)
include he
theorem Zwu (hl:n.2.1.length≤1048576) (w:List Int) (hw:w.length=n.2.1.length):∀ (l:List Int) (k:Nat) (b1:Bool) (l1 l2:List Int) (b3:Bool) (l3 l4:List Int),w.drop k=l→k≤w.length→Qa N n w l k b1 l1 l2 b3 l3 l4=if Vq n l k=true then Qa N n w [] w.length b1 l1 l2 b3 l3 l4 else some ((((false,([]:List Int)),([]:List Int)),((false,([]:List Int)),([]:List Int))),3)
 | [],k,b1,l1,l2,b3,l3,l4,hd,h1=>by
  have:=List.drop_eq_nil_iff.1 hd
  rw [Vq,if_pos rfl,show k=w.length by omega]
 | x :: l,k,b1,l1,l2,b3,l3,l4,hd,h1=>by
  have hk:k<w.length:=by
   rcases Nat.lt_or_ge k w.length with h | h
   ·exact h
   ·rw [List.drop_eq_nil_of_le h] at hd;cases hd
  rw [List.drop_eq_getElem_cons hk] at hd
  obtain ⟨e1,e2⟩:=List.cons.inj hd
  rw [Qa.eq_2,Vq]
  by_cases hx:x<0
  ·rw [if_pos (decide_eq_true hx),Zfi,if_pos rfl,decide_eq_true hx];rfl
  ·rw [if_neg (by rw [decide_eq_false hx];decide),W0 [] (by rw [he.v];omega),Option.bind_some,Zfi,decide_eq_false hx]
   by_cases hc:(cnt n k:Int)≤x
   ·rw [show ((n.2.2.1.getD k []).length:Int)=(cnt n k:Int) from rfl,decide_eq_true hc,if_pos rfl];rfl
   ·rw [show ((n.2.2.1.getD k []).length:Int)=(cnt n k:Int) from rfl,decide_eq_false hc,if_neg (by decide),Zwu hl w hw l (k+1) b1 l1 l2 b3 l3 l4 e2 (by omega)];rfl
end
def errS (k:Int):(QV×QV)×Int:=((((false,([]:List Int)),([]:List Int)),((false,([]:List Int)),([]:List Int))),k)
theorem Zsp {N K:Nat} {q:Rat} (hr:Xj N (8 * K+40)) (hq:qs q≤K):Zb6 N (((Zq q).1.1,(Zq q).1.2),(Zq q).2)=some (Zq q):=by
 have hz:RV 0 ((false,([]:List Int)),([]:List Int)):=⟨by simp [Zo],by simp [Zo],by simp,by simp⟩
 have h1:=Ze8 (Wa hq) hz (hr.mono (by omega))
 have h2:Zv ((false,([]:List Int)),([]:List Int))=0:=by rw [Zv];simp [Zx,Zc]
 rw [Yx,h2,Rat.add_zero] at h1
 rw [Zb6]
 have h3:V3 N (((Zq q).1.1,(Zq q).1.2),(Zq q).2) ((false,([]:List Int)),([]:List Int))=some (Zq q):=h1
 rw [h3];rfl
def Za4 (N:Nat) (ab:R1) (ac:List Int) (aa:Nat) (ah:Bool) (ai:List Int) (aj:List Int) (kk_L2:(Nat→Bool→R2→R2→Option (R0×Int))) (ak:R7):List Int→Int→Option (R0×Int)
  | [],ad=>(Zn ab.2.2.1 (aa:Int)).bind fun am=>(Zn ac (aa:Int)).bind fun an=>(Zn ak (i64.wrap ((i64.wrap (ad * (am.length:Int)))+an))).bind fun ae=>(Zch N ((ae.1.1,ae.1.2),ae.2)).bind fun af=>(Ul N ((ah,ai),aj) ((af.1.1,af.1.2),af.2)).bind fun ag=>kk_L2 (aa+1) ag.1.1 ag.1.2 ag.2
  | al :: ao,ad=>(Zn ab.2.2.1 al).bind fun ap=>(Zn ac al).bind fun aq=>(Za4 N ab ac aa ah ai aj kk_L2 ak ao) (i64.wrap ((i64.wrap (ad * (ap.length:Int)))+aq))
termination_by structural x=>x
def Za3 (N:Nat) (aa:R1) (af:List Int):List R7→Nat→Bool→R2→R2→Option (R0×Int)
  | [],ab,ac,ad,ae=>some (((ac,ad),ae),0)
  | ag :: ah,ab,ac,ad,ae=>(Zn aa.2.2.2.1 (ab:Int)).bind fun ai=>Za4 N aa af ab ac ad ae (Za3 N aa af ah) ag ai 0
termination_by structural x=>x
def Zf4 (aa:Nat) (ab:Bool) (ac:List Int) (ad:List Int) (kk_L1:(Nat→Bool→R2→R2→Option (R0×Int))) (ae:Bool):Option (R0×Int):=
  if ae=true then (some (((false,([]:List Int)),([]:List Int)),3)) else (kk_L1 (aa+1) ab ac ad)
def Qg (N:Nat) (aa:R1) (ac:List Int):List Int→Nat→Bool→R2→R2→Option (R0×Int)
  | [],ab,ad,ae,af=>(Zdt N).bind fun ag=>Za3 N aa ac aa.2.2.2.2 0 ag.1.1 ag.1.2 ag.2
  | ah :: ai,ab,ad,ae,af=>if (decide (ah<0))=true then (Zf4 ab ad ae af (Qg N aa ac ai) true) else ((Zn aa.2.2.1 (ab:Int)).bind fun aj=>Zf4 ab ad ae af (Qg N aa ac ai) (decide ((aj.length:Int)≤ah)))
termination_by structural x=>x
def Zf3 (N:Nat) (aa:R1) (ab:List Int):Option (R0×Int):=
  (W5 N (aa.1,aa.2.1,aa.2.2.1,aa.2.2.2.1,aa.2.2.2.2)).bind fun ac=>if (!decide (ac=0))=true then (some (((false,([]:List Int)),([]:List Int)),ac)) else (if (!decide ((ab.length:Int)=(aa.2.1.length:Int)))=true then (some (((false,([]:List Int)),([]:List Int)),60)) else (Qg N aa ab ab 0 false ([]:List Int) ([]:List Int)))
theorem Zyo {N bf bg bh bi cu:Nat} {bj bk bm bn a1:Option Addr} {col:Zd} {w0:World} {ab:R1} {ak:R2} {r:(R0×Int)} (c1 c2:Nat) (hm:Zf3 N ab ak=some r) (cd:Sl Za.str col w0 bj bf ab.2.1) (au:Sl (Za.slice Za.str) col w0 bk bg ab.2.2.1) (bt:Sl (Za.slice (Za.int .i64)) col w0 bm bh ab.2.2.2.1) (bo:Sl (Za.slice (Za.pair (Za.pair Za.bool (Za.slice (Za.int .u32))) (Za.slice (Za.int .u32)))) col w0 bn bi ab.2.2.2.2) (h1:Sl (Za.int .i64) col w0 a1 cu ak):
    Calls Tryz.prog 10 #[(.agg #[.string ab.1,.slice bj ab.2.1.length bf,.slice bk ab.2.2.1.length bg,.slice bm ab.2.2.2.1.length bh,.slice bn ab.2.2.2.2.length bi]),.slice a1 ak.length cu] w0 (fun e w'=>∃ (col':Zd) (ra1:Option Addr) (rc2:Nat) (ra4:Option Addr) (rc5:Nat),e= .returned (.tuple #[(.agg #[.bool r.1.1.1,.slice ra1 r.1.1.2.length rc2,.slice ra4 r.1.2.length rc5]),.int .i64 r.2])∧Zg col w0 col' w'∧Zb (Za.int .u32) 77 c1 col' w' ra1 rc2 r.1.1.2∧Zb (Za.int .u32) 77 c2 col' w' ra4 rc5 r.1.2):=by
 refine Yw (m:=103) func10 rfl rfl rfl ?_;rw [Zf3.eq_1] at hm;have aa:=St.start col w0;refine go ?_;refine Xp (col:=(Zk col)) 1 rfl ?_;intro b7 er c3 c4 ac;refine Xa (col:=c3) #[.bool false,.slice none (([]:List Int).length) 0,.slice none (([]:List Int).length) 0] 2 zeroValue35 ?_;intro b8 c5 cv cw ad;refine go ?_;replace ac:=ac.gr cw;refine lV _ (Z3 isAgg27 sizeOf27 ac) ?_;obtain ⟨es,c6,hm⟩:=bZ hm;replace cd:=cd.keep (Zl.start col w0);replace au:=au.keep (Zl.start col w0);replace bt:=bt.keep (Zl.start col w0);replace bo:=bo.keep (Zl.start col w0);replace aa:=(aa.grow c4).grow cw;refine Zi (Ze3 c6 (cd.ks aa) (au.ks aa) (bt.ks aa) (bo.ks aa)) ?_;rintro _ c7 ⟨rfl,bu⟩;refine ⟨_,rfl,?_⟩;replace bu:Zg cv c5 cv c7:=.of_below bu;refine go ?_;replace h1:=h1.keep (Zl.start col w0);replace ac:=ac.gr bu;replace ad:=ad.gr bu;replace aa:=aa.grow bu;refine Zp hm (fun hb hm=>go ?_) fun hb hm=>go ?_
 ·refine lV (.agg #[.bool false,.slice none (([]:List Int).length) 0,.slice none (([]:List Int).length) 0]) (Yi (l:=[_,_]) (qs:=[(0,2),(2,1)]) underlying35 zeroValue35 ⟨rfl,sizeOf33,rfl,sizeOf31,trivial⟩ rfl)<|Ya rfl<|Zu ad ?_;intro et c8 c9 da;refine go ?_;cases hm;replace aa:=aa.kp c8 c9;exact ⟨rfl,_,Ts da.atN,_,none,0,none,0,rfl,aa.fin (cm []),Zb.nil,Zb.nil⟩
 refine Xw ac ?_;refine go ?_;refine Zp hm (fun hb hm=>go ?_) fun hb hm=>go ?_
 ·refine lV (.agg #[.bool false,.slice none (([]:List Int).length) 0,.slice none (([]:List Int).length) 0]) (Yi (l:=[_,_]) (qs:=[(0,2),(2,1)]) underlying35 zeroValue35 ⟨rfl,sizeOf33,rfl,sizeOf31,trivial⟩ rfl)<|Zu ad ?_;intro eu db dc dd;refine go ?_;cases hm;replace aa:=aa.kp db dc;exact ⟨rfl,_,Ts dd.atN,_,none,0,none,0,rfl,aa.fin (cm []),Zb.nil,Zb.nil⟩
 refine Z5 [1,2,28,29,4,1000000] (fun n f bp=>∃ a4 a5 a6 av aw al ax ay am bv,n=bv.length∧ak.drop a5=bv∧Qg N ab ak bv a5 a6 al am=some r∧St w0 (Zk col) a4 bp∧Zj 27 1 a4 bp b7 #[.string ab.1,.slice bj ab.2.1.length bf,.slice bk ab.2.2.1.length bg,.slice bm ab.2.2.2.1.length bh,.slice bn ab.2.2.2.2.length bi]∧Zb (Za.int .u32) 77 3 a4 bp av aw al∧Zb (Za.int .u32) 77 4 a4 bp ax ay am∧Zj 35 2 a4 bp b8 #[.bool a6,.slice av al.length aw,.slice ax am.length ay]∧[30].map f=[.int .i64 a5]) ak.length ⟨_,0,_,none,0,_,none,0,_,_,rfl,rfl,hm,aa,ac,Zb.nil,Zb.nil,ad,rfl⟩ ?_;clear hm;intro n f bp hI;obtain ⟨a4,a5,a6,av,aw,al,ax,ay,am,bv,hn,hl,hm,aa,ac,ae,af,ad,hs⟩:=hI;subst hn;refine .lL [30] hs ?_
 cases bv with
 | nil=>
  have hk:¬ ((a5:Int)<(ak.length:Int)):=by have:=List.drop_eq_nil_iff.1 hl;omega
  have hkb:=decide_eq_false hk;rw [Qg.eq_1] at hm;refine go ?_;refine X4 (congrArg Value.bool hkb)<|go ?_;obtain ⟨ew,de,hm⟩:=bZ hm;refine lc rfl rfl (S4 call35) (Zm5 (col:=a4) 5 6 de:) ?_;rintro _ ey ⟨df,ez,e0,e1,e2,rfl,bw,ce,cf⟩;refine ⟨_,rfl,?_⟩;refine Xa (col:=df) #[.bool false,.slice none (([]:List Int).length) 0,.slice none (([]:List Int).length) 0] 7 zeroValue35 ?_;intro cx e3 e4 a7 dg;refine Zu dg ?_;intro e5 a8 dh ah;refine go ?_;refine Xo ⟨_,_,rfl⟩ ?_;replace ac:=((ac.gr bw).gr a7).kp a8;refine lW ((ac.atN).nth (q:=4) rfl)<|go ?_;replace ae:=((ae.gr bw).gr a7).kp a8;replace af:=((af.gr bw).gr a7).kp a8;replace ad:=((ad.gr bw).gr a7).kp a8;replace aa:=((aa.grow bw).grow a7).kp a8 dh;replace ce:=(ce.gr a7).kp a8;replace cf:=(cf.gr a7).kp a8;refine Z5 [1,2,4,51,52,9,1000000] (fun n f az=>∃ a0 a9 bx bz b0 ba b1 b2 bb b3,n=b3.length∧ab.2.2.2.2.drop a9=b3∧Za3 N ab ak b3 a9 bx ba bb=some r∧St w0 (Zk col) a0 az∧Zj 27 1 a0 az b7 #[.string ab.1,.slice bj ab.2.1.length bf,.slice bk ab.2.2.1.length bg,.slice bm ab.2.2.2.1.length bh,.slice bn ab.2.2.2.2.length bi]∧Zb (Za.int .u32) 77 3 a0 az av aw al∧Zb (Za.int .u32) 77 4 a0 az ax ay am∧Zj 35 2 a0 az b8 #[.bool a6,.slice av al.length aw,.slice ax am.length ay]∧Zb (Za.int .u32) 77 5 a0 az bz b0 ba∧Zb (Za.int .u32) 77 6 a0 az b1 b2 bb∧Zj 35 7 a0 az cx #[.bool bx,.slice bz ba.length b0,.slice b1 bb.length b2]∧[53].map f=[.int .i64 a9]) ab.2.2.2.2.length ⟨_,0,_,_,_,_,_,_,_,_,rfl,rfl,hm,aa,ac,ae,af,ad,ce,cf,ah,rfl⟩ ?_;clear hm;intro n f az hI;obtain ⟨a0,a9,bx,bz,b0,ba,b1,b2,bb,b3,hn,hl,hm,aa,ac,ae,af,ad,ai,aj,ah,hs⟩:=hI;subst hn;refine .lL [53] hs ?_
  cases b3 with
  | nil=>
   have hk:¬ ((a9:Int)<(ab.2.2.2.2.length:Int)):=by have:=List.drop_eq_nil_iff.1 hl;omega
   have hkb:=decide_eq_false hk;rw [Za3.eq_1] at hm;refine go ?_;refine X4 (congrArg Value.bool hkb)<|go ?_;refine lV _ (Z3 isAgg35 sizeOf35 ah)<|Zu ad ?_;intro e6 cg di dj;refine go ?_;cases hm;replace ai:=ai.kp cg;replace aj:=aj.kp cg;replace aa:=aa.kp cg di;exact ⟨rfl,_,Ts dj.atN,_,_,_,_,_,rfl,aa.fin (cm [(5,c1),(6,c2)]),aa.fo ai,aa.fo aj⟩
  | cons cy cz=>
   obtain ⟨an,dl,dm⟩:=Yg hl;have hk:(a9:Int)<(ab.2.2.2.2.length:Int):=by omega
   have hkb:=decide_eq_true hk;rw [Za3.eq_2] at hm;refine go ?_;refine X9 (congrArg Value.bool hkb)<|go ?_;refine lI an ((bo.ks aa).addr an) ?_;obtain ⟨_,dn,dp⟩:=(bo.ks aa).atN an;obtain ⟨⟨dq,dr,rfl,bc⟩,_⟩:=dn;refine lW dp.one<|go ?_;refine Xw ac<|Ya rfl ?_;obtain ⟨b4,ch,hm⟩:=bZ hm;refine lI ch ((bt.ks aa).addr ch) ?_;obtain ⟨_,ds,dt⟩:=(bt.ks aa).atN ch;obtain ⟨⟨du,dv,rfl,a3⟩,_⟩:=ds;refine lW dt.one<|go ?_;refine Z5 [1,10,11,2,4,51,52,53,62,63,9,1000000] (fun n f ao=>∃ ag ci b5 b6,n=b6.length∧b4.drop b5=b6∧Za4 N ab ak a9 bx ba bb (Za3 N ab ak cz) cy b6 ci=some r∧St w0 (Zk col) ag ao∧Sl (Za.pair (Za.pair Za.bool (Za.slice (Za.int .u32))) (Za.slice (Za.int .u32))) ag ao dq dr cy∧Zj 27 1 ag ao b7 #[.string ab.1,.slice bj ab.2.1.length bf,.slice bk ab.2.2.1.length bg,.slice bm ab.2.2.2.1.length bh,.slice bn ab.2.2.2.2.length bi]∧Zb (Za.int .u32) 77 3 ag ao av aw al∧Zb (Za.int .u32) 77 4 ag ao ax ay am∧Zj 35 2 ag ao b8 #[.bool a6,.slice av al.length aw,.slice ax am.length ay]∧Sl (Za.int .i64) ag ao du dv b4∧Zb (Za.int .u32) 77 5 ag ao bz b0 ba∧Zb (Za.int .u32) 77 6 ag ao b1 b2 bb∧Zj 35 7 ag ao cx #[.bool bx,.slice bz ba.length b0,.slice b1 bb.length b2]∧[64,12].map f=[.int .i64 b5,.int .i64 ci]) b4.length ⟨_,0,0,_,rfl,rfl,hm,aa,bc,ac,ae,af,ad,a3,ai,aj,ah,rfl⟩ ?_;clear hm;intro n f ao hI;obtain ⟨ag,ci,b5,b6,hn,hl,hm,aa,bc,ac,ae,af,ad,a3,ai,aj,ah,hs⟩:=hI;subst hn;refine .lL [64,12] hs ?_
   cases b6 with
   | nil=>
    have hk:¬ ((b5:Int)<(b4.length:Int)):=by have:=List.drop_eq_nil_iff.1 hl;omega
    have hkb:=decide_eq_false hk;rw [Za4.eq_1] at hm;refine go ?_;refine X4 (congrArg Value.bool hkb)<|go ?_;refine Wb (col:=ag) [(0,0),(1,1),(2,1),(3,1),(4,0),(5,1),(6,1),(7,0),(8,1),(9,1),(10,1),(11,1),(12,1),(13,0),(14,1),(15,1),(16,0),(17,3),(18,3),(19,2)] (by kernel_rfl) (by kernel_rfl)<|xv rfl rfl (fun _ hC=>Z3 isAgg35 sizeOf35 (ah.gr (hC.bl ag))) ?_;refine xu rfl rfl (fun _=>Ve rfl) ?_;refine xu rfl rfl (fun _=>Wv rfl) ?_;refine xF ⟨_,_,rfl⟩ ?_;refine xW (fun _ hC=>((ac.atN).nth (q:=2) rfl).gr (hC.bl ag)) ?_;refine xu rfl rfl (fun _=>Wv rfl) ?_;obtain ⟨e7,b9,hm⟩:=bZ hm;refine xu rfl rfl (fun _=>Y4 underlying23 sizeOf22 rfl rfl (Xh b9).1 (Xh b9).2.1 ((au.ks aa).addr b9)) ?_;obtain ⟨_,dw,dx⟩:=(au.ks aa).atN b9;obtain ⟨⟨e8,e9,rfl,fa⟩,_⟩:=dw;refine xW (fun _ hC=>dx.one.gr (hC.bl ag)) ?_;refine xu rfl rfl (fun _=>Qp underlying22 rfl) ?_;refine xu rfl rfl (fun _=>Zc2 _ _ rfl rfl) ?_;refine xu rfl rfl (fun _=>Ve rfl) ?_;refine xu rfl rfl (fun _=>Wv rfl) ?_;obtain ⟨fb,ca,hm⟩:=bZ hm;refine xu rfl rfl (fun _=>Y4 underlying39 sizeOf3 rfl rfl (Xh ca).1 (Xh ca).2.1 ((h1.ks aa).addr ca)) ?_;refine xW (fun _ hC=>((h1.ks aa).gr (hC.bl ag)).atInt ca) ?_;refine xu rfl rfl (fun _=>Sd _ _ rfl rfl) ?_;obtain ⟨cj,cb,hm⟩:=bZ hm;refine xu rfl rfl (fun _=>Y4 underlying71 sizeOf35 rfl rfl (Xh cb).1 (Xh cb).2.1 (bc.addr cb)) ?_;obtain ⟨_,dy,dz⟩:=bc.atN cb;obtain ⟨_,_,rfl,d0,d1⟩:=We dy;obtain ⟨_,_,rfl,d2,d3⟩:=We d0;obtain ⟨rfl,_⟩:=d2;obtain ⟨⟨d4,d5,rfl,ck⟩,_⟩:=d3;obtain ⟨⟨d6,d7,rfl,cl⟩,_⟩:=d1;refine xv (v:=(.agg #[.bool cj.1.1,.slice d4 cj.1.2.length d5,.slice d6 cj.2.length d7])) rfl rfl (fun _ hC=>Xc isAgg35 sizeOf35 rfl rfl (dz.gr (hC.bl ag))) ?_;refine xe rfl rfl ?_;intro fc hC0;have hC:=hC0.bl ag;obtain ⟨fd,d8,hm⟩:=bZ hm;replace ck:=ck.gr hC;replace cl:=cl.gr hC;refine Zi (Zqx d8 ck cl) ?_;rintro _ fe ⟨bq,ff,fg,fh,fi,rfl,a2,cn,co⟩;refine ⟨_,rfl,?_⟩;refine Zm<|Xr bq hC0 a2<|xe rfl rfl ?_;intro d9 hC0;replace ae:=(ae.gr hC).gr a2;replace af:=(af.gr hC).gr a2;replace ai:=(ai.gr hC).gr a2;replace aj:=(aj.gr hC).gr a2;replace ac:=(ac.gr hC).gr a2;replace ad:=(ad.gr hC).gr a2;replace ah:=(ah.gr hC).gr a2;replace aa:=(aa.grow hC).grow a2
    have hC:=hC0.bl bq;obtain ⟨fj,ea,hm⟩:=bZ hm;replace ai:=ai.gr hC;replace aj:=aj.gr hC;replace cn:=cn.gr hC;replace co:=co.gr hC;refine Zi (Zbt 8 9 ea ((ai.toSlF (Ze.int .u32)).froz 6) ((aj.froz 5 (by decide)).toSlF (Ze.int .u32)) ((cn.froz 5).froz 6) ((co.froz 5).froz 6)) ?_;rintro _ fk ⟨eb,fl,fm,fn,fp,rfl,ap,aq,ar⟩;refine ⟨_,rfl,?_⟩;replace aq:=aq.thaw (Zs .u32) ap (((Fz.refl (col:=bq)).froz 5).froz 6) (by decide);replace ar:=ar.thaw (Zs .u32) ap (((Fz.refl (col:=bq)).froz 5).froz 6) (by decide);replace ap:=ap.thawR (col:=bq);generalize Z1 d9.heap.size bq eb=cc at *;refine Zm<|Xr cc hC0 ap<|xe rfl rfl ?_;intro fq hC0;replace ae:=(ae.gr hC).gr ap;replace af:=(af.gr hC).gr ap;replace ac:=(ac.gr hC).gr ap;replace ad:=(ad.gr hC).gr ap;replace ah:=(ah.gr hC).gr ap;replace aa:=(aa.grow hC).grow ap;have hC:=hC0.bl cc;replace ah:=ah.gr hC;refine Zu ah ?_;intro fr bd ec be;refine Zm<|xk cc<|Yz ?_;replace ae:=(ae.gr hC).kp bd;replace af:=(af.gr hC).kp bd;replace aq:=(aq.gr hC).kp bd;replace ar:=(ar.gr hC).kp bd;replace ac:=(ac.gr hC).kp bd;replace ad:=(ad.gr hC).kp bd;replace aa:=(aa.grow hC).kp bd ec;intro ft hC;replace hC:=hC.bl cc;refine go ?_;replace ae:=ae.gr hC;replace ae:=ae.recol 8 5 (by decide);replace af:=af.gr hC;replace af:=af.recol 8 5 (by decide);replace aq:=aq.gr hC;replace aq:=aq.recolSelf 5 (by decide);replace ar:=ar.gr hC;replace ar:=ar.recol 8 5 (by decide);replace ac:=ac.gr hC;replace ac:=ac.recol 8 5 (by decide);replace ad:=ad.gr hC;replace ad:=ad.recol 8 5 (by decide);replace be:=be.gr hC;replace be:=be.recol 8 5 (by decide);replace aa:=aa.grow hC;replace aa:=aa.recol 8 5 (by decide) (by decide);replace ae:=ae.recol 9 6 (by decide);replace af:=af.recol 9 6 (by decide);replace aq:=aq.recol 9 6 (by decide);replace ar:=ar.recolSelf 6 (by decide);replace ac:=ac.recol 9 6 (by decide);replace ad:=ad.recol 9 6 (by decide);replace be:=be.recol 9 6 (by decide);replace aa:=aa.recol 9 6 (by decide) (by decide);exact ⟨cz.length,by simp,rfl,⟨_,_,_,_,_,_,_,_,_,_,rfl,dl,hm,aa,ac,ae,af,ad,aq,ar,be,(Ym (congrArg (Value.int .i64) (Yk (Nat.lt_of_lt_of_le dm (bo.ks aa).1.1))) rfl)⟩⟩
   | cons fu ed=>
    obtain ⟨an,ee,ef⟩:=Yg hl;have hk:(b5:Int)<(b4.length:Int):=by omega
    have hkb:=decide_eq_true hk;rw [Za4.eq_2] at hm;refine go ?_;refine X9 (congrArg Value.bool hkb)<|go ?_;refine lI an (a3.addr an)<|lW (a3.atInt an) ?_;refine go ?_;refine Vy (col:=ag) (by kernel_rfl) (by kernel_rfl)<|go ?_;refine qF ⟨_,_,rfl⟩ ?_;refine qW (fun _ hC=>((ac.atN).nth (q:=2) rfl).gr (hC.bl ag)) ?_;refine go ?_;obtain ⟨fv,cp,hm⟩:=bZ hm;refine qI cp ((au.ks aa).addr cp) ?_;obtain ⟨_,eg,eh⟩:=(au.ks aa).atN cp;obtain ⟨⟨fw,fx,rfl,fy⟩,_⟩:=eg;refine qW (fun _ hC=>eh.one.gr (hC.bl ag)) ?_;refine go ?_;obtain ⟨fz,cq,hm⟩:=bZ hm;refine qI cq ((h1.ks aa).addr cq)<|qW (fun _ hC=>((h1.ks aa).gr (hC.bl ag)).atInt cq) ?_;refine go ?_;refine Wn ?_;intro f0 hC;replace hC:=hC.bl ag;refine go ?_;replace bc:=bc.gr hC;replace ae:=ae.gr hC;replace af:=af.gr hC;replace a3:=a3.gr hC;replace ai:=ai.gr hC;replace aj:=aj.gr hC;replace ac:=ac.gr hC;replace ad:=ad.gr hC;replace ah:=ah.gr hC;replace aa:=aa.grow hC;exact ⟨ed.length,by simp,rfl,⟨_,_,_,_,rfl,ee,hm,aa,bc,ac,ae,af,ad,a3,ai,aj,ah,(Ym (congrArg (Value.int .i64) (Yk (Nat.lt_of_lt_of_le ef a3.1.1))) rfl)⟩⟩
 | cons ei c0=>
  obtain ⟨an,ej,ek⟩:=Yg hl;have hk:(a5:Int)<(ak.length:Int):=by omega
  have hkb:=decide_eq_true hk;rw [Qg.eq_2] at hm;refine go ?_;refine X9 (congrArg Value.bool hkb)<|go ?_;refine lI an ((h1.ks aa).addr an)<|lW ((h1.ks aa).atInt an)<|Yq rfl<|Yq rfl<|Zm<|Zw ?_;refine Wp.cutK [1,2,28,29,30,4,1000000] (fun f br=>∃ bs cr,Zf4 a5 a6 al am (Qg N ab ak c0) cr=some r∧St w0 (Zk col) bs br∧Zj 27 1 bs br b7 #[.string ab.1,.slice bj ab.2.1.length bf,.slice bk ab.2.2.1.length bg,.slice bm ab.2.2.2.1.length bh,.slice bn ab.2.2.2.2.length bi]∧Zb (Za.int .u32) 77 3 bs br av aw al∧Zb (Za.int .u32) 77 4 bs br ax ay am∧Zj 35 2 bs br b8 #[.bool a6,.slice av al.length aw,.slice ax am.length ay]∧[46].map f=[.bool cr]) ?_ ?_
  ·intro f br hJ;obtain ⟨bs,cr,hm,aa,ac,ae,af,ad,hs⟩:=hJ;rw [Zf4.eq_1] at hm;refine .lL [46] hs ?_;refine Zp hm (fun hb hm=>go ?_) fun hb hm=>go ?_
   ·refine lV (.agg #[.bool false,.slice none (([]:List Int).length) 0,.slice none (([]:List Int).length) 0]) (Yi (l:=[_,_]) (qs:=[(0,2),(2,1)]) underlying35 zeroValue35 ⟨rfl,sizeOf33,rfl,sizeOf31,trivial⟩ rfl)<|Zu ad ?_;intro f1 el em en;refine go ?_;cases hm;replace aa:=aa.kp el em;exact ⟨rfl,_,Ts en.atN,_,none,0,none,0,rfl,aa.fin (cm []),Zb.nil,Zb.nil⟩
   exact ⟨c0.length,by simp,rfl,⟨_,_,_,_,_,_,_,_,_,_,rfl,ej,hm,aa,ac,ae,af,ad,(Ym (congrArg (Value.int .i64) (Yk (Nat.lt_of_lt_of_le ek (h1.ks aa).1.1))) rfl)⟩⟩
  refine go ?_;refine Xz hm (fun cs hm=>go ?_) fun cs hm=>go ?_
  ·refine lV (.bool true) (Xm (congrArg Value.bool cs) rfl)<|Zm ?_;exact ⟨rfl,_,_,hm,aa,ac,ae,af,ad,rfl⟩
  refine Xo ⟨_,_,rfl⟩ ?_;refine go ?_;refine lW ((ac.atN).nth (q:=2) rfl)<|go ?_;obtain ⟨eo,ct,hm⟩:=bZ hm;refine lI ct ((au.ks aa).addr ct) ?_;refine go ?_;obtain ⟨_,ep,eq⟩:=(au.ks aa).atN ct;obtain ⟨⟨f2,f3,rfl,f4⟩,_⟩:=ep;refine lW eq.one<|go ?_;refine lV (.bool (decide ((eo.length:Int)≤ei))) (Xd (congrArg Value.bool cs) rfl)<|Zm ?_;exact ⟨rfl,_,_,hm,aa,ac,ae,af,ad,rfl⟩
def ent (n:Zz) (w:List Int) (v:Nat):Rat:=Zv ((Z6 n w v).getD (w.getD v 0).toNat ((false,[]),[]))
def Te (n:Zz) (w:List Int):List Int→Rat
 | []=>1
 | v :: l=>ent n w v.toNat * Te n w l
def Wm (n:Zz) (w:List Int):Nat→Nat→Rat→Rat
 | 0,_,q=>q
 | m+1,k,q=>Wm n w m (k+1) (q * ent n w k)
section
variable {N:Nat} {n:Zz} (hf:Yt N n) {w:List Int} (hw:X3 n w)
include hf hw
theorem Zwv {ord:List Int} (ho:Vs n.2.2.2.1 ord):∀ (l:List Int) (s:Rat×Rat),(∀ y ∈ l,y ∈ ord)→(Ye n w l s).2 - (Ye n w l s).1=(s.2 - s.1) * Te n w l
 | [],s,_=>by rw [Te,Rat.mul_one];rfl
 | v :: l,s,he=>by
  have hvr:=ho.rg v (he v List.mem_cons_self)
  rw [hf.ev.p] at hvr
  have hv:v.toNat<n.2.1.length:=by omega
  have hwv:=hw.ok v.toNat (by rw [hw.len];exact hv)
  have hq:(w.getD v.toNat 0).toNat<(Z6 n w v.toNat).length:=by rw [hf.rowT_len hw hv];omega
  have hp:=Zu4 (s.2 - s.1) (Z6 n w v.toNat) s.1 _ hq
  rw [Ye,Zwv ho l _ fun y hy=>he y (List.mem_cons_of_mem _ hy),Te,ent,Y1 hq,← Rat.mul_assoc]
  congr 1
  generalize (Xx (s.2 - s.1) (Z6 n w v.toNat) s.1).getD (w.getD v.toNat 0).toNat (0,0)=p at *
  rw [hp]
  grind
variable {W K:Nat} (hs:Wh n W) (hr:Xj N (8 * K+40)) (hWK:1025 * (W+2)+4≤K)
include hs hr hWK
omit hr hWK in
theorem Z0u {k:Nat} (hk:k<n.2.1.length):qs (ent n w k)≤W+1:=by
 have hwv:=hw.ok k (by rw [hw.len];exact hk)
 have hq:(w.getD k 0).toNat<(Z6 n w k).length:=by rw [hf.rowT_len hw hk];omega
 rw [ent,Y1 hq]
 obtain ⟨h1,h2⟩:=Ze7 hf hs hk _ (Zbk (List.getElem_mem hq))
 have:=Zl7 h1
 omega
omit hs hr hWK in
theorem Zre {k:Nat} (hk:k<n.2.1.length) (a:Bool) (b c:List Int) (kk:Nat→Bool→List Int→List Int→Option (QV×Int)) (t:List QV):∀ (ps:List Int) (r kb:Nat),(∀ q ∈ ps,0≤q∧q<(n.2.1.length:Int))→r<kb→kb≤65536→Y6 n.2.2.1 ps kb≤65536→
  Za4 N n w k a b c kk t ps (r:Int)=Za4 N n w k a b c kk t [] (Tg n w ps r:Int)
 | [],r,kb,_,_,_,_=>rfl
 | p :: ps,r,kb,hp,h1,h2,h3=>by
  obtain ⟨g1,g2,g3⟩:=Zml hf.ev hw hp h1 h2 h3
  have hpp:=hp p List.mem_cons_self
  have hwp:=hw.ok p.toNat (by rw [hw.len];omega)
  have g4:r * cnt n p.toNat≤kb * cnt n p.toNat:=Nat.mul_le_mul_right _ (by omega)
  have q1:Zn n.2.2.1 p=some (n.2.2.1.getD p.toNat []):=by
   have:=W0 (l:=n.2.2.1) [] (j:=p.toNat) (by rw [hf.ev.v];omega)
   rwa [show ((p.toNat:Nat):Int)=p by omega] at this
  have q2:Zn w p=some (w.getD p.toNat 0):=by
   have:=W0 (l:=w) 0 (j:=p.toNat) (by rw [hw.len];omega)
   rwa [show ((p.toNat:Nat):Int)=p by omega] at this
  have e1:i64.wrap ((r:Int) * ((n.2.2.1.getD p.toNat []).length:Int))=((r * cnt n p.toNat:Nat):Int):=by
   rw [show ((n.2.2.1.getD p.toNat []).length:Int)=((cnt n p.toNat:Nat):Int) from rfl,← Int.natCast_mul]
   exact Z4 (by omega)
  have e2:i64.wrap (((r * cnt n p.toNat:Nat):Int)+w.getD p.toNat 0)=((r * cnt n p.toNat+(w.getD p.toNat 0).toNat:Nat):Int):=by
   rw [Int.natCast_add,show (((w.getD p.toNat 0).toNat:Nat):Int)=w.getD p.toNat 0 by omega]
   exact Z4 (by omega)
  rw [Za4.eq_2,q1,Option.bind_some,q2,Option.bind_some,e1,e2]
  exact Zre hk a b c kk t ps _ _ (fun q hq=>hp q (List.mem_cons_of_mem _ hq)) g1 g2 g3
theorem Zrd:∀ (l:List (List QV)) (k:Nat) (q:Rat),n.2.2.2.2.drop k=l→k≤n.2.1.length→qs q≤k * (W+1)+1→Za3 N n w l k (Zq q).1.1 (Zq q).1.2 (Zq q).2=some (Zq (Wm n w l.length k q),0)
 | [],k,q,_,_,_=>rfl
 | t :: l,k,q,hd,hk,hq=>by
  have ht:=hf.ev.t
  have hle:=hf.le
  have hk1:k<n.2.2.2.2.length:=by
   rcases Nat.lt_or_ge k n.2.2.2.2.length with h | h
   ·exact h
   ·rw [List.drop_eq_nil_of_le h] at hd;cases hd
  have hv:k<n.2.1.length:=by omega
  rw [List.drop_eq_getElem_cons hk1] at hd
  obtain ⟨e1,e2⟩:=List.cons.inj hd
  have htd:n.2.2.2.2.getD k []=t:=by rw [Y1 hk1];exact e1
  have hrows:=hf.rows hv
  have hrow:=hf.row hw hv
  have hwk:=hw.ok k (by rw [hw.len];exact hv)
  have h2:=Zre hf hw hv (Zq q).1.1 (Zq q).1.2 (Zq q).2 (Za3 N n w l) t (n.2.2.2.1.getD k []) 0 1 (hf.pars hv) (by omega) (by omega) hrows.2.2
  rw [show ((0:Nat):Int)=0 from rfl] at h2
  have hj:(w.getD k 0).toNat<(Z6 n w k).length:=by rw [hf.rowT_len hw hv];omega
  have e3:i64.wrap ((Y5 n w k:Int) * ((n.2.2.1.getD k []).length:Int))=((Y5 n w k * cnt n k:Nat):Int):=by
   rw [show ((n.2.2.1.getD k []).length:Int)=((cnt n k:Nat):Int) from rfl,← Int.natCast_mul]
   exact Z4 (by omega)
  have e4:i64.wrap (((Y5 n w k * cnt n k:Nat):Int)+w.getD k 0)=((Y5 n w k * cnt n k+(w.getD k 0).toNat:Nat):Int):=by
   rw [Int.natCast_add,show (((w.getD k 0).toNat:Nat):Int)=w.getD k 0 by omega]
   exact Z4 (by omega)
  have hat:Zn t ((Y5 n w k * cnt n k+(w.getD k 0).toNat:Nat):Int)=some (Z6 n w k)[(w.getD k 0).toNat]:=by
   rw [← htd];exact Zp0 hj
  obtain ⟨y,hy⟩:∃ y,y=(Z6 n w k)[(w.getD k 0).toNat]:=⟨_,rfl⟩
  obtain ⟨y1,y2⟩:=Ze7 hf hs hv y (Zbk (hy ▸ List.getElem_mem hj))
  have he:ent n w k=Zv y:=by rw [ent,Y1 hj,hy]
  have hmul:k * (W+1)≤1024 * (W+1):=Nat.mul_le_mul_right _ (by omega)
  have hfit:Vg (W2 y):=by
   rw [W2];split
   ·exact ⟨y1.1,by simp [Zo]⟩
   ·exact y1
  have hfk:RV (W+1) (W2 y):=by
   refine ⟨hfit.1,hfit.2,?_,?_⟩
   ·rw [W2];split
    ·simp only;omega
    ·omega
   ·rw [W2];split
    ·simp
    ·omega
  have f1:Zch N ((y.1.1,y.1.2),y.2)=some (W2 y):=Zsl y1 y2 (hr.mono (by omega))
  have m1:Ul N (((Zq q).1.1,(Zq q).1.2),(Zq q).2) (((W2 y).1.1,(W2 y).1.2),(W2 y).2)=some (Zq (q * ent n w k)):=by
   have:=Zkk (Wa hq) hfk (hr.mono (by omega))
   rwa [Yx,Znu,← he] at this
  have hqs:=Zl6 q (ent n w k)
  have hqe:=Z0u hf hw hs hv
  have ih:=Zrd l (k+1) (q * ent n w k) e2 (by omega) (by rw [Nat.add_mul,Nat.one_mul];omega)
  rw [Za3.eq_2,W0 [] (by rw [hf.ev.p];exact hv),Option.bind_some,h2,← Y5,Za4.eq_1,W0 [] (by rw [hf.ev.v];exact hv),Option.bind_some,W0 0 (by rw [hw.len];exact hv),Option.bind_some,e3,e4,hat,← hy,Option.bind_some,f1,Option.bind_some,m1,Option.bind_some,List.length_cons,Wm]
  exact ih
end
theorem Zrc {N:Nat} {n:Zz} (he:Tj n) (hl:n.2.1.length≤1048576) (w:List Int) (hw:w.length=n.2.1.length):∀ (l:List Int) (k:Nat) (b:Bool) (l1 l2:List Int),w.drop k=l→k≤w.length→Qg N n w l k b l1 l2=if Vq n l k=true then Qg N n w [] w.length b l1 l2 else some (((false,([]:List Int)),([]:List Int)),3)
 | [],k,b,l1,l2,hd,h1=>by
  have:=List.drop_eq_nil_iff.1 hd
  rw [Vq,if_pos rfl,show k=w.length by omega]
 | x :: l,k,b,l1,l2,hd,h1=>by
  have hk:k<w.length:=by
   rcases Nat.lt_or_ge k w.length with h | h
   ·exact h
   ·rw [List.drop_eq_nil_of_le h] at hd;cases hd
  rw [List.drop_eq_getElem_cons hk] at hd
  obtain ⟨e1,e2⟩:=List.cons.inj hd
  rw [Qg.eq_2,Vq]
  by_cases hx:x<0
  ·rw [if_pos (decide_eq_true hx),Zf4,if_pos rfl,decide_eq_true hx];rfl
  ·rw [if_neg (by rw [decide_eq_false hx];decide),W0 [] (by rw [he.v];omega),Option.bind_some,Zf4,decide_eq_false hx]
   by_cases hc:(cnt n k:Int)≤x
   ·rw [show ((n.2.2.1.getD k []).length:Int)=(cnt n k:Int) from rfl,decide_eq_true hc,if_pos rfl];rfl
   ·rw [show ((n.2.2.1.getD k []).length:Int)=(cnt n k:Int) from rfl,decide_eq_false hc,if_neg (by decide),Zrc he hl w hw l (k+1) b l1 l2 e2 (by omega)];rfl
theorem Zzv {N W K:Nat} {n:Zz} (hf:Yt N n) (hs:Wh n W) (hr:Xj N (8 * K+40)) (hWK:1025 * (W+2)+4≤K) (hN:2000000<N) (hC:W5 N n=some 0) (w:List Int):
  ∃ p e,Zf3 N n w=some (p,e)∧((e≠0∧(decide (w.length=n.2.1.length)&&Vq n w 0)=false)∨(e=0∧X3 n w∧p=Zq (Wm n w n.2.1.length 0 1))):=by
 have hC':W5 N (n.1,n.2.1,n.2.2.1,n.2.2.2.1,n.2.2.2.2)=some 0:=hC
 have hle:=hf.le
 rw [Zf3,hC',Option.bind_some,if_neg (by decide)]
 by_cases hlen:w.length=n.2.1.length
 ·rw [if_neg (show ¬ (!decide ((w.length:Int)=(n.2.1.length:Int)))=true by rw [decide_eq_true (by omega)];decide),Zrc hf.ev (by omega) w hlen w 0 false [] [] rfl (Nat.zero_le _)]
  cases hin:Vq n w 0 with
  | false=>rw [if_neg (show ¬ false=true by decide)];exact ⟨_,3,rfl,.inl ⟨by decide,by simp⟩⟩
  | true=>
   have hw:=Z1a hlen hin
   have h2:=Zrd hf hw hs hr hWK n.2.2.2.2 0 1 rfl (Nat.zero_le _) (by rw [Zpj];omega)
   rw [if_pos rfl,Qg.eq_1,Zo0 (hr.mono (by omega)),Option.bind_some,h2,hf.ev.t]
   exact ⟨_,0,rfl,.inr ⟨rfl,hw,rfl⟩⟩
 ·rw [if_pos (show (!decide ((w.length:Int)=(n.2.1.length:Int)))=true by rw [decide_eq_false (by omega)];rfl)]
  exact ⟨_,60,rfl,.inl ⟨by decide,by rw [decide_eq_false hlen];rfl⟩⟩
theorem Z2j {n:Zz} {l:List Int} (ho:Ut n.2.2.2.1 l) (hl:l.length=n.2.2.2.1.length) (hp:n.2.2.2.1.length=n.2.1.length):∀ i,i<n.2.1.length→(i:Int) ∈ l:=fun i hi=>by
 apply Classical.byContradiction
 intro hn
 have h1:=Zg5 (l:=(i:Int) :: l) (r:=(List.range n.2.2.2.1.length).map fun j:Nat=>(j:Int)) (List.nodup_cons.2 ⟨hn,ho.1⟩) fun x hx=>by
  rw [List.mem_map]
  rcases List.mem_cons.1 hx with rfl | hx
  ·exact ⟨i,List.mem_range.2 (by omega),rfl⟩
  ·have:=ho.2.1 x hx
   exact ⟨x.toNat,List.mem_range.2 (by omega),by omega⟩
 rw [List.length_map,List.length_range,List.length_cons] at h1
 omega
theorem Z1b {n:Zz} {w:List Int} (hd:X3 n w):(decide (w.length=n.2.1.length)&&Vq n w 0)=true:=by
 have:∀ (l:List Int) (j:Nat),w.drop j=l→Vq n l j=true:=by
  intro l
  induction l with
  | nil=>intro j _;rfl
  | cons x l ihl=>
   intro j hj
   have hjl:j<w.length:=by
    rcases Nat.lt_or_ge j w.length with h | h
    ·exact h
    ·rw [List.drop_eq_nil_of_le h] at hj;cases hj
   rw [List.drop_eq_getElem_cons hjl] at hj
   obtain ⟨a1,a2⟩:=List.cons.inj hj
   have hok:=hd.ok j hjl
   rw [Y1 hjl,a1] at hok
   rw [Vq,ihl (j+1) a2,decide_eq_false (by omega),decide_eq_false (by omega)];rfl
 rw [this w 0 (by rw [List.drop_zero]),Bool.and_true]
 exact decide_eq_true hd.len
/-! the probability is the interval's length -/
theorem Z2q {n:Zz} {w:List Int} {l r:List Int} (h:l.Perm r):Te n w l=Te n w r:=by
 induction h with
 | nil=>rfl
 | cons x _ ih=>rw [Te,Te,ih]
 | swap x y l=>rw [Te,Te,Te,Te,← Rat.mul_assoc,← Rat.mul_assoc,Rat.mul_comm (ent n w y.toNat)]
 | trans _ _ h1 h2=>rw [h1,h2]
theorem Zu7 (n:Zz) (w:List Int):∀ (m k:Nat) (q:Rat),Wm n w m k q=q * Te n w ((List.range' k m).map fun i:Nat=>(i:Int))
 | 0,k,q=>by rw [Wm,List.range'_zero,List.map_nil,Te,Rat.mul_one]
 | m+1,k,q=>by rw [Wm,Zu7 n w m,List.range'_succ,List.map_cons,Te,Int.toNat_natCast,Rat.mul_assoc]
theorem Z2l {n:Zz} {ord:List Int} (he:Tj n) (ho:Vs n.2.2.2.1 ord) (hall:∀ i,i<n.2.1.length→(i:Int) ∈ ord):ord.Perm ((List.range' 0 n.2.1.length).map fun i:Nat=>(i:Int)):=by
 refine (List.perm_ext_iff_of_nodup ho.nd ?_).2 fun x=>?_
 ·rw [← List.range_eq_range']
  refine List.Pairwise.map _ (fun a b hab=>?_) List.nodup_range
  intro h;exact hab (Int.ofNat.inj h)
 ·rw [List.mem_map]
  constructor
  ·intro hx
   have:=ho.rg x hx
   rw [he.p] at this
   exact ⟨x.toNat,by rw [List.mem_range'_1];omega,by omega⟩
  ·rintro ⟨i,hi,rfl⟩
   rw [List.mem_range'_1] at hi
   exact hall i (by omega)
section
variable {N:Nat} {n:Zz} (hf:Yt N n) {ord:List Int} (ho:Vs n.2.2.2.1 ord)
include hf ho
theorem Z36 {w:List Int} (hw:X3 n w) (hall:∀ i,i<n.2.1.length→(i:Int) ∈ ord):(Ye n w ord (0,1)).2 - (Ye n w ord (0,1)).1=Wm n w n.2.1.length 0 1:=by
 have h:=Zwv hf hw ho ord (0,1) fun _ h=>h
 have e:((0:Rat),(1:Rat)).2 - ((0:Rat),(1:Rat)).1=1:=by show (1:Rat) - 0=1;grind
 rw [e,Rat.one_mul] at h
 rw [h,Zu7,Rat.one_mul,Z2q (Z2l hf.ev ho hall)]
/-! a point of an interval -/
theorem Zr1 {x:Rat×Rat} {w:List Int} (hw:X3 n w):∀ (l pre u:List Int) (s:Rat×Rat),ord=pre++l→X3 n u→(∀ p ∈ pre,u.getD p.toNat 0=w.getD p.toNat 0)→s.1≤s.2→(Ye n w l s).1≤x.1→x.1<(Ye n w l s).2→x.2≤(Ye n w l s).2→
  ∃ u',So n (fun P=>U8 (Qx x) P 0 (-1)) l u s=some (u',Ye n w l s)∧X3 n u'∧∀ p ∈ ord,u'.getD p.toNat 0=w.getD p.toNat 0
 | [],pre,u,s,he,hu,hag,hs,h1,h3,h2=>⟨u,rfl,hu,by rw [he,List.append_nil];exact hag⟩
 | v :: l,pre,u,s,he,hu,hag,hs,h1,h3,h2=>by
  have hsub:∀ y ∈ l,y ∈ ord:=fun y hy=>by rw [he];simp [hy]
  have hvr:=ho.rg v (by rw [he];simp)
  rw [hf.ev.p] at hvr
  obtain ⟨k,rfl⟩:∃ k:Nat,v=(k:Int):=⟨v.toNat,by omega⟩
  have hv:k<n.2.1.length:=by omega
  have hpar:∀ p ∈ n.2.2.2.1.getD k [],u.getD p.toNat 0=w.getD p.toNat 0:=fun p hp=>hag p (ho.up pre k l he p (by rw [Int.toNat_natCast];exact hp))
  have hrow:Y5 n u k=Y5 n w k:=Zmk _ _ hpar
  have hrT:Z6 n u k=Z6 n w k:=by rw [Z6,Z6,hrow]
  have hwk:=hw.ok k (by rw [hw.len];exact hv)
  obtain ⟨q,hq⟩:∃ q:Nat,w.getD k 0=(q:Int):=⟨(w.getD k 0).toNat,by omega⟩
  have hql:q<(Z6 n w k).length:=by rw [hf.rowT_len hw hv];omega
  have hlong:0≤s.2 - s.1:=by rw [Rat.le_iff_sub_nonneg] at hs;exact hs
  have hent:∀ y ∈ Z6 n w k,0≤Zv y:=fun y hy=>(hf.ent hv y (Zbk hy)).1
  rw [Ye,Int.toNat_natCast,hq,Int.toNat_natCast] at h1 h2 h3
  obtain ⟨p1,p2,p3⟩:=Zu0 hf hw hv hs (Zg4 (by rw [Zbl];exact hql))
  obtain ⟨g1,g2,g3⟩:=Zhc hf ho hw l _ hsub p2
  have hpick:U8 (Qx x) (Xx (s.2 - s.1) (Z6 n w k) s.1) 0 (-1)=(q:Int):=by
   have:=Ztd (c:=Qx x) (Xx (s.2 - s.1) (Z6 n w k) s.1) 0 (-1) q (by rw [Zbl];exact hql) (Zdd.2 ⟨Rat.le_trans g1 h1,Std.lt_of_lt_of_le h3 g3,Rat.le_trans h2 g3⟩) fun i hi hil=>?_
   ·rw [this,Nat.zero_add]
   ·rw [Bool.eq_false_iff]
    intro g
    have hsep:=Zu5 hlong (Z6 n w k) s.1 q i hent hi (by rwa [Zbl] at hil)
    have:=(Zdd.1 g).1
    exact absurd (Std.lt_of_lt_of_le h3 (Rat.le_trans g3 hsep)) (Rat.not_lt.2 this)
  have ih:=Zr1 hw l (pre++[(k:Int)]) (u.set k q) _ (by rw [he,List.append_assoc];rfl) (hu.set (v:=k) (by omega)) (fun p hp=>?_) p2 h1 h3 h2
  ·obtain ⟨u',e1,e2,e3⟩:=ih
   refine ⟨u',?_,e2,e3⟩
   rw [So,Ye,Int.toNat_natCast,hrT]
   simp only [hpick]
   rw [if_neg (by omega),Int.toNat_natCast,hq,Int.toNat_natCast]
   exact e1
  ·rcases List.mem_append.1 hp with hp | hp
   ·rw [Uk u 0 k _ _ (by rw [hu.len];exact hv)]
    split
    ·rename_i e;rw [e,hq]
    ·exact hag p hp
   ·rw [List.mem_singleton] at hp
    rw [hp,Int.toNat_natCast,Uk u 0 k _ _ (by rw [hu.len];exact hv),if_pos rfl,hq]
/-! each number has its part -/
omit hf ho in
theorem Zu1 {long:Rat} (x:Rat):∀ (t:List QV) (a:Rat),a≤x→x<a+long * Yy t→∃ j,j<t.length∧((Xx long t a).getD j (0,0)).1≤x∧x<((Xx long t a).getD j (0,0)).2
 | [],a,h1,h2=>by
  have e:a+long * Yy []=a:=by rw [Yy,List.map_nil,List.sum_nil];grind
  rw [e] at h2
  exact absurd h1 (Rat.not_le.2 h2)
 | y :: t,a,h1,h2=>by
  have e:a+long * Yy (y :: t)=a+long * Zv y+long * Yy t:=by
   rw [Yy,List.map_cons,List.sum_cons,← Yy,Rat.mul_add,Rat.add_assoc]
  rw [e] at h2
  by_cases h:x<a+long * Zv y
  ·exact ⟨0,by simp,by rw [Xx,List.getD_cons_zero];exact ⟨h1,h⟩⟩
  ·obtain ⟨j,j1,j2⟩:=Zu1 x t _ (Rat.not_lt.1 h) h2
   exact ⟨j+1,by simpa using j1,by rw [Xx,List.getD_cons_succ];exact j2⟩
theorem Zro {x:Rat}:∀ (l pre u:List Int) (s:Rat×Rat),ord=pre++l→X3 n u→s.1≤x→x<s.2→∃ w,X3 n w∧(∀ p ∈ pre,w.getD p.toNat 0=u.getD p.toNat 0)∧(Ye n w l s).1≤x∧x<(Ye n w l s).2
 | [],pre,u,s,he,hu,h1,h2=>⟨u,hu,fun _ _=>rfl,h1,h2⟩
 | v :: l,pre,u,s,he,hu,h1,h2=>by
  have hvr:=ho.rg v (by rw [he];simp)
  rw [hf.ev.p] at hvr
  obtain ⟨k,rfl⟩:∃ k:Nat,v=(k:Int):=⟨v.toNat,by omega⟩
  have hv:k<n.2.1.length:=by omega
  have e:s.1+(s.2 - s.1) * Yy (Z6 n u k)=s.2:=by rw [Zwz hf hu hv];grind
  obtain ⟨q,q1,q2,q3⟩:=Zu1 (long:=s.2 - s.1) x (Z6 n u k) s.1 h1 (by rw [e];exact h2)
  have hqc:q<cnt n k:=by rwa [hf.rowT_len hu hv] at q1
  have hset:=hu.set (v:=k) (k:=(q:Int)) (by omega)
  obtain ⟨w,w1,w2,w3⟩:=Zro l (pre++[(k:Int)]) (u.set k q) _ (by rw [he,List.append_assoc];rfl) hset q2 q3
  have hwk:w.getD k 0=(q:Int):=by
   have:=w2 (k:Int) (by simp)
   rw [Int.toNat_natCast,Uk u 0 k _ _ (by rw [hu.len];exact hv),if_pos rfl] at this
   exact this
  have hkp:(k:Int) ∉ pre:=fun h=>by
   have hn:=ho.nd
   rw [he,List.nodup_append] at hn
   exact hn.2.2 _ h _ List.mem_cons_self rfl
  have hag:∀ p ∈ pre,w.getD p.toNat 0=u.getD p.toNat 0:=fun p hp=>by
   have:=w2 p (List.mem_append_left _ hp)
   rw [Uk u 0 k _ _ (by rw [hu.len];exact hv),if_neg (fun h=>hkp (by
    have hp0:=ho.rg p (by rw [he];simp [hp])
    have:p=(k:Int):=by omega
    rwa [this] at hp))] at this
   exact this
  have hrT:Z6 n w k=Z6 n u k:=by
   have hrow:Y5 n w k=Y5 n u k:=Zmk _ _ fun p hp=>hag p (ho.up pre k l he p (by rw [Int.toNat_natCast];exact hp))
   rw [Z6,Z6,hrow]
  refine ⟨w,w1,hag,?_⟩
  rw [Ye,Int.toNat_natCast,hrT,hwk,Int.toNat_natCast]
  exact w3
theorem Zz4 {x:Rat} (h1:0≤x) (h2:x<1):∃ w,X3 n w∧(Ye n w ord (0,1)).1≤x∧x<(Ye n w ord (0,1)).2:=by
 obtain ⟨w,w1,_,w3⟩:=Zro hf ho ord [] (List.replicate n.2.1.length 0) (0,1) rfl (X3.zero hf.ev) h1 h2
 exact ⟨w,w1,w3⟩
variable (hall:∀ i,i<n.2.1.length→(i:Int) ∈ ord)
include hall
theorem Znr {x:Rat×Rat} {w:List Int} (hw:X3 n w) (h1:(Ye n w ord (0,1)).1≤x.1) (h3:x.1<(Ye n w ord (0,1)).2) (h2:x.2≤(Ye n w ord (0,1)).2):So n (fun P=>U8 (Qx x) P 0 (-1)) ord (List.replicate n.2.1.length 0) (0,1)=some (w,Ye n w ord (0,1)):=by
 obtain ⟨u,e1,e2,e3⟩:=Zr1 hf ho hw ord [] (List.replicate n.2.1.length 0) (0,1) rfl (X3.zero hf.ev) (by simp) (show (0:Rat)≤1 by decide) h1 h3 h2
 have:u=w:=by
  refine List.ext_getElem (by rw [e2.len,hw.len]) fun i g1 g2=>?_
  have:=e3 (i:Int) (hall i (by rw [← e2.len];exact g1))
  rwa [Int.toNat_natCast,Y1 g1,Y1 g2] at this
 rw [e1,this]
theorem Z35 {x:Rat} {w u:List Int} (hw:X3 n w) (hu:X3 n u) (w1:(Ye n w ord (0,1)).1≤x) (w2:x<(Ye n w ord (0,1)).2) (u1:(Ye n u ord (0,1)).1≤x) (u2:x<(Ye n u ord (0,1)).2):w=u:=by
 have a:=Znr hf ho hall (x:=(x,x)) hw w1 w2 (Rat.le_of_lt w2)
 have b:=Znr hf ho hall (x:=(x,x)) hu u1 u2 (Rat.le_of_lt u2)
 rw [a,Option.some.injEq,Prod.mk.injEq] at b
 exact b.1
end
theorem Z0q:Wo Tryz.prog 3 1 8:=⟨Tryz.t3,_,rfl,rfl,rfl,rfl,rfl⟩
def Zc0 (aa:List Int):Option R2:=
  Z0 ((([]:List Int).length+aa.length) * 8≤140737488355328∧([]:List Int).length+aa.length≤maxLen) (some (([]:List Int)++aa))
theorem Zne {ad:Nat} {a0:Option Addr} {col:Zd} {w0:World} {ac r:R2} (c1:Nat) (hm:Zc0 ac=some r) (h0:Sl (Za.int .i64) col w0 a0 ad ac):
    Calls Tryz.prog 54 #[.slice a0 ac.length ad] w0 (fun e w'=>∃ (col':Zd) (ra1:Option Addr) (rc2:Nat),e= .returned ((.slice ra1 r.length rc2))∧Zg col w0 col' w'∧Zb (Za.int .i64) 3 c1 col' w' ra1 rc2 r):=by
 refine Xl 2 (m:=8) func54 rfl rfl rfl rfl rfl ?_;rw [Zc0.eq_1] at hm;have aa:=St.start col w0;refine go ?_;replace h0:=h0.keep (Zl.start col w0);rcases Zo5 h0 with ab | ab
 ·replace hm:some ([]:List Int)=some r:=by have h0:=ab.2;subst h0;simpa [Z0,maxLen] using hm
  refine lv (v:=.bool a0.isNone) rfl rfl (Zg7 underlying39 rfl)<|.ld (d:=4) (v:=.bool true) (congrArg Value.bool ab.1)<|Zm<|X9 rfl<|go ?_;cases hm;exact ⟨rfl,_,none,0,rfl,aa.fin (cm []),Zb.nil⟩
 refine lv (v:=.bool a0.isNone) rfl rfl (Zg7 underlying39 rfl)<|.ld (d:=4) (v:=.bool false) (congrArg Value.bool ab)<|Zm<|X4 rfl<|go ?_;refine Zko (col:=(Zk col)) (r:=(Za.int .i64)) 1 rfl underlying39 Z0q rfl ?_;intro aj ak al ae af;refine Wk rfl ?_;obtain ⟨ag,hm⟩:=Z2 hm;replace h0:=h0.gr ae;refine Vv af h0.srcC ag ?_;intro am an ao ap ah ai;refine go ?_;cases hm;replace aa:=(aa.grow ae).kpp ah;exact ⟨rfl,_,_,_,rfl,aa.fin (cm [(1,c1)]),aa.fo ai⟩
def Zbi:List Int→Int→Option Rb
  | [],aa=>some (aa,0)
  | ab :: ac,aa=>Z0 (aa≠0) (if (decide ((i64.wrap (Int.tdiv 2147483647 aa))<ab))=true then (some (0,4)) else ((Zbi ac) (i64.wrap (aa * ab))))
termination_by structural x=>x
def Zi1 (kk_L1:(Bool→Option Rb)) (aa:Bool):Option Rb:=
  kk_L1 aa
def Zai (aa:List Int):List Int→Bool→Option Rb
  | [],ab=>if ab=true then (some (0,0)) else (Zbi aa 1)
  | ac :: ad,ab=>if (decide (ac<0))=true then (some (0,3)) else (if ab=true then (Zi1 (Zai aa ad) true) else (Zi1 (Zai aa ad) (decide (ac=0))))
termination_by structural x=>x
def Zg0 (aa:List Int):Option Rb:=
  Zai aa aa false
theorem Zq7 {ai:Nat} {a0:Option Addr} {col:Zd} {w0:World} {ab:R2} {r:Rb} (hm:Zg0 ab=some r) (h0:Sl (Za.int .i64) col w0 a0 ai ab):
    Calls Tryz.prog 106 #[.slice a0 ab.length ai] w0 (fun e w'=>e= .returned (.tuple #[.int .i64 r.1,.int .i64 r.2])∧Below w0.heap.size w0 w'):=by
 refine Zbv 2 3 (m:=40) (args:=[.slice a0 ab.length ai]) func106 rfl rfl rfl rfl rfl ?_;rw [Zg0.eq_1] at hm;have aa:=St.start col w0;refine go ?_;refine Z5 [0,10,11,1000000] (fun n f am=>∃ an ad aj ae,n=ae.length∧ab.drop ad=ae∧Zai ab ae aj=some r∧St w0 (Zk col) an am∧[12,4].map f=[.int .i64 ad,.bool aj]) ab.length ⟨_,0,_,_,rfl,rfl,hm,aa,rfl⟩ ?_;clear hm;intro n f am hI;obtain ⟨an,ad,aj,ae,hn,hl,hm,aa,hs⟩:=hI;subst hn;refine .lL [12,4] hs ?_;replace h0:=h0.keep (Zl.start col w0)
 cases ae with
 | nil=>
  have hk:¬ ((ad:Int)<(ab.length:Int)):=by have:=List.drop_eq_nil_iff.1 hl;omega
  have hkb:=decide_eq_false hk;rw [Zai.eq_1] at hm;refine go ?_;refine X4 (congrArg Value.bool hkb)<|go ?_;refine Zp hm (fun hb hm=>go ?_) fun hb hm=>go ?_
  ·cases hm;exact ⟨rfl,rfl,aa.below⟩
  refine Z5 [25,26,1000000] (fun n f ao=>∃ ap af ag ah,n=ah.length∧ab.drop af=ah∧Zbi ah ag=some r∧St w0 (Zk col) ap ao∧[27,7].map f=[.int .i64 af,.int .i64 ag]) ab.length ⟨_,0,1,_,rfl,rfl,hm,aa,rfl⟩ ?_;clear hm;intro n f ao hI;obtain ⟨ap,af,ag,ah,hn,hl,hm,aa,hs⟩:=hI;subst hn;refine .lL [27,7] hs ?_
  cases ah with
  | nil=>
   have hk:¬ ((af:Int)<(ab.length:Int)):=by have:=List.drop_eq_nil_iff.1 hl;omega
   have hkb:=decide_eq_false hk;rw [Zbi.eq_1] at hm;refine go ?_;refine X4 (congrArg Value.bool hkb)<|go ?_;cases hm;exact ⟨rfl,rfl,aa.below⟩
  | cons a3 av=>
   obtain ⟨ac,aw,ax⟩:=Yg hl;have hk:(af:Int)<(ab.length:Int):=by omega
   have hkb:=decide_eq_true hk;rw [Zbi.eq_2] at hm;refine go ?_;refine X9 (congrArg Value.bool hkb)<|go ?_;refine lI ac ((h0.ks aa).addr ac)<|lW ((h0.ks aa).atInt ac) ?_;refine go ?_;obtain ⟨ay,hm⟩:=Z2 hm;refine lV (.int .i64 (i64.wrap (Int.tdiv 2147483647 ag))) (W9 2147483647 ag rfl rfl ay)<|go ?_;refine Zp hm (fun hb hm=>go ?_) fun hb hm=>go ?_
   ·cases hm;exact ⟨rfl,rfl,aa.below⟩
   exact ⟨av.length,by simp,rfl,⟨_,_,_,_,rfl,aw,hm,aa,(Ym (congrArg (Value.int .i64) (Yk (Nat.lt_of_lt_of_le ax (h0.ks aa).1.1))) rfl)⟩⟩
 | cons az aq=>
  obtain ⟨ac,a1,a2⟩:=Yg hl;have hk:(ad:Int)<(ab.length:Int):=by omega
  have hkb:=decide_eq_true hk;rw [Zai.eq_2] at hm;refine go ?_;refine X9 (congrArg Value.bool hkb)<|Yd<|Zw ?_;refine Wp.cutK [0,10,11,12,1000000] (fun f ar=>∃ au ak,Zi1 (Zai ab aq) ak=some r∧St w0 (Zk col) au ar∧[4].map f=[.bool ak]) ?_ ?_
  ·intro f ar hJ;obtain ⟨au,ak,hm,aa,hs⟩:=hJ;rw [Zi1.eq_1] at hm;refine .lL [4] hs<|go ?_;exact ⟨aq.length,by simp,rfl,⟨_,_,_,_,rfl,a1,hm,aa,(Ym (congrArg (Value.int .i64) (Yk (Nat.lt_of_lt_of_le a2 (h0.ks aa).1.1))) rfl)⟩⟩
  refine go ?_;refine lI ac ((h0.ks aa).addr ac)<|lW ((h0.ks aa).atInt ac) ?_;refine go ?_;refine Zp hm (fun hb hm=>go ?_) fun hb hm=>go ?_
  ·cases hm;exact ⟨rfl,rfl,aa.below⟩
  refine Xz hm (fun al hm=>go ?_) fun al hm=>go ?_
  ·refine lV (.bool true) (Xm (congrArg Value.bool al) rfl)<|go ?_;exact ⟨rfl,_,_,hm,aa,rfl⟩
  refine lV (.bool (decide (az=0))) (Xd (congrArg Value.bool al) rfl)<|go ?_;exact ⟨rfl,_,_,hm,aa,rfl⟩
def Zcx (N:Nat) (ab:List Int):Nat→Int→Option Ri
  | 0,_=>none
  | ac+1,aa=>if (decide (0≤aa))=true then ((Zn ab aa).bind fun ad=>((Zcx N ab ac) (i64.wrap (aa - 1))).bind fun ae=>some ((aa,ad) :: ae)) else (some [])
termination_by structural x=>x
def Zln (N:Nat) (aa:List Int):Option Ri:=
  Zcx N aa N (i64.wrap ((aa.length:Int) - 1))
theorem Zze (N:Nat) (col:Zd) (w0:World) (g0:Nat) (af0:Option Addr) (capf0:Nat) (ab:List Int) (hf0:Sl (Za.int .i64) col w0 af0 capf0 ab) (hb0:Zj 39 450 col w0 g0 #[.slice af0 ab.length capf0]) (r:List Rb) (hm:Zln N ab=some r):
    Zhh Tryz.prog 1 177 [.pointer (some ⟨g0,0,none⟩)] (fun (y:Int×Int) (col:Zd) (w:World) (args:List Value)=>args=[.int .i64 y.1,.int .i64 y.2]) r col w0:=by
 intro l J X hjs hxs hy aa;refine Ze6 (m:=19) (args:=[.func (.yield l) #[] #[],.pointer (some ⟨g0,0,none⟩)]) func177 rfl rfl rfl rfl ?_;rw [Zln.eq_1] at hm;refine go ?_;refine lW hb0.at1<|go ?_;refine Z5 [0,1,1000000] (fun n f ad=>∃ ae r af ac,ac=n∧Zcx N ab ac af=some r∧J r ae ad∧Sl (Za.int .i64) ae ad af0 capf0 ab∧Zj 39 450 ae ad g0 #[.slice af0 ab.length capf0]∧[3].map f=[.int .i64 af]) N ⟨_,_,_,_,rfl,hm,aa,hf0,hb0,rfl⟩ ?_;clear hm;intro n f ad hI;obtain ⟨ae,r,af,ac,hn,hm,aa,hf0,hb0,hs⟩:=hI;subst hn;refine .lL [3] hs ?_
 cases ac with
 | zero=>rw [Zcx.eq_1] at hm;cases hm
 | succ ac=>
  rw [Zcx.eq_2] at hm;refine go ?_;refine Zp hm (fun hb hm=>go ?_) fun hb hm=>go ?_
  ·refine lM (.func (.yield l) #[] #[])<|Ya rfl<|lW hb0.at1<|Ya rfl ?_;obtain ⟨ai,ag,hm⟩:=bZ hm;refine lI ag (hf0.addr ag)<|lW (hf0.atInt ag) ?_;obtain ⟨ak,hc_8m,aj⟩:=bZ hm;cases aj;have hm:=hc_8m;refine ly2 rfl rfl rfl rfl (hy _ _ _ _ [.int .i64 af,.int .i64 ai] aa rfl) ?_;rintro _ al ⟨am,ah,⟨rfl,hJ⟩ | ⟨rfl,hX⟩⟩
   ·refine ⟨_,rfl,?_⟩;have aa:=hJ;refine go ?_;refine X4 rfl<|go ?_;replace hf0:=hf0.kpp ah;replace hb0:=hb0.kpp ah;exact ⟨ac,by omega,rfl,⟨_,_,_,_,rfl,hm,aa,hf0,hb0,rfl⟩⟩
   refine ⟨_,rfl,?_⟩;have aa:=hX;refine go ?_;refine X9 rfl<|Wx ?_;exact ⟨rfl,⟨_,rfl⟩,_,.inr aa⟩
  cases hm;exact ⟨rfl,⟨_,rfl⟩,_,.inl aa⟩
def Zlm (N:Nat) (aa:List Int):Option Ri:=
  Zln N aa
theorem Zzd {N ac:Nat} {a0:Option Addr} {col:Zd} {w0:World} {aa:R2} {r:Ri} (hm:Zlm N aa=some r) (h0:Sl (Za.int .i64) col w0 a0 ac aa):
    Calls Tryz.prog 157 #[.slice a0 aa.length ac] w0 (fun e w'=>∃ (col':Zd) (rv1:Value),e= .returned (rv1)∧Zg col w0 col' w'∧It Tryz.prog 1 rv1 (fun (y:Int×Int) (col:Zd) (w:World) (args:List Value)=>args=[.int .i64 y.1,.int .i64 y.2]) r q0 col' w'):=by
 refine Xl 2 (m:=4) func157 rfl rfl rfl rfl rfl ?_;rw [Zlm.eq_1] at hm;have ab:=St.start col w0;refine go ?_;refine Zde (col:=(Zk col)) (v:=(.slice a0 aa.length ac)) 1 rfl rfl ?_;intro ad ai ag aj ae;replace ae:Zj 39 1 ag ai ad #[.slice a0 aa.length ac]:=ae;refine lv (v:=_) rfl rfl (Vx rfl)<|go ?_;refine lV (.func (.func 177) #[] #[.pointer (some ⟨ad,0,none⟩)]) (Zma rfl)<|lA (.func (.func 177) #[] #[.pointer (some ⟨ad,0,none⟩)])<|go ?_;replace ab:=ab.grow aj;have af:=ab.finBox (G:=(fun n=>bif Nat.beq n 1 then 450 else 0)) ae (by decide) (by decide) (show (fun n=>bif Nat.beq n 1 then 450 else 0) 1=450 from rfl);replace h0:=h0.keep (Zl.start col w0);have h0f:=ab.finSl (g:=(fun n=>bif Nat.beq n 1 then 450 else 0)) rfl (h0.ks ab);refine ⟨rfl,V2 w0.heap.size col ag (fun n=>bif Nat.beq n 1 then 450 else 0),_,rfl,ab.fin (fun n=>bif Nat.beq n 1 then 450 else 0),177,[.pointer (some ⟨ad,0,none⟩)],rfl,call177,?_⟩;intro col9 w9 ah hk9;replace af:=af.itk ah hk9 rfl;replace h0f:=h0f.itk ah hk9 rfl;exact Zze N col9 w9 ad a0 ac aa h0f af r hm
def Zcw:List Rb→Int→R2→Option R2
  | [],ac,ab=>some ab
  | aa :: ad,ac,ab=>Z0 (aa.2≠0) ((Zn ab aa.1).bind fun af=>(some (ab.set (Int.toNat aa.1) (Int.tmod ac aa.2))).bind fun ae=>Z0 (aa.2≠0) ((Zcw ad) (i64.wrap (Int.tdiv ac aa.2)) ae))
termination_by structural x=>x
def Zi2 (N:Nat) (aa:List Int) (ab:Int):Option R2:=
  if (decide ((aa.length:Int)=0))=true then (some ([]:List Int)) else (Z0 (aa.length * 8≤281474976710656∧aa.length≤maxLen) ((Zlm N aa).bind fun ac=>Zcw ac ab (List.replicate aa.length (0:Int))))
theorem Zzc {N a1:Nat} {a0:Option Addr} {col:Zd} {w0:World} {ag:R2} {am:Int} {r:R2} (c1:Nat) (hm:Zi2 N ag am=some r) (h0:Sl (Za.int .i64) col w0 a0 a1 ag):
    Calls Tryz.prog 109 #[.slice a0 ag.length a1,.int .i64 am] w0 (fun e w'=>∃ (col':Zd) (ra1:Option Addr) (rc2:Nat),e= .returned ((.slice ra1 r.length rc2))∧Zg col w0 col' w'∧Zb (Za.int .i64) 3 c1 col' w' ra1 rc2 r):=by
 refine Zzu 4 (mc:=499) (m:=28) (args:=[.slice a0 ag.length a1,.int .i64 am]) func109 rfl rfl rfl rfl rfl ?_;rw [Zi2.eq_1] at hm;have aa:=St.start col w0;replace h0:=h0.keep (Zl.start col w0);have hmk:Yp 499 (Zk col) w0 []:=.nil;refine go ?_;refine Zde (col:=(Zk col)) (v:=(.int .i64 am)) 1 rfl rfl ?_;intro a2 a9 a3 ba ac;replace ac:Zj 3 1 a3 a9 a2 #[.int .i64 am]:=ac;refine go ?_;replace hmk:=hmk.gr ba;replace aa:=aa.grow ba;refine Zp hm (fun hb hm=>go ?_) fun hb hm=>go ?_
 ·cases hm;refine ⟨_,[],rfl,hmk,?_⟩;intro bz bh bi;replace aa:=aa.kp bh bi;exact ⟨V2 w0.heap.size col a3 (fun n=>0),none,0,rfl,aa.fin (fun n=>0),Zb.nil⟩
 obtain ⟨bb,hm⟩:=Z2 hm;refine To (col:=a3) (w:=a9) (r:=(Za.int .i64)) (n:=ag.length) (x0:=0) 2 rfl underlying39 Tryz.t3 rfl rfl rfl rfl rfl rfl rfl bb.1 bb.2 (Se .i64 0) ?_;intro a4 b0 bj a5 a6;refine Zat (col:=bj) (v:=(.slice none (([]:List Int).length) 0)) 3 rfl zeroValue39 ?_;intro ar bk bc au a7;replace a7:Zj 39 3 bc bk ar #[.slice none (([]:List Int).length) 0]:=a7;refine Ux (v:=(.slice a4 ((List.replicate ag.length (0:Int)).length) ag.length)) a7 sizeOf39 rfl rfl (by intro u hu;simp only [Value.cells,List.mem_cons,List.not_mem_nil,or_false] at hu;subst hu;rfl) rfl rfl ?_;intro bm av bn ab;replace ab:Zj 39 3 bc bm ar #[.slice a4 ((List.replicate ag.length (0:Int)).length) ag.length]:=ab;refine go ?_;obtain ⟨bo,bp,hm⟩:=bZ hm;replace aa:=((aa.grow a5).grow au).kp av bn;refine Zi (Zzd bp (h0.ks aa)) ?_;rintro _ b1 ⟨bq,b2,rfl,aq,br⟩;refine ⟨_,rfl,go ?_⟩;replace ac:=(((ac.gr a5).gr au).kp av).gr aq;replace hmk:=(((hmk.gr a5).gr au).kp av).gr aq;replace a6:=((a6.gr au).kp av).gr aq;replace ab:=ab.gr aq;replace aa:=aa.grow aq;refine Zms (psl:=[16,17]) (arr:=(fun (y:Int×Int) (col:Zd) (w:World) (args:List Value)=>args=[.int .i64 y.1,.int .i64 y.2])) (ys:=bo) (col:=bq) 498 rfl br rfl hmk rfl rfl (by rintro _ _ _ _ rfl;rfl) (fun ys_ ad al=>∃ (ae:Int) (ai:Option Addr) (aj:Nat) (ak:List Int),Zcw ys_ ae ak=some r∧St w0 (Zk col) ad al∧Zj 3 1 ad al a2 #[.int .i64 ae]∧Zb (Za.int .i64) 3 2 ad al ai aj ak∧Zj 39 3 ad al ar #[.slice ai ak.length aj]) (fun _ _ _=>False) ?_ ?_ ⟨am,a4,ag.length,(List.replicate ag.length (0:Int)),hm,aa,ac,a6,ab⟩ ?_ ?_ ?_
 ·intro ys_ ad al col2_ w2_ hJ hk;obtain ⟨ae,ai,aj,ak,hm,aa,ac,af,ab⟩:=hJ;exact ⟨ae,ai,aj,ak,hm,aa.kpp hk rfl rfl,ac.kpp hk rfl,af.kpp hk rfl rfl,ab.kpp hk rfl⟩
 ·intro _ _ _ _ _ h _;exact h
 ·intro b3 b4 b5 ah b6 ad al args hJ hrec hmk harr;obtain ⟨ae,ai,aj,ak,hm,aa,ac,af,ab⟩:=hJ;rw [Zcw.eq_2] at hm;have hki:=Zt.refl (pC 1) ad al;subst harr;refine go ?_;refine ⟨_,hrec,?_⟩;intro b7 b8 an bd hrec2;have hrec:=hrec2;refine go ?_;refine Wb (col:=ad) [(0,0),(1,1),(2,0),(3,1),(4,1),(5,1),(6,2)] (by kernel_rfl) (by kernel_rfl) ?_;replace ab:=ab.kp an;refine xW (fun _ hC=>ab.at1.gr (hC.bl ad)) ?_;refine xu rfl rfl (fun _=>Wv rfl) ?_;replace ac:=ac.kp an;refine xW (fun _ hC=>ac.at1.gr (hC.bl ad)) ?_;refine xu rfl rfl (fun _=>Wv rfl) ?_;obtain ⟨bs,hm⟩:=Z2 hm;refine xu (v:=(.int .i64 (Int.tmod ae ah.2))) rfl rfl (fun _=>Tf ae ah.2 rfl rfl bs) ?_;obtain ⟨b9,aw,hm⟩:=bZ hm;replace af:=af.kp an;refine xu rfl rfl (fun _=>Y4 underlying39 sizeOf3 rfl rfl (Xh aw).1 (Xh aw).2.1 (af.addr aw)) ?_;refine xe rfl rfl ?_;intro ca hC0;have hC:=hC0.bl ad;obtain ⟨ax,ay,hm⟩:=bZ hm;have ay:ax=ak.set (Int.toNat ah.1) (Int.tmod ae ah.2):=(Option.some.inj ay).symm;replace af:=af.gr hC;refine Y0 (x1:=Int.tmod ae ah.2) af aw ?_;intro bt ao be az;rw [← ay] at az;replace ab:=(ab.gr hC).kp ao;replace ab:Zj 39 3 ad bt ar #[.slice ai ax.length aj]:=by rw [← (show ak.length=ax.length by rw [ay,List.length_set])];exact ab
  refine Zm<|xk ad<|Yz ?_;replace hmk:=((hmk.kp an).gr hC).kp ao;replace hki:=((hki.kp an bd rfl).gr hC).kp ao be rfl;replace aa:=((aa.kp an bd).grow hC).kp ao be;replace ac:=(ac.gr hC).kp ao;replace hrec:=(hrec.gr hC).kp ao;intro cb hC;replace hC:=hC.bl ad;refine Ww ?_;replace ac:=ac.gr hC;refine lW ac.at1<|Ya rfl ?_;obtain ⟨bu,hm⟩:=Z2 hm;refine lV (.int .i64 (i64.wrap (Int.tdiv ae ah.2))) (W9 ae ah.2 rfl rfl bu)<|Ux (v:=(.int .i64 (i64.wrap (Int.tdiv ae ah.2)))) ac sizeOf3 rfl rfl (by intro u hu;simp only [Value.cells,List.mem_cons,List.not_mem_nil,or_false] at hu;subst hu;rfl) rfl rfl ?_;intro bv ap bf a8;replace a8:Zj 3 1 ad bv a2 #[.int .i64 (i64.wrap (Int.tdiv ae ah.2))]:=a8;refine Zm ?_;replace az:=(az.gr hC).kp ap;replace ab:=(ab.gr hC).kp ap;replace hrec:=(hrec.gr hC).kp ap;replace hmk:=(hmk.gr hC).kp ap;replace hki:=(hki.gr hC).kp ap bf rfl;replace aa:=(aa.grow hC).kp ap bf;exact ⟨_,hki,⟨(i64.wrap (Int.tdiv ae ah.2)),ai,aj,ax,hm,aa,a8,az,ab⟩,hrec,hmk⟩
 ·intro bw ad al hJ hmk;obtain ⟨ae,ai,aj,ak,hm,aa,ac,af,ab⟩:=hJ;rw [Zcw.eq_1] at hm;refine go ?_;refine lW ab.at1<|go ?_;cases hm;refine ⟨_,(bw :: []),rfl,hmk,?_⟩;intro cc bg bx;replace af:=af.kp bg;replace aa:=aa.kp bg bx;exact ⟨V2 w0.heap.size col ad (fun n=>bif Nat.beq n 2 then c1 else 0),ai,aj,rfl,aa.fin (fun n=>bif Nat.beq n 2 then c1 else 0),aa.finOwn (g:=(fun n=>bif Nat.beq n 2 then c1 else 0)) rfl af (by decide) (by decide) rfl⟩
 intro _ _ _ _ h;exact h.elim
def Zcv (N:Nat) (ab:Int) (ac:List Int):Nat→Int→Option (List R5)
  | 0,_=>none
  | ad+1,aa=>if (decide (aa<ab))=true then ((Zi2 N ac aa).bind fun ae=>((Zcv N ab ac ad) (i64.wrap (aa+1))).bind fun af=>some ((aa,ae) :: af)) else (some [])
termination_by structural x=>x
def Zll (N:Nat) (aa:Int) (ab:List Int):Option (List R5):=
  Zcv N aa ab N 0
theorem Zzb (N:Nat) (cy:Nat) (col:Zd) (w0:World) (g0:Nat) (ah:Int) (hb0:Zj 3 450 col w0 g0 #[.int .i64 ah]) (g1:Nat) (af1:Option Addr) (capf1:Nat) (ad:List Int) (hf1:Zb (Za.int .i64) 3 450 col w0 af1 capf1 ad) (hb1:Zj 39 450 col w0 g1 #[.slice af1 ad.length capf1]) (r:List R5) (hm:Zll N ah ad=some r):
    Zhh Tryz.prog 1 108 [.pointer (some ⟨g0,0,none⟩),.pointer (some ⟨g1,0,none⟩)] (fun (y:Int×List Int) (col:Zd) (w:World) (args:List Value)=>∃ (a1:Option Addr) (ak:Nat),args=[.int .i64 y.1,.slice a1 y.2.length ak]∧Zb (Za.int .i64) 3 cy col w a1 ak y.2) r col w0:=by
 intro l J X hjs hxs hy aa;refine Ze6 (m:=17) (args:=[.func (.yield l) #[] #[],.pointer (some ⟨g0,0,none⟩),.pointer (some ⟨g1,0,none⟩)]) func108 rfl rfl rfl rfl ?_;rw [Zll.eq_1] at hm;refine go ?_;refine lW hb0.at1<|go ?_;refine Z5 [0,2,5,1000000] (fun n f ae=>∃ ab r ai af,af=n∧Zcv N ah ad af ai=some r∧J r ab ae∧Zb (Za.int .i64) 3 450 ab ae af1 capf1 ad∧Zj 39 450 ab ae g1 #[.slice af1 ad.length capf1]∧Zj 3 450 ab ae g0 #[.int .i64 ah]∧[6].map f=[.int .i64 ai]) N ⟨_,_,0,_,rfl,hm,aa,hf1,hb1,hb0,rfl⟩ ?_;clear hm;intro n f ae hI;obtain ⟨ab,r,ai,af,hn,hm,aa,hf1,hb1,hb0,hs⟩:=hI;subst hn;refine .lL [6] hs ?_
 cases af with
 | zero=>rw [Zcv.eq_1] at hm;cases hm
 | succ af=>
  rw [Zcv.eq_2] at hm;refine go ?_;refine Zp hm (fun hb hm=>go ?_) fun hb hm=>go ?_
  ·refine lM (.func (.yield l) #[] #[])<|Ya rfl<|lW hb1.at1<|Ya rfl ?_;obtain ⟨an,ao,hm⟩:=bZ hm;refine Zi (Zzc 501 ao (hf1.toSlF (Ze.int .i64))) ?_;rintro _ ar ⟨ap,al,am,rfl,ac,ag⟩;refine ⟨_,rfl,?_⟩;replace ag:=ag.thaw (Zs .i64) ac ((Fz.refl (col:=ab)).froz 450) (by decide);replace ac:=ac.thawR (col:=ab);generalize Z1 ae.heap.size ab ap=au at *;replace hf1:=hf1.gr ac;replace hb1:=hb1.gr ac;replace hb0:=hb0.gr ac;replace aa:=hjs _ _ _ _ _ aa ac.toP;replace hf1:=hf1.recol 501 cy (by decide);replace ag:=ag.recolSelf cy (by decide);replace hb1:=hb1.recol 501 cy (by decide);replace hb0:=hb0.recol 501 cy (by decide);replace aa:=hjs _ _ _ _ _ aa ((Zt.refl _ _ _).recol 501 cy rfl);obtain ⟨av,hc_15m,aq⟩:=bZ hm;cases aq;have hm:=hc_15m;refine ly2 rfl rfl rfl rfl (hy _ _ _ _ [.int .i64 ai,.slice al an.length am] aa ⟨al,am,rfl,ag⟩) ?_;rintro _ aw ⟨ax,aj,⟨rfl,hJ⟩ | ⟨rfl,hX⟩⟩
   ·refine ⟨_,rfl,?_⟩;have aa:=hJ;refine go ?_;refine X4 rfl<|go ?_;replace hf1:=hf1.kpp aj;replace hb1:=hb1.kpp aj;replace hb0:=hb0.kpp aj;exact ⟨af,by omega,rfl,⟨_,_,_,_,rfl,hm,aa,hf1,hb1,hb0,rfl⟩⟩
   refine ⟨_,rfl,?_⟩;have aa:=hX;refine go ?_;refine X9 rfl<|Wx ?_;exact ⟨rfl,⟨_,rfl⟩,_,.inr aa⟩
  cases hm;exact ⟨rfl,⟨_,rfl⟩,_,.inl aa⟩
def Zi0 (N:Nat) (ab:List Int):Option (List R5):=
  (Zc0 ab).bind fun aa=>(Zg0 aa).bind fun ac=>Zll N ac.1 aa
theorem Zza {N ay:Nat} {a0:Option Addr} {col:Zd} {w0:World} {ai:R2} {r:(List R5)} (cy:Nat) (hm:Zi0 N ai=some r) (h0:Sl (Za.int .i64) col w0 a0 ay ai):
    Calls Tryz.prog 53 #[.slice a0 ai.length ay] w0 (fun e w'=>∃ (col':Zd) (rv1:Value),e= .returned (rv1)∧Zg col w0 col' w'∧It Tryz.prog 1 rv1 (fun (y:Int×List Int) (col:Zd) (w:World) (args:List Value)=>∃ (a1:Option Addr) (az:Nat),args=[.int .i64 y.1,.slice a1 y.2.length az]∧Zb (Za.int .i64) 3 cy col w a1 az y.2) r q1 col' w'):=by
 refine Xl 2 (m:=14) func53 rfl rfl rfl rfl rfl ?_;rw [Zi0.eq_1] at hm;have aa:=St.start col w0;refine go ?_;refine lv (v:=_) rfl rfl (Vx rfl)<|go ?_;obtain ⟨aj,a5,hm⟩:=bZ hm;replace h0:=h0.keep (Zl.start col w0);refine Zi (Zne 1 a5 (h0.ks aa)) ?_;rintro _ bf ⟨a6,ak,al,rfl,a7,ac⟩;refine ⟨_,rfl,?_⟩;refine Zat (col:=a6) (v:=(.slice none (([]:List Int).length) 0)) 2 rfl zeroValue39 ?_;intro ad a8 ag a2 am;replace am:Zj 39 2 ag a8 ad #[.slice none (([]:List Int).length) 0]:=am;refine Ux (v:=(.slice ak aj.length al)) am sizeOf39 rfl rfl (by intro u hu;simp only [Value.cells,List.mem_cons,List.not_mem_nil,or_false] at hu;subst hu;rfl) rfl rfl ?_;intro a3 a4 a9 ae;replace ae:Zj 39 2 ag a3 ad #[.slice ak aj.length al]:=ae;refine go ?_;refine lW ae.at1 ?_;obtain ⟨ab,ba,hm⟩:=bZ hm;replace ac:=(ac.gr a2).kp a4;refine Zi (Zq7 ba (ac.toSlF (Ze.int .i64))) ?_;rintro _ bb ⟨rfl,ah⟩;refine ⟨_,rfl,?_⟩;replace ah:Zg ag a3 ag bb:=.of_below ah;refine lM (.tuple #[.int .i64 ab.1,.int .i64 ab.2])<|lV (.int .i64 ab.1) (Z8 rfl rfl)<|lV (.int .i64 ab.2) (Z8 rfl rfl)<|Zat (col:=ag) (v:=(.int .i64 0)) 3 rfl zeroValue3 ?_;intro af bc an ao ap;replace ap:Zj 3 3 an bc af #[.int .i64 0]:=ap;refine Ux (v:=(.int .i64 ab.1)) ap sizeOf3 rfl rfl (by intro u hu;simp only [Value.cells,List.mem_cons,List.not_mem_nil,or_false] at hu;subst hu;rfl) rfl rfl ?_;intro bd aq be ar;replace ar:Zj 3 3 an bd af #[.int .i64 ab.1]:=ar;refine go ?_;refine lV (.func (.func 108) #[] #[.pointer (some ⟨af,0,none⟩),.pointer (some ⟨ad,0,none⟩)]) (Zpo rfl rfl)<|lA (.func (.func 108) #[] #[.pointer (some ⟨af,0,none⟩),.pointer (some ⟨ad,0,none⟩)])<|go ?_;replace aa:=(((((aa.grow a7).grow a2).kp a4 a9).grow ah).grow ao).kp aq be;have au:=aa.finBox (G:=(fun n=>bif Nat.beq n 3 then 450 else bif Nat.beq n 2 then 450 else bif Nat.beq n 1 then 450 else 0)) ar (by decide) (by decide) (show (fun n=>bif Nat.beq n 3 then 450 else bif Nat.beq n 2 then 450 else bif Nat.beq n 1 then 450 else 0) 3=450 from rfl);replace ae:=((ae.gr ah).gr ao).kp aq;have av:=aa.finBox (G:=(fun n=>bif Nat.beq n 3 then 450 else bif Nat.beq n 2 then 450 else bif Nat.beq n 1 then 450 else 0)) ae (by decide) (by decide) (show (fun n=>bif Nat.beq n 3 then 450 else bif Nat.beq n 2 then 450 else bif Nat.beq n 1 then 450 else 0) 2=450 from rfl);replace ac:=((ac.gr ah).gr ao).kp aq
 have aw:=aa.finOwn (g:=(fun n=>bif Nat.beq n 3 then 450 else bif Nat.beq n 2 then 450 else bif Nat.beq n 1 then 450 else 0)) rfl ac (by decide) (by decide) (show (fun n=>bif Nat.beq n 3 then 450 else bif Nat.beq n 2 then 450 else bif Nat.beq n 1 then 450 else 0) 1=450 from rfl);refine ⟨rfl,V2 w0.heap.size col an (fun n=>bif Nat.beq n 3 then 450 else bif Nat.beq n 2 then 450 else bif Nat.beq n 1 then 450 else 0),_,rfl,aa.fin (fun n=>bif Nat.beq n 3 then 450 else bif Nat.beq n 2 then 450 else bif Nat.beq n 1 then 450 else 0),108,[.pointer (some ⟨af,0,none⟩),.pointer (some ⟨ad,0,none⟩)],rfl,call108,?_⟩;intro col9 w9 ax hk9;replace au:=au.itk ax hk9 rfl;replace av:=av.itk ax hk9 rfl;replace aw:=aw.itk ax hk9 rfl (Zs .i64);exact Zzb N cy col9 w9 af ab.1 au ad ak al aj aw av r hm
def Xu:List Nat→Nat
 | []=>1
 | s :: ss=>s * Xu ss
def Ws:List Nat→Nat→List Int
 | [],_=>[]
 | s :: ss,a=>((a / Xu ss:Nat):Int) :: Ws ss (a % Xu ss)
def Sb:List Nat→List Int→Nat
 | s :: ss,d :: w=>d.toNat * Xu ss+Sb ss w
 | _,_=>0
theorem Zl5:∀ ss:List Nat,(∀ s ∈ ss,0<s)→0<Xu ss
 | [],_=>by rw [Xu];decide
 | s :: ss,h=>Nat.mul_pos (h s List.mem_cons_self) (Zl5 ss fun x hx=>h x (List.mem_cons_of_mem _ hx))
def Zbp:List Nat→List Int→Prop
 | [],[]=>True
 | s :: ss,d :: w=>(0≤d∧d<(s:Int))∧Zbp ss w
 | _,_=>False
theorem Zhs:∀ (ss:List Nat) (a:Nat),(∀ s ∈ ss,0<s)→a<Xu ss→Zbp ss (Ws ss a)
 | [],_,_,_=>trivial
 | s :: ss,a,h,ha=>by
  have hp:=Zl5 ss fun x hx=>h x (List.mem_cons_of_mem _ hx)
  rw [Xu] at ha
  refine ⟨⟨Int.natCast_nonneg _,Int.ofNat_lt.2 ((Nat.div_lt_iff_lt_mul hp).2 ha)⟩,Zhs ss _ (fun x hx=>h x (List.mem_cons_of_mem _ hx)) (Nat.mod_lt _ hp)⟩
theorem Zpd:∀ (ss:List Nat) (a:Nat),(∀ s ∈ ss,0<s)→a<Xu ss→Sb ss (Ws ss a)=a
 | [],a,_,ha=>by rw [Xu] at ha;rw [Ws,Sb];omega;intro s ss d w h;cases h
 | s :: ss,a,h,ha=>by
  have hp:=Zl5 ss fun x hx=>h x (List.mem_cons_of_mem _ hx)
  rw [Ws,Sb,Int.toNat_natCast,Zpd ss _ (fun x hx=>h x (List.mem_cons_of_mem _ hx)) (Nat.mod_lt _ hp),Nat.mul_comm]
  exact Nat.div_add_mod a (Xu ss)
theorem Zpe:∀ (ss:List Nat) (w:List Int),Zbp ss w→Sb ss w<Xu ss
 | [],[],_=>by rw [Sb,Xu];decide;intro s ss d w h;cases h
 | s :: ss,d :: w,h=>by
  have h1:=Zpe ss w h.2
  have h2:d.toNat+1≤s:=by have:=h.1;omega
  have h3:=Nat.mul_le_mul_right (Xu ss) h2
  rw [Nat.add_mul,Nat.one_mul] at h3
  rw [Sb,Xu];omega
theorem Zr8:∀ (ss:List Nat) (w:List Int),Zbp ss w→Ws ss (Sb ss w)=w
 | [],[],_=>rfl
 | s :: ss,d :: w,h=>by
  have h1:=Zpe ss w h.2
  have hp:0<Xu ss:=by omega
  have e1:(d.toNat * Xu ss+Sb ss w) / Xu ss=d.toNat:=by
   rw [Nat.mul_comm,Nat.mul_add_div hp,Nat.div_eq_of_lt h1,Nat.add_zero]
  have e2:(d.toNat * Xu ss+Sb ss w) % Xu ss=Sb ss w:=by
   rw [Nat.mul_comm,Nat.mul_add_mod,Nat.mod_eq_of_lt h1]
  rw [Sb,Ws,e1,e2,Zr8 ss w h.2]
  have:=h.1
  congr 1;omega
/-! the program -/
def Va (ss:List Nat):List Int:=ss.map fun s:Nat=>(s:Int)
theorem Znk {l:List Int} (h:l.length≤1099511627776):Zc0 l=some l:=by
 rw [Zc0,Xi (by simp only [List.length_nil,maxLen];omega),List.nil_append]
theorem Zwj:∀ (ss:List Nat) (c:Nat),0<c→(∀ s ∈ ss,0<s)→c * Xu ss≤65536→Zbi (Va ss) (c:Int)=some (((c * Xu ss:Nat):Int),0)
 | [],c,_,_,_=>by rw [Va,List.map_nil,Zbi.eq_1,Xu,Nat.mul_one]
 | s :: ss,c,hc,hs,hb=>by
  have hp:=Zl5 ss fun x hx=>hs x (List.mem_cons_of_mem _ hx)
  have h0:=hs s List.mem_cons_self
  rw [Xu,← Nat.mul_assoc] at hb ⊢
  have h1:c * s≤c * s * Xu ss:=Nat.le_mul_of_pos_right _ hp
  have e:Int.tdiv 2147483647 (c:Int)=((2147483647 / c:Nat):Int):=rfl
  have h2:s≤2147483647 / c:=by
   rw [Nat.le_div_iff_mul_le hc,Nat.mul_comm];omega
  have h3:2147483647 / c≤2147483647:=Nat.div_le_self _ _
  have e2:(c:Int) * (s:Int)=((c * s:Nat):Int):=(Int.natCast_mul c s).symm
  rw [Va,List.map_cons,Zbi.eq_2,Xi (by omega),e,Z4 (x:=((2147483647 / c:Nat):Int)) (by omega),if_neg (by rw [decide_eq_false (by omega)];decide),e2,Z4 (by omega)]
  exact Zwj ss (c * s) (Nat.mul_pos hc h0) (fun x hx=>hs x (List.mem_cons_of_mem _ hx)) hb
theorem Zwi (p:List Int):∀ (ss:List Nat),(∀ s ∈ ss,0<s)→Zai p (Va ss) false=Zbi p 1
 | [],_=>by rw [Va,List.map_nil,Zai.eq_1,if_neg (by decide)]
 | s :: ss,hs=>by
  have h0:=hs s List.mem_cons_self
  rw [Va,List.map_cons,Zai.eq_2,if_neg (by rw [decide_eq_false (by omega)];decide),if_neg (by decide),Zi1,decide_eq_false (by omega)]
  exact Zwi p ss fun x hx=>hs x (List.mem_cons_of_mem _ hx)
theorem Zwk {ss:List Nat} (hs:∀ s ∈ ss,0<s) (hb:Xu ss≤65536):Zg0 (Va ss)=some ((Xu ss:Int),0):=by
 have:=Zwj ss 1 (by decide) hs (by rw [Nat.one_mul];exact hb)
 rw [Zg0,Zwi _ ss hs,show (1:Int)=((1:Nat):Int) from rfl,this,Nat.one_mul]
def Zey (ss:List Nat):Nat→List Rb
 | 0=>[]
 | k+1=>((k:Int),((ss.getD k 0:Nat):Int)) :: Zey ss k
theorem Z4a {ss:List Nat} {k:Nat} (h:k<ss.length):Zn (Va ss) (k:Int)=some ((ss.getD k 0:Nat):Int):=by
 rw [Zeu,Va,List.getElem?_map,List.getElem?_eq_getElem h,List.getD_eq_getElem?_getD,List.getElem?_eq_getElem h];rfl
theorem Zwh (N:Nat) (ss:List Nat) (hl:ss.length≤1099511627776):∀ (f k:Nat),k≤ss.length→k<f→Zcx N (Va ss) f ((k:Int) - 1)=some (Zey ss k)
 | 0,k,_,h=>by omega
 | f+1,0,h1,h2=>by rw [Zcx.eq_2,if_neg (by decide)];rfl
 | f+1,k+1,h1,h2=>by
  rw [Zcx.eq_2,show ((k+1:Nat):Int) - 1=(k:Int) by omega,if_pos (decide_eq_true (by omega)),Z4a (by omega),Option.bind_some,Z4 (by omega),Zwh N ss hl f k (by omega) (by omega),Option.bind_some,Zey]
theorem Zwl (ss:List Nat) (hs:∀ s ∈ ss,0<s) (a:Nat) (ha:a<4611686018427387904):∀ k,k≤ss.length→Zcw (Zey ss k) ((a / Xu (ss.drop k):Nat):Int) (List.replicate k 0++Ws (ss.drop k) (a % Xu (ss.drop k)))=some (Ws ss (a % Xu ss))
 | 0,_=>by rw [Zey,Zcw.eq_1,List.drop_zero];rfl
 | k+1,hk=>by
  have hkl:k<ss.length:=by omega
  have hdr:ss.drop k=ss.getD k 0 :: ss.drop (k+1):=by
   rw [List.drop_eq_getElem_cons hkl,List.getD_eq_getElem?_getD,List.getElem?_eq_getElem hkl];rfl
  have ih:=Zwl ss hs a ha k (by omega)
  have h0:0<ss.getD k 0:=by
   rw [List.getD_eq_getElem?_getD,List.getElem?_eq_getElem hkl]
   exact hs _ (List.getElem_mem hkl)
  rw [hdr,Xu,Ws,Nat.mod_mul_left_mod,Nat.mul_comm,Nat.mod_mul_right_div_self,← Nat.div_div_eq_div_mul] at ih
  have hle:=Nat.div_le_self a (Xu (ss.drop (k+1)))
  generalize a / Xu (ss.drop (k+1))=q at *
  generalize Ws (ss.drop (k+1)) (a % Xu (ss.drop (k+1)))=D at *
  have e1:Int.tmod (q:Int) ((ss.getD k 0:Nat):Int)=((q % ss.getD k 0:Nat):Int):=rfl
  have e2:Int.tdiv (q:Int) ((ss.getD k 0:Nat):Int)=((q / ss.getD k 0:Nat):Int):=rfl
  have h4:q / ss.getD k 0≤q:=Nat.div_le_self _ _
  have e3:(List.replicate (k+1) (0:Int)++D).set k ((q % ss.getD k 0:Nat):Int)=List.replicate k 0++((q % ss.getD k 0:Nat):Int) :: D:=by
   rw [List.replicate_succ',List.append_assoc,List.set_append_right (i:=k) _ (by rw [List.length_replicate];exact Nat.le_refl _),List.length_replicate,Nat.sub_self];rfl
  generalize q / ss.getD k 0=z at *
  rw [Zey,Zcw.eq_2,Xi (by simp only;omega)]
  dsimp only
  rw [Xk (by rw [List.length_append,List.length_replicate];omega),Option.bind_some,e1,e2,Int.toNat_natCast,e3,Option.bind_some,Xi (by omega),Z4 (by omega)]
  exact ih
theorem Z0f {N:Nat} {ss:List Nat} (hs:∀ s ∈ ss,0<s) (hl:ss.length≤1048576) (hN:1048577<N) {a:Nat} (ha:a<Xu ss) (hb:Xu ss≤65536):Zi2 N (Va ss) (a:Int)=some (Ws ss a):=by
 have hlen:(Va ss).length=ss.length:=by rw [Va,List.length_map]
 rw [Zi2,hlen]
 by_cases h0:ss.length=0
 ·have:ss=[]:=List.eq_nil_of_length_eq_zero h0
  rw [if_pos (decide_eq_true (by omega)),this,Ws]
 ·have hb2:=Zwh N ss (by omega) N ss.length (Nat.le_refl _) (by omega)
  have hd:=Zwl ss hs a (by omega) ss.length (Nat.le_refl _)
  rw [List.drop_length,Xu,Nat.div_one,Ws,List.append_nil,Nat.mod_eq_of_lt ha] at hd
  rw [if_neg (by rw [decide_eq_false (by omega)];decide),Xi (by simp only [maxLen];omega),Zlm,Zln,hlen,Z4 (by omega),hb2,Option.bind_some]
  exact hd
def Zfc (ss:List Nat):Nat→Nat→List R5
 | _,0=>[]
 | k,m+1=>((k:Int),Ws ss k) :: Zfc ss (k+1) m
theorem Zvr {N:Nat} {ss:List Nat} (hs:∀ s ∈ ss,0<s) (hl:ss.length≤1048576) (hN:1048577<N) (hb:Xu ss≤65536):∀ (m k f:Nat),k+m=Xu ss→m<f→Zcv N (Xu ss:Int) (Va ss) f (k:Int)=some (Zfc ss k m)
 | m,k,0,_,h=>by omega
 | 0,k,f+1,h1,h2=>by rw [Zcv.eq_2,if_neg (by rw [decide_eq_false (by omega)];decide)];rfl
 | m+1,k,f+1,h1,h2=>by
  rw [Zcv.eq_2,if_pos (decide_eq_true (by omega)),Z0f hs hl hN (by omega) hb,Option.bind_some,wS (by omega),Zvr hs hl hN hb m (k+1) f (by omega) (by omega),Option.bind_some,Zfc]
theorem Z3j {N:Nat} {ss:List Nat} (hs:∀ s ∈ ss,0<s) (hl:ss.length≤1048576) (hN:1048577<N) (hb:Xu ss≤65536):Zi0 N (Va ss)=some (Zfc ss 0 (Xu ss)):=by
 have hlen:(Va ss).length=ss.length:=by rw [Va,List.length_map]
 rw [Zi0,Znk (by omega),Option.bind_some,Zwk hs hb,Option.bind_some,Zll]
 exact Zvr hs hl hN hb (Xu ss) 0 N (by omega) (by omega)
theorem Zrf {N W:Nat} {n:Zz} (hf:Yt N n) (hs:Wh n W) (hr:Xj N (8 * W+40)) (hN:2000000<N):W5 N n=some 0:=by
 obtain ⟨l,o1,o2,o3,o4,o5⟩:=hf.or
 have hv:=hf.ev.v;have hp:=hf.ev.p;have ht:=hf.ev.t;have hle:=hf.le
 have nn:Zds (n.1,n.2.1,n.2.2.1,n.2.2.2.1,n.2.2.2.2)=some (Zaj n.2.1 n.2.2.1 n.2.1.length 0):=Zug n hv
 have D':Qd N n.2.2.2.1=some 0:=by rw [Qd,o1];rfl
 have ms:=Zo1 (N:=N) hs hf.ev n.2.2.2.2 0 (by simp) (by omega)
 have me:=Zoy (N:=N) (n:=n) (W:=W) (hr.mono (by omega)) n.2.2.2.2 (fun t h=>⟨hs.tl t h,hs.tq t h,hs.lim t h⟩)
 have m6:=Zo2 (N:=N) hs hf.ev hf.sh hr (by omega) n.2.2.2.2 0 (by simp) (by omega)
 rw [W5,if_neg (by rw [decide_eq_true (by omega)];decide),if_neg (by rw [decide_eq_true (by omega)];decide),show (!decide ((n.2.2.2.2.length:Int)=(n.2.1.length:Int)))=false by rw [decide_eq_true (by omega)];rfl,Zac,if_neg (show ¬ (false=true) by decide),if_neg (by rw [decide_eq_false (by omega)];decide),
  nn,Option.bind_some,hf.nm,if_neg (by decide),D',Option.bind_some,if_neg (by decide),ms,ht,if_pos hf.sh,me,hf.en,if_neg (by decide),m6,ht,hf.su]
def Zcg:List R4→R2→Option R2
  | [],aa=>some aa
  | ab :: ac,aa=>Z0 ((aa.length+[(ab.length:Int)].length) * 8≤140737488355328∧aa.length+[(ab.length:Int)].length≤maxLen) ((Zcg ac) (aa++[(ab.length:Int)]))
termination_by structural x=>x
def Zia (aa:R1):Option R2:=
  Zcg aa.2.2.1 ([]:List Int)
theorem Zyp {am an ao ap:Nat} {aq ar au av:Option Addr} {col:Zd} {w0:World} {aa:R1} {r:R2} (c1:Nat) (hm:Zia aa=some r) (a9:Sl Za.str col w0 aq am aa.2.1) (ac:Sl (Za.slice Za.str) col w0 ar an aa.2.2.1) (ba:Sl (Za.slice (Za.int .i64)) col w0 au ao aa.2.2.2.1) (bb:Sl (Za.slice (Za.pair (Za.pair Za.bool (Za.slice (Za.int .u32))) (Za.slice (Za.int .u32)))) col w0 av ap aa.2.2.2.2):
    Calls Tryz.prog 105 #[(.agg #[.string aa.1,.slice aq aa.2.1.length am,.slice ar aa.2.2.1.length an,.slice au aa.2.2.2.1.length ao,.slice av aa.2.2.2.2.length ap])] w0 (fun e w'=>∃ (col':Zd) (ra1:Option Addr) (rc2:Nat),e= .returned ((.slice ra1 r.length rc2))∧Zg col w0 col' w'∧Zb (Za.int .i64) 3 c1 col' w' ra1 rc2 r):=by
 refine Xl 2 (m:=20) func105 rfl rfl rfl rfl rfl ?_;rw [Zia.eq_1] at hm;have ab:=St.start col w0;refine go ?_;refine Xp (col:=(Zk col)) 1 rfl ?_;intro bc bd be ax ay;refine go ?_;refine Xw ay ?_;refine go ?_;replace ab:=ab.grow ax;refine Z5 [7,8,1000000] (fun n f ai=>∃ af aj ak ag ad ae,n=ae.length∧aa.2.2.1.drop ad=ae∧Zcg ae ag=some r∧St w0 (Zk col) af ai∧Zb (Za.int .i64) 3 2 af ai aj ak ag∧[9,3].map f=[.int .i64 ad,.slice aj ag.length ak]) aa.2.2.1.length ⟨_,none,0,_,0,_,rfl,rfl,hm,ab,Zb.nil,rfl⟩ ?_;clear hm;intro n f ai hI;obtain ⟨af,aj,ak,ag,ad,ae,hn,hl,hm,ab,ah,hs⟩:=hI;subst hn;refine .lL [9,3] hs ?_;replace ac:=ac.keep (Zl.start col w0)
 cases ae with
 | nil=>
  have hk:¬ ((ad:Int)<(aa.2.2.1.length:Int)):=by have:=List.drop_eq_nil_iff.1 hl;omega
  have hkb:=decide_eq_false hk;rw [Zcg.eq_1] at hm;refine go ?_;refine X4 (congrArg Value.bool hkb)<|go ?_;cases hm;exact ⟨rfl,_,_,_,rfl,ab.fin (cm [(2,c1)]),ab.fo ah⟩
 | cons az a0=>
  obtain ⟨al,a1,a2⟩:=Yg hl;have hk:(ad:Int)<(aa.2.2.1.length:Int):=by omega
  have hkb:=decide_eq_true hk;rw [Zcg.eq_2] at hm;refine go ?_;refine X9 (congrArg Value.bool hkb)<|go ?_;refine lI al ((ac.ks ab).addr al) ?_;obtain ⟨_,a3,a4⟩:=(ac.ks ab).atN al;obtain ⟨⟨bf,bg,rfl,bh⟩,_⟩:=a3;refine lW a4.one<|go ?_;refine W6 (col:=af) [(az.length:Int)] 3 ?_;intro bi bj bk aw a5;obtain ⟨a6,hm⟩:=Z2 hm;replace ah:=ah.gr aw;refine Vv ah (a5.srcN (NB.int (k:=.i64))) a6 ?_;intro bm bn bo bp a7 a8;refine go ?_;replace ab:=(ab.grow aw).kpp a7;exact ⟨a0.length,by simp,rfl,⟨_,_,_,_,_,_,rfl,a1,hm,ab,a8,(Ym (congrArg (Value.int .i64) (Yk (Nat.lt_of_lt_of_le a2 (ac.ks ab).1.1))) rfl)⟩⟩
theorem Z0p:Wo Tryz.prog 3 1 8:=⟨Tryz.t3,_,rfl,rfl,rfl,rfl,rfl⟩
def Zh6 (aa:List Int) (ab:Bool):Option R8:=
  if ab=true then (some (([]:List Int),4)) else (some (aa,0))
def Zfy (aa:List Int):List Int→(List Bool)→Option R8
  | [],ab=>(Zg0 aa).bind fun ac=>if (!decide (ac.2=0))=true then (Zh6 aa true) else (Zh6 aa (decide (65536<ac.1)))
  | ad :: ae,ab=>(Zn ab ad).bind fun af=>if af=true then (some (([]:List Int),40)) else ((some (ab.set (Int.toNat ad) true)).bind fun ag=>(Zfy aa ae) ag)
termination_by structural x=>x
def Zfx (ab:List Int):List Rb→R2→Option R8
  | [],aa=>Zfy ab aa (List.replicate ab.length (false:Bool))
  | ac :: ad,aa=>Z0 ((0:Int)≤0∧0≤(aa.length:Int)∧(aa.length:Int)≤(aa.length:Int)∧(aa.length:Int)≤(aa.length:Int)) (Z0 (((aa.take (Int.toNat (aa.length:Int))).length+[ac.1].length) * 8≤140737488355328∧(aa.take (Int.toNat (aa.length:Int))).length+[ac.1].length≤maxLen) ((Zfx ab ad) ((aa.take (Int.toNat (aa.length:Int)))++[ac.1])))
termination_by structural x=>x
def Zk0 (kk_L2:(Option R8)) (aa:Bool):Option R8:=
  if aa=true then (some (([]:List Int),3)) else kk_L2
def Zcb (ab:Ri) (ac:List Int) (aa:List Int):List Int→Option R8
  | []=>Z0 (aa.length * 1≤281474976710656∧aa.length≤maxLen) (Zfx aa ab ac)
  | ad :: ae=>if (decide (ad<0))=true then (Zk0 (Zcb ab ac aa ae) true) else (Zk0 (Zcb ab ac aa ae) (decide ((aa.length:Int)≤ad)))
termination_by structural x=>x
def Zfw (kk_L1:(Option R8)) (aa:Bool):Option R8:=
  if aa=true then (some (([]:List Int),3)) else kk_L1
def Q8 (ac:Ri) (ab:List Int) (aa:List Int):List Rb→Option R8
  | []=>Zcb ac ab aa ab
  | ad :: ae=>if (decide (ad.1<0))=true then (Zfw (Q8 ac ab aa ae) true) else (if (decide ((aa.length:Int)≤ad.1))=true then (Zfw (Q8 ac ab aa ae) true) else (if (decide (ad.2<0))=true then (Zfw (Q8 ac ab aa ae) true) else ((Zn aa ad.1).bind fun af=>Zfw (Q8 ac ab aa ae) (decide (af≤ad.2)))))
termination_by structural x=>x
def Zfv (N:Nat) (aa:R1) (ab:Ri) (ad:List Int):Option R8:=
  (W5 N (aa.1,aa.2.1,aa.2.2.1,aa.2.2.2.1,aa.2.2.2.2)).bind fun ac=>if (!decide (ac=0))=true then (some (([]:List Int),ac)) else ((Zia (aa.1,aa.2.1,aa.2.2.1,aa.2.2.2.1,aa.2.2.2.2)).bind fun ae=>Q8 ab ad ae ab)
theorem Zyh {N bx bz b0 b1 b2 b3:Nat} {b4 b5 b6 b7 a1 a2:Option Addr} {col:Zd} {w0:World} {af:R1} {ae:Ri} {ah:R2} {r:R8} (c1:Nat) (hm:Zfv N af ae ah=some r) (bf:Sl Za.str col w0 b4 bx af.2.1) (bg:Sl (Za.slice Za.str) col w0 b5 bz af.2.2.1) (bh:Sl (Za.slice (Za.int .i64)) col w0 b6 b0 af.2.2.2.1) (bi:Sl (Za.slice (Za.pair (Za.pair Za.bool (Za.slice (Za.int .u32))) (Za.slice (Za.int .u32)))) col w0 b7 b1 af.2.2.2.2) (h1:Sl (Za.pair (Za.int .i64) (Za.int .i64)) col w0 a1 b2 ae) (h2:Sl (Za.int .i64) col w0 a2 b3 ah):
    Calls Tryz.prog 49 #[(.agg #[.string af.1,.slice b4 af.2.1.length bx,.slice b5 af.2.2.1.length bz,.slice b6 af.2.2.2.1.length b0,.slice b7 af.2.2.2.2.length b1]),.slice a1 ae.length b2,.slice a2 ah.length b3] w0 (fun e w'=>∃ (col':Zd) (ra1:Option Addr) (rc2:Nat),e= .returned (.tuple #[.slice ra1 r.1.length rc2,.int .i64 r.2])∧Zg col w0 col' w'∧Zb (Za.int .i64) 3 c1 col' w' ra1 rc2 r.1):=by
 refine Zbv 6 7 (m:=121) (args:=[(.agg #[.string af.1,.slice b4 af.2.1.length bx,.slice b5 af.2.2.1.length bz,.slice b6 af.2.2.2.1.length b0,.slice b7 af.2.2.2.2.length b1]),.slice a1 ae.length b2,.slice a2 ah.length b3]) func49 rfl rfl rfl rfl rfl ?_;rw [Zfv.eq_1] at hm;have aa:=St.start col w0;refine go ?_;refine Xp (col:=(Zk col)) 1 rfl ?_;intro ea c6 cu c7 bj;refine go ?_;refine lV _ (Z3 isAgg27 sizeOf27 bj) ?_;obtain ⟨eb,c8,hm⟩:=bZ hm;replace bf:=bf.keep (Zl.start col w0);replace bg:=bg.keep (Zl.start col w0);replace bh:=bh.keep (Zl.start col w0);replace bi:=bi.keep (Zl.start col w0);replace aa:=aa.grow c7;refine Zi (Ze3 c8 (bf.ks aa) (bg.ks aa) (bh.ks aa) (bi.ks aa)) ?_;rintro _ c9 ⟨rfl,bk⟩;refine ⟨_,rfl,?_⟩;replace bk:Zg cu c6 cu c9:=.of_below bk;refine go ?_;replace h1:=h1.keep (Zl.start col w0);replace h2:=h2.keep (Zl.start col w0);replace bj:=bj.gr bk;replace aa:=aa.grow bk;refine Zp hm (fun hb hm=>go ?_) fun hb hm=>go ?_
 ·cases hm;exact ⟨rfl,_,none,0,rfl,aa.fin (cm []),Zb.nil⟩
 refine lV _ (Z3 isAgg27 sizeOf27 bj) ?_;obtain ⟨ad,da,hm⟩:=bZ hm;refine Zi (Zyp 2 da (bf.ks aa) (bg.ks aa) (bh.ks aa) (bi.ks aa)) ?_;rintro _ ec ⟨ed,al,am,rfl,db,ab⟩;refine ⟨_,rfl,go ?_⟩;replace aa:=aa.grow db;refine Z5 [1,2,28,29,9,1000000] (fun n f b8=>∃ bm aw ax,n=ax.length∧ae.drop aw=ax∧Q8 ae ah ad ax=some r∧St w0 (Zk col) bm b8∧Zb (Za.int .i64) 3 2 bm b8 al am ad∧[30].map f=[.int .i64 aw]) ae.length ⟨_,0,_,rfl,rfl,hm,aa,ab,rfl⟩ ?_;clear hm;intro n f b8 hI;obtain ⟨bm,aw,ax,hn,hl,hm,aa,ab,hs⟩:=hI;subst hn;refine .lL [30] hs ?_
 cases ax with
 | nil=>
  have hk:¬ ((aw:Int)<(ae.length:Int)):=by have:=List.drop_eq_nil_iff.1 hl;omega
  have hkb:=decide_eq_false hk;rw [Q8.eq_1] at hm;refine go ?_;refine X4 (congrArg Value.bool hkb)<|go ?_;refine Z5 [1,2,60,61,9,1000000] (fun n f bn=>∃ bo ay az,n=az.length∧ah.drop ay=az∧Zcb ae ah ad az=some r∧St w0 (Zk col) bo bn∧Zb (Za.int .i64) 3 2 bo bn al am ad∧[62].map f=[.int .i64 ay]) ah.length ⟨_,0,_,rfl,rfl,hm,aa,ab,rfl⟩ ?_;clear hm;intro n f bn hI;obtain ⟨bo,ay,az,hn,hl,hm,aa,ab,hs⟩:=hI;subst hn;refine .lL [62] hs ?_
  cases az with
  | nil=>
   have hk:¬ ((ay:Int)<(ah.length:Int)):=by have:=List.drop_eq_nil_iff.1 hl;omega
   have hkb:=decide_eq_false hk;rw [Zcb.eq_1] at hm;refine go ?_;refine X4 (congrArg Value.bool hkb)<|go ?_;obtain ⟨cv,hm⟩:=Z2 hm;refine To (col:=bo) (w:=bn) (r:=Za.bool) (n:=ad.length) (x0:=false) 3 rfl underlying134 Tryz.t4 rfl rfl rfl rfl rfl rfl rfl cv.1 cv.2 (Ue false) ?_;intro dc ee ef cw ai;refine go ?_;replace ab:=ab.gr cw;replace aa:=aa.grow cw;refine Z5 [14,78,79,9,1000000] (fun n f a0=>∃ ap an bp ac a3 a4,n=a4.length∧ae.drop a3=a4∧Zfx ad a4 ac=some r∧St w0 (Zk col) ap a0∧Zb Za.bool 4 3 ap a0 dc ad.length (List.replicate ad.length (false:Bool))∧Sl (Za.int .i64) ap a0 an bp ac∧Zb (Za.int .i64) 3 2 ap a0 al am ad∧[80,2].map f=[.int .i64 a3,.slice an ac.length bp]) ae.length ⟨_,_,_,_,0,_,rfl,rfl,hm,aa,ai,(h2.ks aa),ab,rfl⟩ ?_;clear hm;intro n f a0 hI;obtain ⟨ap,an,bp,ac,a3,a4,hn,hl,hm,aa,ai,aj,ab,hs⟩:=hI;subst hn;refine .lL [80,2] hs ?_
   cases a4 with
   | nil=>
    have hk:¬ ((a3:Int)<(ae.length:Int)):=by have:=List.drop_eq_nil_iff.1 hl;omega
    have hkb:=decide_eq_false hk;rw [Zfx.eq_1] at hm;refine go ?_;refine X4 (congrArg Value.bool hkb)<|go ?_;refine Z5 [9,95,96,1000000] (fun n f aq=>∃ ao a5 a6 ar a7 a8,n=a8.length∧ac.drop a7=a8∧Zfy ad a8 ar=some r∧St w0 (Zk col) ao aq∧Zb Za.bool 4 3 ao aq a5 a6 ar∧Zb (Za.int .i64) 3 2 ao aq al am ad∧Sl (Za.int .i64) ao aq an bp ac∧[97,14].map f=[.int .i64 a7,.slice a5 ar.length a6]) ac.length ⟨_,_,_,_,0,_,rfl,rfl,hm,aa,ai,ab,aj,rfl⟩ ?_;clear hm;intro n f aq hI;obtain ⟨ao,a5,a6,ar,a7,a8,hn,hl,hm,aa,bq,ab,aj,hs⟩:=hI;subst hn;refine .lL [97,14] hs ?_
    cases a8 with
    | nil=>
     have hk:¬ ((a7:Int)<(ac.length:Int)):=by have:=List.drop_eq_nil_iff.1 hl;omega
     have hkb:=decide_eq_false hk;rw [Zfy.eq_1] at hm;refine go ?_;refine X4 (congrArg Value.bool hkb)<|go ?_;obtain ⟨a9,dd,hm⟩:=bZ hm;refine Zi (Zq7 dd (ab.toSlF (Ze.int .i64))) ?_;rintro _ de ⟨rfl,br⟩;refine ⟨_,rfl,?_⟩;replace br:Zg ao aq ao de:=.of_below br;refine lM (.tuple #[.int .i64 a9.1,.int .i64 a9.2])<|lV (.int .i64 a9.1) (Z8 rfl rfl)<|lV (.int .i64 a9.2) (Z8 rfl rfl)<|Yq rfl<|Yq rfl<|Zm<|Zw ?_;replace ab:=ab.gr br;replace aa:=aa.grow br;refine Wp.cutK [9,1000000] (fun f b9=>∃ ca cb,Zh6 ad cb=some r∧St w0 (Zk col) ca b9∧Zb (Za.int .i64) 3 2 ca b9 al am ad∧[119].map f=[.bool cb]) ?_ ?_
     ·intro f b9 hJ;obtain ⟨ca,cb,hm,aa,ab,hs⟩:=hJ;rw [Zh6.eq_1] at hm;refine .lL [119] hs ?_;refine Zp hm (fun hb hm=>go ?_) fun hb hm=>go ?_
      ·cases hm;exact ⟨rfl,_,none,0,rfl,aa.fin (cm []),Zb.nil⟩
      cases hm;exact ⟨rfl,_,_,_,rfl,aa.fin (cm [(2,c1)]),aa.fo ab⟩
     refine go ?_;refine Xz hm (fun cc hm=>go ?_) fun cc hm=>go ?_
     ·refine lV (.bool true) (Xm (congrArg Value.bool cc) rfl)<|Zm ?_;exact ⟨rfl,_,_,hm,aa,ab,rfl⟩
     refine lV (.bool (decide (65536<a9.1))) (Xd (congrArg Value.bool cc) rfl)<|Zm ?_;exact ⟨rfl,_,_,hm,aa,ab,rfl⟩
    | cons df dg=>
     obtain ⟨ag,dh,di⟩:=Yg hl;have hk:(a7:Int)<(ac.length:Int):=by omega
     have hkb:=decide_eq_true hk;rw [Zfy.eq_2] at hm;refine go ?_;refine X9 (congrArg Value.bool hkb)<|go ?_;refine lI ag (aj.addr ag)<|lW (aj.atInt ag) ?_;refine go ?_;obtain ⟨eg,au,hm⟩:=bZ hm;refine lI au (bq.addr au)<|lW (bq.atBool au)<|Zm ?_;refine Zp hm (fun hb hm=>go ?_) fun hb hm=>go ?_
     ·cases hm;exact ⟨rfl,_,none,0,rfl,aa.fin (cm []),Zb.nil⟩
     refine lI au (bq.addr au) ?_;obtain ⟨cd,bs,hm⟩:=bZ hm;have bs:cd=ar.set (Int.toNat df) true:=(Option.some.inj bs).symm;refine Ztb (x1:=true) (v:=(.bool true)) bq au rfl sizeOf4 (Ue true) rfl rfl (by decide) ?_;intro eh ce dj cx;rw [← bs] at cx;refine .ld (d:=14) (v:=(.slice a5 cd.length a6)) (congrArg (fun n=>Value.slice a5 n a6) (show ar.length=cd.length by rw [bs,List.length_set])) ?_;refine go ?_;replace ab:=ab.kp ce;replace aj:=aj.kp ce;replace aa:=aa.kp ce dj;exact ⟨dg.length,by simp,rfl,⟨_,_,_,_,_,_,rfl,dh,hm,aa,cx,ab,aj,(Ym (congrArg (Value.int .i64) (Yk (Nat.lt_of_lt_of_le di aj.1.1))) rfl)⟩⟩
   | cons bt dl=>
    obtain ⟨ag,dm,dn⟩:=Yg hl;have hk:(a3:Int)<(ae.length:Int):=by omega
    have hkb:=decide_eq_true hk;rw [Zfx.eq_2] at hm;refine go ?_;refine X9 (congrArg Value.bool hkb)<|go ?_;refine lI ag ((h1.ks aa).addr ag) ?_;obtain ⟨_,dp,dq⟩:=(h1.ks aa).atN ag;obtain ⟨_,_,rfl,dr,ds⟩:=We dp;obtain ⟨rfl,_⟩:=dr;obtain ⟨rfl,_⟩:=ds;refine lV (.agg #[.int .i64 bt.1,.int .i64 bt.2]) (Xc isAgg133 sizeOf133 rfl rfl dq)<|Xa (col:=ap) #[.int .i64 0,.int .i64 0] 4 zeroValue133 ?_;intro ei ej bu bv dt;refine Zu dt ?_;intro ek bw du dv;refine Zm<|Wb (col:=bu) [(0,1),(1,1),(2,1),(3,1),(4,1),(5,1),(6,1),(7,0),(8,3),(9,2),(10,1)] (by kernel_rfl) (by kernel_rfl)<|xu rfl rfl (fun _=>Ve rfl) ?_;refine xu rfl rfl (fun _=>Ve rfl) ?_;refine xu rfl rfl (fun _=>Qp underlying39 rfl) ?_;refine xu rfl rfl (fun _=>Ve rfl) ?_;refine xu rfl rfl (fun _=>Qp underlying39 rfl) ?_;obtain ⟨ba,hm⟩:=Z2 hm;replace aj:=(aj.gr bv).kp bw;have av:=(aj.take (Int.toNat (ac.length:Int))).recap (show (ac.take (Int.toNat (ac.length:Int))).length≤(Int.toNat (ac.length:Int)) by rw [List.length_take (i:=(Int.toNat (ac.length:Int))) (l:=ac)];have:=ba.2;omega);refine xu (v:=.slice an (Int.toNat (ac.length:Int)) (Int.toNat (ac.length:Int))) rfl rfl (fun _=>Z3e underlying39 sizeOf3 rfl rfl rfl ba.2.1 ba.2.2.1 (by have:=aj.1.2;have:=ba.2.2.2;omega)) ?_;refine .ld (d:=89) (v:=(.slice an ((ac.take (Int.toNat (ac.length:Int))).length) (Int.toNat (ac.length:Int)))) (congrArg (fun n=>Value.slice an n (Int.toNat (ac.length:Int))) (show (Int.toNat (ac.length:Int))=(ac.take (Int.toNat (ac.length:Int))).length by rw [List.length_take (i:=(Int.toNat (ac.length:Int))) (l:=ac)];have:=ba.2;omega)) ?_;refine xF ⟨_,_,rfl⟩ ?_;refine xW (fun _ hC=>((dv.atN).nth (q:=0) rfl).gr (hC.bl bu)) ?_;refine xe rfl rfl ?_;intro el hC0;have hC:=hC0.bl bu;refine W6 (col:=bu) [bt.1] 5 ?_;intro em en cf bb cg;refine Zm<|Xr cf hC0 bb<|xe rfl rfl ?_;intro dw hC0;replace ai:=(((ai.gr bv).kp bw).gr hC).gr bb;replace ab:=(((ab.gr bv).kp bw).gr hC).gr bb;replace aa:=(((aa.grow bv).kp bw du).grow hC).grow bb;replace av:=(av.gr hC).gr bb;have hC:=hC0.bl cf;obtain ⟨cy,hm⟩:=Z2 hm;replace av:=av.gr hC;have dx:(Int.toNat (ac.length:Int))=(ac.take (Int.toNat (ac.length:Int))).length:=by have:=av.1.2;rw [List.length_take (i:=(Int.toNat (ac.length:Int))) (l:=ac)] at this ⊢;omega
    replace cg:=cg.gr hC;refine Z1g (col:=cf) (w:=dw) (r:=(Za.int .i64)) (c:=6) (c2:=6) 6 (xs:=ac.take (Int.toNat (ac.length:Int))) (ys:=[bt.1]) av dx (NB.int (k:=.i64)) (by simp) (cg.srcN (NB.int (k:=.i64))) rfl underlying39 Z0p rfl rfl rfl cy.1 cy.2 ?_;intro eo ep eq cz ch bc;refine Zm<|xk cz<|xu rfl rfl (fun _=>Zjj rfl) ?_;refine Yz ?_;replace ai:=(ai.gr hC).gr ch;replace ab:=(ab.gr hC).gr ch;replace aa:=(aa.grow hC).grow ch;intro er hC;replace hC:=hC.bl cz;refine go ?_;replace ai:=ai.gr hC;replace ai:=ai.froz 6 (by decide);replace bc:=bc.gr hC;replace bc:=(bc).toSlF (Ze.int .i64);replace ab:=ab.gr hC;replace ab:=ab.froz 6 (by decide);replace aa:=aa.grow hC;replace aa:=aa.froz 6 (by decide) (by decide);exact ⟨dl.length,by simp,rfl,⟨_,_,_,_,_,_,rfl,dm,hm,aa,ai,bc,ab,(Ym (congrArg (Value.int .i64) (Yk (Nat.lt_of_lt_of_le dn (h1.ks aa).1.1))) rfl)⟩⟩
  | cons dy c0=>
   obtain ⟨ag,dz,d0⟩:=Yg hl;have hk:(ay:Int)<(ah.length:Int):=by omega
   have hkb:=decide_eq_true hk;rw [Zcb.eq_2] at hm;refine go ?_;refine X9 (congrArg Value.bool hkb)<|go ?_;refine lI ag ((h2.ks aa).addr ag)<|lW ((h2.ks aa).atInt ag)<|Yq rfl<|Zm<|Zw ?_;refine Wp.cutK [1,2,60,61,62,9,1000000] (fun f ci=>∃ cj ck,Zk0 (Zcb ae ah ad c0) ck=some r∧St w0 (Zk col) cj ci∧Zb (Za.int .i64) 3 2 cj ci al am ad∧[73].map f=[.bool ck]) ?_ ?_
   ·intro f ci hJ;obtain ⟨cj,ck,hm,aa,ab,hs⟩:=hJ;rw [Zk0.eq_1] at hm;refine .lL [73] hs ?_;refine Zp hm (fun hb hm=>go ?_) fun hb hm=>go ?_
    ·cases hm;exact ⟨rfl,_,none,0,rfl,aa.fin (cm []),Zb.nil⟩
    exact ⟨c0.length,by simp,rfl,⟨_,_,_,rfl,dz,hm,aa,ab,(Ym (congrArg (Value.int .i64) (Yk (Nat.lt_of_lt_of_le d0 (h2.ks aa).1.1))) rfl)⟩⟩
   refine go ?_;refine Xz hm (fun cl hm=>go ?_) fun cl hm=>go ?_
   ·refine lV (.bool true) (Xm (congrArg Value.bool cl) rfl)<|Zm ?_;exact ⟨rfl,_,_,hm,aa,ab,rfl⟩
   refine lV (.bool (decide ((ad.length:Int)≤dy))) (Xd (congrArg Value.bool cl) rfl)<|Zm ?_;exact ⟨rfl,_,_,hm,aa,ab,rfl⟩
 | cons bd c3=>
  obtain ⟨ag,d1,d2⟩:=Yg hl;have hk:(aw:Int)<(ae.length:Int):=by omega
  have hkb:=decide_eq_true hk;rw [Q8.eq_2] at hm;refine go ?_;refine X9 (congrArg Value.bool hkb)<|go ?_;refine lI ag ((h1.ks aa).addr ag) ?_;obtain ⟨_,d3,d4⟩:=(h1.ks aa).atN ag;obtain ⟨_,_,rfl,d5,d6⟩:=We d3;obtain ⟨rfl,_⟩:=d5;obtain ⟨rfl,_⟩:=d6;refine lV (.agg #[.int .i64 bd.1,.int .i64 bd.2]) (Xc isAgg133 sizeOf133 rfl rfl d4)<|Xa (col:=bm) #[.int .i64 0,.int .i64 0] 7 zeroValue133 ?_;intro es et ak c4 d7;refine Zu d7 ?_;intro eu c5 d8 be;refine Zm<|Zw ?_;replace ab:=(ab.gr c4).kp c5;replace aa:=(aa.grow c4).kp c5 d8;refine Wp.cutK [1,2,28,29,30,9,1000000] (fun f cn=>∃ co cp,Zfw (Q8 ae ah ad c3) cp=some r∧St w0 (Zk col) co cn∧Zb (Za.int .i64) 3 2 co cn al am ad∧[58].map f=[.bool cp]) ?_ ?_
  ·intro f cn hJ;obtain ⟨co,cp,hm,aa,ab,hs⟩:=hJ;rw [Zfw.eq_1] at hm;refine .lL [58] hs ?_;refine Zp hm (fun hb hm=>go ?_) fun hb hm=>go ?_
   ·cases hm;exact ⟨rfl,_,none,0,rfl,aa.fin (cm []),Zb.nil⟩
   exact ⟨c3.length,by simp,rfl,⟨_,_,_,rfl,d1,hm,aa,ab,(Ym (congrArg (Value.int .i64) (Yk (Nat.lt_of_lt_of_le d2 (h1.ks aa).1.1))) rfl)⟩⟩
  refine Vy (col:=ak) (by kernel_rfl) (by kernel_rfl)<|qF ⟨_,_,rfl⟩ ?_;refine qW (fun _ hC=>((be.atN).nth (q:=0) rfl).gr (hC.bl ak)) ?_;refine go ?_;refine Xz hm (fun cq hm=>go ?_) fun cq hm=>go ?_
  ·refine qv (v:=(.bool true)) rfl (fun _ hC=>Xm (congrArg Value.bool cq) rfl) ?_;refine go ?_;refine qP 44 rfl rfl<|qP 44 rfl rfl<|qP 44 rfl rfl<|qv (v:=(.bool true)) rfl (fun _ hC=>Xm rfl rfl) ?_;refine go ?_;refine qP 49 rfl rfl<|qP 49 rfl rfl<|qP 49 rfl rfl<|qP 49 rfl rfl<|qP 49 rfl rfl<|qP 49 rfl rfl<|qP 49 rfl rfl<|qP 49 rfl rfl<|qv (v:=(.bool true)) rfl (fun _ hC=>Xm rfl rfl) ?_;refine Wn ?_;intro ew hC;replace hC:=hC.bl ak;replace ab:=ab.gr hC;replace aa:=aa.grow hC;exact ⟨rfl,_,_,hm,aa,ab,rfl⟩
  refine qF ⟨_,_,rfl⟩ ?_;refine go ?_;refine qW (fun _ hC=>((be.atN).nth (q:=0) rfl).gr (hC.bl ak)) ?_;refine go ?_;refine qv (v:=(.bool (decide ((ad.length:Int)≤bd.1)))) rfl (fun _ hC=>Xd (congrArg Value.bool cq) rfl) ?_;refine go ?_;refine Xz hm (fun cr hm=>go ?_) fun cr hm=>go ?_
  ·refine qv (v:=(.bool true)) rfl (fun _ hC=>Xm (congrArg Value.bool cr) rfl) ?_;refine go ?_;refine qP 49 rfl rfl<|qP 49 rfl rfl<|qP 49 rfl rfl<|qP 49 rfl rfl<|qP 49 rfl rfl<|qP 49 rfl rfl<|qP 49 rfl rfl<|qP 49 rfl rfl<|qv (v:=(.bool true)) rfl (fun _ hC=>Xm rfl rfl) ?_;refine Wn ?_;intro ey hC;replace hC:=hC.bl ak;replace ab:=ab.gr hC;replace aa:=aa.grow hC;exact ⟨rfl,_,_,hm,aa,ab,rfl⟩
  refine qF ⟨_,_,rfl⟩ ?_;refine go ?_;refine qW (fun _ hC=>((be.atN).nth (q:=1) rfl).gr (hC.bl ak)) ?_;refine go ?_;refine qv (v:=(.bool (decide (bd.2<0)))) rfl (fun _ hC=>Xd (congrArg Value.bool cr) rfl) ?_;refine go ?_;refine Xz hm (fun cs hm=>go ?_) fun cs hm=>go ?_
  ·refine qv (v:=(.bool true)) rfl (fun _ hC=>Xm (congrArg Value.bool cs) rfl) ?_;refine Wn ?_;intro ez hC;replace hC:=hC.bl ak;replace ab:=ab.gr hC;replace aa:=aa.grow hC;exact ⟨rfl,_,_,hm,aa,ab,rfl⟩
  refine qF ⟨_,_,rfl⟩ ?_;refine go ?_;refine qW (fun _ hC=>((be.atN).nth (q:=1) rfl).gr (hC.bl ak)) ?_;refine go ?_;refine qF ⟨_,_,rfl⟩ ?_;refine go ?_;refine qW (fun _ hC=>((be.atN).nth (q:=0) rfl).gr (hC.bl ak)) ?_;refine go ?_;obtain ⟨d9,ct,hm⟩:=bZ hm;refine qI ct (ab.addr ct) ?_;refine go ?_;refine qW (fun _ hC=>(ab.gr (hC.bl ak)).atInt ct) ?_;refine go ?_;refine qv (v:=(.bool (decide (d9≤bd.2)))) rfl (fun _ hC=>Xd (congrArg Value.bool cs) rfl) ?_;refine Wn ?_;intro e0 hC;replace hC:=hC.bl ak;replace ab:=ab.gr hC;replace aa:=aa.grow hC;exact ⟨rfl,_,_,hm,aa,ab,rfl⟩
theorem Z0t:Wo Tryz.prog 9 1 16:=⟨Tryz.t9,_,rfl,rfl,rfl,rfl,rfl⟩
def Zef (aa:List ByteArray):Option R4:=
  Z0 ((([]:List ByteArray).length+aa.length) * 16≤140737488355328∧([]:List ByteArray).length+aa.length≤maxLen) (some (([]:List ByteArray)++aa))
theorem Zq8 {ad:Nat} {a0:Option Addr} {col:Zd} {w0:World} {ac r:R4} (c1:Nat) (hm:Zef ac=some r) (h0:Sl Za.str col w0 a0 ad ac):
    Calls Tryz.prog 107 #[.slice a0 ac.length ad] w0 (fun e w'=>∃ (col':Zd) (ra1:Option Addr) (rc2:Nat),e= .returned ((.slice ra1 r.length rc2))∧Zg col w0 col' w'∧Zb Za.str 9 c1 col' w' ra1 rc2 r):=by
 refine Xl 2 (m:=8) func107 rfl rfl rfl rfl rfl ?_;rw [Zef.eq_1] at hm;have aa:=St.start col w0;refine go ?_;replace h0:=h0.keep (Zl.start col w0);rcases Zo5 h0 with ab | ab
 ·replace hm:some ([]:List ByteArray)=some r:=by have h0:=ab.2;subst h0;simpa [Z0,maxLen] using hm
  refine lv (v:=.bool a0.isNone) rfl rfl (Zg7 underlying22 rfl)<|.ld (d:=4) (v:=.bool true) (congrArg Value.bool ab.1)<|Zm<|X9 rfl<|go ?_;cases hm;exact ⟨rfl,_,none,0,rfl,aa.fin (cm []),Zb.nil⟩
 refine lv (v:=.bool a0.isNone) rfl rfl (Zg7 underlying22 rfl)<|.ld (d:=4) (v:=.bool false) (congrArg Value.bool ab)<|Zm<|X4 rfl<|go ?_;refine Zko (col:=(Zk col)) (r:=Za.str) 1 rfl underlying22 Z0t rfl ?_;intro aj ak al ae af;refine Wk rfl ?_;obtain ⟨ag,hm⟩:=Z2 hm;replace h0:=h0.gr ae;refine Vv af h0.srcC ag ?_;intro am an ao ap ah ai;refine go ?_;cases hm;replace aa:=(aa.grow ae).kpp ah;exact ⟨rfl,_,_,_,rfl,aa.fin (cm [(1,c1)]),aa.fo ai⟩
theorem Z0j:Wo Tryz.prog 22 1 24:=⟨Tryz.t22,_,rfl,rfl,rfl,rfl,rfl⟩
theorem Z0l:Wo Tryz.prog 39 1 24:=⟨Tryz.t39,_,rfl,rfl,rfl,rfl,rfl⟩
theorem Z0r:Wo Tryz.prog 71 1 24:=⟨Tryz.t71,_,rfl,rfl,rfl,rfl,rfl⟩
def Zcc (N:Nat) (ae:Int) (af:ByteArray) (ag:List ByteArray) (ah:List R4) (ai:List R2) (ac:List R7) (kk_L1:(Int→ByteArray→R4→(List R4)→Ra→(List R7)→Option R1)) (aj:List ByteArray) (ak:List Int):List R0→R7→Option R1
  | [],ab=>Z0 ((ac.length+[ab].length) * 24≤140737488355328∧ac.length+[ab].length≤maxLen) (kk_L1 (i64.wrap (ae+1)) af ag (ah++[aj]) (ai++[ak]) (ac++[ab]))
  | ad :: al,ab=>(V3 N ((ad.1.1,ad.1.2),ad.2) ((false,([]:List Int)),([]:List Int))).bind fun aa=>Z0 ((ab.length+[((aa.1.1,aa.1.2),aa.2)].length) * 56≤140737488355328∧ab.length+[((aa.1.1,aa.1.2),aa.2)].length≤maxLen) ((Zcc N ae af ag ah ai ac kk_L1 aj ak al) (ab++[((aa.1.1,aa.1.2),aa.2)]))
termination_by structural x=>x
def Za1 (N:Nat) (aa:R1):Nat→Int→ByteArray→R4→(List R4)→Ra→(List R7)→Option R1
  | 0,_,_,_,_,_,_=>none
  | aj+1,ab,ag,ah,ac,ad,ai=>if (decide (ab<(aa.2.1.length:Int)))=true then ((Zn aa.2.2.1 ab).bind fun ak=>(Zef ak).bind fun ae=>Z0 ((ac.length+[ae].length) * 24≤140737488355328∧ac.length+[ae].length≤maxLen) ((Zn aa.2.2.2.1 ab).bind fun al=>(Zc0 al).bind fun af=>Z0 ((ad.length+[af].length) * 24≤140737488355328∧ad.length+[af].length≤maxLen) ((Zn aa.2.2.2.2 ab).bind fun am=>Zcc N ab ag ah ac ad ai (Za1 N aa aj) ae af am ([]:List R0)))) else (some (ag,ah,ac,ad,ai))
termination_by structural x=>x
def Zfz (N:Nat) (aa:R1):Option R1:=
  (Zef aa.2.1).bind fun ab=>Za1 N aa N 0 aa.1 ab ([]:List R4) ([]:List R2) ([]:List R7)
theorem Zyi {N cd bz bu bi:Nat} {ce b0 bv bj:Option Addr} {col:Zd} {w0:World} {af r:R1} (c1 c2 c3 c4:Nat) (hm:Zfz N af=some r) (cv:Sl Za.str col w0 ce cd af.2.1) (cf:Sl (Za.slice Za.str) col w0 b0 bz af.2.2.1) (cg:Sl (Za.slice (Za.int .i64)) col w0 bv bu af.2.2.2.1) (ch:Sl (Za.slice (Za.pair (Za.pair Za.bool (Za.slice (Za.int .u32))) (Za.slice (Za.int .u32)))) col w0 bj bi af.2.2.2.2):
    Calls Tryz.prog 51 #[(.agg #[.string af.1,.slice ce af.2.1.length cd,.slice b0 af.2.2.1.length bz,.slice bv af.2.2.2.1.length bu,.slice bj af.2.2.2.2.length bi])] w0 (fun e w'=>∃ (col':Zd) (ra1:Option Addr) (rc2:Nat) (ra4:Option Addr) (rc5:Nat) (ra7:Option Addr) (rc8:Nat) (ra10:Option Addr) (rc11:Nat),e= .returned ((.agg #[.string r.1,.slice ra1 r.2.1.length rc2,.slice ra4 r.2.2.1.length rc5,.slice ra7 r.2.2.2.1.length rc8,.slice ra10 r.2.2.2.2.length rc11]))∧Zg col w0 col' w'∧Zb Za.str 9 c1 col' w' ra1 rc2 r.2.1∧Zb (Za.row 9 Za.str) 22 c2 col' w' ra4 rc5 r.2.2.1∧Zb (Za.row 3 (Za.int .i64)) 39 c3 col' w' ra7 rc8 r.2.2.2.1∧Zb (Za.row 35 (Za.pair (Za.pair Za.bool (Za.row 77 (Za.int .u32))) (Za.row 77 (Za.int .u32)))) 71 c4 col' w' ra10 rc11 r.2.2.2.2):=by
 refine Yw (m:=69) func51 rfl rfl rfl ?_;rw [Zfz.eq_1] at hm;have aa:=St.start col w0;refine go ?_;refine Xp (col:=(Zk col)) 1 rfl ?_;intro du f5 ea eb ab;refine Xa (col:=ea) #[.string (⟨#[]⟩),.slice none (([]:List ByteArray).length) 0,.slice none (([]:List R4).length) 0,.slice none (([]:List R2).length) 0,(.slice none (([]:List R7).length) 0)] 2 zeroValue27 ?_;intro dv f6 ec dw ac;refine go ?_;replace ab:=ab.gr dw;refine lV _ (Z3 isAgg27 sizeOf27 ab)<|Xa (col:=ec) #[.string (⟨#[]⟩),.slice none (([]:List ByteArray).length) 0,.slice none (([]:List R4).length) 0,.slice none (([]:List R2).length) 0,(.slice none (([]:List R7).length) 0)] 3 zeroValue27 ?_;intro a4 f7 f8 cw ed;refine Zu ed ?_;intro f9 cx ee cy;refine go ?_;refine Xo ⟨_,_,rfl⟩ ?_;replace ab:=(ab.gr cw).kp cx;refine lW ((ab.atN).nth (q:=1) rfl) ?_;obtain ⟨b1,ef,hm⟩:=bZ hm;replace cv:=cv.keep (Zl.start col w0);replace aa:=(((aa.grow eb).grow dw).grow cw).kp cx ee;refine Zi (Zq8 4 ef (cv.ks aa)) ?_;rintro _ ga ⟨ci,b2,b3,rfl,cj,cz⟩;refine ⟨_,rfl,?_⟩;refine Xo ⟨_,_,rfl⟩ ?_;replace cy:=cy.gr cj;refine Zb2 (off:=1) (v:=(.slice b2 b1.length b3)) cy sizeOf22 rfl rfl (by intro u hu;simp only [Value.cells,List.mem_cons,List.not_mem_nil,or_false] at hu;subst hu;rfl) rfl rfl ?_;intro eg ck eh c0;replace c0:Zj 27 3 ci eg a4 #[.string af.1,.slice b2 b1.length b3,.slice b0 af.2.2.1.length bz,.slice bv af.2.2.2.1.length bu,.slice bj af.2.2.2.2.length bi]:=c0;refine go ?_;refine Xo ⟨_,_,rfl⟩ ?_;refine Zb2 (off:=2) (v:=(.slice none (([]:List R4).length) 0)) c0 sizeOf23 rfl rfl (by intro u hu;simp only [Value.cells,List.mem_cons,List.not_mem_nil,or_false] at hu;subst hu;rfl) rfl rfl ?_;intro ei cl ej c5;replace c5:Zj 27 3 ci ei a4 #[.string af.1,.slice b2 b1.length b3,.slice none (([]:List R4).length) 0,.slice bv af.2.2.2.1.length bu,.slice bj af.2.2.2.2.length bi]:=c5;refine Xo ⟨_,_,rfl⟩ ?_;refine Zb2 (off:=3) (v:=(.slice none (([]:List R2).length) 0)) c5 sizeOf24 rfl rfl (by intro u hu;simp only [Value.cells,List.mem_cons,List.not_mem_nil,or_false] at hu;subst hu;rfl) rfl rfl ?_;intro ek cn el c6
 replace c6:Zj 27 3 ci ek a4 #[.string af.1,.slice b2 b1.length b3,.slice none (([]:List R4).length) 0,.slice none (([]:List R2).length) 0,.slice bj af.2.2.2.2.length bi]:=c6;refine Xo ⟨_,_,rfl⟩ ?_;refine Zb2 (off:=4) (v:=(.slice none (([]:List R7).length) 0)) c6 sizeOf25 rfl rfl (by intro u hu;simp only [Value.cells,List.mem_cons,List.not_mem_nil,or_false] at hu;subst hu;rfl) rfl rfl ?_;intro em co en aj;replace aj:Zj 27 3 ci em a4 #[.string af.1,.slice b2 b1.length b3,.slice none (([]:List R4).length) 0,.slice none (([]:List R2).length) 0,(.slice none (([]:List R7).length) 0)]:=aj;refine go ?_;refine Xo ⟨_,_,rfl⟩ ?_;replace ab:=((((ab.gr cj).kp ck).kp cl).kp cn).kp co;refine lW ((ab.atN).nth (q:=1) rfl)<|go ?_;replace ac:=((((((ac.gr cw).kp cx).gr cj).kp ck).kp cl).kp cn).kp co;replace aa:=((((aa.grow cj).kp ck eh).kp cl ej).kp cn el).kp co en;replace cz:=(((cz.kp ck).kp cl).kp cn).kp co;refine Z5 [1,18,2,3,1000000] (fun n f a5=>∃ ak cp bd be bf ax c7 c8 ar cq cr au bk bm av bn,bn=n∧Za1 N af bn cp bd ax ar au av=some r∧St w0 (Zk col) ak a5∧Zj 27 1 ak a5 du #[.string af.1,.slice ce af.2.1.length cd,.slice b0 af.2.2.1.length bz,.slice bv af.2.2.2.1.length bu,.slice bj af.2.2.2.2.length bi]∧Zj 27 2 ak a5 dv #[.string (⟨#[]⟩),.slice none (([]:List ByteArray).length) 0,.slice none (([]:List R4).length) 0,.slice none (([]:List R2).length) 0,(.slice none (([]:List R7).length) 0)]∧Zb Za.str 9 4 ak a5 be bf ax∧Zb (Za.row 9 Za.str) 22 5 ak a5 c7 c8 ar∧Zb (Za.row 3 (Za.int .i64)) 39 6 ak a5 cq cr au∧Zb (Za.row 35 (Za.pair (Za.pair Za.bool (Za.row 77 (Za.int .u32))) (Za.row 77 (Za.int .u32)))) 71 7 ak a5 bk bm av∧Zj 27 3 ak a5 a4 #[.string bd,.slice be ax.length bf,.slice c7 ar.length c8,.slice cq au.length cr,.slice bk av.length bm]∧[19].map f=[.int .i64 cp]) N ⟨_,0,_,_,_,_,none,0,_,none,0,_,none,0,_,_,rfl,hm,aa,ab,ac,cz,Zb.nil,Zb.nil,Zb.nil,aj,rfl⟩ ?_;clear hm;intro n f a5 hI;obtain ⟨ak,cp,bd,be,bf,ax,c7,c8,ar,cq,cr,au,bk,bm,av,bn,hn,hm,aa,ab,ac,ad,ay,ah,ae,aj,hs⟩:=hI;subst hn;refine .lL [19] hs ?_;replace cf:=cf.keep (Zl.start col w0)
 replace cg:=cg.keep (Zl.start col w0);replace ch:=ch.keep (Zl.start col w0)
 cases bn with
 | zero=>rw [Za1.eq_1] at hm;cases hm
 | succ bn=>
  rw [Za1.eq_2] at hm;refine go ?_;refine Zp hm (fun hb hm=>go ?_) fun hb hm=>go ?_
  ·refine Wb (col:=ak) [(0,1),(1,0),(2,1),(3,0),(4,1),(5,1),(6,0),(7,3),(8,3),(9,2),(10,1),(11,2)] (by kernel_rfl) (by kernel_rfl)<|xF ⟨_,_,rfl⟩ ?_;refine xW (fun _ hC=>((aj.atN).nth (q:=2) rfl).gr (hC.bl ak)) ?_;refine xF ⟨_,_,rfl⟩ ?_;refine xW (fun _ hC=>((ab.atN).nth (q:=2) rfl).gr (hC.bl ak)) ?_;refine xu rfl rfl (fun _=>Wv rfl) ?_;obtain ⟨gb,ct,hm⟩:=bZ hm;refine xu rfl rfl (fun _=>Y4 underlying23 sizeOf22 rfl rfl (Xh ct).1 (Xh ct).2.1 ((cf.ks aa).addr ct)) ?_;obtain ⟨_,eo,ep⟩:=(cf.ks aa).atN ct;obtain ⟨⟨gc,gd,rfl,c9⟩,_⟩:=eo;refine xW (fun _ hC=>ep.one.gr (hC.bl ak)) ?_;refine xe rfl rfl ?_;intro ge hC0;have hC:=hC0.bl ak;obtain ⟨az,eq,hm⟩:=bZ hm;replace c9:=c9.gr hC;refine Zi (Zq8 8 eq c9) ?_;rintro _ gf ⟨da,dx,dy,rfl,a6,db⟩;refine ⟨_,rfl,?_⟩;refine Zm<|Xr da hC0 a6<|xe rfl rfl ?_;intro gg hC0;replace ad:=(ad.gr hC).gr a6;replace ay:=(ay.gr hC).gr a6;replace ah:=(ah.gr hC).gr a6;replace ae:=(ae.gr hC).gr a6;replace ab:=(ab.gr hC).gr a6;replace ac:=(ac.gr hC).gr a6;replace aj:=(aj.gr hC).gr a6;replace aa:=(aa.grow hC).grow a6;have hC:=hC0.bl da;replace db:=db.gr hC;refine Tn (col:=da) (r:=(Za.row 9 Za.str)) (xs:=[az]) [.slice dx az.length dy] 8 (Y3.cons1 (cs:=[.slice dx az.length dy]) db.has Rows.nil0) ?_;intro gh gi dc a7 dd;refine Zm<|Xr dc hC0 a7<|xe rfl rfl ?_;intro er hC0;replace ad:=(ad.gr hC).gr a7;replace ay:=(ay.gr hC).gr a7;replace ah:=(ah.gr hC).gr a7;replace ae:=(ae.gr hC).gr a7;replace ab:=(ab.gr hC).gr a7;replace ac:=(ac.gr hC).gr a7;replace aj:=(aj.gr hC).gr a7;replace aa:=(aa.grow hC).grow a7;have hC:=hC0.bl dc;obtain ⟨dz,hm⟩:=Z2 hm;replace ay:=ay.gr hC;replace dd:=dd.gr hC;refine Zhv (col:=dc) (w:=er) (r:=(Za.row 9 Za.str)) (c:=5) (c2:=8) (ay.ex) (dd.srcC (by decide)) rfl underlying23 Z0j rfl rfl rfl dz.1 dz.2 (by decide) ?_;intro bw bx gj a0 bo de;refine Zm<|xk a0<|xF ⟨_,_,rfl⟩ ?_;refine xe rfl rfl ?_;intro gk hC0;replace ad:=(ad.gr hC).kpp bo;replace ah:=(ah.gr hC).kpp bo;replace ae:=(ae.gr hC).kpp bo;replace ab:=(ab.gr hC).kpp bo;replace ac:=(ac.gr hC).kpp bo;replace aj:=(aj.gr hC).kpp bo;replace aa:=(aa.grow hC).kpp bo;have hC:=hC0.bl a0;replace aj:=aj.gr hC
   refine Zb2 (off:=2) (v:=(.slice bw ((ar++[az]).length) bx)) aj sizeOf23 rfl rfl (by intro u hu;simp only [Value.cells,List.mem_cons,List.not_mem_nil,or_false] at hu;subst hu;rfl) rfl rfl ?_;intro es bp et al;replace al:Zj 27 3 a0 es a4 #[.string bd,.slice be ax.length bf,.slice bw ((ar++[az]).length) bx,.slice cq au.length cr,.slice bk av.length bm]:=al;refine Zm<|xk a0 ?_;replace de:=(de.gr hC).kp bp;have ag:=de.new;refine Yz ?_;replace ad:=(ad.gr hC).kp bp;replace ah:=(ah.gr hC).kp bp;replace ae:=(ae.gr hC).kp bp;replace ab:=(ab.gr hC).kp bp;replace ac:=(ac.gr hC).kp bp;replace aa:=(aa.grow hC).kp bp et;intro gl hC;replace hC:=hC.bl a0;refine Zw<|Wb (col:=a0) [(0,1),(1,0),(2,1),(3,0),(4,1),(5,1),(6,0),(7,3),(8,3),(9,2),(10,1),(11,2)] (by kernel_rfl) (by kernel_rfl)<|xF ⟨_,_,rfl⟩ ?_;replace al:=al.gr hC;refine xW (fun _ hC=>((al.atN).nth (q:=3) rfl).gr (hC.bl a0)) ?_;refine xF ⟨_,_,rfl⟩ ?_;replace ab:=ab.gr hC;refine xW (fun _ hC=>((ab.atN).nth (q:=3) rfl).gr (hC.bl a0)) ?_;refine xu rfl rfl (fun _=>Wv rfl) ?_;obtain ⟨gm,cu,hm⟩:=bZ hm;replace aa:=aa.grow hC;refine xu rfl rfl (fun _=>Y4 underlying24 sizeOf39 rfl rfl (Xh cu).1 (Xh cu).2.1 ((cg.ks aa).addr cu)) ?_;obtain ⟨_,eu,ew⟩:=(cg.ks aa).atN cu;obtain ⟨⟨gp,gs,rfl,df⟩,_⟩:=eu;refine xW (fun _ hC=>ew.one.gr (hC.bl a0)) ?_;refine xe rfl rfl ?_;intro gt hC0;replace ad:=ad.gr hC;replace ag:=ag.gr hC;replace ah:=ah.gr hC;replace ae:=ae.gr hC;replace ac:=ac.gr hC;have hC:=hC0.bl a0;obtain ⟨a8,ey,hm⟩:=bZ hm;replace df:=df.gr hC;refine Zi (Zne 9 ey df) ?_;rintro _ gu ⟨dg,d0,d1,rfl,a9,dh⟩;refine ⟨_,rfl,?_⟩;refine Zm<|Xr dg hC0 a9<|xe rfl rfl ?_;intro gv hC0;replace ad:=(ad.gr hC).gr a9;replace ag:=(ag.gr hC).gr a9;replace ah:=(ah.gr hC).gr a9;replace ae:=(ae.gr hC).gr a9;replace ab:=(ab.gr hC).gr a9;replace ac:=(ac.gr hC).gr a9;replace al:=(al.gr hC).gr a9;replace aa:=(aa.grow hC).grow a9;have hC:=hC0.bl dg;replace dh:=dh.gr hC;refine Tn (col:=dg) (r:=(Za.row 3 (Za.int .i64))) (xs:=[a8]) [.slice d0 a8.length d1] 9 (Y3.cons1 (cs:=[.slice d0 a8.length d1]) dh.has Rows.nil0) ?_;intro gw gx di ba dj;refine Zm<|Xr di hC0 ba<|xe rfl rfl ?_;intro ez hC0;replace ad:=(ad.gr hC).gr ba;replace ag:=(ag.gr hC).gr ba
   replace ah:=(ah.gr hC).gr ba;replace ae:=(ae.gr hC).gr ba;replace ab:=(ab.gr hC).gr ba;replace ac:=(ac.gr hC).gr ba;replace al:=(al.gr hC).gr ba;replace aa:=(aa.grow hC).grow ba;have hC:=hC0.bl di;obtain ⟨d2,hm⟩:=Z2 hm;replace ah:=ah.gr hC;replace dj:=dj.gr hC;refine Zhv (col:=di) (w:=ez) (r:=(Za.row 3 (Za.int .i64))) (c:=6) (c2:=9) (ah.ex) (dj.srcC (by decide)) rfl underlying24 Z0l rfl rfl rfl d2.1 d2.2 (by decide) ?_;intro b4 b5 gy b6 bq dl;refine Zm<|xk b6<|xF ⟨_,_,rfl⟩ ?_;refine xe rfl rfl ?_;intro gz hC0;replace ad:=(ad.gr hC).kpp bq;replace ag:=(ag.gr hC).kpp bq;replace ae:=(ae.gr hC).kpp bq;replace ab:=(ab.gr hC).kpp bq;replace ac:=(ac.gr hC).kpp bq;replace al:=(al.gr hC).kpp bq;replace aa:=(aa.grow hC).kpp bq;have hC:=hC0.bl b6;replace al:=al.gr hC;refine Zb2 (off:=3) (v:=(.slice b4 ((au++[a8]).length) b5)) al sizeOf24 rfl rfl (by intro u hu;simp only [Value.cells,List.mem_cons,List.not_mem_nil,or_false] at hu;subst hu;rfl) rfl rfl ?_;intro e0 br e1 ai;replace ai:Zj 27 3 b6 e0 a4 #[.string bd,.slice be ax.length bf,.slice bw ((ar++[az]).length) bx,.slice b4 ((au++[a8]).length) b5,.slice bk av.length bm]:=ai;refine Zm<|xk b6 ?_;replace dl:=(dl.gr hC).kp br;have am:=dl.new;refine Yz ?_;replace ad:=(ad.gr hC).kp br;replace ag:=(ag.gr hC).kp br;replace ae:=(ae.gr hC).kp br;replace ab:=(ab.gr hC).kp br;replace ac:=(ac.gr hC).kp br;replace aa:=(aa.grow hC).kp br e1;intro g0 hC;replace hC:=hC.bl b6;refine go ?_;refine Xo ⟨_,_,rfl⟩ ?_;replace ab:=ab.gr hC;refine lW ((ab.atN).nth (q:=4) rfl)<|Ya rfl ?_;obtain ⟨b7,dm,hm⟩:=bZ hm;replace aa:=aa.grow hC;refine lI dm ((ch.ks aa).addr dm) ?_;obtain ⟨_,e2,e3⟩:=(ch.ks aa).atN dm;obtain ⟨⟨e4,e5,rfl,ao⟩,_⟩:=e2;refine lW e3.one<|go ?_;replace ad:=ad.gr hC;replace ag:=ag.gr hC;replace am:=am.gr hC;replace ae:=ae.gr hC;replace ac:=ac.gr hC;replace ai:=ai.gr hC
   refine Z5 [1,18,19,2,3,48,49,1000000] (fun n f aw=>∃ an b8 b9 bb ca cb,n=cb.length∧b7.drop ca=cb∧Zcc N cp bd ax ar au av (Za1 N af bn) az a8 cb bb=some r∧St w0 (Zk col) an aw∧Zj 27 1 an aw du #[.string af.1,.slice ce af.2.1.length cd,.slice b0 af.2.2.1.length bz,.slice bv af.2.2.2.1.length bu,.slice bj af.2.2.2.2.length bi]∧Zj 27 2 an aw dv #[.string (⟨#[]⟩),.slice none (([]:List ByteArray).length) 0,.slice none (([]:List R4).length) 0,.slice none (([]:List R2).length) 0,(.slice none (([]:List R7).length) 0)]∧Zb Za.str 9 4 an aw be bf ax∧Zb (Za.row 9 Za.str) 22 5 an aw bw bx (ar++[az])∧Zb (Za.row 3 (Za.int .i64)) 39 6 an aw b4 b5 (au++[a8])∧Zb (Za.row 35 (Za.pair (Za.pair Za.bool (Za.row 77 (Za.int .u32))) (Za.row 77 (Za.int .u32)))) 71 7 an aw bk bm av∧Zj 27 3 an aw a4 #[.string bd,.slice be ax.length bf,.slice bw ((ar++[az]).length) bx,.slice b4 ((au++[a8]).length) b5,.slice bk av.length bm]∧Sl (Za.pair (Za.pair Za.bool (Za.slice (Za.int .u32))) (Za.slice (Za.int .u32))) an aw e4 e5 b7∧Zb (Za.pair (Za.pair Za.bool (Za.row 77 (Za.int .u32))) (Za.row 77 (Za.int .u32))) 35 10 an aw b8 b9 bb∧[50,5].map f=[.int .i64 ca,.slice b8 bb.length b9]) b7.length ⟨_,none,0,_,0,_,rfl,rfl,hm,aa,ab,ac,ad,ag,am,ae,ai,ao,Zb.nil,rfl⟩ ?_;clear hm;intro n f aw hI;obtain ⟨an,b8,b9,bb,ca,cb,hn,hl,hm,aa,ab,ac,ad,ag,am,ae,ai,ao,bg,hs⟩:=hI;subst hn;refine .lL [50,5] hs ?_
   cases cb with
   | nil=>
    have hk:¬ ((ca:Int)<(b7.length:Int)):=by have:=List.drop_eq_nil_iff.1 hl;omega
    have hkb:=decide_eq_false hk;rw [Zcc.eq_1] at hm;refine go ?_;refine X4 (congrArg Value.bool hkb)<|go ?_;refine Xw ai<|Wk rfl<|Tn (col:=an) (r:=(Za.row 35 (Za.pair (Za.pair Za.bool (Za.row 77 (Za.int .u32))) (Za.row 77 (Za.int .u32))))) (xs:=[bb]) [.slice b8 bb.length b9] 10 (Y3.cons1 (cs:=[.slice b8 bb.length b9]) bg.has Rows.nil0) ?_;intro g1 e6 e7 bh e8;obtain ⟨d3,hm⟩:=Z2 hm;replace ae:=ae.gr bh;refine Zhv (col:=e7) (w:=e6) (r:=(Za.row 35 (Za.pair (Za.pair Za.bool (Za.row 77 (Za.int .u32))) (Za.row 77 (Za.int .u32))))) (c:=7) (c2:=10) (ae.ex) (e8.srcC (by decide)) rfl underlying25 Z0r rfl rfl rfl d3.1 d3.2 (by decide) ?_;intro d4 d5 g2 e9 bs dn;refine Xo ⟨_,_,rfl⟩ ?_;replace ai:=(ai.gr bh).kpp bs;refine Zb2 (off:=4) (v:=(.slice d4 ((av++[bb]).length) d5)) ai sizeOf25 rfl rfl (by intro u hu;simp only [Value.cells,List.mem_cons,List.not_mem_nil,or_false] at hu;subst hu;rfl) rfl rfl ?_;intro fa bt fb dp;replace dp:Zj 27 3 e9 fa a4 #[.string bd,.slice be ax.length bf,.slice bw ((ar++[az]).length) bx,.slice b4 ((au++[a8]).length) b5,.slice d4 ((av++[bb]).length) d5]:=dp;replace dn:=dn.kp bt;have fc:=dn.new;refine go ?_;replace ad:=((ad.gr bh).kpp bs).kp bt;replace ag:=((ag.gr bh).kpp bs).kp bt;replace am:=((am.gr bh).kpp bs).kp bt;replace ab:=((ab.gr bh).kpp bs).kp bt;replace ac:=((ac.gr bh).kpp bs).kp bt;replace aa:=((aa.grow bh).kpp bs).kp bt fb;exact ⟨bn,by omega,rfl,⟨_,_,_,_,_,_,_,_,_,_,_,_,_,_,_,_,rfl,hm,aa,ab,ac,ad,ag,am,fc,dp,rfl⟩⟩
   | cons dq fd=>
    obtain ⟨dr,fe,ff⟩:=Yg hl;have hk:(ca:Int)<(b7.length:Int):=by omega
    have hkb:=decide_eq_true hk;rw [Zcc.eq_2] at hm;refine go ?_;refine X9 (congrArg Value.bool hkb)<|go ?_;refine lI dr (ao.addr dr) ?_;obtain ⟨_,fg,fh⟩:=ao.atN dr;obtain ⟨_,_,rfl,fi,fj⟩:=We fg;obtain ⟨_,_,rfl,fk,fl⟩:=We fi;obtain ⟨rfl,_⟩:=fk;obtain ⟨⟨fm,fn,rfl,ds⟩,_⟩:=fl;obtain ⟨⟨fp,fq,rfl,dt⟩,_⟩:=fj;refine lV (.agg #[.bool dq.1.1,.slice fm dq.1.2.length fn,.slice fp dq.2.length fq]) (Xc isAgg35 sizeOf35 rfl rfl fh)<|Xa (col:=an) #[.bool false,.slice none (([]:List Int).length) 0,.slice none (([]:List Int).length) 0] 11 zeroValue35 ?_;intro g3 g4 g5 ap fr;refine Zu fr ?_;intro g6 aq ft fu;refine go ?_;refine lV _ (Z3 isAgg35 sizeOf35 fu)<|lV (.agg #[.bool false,.slice none (([]:List Int).length) 0,.slice none (([]:List Int).length) 0]) (Yi (l:=[_,_]) (qs:=[(0,2),(2,1)]) underlying35 zeroValue35 ⟨rfl,sizeOf33,rfl,sizeOf31,trivial⟩ rfl) ?_;obtain ⟨a1,fv,hm⟩:=bZ hm;replace ds:=(ds.gr ap).kp aq;replace dt:=(dt.gr ap).kp aq;refine Zi (Zam 12 13 fv ds dt Sl.nil Sl.nil) ?_;rintro _ g7 ⟨fw,d6,d7,d8,d9,rfl,a2,fx,fy⟩;refine ⟨_,rfl,?_⟩;have fz:=Xq.join (Xq.joinL (Ue a1.1.1) fx.has) fy.has (by decide) (by decide);replace ad:=((ad.gr ap).kp aq).gr a2;replace ad:=ad.recol 13 12 (by decide);replace ag:=((ag.gr ap).kp aq).gr a2;replace ag:=ag.recol 13 12 (by decide);replace am:=((am.gr ap).kp aq).gr a2;replace am:=am.recol 13 12 (by decide);replace ae:=((ae.gr ap).kp aq).gr a2;replace ae:=ae.recol 13 12 (by decide);replace ao:=((ao.gr ap).kp aq).gr a2;replace ao:=ao.recol 13 12 (by decide);replace bg:=((bg.gr ap).kp aq).gr a2;replace bg:=bg.recol 13 12 (by decide);replace ab:=((ab.gr ap).kp aq).gr a2;replace ab:=ab.recol 13 12 (by decide);replace ac:=((ac.gr ap).kp aq).gr a2;replace ac:=ac.recol 13 12 (by decide);replace ai:=((ai.gr ap).kp aq).gr a2;replace ai:=ai.recol 13 12 (by decide);replace aa:=((aa.grow ap).kp aq ft).grow a2;replace aa:=aa.recol 13 12 (by decide) (by decide)
    refine Tn (col:=(Xb 13 12 fw)) (r:=(Za.pair (Za.pair Za.bool (Za.row 77 (Za.int .u32))) (Za.row 77 (Za.int .u32)))) (xs:=[((a1.1.1,a1.1.2),a1.2)]) [(.agg #[.bool a1.1.1,.slice d6 a1.1.2.length d7,.slice d8 a1.2.length d9])] 12 (Y3.cons1 (cs:=[.bool a1.1.1,.slice d6 a1.1.2.length d7,.slice d8 a1.2.length d9]) fz Rows.nil0) ?_;intro g8 g9 ha a3 f0;obtain ⟨f1,hm⟩:=Z2 hm;replace bg:=bg.gr a3;refine Vv (c:=10) (c2:=12) bg (f0.srcC (by decide)) f1 ?_;intro hc hd he hf bc f2;refine go ?_;replace ad:=(ad.gr a3).kpp bc;replace ag:=(ag.gr a3).kpp bc;replace am:=(am.gr a3).kpp bc;replace ae:=(ae.gr a3).kpp bc;replace ao:=(ao.gr a3).kpp bc;replace ab:=(ab.gr a3).kpp bc;replace ac:=(ac.gr a3).kpp bc;replace ai:=(ai.gr a3).kpp bc;replace aa:=(aa.grow a3).kpp bc;exact ⟨fd.length,by simp,rfl,⟨_,_,_,_,_,_,rfl,fe,hm,aa,ab,ac,ad,ag,am,ae,ai,ao,f2,(Ym (congrArg (Value.int .i64) (Yk (Nat.lt_of_lt_of_le ff ao.1.1))) rfl)⟩⟩
  refine lV _ (Z3 isAgg27 sizeOf27 aj)<|Zu ac ?_;intro hg cc f3 f4;refine go ?_;cases hm;replace ad:=ad.kp cc;replace ay:=ay.kp cc;replace ah:=ah.kp cc;replace ae:=ae.kp cc;replace aa:=aa.kp cc f3;exact ⟨rfl,_,ra f4.atN,_,_,_,_,_,_,_,_,_,rfl,aa.fin (cm [(4,c1),(5,c2),(6,c3),(7,c4)]),aa.fo ad,aa.fo ay,aa.fo ah,aa.fo ae⟩
def Zdm (N:Nat) (aa:R1):List R5→Option (List Rg)
  | []=>some []
  | ac :: ad=>(Zf3 N (aa.1,aa.2.1,aa.2.2.1,aa.2.2.2.1,aa.2.2.2.2) ac.2).bind fun ab=>(Zc0 ac.2).bind fun ae=>((Zdm N aa ad)).bind fun af=>some ((ae,((ab.1.1.1,ab.1.1.2),ab.1.2)) :: af)
termination_by structural x=>x
def Zkz (N:Nat) (aa:List Int) (ab:R1):Option (List Rg):=
  (Zi0 N aa).bind fun ac=>Zdm N ab ac
theorem Zyg (N:Nat) (cy:Nat) (col:Zd) (w0:World) (g0:Nat) (af0:Option Addr) (capf0:Nat) (az:List Int) (hf0:Sl (Za.int .i64) col w0 af0 capf0 az) (hb0:Zj 39 450 col w0 g0 #[.slice af0 az.length capf0]) (g1:Nat) (a2:Option Addr) (a3:Nat) (a4:Option Addr) (a5:Nat) (a6:Option Addr) (a7:Nat) (a8:Option Addr) (a9:Nat) (ah:R1) (ab:Sl Za.str col w0 a2 a3 ah.2.1) (ac:Sl (Za.slice Za.str) col w0 a4 a5 ah.2.2.1) (ad:Sl (Za.slice (Za.int .i64)) col w0 a6 a7 ah.2.2.2.1) (ae:Sl (Za.slice (Za.pair (Za.pair Za.bool (Za.slice (Za.int .u32))) (Za.slice (Za.int .u32)))) col w0 a8 a9 ah.2.2.2.2) (hb1:Zj 27 450 col w0 g1 #[.string ah.1,.slice a2 ah.2.1.length a3,.slice a4 ah.2.2.1.length a5,.slice a6 ah.2.2.2.1.length a7,.slice a8 ah.2.2.2.2.length a9]) (r:List Rg) (hm:Zkz N az ah=some r):
    Zhh Tryz.prog 2 52 [.pointer (some ⟨g0,0,none⟩),.pointer (some ⟨g1,0,none⟩)] (fun (y:List Int×R0) (col:Zd) (w:World) (args:List Value)=>∃ (a0:Option Addr) (bf:Nat) (a1_0_1:Option Addr) (c1_0_1:Nat) (bg:Option Addr) (bh:Nat),args=[.slice a0 y.1.length bf,.agg #[.bool y.2.1.1,.slice a1_0_1 y.2.1.2.length c1_0_1,.slice bg y.2.2.length bh]]∧Zb (Za.int .i64) 3 cy col w a0 bf y.1∧Sl (Za.int .u32) col w a1_0_1 c1_0_1 y.2.1.2∧Sl (Za.int .u32) col w bg bh y.2.2) r col w0:=by
 intro l J X hjs hxs hy aa;refine Zzt (mc:=1998) (m:=24) (args:=[.func (.yield l) #[] #[],.pointer (some ⟨g0,0,none⟩),.pointer (some ⟨g1,0,none⟩)]) func52 rfl rfl rfl rfl ?_;rw [Zkz.eq_1] at hm;have hmk:Yp 1998 col w0 []:=.nil;refine go ?_;refine Zde (col:=col) (v:=(.func (.yield l) #[] #[])) 1001 rfl rfl ?_;intro bi bq br ax af;replace hf0:=hf0.gr ax;replace ab:=ab.gr ax;replace ac:=ac.gr ax;replace ad:=ad.gr ax;replace ae:=ae.gr ax;replace hb0:=hb0.gr ax;replace hb1:=hb1.gr ax;replace hmk:=hmk.gr ax;replace aa:=hjs _ _ _ _ _ aa ax.toP;replace af:Zj 87 1001 br bq bi #[(.func (.yield l) #[] #[])]:=af;refine go ?_;refine lW hb0.at1 ?_;obtain ⟨bs,bt,hm⟩:=bZ hm;refine Zi (Zza 1002 bt hf0) ?_;rintro _ cf ⟨bu,cg,rfl,aw,bv⟩;refine ⟨_,rfl,?_⟩;replace ab:=ab.gr aw;replace ac:=ac.gr aw;replace ad:=ad.gr aw;replace ae:=ae.gr aw;replace hf0:=hf0.gr aw;replace hb0:=hb0.gr aw;replace hb1:=hb1.gr aw;replace af:=af.gr aw;replace hmk:=hmk.gr aw;replace aa:=hjs _ _ _ _ _ aa aw.toP;refine go ?_;refine Zms (psl:=[10,11]) (arr:=(fun (y:Int×List Int) (col:Zd) (w:World) (args:List Value)=>∃ (a1:Option Addr) (bj:Nat),args=[.int .i64 y.1,.slice a1 y.2.length bj]∧Zb (Za.int .i64) 3 1002 col w a1 bj y.2)) (ys:=bs) (col:=bu) 1999 rfl bv rfl hmk rfl rfl (by rintro _ _ _ _ ⟨_,_,rfl,_⟩;rfl) (fun ys_ ag al=>∃ (r:List Rg),Zdm N ah ys_=some r∧J r ag al∧Sl Za.str ag al a2 a3 ah.2.1∧Sl (Za.slice Za.str) ag al a4 a5 ah.2.2.1∧Sl (Za.slice (Za.int .i64)) ag al a6 a7 ah.2.2.2.1∧Sl (Za.slice (Za.pair (Za.pair Za.bool (Za.slice (Za.int .u32))) (Za.slice (Za.int .u32)))) ag al a8 a9 ah.2.2.2.2∧Zj 27 450 ag al g1 #[.string ah.1,.slice a2 ah.2.1.length a3,.slice a4 ah.2.2.1.length a5,.slice a6 ah.2.2.2.1.length a7,.slice a8 ah.2.2.2.2.length a9]∧Zj 87 1001 ag al bi #[(.func (.yield l) #[] #[])]∧Sl (Za.int .i64) ag al af0 capf0 az∧Zj 39 450 ag al g0 #[.slice af0 az.length capf0]) (fun c_ ag al=>(c_= .ret∧X ag al)) ?_ ?_ ⟨r,hm,aa,ab,ac,ad,ae,hb1,af,hf0,hb0⟩ ?_ ?_ ?_
 ·intro ys_ ag al col2_ w2_ hJ hk;obtain ⟨r,hm,aa,ab,ac,ad,ae,hb1,af,hf0,hb0⟩:=hJ;exact ⟨r,hm,(hjs _ _ _ _ _ aa (hk.mono fun _=>Zuy)),ab.kpp hk rfl,ac.kpp hk rfl,ad.kpp hk rfl,ae.kpp hk rfl,hb1.kpp hk rfl,af.kpp hk rfl,hf0.kpp hk rfl,hb0.kpp hk rfl⟩
 ·intro c_ ag al col2_ w2_ hX hk;obtain ⟨rfl,hX⟩:=hX;exact ⟨rfl,hxs _ _ _ _ hX (hk.mono fun _=>Zuy)⟩
 ·intro ch ci cj ck cl ag al args hJ hrec hmk harr;obtain ⟨r,hm,aa,ab,ac,ad,ae,hb1,af,hf0,hb0⟩:=hJ;rw [Zdm.eq_2] at hm;have hki:=Zt.refl (pC 1) ag al;obtain ⟨cn,co,rfl,aq⟩:=harr;refine go ?_;refine ⟨_,hrec,?_⟩;intro bw cp ar bk hrec2;replace ab:=ab.kp ar;replace ac:=ac.kp ar;replace ad:=ad.kp ar;replace ae:=ae.kp ar;replace aq:=aq.kp ar;replace hf0:=hf0.kp ar;replace hb1:=hb1.kp ar;replace af:=af.kp ar;replace hb0:=hb0.kp ar;replace hmk:=hmk.kp ar;replace hki:=hki.kp ar bk rfl;replace aa:=hjs _ _ _ _ _ aa (ar.toP bk rfl);have hrec:=hrec2;refine go ?_;refine lV _ (Z3 isAgg27 sizeOf27 hb1)<|Wk rfl ?_;obtain ⟨au,bx,hm⟩:=bZ hm;refine Zi (Zyo 1003 1004 bx (ab.froz 1002) (ac.froz 1002) (ad.froz 1002) (ae.froz 1002) (aq.toSlF (Ze.int .i64))) ?_;rintro _ cq ⟨bz,ba,bb,bc,bd,rfl,am,ai,aj⟩;refine ⟨_,rfl,?_⟩;replace ai:=ai.thaw (Zs .u32) am ((Fz.refl (col:=ag)).froz 1002) (by decide);replace aj:=aj.thaw (Zs .u32) am ((Fz.refl (col:=ag)).froz 1002) (by decide);replace am:=am.thawR (col:=ag);generalize Z1 bw.heap.size ag bz=b0 at *;replace ab:=ab.gr am;replace ac:=ac.gr am;replace ad:=ad.gr am;replace ae:=ae.gr am;replace aq:=aq.gr am;replace hf0:=hf0.gr am;replace hb1:=hb1.gr am;replace af:=af.gr am;replace hb0:=hb0.gr am;replace hrec:=hrec.gr am;replace hmk:=hmk.gr am;replace hki:=hki.gr am;replace aa:=hjs _ _ _ _ _ aa am.toP;refine lM (.tuple #[(.agg #[.bool au.1.1.1,.slice ba au.1.1.2.length bb,.slice bc au.1.2.length bd]),.int .i64 au.2])<|lV (.agg #[.bool au.1.1.1,.slice ba au.1.1.2.length bb,.slice bc au.1.2.length bd]) (Z8 rfl rfl)<|lV (.int .i64 au.2) (Z8 rfl rfl)<|Xa (col:=b0) #[.bool false,.slice none (([]:List Int).length) 0,.slice none (([]:List Int).length) 0] 1005 zeroValue35 ?_;intro cr cs ay an b1;replace ab:=ab.gr an;replace ac:=ac.gr an;replace ad:=ad.gr an;replace ae:=ae.gr an;replace aq:=aq.gr an;replace ai:=ai.gr an;replace aj:=aj.gr an;replace hf0:=hf0.gr an;replace hb1:=hb1.gr an;replace af:=af.gr an;replace hb0:=hb0.gr an;replace hrec:=hrec.gr an;replace hmk:=hmk.gr an;replace hki:=hki.gr an;replace aa:=hjs _ _ _ _ _ aa an.toP;refine Zu b1 ?_;intro ct ao bm b2
  replace ab:=ab.kp ao;replace ac:=ac.kp ao;replace ad:=ad.kp ao;replace ae:=ae.kp ao;replace aq:=aq.kp ao;replace ai:=ai.kp ao;replace aj:=aj.kp ao;replace hf0:=hf0.kp ao;replace hb1:=hb1.kp ao;replace af:=af.kp ao;replace hb0:=hb0.kp ao;replace hrec:=hrec.kp ao;replace hmk:=hmk.kp ao;replace hki:=hki.kp ao bm rfl;replace aa:=hjs _ _ _ _ _ aa (ao.toP bm rfl);refine go ?_;refine Wb (col:=ay) [(0,0),(1,1),(3,0),(2,3),(4,2),(5,1)] (by kernel_rfl) (by kernel_rfl)<|xW (fun _ hC=>af.at1.gr (hC.bl ay)) ?_;refine xu rfl rfl (fun _=>Ve rfl) ?_;refine xv rfl rfl (fun _ hC=>Z3 isAgg35 sizeOf35 (b2.gr (hC.bl ay))) ?_;refine xe rfl rfl ?_;intro b3 hC0;have hC:=hC0.bl ay;replace ab:=ab.gr hC;replace ac:=ac.gr hC;replace ad:=ad.gr hC;replace ae:=ae.gr hC;replace aq:=aq.gr hC;replace ai:=ai.gr hC;replace aj:=aj.gr hC;replace hf0:=hf0.gr hC;replace hb1:=hb1.gr hC;replace af:=af.gr hC;replace hb0:=hb0.gr hC;replace hrec:=hrec.gr hC;replace hmk:=hmk.gr hC;replace hki:=hki.gr hC;replace aa:=hjs _ _ _ _ _ aa hC.toP;obtain ⟨b4,b5,hm⟩:=bZ hm;refine Zi (Zne 1006 b5 (aq.toSlF (Ze.int .i64))) ?_;rintro _ cu ⟨b6,bn,bo,rfl,ak,av⟩;refine ⟨_,rfl,?_⟩;replace av:=av.thaw (Zs .i64) ak ((Fz.refl (col:=ay)).froz 1002) (by decide);replace ak:=ak.thawR (col:=ay);generalize Z1 b3.heap.size ay b6=bp at *;replace ab:=ab.gr ak;replace ac:=ac.gr ak;replace ad:=ad.gr ak;replace ae:=ae.gr ak;replace ai:=ai.gr ak;replace aj:=aj.gr ak;replace hf0:=hf0.gr ak;replace hb1:=hb1.gr ak;replace af:=af.gr ak;replace hb0:=hb0.gr ak;replace hrec:=hrec.gr ak;replace hmk:=hmk.gr ak;replace hki:=hki.gr ak;replace aa:=hjs _ _ _ _ _ aa ak.toP;refine Zm<|Xr bp hC0 ak<|xe rfl rfl ?_;intro cv hC0;have hC:=hC0.bl bp;replace ab:=ab.gr hC;replace ac:=ac.gr hC;replace ad:=ad.gr hC;replace ae:=ae.gr hC;replace ai:=ai.gr hC;replace aj:=aj.gr hC;replace av:=av.gr hC;replace hf0:=hf0.gr hC;replace hb1:=hb1.gr hC;replace af:=af.gr hC;replace hb0:=hb0.gr hC;replace hrec:=hrec.gr hC;replace hmk:=hmk.gr hC;replace hki:=hki.gr hC;replace aa:=hjs _ _ _ _ _ aa hC.toP;replace ab:=ab.froz 1003;replace ac:=ac.froz 1003;replace ad:=ad.froz 1003;replace ae:=ae.froz 1003;replace ai:=(ai).toSlF (Ze.int .u32);replace aj:=aj.froz 1003 (by decide);replace av:=av.froz 1003 (by decide);replace hf0:=hf0.froz 1003
  replace hb1:=hb1.froz 1003 (by decide);replace af:=af.froz 1003 (by decide);replace hb0:=hb0.froz 1003 (by decide);replace hrec:=hrec.froz 1003 (by decide);replace hmk:=hmk.froz 1003 (by decide);replace hki:=hki.froz 1003 rfl;replace aa:=hjs _ _ _ _ _ aa ((Zt.refl _ _ _).froz 1003 rfl);replace ab:=ab.froz 1004;replace ac:=ac.froz 1004;replace ad:=ad.froz 1004;replace ae:=ae.froz 1004;replace ai:=ai.froz 1004;replace aj:=(aj).toSlF (Ze.int .u32);replace av:=av.froz 1004 (by decide);replace hf0:=hf0.froz 1004;replace hb1:=hb1.froz 1004 (by decide);replace af:=af.froz 1004 (by decide);replace hb0:=hb0.froz 1004 (by decide);replace hrec:=hrec.froz 1004 (by decide);replace hmk:=hmk.froz 1004 (by decide);replace hki:=hki.froz 1004 rfl;replace aa:=hjs _ _ _ _ _ aa ((Zt.refl _ _ _).froz 1004 rfl);replace ab:=ab.recol 1006 cy (by decide);replace ac:=ac.recol 1006 cy (by decide);replace ad:=ad.recol 1006 cy (by decide);replace ae:=ae.recol 1006 cy (by decide);replace ai:=ai.recol 1006 cy (by decide);replace aj:=aj.recol 1006 cy (by decide);replace av:=av.recolSelf cy (by decide);replace hf0:=hf0.recol 1006 cy (by decide);replace hb1:=hb1.recol 1006 cy (by decide);replace af:=af.recol 1006 cy (by decide);replace hb0:=hb0.recol 1006 cy (by decide);replace hrec:=hrec.recol 1006 cy (by decide);replace hmk:=hmk.recol 1006 cy (by decide);replace hki:=hki.recol 1006 cy rfl;replace aa:=hjs _ _ _ _ _ aa ((Zt.refl _ _ _).recol 1006 cy rfl);obtain ⟨b7,hc_68m,b8⟩:=bZ hm;cases b8;have hm:=hc_68m;refine ly2 rfl rfl rfl rfl (hy _ _ _ _ [.slice bn b4.length bo,(.agg #[.bool au.1.1.1,.slice ba au.1.1.2.length bb,.slice bc au.1.2.length bd])] aa ⟨bn,bo,ba,bb,bc,bd,rfl,av,ai,aj⟩) ?_;rintro _ cw ⟨be,ap,⟨rfl,hJ⟩ | ⟨rfl,hX⟩⟩
  ·refine ⟨_,rfl,?_⟩;replace ab:=ab.kpp ap;replace ac:=ac.kpp ap;replace ad:=ad.kpp ap;replace ae:=ae.kpp ap;replace hf0:=hf0.kpp ap;replace hb1:=hb1.kpp ap;replace af:=af.kpp ap;replace hb0:=hb0.kpp ap;replace hrec:=hrec.kpp ap;replace hmk:=hmk.kpp ap;replace hki:=hki.trans (ap.mono (by first | exact Zjd rfl | exact pCo_p1 rfl | exact pCo_pS rfl | exact fun _=>Zjc | exact fun _ h=>h | exact fun _ _=>rfl));have aa:=hJ;refine Zm<|xk be<|xu rfl rfl (fun _=>Zg8 _ rfl) ?_;refine Yz ?_;intro cx hC;replace hC:=hC.bl be;replace ab:=ab.gr hC;replace ac:=ac.gr hC;replace ad:=ad.gr hC;replace ae:=ae.gr hC;replace hf0:=hf0.gr hC;replace hb1:=hb1.gr hC;replace af:=af.gr hC;replace hb0:=hb0.gr hC;replace hrec:=hrec.gr hC;replace hmk:=hmk.gr hC;replace hki:=hki.gr hC;replace aa:=hjs _ _ _ _ _ aa hC.toP;refine X4 rfl<|Yd ?_;exact ⟨_,hki,⟨b7,hm,aa,ab,ac,ad,ae,hb1,af,hf0,hb0⟩,hrec,hmk⟩
  refine ⟨_,rfl,?_⟩;replace hrec:=hrec.kpp ap;replace hmk:=hmk.kpp ap;replace hki:=hki.trans (ap.mono (by first | exact Zjd rfl | exact pCo_p1 rfl | exact pCo_pS rfl | exact fun _=>Zjc | exact fun _ h=>h | exact fun _ _=>rfl));have aa:=hX;refine Zm<|xk be<|xu rfl rfl (fun _=>Zg8 _ rfl) ?_;refine Yz ?_;intro cz hC;replace hC:=hC.bl be;replace hrec:=hrec.gr hC;replace hmk:=hmk.gr hC;replace hki:=hki.gr hC;replace aa:=hxs _ _ _ _ aa hC.toP;refine X9 rfl<|Wx ?_;exact ⟨_,hki,⟨rfl,aa⟩,hrec,hmk⟩
 ·intro b9 ag al hJ hmk;obtain ⟨r,hm,aa,ab,ac,ad,ae,hb1,af,hf0,hb0⟩:=hJ;rw [Zdm.eq_1] at hm;cases hm;refine ⟨_,(b9 :: []),rfl,hmk,?_⟩;intro c0 ca cb;replace aa:=hjs _ _ _ _ _ aa (ca.toP cb rfl);exact ⟨⟨_,rfl⟩,_,.inl aa⟩
 intro c_ cc ag al hX hmk;obtain ⟨rfl,hX⟩:=hX;have aa:=hX;refine Wx ?_;refine ⟨_,(cc :: []),rfl,hmk,?_⟩;intro c1 cd ce;replace aa:=hxs _ _ _ _ aa (cd.toP ce rfl);exact ⟨⟨_,rfl⟩,_,.inr aa⟩
def Zfu (N:Nat) (aa:R1):Option (List Rg):=
  (Zfv N (aa.1,aa.2.1,aa.2.2.1,aa.2.2.2.1,aa.2.2.2.2) ([]:List Rb) ([]:List Int)).bind fun ac=>if (!decide (ac.2=0))=true then none else ((Zfz N (aa.1,aa.2.1,aa.2.2.1,aa.2.2.2.1,aa.2.2.2.2)).bind fun ab=>Zkz N ac.1 (ab.1,ab.2.1,ab.2.2.1,ab.2.2.2.1,ab.2.2.2.2))
theorem Zyf {N bb bc bd be:Nat} {bf bg bh bi:Option Addr} {col:Zd} {w0:World} {ai:R1} {r:(List Rg)} (cy:Nat) (hm:Zfu N ai=some r) (ar:Sl Za.str col w0 bf bb ai.2.1) (au:Sl (Za.slice Za.str) col w0 bg bc ai.2.2.1) (av:Sl (Za.slice (Za.int .i64)) col w0 bh bd ai.2.2.2.1) (aw:Sl (Za.slice (Za.pair (Za.pair Za.bool (Za.slice (Za.int .u32))) (Za.slice (Za.int .u32)))) col w0 bi be ai.2.2.2.2):
    Calls Tryz.prog 15 #[(.agg #[.string ai.1,.slice bf ai.2.1.length bb,.slice bg ai.2.2.1.length bc,.slice bh ai.2.2.2.1.length bd,.slice bi ai.2.2.2.2.length be])] w0 (fun e w'=>∃ (col':Zd) (rv1:Value),e= .returned (rv1)∧Zg col w0 col' w'∧It Tryz.prog 2 rv1 (fun (y:List Int×R0) (col:Zd) (w:World) (args:List Value)=>∃ (a0:Option Addr) (bj:Nat) (a1_0_1:Option Addr) (c1_0_1:Nat) (bk:Option Addr) (bm:Nat),args=[.slice a0 y.1.length bj,.agg #[.bool y.2.1.1,.slice a1_0_1 y.2.1.2.length c1_0_1,.slice bk y.2.2.length bm]]∧Zb (Za.int .i64) 3 cy col w a0 bj y.1∧Sl (Za.int .u32) col w a1_0_1 c1_0_1 y.2.1.2∧Sl (Za.int .u32) col w bk bm y.2.2) r q0 col' w'):=by
 refine Xl 2 (m:=16) func15 rfl rfl rfl rfl rfl ?_;rw [Zfu.eq_1] at hm;have aa:=St.start col w0;refine go ?_;refine Xp (col:=(Zk col)) 1 rfl ?_;intro b9 ca cb bp ax;refine lv (v:=_) rfl rfl (Vx rfl)<|go ?_;refine lV _ (Z3 isAgg27 sizeOf27 ax) ?_;obtain ⟨aj,bq,hm⟩:=bZ hm;replace ar:=ar.keep (Zl.start col w0);replace au:=au.keep (Zl.start col w0);replace av:=av.keep (Zl.start col w0);replace aw:=aw.keep (Zl.start col w0);replace aa:=aa.grow bp;refine Zi (Zyh 2 bq (ar.ks aa) (au.ks aa) (av.ks aa) (aw.ks aa) Sl.nil Sl.nil) ?_;rintro _ cc ⟨br,ao,ap,rfl,bn,ab⟩;refine ⟨_,rfl,?_⟩;refine lM (.tuple #[.slice ao aj.1.length ap,.int .i64 aj.2])<|lV (.slice ao aj.1.length ap) (Z8 rfl rfl)<|lV (.int .i64 aj.2) (Z8 rfl rfl)<|Zat (col:=br) (v:=(.slice none (([]:List Int).length) 0)) 3 rfl zeroValue39 ?_;intro an bs bo az a1;replace a1:Zj 39 3 bo bs an #[.slice none (([]:List Int).length) 0]:=a1;refine Ux (v:=(.slice ao aj.1.length ap)) a1 sizeOf39 rfl rfl (by intro u hu;simp only [Value.cells,List.mem_cons,List.not_mem_nil,or_false] at hu;subst hu;rfl) rfl rfl ?_;intro bt a2 bu ac;replace ac:Zj 39 3 bo bt an #[.slice ao aj.1.length ap]:=ac;refine go ?_;replace ax:=((ax.gr bn).gr az).kp a2;replace aa:=((aa.grow bn).grow az).kp a2 bu;replace ab:=(ab.gr az).kp a2;refine Zp hm (fun hb hm=>?_) fun hb hm=>go ?_
 ·cases hm
 refine lV _ (Z3 isAgg27 sizeOf27 ax) ?_;obtain ⟨aq,bv,hm⟩:=bZ hm;refine Zi (Zyi 4 5 6 7 bv (ar.ks aa) (au.ks aa) (av.ks aa) (aw.ks aa)) ?_;rintro _ cd ⟨bw,bx,bz,b0,b1,b2,b3,b4,b5,rfl,a3,ad,ae,af,ag⟩;refine ⟨_,rfl,?_⟩;refine Xa (col:=bw) #[.string (⟨#[]⟩),.slice none (([]:List ByteArray).length) 0,.slice none (([]:List R4).length) 0,.slice none (([]:List R2).length) 0,(.slice none (([]:List R7).length) 0)] 8 zeroValue27 ?_;intro ay ce b6 ak b7;refine Zu b7 ?_;intro cf al b8 ah;refine go ?_;refine lV (.func (.func 52) #[] #[.pointer (some ⟨an,0,none⟩),.pointer (some ⟨ay,0,none⟩)]) (Zpo rfl rfl)<|lA (.func (.func 52) #[] #[.pointer (some ⟨an,0,none⟩),.pointer (some ⟨ay,0,none⟩)])<|go ?_;replace ab:=((ab.gr a3).gr ak).kp al;replace ab:=(ab).toSlF (Ze.int .i64);replace ad:=(ad.gr ak).kp al;replace ad:=ad.froz 2 (by decide);replace ae:=(ae.gr ak).kp al;replace ae:=ae.froz 2 (by decide);replace af:=(af.gr ak).kp al;replace af:=af.froz 2 (by decide);replace ag:=(ag.gr ak).kp al;replace ag:=ag.froz 2 (by decide);replace ac:=((ac.gr a3).gr ak).kp al;replace ac:=ac.froz 2 (by decide);replace ah:=ah.froz 2 (by decide);replace aa:=((aa.grow a3).grow ak).kp al b8;replace aa:=aa.froz 2 (by decide) (by decide);replace ab:=ab.froz 4;replace ad:=(ad).toSlF Ze.str;replace ae:=ae.froz 4 (by decide);replace af:=af.froz 4 (by decide);replace ag:=ag.froz 4 (by decide);replace ac:=ac.froz 4 (by decide);replace ah:=ah.froz 4 (by decide);replace aa:=aa.froz 4 (by decide) (by decide);replace ab:=ab.froz 5;replace ad:=ad.froz 5;replace ae:=(ae).toSlF (Ze.row Ze.str);replace af:=af.froz 5 (by decide);replace ag:=ag.froz 5 (by decide);replace ac:=ac.froz 5 (by decide);replace ah:=ah.froz 5 (by decide);replace aa:=aa.froz 5 (by decide) (by decide);replace ab:=ab.froz 6;replace ad:=ad.froz 6;replace ae:=ae.froz 6;replace af:=(af).toSlF (Ze.row (Ze.int .i64));replace ag:=ag.froz 6 (by decide);replace ac:=ac.froz 6 (by decide);replace ah:=ah.froz 6 (by decide);replace aa:=aa.froz 6 (by decide) (by decide);replace ab:=ab.froz 7;replace ad:=ad.froz 7;replace ae:=ae.froz 7;replace af:=af.froz 7
 replace ag:=(ag).toSlF (Ze.row (Ze.pair (Ze.pair Ze.bool (Ze.row (Ze.int .u32))) (Ze.row (Ze.int .u32))));replace ac:=ac.froz 7 (by decide);replace ah:=ah.froz 7 (by decide);replace aa:=aa.froz 7 (by decide) (by decide);have a4:=aa.finBox (G:=(fun n=>bif Nat.beq n 3 then 450 else bif Nat.beq n 8 then 450 else 0)) ac (by decide) (by decide) (show (fun n=>bif Nat.beq n 3 then 450 else bif Nat.beq n 8 then 450 else 0) 3=450 from rfl);have a5:=aa.finSl (g:=(fun n=>bif Nat.beq n 3 then 450 else bif Nat.beq n 8 then 450 else 0)) rfl ab;have a6:=aa.finBox (G:=(fun n=>bif Nat.beq n 3 then 450 else bif Nat.beq n 8 then 450 else 0)) ah (by decide) (by decide) (show (fun n=>bif Nat.beq n 3 then 450 else bif Nat.beq n 8 then 450 else 0) 8=450 from rfl);have a7:=aa.finSl (g:=(fun n=>bif Nat.beq n 3 then 450 else bif Nat.beq n 8 then 450 else 0)) rfl ad;have a8:=aa.finSl (g:=(fun n=>bif Nat.beq n 3 then 450 else bif Nat.beq n 8 then 450 else 0)) rfl ae;have a9:=aa.finSl (g:=(fun n=>bif Nat.beq n 3 then 450 else bif Nat.beq n 8 then 450 else 0)) rfl af;have ba:=aa.finSl (g:=(fun n=>bif Nat.beq n 3 then 450 else bif Nat.beq n 8 then 450 else 0)) rfl ag;refine ⟨rfl,V2 w0.heap.size col (Xf 7 (Xf 6 (Xf 5 (Xf 4 (Xf 2 b6))))) (fun n=>bif Nat.beq n 3 then 450 else bif Nat.beq n 8 then 450 else 0),_,rfl,aa.fin (fun n=>bif Nat.beq n 3 then 450 else bif Nat.beq n 8 then 450 else 0),52,[.pointer (some ⟨an,0,none⟩),.pointer (some ⟨ay,0,none⟩)],rfl,call52,?_⟩;intro col9 w9 am hk9;replace a4:=a4.itk am hk9 rfl;replace a5:=a5.itk am hk9 rfl;replace a6:=a6.itk am hk9 rfl;replace a7:=a7.itk am hk9 rfl;replace a8:=a8.itk am hk9 rfl;replace a9:=a9.itk am hk9 rfl;replace ba:=ba.itk am hk9 rfl;exact Zyg N cy col9 w9 an ao ap aj.1 a5 a4 ay bx bz b0 b1 b2 b3 b4 b5 (aq.1,aq.2.1,aq.2.2.1,aq.2.2.2.1,aq.2.2.2.2) a7 a8 a9 ba a6 r hm
/-! a network whose lists are its own -/
def W1 (x:QV):QV:=Zq (Zv x)
def Vt (n:Zz):Zz:=(n.1,n.2.1,n.2.2.1,n.2.2.2.1,n.2.2.2.2.map (List.map W1))
theorem Zno (x:QV):Zv (W1 x)=Zv x:=Yx _
theorem Znn (T:List (List QV)) (v:Nat):(T.map (List.map W1)).getD v []=(T.getD v []).map W1:=by
 rw [List.getD_eq_getElem?_getD,List.getD_eq_getElem?_getD,List.getElem?_map]
 cases T[v]? with
 | none=>rfl
 | some t=>rfl
theorem Zz8 (l:List QV):Yy (l.map W1)=Yy l:=by
 rw [Yy,Yy,List.map_map]
 congr 1
 exact List.map_congr_left fun x _=>Zno x
theorem Zrp (c:Nat):∀ (m:Nat) (l:List QV),Uo c m (l.map W1)=Uo c m l
 | 0,l=>rfl
 | m+1,l=>by rw [Uo,Uo,← List.map_take,← List.map_drop,Zz8,Zrp c m]
theorem Zrs (vals:List R4) (P:List R2) (T:List (List QV)):∀ m v,Sf vals P (T.map (List.map W1)) m v=Sf vals P T m v
 | 0,v=>rfl
 | m+1,v=>by rw [Sf,Sf,Znn,List.length_map,Zrs vals P T m]
theorem Zrt (vals:List R4) (P:List R2) (T:List (List QV)):∀ m v,Zal vals P (T.map (List.map W1)) m v=Zal vals P T m v
 | 0,v=>rfl
 | m+1,v=>by rw [Zal,Zal,Znn,Zrp,Zrt vals P T m]
theorem Zz5 (T:List (List QV)):Zaq (T.map (List.map W1))=Zaq T:=by
 rw [Zaq,Zaq,List.any_map]
 congr 1
 funext t
 show (t.map W1).any Vw=t.any Vw
 rw [List.any_map]
 congr 1
 funext x
 show Vw (W1 x)=Vw x
 rw [Vw,Vw,Zno]
theorem Zz7 {N:Nat} {n:Zz} (hf:Yt N n):Yt N (Vt n) where
 ev:=⟨hf.ev.v,hf.ev.p,by show (n.2.2.2.2.map (List.map W1)).length=_;rw [List.length_map];exact hf.ev.t,hf.ev.i,hf.ev.ne⟩
 le:=hf.le
 nm:=hf.nm
 sh:=(Zrs _ _ _ _ _).trans hf.sh
 en:=(Zz5 _).trans hf.en
 su:=(Zrt _ _ _ _ _).trans hf.su
 tw:=hf.tw
 or:=hf.or
theorem Zz9 {n:Zz} {W:Nat} (hs:Wh n W) (hq:∀ t ∈ n.2.2.2.2,Yb (t.map W1)≤W):Wh (Vt n) W:=by
 refine ⟨hs.nm,hs.vl,hs.pn,fun t ht=>?_,fun t ht=>?_,fun t ht x hx=>?_⟩
 ·obtain ⟨u,hu,rfl⟩:=List.mem_map.1 ht
  rw [List.length_map];exact hs.tl u hu
 ·obtain ⟨u,hu,rfl⟩:=List.mem_map.1 ht
  exact hq u hu
 ·obtain ⟨u,hu,rfl⟩:=List.mem_map.1 ht
  obtain ⟨y,hy,rfl⟩:=List.mem_map.1 hx
  exact ⟨Xg _,Xg _⟩
theorem Zz6 (n:Zz) (w:List Int) (v:Nat):ent (Vt n) w v=ent n w v:=by
 have hr:∀ (ps:List Int) (r:Nat),Tg (Vt n) w ps r=Tg n w ps r:=fun ps=>by
  induction ps with
  | nil=>intro r;rfl
  | cons p ps ih=>intro r;rw [Tg,Tg,ih];rfl
 have hi:Y5 (Vt n) w v=Y5 n w v:=hr _ _
 have hT:Z6 (Vt n) w v=(Z6 n w v).map W1:=by
  rw [Z6,Z6,hi,List.map_take,List.map_drop]
  show List.take (cnt n v) (List.drop (Y5 n w v * cnt n v) ((n.2.2.2.2.map (List.map W1)).getD v []))=_
  rw [Znn]
 rw [ent,ent,hT]
 generalize (w.getD v 0).toNat=j
 rw [List.getD_eq_getElem?_getD,List.getD_eq_getElem?_getD,List.getElem?_map]
 cases (Z6 n w v)[j]? with
 | none=>rfl
 | some x=>exact Zno x
theorem Zrq (n:Zz) (w:List Int):∀ m k q,Wm (Vt n) w m k q=Wm n w m k q
 | 0,k,q=>rfl
 | m+1,k,q=>by rw [Wm,Wm,Zz6,Zrq n w m]
section
variable {N W K:Nat} {n:Zz} (hf:Yt N n) (hs:Wh n W) (hr:Xj N (8 * K+40)) (hWK:1025 * (W+2)+4≤K) (hN:2000000<N)
include hf hs hr hWK hN
omit hf hs hN in
theorem Zrm (v:Int) (m1:ByteArray) (m2:List ByteArray) (m3:List R4) (m4:List R2) (m5:List (List QV)) (h5:m5.length≤1048576) (kk:Int→ByteArray→List ByteArray→List R4→List R2→List (List QV)→Option Zz) (r1:List ByteArray) (r2:List Int):∀ (l out:List QV),(∀ x ∈ l,Vg x∧max x.1.2.length x.2.length≤W)→out.length+l.length≤1048576→
  Zcc N v m1 m2 m3 m4 m5 kk r1 r2 l out=kk (i64.wrap (v+1)) m1 m2 (m3++[r1]) (m4++[r2]) (m5++[out++l.map W1])
 | [],out,_,h2=>by
  rw [Zcc.eq_1,Xi (by simp only [List.length_singleton,maxLen];omega),List.map_nil,List.append_nil]
 | x :: l,out,h1,h2=>by
  obtain ⟨x1,x2⟩:=h1 x List.mem_cons_self
  have hz:RV 0 ((false,([]:List Int)),([]:List Int)):=⟨by simp [Zo],by simp [Zo],by simp,by simp⟩
  have hz2:Zv ((false,([]:List Int)),([]:List Int))=0:=by rw [Zv];simp [Zx,Zc]
  have ad:V3 N ((x.1.1,x.1.2),x.2) ((false,([]:List Int)),([]:List Int))=some (W1 x):=by
   have:=Ze8 ((Zc4 x1.1 x1.2).mono x2) hz (hr.mono (by omega))
   rwa [hz2,Rat.add_zero] at this
  rw [List.length_cons] at h2
  rw [Zcc.eq_2,ad,Option.bind_some,Xi (by simp only [List.length_singleton,maxLen];omega)]
  have ih:=Zrm v m1 m2 m3 m4 m5 h5 kk r1 r2 l (out++[W1 x]) (fun y hy=>h1 y (List.mem_cons_of_mem _ hy)) (by rw [List.length_append,List.length_singleton];omega)
  rw [List.append_assoc] at ih
  exact ih
omit hN in
theorem Zrl:∀ (f v:Nat),v≤n.2.1.length→n.2.1.length<f+v→Za1 N n f (v:Int) n.1 n.2.1 (n.2.2.1.take v) (n.2.2.2.1.take v) ((n.2.2.2.2.take v).map (List.map W1))=some (Vt n)
 | 0,v,h1,h2=>by omega
 | f+1,v,h1,h2=>by
  have hv:=hf.ev.v;have hp:=hf.ev.p;have ht:=hf.ev.t;have hle:=hf.le
  rw [Za1.eq_2]
  by_cases hk:v<n.2.1.length
  ·have a1:v<n.2.2.1.length:=by omega
   have a2:v<n.2.2.2.1.length:=by omega
   have a3:v<n.2.2.2.2.length:=by omega
   have c1:Zef n.2.2.1[v]=some n.2.2.1[v]:=by
    have:=hs.vl _ (List.getElem_mem a1)
    rw [Zef,Xi (by simp only [List.length_nil,maxLen];omega),List.nil_append]
   have c2:Zc0 n.2.2.2.1[v]=some n.2.2.2.1[v]:=Znk (by have:=hs.pn.ls _ (List.getElem_mem a2);omega)
   have hmem:=fun x hx=>Ze7 hf hs hk x (by rw [Y1 a3];exact hx)
   have l2:=Zrm hr hWK (v:Int) n.1 n.2.1 (n.2.2.1.take v) (n.2.2.2.1.take v) ((n.2.2.2.2.take v).map (List.map W1)) (by rw [List.length_map,List.length_take];omega) (Za1 N n f) n.2.2.1[v] n.2.2.2.1[v] n.2.2.2.2[v] [] hmem (by have:=hs.tl _ (List.getElem_mem a3);simpa using this)
   have ih:=Zrl f (v+1) (by omega) (by omega)
   rw [List.take_succ_eq_append_getElem a1,List.take_succ_eq_append_getElem a2,List.take_succ_eq_append_getElem a3,List.map_append,List.map_singleton] at ih
   rw [if_pos (decide_eq_true (by omega)),Xk a1,Option.bind_some,c1,Option.bind_some,Xi (by simp only [List.length_take,List.length_singleton,maxLen];omega),Xk a2,Option.bind_some,c2,Option.bind_some,Xi (by simp only [List.length_take,List.length_singleton,maxLen];omega),Xk a3,Option.bind_some,l2,wS (by omega),List.nil_append]
   exact ih
  ·rw [if_neg (by rw [decide_eq_false (by omega)];decide),List.take_of_length_le (by omega),List.take_of_length_le (by omega),List.take_of_length_le (by omega)];rfl
theorem Zz3:Zfz N n=some (Vt n):=by
 have hle:=hf.le
 have h:=Zrl hf hs hr hWK N 0 (Nat.zero_le _) (by omega)
 rw [List.take_zero,List.take_zero,List.take_zero,List.map_nil] at h
 rw [Zfz,Zef,Xi (by simp only [List.length_nil,maxLen];omega),Option.bind_some,List.nil_append]
 exact h
/-! how many -/
def Yj (n:Zz):List Nat:=n.2.2.1.map List.length
omit hs hr hWK hN in
theorem Zjo:∀ s ∈ Yj n,0<s:=fun s h=>by
 obtain ⟨l,hl,rfl⟩:=List.mem_map.1 h
 exact List.length_pos_iff.2 (hf.ev.ne l hl)
omit hr hWK hf hN hs in
theorem Zs7:∀ (l:List R4) (out:List Int),out.length+l.length≤1048576→Zcg l out=some (out++Va (l.map List.length))
 | [],out,_=>by rw [Zcg.eq_1,List.map_nil,Va,List.map_nil,List.append_nil]
 | x :: l,out,h=>by
  rw [List.length_cons] at h
  rw [Zcg.eq_2,Xi (by simp only [List.length_singleton,maxLen];omega),Zs7 l _ (by rw [List.length_append,List.length_singleton];omega),List.append_assoc];rfl
theorem Z1e (hb:Xu (Yj n)≤65536):Zfv N n [] []=some (Va (Yj n),0):=by
 have hv:=hf.ev.v;have hle:=hf.le
 have hC:W5 N (n.1,n.2.1,n.2.2.1,n.2.2.2.1,n.2.2.2.2)=some 0:=Zrf hf hs (hr.mono (by omega)) hN
 have sz:Zia (n.1,n.2.1,n.2.2.1,n.2.2.2.1,n.2.2.2.2)=some (Va (Yj n)):=by
  have:=Zs7 n.2.2.1 [] (by simp only [List.length_nil];omega)
  rw [List.nil_append] at this
  rw [Zia];exact this
 have hlen:(Va (Yj n)).length=n.2.1.length:=by rw [Va,Yj,List.length_map,List.length_map,hv]
 have ct:=Zwk (Zjo hf) hb
 rw [Zfv,hC,Option.bind_some,if_neg (by decide),sz,Option.bind_some,Q8.eq_1,Zcb.eq_1,Xi (by rw [hlen];simp only [maxLen];omega),Zfx.eq_1,Zfy.eq_1,ct,Option.bind_some]
 dsimp only
 rw [if_neg (show ¬ (!decide ((0:Int)=0))=true by decide),decide_eq_false (by omega),Zh6,if_neg (by decide)]
omit hs hr hWK hN in
theorem Zkg {w:List Int} (h:Zbp (Yj n) w):X3 n w:=by
 have key:∀ (L:List R4) (w:List Int),Zbp (L.map List.length) w→w.length=L.length∧∀ i,i<w.length→0≤w.getD i 0∧w.getD i 0<((L.getD i []).length:Int):=by
  intro L
  induction L with
  | nil=>
   intro w hw
   cases w with
   | nil=>exact ⟨rfl,fun i hi=>by simp at hi⟩
   | cons d w=>exact hw.elim
  | cons l L ih=>
   intro w hw
   cases w with
   | nil=>exact hw.elim
   | cons d w=>
    obtain ⟨h1,h2⟩:=ih w hw.2
    refine ⟨by rw [List.length_cons,List.length_cons,h1],fun i hi=>?_⟩
    cases i with
    | zero=>exact hw.1
    | succ i=>exact h2 i (by simpa using hi)
 obtain ⟨h1,h2⟩:=key n.2.2.1 w h
 exact ⟨by rw [h1,hf.ev.v],h2⟩
omit hs hr hWK hN in
theorem Zxk {w:List Int} (h:X3 n w):Zbp (Yj n) w:=by
 have key:∀ (L:List R4) (w:List Int),w.length=L.length→(∀ i,i<w.length→0≤w.getD i 0∧w.getD i 0<((L.getD i []).length:Int))→Zbp (L.map List.length) w:=by
  intro L
  induction L with
  | nil=>
   intro w hw _
   cases w with
   | nil=>trivial
   | cons d w=>simp at hw
  | cons l L ih=>
   intro w hw hok
   cases w with
   | nil=>simp at hw
   | cons d w=>
    refine ⟨hok 0 (by simp),ih w (by simpa using hw) fun i hi=>?_⟩
    have:=hok (i+1) (by simpa using hi)
    simpa using this
 exact key n.2.2.1 w (by rw [h.len,hf.ev.v]) h.ok
def Zbq (n:Zz):Nat→Nat→List (List Int×QV)
 | _,0=>[]
 | k,m+1=>(Ws (Yj n) k,Zq (Wm n (Ws (Yj n) k) n.2.1.length 0 1)) :: Zbq n (k+1) m
theorem Zqm (hq:∀ t ∈ n.2.2.2.2,Yb (t.map W1)≤W) (hb:Xu (Yj n)≤65536):∀ (m k:Nat),k+m=Xu (Yj n)→Zdm N (Vt n) (Zfc (Yj n) k m)=some (Zbq n k m)
 | 0,k,_=>rfl
 | m+1,k,h=>by
  have hf':=Zz7 hf
  have hs':=Zz9 hs hq
  have hC':=Zrf hf' hs' (hr.mono (by omega)) hN
  have hle:=hf.le
  have hd:=Zkg hf (Zhs (Yj n) k (Zjo hf) (by omega))
  obtain ⟨p,e,ch,cs⟩:=Zzv hf' hs' hr hWK hN hC' (Ws (Yj n) k)
  have hin:(decide ((Ws (Yj n) k).length=(Vt n).2.1.length)&&Vq (Vt n) (Ws (Yj n) k) 0)=true:=by
   have:∀ (l:List Int) (j:Nat),(Ws (Yj n) k).drop j=l→Vq (Vt n) l j=true:=by
    intro l
    induction l with
    | nil=>intro j _;rfl
    | cons x l ihl=>
     intro j hj
     have hjl:j<(Ws (Yj n) k).length:=by
      rcases Nat.lt_or_ge j (Ws (Yj n) k).length with h | h
      ·exact h
      ·rw [List.drop_eq_nil_of_le h] at hj;cases hj
     rw [List.drop_eq_getElem_cons hjl] at hj
     obtain ⟨a1,a2⟩:=List.cons.inj hj
     have hok:=hd.ok j hjl
     rw [Y1 hjl,a1] at hok
     have hcn:cnt (Vt n) j=cnt n j:=rfl
     rw [Vq,ihl (j+1) a2,hcn,decide_eq_false (by omega),decide_eq_false (by omega)];rfl
   rw [this (Ws (Yj n) k) 0 (by rw [List.drop_zero]),Bool.and_true]
   exact decide_eq_true hd.len
  rcases cs with ⟨_,h0⟩ | ⟨_,_,hp⟩
  ·rw [hin] at h0;cases h0
  ·have ch':Zf3 N ((Vt n).1,(Vt n).2.1,(Vt n).2.2.1,(Vt n).2.2.2.1,(Vt n).2.2.2.2) (Ws (Yj n) k)=some (p,e):=ch
   have hlen:(Ws (Yj n) k).length≤1099511627776:=by rw [hd.len];omega
   rw [Zfc,Zdm.eq_2]
   dsimp only
   rw [ch',Option.bind_some,Znk hlen,Option.bind_some,Zqm hq hb m (k+1) (by omega),Option.bind_some,hp,Zrq]
   rfl
theorem Z1d (hq:∀ t ∈ n.2.2.2.2,Yb (t.map W1)≤W) (hb:Xu (Yj n)≤65536):Zfu N n=some (Zbq n 0 (Xu (Yj n))):=by
 have hle:=hf.le;have hv:=hf.ev.v
 have jc:Zfv N (n.1,n.2.1,n.2.2.1,n.2.2.2.1,n.2.2.2.2) [] []=some (Va (Yj n),0):=Z1e hf hs hr hWK hN hb
 have cp:Zfz N (n.1,n.2.1,n.2.2.1,n.2.2.2.1,n.2.2.2.2)=some (Vt n):=Zz3 hf hs hr hWK hN
 have ra:=Z3j (N:=N) (Zjo hf) (by rw [Yj,List.length_map];omega) (by omega) hb
 rw [Zfu,jc,Option.bind_some]
 dsimp only
 rw [if_neg (show ¬ (!decide ((0:Int)=0))=true by decide),cp,Option.bind_some,Zkz,ra,Option.bind_some]
 exact Zqm hf hs hr hWK hN hq hb (Xu (Yj n)) 0 (by omega)
end
def Zou (N:Nat) (ab:R3) (ac:R3):Option (R3×R3×Int):=
  (Zcl N ab.2 ac.2).bind fun aa=>if (!decide (aa.2.2=0))=true then (some ((false,([]:List Int)),(false,([]:List Int)),aa.2.2)) else ((Tq N (!decide (ab.1=ac.1)) aa.1).bind fun ad=>(Tq N ab.1 aa.2.1).bind fun ae=>some ((ad.1,ad.2),(ae.1,ae.2),0))
theorem Zzr {N a3 a4:Nat} {a5 a6:Option Addr} {col:Zd} {w0:World} {aq ar:R3} {r:(R3×R3×Int)} (c1 c2:Nat) (hm:Zou N aq ar=some r) (ax:Sl (Za.int .u32) col w0 a5 a3 aq.2) (ay:Sl (Za.int .u32) col w0 a6 a4 ar.2):
    Calls Tryz.prog 154 #[(.agg #[.bool aq.1,.slice a5 aq.2.length a3]),(.agg #[.bool ar.1,.slice a6 ar.2.length a4])] w0 (fun e w'=>∃ (col':Zd) (ra1:Option Addr) (rc2:Nat) (ra4:Option Addr) (rc5:Nat),e= .returned (.tuple #[(.agg #[.bool r.1.1,.slice ra1 r.1.2.length rc2]),(.agg #[.bool r.2.1.1,.slice ra4 r.2.1.2.length rc5]),.int .i64 r.2.2])∧Zg col w0 col' w'∧Zb (Za.int .u32) 77 c1 col' w' ra1 rc2 r.1.2∧Zb (Za.int .u32) 77 c2 col' w' ra4 rc5 r.2.1.2):=by
 refine Yw (m:=35) func154 rfl rfl rfl ?_;rw [Zou.eq_1] at hm;have aa:=St.start col w0;refine go ?_;refine Xp (col:=(Zk col)) 1 rfl ?_;intro bv bw be bf ai;refine Xp (col:=be) 2 rfl ?_;intro bx bz bg a7 aj;refine Xa (col:=bg) #[.bool false,.slice none (([]:List Int).length) 0] 3 zeroValue33 ?_;intro b0 b1 bh az ad;refine Xa (col:=bh) #[.bool false,.slice none (([]:List Int).length) 0] 4 zeroValue33 ?_;intro b2 b3 b4 au ab;refine go ?_;refine Xo ⟨_,_,rfl⟩ ?_;replace ai:=((ai.gr a7).gr az).gr au;refine lW ((ai.atN).nth (q:=1) rfl)<|Xo ⟨_,_,rfl⟩ ?_;replace aj:=(aj.gr az).gr au;refine lW ((aj.atN).nth (q:=1) rfl) ?_;obtain ⟨ak,bi,hm⟩:=bZ hm;replace ax:=ax.keep (Zl.start col w0);replace ay:=ay.keep (Zl.start col w0);replace aa:=(((aa.grow bf).grow a7).grow az).grow au;refine Zi (Zkb 5 6 bi (ax.ks aa) (ay.ks aa)) ?_;rintro _ b5 ⟨af,a8,a9,ba,bb,rfl,am,a0,an⟩;refine ⟨_,rfl,?_⟩;refine lM (.tuple #[.slice a8 ak.1.length a9,.slice ba ak.2.1.length bb,.int .i64 ak.2.2])<|lV (.slice a8 ak.1.length a9) (Z8 rfl rfl)<|lV (.slice ba ak.2.1.length bb) (Z8 rfl rfl)<|lV (.int .i64 ak.2.2) (Z8 rfl rfl)<|go ?_;replace ad:=(ad.gr au).gr am;replace ai:=ai.gr am;replace aj:=aj.gr am;replace ab:=ab.gr am;replace aa:=aa.grow am;refine Zp hm (fun hb hm=>go ?_) fun hb hm=>go ?_
 ·refine lV (.agg #[.bool false,.slice none (([]:List Int).length) 0]) (Yi (l:=[_,_]) (qs:=[(0,1),(1,1)]) underlying33 zeroValue33 ⟨rfl,sizeOf4,rfl,sizeOf31,trivial⟩ rfl)<|lV (.agg #[.bool false,.slice none (([]:List Int).length) 0]) (Yi (l:=[_,_]) (qs:=[(0,1),(1,1)]) underlying33 zeroValue33 ⟨rfl,sizeOf4,rfl,sizeOf31,trivial⟩ rfl)<|Ya rfl<|Zu ad ?_;intro b6 bc bj a1;replace ab:=ab.kp bc;refine Zu ab ?_;intro b7 bd bk bm;refine go ?_;cases hm;replace aa:=(aa.kp bc bj).kp bd bk;replace a1:=a1.kp bd;exact ⟨rfl,_,Zmh rfl rfl isAgg33 sizeOf33 rfl rfl a1.atN rfl isAgg33 sizeOf33 rfl rfl bm.atN rfl rfl,_,none,0,none,0,rfl,aa.fin (cm []),Zb.nil,Zb.nil⟩
 refine Wb (col:=af) [(0,1),(1,0),(2,1),(3,0),(4,1),(5,1),(7,1),(8,0),(9,1),(6,3),(10,3),(11,2),(12,2),(13,1)] (by kernel_rfl) (by kernel_rfl)<|xF ⟨_,_,rfl⟩ ?_;refine xW (fun _ hC=>((ai.atN).nth (q:=0) rfl).gr (hC.bl af)) ?_;refine xF ⟨_,_,rfl⟩ ?_;refine xW (fun _ hC=>((aj.atN).nth (q:=0) rfl).gr (hC.bl af)) ?_;refine xu rfl rfl (fun _=>Zjm _ _ underlying4 rfl rfl) ?_;refine xu rfl rfl (fun _=>Ve rfl) ?_;refine xF ⟨_,_,rfl⟩ ?_;refine xW (fun _ hC=>((ai.atN).nth (q:=0) rfl).gr (hC.bl af)) ?_;refine xu rfl rfl (fun _=>Ve rfl) ?_;refine xe rfl rfl ?_;intro bn hC0;have hC:=hC0.bl af;obtain ⟨b8,bo,hm⟩:=bZ hm;replace a0:=a0.gr hC;refine Zi (Qw 7 bo (a0.toSlF (Ze.int .u32))) ?_;rintro _ b9 ⟨bp,ca,cb,rfl,ag,ac⟩;refine ⟨_,rfl,?_⟩;replace ac:=ac.thaw (Zs .u32) ag ((Fz.refl (col:=af)).froz 5) (by decide);replace ag:=ag.thawR (col:=af);generalize Z1 bn.heap.size af bp=ao at *;refine Zm<|Xr ao hC0 ag<|xe rfl rfl ?_;intro bq hC0;replace an:=(an.gr hC).gr ag;replace ad:=(ad.gr hC).gr ag;replace ab:=(ab.gr hC).gr ag;replace aa:=(aa.grow hC).grow ag;have hC:=hC0.bl ao;obtain ⟨cc,br,hm⟩:=bZ hm;replace an:=an.gr hC;refine Zi (Qw 8 br (an.toSlF (Ze.int .u32))) ?_;rintro _ cd ⟨bs,ce,cf,rfl,ah,ae⟩;refine ⟨_,rfl,?_⟩;replace ae:=ae.thaw (Zs .u32) ah ((Fz.refl (col:=ao)).froz 6) (by decide);replace ah:=ah.thawR (col:=ao);generalize Z1 bq.heap.size ao bs=al at *;refine Zm<|Xr al hC0 ah<|xe rfl rfl ?_;intro cg hC0;replace ac:=(ac.gr hC).gr ah;replace ad:=(ad.gr hC).gr ah;replace ab:=(ab.gr hC).gr ah;replace aa:=(aa.grow hC).grow ah;have hC:=hC0.bl al;replace ad:=ad.gr hC;refine Zu ad ?_;intro ch av bt ap;refine Zm<|xk al<|xe rfl rfl ?_;intro ci hC0;replace ac:=(ac.gr hC).kp av;replace ae:=(ae.gr hC).kp av;replace ab:=(ab.gr hC).kp av;replace aa:=(aa.grow hC).kp av bt;have hC:=hC0.bl al;replace ab:=ab.gr hC;refine Zu ab ?_;intro cj aw bu a2;refine Zm<|xk al<|xu rfl rfl (fun _=>Zji rfl) ?_;refine Yz ?_;replace ac:=(ac.gr hC).kp aw;replace ae:=(ae.gr hC).kp aw;replace ap:=(ap.gr hC).kp aw;replace aa:=(aa.grow hC).kp aw bu;intro ck hC;replace hC:=hC.bl al;refine Wx ?_;cases hm;replace ac:=ac.gr hC;replace ae:=ae.gr hC;replace ap:=ap.gr hC;replace a2:=a2.gr hC;replace aa:=aa.grow hC
 exact ⟨rfl,_,Zmh rfl rfl isAgg33 sizeOf33 rfl rfl ap.atN rfl isAgg33 sizeOf33 rfl rfl a2.atN rfl rfl,_,_,_,_,_,rfl,aa.fin (cm [(7,c1),(8,c2)]),aa.fo ac,aa.fo ae⟩
def Zlu (N:Nat) (ab:R3) (aa:(R3×R3×Int)) (af:Bool):Option (R3×R3×Int):=
  if af=true then (some ((aa.1.1,aa.1.2),(aa.2.1.1,aa.2.1.2),aa.2.2)) else ((Zej N 1).bind fun ac=>(Zg1 N (aa.1.1,aa.1.2) (ac.1,ac.2)).bind fun ad=>(Zei N (aa.2.1.1,aa.2.1.2) (ab.1,ab.2)).bind fun ae=>some ((ad.1,ad.2),(ae.1,ae.2),0))
def Zos (N:Nat) (ac:R3) (aa:R3):Option (R3×R3×Int):=
  (Zou N (ac.1,ac.2) (aa.1,aa.2)).bind fun ab=>if (!decide (ab.2.2=0))=true then (Zlu N aa ab true) else ((Qm N (ab.2.1.1,ab.2.1.2)).bind fun ad=>(Qm N (aa.1,aa.2)).bind fun ae=>Zlu N aa ab (decide (0≤(i64.wrap (ad * ae)))))
theorem Zzn {N bt bf:Nat} {bu bg:Option Addr} {col:Zd} {w0:World} {a9 ap:R3} {r:(R3×R3×Int)} (c1 c2:Nat) (hm:Zos N a9 ap=some r) (bh:Sl (Za.int .u32) col w0 bu bt a9.2) (az:Sl (Za.int .u32) col w0 bg bf ap.2):
    Calls Tryz.prog 100 #[(.agg #[.bool a9.1,.slice bu a9.2.length bt]),(.agg #[.bool ap.1,.slice bg ap.2.length bf])] w0 (fun e w'=>∃ (col':Zd) (ra1:Option Addr) (rc2:Nat) (ra4:Option Addr) (rc5:Nat),e= .returned (.tuple #[(.agg #[.bool r.1.1,.slice ra1 r.1.2.length rc2]),(.agg #[.bool r.2.1.1,.slice ra4 r.2.1.2.length rc5]),.int .i64 r.2.2])∧Zg col w0 col' w'∧Zb (Za.int .u32) 77 c1 col' w' ra1 rc2 r.1.2∧Zb (Za.int .u32) 77 c2 col' w' ra4 rc5 r.2.1.2):=by
 refine Yw (m:=36) func100 rfl rfl rfl ?_;rw [Zos.eq_1] at hm;have aa:=St.start col w0;refine go ?_;refine Xp (col:=(Zk col)) 1 rfl ?_;intro cu cv b2 b3 bi;refine Xp (col:=b2) 2 rfl ?_;intro b4 cw b5 bv ah;refine Xa (col:=b5) #[.bool false,.slice none (([]:List Int).length) 0] 3 zeroValue33 ?_;intro b6 cx b7 bj af;refine Xa (col:=b7) #[.bool false,.slice none (([]:List Int).length) 0] 4 zeroValue33 ?_;intro b8 cy cz ba ac;refine go ?_;replace bi:=((bi.gr bv).gr bj).gr ba;refine lV _ (Z3 isAgg33 sizeOf33 bi) ?_;replace ah:=(ah.gr bj).gr ba;refine lV _ (Z3 isAgg33 sizeOf33 ah) ?_;obtain ⟨ae,b9,hm⟩:=bZ hm;replace bh:=bh.keep (Zl.start col w0);replace az:=az.keep (Zl.start col w0);replace aa:=(((aa.grow b3).grow bv).grow bj).grow ba;refine Zi (Zzr 5 6 b9 (bh.ks aa) (az.ks aa)) ?_;rintro _ c0 ⟨ca,a0,a1,a2,a3,rfl,bb,ag,ad⟩;refine ⟨_,rfl,?_⟩;refine lM (.tuple #[(.agg #[.bool ae.1.1,.slice a0 ae.1.2.length a1]),(.agg #[.bool ae.2.1.1,.slice a2 ae.2.1.2.length a3]),.int .i64 ae.2.2])<|lV (.agg #[.bool ae.1.1,.slice a0 ae.1.2.length a1]) (Z8 rfl rfl)<|lV (.agg #[.bool ae.2.1.1,.slice a2 ae.2.1.2.length a3]) (Z8 rfl rfl)<|lV (.int .i64 ae.2.2) (Z8 rfl rfl)<|Xa (col:=ca) #[.bool false,.slice none (([]:List Int).length) 0] 7 zeroValue33 ?_;intro cb c3 cc aw bk;refine Xa (col:=cc) #[.bool false,.slice none (([]:List Int).length) 0] 8 zeroValue33 ?_;intro cd c4 aq ar bm;replace bk:=bk.gr ar;refine Zu bk ?_;intro c5 au ce ai;replace bm:=bm.kp au;refine Zu bm ?_;intro c6 av cf ak;refine Yq rfl<|Zm<|Zw<|Zw ?_;replace af:=(((((af.gr ba).gr bb).gr aw).gr ar).kp au).kp av;replace ah:=((((ah.gr bb).gr aw).gr ar).kp au).kp av;replace ac:=((((ac.gr bb).gr aw).gr ar).kp au).kp av;replace aa:=((((aa.grow bb).grow aw).grow ar).kp au ce).kp av cf;replace ag:=(((ag.gr aw).gr ar).kp au).kp av;replace ad:=(((ad.gr aw).gr ar).kp au).kp av;replace ai:=ai.kp av
 refine Wp.cutK [3,4,5,7,8,9,1000000] (fun f al=>∃ ab bn,Zlu N ap ae bn=some r∧St w0 (Zk col) ab al∧Zj 33 2 ab al b4 #[.bool ap.1,.slice bg ap.2.length bf]∧Zj 33 3 ab al b6 #[.bool false,.slice none (([]:List Int).length) 0]∧Zj 33 4 ab al b8 #[.bool false,.slice none (([]:List Int).length) 0]∧Zb (Za.int .u32) 77 5 ab al a0 a1 ae.1.2∧Zj 33 7 ab al cb #[.bool ae.1.1,.slice a0 ae.1.2.length a1]∧Zb (Za.int .u32) 77 6 ab al a2 a3 ae.2.1.2∧Zj 33 8 ab al cd #[.bool ae.2.1.1,.slice a2 ae.2.1.2.length a3]∧[26].map f=[.bool bn]) ?_ ?_
 ·intro f al hJ;obtain ⟨ab,bn,hm,aa,ah,af,ac,ag,ai,ad,ak,hs⟩:=hJ;rw [Zlu.eq_1] at hm;refine .lL [26] hs ?_;refine Zp hm (fun hb hm=>?_) fun hb hm=>go ?_
  ·refine Zw<|Z4f (col:=ab) (pS [3]) [(0,0),(1,5),(2,1),(3,4),(4,2),(5,1)] (by kernel_rfl) (by kernel_rfl)<|xvD (v:=(.agg #[.bool ae.1.1,.slice a0 ae.1.2.length a1])) rfl rfl (fun _ hC=>Xc isAgg33 sizeOf33 rfl rfl (ai.atN.gr (hC.bl ab))) ?_;refine xsD (v:=(.agg #[.bool ae.2.1.1,.slice a2 ae.2.1.2.length a3])) rfl rfl (fun _ hC=>Xc isAgg33 sizeOf33 rfl rfl (ak.dk hC rfl rfl).atN) ?_;refine xuD (v:=(.int .i64 ae.2.2)) rfl rfl (fun _=>Wg rfl) ?_;refine xeD rfl rfl ?_;intro cg hC0;have hC:=hC0.bl ab;replace ag:=ag.gr hC;replace ad:=ad.gr hC;replace af:=af.gr hC;replace ac:=ac.gr hC;replace aa:=aa.grow hC;have bo:Zt (pS [3]) ab al ab cg:=hC.toP;refine Zu af ?_;intro bw a4 bx a5;replace bo:=bo.kp a4 bx rfl;refine Zm ?_;refine ⟨fun w'=>Zg ab bw ab w',fun w'=>∃ c',Zt (pS [3]) ab bw c' w',Zg.refl _ _,fun _ h=>⟨_,h.toP⟩,fun h=>absurd h (by decide),fun _ _ ⟨c9,h⟩=>⟨c9,bo.trans h⟩,?_⟩;refine xeD rfl rfl ?_;intro c7 hC0;have hC:=hC0.bl ab;replace ac:=(ac.kp a4).gr hC;refine Zu ac ?_;intro bz bc ch bp;refine Zm ?_;refine ⟨fun w'=>Zg ab bz ab w',fun w'=>∃ c',Zt (pS [3]) ab bz c' w',Zg.refl _ _,fun _ h=>⟨_,h.toP⟩,fun h=>absurd h (by decide),fun h=>absurd h (by decide),?_⟩;refine xuD (v:=(.int .i64 ae.2.2)) rfl rfl (fun _=>Vx rfl) ?_;refine Z4l ?_;replace ag:=((ag.kp a4).gr hC).kp bc;replace ad:=((ad.kp a4).gr hC).kp bc;replace aa:=((aa.kp a4 bx).grow hC).kp bc ch;replace a5:=(a5.gr hC).kp bc;intro c8 hC;replace hC:=hC.bl ab;refine Wx ?_;cases hm;replace ag:=ag.gr hC;replace ad:=ad.gr hC;replace a5:=a5.gr hC;replace bp:=bp.gr hC;replace aa:=aa.grow hC;exact ⟨rfl,_,Zmh rfl rfl isAgg33 sizeOf33 rfl rfl a5.atN rfl isAgg33 sizeOf33 rfl rfl bp.atN rfl rfl,_,_,_,_,_,rfl,aa.fin (cm [(5,c1),(6,c2)]),aa.fo ag,aa.fo ad⟩
  refine Wb (col:=ab) [(0,0),(3,0),(4,0),(1,3),(2,3),(5,3),(6,2),(7,2),(8,1)] (by kernel_rfl) (by kernel_rfl)<|xv rfl rfl (fun _ hC=>Z3 isAgg33 sizeOf33 (ai.gr (hC.bl ab))) ?_;refine xv rfl rfl (fun _ hC=>Z3 isAgg33 sizeOf33 (ak.gr (hC.bl ab))) ?_;refine xv rfl rfl (fun _ hC=>Z3 isAgg33 sizeOf33 (ah.gr (hC.bl ab))) ?_;refine xe rfl rfl ?_;intro da hC0;have hC:=hC0.bl ab;obtain ⟨db,ci,hm⟩:=bZ hm;refine Zi (Zng (col:=ab) 9 ci) ?_;rintro _ dc ⟨a6,dd,de,rfl,ax,bq⟩;refine ⟨_,rfl,?_⟩;refine Zm<|Xr a6 hC0 ax<|xe rfl rfl ?_;intro cj hC0;replace ag:=(ag.gr hC).gr ax;replace ad:=(ad.gr hC).gr ax;replace af:=(af.gr hC).gr ax;replace ac:=(ac.gr hC).gr ax;replace aa:=(aa.grow hC).grow ax;have hC:=hC0.bl a6;obtain ⟨df,ck,hm⟩:=bZ hm;replace ag:=ag.gr hC;replace bq:=bq.gr hC;refine Zi (Zq9 10 ck ((ag.toSlF (Ze.int .u32)).froz 9) ((bq.froz 5 (by decide)).toSlF (Ze.int .u32))) ?_;rintro _ dg ⟨cl,dh,di,rfl,an,aj⟩;refine ⟨_,rfl,?_⟩;replace aj:=aj.thaw (Zs .u32) an (((Fz.refl (col:=a6)).froz 5).froz 9) (by decide);replace an:=an.thawR (col:=a6);generalize Z1 cj.heap.size a6 cl=a7 at *;refine Zm<|Xr a7 hC0 an<|xe rfl rfl ?_;intro cn hC0;replace ad:=(ad.gr hC).gr an;replace af:=(af.gr hC).gr an;replace ac:=(ac.gr hC).gr an;replace aa:=(aa.grow hC).grow an;have hC:=hC0.bl a7;obtain ⟨dj,co,hm⟩:=bZ hm;replace ad:=ad.gr hC;replace aa:=aa.grow hC;refine Zi (Znf 11 co (ad.toSlF (Ze.int .u32)) ((az.ks aa).froz 6)) ?_;rintro _ dl ⟨cp,dm,dn,rfl,ao,am⟩;refine ⟨_,rfl,?_⟩;replace am:=am.thaw (Zs .u32) ao ((Fz.refl (col:=a7)).froz 6) (by decide);replace ao:=ao.thawR (col:=a7);generalize Z1 cn.heap.size a7 cp=ay at *;refine Zm<|Xr ay hC0 ao<|xe rfl rfl ?_;intro dp hC0;replace aj:=(aj.gr hC).gr ao;replace af:=(af.gr hC).gr ao;replace ac:=(ac.gr hC).gr ao;have hC:=hC0.bl ay;replace af:=af.gr hC;refine Zu af ?_;intro dq bd cq a8;refine Zm<|xk ay<|xe rfl rfl ?_;intro dr hC0;replace aa:=((aa.grow ao).grow hC).kp bd cq;replace aj:=(aj.gr hC).kp bd;replace am:=(am.gr hC).kp bd;replace ac:=(ac.gr hC).kp bd;have hC:=hC0.bl ay;replace ac:=ac.gr hC;refine Zu ac ?_
  intro ds be cr br;refine Zm<|xk ay<|xu rfl rfl (fun _=>Zji rfl) ?_;refine Yz ?_;replace aj:=(aj.gr hC).kp be;replace am:=(am.gr hC).kp be;replace a8:=(a8.gr hC).kp be;replace aa:=(aa.grow hC).kp be cr;intro dt hC;replace hC:=hC.bl ay;refine Wx ?_;cases hm;replace aj:=aj.gr hC;replace am:=am.gr hC;replace a8:=a8.gr hC;replace br:=br.gr hC;replace aa:=aa.grow hC;exact ⟨rfl,_,Zmh rfl rfl isAgg33 sizeOf33 rfl rfl a8.atN rfl isAgg33 sizeOf33 rfl rfl br.atN rfl rfl,_,_,_,_,_,rfl,aa.fin (cm [(10,c1),(11,c2)]),aa.fo aj,aa.fo am⟩
 refine Vy (col:=aq) (by kernel_rfl) (by kernel_rfl)<|go ?_;refine Xz hm (fun bs hm=>go ?_) fun bs hm=>go ?_
 ·refine qv (v:=(.bool true)) rfl (fun _ hC=>Xm (congrArg Value.bool bs) rfl) ?_;refine Wn ?_;intro du hC;replace hC:=hC.bl aq;replace ag:=ag.gr hC;replace ad:=ad.gr hC;replace ah:=ah.gr hC;replace af:=af.gr hC;replace ac:=ac.gr hC;replace ai:=ai.gr hC;replace ak:=ak.gr hC;replace aa:=aa.grow hC;exact ⟨rfl,_,_,hm,aa,ah,af,ac,ag,ai,ad,ak,rfl⟩
 refine qv rfl (fun _ hC=>Z3 isAgg33 sizeOf33 (ak.gr (hC.bl aq))) ?_;refine go ?_;obtain ⟨b0,cs,hm⟩:=bZ hm;refine qc (v:=(.int .i64 b0)) rfl (fun _ hC=>⟨_,_,Zen call44 rfl,(Zdc cs ((ad.gr (hC.bl aq)).toSlF (Ze.int .u32)):).mono fun _ _ h=>⟨h.1,hC.trans (.of_below h.2)⟩⟩) ?_;refine go ?_;refine qv rfl (fun _ hC=>Z3 isAgg33 sizeOf33 (ah.gr (hC.bl aq))) ?_;refine go ?_;obtain ⟨b1,ct,hm⟩:=bZ hm;refine qc (v:=(.int .i64 b1)) rfl (fun _ hC=>⟨_,_,Zen call44 rfl,(Zdc ct ((az.ks aa).gr (hC.bl aq)):).mono fun _ _ h=>⟨h.1,hC.trans (.of_below h.2)⟩⟩) ?_;refine go ?_;refine qv (v:=(.bool (decide (0≤(i64.wrap (b0 * b1)))))) rfl (fun _ hC=>Xd (congrArg Value.bool bs) rfl) ?_;refine Wn ?_;intro dv hC;replace hC:=hC.bl aq;replace ag:=ag.gr hC;replace ad:=ad.gr hC;replace ah:=ah.gr hC;replace af:=af.gr hC;replace ac:=ac.gr hC;replace ai:=ai.gr hC;replace ak:=ak.gr hC;replace aa:=aa.grow hC;exact ⟨rfl,_,_,hm,aa,ah,af,ac,ag,ai,ad,ak,rfl⟩
def Zoj (N:Nat) (aa:R0):Option R3:=
  (V4 N ((aa.1.1,aa.1.2),aa.2)).bind fun ac=>(Zos N (aa.1.1,aa.1.2) (false,ac)).bind fun ab=>some (ab.1.1,ab.1.2)
theorem Zyc {N aw a5:Nat} {ax a6:Option Addr} {col:Zd} {w0:World} {ag:R0} {r:R3} (c1:Nat) (hm:Zoj N ag=some r) (ay:Sl (Za.int .u32) col w0 ax aw ag.1.2) (a7:Sl (Za.int .u32) col w0 a6 a5 ag.2):
    Calls Tryz.prog 40 #[(.agg #[.bool ag.1.1,.slice ax ag.1.2.length aw,.slice a6 ag.2.length a5])] w0 (fun e w'=>∃ (col':Zd) (ra1:Option Addr) (rc2:Nat),e= .returned ((.agg #[.bool r.1,.slice ra1 r.2.length rc2]))∧Zg col w0 col' w'∧Zb (Za.int .u32) 77 c1 col' w' ra1 rc2 r.2):=by
 refine Yw (m:=17) func40 rfl rfl rfl ?_;rw [Zoj.eq_1] at hm;have ad:=St.start col w0;refine go ?_;refine Xp (col:=(Zk col)) 1 rfl ?_;intro bm b4 bn bo az;refine Xa (col:=bn) #[.bool false,.slice none (([]:List Int).length) 0] 2 zeroValue33 ?_;intro b5 a0 ao bd ah;refine go ?_;have a8:=Zt.clip (fun _=>false) ao a0;refine Zer (col:=ao) [(0,1),(1,0),(2,0),(3,3),(4,1),(5,3),(6,1),(7,1),(8,1),(9,1),(10,4),(11,4),(12,2),(13,2),(14,1)] (by kernel_rfl) (by kernel_rfl) ⟨fun h=>absurd h (by decide),fun h=>absurd h (by decide),fun h=>absurd h (by decide),fun h=>absurd h (by decide),fun h=>absurd h (by decide),fun h=>absurd h (by decide),fun h=>absurd h (by decide),fun h=>absurd h (by decide),fun h=>absurd h (by decide),fun h=>absurd h (by decide),fun _=>⟨_,_,_,rfl,Uv zeroValue33⟩,fun _=>⟨_,_,_,rfl,Uv zeroValue33⟩,fun h=>absurd h (by decide),fun h=>absurd h (by decide),fun h=>absurd h (by decide),trivial⟩<|X5 (v:=(.pointer ((some (⟨bm,0,none⟩:Addr)).map (·.add 0)))) rfl rfl (fun _=>Uq (sz:=2) (off:=0) underlying35 rfl sizeOf33 (by decide) rfl rfl ⟨_,_,rfl⟩) ?_;replace az:=(az.gr bd).kpp a8;refine Wc (v:=(.agg #[.bool ag.1.1,.slice ax ag.1.2.length aw])) rfl rfl (fun _ hC=>Xc isAgg33 sizeOf33 rfl rfl (((az.atN).part 0 2 _ rfl).gr (hC.bl (Zh a0 ao)))) ?_;refine Wc (v:=(.agg #[.bool ag.1.1,.slice ax ag.1.2.length aw,.slice a6 ag.2.length a5])) rfl rfl (fun _ hC=>Xc isAgg35 sizeOf35 rfl rfl (az.atN.gr (hC.bl (Zh a0 ao)))) ?_;refine Wy rfl rfl ?_;intro b6 hC0;have hC:=hC0.bl (Zh a0 ao);obtain ⟨bp,bq,hm⟩:=bZ hm;replace ay:=ay.keep (Zl.start col w0);replace a7:=a7.keep (Zl.start col w0);replace ad:=(((ad.grow bo).grow bd).kpp a8).grow hC;refine Zi (U5 3 bq (ay.ks ad) (a7.ks ad)) ?_;rintro _ aj ⟨al,br,bs,rfl,ap,a9⟩;refine ⟨_,rfl,?_⟩;refine Zm ?_;refine ⟨fun w'=>Zg (Zh aj al) aj (Zh aj al) w',fun g=>(Zh aj al) g=497,Zg.refl _ _,Wj,fun _=>⟨fun _ h=>Vp hC0 ap h,fun b hb=>ap.below.block b hb,fun g x1 x2=>Vu ap g x1 (by first | exact x2 | (simp only [Xf,x2];rfl) | (simp only [Xf,Xb,x2];rfl))⟩,?_⟩;have ba:=Zt.clip (fun _=>false) al aj;refine X5 (v:=(.agg #[.bool false,.slice br bp.length bs])) rfl rfl (fun _=>Yi (l:=[_,_]) (qs:=[(0,1),(1,1)]) underlying33 zeroValue33 ⟨rfl,sizeOf4,rfl,sizeOf31,trivial⟩ rfl) ?_;refine Wy rfl rfl ?_;intro bt hC0
 replace ah:=(((ah.kpp a8).gr hC).gr ap).kpp ba;have hC:=hC0.bl (Zh aj al);obtain ⟨ai,bu,hm⟩:=bZ hm;replace ad:=((ad.grow ap).kpp ba).grow hC;replace a9:=(a9.kpp ba).gr hC;refine Zi (Zzn 4 5 bu ((ay.ks ad).froz 3) (a9.toSlF (Ze.int .u32))) ?_;rintro _ aa ⟨bv,be,bf,bg,bh,rfl,am,ak,b7⟩;refine ⟨_,rfl,?_⟩;replace ak:=ak.thaw (Zs .u32) am ((Fz.refl (col:=(Zh aj al))).froz 3) (by decide);replace am:=am.thawR (col:=(Zh aj al));generalize Z1 bt.heap.size (Zh aj al) bv=ab at *;refine Zm ?_;refine ⟨fun w'=>Zg (Zh aa ab) aa (Zh aa ab) w',fun g=>(Zh aa ab) g=497,Zg.refl _ _,Wj,fun _=>⟨fun _ h=>Vp hC0 am h,fun b hb=>am.below.block b hb,fun g x1 x2=>Vu am g x1 (by first | exact x2 | (simp only [Xf,x2];rfl) | (simp only [Xf,Xb,x2];rfl))⟩,?_⟩;have bb:=Zt.clip (fun _=>false) ab aa;refine X5 (v:=(.tuple #[(.agg #[.bool ai.1.1,.slice be ai.1.2.length bf]),(.agg #[.bool ai.2.1.1,.slice bg ai.2.1.2.length bh]),.int .i64 ai.2.2])) rfl rfl (fun _=>Wg rfl) ?_;refine X5 (v:=(.agg #[.bool ai.1.1,.slice be ai.1.2.length bf])) rfl rfl (fun _=>Z8 rfl rfl) ?_;refine X5 (v:=(.agg #[.bool ai.2.1.1,.slice bg ai.2.1.2.length bh])) rfl rfl (fun _=>Z8 rfl rfl) ?_;refine X5 (v:=(.int .i64 ai.2.2)) rfl rfl (fun _=>Z8 rfl rfl) ?_;refine Zc7 rfl rfl (Uv zeroValue33) ?_;intro ac bw;refine Zc7 rfl rfl (Uv zeroValue33) ?_;intro ae bi;refine Wy rfl rfl ?_;intro bj ⟨⟨hC0,hZ0⟩,hZ1⟩;replace ah:=((ah.gr hC).gr am).kpp bb;have hC:=hC0.bl (Zh aa ab);obtain ⟨bc,aq⟩:=Zbr (col:=(Zh aa ab)) 6 hZ0 bw;replace aq:Zj 33 6 (Z7 ac 6 (Zh aa ab)) bj ac #[.bool false,.slice none (([]:List Int).length) 0]:=aq;obtain ⟨a1,ar⟩:=Zbr (col:=(Z7 ac 6 (Zh aa ab))) 7 hZ1 ((if_neg bi.2:Z7 ac 6 _ ae=_).trans bi.1);replace ar:Zj 33 7 (Z7 ae 7 (Z7 ac 6 (Zh aa ab))) bj ae #[.bool false,.slice none (([]:List Int).length) 0]:=ar;replace aq:=aq.kpp a1;refine Zu aq ?_;intro af a2 bx au;refine Zm ?_;refine ⟨fun w'=>Zg (Zh af (Z7 ae 7 (Z7 ac 6 (Zh aa ab)))) af (Zh af (Z7 ae 7 (Z7 ac 6 (Zh aa ab)))) w',fun g=>(Zh af (Z7 ae 7 (Z7 ac 6 (Zh aa ab)))) g=497,Zg.refl _ _,Wj,fun h=>absurd h (by decide),?_⟩;have av:=Zt.clip (fun _=>false) (Z7 ae 7 (Z7 ac 6 (Zh aa ab))) af
 refine Wy rfl rfl ?_;intro bz hC0;replace ad:=((((((ad.grow am).kpp bb).grow hC).kpp bc).kpp a1).kp a2 bx).kpp av;replace ak:=(((((ak.kpp bb).gr hC).kpp bc).kpp a1).kp a2).kpp av;replace ah:=((((ah.gr hC).kpp bc).kpp a1).kp a2).kpp av;have hC:Zg (Zh af (Z7 ae 7 (Z7 ac 6 (Zh aa ab)))) af (Zh af (Z7 ae 7 (Z7 ac 6 (Zh aa ab)))) bz:=.of_below hC0.below;replace ar:=((ar.kp a2).kpp av).gr hC;refine Zu ar ?_;intro an a3 b0 b8;refine Zm ?_;refine ⟨fun w'=>Zg (Zh an (Zh af (Z7 ae 7 (Z7 ac 6 (Zh aa ab))))) an (Zh an (Zh af (Z7 ae 7 (Z7 ac 6 (Zh aa ab))))) w',fun g=>(Zh an (Zh af (Z7 ae 7 (Z7 ac 6 (Zh aa ab))))) g=497,Zg.refl _ _,Wj,fun h=>absurd h (by decide),?_⟩;have a4:=Zt.clip (fun _=>false) (Zh af (Z7 ae 7 (Z7 ac 6 (Zh aa ab)))) an;refine X5 (v:=(.int .i64 ai.2.2)) rfl rfl (fun _=>Vx rfl) ?_;refine Zet ?_;replace au:=(((au.kpp av).gr hC).kp a3).kpp a4;replace ak:=((ak.gr hC).kp a3).kpp a4;replace ah:=((ah.gr hC).kp a3).kpp a4;replace ad:=((ad.grow hC).kp a3 b0).kpp a4;intro b1 hC;replace hC:Zg (Zh an (Zh af (Z7 ae 7 (Z7 ac 6 (Zh aa ab))))) an (Zh an (Zh af (Z7 ae 7 (Z7 ac 6 (Zh aa ab))))) b1:=.of_below hC.below;refine go ?_;replace au:=au.gr hC;refine lV _ (Z3 isAgg33 sizeOf33 au) ?_;replace ah:=ah.gr hC;refine Zu ah ?_;intro b9 bk b2 b3;refine go ?_;cases hm;replace ak:=(ak.gr hC).kp bk;replace ad:=(ad.grow hC).kp bk b2;exact ⟨rfl,_,ra b3.atN,_,_,_,rfl,ad.fin (cm [(4,c1)]),ad.fo ak⟩
def Zoo (aa:Int) (kk_L1:(Int→R2→Option R8)) (ab:List Int):Option R8:=
  kk_L1 (i64.wrap (aa+1)) ab
def Zk6 (ab:Int) (aa:Int) (ac:List Int) (kk_L1:(Int→R2→Option R8)) (ad:Int):Option R8:=
  (Zn ac aa).bind fun ae=>Z0 (0≤(Int.tmod (i64.wrap (-ab)) 32)) ((some (ac.set (Int.toNat aa) (u32.wrap (Yc .u64 (Yu .u64 (Xt .u64 ad 32) (u64.wrap ae)) (Int.tmod (i64.wrap (-ab)) 32))))).bind fun af=>Zoo aa kk_L1 af)
def Zco (N:Nat) (ac:Int) (ad:List Int):Nat→Int→R2→Option R8
  | 0,_,_=>none
  | ae+1,aa,ab=>if (decide (aa<(ad.length:Int)))=true then (if (decide ((i64.wrap (aa+1))<(ab.length:Int)))=true then ((Zn ab (i64.wrap (aa+1))).bind fun af=>Zk6 ac aa ab (Zco N ac ad ae) (u64.wrap af)) else (Zk6 ac aa ab (Zco N ac ad ae) 0)) else ((V5 N ab).bind fun ag=>some (ag,0))
termination_by structural x=>x
def Zk5 (N:Nat) (ae:List Int) (aa:Int) (af:Bool):Option R8:=
  if af=true then (some (([]:List Int),3)) else ((Um N ae).bind fun ab=>if (decide (0≤aa))=true then (Z0 (((Int.toNat (i64.wrap ((i64.wrap ((i64.wrap (Int.tdiv aa 32))+(ab.length:Int)))+1))) * 4≤281474976710656∧(Int.toNat (i64.wrap ((i64.wrap ((i64.wrap (Int.tdiv aa 32))+(ab.length:Int)))+1)))≤maxLen∧0≤(i64.wrap ((i64.wrap ((i64.wrap (Int.tdiv aa 32))+(ab.length:Int)))+1)))∧0≤(i64.wrap (Int.tdiv aa 32))∧(Int.toNat (i64.wrap (Int.tdiv aa 32)))≤(Int.toNat (i64.wrap ((i64.wrap ((i64.wrap (Int.tdiv aa 32))+(ab.length:Int)))+1)))) ((Zd2 ab (Int.tmod aa 32)).bind fun ac=>Z0 (((List.replicate (Int.toNat (i64.wrap (Int.tdiv aa 32))) (0:Int)).length+ac.length) * 4≤140737488355328∧(List.replicate (Int.toNat (i64.wrap (Int.tdiv aa 32))) (0:Int)).length+ac.length≤maxLen) ((V5 N ((List.replicate (Int.toNat (i64.wrap (Int.tdiv aa 32))) (0:Int))++ac)).bind fun ag=>some (ag,0)))) else (if (decide ((ab.length:Int)≤(i64.wrap (Int.tdiv (i64.wrap (-aa)) 32))))=true then (some (([]:List Int),0)) else (Z0 ((0:Int)≤(i64.wrap (Int.tdiv (i64.wrap (-aa)) 32))∧(i64.wrap (Int.tdiv (i64.wrap (-aa)) 32))≤(ab.length:Int)) ((Zcz (ab.drop (Int.toNat (i64.wrap (Int.tdiv (i64.wrap (-aa)) 32))))).bind fun ad=>Zco N aa ad N 0 ad))))
def Zon (N:Nat) (ab:List Int) (aa:Int):Option R8:=
  if (decide (aa<(-262144)))=true then (Zk5 N ab aa true) else (Zk5 N ab aa (decide (262144<aa)))
theorem Zyx {N az:Nat} {a0:Option Addr} {col:Zd} {w0:World} {al:R2} {aa:Int} {r:R8} (c1:Nat) (hm:Zon N al aa=some r) (h0:Sl (Za.int .u32) col w0 a0 az al):
    Calls Tryz.prog 98 #[.slice a0 al.length az,.int .i64 aa] w0 (fun e w'=>∃ (col':Zd) (ra1:Option Addr) (rc2:Nat),e= .returned (.tuple #[.slice ra1 r.1.length rc2,.int .i64 r.2])∧Zg col w0 col' w'∧Zb (Za.int .u32) 77 c1 col' w' ra1 rc2 r.1):=by
 refine Zbv 4 5 (m:=82) (args:=[.slice a0 al.length az,.int .i64 aa]) func98 rfl rfl rfl rfl rfl ?_;rw [Zon.eq_1] at hm;have ab:=St.start col w0;refine Zw<|Ww<|T0 rfl<|Yq rfl<|Zm<|Zw<|Zw ?_;replace h0:=h0.keep (Zl.start col w0);refine Wp.cutK [0,1,1000000] (fun f bg=>∃ bh a1,Zk5 N al aa a1=some r∧St w0 (Zk col) bh bg∧[15].map f=[.bool a1]) ?_ ?_
 ·intro f bg hJ;obtain ⟨bh,a1,hm,ab,hs⟩:=hJ;rw [Zk5.eq_1] at hm;refine .lL [15] hs ?_;refine Zp hm (fun hb hm=>go ?_) fun hb hm=>go ?_
  ·cases hm;exact ⟨rfl,_,none,0,rfl,ab.fin (cm []),Zb.nil⟩
  obtain ⟨ao,bo,hm⟩:=bZ hm;refine Zi (Ty bo (h0.ks ab)) ?_;rintro _ bp ⟨bq,ap,am,rfl,br,aq⟩;refine ⟨_,rfl,go ?_⟩;replace ab:=ab.grow br;refine Zp hm (fun hb hm=>go ?_) fun hb hm=>go ?_
  ·refine lV (.int .i64 (i64.wrap (Int.tdiv aa 32))) (W9 aa 32 rfl rfl (by decide))<|Ya rfl<|lV (.int .i64 (i64.wrap (Int.tdiv aa 32))) (W9 aa 32 rfl rfl (by decide))<|go ?_;obtain ⟨an,hm⟩:=Z2 hm;refine Z1m (col:=bq) (w:=bp) (r:=(Za.int .u32)) (l:=(Int.toNat (i64.wrap (Int.tdiv aa 32)))) (n:=(Int.toNat (i64.wrap ((i64.wrap ((i64.wrap (Int.tdiv aa 32))+(ao.length:Int)))+1)))) (x0:=0) 1 rfl underlying31 Tryz.t77 rfl rfl rfl rfl rfl (congrArg (Value.int _) (Int.toNat_of_nonneg an.2.1).symm) (congrArg (Value.int _) (Int.toNat_of_nonneg an.1.2.2).symm) an.1.1 an.1.2.1 an.2.2 (Se .u32 0) ?_;intro cb cc cd bi a2;refine go ?_;refine lV (.int .i64 (Int.tmod aa 32)) (Tf aa 32 rfl rfl (by decide)) ?_;obtain ⟨ce,bs,hm⟩:=bZ hm;replace aq:=aq.gr bi;refine Zi (Zm9 2 bs aq) ?_;rintro _ cf ⟨cg,ch,ci,rfl,bj,bt⟩;refine ⟨_,rfl,?_⟩;obtain ⟨bu,hm⟩:=Z2 hm;replace a2:=a2.gr bj;refine Vv a2 (bt.srcN (NB.int (k:=.u32))) bu ?_;intro cj ck bv a3 bw bx;obtain ⟨cl,bz,hm⟩:=bZ hm;refine Zi (U6 3 bz (bx.toSlF (Ze.int .u32))) ?_;rintro _ cn ⟨b0,co,cp,rfl,ar,a4⟩;refine ⟨_,rfl,?_⟩;replace a4:=a4.thaw (Zs .u32) ar ((Fz.refl (col:=a3)).froz 1) (by decide);replace ar:=ar.thawR (col:=a3);generalize Z1 bv.heap.size a3 b0=cq at *;refine go ?_;cases hm;replace ab:=(((ab.grow bi).grow bj).kpp bw).grow ar;exact ⟨rfl,_,_,_,rfl,ab.fin (cm [(3,c1)]),ab.fo a4⟩
  refine lV (.int .i64 (i64.wrap (Int.tdiv (i64.wrap (-aa)) 32))) (W9 (i64.wrap (-aa)) 32 rfl rfl (by decide))<|go ?_;refine Zp hm (fun hb hm=>go ?_) fun hb hm=>go ?_
  ·cases hm;exact ⟨rfl,_,none,0,rfl,ab.fin (cm []),Zb.nil⟩
  refine lV (.int .i64 (i64.wrap (Int.tdiv (i64.wrap (-aa)) 32))) (W9 (i64.wrap (-aa)) 32 rfl rfl (by decide)) ?_;obtain ⟨bk,hm⟩:=Z2 hm;have b1:=aq.drop (sz:=1) rfl (Int.toNat (i64.wrap (Int.tdiv (i64.wrap (-aa)) 32)));refine lv (v:=.slice (if am=(Int.toNat (i64.wrap (Int.tdiv (i64.wrap (-aa)) 32))) then ap else ap.map (·.add ((Int.toNat (i64.wrap (Int.tdiv (i64.wrap (-aa)) 32))) * 1))) (ao.length - (Int.toNat (i64.wrap (Int.tdiv (i64.wrap (-aa)) 32)))) (am - (Int.toNat (i64.wrap (Int.tdiv (i64.wrap (-aa)) 32))))) rfl rfl (Zpu underlying31 sizeOf77 rfl rfl bk.1 bk.2) ?_;generalize (if am=(Int.toNat (i64.wrap (Int.tdiv (i64.wrap (-aa)) 32))) then ap else ap.map (·.add ((Int.toNat (i64.wrap (Int.tdiv (i64.wrap (-aa)) 32))) * 1)))=bm at *;refine .ld (d:=46) (v:=(.slice bm ((ao.drop (Int.toNat (i64.wrap (Int.tdiv (i64.wrap (-aa)) 32)))).length) (am - (Int.toNat (i64.wrap (Int.tdiv (i64.wrap (-aa)) 32)))))) (congrArg (fun n=>Value.slice bm n (am - (Int.toNat (i64.wrap (Int.tdiv (i64.wrap (-aa)) 32))))) (List.length_drop (i:=(Int.toNat (i64.wrap (Int.tdiv (i64.wrap (-aa)) 32)))) (l:=ao)).symm) ?_;obtain ⟨a5,b2,hm⟩:=bZ hm;refine Zi (Zke 4 b2 b1) ?_;rintro _ cr ⟨cs,ct,cu,rfl,b3,b4⟩;refine ⟨_,rfl,go ?_⟩;replace ab:=ab.grow b3;refine Z5 [1,49,1000000] (fun n f au=>∃ ag ah ai aj ae af,af=n∧Zco N aa a5 af ah ae=some r∧St w0 (Zk col) ag au∧Zb (Za.int .u32) 77 4 ag au ai aj ae∧[50,7].map f=[.int .i64 ah,.slice ai ae.length aj]) N ⟨_,0,_,_,_,_,rfl,hm,ab,b4,rfl⟩ ?_;clear hm;intro n f au hI;obtain ⟨ag,ah,ai,aj,ae,af,hn,hm,ab,ac,hs⟩:=hI;subst hn;refine .lL [50,7] hs ?_
  cases af with
  | zero=>rw [Zco.eq_1] at hm;cases hm
  | succ af=>
   rw [Zco.eq_2] at hm;refine go ?_;refine Zp hm (fun hb hm=>?_) fun hb hm=>go ?_
   ·refine Yd<|Zw ?_;refine Wp.cutK [1,49,50,1000000] (fun f a6=>∃ a7 a8 a9 av,Zoo ah (Zco N aa a5 af) av=some r∧St w0 (Zk col) a7 a6∧Zb (Za.int .u32) 77 4 a7 a6 a8 a9 av∧[7].map f=[.slice a8 av.length a9]) ?_ ?_
    ·intro f a6 hJ;obtain ⟨a7,a8,a9,av,hm,ab,b5,hs⟩:=hJ;rw [Zoo.eq_1] at hm;refine .lL [7] hs<|go ?_;exact ⟨af,by omega,rfl,⟨_,_,_,_,_,_,rfl,hm,ab,b5,rfl⟩⟩
    refine Zhe<|Zw<|Ww<|Ya rfl<|Yq rfl<|Zm<|Zw<|Ww<|Yq rfl<|Zm<|Zw ?_;refine Wp.cutK [1,49,50,7,8,1000000] (fun f ba=>∃ bb ad,Zk6 aa ah ae (Zco N aa a5 af) ad=some r∧St w0 (Zk col) bb ba∧Zb (Za.int .u32) 77 4 bb ba ai aj ae∧[9].map f=[.int .u64 ad]) ?_ ?_
    ·intro f ba hJ;obtain ⟨bb,ad,hm,ab,ac,hs⟩:=hJ;rw [Zk6.eq_1] at hm;refine .lL [9] hs<|go ?_;refine lV (.int .u64 (Xt .u64 ad 32)) (Zc3 ad 32 rfl rfl (by decide))<|go ?_;obtain ⟨aw,ak,hm⟩:=bZ hm;refine lI ak (ac.addr ak)<|lW (ac.atInt ak) ?_;refine go ?_;refine lV (.int .i64 (Int.tmod (i64.wrap (-aa)) 32)) (Tf (i64.wrap (-aa)) 32 rfl rfl (by decide)) ?_;obtain ⟨b6,hm⟩:=Z2 hm;refine lV (.int .u64 (Yc .u64 (Yu .u64 (Xt .u64 ad 32) (u64.wrap aw)) (Int.tmod (i64.wrap (-aa)) 32))) (Tr (Yu .u64 (Xt .u64 ad 32) (u64.wrap aw)) (Int.tmod (i64.wrap (-aa)) 32) rfl rfl b6)<|go ?_;refine lI ak (ac.addr ak) ?_;obtain ⟨bc,ax,hm⟩:=bZ hm;have ax:bc=ae.set (Int.toNat ah) (u32.wrap (Yc .u64 (Yu .u64 (Xt .u64 ad 32) (u64.wrap aw)) (Int.tmod (i64.wrap (-aa)) 32))):=(Option.some.inj ax).symm;refine Y0 (x1:=u32.wrap (Yc .u64 (Yu .u64 (Xt .u64 ad 32) (u64.wrap aw)) (Int.tmod (i64.wrap (-aa)) 32))) ac ak ?_;intro cv b7 b8 bn;rw [← ax] at bn;refine .ld (d:=7) (v:=(.slice ai bc.length aj)) (congrArg (fun n=>Value.slice ai n aj) (show ae.length=bc.length by rw [ax,List.length_set])) ?_;refine Zm ?_;replace ab:=ab.kp b7 b8;exact ⟨rfl,_,_,_,_,hm,ab,bn,rfl⟩
    refine go ?_;refine Zp hm (fun hb hm=>go ?_) fun hb hm=>?_
    ·obtain ⟨cw,bd,hm⟩:=bZ hm;refine lI bd (ac.addr bd)<|lW (ac.atInt bd) ?_;refine go ?_;exact ⟨rfl,_,_,hm,ab,ac,rfl⟩
    refine Yd ?_;exact ⟨rfl,_,0,hm,ab,ac,rfl⟩
   obtain ⟨cx,b9,hm⟩:=bZ hm;refine Zi (U6 5 b9 (ac.toSlF (Ze.int .u32))) ?_;rintro _ cy ⟨ca,cz,c0,rfl,ay,be⟩;refine ⟨_,rfl,?_⟩;replace be:=be.thaw (Zs .u32) ay ((Fz.refl (col:=ag)).froz 4) (by decide);replace ay:=ay.thawR (col:=ag);generalize Z1 au.heap.size ag ca=c2 at *;refine go ?_;cases hm;replace ab:=ab.grow ay;exact ⟨rfl,_,_,_,rfl,ab.fin (cm [(5,c1)]),ab.fo be⟩
 refine go ?_;refine Xz hm (fun bf hm=>go ?_) fun bf hm=>go ?_
 ·refine lV (.bool true) (Xm (congrArg Value.bool bf) rfl)<|Zm ?_;exact ⟨rfl,_,_,hm,ab,rfl⟩
 refine lV (.bool (decide (262144<aa))) (Xd (congrArg Value.bool bf) rfl)<|Zm ?_;exact ⟨rfl,_,_,hm,ab,rfl⟩
def Zh2 (N:Nat):Nat→Int→R2→Option R0
  | 0,_,_=>none
  | ac+1,aa,ab=>if (decide (0<aa))=true then ((Zon N ab (if 262144<aa then 262144 else aa)).bind fun ad=>(Zh2 N ac) (i64.wrap (aa - (if 262144<aa then 262144 else aa))) ad.1) else (some ((false,ab),[1]))
termination_by structural x=>x
def Zof (N:Nat) (aa:Int):Option R0:=
  Zh2 N N aa [1]
theorem Zx4 {N:Nat} {col:Zd} {w0:World} {aq:Int} {r:R0} (c1 c2:Nat) (hm:Zof N aq=some r):
    Calls Tryz.prog 38 #[.int .i64 aq] w0 (fun e w'=>∃ (col':Zd) (ra1:Option Addr) (rc2:Nat) (ra4:Option Addr) (rc5:Nat),e= .returned ((.agg #[.bool r.1.1,.slice ra1 r.1.2.length rc2,.slice ra4 r.2.length rc5]))∧Zg col w0 col' w'∧Zb (Za.int .u32) 77 c1 col' w' ra1 rc2 r.1.2∧Zb (Za.int .u32) 77 c2 col' w' ra4 rc5 r.2):=by
 refine Yw (m:=23) func38 rfl rfl rfl ?_;rw [Zof.eq_1] at hm;have aa:=St.start col w0;refine go ?_;refine Xa (col:=(Zk col)) #[.bool false,.slice none (([]:List Int).length) 0,.slice none (([]:List Int).length) 0] 1 zeroValue35 ?_;intro aw a5 ax ay ab;refine go ?_;refine W6 (col:=ax) [1] 2 ?_;intro a6 a7 a8 ar az;refine go ?_;replace aa:=(aa.grow ay).grow ar;replace ab:=ab.gr ar;refine Z5 [2,1000000] (fun n f ag=>∃ ac ad ah ai ae af,af=n∧Zh2 N af ad ae=some r∧St w0 (Zk col) ac ag∧Zj 35 1 ac ag aw #[.bool false,.slice none (([]:List Int).length) 0,.slice none (([]:List Int).length) 0]∧Zb (Za.int .u32) 77 2 ac ag ah ai ae∧[0,3].map f=[.int .i64 ad,.slice ah ae.length ai]) N ⟨_,_,_,1,_,_,rfl,hm,aa,ab,az,rfl⟩ ?_;clear hm;intro n f ag hI;obtain ⟨ac,ad,ah,ai,ae,af,hn,hm,aa,ab,al,hs⟩:=hI;subst hn;refine .lL [0,3] hs ?_
 cases af with
 | zero=>rw [Zh2.eq_1] at hm;cases hm
 | succ af=>
  rw [Zh2.eq_2] at hm;refine go ?_;refine Zp hm (fun hb hm=>go ?_) fun hb hm=>go ?_
  ·refine lV (.int .i64 (if 262144<ad then 262144 else ad)) (Zme ad 262144 rfl rfl)<|go ?_;obtain ⟨am,a0,hm⟩:=bZ hm;refine Zi (Zyx 3 a0 (al.toSlF (Ze.int .u32))) ?_;rintro _ a9 ⟨a1,au,av,rfl,aj,ak⟩;refine ⟨_,rfl,?_⟩;replace ak:=ak.thaw (Zs .u32) aj ((Fz.refl (col:=ac)).froz 2) (by decide);replace aj:=aj.thawR (col:=ac);generalize Z1 ag.heap.size ac a1=ba at *;refine lM (.tuple #[.slice au am.1.length av,.int .i64 am.2])<|lV (.slice au am.1.length av) (Z8 rfl rfl)<|lV (.int .i64 am.2) (Z8 rfl rfl)<|go ?_;replace ak:=ak.recolSelf 2 (by decide);replace ab:=ab.gr aj;replace ab:=ab.recol 3 2 (by decide);replace aa:=aa.grow aj;replace aa:=aa.recol 3 2 (by decide) (by decide);exact ⟨af,by omega,rfl,⟨_,_,_,_,_,_,rfl,hm,aa,ab,ak,rfl⟩⟩
  refine lV (.agg #[.bool false,.slice ah ae.length ai]) (Yi (l:=[_,_]) (qs:=[(0,1),(1,1)]) underlying33 zeroValue33 ⟨rfl,sizeOf4,rfl,sizeOf31,trivial⟩ rfl)<|W6 (col:=ac) [1] 4 ?_;intro a2 bb bc an ao;refine lV (.agg #[.bool false,.slice ah ae.length ai,.slice a2 ([1].length) 1]) (Yi (l:=[_,_]) (qs:=[(0,2),(2,1)]) underlying35 zeroValue35 ⟨rfl,sizeOf33,rfl,sizeOf31,trivial⟩ rfl) ?_;replace ab:=ab.gr an;refine Zu ab ?_;intro bd ap a3 a4;refine go ?_;cases hm;replace al:=(al.gr an).kp ap;replace aa:=(aa.grow an).kp ap a3;replace ao:=ao.kp ap;exact ⟨rfl,_,ra a4.atN,_,_,_,_,1,rfl,aa.fin (cm [(2,c1),(4,c2)]),aa.fo al,aa.fo ao⟩
def pw (k:Nat):QV:=((false,Zf (2 ^ k)),[1])
def Zkv (aa:Int) (kk_L1:(Int→R2→Option ByteArray)) (ab:List Int):Option ByteArray:=
  kk_L1 (i64.wrap (aa+1)) ab
def Zkw (aa:Int) (kk_L1:(Int→R2→Option ByteArray)) (ab:List Int) (ac:Bool):Option ByteArray:=
  if ac=true then ((Zn ab aa).bind fun ae=>(some (ab.set (Int.toNat aa) 49)).bind fun ad=>Zkv aa kk_L1 ad) else (Zkv aa kk_L1 ab)
def Zb5 (N:Nat) (ac:List Int) (ab:Int):Nat→Int→R2→Option ByteArray
  | 0,_,_=>none
  | ae+1,aa,ad=>if (decide (aa<((List.replicate (Int.toNat ab) (0:Int)).length:Int)))=true then ((Zn ad aa).bind fun ah=>(some (ad.set (Int.toNat aa) 48)).bind fun af=>if (decide ((i64.wrap (Int.tdiv (i64.wrap ((i64.wrap (ab - 1)) - aa)) 32))<(ac.length:Int)))=true then ((Zn ac (i64.wrap (Int.tdiv (i64.wrap ((i64.wrap (ab - 1)) - aa)) 32))).bind fun ag=>Z0 (0≤(Int.tmod (i64.wrap ((i64.wrap (ab - 1)) - aa)) 32)) (Zkw aa (Zb5 N ac ab ae) af (decide ((Uw .u32 (Yc .u32 ag (Int.tmod (i64.wrap ((i64.wrap (ab - 1)) - aa)) 32)) 1)=1)))) else (Zkw aa (Zb5 N ac ab ae) af false)) else (some (Zbs ad))
termination_by structural x=>x
def Zod (N:Nat) (ab:List Int) (aa:Int):Option ByteArray:=
  Z0 ((Int.toNat aa) * 1≤281474976710656∧(Int.toNat aa)≤maxLen∧0≤aa) (Zb5 N ab aa N 0 (List.replicate (Int.toNat aa) (0:Int)))
theorem Zx2 {N a7:Nat} {a0:Option Addr} {col:Zd} {w0:World} {aj:R2} {ac:Int} {r:ByteArray} (hm:Zod N aj ac=some r) (h0:Sl (Za.int .u32) col w0 a0 a7 aj):
    Calls Tryz.prog 43 #[.slice a0 aj.length a7,.int .i64 ac] w0 (fun e w'=>e= .returned ((.string r))∧Below w0.heap.size w0 w'):=by
 refine Xl 4 (m:=45) func43 rfl rfl rfl rfl rfl ?_;rw [Zod.eq_1] at hm;have aa:=St.start col w0;refine go ?_;obtain ⟨ak,hm⟩:=Z2 hm;refine To (col:=(Zk col)) (w:=w0) (r:=(Za.int .u8)) (n:=(Int.toNat ac)) (x0:=0) 1 rfl underlying127 Tryz.t5 rfl rfl rfl rfl rfl (congrArg (Value.int _) (Int.toNat_of_nonneg ak.2.2).symm) (congrArg (Value.int _) (Int.toNat_of_nonneg ak.2.2).symm) ak.1 ak.2.1 (Se .u8 0) ?_;intro bh bi bj a9 ba;refine go ?_;replace aa:=aa.grow a9;refine Z5 [0,1,11,1000000] (fun n f ao=>∃ ap ab ad ae ag af,af=n∧Zb5 N aj ac af ab ag=some r∧St w0 (Zk col) ap ao∧Zb (Za.int .u8) 5 1 ap ao ad ae ag∧[12,5].map f=[.int .i64 ab,.slice ad ag.length ae]) N ⟨_,0,_,_,_,_,rfl,hm,aa,ba,rfl⟩ ?_;clear hm;intro n f ao hI;obtain ⟨ap,ab,ad,ae,ag,af,hn,hm,aa,aq,hs⟩:=hI;subst hn;refine .lL [12,5] hs ?_;replace h0:=h0.keep (Zl.start col w0)
 cases af with
 | zero=>rw [Zb5.eq_1] at hm;cases hm
 | succ af=>
  rw [Zb5.eq_2] at hm;refine go ?_;refine Zp hm (fun hb hm=>?_) fun hb hm=>go ?_
  ·refine Yd<|Zw ?_;refine Wp.cutK [0,1,11,12,1000000] (fun f ar=>∃ au av aw al,Zkv ab (Zb5 N aj ac af) al=some r∧St w0 (Zk col) au ar∧Zb (Za.int .u8) 5 1 au ar av aw al∧[5].map f=[.slice av al.length aw]) ?_ ?_
   ·intro f ar hJ;obtain ⟨au,av,aw,al,hm,aa,bb,hs⟩:=hJ;rw [Zkv.eq_1] at hm;refine .lL [5] hs<|go ?_;exact ⟨af,by omega,rfl,⟨_,_,_,_,_,_,rfl,hm,aa,bb,rfl⟩⟩
   refine go ?_;obtain ⟨bk,ax,hm⟩:=bZ hm;refine lI ax (aq.addr ax) ?_;obtain ⟨ah,am,hm⟩:=bZ hm;have am:ah=ag.set (Int.toNat ab) 48:=(Option.some.inj am).symm;refine Y0 (x1:=48) aq ax ?_;intro bm bc bd ai;rw [← am] at ai;refine .ld (d:=5) (v:=(.slice ad ah.length ae)) (congrArg (fun n=>Value.slice ad n ae) (show ag.length=ah.length by rw [am,List.length_set])) ?_;refine Zm<|Zw ?_;replace aa:=aa.kp bc bd;refine Wp.cutK [0,1,11,12,5,6,1000000] (fun f ay=>∃ az a1,Zkw ab (Zb5 N aj ac af) ah a1=some r∧St w0 (Zk col) az ay∧Zb (Za.int .u8) 5 1 az ay ad ae ah∧[38].map f=[.bool a1]) ?_ ?_
   ·intro f ay hJ;obtain ⟨az,a1,hm,aa,ai,hs⟩:=hJ;rw [Zkw.eq_1] at hm;refine .lL [38] hs ?_;refine Zp hm (fun hb hm=>go ?_) fun hb hm=>?_
    ·obtain ⟨bn,a2,hm⟩:=bZ hm;refine lI a2 (ai.addr a2) ?_;obtain ⟨a3,an,hm⟩:=bZ hm;have an:a3=ah.set (Int.toNat ab) 49:=(Option.some.inj an).symm;refine Y0 (x1:=49) ai a2 ?_;intro bo be bf a8;rw [← an] at a8;refine .ld (d:=5) (v:=(.slice ad a3.length ae)) (congrArg (fun n=>Value.slice ad n ae) (show ah.length=a3.length by rw [an,List.length_set])) ?_;refine Zm ?_;replace aa:=aa.kp be bf;exact ⟨rfl,_,_,_,_,hm,aa,a8,rfl⟩
    refine Yd ?_;exact ⟨rfl,_,_,_,_,hm,aa,ai,rfl⟩
   refine go ?_;refine lV (.int .i64 (i64.wrap (Int.tdiv (i64.wrap ((i64.wrap (ac - 1)) - ab)) 32))) (W9 (i64.wrap ((i64.wrap (ac - 1)) - ab)) 32 rfl rfl (by decide))<|go ?_;refine Xz hm (fun a4 hm=>go ?_) fun a4 hm=>go ?_
   ·refine lV (.int .i64 (i64.wrap (Int.tdiv (i64.wrap ((i64.wrap (ac - 1)) - ab)) 32))) (W9 (i64.wrap ((i64.wrap (ac - 1)) - ab)) 32 rfl rfl (by decide))<|go ?_;obtain ⟨a5,a6,hm⟩:=bZ hm;refine lI a6 ((h0.ks aa).addr a6) ?_;refine go ?_;refine lW ((h0.ks aa).atInt a6)<|go ?_;refine lV (.int .i64 (Int.tmod (i64.wrap ((i64.wrap (ac - 1)) - ab)) 32)) (Tf (i64.wrap ((i64.wrap (ac - 1)) - ab)) 32 rfl rfl (by decide))<|go ?_;obtain ⟨bg,hm⟩:=Z2 hm;refine lV (.int .u32 (Yc .u32 a5 (Int.tmod (i64.wrap ((i64.wrap (ac - 1)) - ab)) 32))) (Tr a5 (Int.tmod (i64.wrap ((i64.wrap (ac - 1)) - ab)) 32) rfl rfl bg)<|go ?_;refine lV (.bool (decide ((Uw .u32 (Yc .u32 a5 (Int.tmod (i64.wrap ((i64.wrap (ac - 1)) - ab)) 32)) 1)=1))) (Xm (congrArg Value.bool a4) rfl)<|Zm ?_;exact ⟨rfl,_,_,hm,aa,ai,rfl⟩
   refine lV (.bool false) (Xd (congrArg Value.bool a4) rfl)<|Zm ?_;exact ⟨rfl,_,_,hm,aa,ai,rfl⟩
  refine lV (.string (Zbs ag)) (Zvk (c:=1) (c2:=1) (aq.srcN NB.int) underlying127 underlying5 underlying9 rfl)<|go ?_;cases hm;exact ⟨rfl,rfl,aa.below⟩
def Zhz (N:Nat) (aa:Re):Nat→Int→Option Rh
  | 0,_=>none
  | ak+1,ac=>(Zof N ac).bind fun ab=>(Ul N ((aa.1.1.1.1,aa.1.1.1.2),aa.1.1.2) ((ab.1.1,ab.1.2),ab.2)).bind fun ad=>(Zok N ((ad.1.1,ad.1.2),ad.2)).bind fun ae=>(Zoj N ((ae.1.1,ae.1.2),ae.2)).bind fun aj=>(Zot N (aj.1,aj.2)).bind fun af=>(Qz).bind fun ag=>(V3 N ((af.1,af.2),[1]) ((ag.1.1,ag.1.2),ag.2)).bind fun ah=>(Ul N ((aa.1.2.1.1,aa.1.2.1.2),aa.1.2.2) ((ab.1.1,ab.1.2),ab.2)).bind fun ai=>(Vi N ((ah.1.1,ah.1.2),ah.2) ((ai.1.1,ai.1.2),ai.2)).bind fun al=>if (decide (al≤0))=true then ((Zod N af.2 ac).bind fun am=>some (am,0)) else ((Zhz N aa ak) (i64.wrap (ac+1)))
termination_by structural x=>x
def Zob (N:Nat) (ab:R1) (af:List Int):Option Rh:=
  (Zaw N (ab.1,ab.2.1,ab.2.2.1,ab.2.2.2.1,ab.2.2.2.2) af).bind fun aa=>if (!decide (aa.2=0))=true then (some (⟨#[]⟩,aa.2)) else ((T6 N ((aa.1.2.1.1,aa.1.2.1.2),aa.1.2.2) ((aa.1.1.1.1,aa.1.1.1.2),aa.1.1.2)).bind fun ac=>(Qe N ((ac.1.1,ac.1.2),ac.2)).bind fun ag=>if (decide (ag≤0))=true then (some (⟨#[]⟩,52)) else ((Zdw N ac.2).bind fun ad=>(Zdw N ac.1.2).bind fun ae=>Zhz N aa N (if 0>(i64.wrap ((i64.wrap (ad - ae)) - 1)) then 0 else (i64.wrap ((i64.wrap (ad - ae)) - 1)))))
theorem Zxx {N b6 b7 b8 b9 ca:Nat} {cb cc cd ce a1:Option Addr} {col:Zd} {w0:World} {ah:R1} {bz:R2} {r:Rh} (hm:Zob N ah bz=some r) (cf:Sl Za.str col w0 cb b6 ah.2.1) (cg:Sl (Za.slice Za.str) col w0 cc b7 ah.2.2.1) (ch:Sl (Za.slice (Za.int .i64)) col w0 cd b8 ah.2.2.2.1) (ci:Sl (Za.slice (Za.pair (Za.pair Za.bool (Za.slice (Za.int .u32))) (Za.slice (Za.int .u32)))) col w0 ce b9 ah.2.2.2.2) (h1:Sl (Za.int .i64) col w0 a1 ca bz):
    Calls Tryz.prog 11 #[(.agg #[.string ah.1,.slice cb ah.2.1.length b6,.slice cc ah.2.2.1.length b7,.slice cd ah.2.2.2.1.length b8,.slice ce ah.2.2.2.2.length b9]),.slice a1 bz.length ca] w0 (fun e w'=>e= .returned (.tuple #[.string r.1,.int .i64 r.2])∧Below w0.heap.size w0 w'):=by
 refine Zbv 4 5 (m:=66) (args:=[(.agg #[.string ah.1,.slice cb ah.2.1.length b6,.slice cc ah.2.2.1.length b7,.slice cd ah.2.2.2.1.length b8,.slice ce ah.2.2.2.2.length b9]),.slice a1 bz.length ca]) func11 rfl rfl rfl rfl rfl ?_;rw [Zob.eq_1] at hm;have ab:=St.start col w0;refine go ?_;refine Xp (col:=(Zk col)) 1 rfl ?_;intro eh ei ej cw cx;refine go ?_;refine lV _ (Z3 isAgg27 sizeOf27 cx)<|Wk rfl ?_;obtain ⟨aa,cy,hm⟩:=bZ hm;replace cf:=cf.keep (Zl.start col w0);replace cg:=cg.keep (Zl.start col w0);replace ch:=ch.keep (Zl.start col w0);replace ci:=ci.keep (Zl.start col w0);replace h1:=h1.keep (Zl.start col w0);replace ab:=ab.grow cw;refine Zi (Zm3 2 3 4 5 cy (cf.ks ab) (cg.ks ab) (ch.ks ab) (ci.ks ab) (h1.ks ab)) ?_;rintro _ ek ⟨cz,be,bf,bg,bh,bi,bj,bk,bm,rfl,c0,ad,ae,af,ag⟩;refine ⟨_,rfl,?_⟩;refine lM (.tuple #[(.agg #[.bool aa.1.1.1.1,.slice be aa.1.1.1.2.length bf,.slice bg aa.1.1.2.length bh,.bool aa.1.2.1.1,.slice bi aa.1.2.1.2.length bj,.slice bk aa.1.2.2.length bm]),.int .i64 aa.2])<|lV (.agg #[.bool aa.1.1.1.1,.slice be aa.1.1.1.2.length bf,.slice bg aa.1.1.2.length bh,.bool aa.1.2.1.1,.slice bi aa.1.2.1.2.length bj,.slice bk aa.1.2.2.length bm]) (Z8 rfl rfl)<|lV (.int .i64 aa.2) (Z8 rfl rfl)<|Xa (col:=cz) #[.bool false,.slice none (([]:List Int).length) 0,.slice none (([]:List Int).length) 0,.bool false,.slice none (([]:List Int).length) 0,.slice none (([]:List Int).length) 0] 6 zeroValue55 ?_;intro c1 el b0 bs c2;refine Zu c2 ?_;intro c3 bt c4 ac;refine go ?_;replace ab:=((ab.grow c0).grow bs).kp bt c4;replace ad:=(ad.gr bs).kp bt;replace ae:=(ae.gr bs).kp bt;replace af:=(af.gr bs).kp bt;replace ag:=(ag.gr bs).kp bt;refine Zp hm (fun hb hm=>go ?_) fun hb hm=>go ?_
 ·cases hm;exact ⟨rfl,rfl,ab.below⟩
 refine Xo ⟨_,_,rfl⟩ ?_;refine lV (.agg #[.bool aa.1.2.1.1,.slice bi aa.1.2.1.2.length bj,.slice bk aa.1.2.2.length bm]) (Xc isAgg35 sizeOf35 rfl rfl ((ac.atN).part 3 3 _ rfl))<|Xo ⟨_,_,rfl⟩ ?_;refine lV (.agg #[.bool aa.1.1.1.1,.slice be aa.1.1.1.2.length bf,.slice bg aa.1.1.2.length bh]) (Xc isAgg35 sizeOf35 rfl rfl ((ac.atN).part 0 3 _ rfl)) ?_;obtain ⟨em,c5,hm⟩:=bZ hm;refine Zi (Zho 7 8 c5 ((((af.toSlF (Ze.int .u32)).froz 5).froz 2).froz 3) ((((ag.froz 4 (by decide)).toSlF (Ze.int .u32)).froz 2).froz 3) ((((ad.froz 4 (by decide)).froz 5 (by decide)).toSlF (Ze.int .u32)).froz 3) ((((ae.froz 4 (by decide)).froz 5 (by decide)).froz 2 (by decide)).toSlF (Ze.int .u32))) ?_;rintro _ en ⟨c6,eo,ep,eq,er,rfl,ax,a2,a3⟩;refine ⟨_,rfl,?_⟩;replace a2:=a2.thaw (Zs .u32) ax (((((Fz.refl (col:=b0)).froz 4).froz 5).froz 2).froz 3) (by decide);replace a3:=a3.thaw (Zs .u32) ax (((((Fz.refl (col:=b0)).froz 4).froz 5).froz 2).froz 3) (by decide);replace ax:=ax.thawR (col:=b0);generalize Z1 c3.heap.size b0 c6=c7 at *;refine Xa (col:=c7) #[.bool false,.slice none (([]:List Int).length) 0,.slice none (([]:List Int).length) 0] 9 zeroValue35 ?_;intro es et a4 a5 c8;refine Zu c8 ?_;intro c9 a6 da bu;refine go ?_;refine lV _ (Z3 isAgg35 sizeOf35 bu) ?_;obtain ⟨eu,db,hm⟩:=bZ hm;replace a2:=(a2.gr a5).kp a6;replace a3:=(a3.gr a5).kp a6;refine Zi (Zj9 db ((a2.toSlF (Ze.int .u32)).froz 8) ((a3.froz 7 (by decide)).toSlF (Ze.int .u32))) ?_;rintro _ dc ⟨rfl,ar⟩;refine ⟨_,rfl,?_⟩;replace ar:Zg a4 c9 a4 dc:=.of_below ar;refine go ?_;replace ad:=(((ad.gr ax).gr a5).kp a6).gr ar;replace ae:=(((ae.gr ax).gr a5).kp a6).gr ar;replace af:=(((af.gr ax).gr a5).kp a6).gr ar;replace ag:=(((ag.gr ax).gr a5).kp a6).gr ar;replace ac:=(((ac.gr ax).gr a5).kp a6).gr ar;replace ab:=(((ab.grow ax).grow a5).kp a6 da).grow ar;replace a2:=a2.gr ar;replace a3:=a3.gr ar;replace bu:=bu.gr ar;refine Zp hm (fun hb hm=>go ?_) fun hb hm=>go ?_
 ·cases hm;exact ⟨rfl,rfl,ab.below⟩
 refine Vy (col:=a4) (by kernel_rfl) (by kernel_rfl)<|qF ⟨_,_,rfl⟩ ?_;refine qW (fun _ hC=>((bu.atN).nth (q:=2) rfl).gr (hC.bl a4)) ?_;obtain ⟨b1,dd,hm⟩:=bZ hm;refine qc (v:=(.int .i64 b1)) rfl (fun _ hC=>⟨_,_,Zen call37 rfl,(Zm6 dd ((a3.gr (hC.bl a4)).toSlF (Ze.int .u32)):).mono fun _ _ h=>⟨h.1,hC.trans (.of_below h.2)⟩⟩) ?_;refine qF ⟨_,_,rfl⟩ ?_;refine qF (Ur ⟨_,_,rfl⟩) ?_;refine qW (fun _ hC=>((((bu.atN).part 0 2 _ rfl)).nth (q:=1) rfl).gr (hC.bl a4)) ?_;obtain ⟨b2,de,hm⟩:=bZ hm;refine qc (v:=(.int .i64 b2)) rfl (fun _ hC=>⟨_,_,Zen call37 rfl,(Zm6 de ((a2.gr (hC.bl a4)).toSlF (Ze.int .u32)):).mono fun _ _ h=>⟨h.1,hC.trans (.of_below h.2)⟩⟩) ?_;refine go ?_;refine qv (v:=(.int .i64 (if 0>(i64.wrap ((i64.wrap (b1 - b2)) - 1)) then 0 else (i64.wrap ((i64.wrap (b1 - b2)) - 1))))) rfl (fun _ hC=>Z3d (i64.wrap ((i64.wrap (b1 - b2)) - 1)) 0 rfl rfl) ?_;refine go ?_;refine Wn ?_;intro ew hC;replace hC:=hC.bl a4;refine Zhe ?_;replace ad:=ad.gr hC;replace ae:=ae.gr hC;replace af:=af.gr hC;replace ag:=ag.gr hC;replace ac:=ac.gr hC;replace ab:=ab.grow hC;refine Z5 [6,1000000] (fun n f bb=>∃ a7 cj bn,bn=n∧Zhz N aa bn cj=some r∧St w0 (Zk col) a7 bb∧Zb (Za.int .u32) 77 2 a7 bb be bf aa.1.1.1.2∧Zb (Za.int .u32) 77 3 a7 bb bg bh aa.1.1.2∧Zb (Za.int .u32) 77 4 a7 bb bi bj aa.1.2.1.2∧Zb (Za.int .u32) 77 5 a7 bb bk bm aa.1.2.2∧Zj 55 6 a7 bb c1 #[.bool aa.1.1.1.1,.slice be aa.1.1.1.2.length bf,.slice bg aa.1.1.2.length bh,.bool aa.1.2.1.1,.slice bi aa.1.2.1.2.length bj,.slice bk aa.1.2.2.length bm]∧[9].map f=[.int .i64 cj]) N ⟨_,_,_,rfl,hm,ab,ad,ae,af,ag,ac,rfl⟩ ?_;clear hm;intro n f bb hI;obtain ⟨a7,cj,bn,hn,hm,ab,ad,ae,af,ag,ac,hs⟩:=hI;subst hn;refine .lL [9] hs ?_
 cases bn with
 | zero=>rw [Zhz.eq_1] at hm;cases hm
 | succ bn=>
  rw [Zhz.eq_2] at hm;refine go ?_;obtain ⟨ey,df,hm⟩:=bZ hm;refine Zi (Zx4 (col:=a7) 10 11 df) ?_;rintro _ ez ⟨dg,e0,e1,e2,e3,rfl,bo,ay,az⟩;refine ⟨_,rfl,?_⟩;refine Xa (col:=dg) #[.bool false,.slice none (([]:List Int).length) 0,.slice none (([]:List Int).length) 0] 12 zeroValue35 ?_;intro e4 e5 b3 a8 dh;refine Zu dh ?_;intro di a9 dj b4;refine go ?_;refine Xo ⟨_,_,rfl⟩ ?_;replace ac:=((ac.gr bo).gr a8).kp a9;refine lV (.agg #[.bool aa.1.1.1.1,.slice be aa.1.1.1.2.length bf,.slice bg aa.1.1.2.length bh]) (Xc isAgg35 sizeOf35 rfl rfl ((ac.atN).part 0 3 _ rfl))<|lV _ (Z3 isAgg35 sizeOf35 b4) ?_;obtain ⟨e6,dl,hm⟩:=bZ hm;replace ad:=((ad.gr bo).gr a8).kp a9;replace ae:=((ae.gr bo).gr a8).kp a9;replace ay:=(ay.gr a8).kp a9;replace az:=(az.gr a8).kp a9;refine Zi (Zbt 13 14 dl ((((ad.toSlF (Ze.int .u32)).froz 3).froz 10).froz 11) ((((ae.froz 2 (by decide)).toSlF (Ze.int .u32)).froz 10).froz 11) ((((ay.froz 2 (by decide)).froz 3 (by decide)).toSlF (Ze.int .u32)).froz 11) ((((az.froz 2 (by decide)).froz 3 (by decide)).froz 10 (by decide)).toSlF (Ze.int .u32))) ?_;rintro _ dm ⟨dn,e7,e8,e9,fa,rfl,al,ck,cl⟩;refine ⟨_,rfl,?_⟩;replace ck:=ck.thaw (Zs .u32) al (((((Fz.refl (col:=b3)).froz 2).froz 3).froz 10).froz 11) (by decide);replace cl:=cl.thaw (Zs .u32) al (((((Fz.refl (col:=b3)).froz 2).froz 3).froz 10).froz 11) (by decide);replace al:=al.thawR (col:=b3);generalize Z1 di.heap.size b3 dn=b5 at *;obtain ⟨fb,dp,hm⟩:=bZ hm;refine Zi (Zyd 15 16 dp ((ck.toSlF (Ze.int .u32)).froz 14) ((cl.froz 13 (by decide)).toSlF (Ze.int .u32))) ?_;rintro _ dq ⟨dr,fc,fd,fe,ff,rfl,am,cn,co⟩;refine ⟨_,rfl,?_⟩;replace cn:=cn.thaw (Zs .u32) am (((Fz.refl (col:=b5)).froz 13).froz 14) (by decide);replace co:=co.thaw (Zs .u32) am (((Fz.refl (col:=b5)).froz 13).froz 14) (by decide);replace am:=am.thawR (col:=b5);generalize Z1 dm.heap.size b5 dr=cp at *;obtain ⟨fg,ds,hm⟩:=bZ hm;refine Zi (Zyc 17 ds ((cn.toSlF (Ze.int .u32)).froz 16) ((co.froz 15 (by decide)).toSlF (Ze.int .u32))) ?_
  rintro _ dt ⟨du,fh,fi,rfl,an,cq⟩;refine ⟨_,rfl,?_⟩;replace cq:=cq.thaw (Zs .u32) an (((Fz.refl (col:=cp)).froz 15).froz 16) (by decide);replace an:=an.thawR (col:=cp);generalize Z1 dq.heap.size cp du=cr at *;obtain ⟨cv,dv,hm⟩:=bZ hm;refine Zi (Zzp 18 dv (cq.toSlF (Ze.int .u32))) ?_;rintro _ fj ⟨dw,dx,dy,rfl,ao,ak⟩;refine ⟨_,rfl,?_⟩;replace ak:=ak.thaw (Zs .u32) ao ((Fz.refl (col:=cr)).froz 17) (by decide);replace ao:=ao.thawR (col:=cr);generalize Z1 dt.heap.size cr dw=dz at *;refine W6 (col:=dz) [1] 19 ?_;intro d0 fk d1 a0 bv;refine lV (.agg #[.bool cv.1,.slice dx cv.2.length dy,.slice d0 ([1].length) 1]) (Yi (l:=[_,_]) (qs:=[(0,2),(2,1)]) underlying35 zeroValue35 ⟨rfl,sizeOf33,rfl,sizeOf31,trivial⟩ rfl)<|Xa (col:=d1) #[.bool false,.slice none (([]:List Int).length) 0,.slice none (([]:List Int).length) 0] 20 zeroValue35 ?_;intro fl fm bp au d2;refine Zu d2 ?_;intro fn av d3 ap;refine go ?_;refine Wb (col:=bp) [(0,0),(3,1),(4,0),(5,0),(1,3),(2,3),(6,3),(7,3),(8,1)] (by kernel_rfl) (by kernel_rfl)<|xv rfl rfl (fun _ hC=>Z3 isAgg35 sizeOf35 (ap.gr (hC.bl bp))) ?_;refine xF ⟨_,_,rfl⟩ ?_;replace ac:=((((((ac.gr al).gr am).gr an).gr ao).gr a0).gr au).kp av;refine xv (v:=(.agg #[.bool aa.1.2.1.1,.slice bi aa.1.2.1.2.length bj,.slice bk aa.1.2.2.length bm])) rfl rfl (fun _ hC=>Xc isAgg35 sizeOf35 rfl rfl (((ac.atN).part 3 3 _ rfl).gr (hC.bl bp))) ?_;replace b4:=((((((b4.gr al).gr am).gr an).gr ao).gr a0).gr au).kp av;refine xv rfl rfl (fun _ hC=>Z3 isAgg35 sizeOf35 (b4.gr (hC.bl bp))) ?_;refine xe rfl rfl ?_;intro fp hC0;have hC:=hC0.bl bp;obtain ⟨fq,d4,hm⟩:=bZ hm;refine lc rfl rfl (S4 call42) (Zez (col:=bp) 21 22 d4:) ?_;rintro _ fr ⟨bq,ft,fu,fv,fw,rfl,aq,cs,ct⟩;refine ⟨_,rfl,?_⟩;refine Zm<|Xr bq hC0 aq<|xe rfl rfl ?_;intro d5 hC0;replace af:=(((((((((((af.gr bo).gr a8).kp a9).gr al).gr am).gr an).gr ao).gr a0).gr au).kp av).gr hC).gr aq;replace ag:=(((((((((((ag.gr bo).gr a8).kp a9).gr al).gr am).gr an).gr ao).gr a0).gr au).kp av).gr hC).gr aq
  replace ab:=(((((((((((ab.grow bo).grow a8).kp a9 dj).grow al).grow am).grow an).grow ao).grow a0).grow au).kp av d3).grow hC).grow aq;replace ad:=((((((((ad.gr al).gr am).gr an).gr ao).gr a0).gr au).kp av).gr hC).gr aq;replace ae:=((((((((ae.gr al).gr am).gr an).gr ao).gr a0).gr au).kp av).gr hC).gr aq;replace ay:=((((((((ay.gr al).gr am).gr an).gr ao).gr a0).gr au).kp av).gr hC).gr aq;replace az:=((((((((az.gr al).gr am).gr an).gr ao).gr a0).gr au).kp av).gr hC).gr aq;replace ak:=((((ak.gr a0).gr au).kp av).gr hC).gr aq;replace bv:=(((bv.gr au).kp av).gr hC).gr aq;replace ac:=(ac.gr hC).gr aq;replace ap:=(ap.gr hC).gr aq;have hC:=hC0.bl bq;obtain ⟨fx,d6,hm⟩:=bZ hm;replace ak:=ak.gr hC;replace bv:=bv.gr hC;replace cs:=cs.gr hC;replace ct:=ct.gr hC;refine Zi (Zam 23 24 d6 ((((ak.toSlF (Ze.int .u32)).froz 19).froz 21).froz 22) ((((bv.froz 18 (by decide)).toSlF (Ze.int .u32)).froz 21).froz 22) ((((cs.froz 18 (by decide)).froz 19 (by decide)).toSlF (Ze.int .u32)).froz 22) ((((ct.froz 18 (by decide)).froz 19 (by decide)).froz 21 (by decide)).toSlF (Ze.int .u32))) ?_;rintro _ fy ⟨d7,fz,f0,f1,f2,rfl,ai,bc,bd⟩;refine ⟨_,rfl,?_⟩;replace bc:=bc.thaw (Zs .u32) ai (((((Fz.refl (col:=bq)).froz 18).froz 19).froz 21).froz 22) (by decide);replace bd:=bd.thaw (Zs .u32) ai (((((Fz.refl (col:=bq)).froz 18).froz 19).froz 21).froz 22) (by decide);replace ai:=ai.thawR (col:=bq);generalize Z1 d5.heap.size bq d7=br at *;refine Zm<|Xr br hC0 ai<|xe rfl rfl ?_;intro d8 hC0;replace ad:=(ad.gr hC).gr ai;replace ae:=(ae.gr hC).gr ai;replace af:=(af.gr hC).gr ai;replace ag:=(ag.gr hC).gr ai;replace ay:=(ay.gr hC).gr ai;replace az:=(az.gr hC).gr ai;replace ac:=(ac.gr hC).gr ai;replace ap:=(ap.gr hC).gr ai;replace ab:=(ab.grow hC).grow ai;have hC:=hC0.bl br;obtain ⟨f3,d9,hm⟩:=bZ hm;replace af:=af.gr hC;replace ag:=ag.gr hC;replace ay:=ay.gr hC;replace az:=az.gr hC
  refine Zi (Zbt 25 26 d9 ((((af.toSlF (Ze.int .u32)).froz 5).froz 10).froz 11) ((((ag.froz 4 (by decide)).toSlF (Ze.int .u32)).froz 10).froz 11) ((((ay.froz 4 (by decide)).froz 5 (by decide)).toSlF (Ze.int .u32)).froz 11) ((((az.froz 4 (by decide)).froz 5 (by decide)).froz 10 (by decide)).toSlF (Ze.int .u32))) ?_;rintro _ f4 ⟨ea,f5,f6,f7,f8,rfl,aj,bw,bx⟩;refine ⟨_,rfl,?_⟩;replace bw:=bw.thaw (Zs .u32) aj (((((Fz.refl (col:=br)).froz 4).froz 5).froz 10).froz 11) (by decide);replace bx:=bx.thaw (Zs .u32) aj (((((Fz.refl (col:=br)).froz 4).froz 5).froz 10).froz 11) (by decide);replace aj:=aj.thawR (col:=br);generalize Z1 d8.heap.size br ea=ba at *;refine Zm<|Xr ba hC0 aj<|xe rfl rfl ?_;intro eb hC0;replace ak:=((ak.gr ai).gr hC).gr aj;replace ad:=(ad.gr hC).gr aj;replace ae:=(ae.gr hC).gr aj;replace bc:=(bc.gr hC).gr aj;replace bd:=(bd.gr hC).gr aj;replace ac:=(ac.gr hC).gr aj;replace ap:=(ap.gr hC).gr aj;replace ab:=(ab.grow hC).grow aj;have hC:=hC0.bl ba;obtain ⟨f9,ec,hm⟩:=bZ hm;replace bc:=bc.gr hC;replace bd:=bd.gr hC;replace bw:=bw.gr hC;replace bx:=bx.gr hC;refine Zi (Sm ec ((((bc.toSlF (Ze.int .u32)).froz 24).froz 25).froz 26) ((((bd.froz 23 (by decide)).toSlF (Ze.int .u32)).froz 25).froz 26) ((((bw.froz 23 (by decide)).froz 24 (by decide)).toSlF (Ze.int .u32)).froz 26) ((((bx.froz 23 (by decide)).froz 24 (by decide)).froz 25 (by decide)).toSlF (Ze.int .u32))) ?_;rintro _ ed ⟨rfl,aw⟩;refine ⟨_,rfl,?_⟩;replace aw:Zg ba eb ba ed:=.of_below aw;refine Zm<|Xr ba hC0 aw<|xu rfl rfl (fun _=>Zpr _ _ rfl rfl) ?_;refine Yz ?_;replace af:=((af.gr aj).gr hC).gr aw;replace ag:=((ag.gr aj).gr hC).gr aw;replace ad:=(ad.gr hC).gr aw;replace ae:=(ae.gr hC).gr aw;replace ak:=(ak.gr hC).gr aw;replace ac:=(ac.gr hC).gr aw;replace ap:=(ap.gr hC).gr aw;replace ab:=(ab.grow hC).grow aw;intro ee hC;replace hC:=hC.bl ba;replace ad:=ad.gr hC;replace ae:=ae.gr hC;replace af:=af.gr hC;replace ag:=ag.gr hC;replace ak:=ak.gr hC;replace ac:=ac.gr hC;replace ap:=ap.gr hC;replace ab:=ab.grow hC
  refine Zp hm (fun hb hm=>go ?_) fun hb hm=>go ?_
  ·refine Xo ⟨_,_,rfl⟩ ?_;refine Xo (Ur ⟨_,_,rfl⟩) ?_;refine lW ((((ap.atN).part 0 2 _ rfl)).nth (q:=1) rfl)<|Ya rfl ?_;obtain ⟨ga,ef,hm⟩:=bZ hm;refine Zi (Zx2 ef (ak.toSlF (Ze.int .u32))) ?_;rintro _ eg ⟨rfl,cu⟩;refine ⟨_,rfl,?_⟩;replace cu:Zg ba ee ba eg:=.of_below cu;refine go ?_;cases hm;replace ab:=ab.grow cu;exact ⟨rfl,rfl,ab.below⟩
  exact ⟨bn,by omega,rfl,⟨_,_,_,rfl,hm,ab,ad,ae,af,ag,ac,rfl⟩⟩
theorem Z2s {a b:Rat}:0≤Vj a b↔b≤a:=by
 rw [Vj,← Rat.not_lt]
 by_cases h:a<b
 ·rw [if_pos h];exact ⟨fun e=>absurd e (by decide),fun e=>absurd h e⟩
 ·rw [if_neg h]
  by_cases g:b<a
  ·rw [if_pos g];exact ⟨fun _=>h,fun _=>by decide⟩
  ·rw [if_neg g];exact ⟨fun _=>h,fun _=>by decide⟩
end Go.Proofs.YtlchacnggnhhbaaGreat
