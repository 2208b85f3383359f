/-
  What functions of the program compute, as plain Lean functions (m_..), and proofs that they compute it (c_..). Printed by a program of the author; no conditions.
-/
import Derived.Test.YtlchacnggnhhbaaGreatCodeBackBFloat
import Derived.Test.YtlchacnggnhhbaaGreatProg
import Derived.Test.YtlchacnggnhhbaaGreatCodeBackBBrief
import Derived.Test.YtlchacnggnhhbaaGreatCodeBackBBulk
import Derived.Test.YtlchacnggnhhbaaGreatCodeBackBThree
import Derived.Test.YtlchacnggnhhbaaGreatCodeBackBView
import Derived.Test.YtlchacnggnhhbaaGreatCodeBackF4
set_option linter.unusedVariables false
set_option maxRecDepth 100000
set_option maxHeartbeats 20000000
namespace Go.Proofs.YtlchacnggnhhbaaGreat
open Go Go.RowKit
open Go.IntKind (i8 i16 i32 i64 u8 u16 u32 u64)
open Go.Proofs.Tryz

def Zdh (N:Nat) (ai:R1) (aj:Bool) (ak:List Int) (al:List Int) (am:Bool) (an:List Int) (ao:List Int) (aw:Bool) (ax:List Int) (ay:List Int) (az:Bool) (a0:List Int) (a1:List Int) (ap:List Int) (kk_L1:(Bool→R2→R2→Bool→R2→R2→Bool→R2→R2→Bool→R2→R2→Bool→R2→R2→Bool→R2→R2→R2→Option R7)) (ab:Int) (a2:Int) (ae:R0) (a3:List ByteArray):Nat→Bool→R2→R2→Rg→Int→Option R7
  | 0,_,_,_,_,_=>none
  | a4+1,af,ag,ah,ad,aq=>if (decide (aq<(a3.length:Int)))=true then ((Zp ai.2.2.2.2 ab).bind fun a5=>(Zp ai.2.2.1 ab).bind fun a6=>(Zp a5 (i64.wrap ((i64.wrap (a2 * (a6.length:Int)))+aq))).bind fun ar=>(Ul N ((ae.1.1,ae.1.2),ae.2) ((ar.1.1,ar.1.2),ar.2)).bind fun au=>(Uv N ((af,ag),ah) ((au.1.1,au.1.2),au.2)).bind fun aa=>Z7 ((ad.length+[(((af,ag),ah),((aa.1.1,aa.1.2),aa.2))].length) * 112≤140737488355328∧ad.length+[(((af,ag),ah),((aa.1.1,aa.1.2),aa.2))].length≤maxLen) ((Zdh N ai aj ak al am an ao aw ax ay az a0 a1 ap kk_L1 ab a2 ae a3 a4) aa.1.1 aa.1.2 aa.2 (ad++[(((af,ag),ah),((aa.1.1,aa.1.2),aa.2))]) (i64.wrap (aq+1)))) else ((Zk0 N ab ad (((aj,ak),al),((am,an),ao))).bind fun av=>if (decide (av<0))=true then (some (([]:List Int),(((false,([]:List Int)),([]:List Int)),((false,([]:List Int)),([]:List Int))),false)) else ((Zp ad av).bind fun ac=>(Zp ap ab).bind fun a8=>(some (ap.set (Int.toNat ab) av)).bind fun a7=>kk_L1 ac.1.1.1 ac.1.1.2 ac.1.2 ac.2.1.1 ac.2.1.2 ac.2.2 aj ak al am an ao aw ax ay az a0 a1 a7))
termination_by structural x=>x
def Zb1 (N:Nat) (aa:R1) (ab:Bool) (ac:List Int) (ad:List Int) (ah:Bool) (ai:List Int) (aj:List Int) (ak:Bool) (al:List Int) (am:List Int) (an:Bool) (ao:List Int) (ap:List Int) (aq:Bool) (ar:List Int) (au:List Int) (av:Bool) (aw:List Int) (ax:List Int) (ae:List Int) (kk_L1:(Bool→R2→R2→Bool→R2→R2→Bool→R2→R2→Bool→R2→R2→Bool→R2→R2→Bool→R2→R2→R2→Option R7)) (af:Int):List Int→Int→Option R7
  | [],ag=>(Qj N ((ah,ai),aj) ((ab,ac),ad)).bind fun az=>(Zp aa.2.2.1 af).bind fun a0=>Zdh N aa ak al am an ao ap aq ar au av aw ax ae kk_L1 af ag az a0 N ab ac ad ([]:List (R0×R0)) 0
  | ay :: a1,ag=>(Zp aa.2.2.1 ay).bind fun a2=>(Zp ae ay).bind fun a3=>(Zb1 N aa ab ac ad ah ai aj ak al am an ao ap aq ar au av aw ax ae kk_L1 af a1) (i64.wrap ((i64.wrap (ag * (a2.length:Int)))+a3))
termination_by structural x=>x
def Qg (N:Nat) (aa:R1):List Int→Bool→R2→R2→Bool→R2→R2→Bool→R2→R2→Bool→R2→R2→Bool→R2→R2→Bool→R2→R2→R2→Option R7
  | [],ab,ac,ad,ae,af,ag,ai,aj,ak,al,am,an,ao,ap,aq,ar,au,av,ah=>some (ah,(((ab,ac),ad),((ae,af),ag)),true)
  | aw :: ax,ab,ac,ad,ae,af,ag,ai,aj,ak,al,am,an,ao,ap,aq,ar,au,av,ah=>(Zp aa.2.2.2.1 aw).bind fun ay=>Zb1 N aa ab ac ad ae af ag ai aj ak al am an ao ap aq ar au av ah (Qg N aa ax) aw ay 0
termination_by structural x=>x
def Zb0 (N:Nat) (ab:R1) (ae:List Int) (aa:(R0×R0)):Option R7:=
  Z7 (ab.2.1.length * 8≤281474976710656∧ab.2.1.length≤maxLen) ((Za4 N ([]:List R0)).bind fun ac=>(Zb3).bind fun ad=>Qg N ab ae ac.1.1 ac.1.2 ac.2 ad.1.1 ad.1.2 ad.2 aa.1.1.1 aa.1.1.2 aa.1.2 aa.2.1.1 aa.2.1.2 aa.2.2 false ([]:List Int) ([]:List Int) false ([]:List Int) ([]:List Int) (List.replicate ab.2.1.length (0:Int)))
theorem Zy7 {N ed dl ee dm f5 g3 f6 f7 f8 f9:Nat} {ef cz eg c0 a1 ga gb gc gd:Option Addr} {col:Ze} {w0:World} {ag:R1} {dn:R2} {bx:(R0×R0)} {r:R7} (c1 qc3:Nat) (hm:Zb0 N ag dn bx=some r) (hqqc3:qc3≠0) (jr:Sl Za.str col w0 ef ed ag.2.1) (c2:Sl (Za.slice Za.str) col w0 cz dl ag.2.2.1) (er:Sl (Za.slice (Za.int .i64)) col w0 eg ee ag.2.2.2.1) (es:Sl (Za.slice (Za.pair (Za.pair Za.bool (Za.slice (Za.int .u32))) (Za.slice (Za.int .u32)))) col w0 c0 dm ag.2.2.2.2) (h1:Sl (Za.int .i64) col w0 a1 f5 dn) (e3:Sl (Za.int .u32) col w0 ga f6 bx.1.1.2) (e4:Sl (Za.int .u32) col w0 gb f7 bx.1.2) (e5:Sl (Za.int .u32) col w0 gc f8 bx.2.1.2) (e6:Sl (Za.int .u32) col w0 gd f9 bx.2.2) (hb3:Zo 55 qc3 col w0 g3 #[.bool bx.1.1.1,.slice ga bx.1.1.2.length f6,.slice gb bx.1.2.length f7,.bool bx.2.1.1,.slice gc bx.2.1.2.length f8,.slice gd bx.2.2.length f9]):
    Calls Tryz.prog 46 #[(.agg #[.string ag.1,.slice ef ag.2.1.length ed,.slice cz ag.2.2.1.length dl,.slice eg ag.2.2.2.1.length ee,.slice c0 ag.2.2.2.2.length dm]),.slice a1 dn.length f5,(.func (.func 104) #[] #[.pointer (some ⟨g3,0,none⟩)])] w0 (fun e w'=>∃ (col':Ze) (ra1:Option Addr) (rc2:Nat) (ra4:Option Addr) (rc5:Nat) (ra7:Option Addr) (rc8:Nat) (ra10:Option Addr) (rc11:Nat) (ra13:Option Addr) (rc14:Nat),e= .returned (.tuple #[.slice ra1 r.1.length rc2,(.agg #[.bool r.2.1.1.1.1,.slice ra4 r.2.1.1.1.2.length rc5,.slice ra7 r.2.1.1.2.length rc8,.bool r.2.1.2.1.1,.slice ra10 r.2.1.2.1.2.length rc11,.slice ra13 r.2.1.2.2.length rc14]),.bool r.2.2])∧Zg col w0 col' w'∧Zc (Za.int .i64) 3 c1 col' w' ra1 rc2 r.1∧Sl (Za.int .u32) col' w' ra4 rc5 r.2.1.1.1.2∧Sl (Za.int .u32) col' w' ra7 rc8 r.2.1.1.2∧Sl (Za.int .u32) col' w' ra10 rc11 r.2.1.2.1.2∧Sl (Za.int .u32) col' w' ra13 rc14 r.2.1.2.2):=by
 refine Yu (m:=122) func46 rfl rfl rfl ?_;rw [Zb0.eq_1] at hm;have aa:=St.start col w0;replace hb3:=hb3.start0 hqqc3;refine go ?_;refine Xy (col:=(Zk col)) 1 rfl ?_;intro eh js gi ge ab;refine Sv rfl<|Xl (col:=gi) #[.bool false,.slice none (([]:List Int).length) 0,.slice none (([]:List Int).length) 0,.bool false,.slice none (([]:List Int).length) 0,.slice none (([]:List Int).length) 0] 2 zeroValue55 ?_;intro e7 gj gk e8 ac;refine go ?_;refine X8 ⟨_,_,rfl⟩ ?_;replace ab:=ab.gr e8;refine lW ((ab.atN).nth (q:=1) rfl)<|go ?_;obtain ⟨gf,hm⟩:=Xc hm;refine Qe (col:=gk) (w:=gj) (r:=(Za.int .i64)) (n:=ag.2.1.length) (x0:=0) 3 rfl underlying39 Tryz.t3 rfl rfl rfl rfl rfl rfl rfl gf.1 gf.2 (Qu .i64 0) ?_;intro jt ju gl et bz;refine go ?_;obtain ⟨e9,gm,hm⟩:=bZ hm;refine Zi (Zkg (col:=gl) 4 5 gm Sl.nil) ?_;rintro _ jv ⟨gp,gs,gt,gu,gv,rfl,ei,b0,b1⟩;refine ⟨_,rfl,?_⟩;obtain ⟨fa,gw,hm⟩:=bZ hm;refine lc rfl rfl (Zap call42) (Zkf (col:=gp) 6 7 gw:) ?_;rintro _ jw ⟨gx,gy,gz,g0,g1,rfl,dp,b2,b3⟩;refine ⟨_,rfl,?_⟩;refine lV (.agg #[.bool e9.1.1,.slice gs e9.1.2.length gt,.slice gu e9.2.length gv,.bool fa.1.1,.slice gy fa.1.2.length gz,.slice g0 fa.2.length g1]) (Yk (l:=[_,_]) (qs:=[(0,3),(3,3)]) underlying55 zeroValue55 ⟨rfl,sizeOf35,rfl,sizeOf35,trivial⟩ rfl)<|Xl (col:=gx) #[.bool false,.slice none (([]:List Int).length) 0,.slice none (([]:List Int).length) 0,.bool false,.slice none (([]:List Int).length) 0,.slice none (([]:List Int).length) 0] 8 zeroValue55 ?_;intro fb jx jy co g2;refine Z2 g2 ?_;intro jz cp g4 ad;refine go ?_;replace bz:=(((bz.gr ei).gr dp).gr co).kp cp;replace bz:=bz.froz 4 (by decide);replace b0:=((b0.gr dp).gr co).kp cp;replace b0:=(b0).toSlF (Zh.int .u32);replace b1:=((b1.gr dp).gr co).kp cp;replace b1:=b1.froz 4 (by decide);replace b2:=(b2.gr co).kp cp;replace b2:=b2.froz 4 (by decide);replace b3:=(b3.gr co).kp cp;replace b3:=b3.froz 4 (by decide);replace hb3:=((((((hb3.gr ge).gr e8).gr et).gr ei).gr dp).gr co).kp cp;replace hb3:=hb3.froz 4 (by decide);replace ab:=((((ab.gr et).gr ei).gr dp).gr co).kp cp;replace ab:=ab.froz 4 (by decide);replace ac:=((((ac.gr et).gr ei).gr dp).gr co).kp cp;replace ac:=ac.froz 4 (by decide);replace ad:=ad.froz 4 (by decide)
 replace aa:=((((((aa.grow ge).grow e8).grow et).grow ei).grow dp).grow co).kp cp g4;replace aa:=aa.froz 4 (by decide) (by decide);replace bz:=bz.froz 5 (by decide);replace b0:=b0.froz 5;replace b1:=(b1).toSlF (Zh.int .u32);replace b2:=b2.froz 5 (by decide);replace b3:=b3.froz 5 (by decide);replace hb3:=hb3.froz 5 (by decide);replace ab:=ab.froz 5 (by decide);replace ac:=ac.froz 5 (by decide);replace ad:=ad.froz 5 (by decide);replace aa:=aa.froz 5 (by decide) (by decide);replace bz:=bz.froz 6 (by decide);replace b0:=b0.froz 6;replace b1:=b1.froz 6;replace b2:=(b2).toSlF (Zh.int .u32);replace b3:=b3.froz 6 (by decide);replace hb3:=hb3.froz 6 (by decide);replace ab:=ab.froz 6 (by decide);replace ac:=ac.froz 6 (by decide);replace ad:=ad.froz 6 (by decide);replace aa:=aa.froz 6 (by decide) (by decide);replace bz:=bz.froz 7 (by decide);replace b0:=b0.froz 7;replace b1:=b1.froz 7;replace b2:=b2.froz 7;replace b3:=(b3).toSlF (Zh.int .u32);replace hb3:=hb3.froz 7 (by decide);replace ab:=ab.froz 7 (by decide);replace ac:=ac.froz 7 (by decide);replace ad:=ad.froz 7 (by decide);replace aa:=aa.froz 7 (by decide) (by decide);replace e3:=e3.keep (Zl.start col w0);replace e4:=e4.keep (Zl.start col w0);replace e5:=e5.keep (Zl.start col w0);replace e6:=e6.keep (Zl.start col w0)
 refine Xe [10,2,29,3,30,7,1000000] (fun n f bk=>∃ a8 c3 cq cr b4 ct cu b5 dq c4 c5 ca c6 c7 cb c8 c9 da b6 db dc b7 dd de df b8 dg dh b9 ej dr ds dt cc du dv cd dw dx dy ce dz d0 cf d1 d2 cg ek,n=ek.length∧dn.drop ej=ek∧Qg N ag ek c3 b4 b5 dq ca cb c8 b6 b7 dd b8 b9 dr cc cd dw ce cf cg=some r∧St w0 (Zk col) a8 bk∧Sl (Za.int .u32) a8 bk cq cr b4∧Sl (Za.int .u32) a8 bk ct cu b5∧Sl (Za.int .u32) a8 bk c4 c5 ca∧Sl (Za.int .u32) a8 bk c6 c7 cb∧Zo 55 8 a8 bk fb #[.bool c3,.slice cq b4.length cr,.slice ct b5.length cu,.bool dq,.slice c4 ca.length c5,.slice c6 cb.length c7]∧Sl (Za.int .u32) a8 bk c9 da b6∧Sl (Za.int .u32) a8 bk db dc b7∧Sl (Za.int .u32) a8 bk de df b8∧Sl (Za.int .u32) a8 bk dg dh b9∧Zo 55 999 a8 bk g3 #[.bool c8,.slice c9 b6.length da,.slice db b7.length dc,.bool dd,.slice de b8.length df,.slice dg b9.length dh]∧Zo 27 1 a8 bk eh #[.string ag.1,.slice ef ag.2.1.length ed,.slice cz ag.2.2.1.length dl,.slice eg ag.2.2.2.1.length ee,.slice c0 ag.2.2.2.2.length dm]∧Zc (Za.int .u32) 77 9 a8 bk ds dt cc∧Zc (Za.int .u32) 77 10 a8 bk du dv cd∧Zc (Za.int .u32) 77 11 a8 bk dx dy ce∧Zc (Za.int .u32) 77 12 a8 bk dz d0 cf∧Zo 55 2 a8 bk e7 #[.bool dr,.slice ds cc.length dt,.slice du cd.length dv,.bool dw,.slice dx ce.length dy,.slice dz cf.length d0]∧Zc (Za.int .i64) 3 3 a8 bk d1 d2 cg∧[31,9].map f=[.int .i64 ej,.slice d1 cg.length d2]) dn.length ⟨_,_,_,_,_,_,_,_,_,_,_,_,_,_,_,_,_,_,_,_,_,_,_,_,_,_,_,_,_,0,_,none,0,_,none,0,_,_,none,0,_,none,0,_,_,_,_,_,rfl,rfl,hm,aa,b0,b1,b2,b3,ad,(e3.ks aa),(e4.ks aa),(e5.ks aa),(e6.ks aa),hb3,ab,Zc.nil,Zc.nil,Zc.nil,Zc.nil,ac,bz,rfl⟩ ?_;clear hm;intro n f bk hI;obtain ⟨a8,c3,cq,cr,b4,ct,cu,b5,dq,c4,c5,ca,c6,c7,cb,c8,c9,da,b6,db,dc,b7,dd,de,df,b8,dg,dh,b9,ej,dr,ds,dt,cc,du,dv,cd,dw,dx,dy,ce,dz,d0,cf,d1,d2,cg,ek,hn,hl,hm,aa,ak,al,am,an,ad,ao,ap,aq,ar,hb3,ab,au,av,aw,ax,ac,ah,hs⟩:=hI;subst hn
 refine .lL [31,9] hs ?_;replace c2:=c2.keep (Zl.start col w0);replace er:=er.keep (Zl.start col w0);replace es:=es.keep (Zl.start col w0);replace h1:=h1.keep (Zl.start col w0)
 cases ek with
 | nil=>
  have hk:¬ ((ej:Int)<(dn.length:Int)):=by have:=List.drop_eq_nil_iff.1 hl;omega
  have hkb:=decide_eq_false hk;rw [Qg.eq_1] at hm;refine go ?_;refine Yv (congrArg Value.bool hkb)<|go ?_;refine W6 (col:=a8) [(0,1),(1,0),(2,1),(3,2),(4,1)] (by kernel_rfl) (by kernel_rfl)<|xu rfl rfl (fun _=>Ug rfl) ?_;refine xv rfl rfl (fun _ hC=>Xj isAgg55 sizeOf55 (ad.gr (hC.bl a8))) ?_;refine xu rfl rfl (fun _=>Zwf rfl) ?_;refine xe rfl rfl ?_;intro j0 hC0;have hC:=hC0.bl a8;replace ac:=ac.gr hC;refine Z2 ac ?_;intro j1 ea g5 fc;refine Zm<|xk a8<|xu rfl rfl (fun _=>Zmn rfl) ?_;refine W3 ?_;replace ak:=(ak.gr hC).kp ea;replace al:=(al.gr hC).kp ea;replace am:=(am.gr hC).kp ea;replace an:=(an.gr hC).kp ea;replace ah:=(ah.gr hC).kp ea;replace aa:=(aa.grow hC).kp ea g5;intro j2 hC;replace hC:=hC.bl a8;refine Vp ?_;cases hm;replace ak:=ak.gr hC;replace al:=al.gr hC;replace am:=am.gr hC;replace an:=an.gr hC;replace ah:=ah.gr hC;replace fc:=fc.gr hC;replace aa:=aa.grow hC;exact ⟨rfl,_,Zmy rfl rfl rfl rfl isAgg55 sizeOf55 rfl rfl fc.atN rfl rfl,_,_,_,_,_,_,_,_,_,_,_,rfl,aa.fin (cm [(3,c1)]),aa.fo ah,aa.fs ak,aa.fs al,aa.fs am,aa.fs an⟩
 | cons di fd=>
  obtain ⟨d3,g6,g7⟩:=Y1 hl;have hk:(ej:Int)<(dn.length:Int):=by omega
  have hkb:=decide_eq_true hk;rw [Qg.eq_2] at hm;refine go ?_;refine Yw (congrArg Value.bool hkb)<|go ?_;refine lI d3 ((h1.ks aa).addr d3)<|lW ((h1.ks aa).atInt d3) ?_;refine go ?_;refine X3 ab<|Yn rfl ?_;obtain ⟨el,fe,hm⟩:=bZ hm;refine lI fe ((er.ks aa).addr fe) ?_;obtain ⟨_,g8,g9⟩:=(er.ks aa).atN fe;obtain ⟨⟨ha,hc,rfl,dj⟩,_⟩:=g8;refine lW g9.one<|go ?_;refine Xe [10,12,2,29,3,30,31,39,40,7,9,1000000] (fun n f be=>∃ a5 ch em en,n=en.length∧el.drop em=en∧Zb1 N ag c3 b4 b5 dq ca cb c8 b6 b7 dd b8 b9 dr cc cd dw ce cf cg (Qg N ag fd) di en ch=some r∧St w0 (Zk col) a5 be∧Sl (Za.int .u32) a5 be cq cr b4∧Sl (Za.int .u32) a5 be ct cu b5∧Sl (Za.int .u32) a5 be c4 c5 ca∧Sl (Za.int .u32) a5 be c6 c7 cb∧Zo 55 8 a5 be fb #[.bool c3,.slice cq b4.length cr,.slice ct b5.length cu,.bool dq,.slice c4 ca.length c5,.slice c6 cb.length c7]∧Sl (Za.int .u32) a5 be c9 da b6∧Sl (Za.int .u32) a5 be db dc b7∧Sl (Za.int .u32) a5 be de df b8∧Sl (Za.int .u32) a5 be dg dh b9∧Zo 55 999 a5 be g3 #[.bool c8,.slice c9 b6.length da,.slice db b7.length dc,.bool dd,.slice de b8.length df,.slice dg b9.length dh]∧Zo 27 1 a5 be eh #[.string ag.1,.slice ef ag.2.1.length ed,.slice cz ag.2.2.1.length dl,.slice eg ag.2.2.2.1.length ee,.slice c0 ag.2.2.2.2.length dm]∧Sl (Za.int .i64) a5 be ha hc el∧Zc (Za.int .u32) 77 9 a5 be ds dt cc∧Zc (Za.int .u32) 77 10 a5 be du dv cd∧Zc (Za.int .u32) 77 11 a5 be dx dy ce∧Zc (Za.int .u32) 77 12 a5 be dz d0 cf∧Zo 55 2 a5 be e7 #[.bool dr,.slice ds cc.length dt,.slice du cd.length dv,.bool dw,.slice dx ce.length dy,.slice dz cf.length d0]∧Zc (Za.int .i64) 3 3 a5 be d1 d2 cg∧[41,13].map f=[.int .i64 em,.int .i64 ch]) el.length ⟨_,0,0,_,rfl,rfl,hm,aa,ak,al,am,an,ad,ao,ap,aq,ar,hb3,ab,dj,au,av,aw,ax,ac,ah,rfl⟩ ?_;clear hm;intro n f be hI;obtain ⟨a5,ch,em,en,hn,hl,hm,aa,ak,al,am,an,ad,ao,ap,aq,ar,hb3,ab,dj,au,av,aw,ax,ac,ah,hs⟩:=hI;subst hn;refine .lL [41,13] hs ?_
  cases en with
  | nil=>
   have hk:¬ ((em:Int)<(el.length:Int)):=by have:=List.drop_eq_nil_iff.1 hl;omega
   have hkb:=decide_eq_false hk;rw [Zb1.eq_1] at hm;refine go ?_;refine Yv (congrArg Value.bool hkb)<|go ?_;refine X8 ⟨_,_,rfl⟩ ?_;refine lV (.agg #[.bool dq,.slice c4 ca.length c5,.slice c6 cb.length c7]) (Xt isAgg35 sizeOf35 rfl rfl ((ad.atN).part 3 3 _ rfl))<|X8 ⟨_,_,rfl⟩ ?_;refine lV (.agg #[.bool c3,.slice cq b4.length cr,.slice ct b5.length cu]) (Xt isAgg35 sizeOf35 rfl rfl ((ad.atN).part 0 3 _ rfl)) ?_;obtain ⟨cv,hd,hm⟩:=bZ hm;refine Zi (Znq 13 14 hd am an ak al) ?_;rintro _ j3 ⟨he,ff,fg,fh,fi,rfl,bm,bf,bg⟩;refine ⟨_,rfl,?_⟩;refine Xl (col:=he) #[.bool false,.slice none (([]:List Int).length) 0,.slice none (([]:List Int).length) 0] 15 zeroValue35 ?_;intro hf j4 hg bh hh;refine Z2 hh ?_;intro j5 bi hi ba;refine go ?_;refine X8 ⟨_,_,rfl⟩ ?_;replace ad:=((ad.gr bm).gr bh).kp bi;refine lV (.agg #[.bool c3,.slice cq b4.length cr,.slice ct b5.length cu]) (Xt isAgg35 sizeOf35 rfl rfl ((ad.atN).part 0 3 _ rfl))<|Xl (col:=hg) #[.bool false,.slice none (([]:List Int).length) 0,.slice none (([]:List Int).length) 0] 16 zeroValue35 ?_;intro hj j6 j7 bb ho;refine Z2 ho ?_;intro j8 bc hp bd;refine go ?_;refine X8 ⟨_,_,rfl⟩ ?_;replace ab:=((((ab.gr bm).gr bh).kp bi).gr bb).kp bc;refine lW ((ab.atN).nth (q:=2) rfl)<|Yn rfl ?_;obtain ⟨hq,fj,hm⟩:=bZ hm;replace aa:=((((aa.grow bm).grow bh).kp bi hi).grow bb).kp bc hp;refine lI fj ((c2.ks aa).addr fj) ?_;obtain ⟨_,hr,ht⟩:=(c2.ks aa).atN fj;obtain ⟨⟨j9,ka,rfl,kb⟩,_⟩:=hr;refine lW ht.one<|go ?_;replace ak:=((((ak.gr bm).gr bh).kp bi).gr bb).kp bc;replace al:=((((al.gr bm).gr bh).kp bi).gr bb).kp bc;replace am:=((((am.gr bm).gr bh).kp bi).gr bb).kp bc;replace an:=((((an.gr bm).gr bh).kp bi).gr bb).kp bc;replace ao:=((((ao.gr bm).gr bh).kp bi).gr bb).kp bc;replace ap:=((((ap.gr bm).gr bh).kp bi).gr bb).kp bc;replace aq:=((((aq.gr bm).gr bh).kp bi).gr bb).kp bc;replace ar:=((((ar.gr bm).gr bh).kp bi).gr bb).kp bc;replace au:=((((au.gr bm).gr bh).kp bi).gr bb).kp bc;replace av:=((((av.gr bm).gr bh).kp bi).gr bb).kp bc;replace aw:=((((aw.gr bm).gr bh).kp bi).gr bb).kp bc
   replace ax:=((((ax.gr bm).gr bh).kp bi).gr bb).kp bc;replace ah:=((((ah.gr bm).gr bh).kp bi).gr bb).kp bc;replace hb3:=((((hb3.gr bm).gr bh).kp bi).gr bb).kp bc;replace ac:=((((ac.gr bm).gr bh).kp bi).gr bb).kp bc;replace bf:=(((bf.gr bh).kp bi).gr bb).kp bc;replace bg:=(((bg.gr bh).kp bi).gr bb).kp bc;replace ad:=(ad.gr bb).kp bc;replace ba:=(ba.gr bb).kp bc
   refine Xe [10,12,13,16,17,2,29,3,30,31,7,71,9,1000000] (fun n f af=>∃ ae ci d4 d5 cj d6 d7 ck eu ew eo d8 eb,eb=n∧Zdh N ag c8 b6 b7 dd b8 b9 dr cc cd dw ce cf cg (Qg N ag fd) di ch cv hq eb ci cj ck eo d8=some r∧St w0 (Zk col) ae af∧Sl (Za.int .u32) ae af cq cr b4∧Sl (Za.int .u32) ae af ct cu b5∧Sl (Za.int .u32) ae af c4 c5 ca∧Sl (Za.int .u32) ae af c6 c7 cb∧Zo 55 8 ae af fb #[.bool c3,.slice cq b4.length cr,.slice ct b5.length cu,.bool dq,.slice c4 ca.length c5,.slice c6 cb.length c7]∧Zc (Za.int .u32) 77 13 ae af ff fg cv.1.2∧Zc (Za.int .u32) 77 14 ae af fh fi cv.2∧Zo 35 15 ae af hf #[.bool cv.1.1,.slice ff cv.1.2.length fg,.slice fh cv.2.length fi]∧Sl (Za.int .u32) ae af d4 d5 cj∧Sl (Za.int .u32) ae af d6 d7 ck∧Zo 35 16 ae af hj #[.bool ci,.slice d4 cj.length d5,.slice d6 ck.length d7]∧Zc (Za.pair (Za.pair (Za.pair Za.bool (Za.slice (Za.int .u32))) (Za.slice (Za.int .u32))) (Za.pair (Za.pair Za.bool (Za.slice (Za.int .u32))) (Za.slice (Za.int .u32)))) 55 17 ae af eu ew eo∧Sl (Za.int .u32) ae af c9 da b6∧Sl (Za.int .u32) ae af db dc b7∧Sl (Za.int .u32) ae af de df b8∧Sl (Za.int .u32) ae af dg dh b9∧Zo 55 999 ae af g3 #[.bool c8,.slice c9 b6.length da,.slice db b7.length dc,.bool dd,.slice de b8.length df,.slice dg b9.length dh]∧Zo 27 1 ae af eh #[.string ag.1,.slice ef ag.2.1.length ed,.slice cz ag.2.2.1.length dl,.slice eg ag.2.2.2.1.length ee,.slice c0 ag.2.2.2.2.length dm]∧Zc (Za.int .u32) 77 9 ae af ds dt cc∧Zc (Za.int .u32) 77 10 ae af du dv cd∧Zc (Za.int .u32) 77 11 ae af dx dy ce∧Zc (Za.int .u32) 77 12 ae af dz d0 cf∧Zo 55 2 ae af e7 #[.bool dr,.slice ds cc.length dt,.slice du cd.length dv,.bool dw,.slice dx ce.length dy,.slice dz cf.length d0]∧Zc (Za.int .i64) 3 3 ae af d1 d2 cg∧[18,72].map f=[.slice eu eo.length ew,.int .i64 d8]) N ⟨_,_,_,_,_,_,_,_,none,0,_,0,_,rfl,hm,aa,ak,al,am,an,ad,bf,bg,ba,ak,al,bd,Zc.nil,ao,ap,aq,ar,hb3,ab,au,av,aw,ax,ac,ah,rfl⟩ ?_
   clear hm;intro n f af hI;obtain ⟨ae,ci,d4,d5,cj,d6,d7,ck,eu,ew,eo,d8,eb,hn,hm,aa,ak,al,am,an,ad,bf,bg,ba,bs,bt,bd,bj,ao,ap,aq,ar,hb3,ab,au,av,aw,ax,ac,ah,hs⟩:=hI;subst hn;refine .lL [18,72] hs ?_
   cases eb with
   | zero=>rw [Zdh.eq_1] at hm;cases hm
   | succ eb=>
    rw [Zdh.eq_2] at hm;refine go ?_;refine Zs hm (fun hb hm=>go ?_) fun hb hm=>go ?_
    ·have a6:=Zz.clip (fun _=>false) ae af;refine Zeq (col:=ae) [(0,0),(1,0),(2,1),(3,0),(4,1),(5,1),(6,0),(7,1),(8,1),(9,0),(10,1),(11,1),(12,0),(13,1),(14,1),(15,1),(16,1),(17,1),(18,0),(19,3),(20,3),(21,4),(22,2)] (by kernel_rfl) (by kernel_rfl) ⟨fun h=>absurd h (by decide),fun h=>absurd h (by decide),fun h=>absurd h (by decide),fun h=>absurd h (by decide),fun h=>absurd h (by decide),fun h=>absurd h (by decide),fun h=>absurd h (by decide),fun h=>absurd h (by decide),fun h=>absurd h (by decide),fun h=>absurd h (by decide),fun h=>absurd h (by decide),fun h=>absurd h (by decide),fun h=>absurd h (by decide),fun h=>absurd h (by decide),fun h=>absurd h (by decide),fun h=>absurd h (by decide),fun h=>absurd h (by decide),fun h=>absurd h (by decide),fun h=>absurd h (by decide),fun h=>absurd h (by decide),fun h=>absurd h (by decide),fun _=>⟨_,_,_,rfl,Uu zeroValue35⟩,fun h=>absurd h (by decide),trivial⟩ ?_;replace bd:=bd.kpp a6;refine Wn (v:=(.agg #[.bool ci,.slice d4 cj.length d5,.slice d6 ck.length d7])) rfl rfl (fun _ hC=>Xt isAgg35 sizeOf35 rfl rfl (bd.atN.gr (hC.bl (Zf af ae)))) ?_;replace ba:=ba.kpp a6;refine Wn (v:=(.agg #[.bool cv.1.1,.slice ff cv.1.2.length fg,.slice fh cv.2.length fi])) rfl rfl (fun _ hC=>Xt isAgg35 sizeOf35 rfl rfl (ba.atN.gr (hC.bl (Zf af ae)))) ?_;refine X9 (v:=(.pointer ((some (⟨eh,0,none⟩:Addr)).map (·.add 4)))) rfl rfl (fun _=>Sj (sz:=1) (off:=4) underlying27 rfl sizeOf25 (by decide) rfl rfl ⟨_,_,rfl⟩) ?_;replace ab:=ab.kpp a6;refine Wn (v:=(.slice c0 ag.2.2.2.2.length dm)) rfl rfl (fun _ hC=>Sk isAgg25 rfl (((ab.atN).nth (q:=4) (v:=(.slice c0 ag.2.2.2.2.length dm)) rfl).gr (hC.bl (Zf af ae)))) ?_;refine X9 (v:=(.int .i64 di)) rfl rfl (fun _=>Wm rfl) ?_;obtain ⟨hu,ey,hm⟩:=bZ hm;replace aa:=aa.kpp a6;refine X9 (v:=(X0 c0 (Int.toNat di * 1))) rfl rfl (fun _=>We underlying25 sizeOf71 rfl rfl (Xk ey).1 (Xk ey).2.1 ((es.ks aa).addr ey)) ?_;obtain ⟨_,hv,hw⟩:=(es.ks aa).atN ey;obtain ⟨⟨gg,hx,rfl,gh⟩,_⟩:=hv;refine Wn (v:=(.slice gg hu.length hx)) rfl rfl (fun _ hC=>Sk isAgg71 rfl (hw.one.gr (hC.bl (Zf af ae)))) ?_;refine X9 (v:=(.int .i64 ch)) rfl rfl (fun _=>Wm rfl) ?_;refine X9 (v:=(.pointer ((some (⟨eh,0,none⟩:Addr)).map (·.add 2)))) rfl rfl (fun _=>Sj (sz:=1) (off:=2) underlying27 rfl sizeOf23 (by decide) rfl rfl ⟨_,_,rfl⟩) ?_
     refine Wn (v:=(.slice cz ag.2.2.1.length dl)) rfl rfl (fun _ hC=>Sk isAgg23 rfl (((ab.atN).nth (q:=2) (v:=(.slice cz ag.2.2.1.length dl)) rfl).gr (hC.bl (Zf af ae)))) ?_;refine X9 (v:=(.int .i64 di)) rfl rfl (fun _=>Wm rfl) ?_;obtain ⟨d9,ez,hm⟩:=bZ hm;refine X9 (v:=(X0 cz (Int.toNat di * 1))) rfl rfl (fun _=>We underlying23 sizeOf22 rfl rfl (Xk ez).1 (Xk ez).2.1 ((c2.ks aa).addr ez)) ?_;obtain ⟨_,hy,hz⟩:=(c2.ks aa).atN ez;obtain ⟨⟨h0,h2,rfl,kc⟩,_⟩:=hy;refine Wn (v:=(.slice h0 d9.length h2)) rfl rfl (fun _ hC=>Sk isAgg22 rfl (hz.one.gr (hC.bl (Zf af ae)))) ?_;refine X9 (v:=(.int .i64 d9.length)) rfl rfl (fun _=>Zc0 underlying22 rfl) ?_;refine X9 (v:=(.int .i64 (i64.wrap (ch * (d9.length:Int))))) rfl rfl (fun _=>Zel ch (d9.length:Int) rfl rfl) ?_;refine X9 (v:=(.int .i64 d8)) rfl rfl (fun _=>Wm rfl) ?_;refine X9 (v:=(.int .i64 (i64.wrap ((i64.wrap (ch * (d9.length:Int)))+d8)))) rfl rfl (fun _=>S8 (i64.wrap (ch * (d9.length:Int))) d8 rfl rfl) ?_;obtain ⟨fk,e0,hm⟩:=bZ hm;refine X9 (v:=(X0 gg (Int.toNat (i64.wrap ((i64.wrap (ch * (d9.length:Int)))+d8)) * 3))) rfl rfl (fun _=>We underlying71 sizeOf35 rfl rfl (Xk e0).1 (Xk e0).2.1 (gh.addr e0)) ?_;obtain ⟨_,h3,h4⟩:=gh.atN e0;obtain ⟨_,_,rfl,h5,h6⟩:=Vu h3;obtain ⟨_,_,rfl,h7,h8⟩:=Vu h5;obtain ⟨rfl,_⟩:=h7;obtain ⟨⟨h9,ia,rfl,fl⟩,_⟩:=h8;obtain ⟨⟨ib,ic,rfl,fm⟩,_⟩:=h6;refine Wn (v:=(.agg #[.bool fk.1.1,.slice h9 fk.1.2.length ia,.slice ib fk.2.length ic])) rfl rfl (fun _ hC=>Xt isAgg35 sizeOf35 rfl rfl (h4.gr (hC.bl (Zf af ae)))) ?_;refine Ww rfl rfl ?_;intro id hC0;have hC:=hC0.bl (Zf af ae);obtain ⟨kd,ie,hm⟩:=bZ hm;replace bf:=(bf.kpp a6).gr hC;replace bg:=(bg.kpp a6).gr hC;replace fl:=fl.gr hC;replace fm:=fm.gr hC;refine Zi (Zex 18 19 ie ((bf.toSlF (Zh.int .u32)).froz 14) ((bg.froz 13 (by decide)).toSlF (Zh.int .u32)) ((fl.froz 13).froz 14) ((fm.froz 13).froz 14)) ?_;rintro _ cl ⟨ig,ke,kf,kg,kh,rfl,ai,ep,eq⟩;refine ⟨_,rfl,?_⟩;replace ep:=ep.thaw (Z0 .u32) ai (((Fz.refl (col:=(Zf af ae))).froz 13).froz 14) (by decide)
     replace eq:=eq.thaw (Z0 .u32) ai (((Fz.refl (col:=(Zf af ae))).froz 13).froz 14) (by decide);replace ai:=ai.thawR (col:=(Zf af ae));generalize Xa id.heap.size (Zf af ae) ig=cw at *;refine Zm ?_;refine ⟨fun w'=>Zg (Zf cl cw) cl (Zf cl cw) w',fun g=>(Zf cl cw) g=497,Zg.refl _ _,Wk,fun _=>⟨fun _ h=>Vw hC0 ai h,fun b hb=>ai.below.block b hb,fun g x1 x2=>V3 ai g x1 (by first | exact x2 | (simp only [Xr,x2];rfl) | (simp only [Xr,Xf,x2];rfl))⟩,?_⟩;have az:=Zz.clip (fun _=>false) cw cl;refine Ww rfl rfl ?_;intro ih hC0;replace ak:=(((ak.kpp a6).gr hC).gr ai).kpp az;replace al:=(((al.kpp a6).gr hC).gr ai).kpp az;replace am:=(((am.kpp a6).gr hC).gr ai).kpp az;replace an:=(((an.kpp a6).gr hC).gr ai).kpp az;replace bs:=(((bs.kpp a6).gr hC).gr ai).kpp az;replace bt:=(((bt.kpp a6).gr hC).gr ai).kpp az;replace bj:=(((bj.kpp a6).gr hC).gr ai).kpp az;replace ao:=(((ao.kpp a6).gr hC).gr ai).kpp az;replace ap:=(((ap.kpp a6).gr hC).gr ai).kpp az;replace aq:=(((aq.kpp a6).gr hC).gr ai).kpp az;replace ar:=(((ar.kpp a6).gr hC).gr ai).kpp az;replace au:=(((au.kpp a6).gr hC).gr ai).kpp az;replace av:=(((av.kpp a6).gr hC).gr ai).kpp az;replace aw:=(((aw.kpp a6).gr hC).gr ai).kpp az;replace ax:=(((ax.kpp a6).gr hC).gr ai).kpp az;replace ah:=(((ah.kpp a6).gr hC).gr ai).kpp az;replace ad:=(((ad.kpp a6).gr hC).gr ai).kpp az;replace hb3:=(((hb3.kpp a6).gr hC).gr ai).kpp az;replace ac:=(((ac.kpp a6).gr hC).gr ai).kpp az;replace ba:=((ba.gr hC).gr ai).kpp az;replace bd:=((bd.gr hC).gr ai).kpp az;replace ab:=((ab.gr hC).gr ai).kpp az;replace aa:=((aa.grow hC).grow ai).kpp az;have hC:=hC0.bl (Zf cl cw);obtain ⟨bq,ii,hm⟩:=bZ hm;replace ep:=(ep.kpp az).gr hC;replace eq:=(eq.kpp az).gr hC;replace bs:=bs.gr hC;replace bt:=bt.gr hC;refine Zi (Zev 20 21 ii ((bs.froz 18).froz 19) ((bt.froz 18).froz 19) ((ep.toSlF (Zh.int .u32)).froz 19) ((eq.froz 18 (by decide)).toSlF (Zh.int .u32))) ?_;rintro _ br ⟨ij,fn,fp,fq,fr,rfl,aj,bu,bv⟩;refine ⟨_,rfl,?_⟩;replace bu:=bu.thaw (Z0 .u32) aj (((Fz.refl (col:=(Zf cl cw))).froz 18).froz 19) (by decide)
     replace bv:=bv.thaw (Z0 .u32) aj (((Fz.refl (col:=(Zf cl cw))).froz 18).froz 19) (by decide);replace aj:=aj.thawR (col:=(Zf cl cw));generalize Xa ih.heap.size (Zf cl cw) ij=bw at *;refine Zm ?_;refine ⟨fun w'=>Zg (Zf br bw) br (Zf br bw) w',fun g=>(Zf br bw) g=497,Zg.refl _ _,Wk,fun _=>⟨fun _ h=>Vw hC0 aj h,fun b hb=>aj.below.block b hb,fun g x1 x2=>V3 aj g x1 (by first | exact x2 | (simp only [Xr,x2];rfl) | (simp only [Xr,Xf,x2];rfl))⟩,?_⟩;have a0:=Zz.clip (fun _=>false) bw br;refine Zc6 rfl rfl (Uu zeroValue35) ?_;intro cx ik;refine Ww rfl rfl ?_;intro il ⟨hC0,hZ0⟩;replace bf:=((((bf.gr ai).kpp az).gr hC).gr aj).kpp a0;replace bg:=((((bg.gr ai).kpp az).gr hC).gr aj).kpp a0;replace ak:=((ak.gr hC).gr aj).kpp a0;replace al:=((al.gr hC).gr aj).kpp a0;replace am:=((am.gr hC).gr aj).kpp a0;replace an:=((an.gr hC).gr aj).kpp a0;replace bj:=((bj.gr hC).gr aj).kpp a0;replace ao:=((ao.gr hC).gr aj).kpp a0;replace ap:=((ap.gr hC).gr aj).kpp a0;replace aq:=((aq.gr hC).gr aj).kpp a0;replace ar:=((ar.gr hC).gr aj).kpp a0;replace au:=((au.gr hC).gr aj).kpp a0;replace av:=((av.gr hC).gr aj).kpp a0;replace aw:=((aw.gr hC).gr aj).kpp a0;replace ax:=((ax.gr hC).gr aj).kpp a0;replace ah:=((ah.gr hC).gr aj).kpp a0;replace ad:=((ad.gr hC).gr aj).kpp a0;replace ba:=((ba.gr hC).gr aj).kpp a0;replace bd:=((bd.gr hC).gr aj).kpp a0;replace hb3:=((hb3.gr hC).gr aj).kpp a0;replace ab:=((ab.gr hC).gr aj).kpp a0;replace ac:=((ac.gr hC).gr aj).kpp a0;replace aa:=((aa.grow hC).grow aj).kpp a0;have hC:=hC0.bl (Zf br bw);obtain ⟨a2,ft⟩:=Zbu (col:=(Zf br bw)) 22 hZ0 ik;replace ft:Zo 35 22 (Z3 cx 22 (Zf br bw)) il cx #[.bool false,.slice none (([]:List Int).length) 0,.slice none (([]:List Int).length) 0]:=ft;refine Z2 ft ?_;intro cy a3 im cn;refine Zm ?_;refine ⟨fun w'=>Zg (Zf cy (Z3 cx 22 (Zf br bw))) cy (Zf cy (Z3 cx 22 (Zf br bw))) w',fun g=>(Zf cy (Z3 cx 22 (Zf br bw))) g=497,Zg.refl _ _,Wk,fun h=>absurd h (by decide),?_⟩;have ay:=Zz.clip (fun _=>false) (Z3 cx 22 (Zf br bw)) cy;refine Zer ?_;replace bs:=(((((bs.gr aj).kpp a0).gr hC).kpp a2).kp a3).kpp ay
     replace bt:=(((((bt.gr aj).kpp a0).gr hC).kpp a2).kp a3).kpp ay;replace bu:=((((bu.kpp a0).gr hC).kpp a2).kp a3).kpp ay;replace bv:=((((bv.kpp a0).gr hC).kpp a2).kp a3).kpp ay;replace ak:=(((ak.gr hC).kpp a2).kp a3).kpp ay;replace al:=(((al.gr hC).kpp a2).kp a3).kpp ay;replace am:=(((am.gr hC).kpp a2).kp a3).kpp ay;replace an:=(((an.gr hC).kpp a2).kp a3).kpp ay;replace bf:=(((bf.gr hC).kpp a2).kp a3).kpp ay;replace bg:=(((bg.gr hC).kpp a2).kp a3).kpp ay;replace bj:=(((bj.gr hC).kpp a2).kp a3).kpp ay;replace ao:=(((ao.gr hC).kpp a2).kp a3).kpp ay;replace ap:=(((ap.gr hC).kpp a2).kp a3).kpp ay;replace aq:=(((aq.gr hC).kpp a2).kp a3).kpp ay;replace ar:=(((ar.gr hC).kpp a2).kp a3).kpp ay;replace au:=(((au.gr hC).kpp a2).kp a3).kpp ay;replace av:=(((av.gr hC).kpp a2).kp a3).kpp ay;replace aw:=(((aw.gr hC).kpp a2).kp a3).kpp ay;replace ax:=(((ax.gr hC).kpp a2).kp a3).kpp ay;replace ah:=(((ah.gr hC).kpp a2).kp a3).kpp ay;replace ad:=(((ad.gr hC).kpp a2).kp a3).kpp ay;replace ba:=(((ba.gr hC).kpp a2).kp a3).kpp ay;replace bd:=(((bd.gr hC).kpp a2).kp a3).kpp ay;replace hb3:=(((hb3.gr hC).kpp a2).kp a3).kpp ay;replace ab:=(((ab.gr hC).kpp a2).kp a3).kpp ay;replace ac:=(((ac.gr hC).kpp a2).kp a3).kpp ay;replace aa:=(((aa.grow hC).kpp a2).kp a3 im).kpp ay;intro io hC;replace hC:Zg (Zf cy (Z3 cx 22 (Zf br bw))) cy (Zf cy (Z3 cx 22 (Zf br bw))) io:=.of_below hC.below;refine go ?_;replace bd:=bd.gr hC;refine lV _ (Xj isAgg35 sizeOf35 bd) ?_;replace cn:=(cn.kpp ay).gr hC;refine lV _ (Xj isAgg35 sizeOf35 cn)<|lV (.agg #[.bool ci,.slice d4 cj.length d5,.slice d6 ck.length d7,.bool bq.1.1,.slice fn bq.1.2.length fp,.slice fq bq.2.length fr]) (Yk (l:=[_,_]) (qs:=[(0,3),(3,3)]) underlying55 zeroValue55 ⟨rfl,sizeOf35,rfl,sizeOf35,trivial⟩ rfl) ?_;replace ak:=ak.gr hC;replace ak:=ak.froz 21;replace al:=al.gr hC;replace al:=al.froz 21;replace am:=am.gr hC;replace am:=am.froz 21;replace an:=an.gr hC;replace an:=an.froz 21;replace bf:=bf.gr hC;replace bf:=bf.froz 21 (by decide);replace bg:=bg.gr hC;replace bg:=bg.froz 21 (by decide);replace bs:=bs.gr hC;replace bs:=bs.froz 21;replace bt:=bt.gr hC;replace bt:=bt.froz 21
     replace ao:=ao.gr hC;replace ao:=ao.froz 21;replace ap:=ap.gr hC;replace ap:=ap.froz 21;replace aq:=aq.gr hC;replace aq:=aq.froz 21;replace ar:=ar.gr hC;replace ar:=ar.froz 21;replace au:=au.gr hC;replace au:=au.froz 21 (by decide);replace av:=av.gr hC;replace av:=av.froz 21 (by decide);replace aw:=aw.gr hC;replace aw:=aw.froz 21 (by decide);replace ax:=ax.gr hC;replace ax:=ax.froz 21 (by decide);replace ah:=ah.gr hC;replace ah:=ah.froz 21 (by decide);replace bu:=bu.gr hC;replace bu:=bu.froz 21 (by decide);replace bv:=bv.gr hC;replace bv:=(bv).toSlF (Zh.int .u32);replace bj:=bj.gr hC;replace bj:=bj.froz 21 (by decide);replace ad:=ad.gr hC;replace ad:=ad.froz 21 (by decide);replace ba:=ba.gr hC;replace ba:=ba.froz 21 (by decide);replace bd:=bd.froz 21 (by decide);replace hb3:=hb3.gr hC;replace hb3:=hb3.froz 21 (by decide);replace ab:=ab.gr hC;replace ab:=ab.froz 21 (by decide);replace ac:=ac.gr hC;replace ac:=ac.froz 21 (by decide);replace cn:=cn.froz 21 (by decide);replace aa:=aa.grow hC;replace aa:=aa.froz 21 (by decide) (by decide);replace ak:=ak.froz 20;replace al:=al.froz 20;replace am:=am.froz 20;replace an:=an.froz 20;replace bf:=bf.froz 20 (by decide);replace bg:=bg.froz 20 (by decide);replace bs:=bs.froz 20;replace bt:=bt.froz 20;replace ao:=ao.froz 20;replace ap:=ap.froz 20;replace aq:=aq.froz 20;replace ar:=ar.froz 20;replace au:=au.froz 20 (by decide);replace av:=av.froz 20 (by decide);replace aw:=aw.froz 20 (by decide);replace ax:=ax.froz 20 (by decide);replace ah:=ah.froz 20 (by decide);replace bu:=(bu).toSlF (Zh.int .u32);replace bv:=bv.froz 20;replace bj:=bj.froz 20 (by decide);replace ad:=ad.froz 20 (by decide);replace ba:=ba.froz 20 (by decide);replace bd:=bd.froz 20 (by decide);replace hb3:=hb3.froz 20 (by decide);replace ab:=ab.froz 20 (by decide);replace ac:=ac.froz 20 (by decide);replace cn:=cn.froz 20 (by decide);replace aa:=aa.froz 20 (by decide) (by decide)
     refine Zay (col:=(Xr 20 (Xr 21 (Zf cy (Z3 cx 22 (Zf br bw)))))) (r:=(Za.pair (Za.pair (Za.pair Za.bool (Za.slice (Za.int .u32))) (Za.slice (Za.int .u32))) (Za.pair (Za.pair Za.bool (Za.slice (Za.int .u32))) (Za.slice (Za.int .u32))))) (xs:=[(((ci,cj),ck),((bq.1.1,bq.1.2),bq.2))]) [(.agg #[.bool ci,.slice d4 cj.length d5,.slice d6 ck.length d7,.bool bq.1.1,.slice fn bq.1.2.length fp,.slice fq bq.2.length fr])] 23 (Wd.ofF (Rows.consF (r:=(Za.pair (Za.pair (Za.pair Za.bool (Za.slice (Za.int .u32))) (Za.slice (Za.int .u32))) (Za.pair (Za.pair Za.bool (Za.slice (Za.int .u32))) (Za.slice (Za.int .u32))))) (x:=(((ci,cj),ck),((bq.1.1,bq.1.2),bq.2))) (cs:=[.bool ci,.slice d4 cj.length d5,.slice d6 ck.length d7,.bool bq.1.1,.slice fn bq.1.2.length fp,.slice fq bq.2.length fr]) (S9 (S9 (S9 (Qt ci) (Qv bs)) (Qv bt)) (S9 (S9 (Qt bq.1.1) (Qv bu)) (Qv bv))) Rows.nil0)) ?_;intro ki kj kk a4 ip;obtain ⟨iq,hm⟩:=Xc hm;replace bj:=bj.gr a4;refine T7 bj (ip.srcN (NB.pair (NB.pair (NB.pair NB.bool NB.slice) NB.slice) (NB.pair (NB.pair NB.bool NB.slice) NB.slice))) iq ?_;intro kl km kn ko a7 fu;refine go ?_;replace cn:=(cn.gr a4).kpp a7;refine lV _ (Xj isAgg35 sizeOf35 cn) ?_;replace bd:=(bd.gr a4).kpp a7;refine Z2 bd ?_;intro kq a9 ir it;refine go ?_;replace ak:=((ak.gr a4).kpp a7).kp a9;replace al:=((al.gr a4).kpp a7).kp a9;replace am:=((am.gr a4).kpp a7).kp a9;replace an:=((an.gr a4).kpp a7).kp a9;replace bf:=((bf.gr a4).kpp a7).kp a9;replace bg:=((bg.gr a4).kpp a7).kp a9;replace ao:=((ao.gr a4).kpp a7).kp a9;replace ap:=((ap.gr a4).kpp a7).kp a9;replace aq:=((aq.gr a4).kpp a7).kp a9;replace ar:=((ar.gr a4).kpp a7).kp a9;replace au:=((au.gr a4).kpp a7).kp a9;replace av:=((av.gr a4).kpp a7).kp a9;replace aw:=((aw.gr a4).kpp a7).kp a9;replace ax:=((ax.gr a4).kpp a7).kp a9;replace ah:=((ah.gr a4).kpp a7).kp a9;replace bu:=((bu.gr a4).kpp a7).kp a9;replace bv:=((bv.gr a4).kpp a7).kp a9;replace ad:=((ad.gr a4).kpp a7).kp a9;replace ba:=((ba.gr a4).kpp a7).kp a9;replace hb3:=((hb3.gr a4).kpp a7).kp a9;replace ab:=((ab.gr a4).kpp a7).kp a9
     replace ac:=((ac.gr a4).kpp a7).kp a9;replace aa:=((aa.grow a4).kpp a7).kp a9 ir;replace fu:=fu.kp a9;exact ⟨eb,by omega,rfl,⟨_,_,_,_,_,_,_,_,_,_,_,_,_,rfl,hm,aa,ak,al,am,an,ad,bf,bg,ba,bu,bv,it,fu,ao,ap,aq,ar,hb3,ab,au,av,aw,ax,ac,ah,rfl⟩⟩
    refine lM (.func (.func 104) #[] #[.pointer (some ⟨g3,0,none⟩)])<|go ?_;obtain ⟨fv,iu,hm⟩:=bZ hm;refine lc rfl rfl (Zwh call104 rfl rfl rfl) (Zzd N (Xr 17 ae) _ 999 (by decide) di eu ew eo g3 (((c8,b6),b7),((dd,b8),b9)) c9 da db dc de df dg dh (bj.toSlF (Zh.pair (Zh.pair (Zh.pair Zh.bool Zh.slice) Zh.slice) (Zh.pair (Zh.pair Zh.bool Zh.slice) Zh.slice))) (ao.froz 17) (ap.froz 17) (aq.froz 17) (ar.froz 17) (hb3.froz 17 (by decide)) fv iu) ?_;rintro _ iv ⟨rfl,bn⟩;refine ⟨_,rfl,?_⟩;replace bn:Zg ae af ae iv:=.of_below bn;refine go ?_;replace bj:=bj.gr bn;replace ao:=ao.gr bn;replace ap:=ap.gr bn;replace aq:=aq.gr bn;replace ar:=ar.gr bn;replace au:=au.gr bn;replace av:=av.gr bn;replace aw:=aw.gr bn;replace ax:=ax.gr bn;replace ah:=ah.gr bn;replace ad:=ad.gr bn;replace hb3:=hb3.gr bn;replace ab:=ab.gr bn;replace ac:=ac.gr bn;replace aa:=aa.grow bn;refine Zs hm (fun hb hm=>go ?_) fun hb hm=>go ?_
    ·refine lV (.agg #[.bool false,.slice none (([]:List Int).length) 0,.slice none (([]:List Int).length) 0,.bool false,.slice none (([]:List Int).length) 0,.slice none (([]:List Int).length) 0]) (Yk (l:=[_,_]) (qs:=[(0,3),(3,3)]) underlying55 zeroValue55 ⟨rfl,sizeOf35,rfl,sizeOf35,trivial⟩ rfl)<|Sv rfl<|Z2 ac ?_;intro kr iw ix iy;refine go ?_;cases hm;replace aa:=aa.kp iw ix;exact ⟨rfl,_,Zmy rfl rfl rfl rfl isAgg55 sizeOf55 rfl rfl iy.atN rfl rfl,_,none,0,none,0,none,0,none,0,none,0,rfl,aa.fin (cm []),Zc.nil,Sl.nil,Sl.nil,Sl.nil,Sl.nil⟩
    obtain ⟨ec,fw,hm⟩:=bZ hm;refine lI fw (bj.addr fw) ?_;obtain ⟨_,iz,i0⟩:=bj.atN fw;obtain ⟨_,_,rfl,i1,i2⟩:=iz.parts;obtain ⟨_,_,rfl,i3,i4⟩:=i1.parts;obtain ⟨_,_,rfl,i5,i6⟩:=i3.parts;obtain rfl:=i5.bool;obtain ⟨i7,i8,rfl,fx⟩:=i6.slice;obtain ⟨i9,ja,rfl,fy⟩:=i4.slice;obtain ⟨_,_,rfl,jb,jc⟩:=i2.parts;obtain ⟨_,_,rfl,jd,je⟩:=jb.parts;obtain rfl:=jd.bool;obtain ⟨jf,jg,rfl,fz⟩:=je.slice;obtain ⟨jh,ji,rfl,f0⟩:=jc.slice;refine lV (.agg #[.bool ec.1.1.1,.slice i7 ec.1.1.2.length i8,.slice i9 ec.1.2.length ja,.bool ec.2.1.1,.slice jf ec.2.1.2.length jg,.slice jh ec.2.2.length ji]) (Xt isAgg55 sizeOf55 rfl rfl i0) ?_;obtain ⟨kt,f1,hm⟩:=bZ hm;refine lI f1 (ah.addr f1) ?_;obtain ⟨f2,e1,hm⟩:=bZ hm;have e1:f2=cg.set (Int.toNat di) fv:=(Option.some.inj e1).symm;refine Y4 (x1:=fv) ah f1 ?_;intro ku bo jj e2;rw [← e1] at e2;refine .ld (d:=9) (v:=(.slice d1 f2.length d2)) (congrArg (fun n=>Value.slice d1 n d2) (show cg.length=f2.length by rw [e1,List.length_set])) ?_;replace ad:=ad.kp bo;refine Z2 ad ?_;intro kv bp jk jl;refine go ?_;replace ao:=(ao.kp bo).kp bp;replace ap:=(ap.kp bo).kp bp;replace aq:=(aq.kp bo).kp bp;replace ar:=(ar.kp bo).kp bp;replace au:=(au.kp bo).kp bp;replace av:=(av.kp bo).kp bp;replace aw:=(aw.kp bo).kp bp;replace ax:=(ax.kp bo).kp bp;replace fx:=(fx.kp bo).kp bp;replace fy:=(fy.kp bo).kp bp;replace fz:=(fz.kp bo).kp bp;replace f0:=(f0.kp bo).kp bp;replace hb3:=(hb3.kp bo).kp bp;replace ab:=(ab.kp bo).kp bp;replace ac:=(ac.kp bo).kp bp;replace aa:=(aa.kp bo jj).kp bp jk;replace e2:=e2.kp bp;exact ⟨fd.length,by simp,rfl,⟨_,_,_,_,_,_,_,_,_,_,_,_,_,_,_,_,_,_,_,_,_,_,_,_,_,_,_,_,_,_,_,_,_,_,_,_,_,_,_,_,_,_,_,_,_,_,_,_,rfl,g6,hm,aa,fx,fy,fz,f0,jl,ao,ap,aq,ar,hb3,ab,au,av,aw,ax,ac,e2,(Y7 (congrArg (Value.int .i64) (Y3 (Nat.lt_of_lt_of_le g7 (h1.ks aa).1.1))) rfl)⟩⟩
  | cons kw jm=>
   obtain ⟨d3,jn,jo⟩:=Y1 hl;have hk:(em:Int)<(el.length:Int):=by omega
   have hkb:=decide_eq_true hk;rw [Zb1.eq_2] at hm;refine go ?_;refine Yw (congrArg Value.bool hkb)<|go ?_;refine lI d3 (dj.addr d3)<|lW (dj.atInt d3) ?_;refine go ?_;refine Ur (col:=a5) (by kernel_rfl) (by kernel_rfl)<|go ?_;refine qF ⟨_,_,rfl⟩ ?_;refine qW (fun _ hC=>((ab.atN).nth (q:=2) rfl).gr (hC.bl a5)) ?_;refine go ?_;obtain ⟨kx,f3,hm⟩:=bZ hm;refine qI f3 ((c2.ks aa).addr f3) ?_;obtain ⟨_,jp,jq⟩:=(c2.ks aa).atN f3;obtain ⟨⟨ky,kz,rfl,k0⟩,_⟩:=jp;refine qW (fun _ hC=>jq.one.gr (hC.bl a5)) ?_;refine go ?_;obtain ⟨k1,f4,hm⟩:=bZ hm;refine qI f4 (ah.addr f4)<|qW (fun _ hC=>(ah.gr (hC.bl a5)).atInt f4) ?_;refine go ?_;refine Vn ?_;intro k2 hC;replace hC:=hC.bl a5;refine go ?_;replace ak:=ak.gr hC;replace al:=al.gr hC;replace am:=am.gr hC;replace an:=an.gr hC;replace ao:=ao.gr hC;replace ap:=ap.gr hC;replace aq:=aq.gr hC;replace ar:=ar.gr hC;replace dj:=dj.gr hC;replace au:=au.gr hC;replace av:=av.gr hC;replace aw:=aw.gr hC;replace ax:=ax.gr hC;replace ah:=ah.gr hC;replace ad:=ad.gr hC;replace hb3:=hb3.gr hC;replace ab:=ab.gr hC;replace ac:=ac.gr hC;replace aa:=aa.grow hC;exact ⟨jm.length,by simp,rfl,⟨_,_,_,_,rfl,jn,hm,aa,ak,al,am,an,ad,ao,ap,aq,ar,hb3,ab,dj,au,av,aw,ax,ac,ah,(Y7 (congrArg (Value.int .i64) (Y3 (Nat.lt_of_lt_of_le jo dj.1.1))) rfl)⟩⟩
section
variable (N:Nat) (n:Z8) (X V:QV×QV)
abbrev Zht:Int→List (QV×QV)→Option Int:=fun x P=>Zk0 N x P X
theorem Zsi (w:List Int) (kk:Bool→List Int→List Int→Bool→List Int→List Int→Bool→List Int→List Int→Bool→List Int→List Int→Bool→List Int→List Int→Bool→List Int→List Int→List Int→T0) (x row:Int) (d:QV) (e:List ByteArray):∀ (f:Nat) (a:QV) (ps:List (QV×QV)) (k:Int),
  Zdh N n X.1.1.1 X.1.1.2 X.1.2 X.2.1.1 X.2.1.2 X.2.2 V.1.1.1 V.1.1.2 V.1.2 V.2.1.1 V.2.1.2 V.2.2 w kk x row d e f a.1.1 a.1.2 a.2 ps k=
   Ze5 N n (Zht N X) w (fun a b xs=>kk a.1.1 a.1.2 a.2 b.1.1 b.1.2 b.2 X.1.1.1 X.1.1.2 X.1.2 X.2.1.1 X.2.1.2 X.2.2 V.1.1.1 V.1.1.2 V.1.2 V.2.1.1 V.2.1.2 V.2.2 xs) x row d e f a ps k
 | 0,a,ps,k=>rfl
 | f+1,a,ps,k=>by
  have ih:=Zsi w kk x row d e f
  rw [Zdh.eq_2,Ze5]
  simp only [ih]
theorem Zsh (s:QV×QV) (w:List Int) (kk:Bool→List Int→List Int→Bool→List Int→List Int→Bool→List Int→List Int→Bool→List Int→List Int→Bool→List Int→List Int→Bool→List Int→List Int→List Int→T0) (x:Int):∀ (ps:List Int) (row:Int),
  Zb1 N n s.1.1.1 s.1.1.2 s.1.2 s.2.1.1 s.2.1.2 s.2.2 X.1.1.1 X.1.1.2 X.1.2 X.2.1.1 X.2.1.2 X.2.2 V.1.1.1 V.1.1.2 V.1.2 V.2.1.1 V.2.1.2 V.2.2 w kk x ps row=
   Zax N n (Zht N X) s w (fun a b xs=>kk a.1.1 a.1.2 a.2 b.1.1 b.1.2 b.2 X.1.1.1 X.1.1.2 X.1.2 X.2.1.1 X.2.1.2 X.2.2 V.1.1.1 V.1.1.2 V.1.2 V.2.1.1 V.2.1.2 V.2.2 xs) x ps row
 | [],row=>by
  rw [Zb1.eq_1,Zax]
  simp only [Zsi]
 | p :: ps,row=>by
  rw [Zb1.eq_2,Zax]
  simp only [Zsh s w kk x ps]
theorem Zsg:∀ (l:List Int) (a b:QV) (w:List Int),
  Qg N n l a.1.1 a.1.2 a.2 b.1.1 b.1.2 b.2 X.1.1.1 X.1.1.2 X.1.2 X.2.1.1 X.2.1.2 X.2.2 V.1.1.1 V.1.1.2 V.1.2 V.2.1.1 V.2.1.2 V.2.2 w=Zbz N n (Zht N X) l a b w
 | [],a,b,w=>rfl
 | x :: l,a,b,w=>by
  rw [Qg.eq_2,Zbz]
  have e:(fun a b xs=>Qg N n l a.1.1 a.1.2 a.2 b.1.1 b.1.2 b.2 X.1.1.1 X.1.1.2 X.1.2 X.2.1.1 X.2.1.2 X.2.2 V.1.1.1 V.1.1.2 V.1.2 V.2.1.1 V.2.1.2 V.2.2 xs)=Zbz N n (Zht N X) l:=by
   funext a b xs
   exact Zsg l a b xs
  have h:=fun ps=>Zsh N n X V (a,b) w (Qg N n l) x ps 0
  rw [e] at h
  simp only [h]
end
def Ze8 (x:Rat×Rat) (p:Rat×Rat):Bool:=decide (p.1≤x.1)&&decide (x.2≤p.2)&&decide (p.1<p.2)
theorem Ze9 {x p:Rat×Rat}:Ze8 x p=true↔p.1≤x.1∧x.2≤p.2∧p.1<p.2:=by simp [Ze8,and_assoc]
theorem Zys {x:Rat×Rat} (h:x.1<x.2):Znd x (Ze8 x):=by
 refine ⟨fun p hp=>?_,fun p _ _ q hq=>?_⟩
 ·rw [Bool.eq_iff_iff,Ze9,Q4]
  exact ⟨fun g=>⟨g.1,Std.lt_of_lt_of_le h g.2.1,g.2.1⟩,fun g=>⟨g.1,g.2.2,Std.lt_of_le_of_lt g.1 g.2.1⟩⟩
 ·rw [Bool.eq_false_iff]
  intro g
  exact absurd (Ze9.1 g).1 (Rat.not_le.2 hq)
section
variable {N K:Nat} (hr:Z4 N (8 * K+40)) {x:Rat×Rat} {X:QV×QV} (q1:RV K X.1) (q2:RV K X.2) (v1:Zt X.1=x.1) (v2:Zt X.2=x.2)
include hr q1 q2 v1 v2
theorem Zr1:∀ (P:List (Rat×Rat)) (k:Nat),(∀ p ∈ P,qs p.1≤K∧qs p.2≤K)→Qi N X (P.map Ys) k=some (T6 (Ze8 x) P k)
 | [],k,_=>rfl
 | p :: P,k,h=>by
  have hp:=h p List.mem_cons_self
  have ih:=Zr1 P (k+1) fun q hq=>h q (List.mem_cons_of_mem _ hq)
  have c1:Tn N (((Ys p).1.1.1,(Ys p).1.1.2),(Ys p).1.2) ((X.1.1.1,X.1.1.2),X.1.2)=some (Ve p.1 x.1):=by
   have:=Ze4 (Yr hp.1) q1 (hr.mono (by omega))
   rwa [Yi,v1] at this
  have c2:Tn N ((X.2.1.1,X.2.1.2),X.2.2) (((Ys p).2.1.1,(Ys p).2.1.2),(Ys p).2.2)=some (Ve x.2 p.2):=by
   have:=Ze4 q2 (Yr hp.2) (hr.mono (by omega))
   rwa [Yi,v2] at this
  have c3:Tn N (((Ys p).1.1.1,(Ys p).1.1.2),(Ys p).1.2) (((Ys p).2.1.1,(Ys p).2.1.2),(Ys p).2.2)=some (Ve p.1 p.2):=by
   have:=Ze4 (Yr hp.1) (Yr hp.2) (hr.mono (by omega))
   rwa [Yi,Yi] at this
  rw [List.map_cons,Qi.eq_2,c1,Option.bind_some,T6]
  by_cases a1:p.1≤x.1
  ·rw [if_pos (decide_eq_true (Zmk.2 a1)),c2,Option.bind_some]
   by_cases a2:x.2≤p.2
   ·rw [if_pos (decide_eq_true (Zmk.2 a2)),c3,Option.bind_some,Zb4]
    by_cases a3:p.1<p.2
    ·rw [if_pos (decide_eq_true (Zv7.2 a3)),if_pos (Ze9.2 ⟨a1,a2,a3⟩)]
    ·rw [if_neg (by rw [decide_eq_false (fun e=>a3 (Zv7.1 e))];decide),Zfl,ih,if_neg (fun e=>a3 (Ze9.1 e).2.2)]
   ·rw [if_neg (by rw [decide_eq_false (fun e=>a2 (Zmk.1 e))];decide),Zb4,if_neg (by decide),Zfl,ih,if_neg (fun e=>a2 (Ze9.1 e).2.1)]
  ·rw [if_neg (by rw [decide_eq_false (fun e=>a1 (Zmk.1 e))];decide),Zb4,if_neg (by decide),Zfl,ih,if_neg (fun e=>a1 (Ze9.1 e).1)]
end
section
variable {N W K:Nat} {n:Z8} (hf:Y9 N n) (hs:Wz n W) (hr:Z4 N (8 * K+40)) (hWK:1025 * (W+2)+4≤K) (hN:1048577<N) {ord:List Int} (ho:Uh n.2.2.2.1 ord) (hol:ord.length≤1024)
variable {x:Rat×Rat} {X:QV×QV} (q1:RV K X.1) (q2:RV K X.2) (v1:Zt X.1=x.1) (v2:Zt X.2=x.2)
include hf hs hr hWK hN ho hol q1 q2 v1 v2
theorem Z01:Zb0 N n ord X=Zhw (Vs n (fun P=>T6 (Ze8 x) P 0) ord (List.replicate n.2.1.length 0) (0,1)):=by
 have hnm:=hf.le
 have hmul:ord.length * (W+2)≤1024 * (W+2):=Nat.mul_le_mul_right _ hol
 have h1:(Zd 1).length=1:=by rw [W5];rfl
 have h:=Ztq hf hs hr (by omega) ho (Z1l (Ze8 x)) (ch:=Zht N X) (by omega) (fun v P hP _=>Zr1 hr q1 q2 v1 v2 P 0 hP) ord (List.replicate n.2.1.length 0) (0,1) 1 1 (fun _ h=>h) (Yo.zero hf.ev) U4.zero (by omega)
 rw [← Zsg N n X ((((false,[]),[]),((false,[]),[]))) ord] at h
 rw [Zb0,Xg (by simp only [maxLen];omega),Zol (hr.mono (by omega)),Option.bind_some,Zkr,Option.bind_some]
 exact h
end
def Zfk (N:Nat) (aa:(R0×R0)) (ad:Bool):Option (R0×R0):=
  (Uv N ((aa.1.1.1,aa.1.1.2),aa.1.2) ((aa.2.1.1,aa.2.1.2),aa.2.2)).bind fun ac=>(Ul N ((ac.1.1,ac.1.2),ac.2) ((false,[1]),[2])).bind fun ab=>if ad=true then (some (((ab.1.1,ab.1.2),ab.2),((aa.2.1.1,aa.2.1.2),aa.2.2))) else (some (((aa.1.1.1,aa.1.1.2),aa.1.2),((ab.1.1,ab.1.2),ab.2)))
theorem Zza {N ai aj ak al:Nat} {am an ao ap:Option Addr} {col:Ze} {w0:World} {ab:(R0×R0)} {bb:Bool} {r:(R0×R0)} (hm:Zfk N ab bb=some r) (az:Sl (Za.int .u32) col w0 am ai ab.1.1.2) (a0:Sl (Za.int .u32) col w0 an aj ab.1.2) (a1:Sl (Za.int .u32) col w0 ao ak ab.2.1.2) (a2:Sl (Za.int .u32) col w0 ap al ab.2.2):
    Calls Tryz.prog 48 #[(.agg #[.bool ab.1.1.1,.slice am ab.1.1.2.length ai,.slice an ab.1.2.length aj,.bool ab.2.1.1,.slice ao ab.2.1.2.length ak,.slice ap ab.2.2.length al]),.bool bb] w0 (fun e w'=>∃ (col':Ze) (ra1:Option Addr) (rc2:Nat) (ra4:Option Addr) (rc5:Nat) (ra7:Option Addr) (rc8:Nat) (ra10:Option Addr) (rc11:Nat),e= .returned ((.agg #[.bool r.1.1.1,.slice ra1 r.1.1.2.length rc2,.slice ra4 r.1.2.length rc5,.bool r.2.1.1,.slice ra7 r.2.1.2.length rc8,.slice ra10 r.2.2.length rc11]))∧Zg col w0 col' w'∧Sl (Za.int .u32) col' w' ra1 rc2 r.1.1.2∧Sl (Za.int .u32) col' w' ra4 rc5 r.1.2∧Sl (Za.int .u32) col' w' ra7 rc8 r.2.1.2∧Sl (Za.int .u32) col' w' ra10 rc11 r.2.2):=by
 refine Yu (m:=27) func48 rfl rfl rfl ?_;rw [Zfk.eq_1] at hm;have aa:=St.start col w0;refine go ?_;refine Xy (col:=(Zk col)) 1 rfl ?_;intro b4 b5 bj bk ae;refine Xl (col:=bj) #[.bool false,.slice none (([]:List Int).length) 0,.slice none (([]:List Int).length) 0,.bool false,.slice none (([]:List Int).length) 0,.slice none (([]:List Int).length) 0] 2 zeroValue55 ?_;intro b6 b7 b8 bc a3;refine go ?_;refine X8 ⟨_,_,rfl⟩ ?_;replace ae:=ae.gr bc;refine lV (.agg #[.bool ab.1.1.1,.slice am ab.1.1.2.length ai,.slice an ab.1.2.length aj]) (Xt isAgg35 sizeOf35 rfl rfl ((ae.atN).part 0 3 _ rfl))<|X8 ⟨_,_,rfl⟩ ?_;refine lV (.agg #[.bool ab.2.1.1,.slice ao ab.2.1.2.length ak,.slice ap ab.2.2.length al]) (Xt isAgg35 sizeOf35 rfl rfl ((ae.atN).part 3 3 _ rfl)) ?_;obtain ⟨b9,bm,hm⟩:=bZ hm;replace az:=az.keep (Zl.start col w0);replace a0:=a0.keep (Zl.start col w0);replace a1:=a1.keep (Zl.start col w0);replace a2:=a2.keep (Zl.start col w0);replace aa:=(aa.grow bk).grow bc;refine Zi (Zev 3 4 bm (az.ks aa) (a0.ks aa) (a1.ks aa) (a2.ks aa)) ?_;rintro _ ca ⟨bn,cb,cc,cd,ce,rfl,a5,a6,a7⟩;refine ⟨_,rfl,?_⟩;refine Xl (col:=bn) #[.bool false,.slice none (([]:List Int).length) 0,.slice none (([]:List Int).length) 0] 5 zeroValue35 ?_;intro cf cg bo aq bp;refine Z2 bp ?_;intro ch ar bq br;refine go ?_;refine lV _ (Xj isAgg35 sizeOf35 br)<|Vb (col:=bo) [1] 6 ?_;intro bd ci bs au a8;refine lV (.agg #[.bool false,.slice bd ([1].length) 1]) (Yk (l:=[_,_]) (qs:=[(0,1),(1,1)]) underlying33 zeroValue33 ⟨rfl,sizeOf4,rfl,sizeOf31,trivial⟩ rfl)<|Vb (col:=bs) [2] 7 ?_;intro bt bu a4 ag bv;refine lV (.agg #[.bool false,.slice bd ([1].length) 1,.slice bt ([2].length) 1]) (Yk (l:=[_,_]) (qs:=[(0,2),(2,1)]) underlying35 zeroValue35 ⟨rfl,sizeOf33,rfl,sizeOf31,trivial⟩ rfl) ?_;obtain ⟨ah,bw,hm⟩:=bZ hm;replace a6:=(((a6.gr aq).kp ar).gr au).gr ag;replace a7:=(((a7.gr aq).kp ar).gr au).gr ag;replace a8:=a8.gr ag
 refine Zi (Zex 8 9 bw ((((a6.toSlF (Zh.int .u32)).froz 4).froz 6).froz 7) ((((a7.froz 3 (by decide)).toSlF (Zh.int .u32)).froz 6).froz 7) ((((a8.froz 3 (by decide)).froz 4 (by decide)).toSlF (Zh.int .u32)).froz 7) ((((bv.froz 3 (by decide)).froz 4 (by decide)).froz 6 (by decide)).toSlF (Zh.int .u32))) ?_;rintro _ cj ⟨bx,be,bf,bg,bh,rfl,af,ac,ad⟩;refine ⟨_,rfl,?_⟩;replace ac:=ac.thaw (Z0 .u32) af (((((Fz.refl (col:=a4)).froz 3).froz 4).froz 6).froz 7) (by decide);replace ad:=ad.thaw (Z0 .u32) af (((((Fz.refl (col:=a4)).froz 3).froz 4).froz 6).froz 7) (by decide);replace af:=af.thawR (col:=a4);generalize Xa bu.heap.size a4 bx=bz at *;refine Xl (col:=bz) #[.bool false,.slice none (([]:List Int).length) 0,.slice none (([]:List Int).length) 0] 10 zeroValue35 ?_;intro ck cl cn av b0;refine Z2 b0 ?_;intro co aw b1 bi;refine go ?_;replace ae:=(((((((ae.gr a5).gr aq).kp ar).gr au).gr ag).gr af).gr av).kp aw;replace a3:=(((((((a3.gr a5).gr aq).kp ar).gr au).gr ag).gr af).gr av).kp aw;replace aa:=(((((((aa.grow a5).grow aq).kp ar bq).grow au).grow ag).grow af).grow av).kp aw b1;replace ac:=(ac.gr av).kp aw;replace ad:=(ad.gr av).kp aw;refine Zs hm (fun hb hm=>go ?_) fun hb hm=>go ?_
 ·refine lV _ (Xj isAgg35 sizeOf35 bi)<|X8 ⟨_,_,rfl⟩ ?_;refine lV (.agg #[.bool ab.2.1.1,.slice ao ab.2.1.2.length ak,.slice ap ab.2.2.length al]) (Xt isAgg35 sizeOf35 rfl rfl ((ae.atN).part 3 3 _ rfl))<|lV (.agg #[.bool ah.1.1,.slice be ah.1.2.length bf,.slice bg ah.2.length bh,.bool ab.2.1.1,.slice ao ab.2.1.2.length ak,.slice ap ab.2.2.length al]) (Yk (l:=[_,_]) (qs:=[(0,3),(3,3)]) underlying55 zeroValue55 ⟨rfl,sizeOf35,rfl,sizeOf35,trivial⟩ rfl)<|Z2 a3 ?_;intro cp a9 b2 ax;refine go ?_;replace ac:=ac.kp a9;replace ac:=(ac).toSlF (Zh.int .u32);replace ad:=ad.kp a9;replace ad:=ad.froz 8 (by decide);replace ax:=ax.froz 8 (by decide);replace aa:=aa.kp a9 b2;replace aa:=aa.froz 8 (by decide) (by decide);replace ac:=ac.froz 9;replace ad:=(ad).toSlF (Zh.int .u32);replace ax:=ax.froz 9 (by decide);replace aa:=aa.froz 9 (by decide) (by decide);cases hm;exact ⟨rfl,_,ra ax.atN,_,_,_,_,_,_,_,_,_,rfl,aa.fin (cm []),aa.fs ac,aa.fs ad,aa.fs (a1.ks aa),aa.fs (a2.ks aa)⟩
 refine X8 ⟨_,_,rfl⟩ ?_;refine lV (.agg #[.bool ab.1.1.1,.slice am ab.1.1.2.length ai,.slice an ab.1.2.length aj]) (Xt isAgg35 sizeOf35 rfl rfl ((ae.atN).part 0 3 _ rfl))<|lV _ (Xj isAgg35 sizeOf35 bi)<|lV (.agg #[.bool ab.1.1.1,.slice am ab.1.1.2.length ai,.slice an ab.1.2.length aj,.bool ah.1.1,.slice be ah.1.2.length bf,.slice bg ah.2.length bh]) (Yk (l:=[_,_]) (qs:=[(0,3),(3,3)]) underlying55 zeroValue55 ⟨rfl,sizeOf35,rfl,sizeOf35,trivial⟩ rfl)<|Z2 a3 ?_;intro cq ba b3 ay;refine go ?_;replace ac:=ac.kp ba;replace ac:=(ac).toSlF (Zh.int .u32);replace ad:=ad.kp ba;replace ad:=ad.froz 8 (by decide);replace ay:=ay.froz 8 (by decide);replace aa:=aa.kp ba b3;replace aa:=aa.froz 8 (by decide) (by decide);replace ac:=ac.froz 9;replace ad:=(ad).toSlF (Zh.int .u32);replace ay:=ay.froz 9 (by decide);replace aa:=aa.froz 9 (by decide) (by decide);cases hm;exact ⟨rfl,_,ra ay.atN,_,_,_,_,_,_,_,_,_,rfl,aa.fin (cm []),aa.fs (az.ks aa),aa.fs (a0.ks aa),aa.fs ac,aa.fs ad⟩
/-! the number that bits tell -/
def Zau (s:ByteArray) (i:Nat):Nat:=if Th s (i:Int)=some 49 then 1 else 0
def Wb (s:ByteArray):Nat→Nat
 | 0=>0
 | i+1=>Wb s i+Wb s i+Zau s i
def Z5 (s:ByteArray) (i:Nat):Rat×Rat:=(mkRat (Wb s i:Int) (2 ^ i),mkRat ((Wb s i:Int)+1) (2 ^ i))
theorem Zs2 (s:ByteArray):∀ i,Wb s i+1≤2 ^ i
 | 0=>by rw [Wb];decide
 | i+1=>by
  have h:=Zs2 s i
  have hb:Zau s i≤1:=by rw [Zau];split <;> omega
  rw [Wb,Nat.pow_succ]
  generalize (2 ^ i:Nat)=Z at *
  omega
theorem Zbo (i:Nat):(2 ^ i:Nat)≠0:=Nat.pos_iff_ne_zero.1 (Nat.pow_pos (by decide))
theorem Zoa (s:ByteArray) (i:Nat):(Z5 s i).1<(Z5 s i).2:=by
 have h:=Zbo i
 rw [Z5,Vm h h]
 generalize (2 ^ i:Nat)=Z at *
 exact Int.mul_lt_mul_of_pos_right (by omega) (by omega)
theorem Zs3 (s:ByteArray) (i:Nat):0≤(Z5 s i).1:=by
 rw [Z5,← Rat.not_lt,show (0:Rat)=mkRat 0 1 from rfl,Vm (Zbo i) (by decide)]
 intro h
 rw [Int.zero_mul] at h
 omega
theorem Zs5 (s:ByteArray):Z5 s 0=(0,1):=by
 rw [Z5,Wb]
 decide
theorem Z15 {n:Int} {Z:Nat} (hZ:Z≠0):(mkRat n Z+mkRat (n+1) Z) * mkRat 1 2=mkRat (n+n+1) (Z * 2):=by
 rw [Zmc _ _ hZ,Rat.mkRat_mul_mkRat,Int.mul_one,Int.add_assoc]
theorem Ztu {n:Int} {Z:Nat} (hZ:Z≠0):mkRat n Z=mkRat (n+n) (Z * 2):=by
 rw [Zph hZ (by omega),Int.natCast_mul]
 grind
theorem Z14 {N L:Nat} (hr:Z4 N (4 * L+16)) (s:ByteArray) {i:Nat} (q1:qs (Z5 s i).1≤L) (q2:qs (Z5 s i).2≤L) {c:Int} (hc:Th s (i:Int)=some c):Zfk N (Ys (Z5 s i)) (decide (c=49))=some (Ys (Z5 s (i+1))):=by
 have hZ:=Zbo i
 have a1:Uv N (((Ys (Z5 s i)).1.1.1,(Ys (Z5 s i)).1.1.2),(Ys (Z5 s i)).1.2) (((Ys (Z5 s i)).2.1.1,(Ys (Z5 s i)).2.1.2),(Ys (Z5 s i)).2.2)=some (Zj ((Z5 s i).1+(Z5 s i).2)):=by
  have:=Ze3 (Yr q1) (Yr q2) (hr.mono (by omega))
  rwa [Yi,Yi] at this
 have hh:RV 1 ((false,[1]),[2]):=⟨by simp [Zn],by simp [Zn],by simp,by simp⟩
 have hv:Zt ((false,[1]),[2])=mkRat 1 2:=by simp [Zt,Zq,Xw,Zb]
 have s1:=Zjn (Z5 s i).1 (Z5 s i).2
 have m1:Ul N ((Zj ((Z5 s i).1+(Z5 s i).2))) ((false,[1]),[2])=some (Zj (((Z5 s i).1+(Z5 s i).2) * mkRat 1 2)):=by
  have:=Zh0 (Yr (q:=(Z5 s i).1+(Z5 s i).2) (k:=2 * L+1) (by omega)) hh (hr.mono (by omega))
  rwa [Yi,hv] at this
 have m1':Ul N (((Zj ((Z5 s i).1+(Z5 s i).2)).1.1,(Zj ((Z5 s i).1+(Z5 s i).2)).1.2),(Zj ((Z5 s i).1+(Z5 s i).2)).2) ((false,[1]),[2])=_:=m1
 have e0:((Z5 s i).1+(Z5 s i).2) * mkRat 1 2=mkRat ((Wb s i:Int)+Wb s i+1) (2 ^ i * 2):=Z15 hZ
 rw [Zfk,a1,Option.bind_some,m1',Option.bind_some,e0]
 by_cases h:c=49
 ·have e:Wb s (i+1)=Wb s i+Wb s i+1:=by rw [Wb,Zau,hc,h,if_pos rfl]
  have r:Z5 s (i+1)=(mkRat ((Wb s i:Int)+Wb s i+1) (2 ^ i * 2),(Z5 s i).2):=by
   rw [Z5,e,Nat.pow_succ]
   refine Prod.ext ?_ ?_
   ·simp only [Int.natCast_add];rfl
   ·rw [Z5]
    simp only
    rw [Ztu (n:=(Wb s i:Int)+1) hZ]
    congr 1
    omega
  rw [if_pos (decide_eq_true h),r];rfl
 ·have e:Wb s (i+1)=Wb s i+Wb s i:=by rw [Wb,Zau,hc,if_neg (by simpa using h),Nat.add_zero]
  have r:Z5 s (i+1)=((Z5 s i).1,mkRat ((Wb s i:Int)+Wb s i+1) (2 ^ i * 2)):=by
   rw [Z5,e,Nat.pow_succ]
   refine Prod.ext ?_ ?_
   ·rw [Z5]
    simp only
    rw [Ztu (n:=(Wb s i:Int)) hZ]
    simp only [Int.natCast_add]
   ·simp only [Int.natCast_add]
  rw [if_neg (by rw [decide_eq_false h];decide),r];rfl
section
variable {N K:Nat} (hr:Z4 N (8 * K+40)) (hK:15≤K) (hN:1000<N)
include hr hK hN
end
def Zh6 (aa:(R0×R0)):Option (R0×R0):=
  some ((((aa.1.1.1,aa.1.1.2),aa.1.2),((aa.2.1.1,aa.2.1.2),aa.2.2)))
theorem Zzc {ac ad ae af:Nat} {ag ah ai aj:Option Addr} {col:Ze} {w0:World} {ab r:(R0×R0)} (c1:Nat) (hm:Zh6 ab=some r) (ak:Sl (Za.int .u32) col w0 ag ac ab.1.1.2) (al:Sl (Za.int .u32) col w0 ah ad ab.1.2) (am:Sl (Za.int .u32) col w0 ai ae ab.2.1.2) (an:Sl (Za.int .u32) col w0 aj af ab.2.2):
    Calls Tryz.prog 47 #[(.agg #[.bool ab.1.1.1,.slice ag ab.1.1.2.length ac,.slice ah ab.1.2.length ad,.bool ab.2.1.1,.slice ai ab.2.1.2.length ae,.slice aj ab.2.2.length af])] w0 (fun e w'=>∃ (col':Ze) (rg1:Nat) (ra3:Option Addr) (rc4:Nat) (ra6:Option Addr) (rc7:Nat) (ra9:Option Addr) (rc10:Nat) (ra12:Option Addr) (rc13:Nat),e= .returned ((.func (.func 104) #[] #[.pointer (some ⟨rg1,0,none⟩)]))∧Zg col w0 col' w'∧Zo 55 c1 col' w' rg1 #[.bool r.1.1.1,.slice ra3 r.1.1.2.length rc4,.slice ra6 r.1.2.length rc7,.bool r.2.1.1,.slice ra9 r.2.1.2.length rc10,.slice ra12 r.2.2.length rc13]∧Sl (Za.int .u32) col' w' ra3 rc4 r.1.1.2∧Sl (Za.int .u32) col' w' ra6 rc7 r.1.2∧Sl (Za.int .u32) col' w' ra9 rc10 r.2.1.2∧Sl (Za.int .u32) col' w' ra12 rc13 r.2.2):=by
 refine Xo 2 (m:=4) func47 rfl rfl rfl rfl rfl ?_;rw [Zh6.eq_1] at hm;have aa:=St.start col w0;refine go ?_;refine Xy (col:=(Zk col)) 1 rfl ?_;intro ao au ap aq ar;refine lv (v:=_) rfl rfl (Uq rfl)<|go ?_;refine lV (.func (.func 104) #[] #[.pointer (some ⟨ao,0,none⟩)]) (Zwl rfl)<|lA (.func (.func 104) #[] #[.pointer (some ⟨ao,0,none⟩)])<|go ?_;cases hm;replace ak:=ak.keep (Zl.start col w0);replace al:=al.keep (Zl.start col w0);replace am:=am.keep (Zl.start col w0);replace an:=an.keep (Zl.start col w0);replace aa:=aa.grow aq;exact ⟨rfl,Ti w0.heap.size col ap (fun n=>bif Nat.beq n 1 then c1 else 0),ao,ag,ac,ah,ad,ai,ae,aj,af,rfl,aa.fin (fun n=>bif Nat.beq n 1 then c1 else 0),aa.finBox (G:=(fun n=>bif Nat.beq n 1 then c1 else 0)) ar (by decide) (by decide) rfl,aa.finSl (g:=(fun n=>bif Nat.beq n 1 then c1 else 0)) rfl (ak.ks aa),aa.finSl (g:=(fun n=>bif Nat.beq n 1 then c1 else 0)) rfl (al.ks aa),aa.finSl (g:=(fun n=>bif Nat.beq n 1 then c1 else 0)) rfl (am.ks aa),aa.finSl (g:=(fun n=>bif Nat.beq n 1 then c1 else 0)) rfl (an.ks aa)⟩
def Zky (aa:Int) (kk_L1:(Bool→R2→R2→Bool→R2→R2→Int→Option Ra)) (ab:Bool) (ac:List Int) (ad:List Int) (ae:Bool) (af:List Int) (ag:List Int):Option Ra:=
  kk_L1 ab ac ad ae af ag (i64.wrap (aa+1))
def Zkz (N:Nat) (ac:ByteArray) (ad:Bool) (ae:List Int) (af:List Int) (ag:Bool) (ah:List Int) (ai:List Int) (ab:Int) (kk_L1:(Bool→R2→R2→Bool→R2→R2→Int→Option Ra)):Option Ra:=
  (Th ac ab).bind fun aj=>(Zfk N (((ad,ae),af),((ag,ah),ai)) (decide (aj=49))).bind fun aa=>Zky ab kk_L1 aa.1.1.1 aa.1.1.2 aa.1.2 aa.2.1.1 aa.2.1.2 aa.2.2
def Zdg (N:Nat) (aa:ByteArray) (ab:Bool) (ac:List Int) (ad:List Int) (ae:Bool) (af:List Int) (ag:List Int) (ah:Int) (kk_L1:(Bool→R2→R2→Bool→R2→R2→Int→Option Ra)) (ai:Bool):Option Ra:=
  if ai=true then (some (([]:List Int),0,70)) else (Zkz N aa ab ac ad ae af ag ah kk_L1)
def Tk (N:Nat) (ab:R1) (aa:ByteArray) (ae:Rb):Nat→Bool→R2→R2→Bool→R2→R2→Int→Option Ra
  | 0,_,_,_,_,_,_,_=>none
  | al+1,af,ag,ah,ai,aj,ak,ac=>(Zh6 (((af,ag),ah),((ai,aj),ak))).bind fun ad=>(Zb0 N (ab.1,ab.2.1,ab.2.2.1,ab.2.2.2.1,ab.2.2.2.2) ae.1 (((ad.1.1.1,ad.1.1.2),ad.1.2),((ad.2.1.1,ad.2.1.2),ad.2.2))).bind fun am=>if am.2.2=true then (some (am.1,ac,0)) else (if (decide (ac=(aa.size:Int)))=true then (Zdg N aa af ag ah ai aj ak ac (Tk N ab aa ae al) true) else ((Th aa ac).bind fun an=>if (!decide (an=48))=true then ((Th aa ac).bind fun ao=>Zdg N aa af ag ah ai aj ak ac (Tk N ab aa ae al) (!decide (ao=49))) else (Zdg N aa af ag ah ai aj ak ac (Tk N ab aa ae al) false)))
termination_by structural x=>x
def Q7 (N:Nat) (aa:R1) (ae:ByteArray):Option Ra:=
  (Um N (aa.1,aa.2.1,aa.2.2.1,aa.2.2.2.1,aa.2.2.2.2)).bind fun ad=>if (!decide (ad=0))=true then (some (([]:List Int),0,ad)) else ((Tm N aa.2.2.2.1).bind fun af=>(Za4 N ([]:List R0)).bind fun ab=>(Zb3).bind fun ac=>Tk N aa ae af N ab.1.1 ab.1.2 ab.2 ac.1.1 ac.1.2 ac.2 0)
theorem Znn {N be bf bg bh:Nat} {bi bj bk bm:Option Addr} {col:Ze} {w0:World} {ab:R1} {aw:ByteArray} {r:Ra} (c1:Nat) (hm:Q7 N ab aw=some r) (ch:Sl Za.str col w0 bi be ab.2.1) (ci:Sl (Za.slice Za.str) col w0 bj bf ab.2.2.1) (b8:Sl (Za.slice (Za.int .i64)) col w0 bk bg ab.2.2.2.1) (cj:Sl (Za.slice (Za.pair (Za.pair Za.bool (Za.slice (Za.int .u32))) (Za.slice (Za.int .u32)))) col w0 bm bh ab.2.2.2.2):
    Calls Tryz.prog 13 #[(.agg #[.string ab.1,.slice bi ab.2.1.length be,.slice bj ab.2.2.1.length bf,.slice bk ab.2.2.2.1.length bg,.slice bm ab.2.2.2.2.length bh]),.string aw] w0 (fun e w'=>∃ (col':Ze) (ra1:Option Addr) (rc2:Nat),e= .returned (.tuple #[.slice ra1 r.1.length rc2,.int .i64 r.2.1,.int .i64 r.2.2])∧Zg col w0 col' w'∧Zc (Za.int .i64) 3 c1 col' w' ra1 rc2 r.1):=by
 refine Zn3 4 5 6 (m:=65) (args:=[(.agg #[.string ab.1,.slice bi ab.2.1.length be,.slice bj ab.2.2.1.length bf,.slice bk ab.2.2.2.1.length bg,.slice bm ab.2.2.2.2.length bh]),.string aw]) func13 rfl rfl rfl rfl rfl ?_;rw [Q7.eq_1] at hm;have aa:=St.start col w0;refine go ?_;refine Xy (col:=(Zk col)) 1 rfl ?_;intro ck dw dl dx ac;refine go ?_;refine lV _ (Xj isAgg27 sizeOf27 ac) ?_;obtain ⟨ez,dy,hm⟩:=bZ hm;replace ch:=ch.keep (Zl.start col w0);replace ci:=ci.keep (Zl.start col w0);replace b8:=b8.keep (Zl.start col w0);replace cj:=cj.keep (Zl.start col w0);replace aa:=aa.grow dx;refine Zi (Zkh dy (ch.ks aa) (ci.ks aa) (b8.ks aa) (cj.ks aa)) ?_;rintro _ dz ⟨rfl,cl⟩;refine ⟨_,rfl,?_⟩;replace cl:Zg dl dw dl dz:=.of_below cl;refine go ?_;replace ac:=ac.gr cl;replace aa:=aa.grow cl;refine Zs hm (fun hb hm=>go ?_) fun hb hm=>go ?_
 ·cases hm;exact ⟨rfl,_,none,0,rfl,aa.fin (cm []),Zc.nil⟩
 refine X3 ac ?_;obtain ⟨am,d0,hm⟩:=bZ hm;refine Zi (Zno 2 d0 (b8.ks aa)) ?_;rintro _ e0 ⟨d1,b1,b2,rfl,dm,ad⟩;refine ⟨_,rfl,?_⟩;refine lM (.tuple #[.slice b1 am.1.length b2,.int .i64 am.2])<|lV (.slice b1 am.1.length b2) (Xh rfl rfl)<|lV (.int .i64 am.2) (Xh rfl rfl)<|go ?_;obtain ⟨cu,d2,hm⟩:=bZ hm;refine Zi (Zkg (col:=d1) 3 4 d2 Sl.nil) ?_;rintro _ e1 ⟨d3,d4,d5,d6,d7,rfl,cv,an,ao⟩;refine ⟨_,rfl,?_⟩;obtain ⟨cw,d8,hm⟩:=bZ hm;refine lc rfl rfl (Zap call42) (Zkf (col:=d3) 5 6 d8:) ?_;rintro _ e2 ⟨d9,ea,eb,ec,ed,rfl,b9,ap,aq⟩;refine ⟨_,rfl,?_⟩;refine lV (.agg #[.bool cu.1.1,.slice d4 cu.1.2.length d5,.slice d6 cu.2.length d7,.bool cw.1.1,.slice ea cw.1.2.length eb,.slice ec cw.2.length ed]) (Yk (l:=[_,_]) (qs:=[(0,3),(3,3)]) underlying55 zeroValue55 ⟨rfl,sizeOf35,rfl,sizeOf35,trivial⟩ rfl)<|Xl (col:=d9) #[.bool false,.slice none (([]:List Int).length) 0,.slice none (([]:List Int).length) 0,.bool false,.slice none (([]:List Int).length) 0,.slice none (([]:List Int).length) 0] 7 zeroValue55 ?_;intro cn e3 e4 b3 ee;refine Z2 ee ?_;intro e5 b4 ef ae;refine go ?_;replace ad:=(((ad.gr cv).gr b9).gr b3).kp b4;replace ad:=ad.froz 3 (by decide);replace an:=((an.gr b9).gr b3).kp b4;replace an:=(an).toSlF (Zh.int .u32);replace ao:=((ao.gr b9).gr b3).kp b4;replace ao:=ao.froz 3 (by decide);replace ap:=(ap.gr b3).kp b4;replace ap:=ap.froz 3 (by decide);replace aq:=(aq.gr b3).kp b4;replace aq:=aq.froz 3 (by decide);replace ac:=((((ac.gr dm).gr cv).gr b9).gr b3).kp b4;replace ac:=ac.froz 3 (by decide);replace ae:=ae.froz 3 (by decide);replace aa:=((((aa.grow dm).grow cv).grow b9).grow b3).kp b4 ef;replace aa:=aa.froz 3 (by decide) (by decide);replace ad:=ad.froz 4 (by decide);replace an:=an.froz 4;replace ao:=(ao).toSlF (Zh.int .u32);replace ap:=ap.froz 4 (by decide);replace aq:=aq.froz 4 (by decide);replace ac:=ac.froz 4 (by decide);replace ae:=ae.froz 4 (by decide);replace aa:=aa.froz 4 (by decide) (by decide);replace ad:=ad.froz 5 (by decide);replace an:=an.froz 5;replace ao:=ao.froz 5;replace ap:=(ap).toSlF (Zh.int .u32);replace aq:=aq.froz 5 (by decide);replace ac:=ac.froz 5 (by decide);replace ae:=ae.froz 5 (by decide)
 replace aa:=aa.froz 5 (by decide) (by decide);replace ad:=ad.froz 6 (by decide);replace an:=an.froz 6;replace ao:=ao.froz 6;replace ap:=ap.froz 6;replace aq:=(aq).toSlF (Zh.int .u32);replace ac:=ac.froz 6 (by decide);replace ae:=ae.froz 6 (by decide);replace aa:=aa.froz 6 (by decide) (by decide);replace ad:=(ad).toSlF (Zh.int .i64);replace an:=an.froz 2;replace ao:=ao.froz 2;replace ap:=ap.froz 2;replace aq:=aq.froz 2;replace ac:=ac.froz 2 (by decide);replace ae:=ae.froz 2 (by decide);replace aa:=aa.froz 2 (by decide) (by decide);refine Xe [1,10,2,8,1000000] (fun n f ar=>∃ ak bn bo bp ay bq br az bs bt bu a0 bv bw a1 b6 a4,a4=n∧Tk N ab aw am a4 bn ay az bs a0 a1 b6=some r∧St w0 (Zk col) ak ar∧Sl (Za.int .u32) ak ar bo bp ay∧Sl (Za.int .u32) ak ar bq br az∧Sl (Za.int .u32) ak ar bt bu a0∧Sl (Za.int .u32) ak ar bv bw a1∧Zo 55 7 ak ar cn #[.bool bn,.slice bo ay.length bp,.slice bq az.length br,.bool bs,.slice bt a0.length bu,.slice bv a1.length bw]∧Zo 27 1 ak ar ck #[.string ab.1,.slice bi ab.2.1.length be,.slice bj ab.2.2.1.length bf,.slice bk ab.2.2.2.1.length bg,.slice bm ab.2.2.2.2.length bh]∧Sl (Za.int .i64) ak ar b1 b2 am.1∧[11].map f=[.int .i64 b6]) N ⟨_,_,_,_,_,_,_,_,_,_,_,_,_,_,_,0,_,rfl,hm,aa,an,ao,ap,aq,ae,ac,ad,rfl⟩ ?_;clear hm;intro n f ar hI;obtain ⟨ak,bn,bo,bp,ay,bq,br,az,bs,bt,bu,a0,bv,bw,a1,b6,a4,hn,hm,aa,af,ag,ah,ai,ae,ac,ad,hs⟩:=hI;subst hn;refine .lL [11] hs ?_
 cases a4 with
 | zero=>rw [Tk.eq_1] at hm;cases hm
 | succ a4=>
  rw [Tk.eq_2] at hm;refine Zw ?_;refine Wp.cutK [1,10,11,2,8,1000000] (fun f a5=>∃ a6 cx cy cz co c0 c2 cp c3 c4 c5 cq c6 c7 cr,Zky b6 (Tk N ab aw am a4) cx co cp c3 cq cr=some r∧St w0 (Zk col) a6 a5∧Sl (Za.int .u32) a6 a5 cy cz co∧Sl (Za.int .u32) a6 a5 c0 c2 cp∧Sl (Za.int .u32) a6 a5 c4 c5 cq∧Sl (Za.int .u32) a6 a5 c6 c7 cr∧Zo 55 7 a6 a5 cn #[.bool cx,.slice cy co.length cz,.slice c0 cp.length c2,.bool c3,.slice c4 cq.length c5,.slice c6 cr.length c7]∧Zo 27 1 a6 a5 ck #[.string ab.1,.slice bi ab.2.1.length be,.slice bj ab.2.2.1.length bf,.slice bk ab.2.2.2.1.length bg,.slice bm ab.2.2.2.2.length bh]∧Sl (Za.int .i64) a6 a5 b1 b2 am.1) ?_ ?_
  ·intro f a5 hJ;obtain ⟨a6,cx,cy,cz,co,c0,c2,cp,c3,c4,c5,cq,c6,c7,cr,hm,aa,eg,eh,ei,ej,ae,ac,ad⟩:=hJ;rw [Zky.eq_1] at hm;refine go ?_;exact ⟨a4,by omega,rfl,⟨_,_,_,_,_,_,_,_,_,_,_,_,_,_,_,_,_,rfl,hm,aa,eg,eh,ei,ej,ae,ac,ad,rfl⟩⟩
  refine go ?_;have bx:=Zz.clip (fun _=>false) ak ar;refine Zeq (col:=ak) [(0,0),(1,1),(2,0),(3,3),(4,3),(5,1),(6,1),(7,1),(8,1),(9,4),(10,1),(11,2),(12,1)] (by kernel_rfl) (by kernel_rfl) ⟨fun h=>absurd h (by decide),fun h=>absurd h (by decide),fun h=>absurd h (by decide),fun h=>absurd h (by decide),fun h=>absurd h (by decide),fun h=>absurd h (by decide),fun h=>absurd h (by decide),fun h=>absurd h (by decide),fun h=>absurd h (by decide),fun _=>⟨_,_,_,rfl,Uu zeroValue55⟩,fun h=>absurd h (by decide),fun h=>absurd h (by decide),fun h=>absurd h (by decide),trivial⟩ ?_;replace ac:=ac.kpp bx;refine Wn (v:=(.agg #[.string ab.1,.slice bi ab.2.1.length be,.slice bj ab.2.2.1.length bf,.slice bk ab.2.2.2.1.length bg,.slice bm ab.2.2.2.2.length bh])) rfl rfl (fun _ hC=>Xt isAgg27 sizeOf27 rfl rfl (ac.atN.gr (hC.bl (Zf ar ak)))) ?_;refine X9 (v:=(.slice b1 am.1.length b2)) rfl rfl (fun _=>Wm rfl) ?_;replace ae:=ae.kpp bx;refine Wn (v:=(.agg #[.bool bn,.slice bo ay.length bp,.slice bq az.length br,.bool bs,.slice bt a0.length bu,.slice bv a1.length bw])) rfl rfl (fun _ hC=>Xt isAgg55 sizeOf55 rfl rfl (ae.atN.gr (hC.bl (Zf ar ak)))) ?_;refine Ww rfl rfl ?_;intro e6 hC0;have hC:=hC0.bl (Zf ar ak);obtain ⟨e7,ek,hm⟩:=bZ hm;replace af:=(af.kpp bx).gr hC;replace ag:=(ag.kpp bx).gr hC;replace ah:=(ah.kpp bx).gr hC;replace ai:=(ai.kpp bx).gr hC;refine Zi (Zzc 8 ek af ag ah ai) ?_;rintro _ b7 ⟨ca,e8,e9,fa,fb,fc,fd,fe,ff,fg,rfl,a2,c8,c9,da,db,dc⟩;refine ⟨_,rfl,?_⟩;refine Zm ?_;refine ⟨fun w'=>Zg (Zf b7 ca) b7 (Zf b7 ca) w',fun g=>(Zf b7 ca) g=497,Zg.refl _ _,Wk,fun _=>⟨fun _ h=>Vw hC0 a2 h,fun b hb=>a2.below.block b hb,fun g x1 x2=>V3 a2 g x1 (by first | exact x2 | (simp only [Xr,x2];rfl) | (simp only [Xr,Xf,x2];rfl))⟩,?_⟩;have au:=Zz.clip (fun _=>false) ca b7;refine Ww rfl rfl ?_;intro fh hC0;replace ad:=(((ad.kpp bx).gr hC).gr a2).kpp au;replace aa:=(((aa.kpp bx).grow hC).grow a2).kpp au;replace ae:=((ae.gr hC).gr a2).kpp au;replace ac:=((ac.gr hC).gr a2).kpp au;have hC:=hC0.bl (Zf b7 ca);obtain ⟨aj,el,hm⟩:=bZ hm;replace c9:=(c9.kpp au).gr hC;replace da:=(da.kpp au).gr hC;replace db:=(db.kpp au).gr hC;replace dc:=(dc.kpp au).gr hC
  replace c8:=(c8.kpp au).gr hC;replace ad:=ad.gr hC;replace aa:=aa.grow hC;refine Zi (Zy7 9 8 el (by decide) (ch.ks aa) (ci.ks aa) (b8.ks aa) (cj.ks aa) ad c9 da db dc c8) ?_;rintro _ al ⟨av,dd,de,dn,dp,dq,dr,ds,dt,du,dv,rfl,a3,cb,fi,fj,fk,fl⟩;refine ⟨_,rfl,?_⟩;refine Zm ?_;refine ⟨fun w'=>Zg (Zf al av) al (Zf al av) w',fun g=>(Zf al av) g=497,Zg.refl _ _,Wk,fun _=>⟨fun _ h=>Vw hC0 a3 h,fun b hb=>a3.below.block b hb,fun g x1 x2=>V3 a3 g x1 (by first | exact x2 | (simp only [Xr,x2];rfl) | (simp only [Xr,Xf,x2];rfl))⟩,?_⟩;have a7:=Zz.clip (fun _=>false) av al;refine X9 (v:=(.tuple #[.slice dd aj.1.length de,(.agg #[.bool aj.2.1.1.1.1,.slice dn aj.2.1.1.1.2.length dp,.slice dq aj.2.1.1.2.length dr,.bool aj.2.1.2.1.1,.slice ds aj.2.1.2.1.2.length dt,.slice du aj.2.1.2.2.length dv]),.bool aj.2.2])) rfl rfl (fun _=>Wm rfl) ?_;refine X9 (v:=(.slice dd aj.1.length de)) rfl rfl (fun _=>Xh rfl rfl) ?_;refine X9 (v:=(.agg #[.bool aj.2.1.1.1.1,.slice dn aj.2.1.1.1.2.length dp,.slice dq aj.2.1.1.2.length dr,.bool aj.2.1.2.1.1,.slice ds aj.2.1.2.1.2.length dt,.slice du aj.2.1.2.2.length dv])) rfl rfl (fun _=>Xh rfl rfl) ?_;refine X9 (v:=(.bool aj.2.2)) rfl rfl (fun _=>Xh rfl rfl) ?_;refine Zc6 rfl rfl (Uu zeroValue55) ?_;intro bz em;refine X9 (v:=(.slice dd aj.1.length de)) rfl rfl (fun _=>Uq rfl) ?_;refine Ww rfl rfl ?_;intro en ⟨hC0,hZ0⟩;replace af:=((((af.gr a2).kpp au).gr hC).gr a3).kpp a7;replace ag:=((((ag.gr a2).kpp au).gr hC).gr a3).kpp a7;replace ah:=((((ah.gr a2).kpp au).gr hC).gr a3).kpp a7;replace ai:=((((ai.gr a2).kpp au).gr hC).gr a3).kpp a7;replace ae:=((ae.gr hC).gr a3).kpp a7;replace ac:=((ac.gr hC).gr a3).kpp a7;have hC:=hC0.bl (Zf al av);obtain ⟨a8,df⟩:=Zbu (col:=(Zf al av)) 10 hZ0 em
  replace df:Zo 55 10 (Z3 bz 10 (Zf al av)) en bz #[.bool false,.slice none (([]:List Int).length) 0,.slice none (([]:List Int).length) 0,.bool false,.slice none (([]:List Int).length) 0,.slice none (([]:List Int).length) 0]:=df;refine Z2 df ?_;intro b0 a9 eo fm;refine Zm ?_;refine ⟨fun w'=>Zg (Zf b0 (Z3 bz 10 (Zf al av))) b0 (Zf b0 (Z3 bz 10 (Zf al av))) w',fun g=>(Zf b0 (Z3 bz 10 (Zf al av))) g=497,Zg.refl _ _,Wk,fun h=>absurd h (by decide),?_⟩;have ba:=Zz.clip (fun _=>false) (Z3 bz 10 (Zf al av)) b0;refine X9 (v:=(.bool aj.2.2)) rfl rfl (fun _=>Uq rfl) ?_;refine Zer ?_;replace ad:=(((((ad.gr a3).kpp a7).gr hC).kpp a8).kp a9).kpp ba;replace aa:=(((((aa.grow a3).kpp a7).grow hC).kpp a8).kp a9 eo).kpp ba;replace cb:=((((cb.kpp a7).gr hC).kpp a8).kp a9).kpp ba;replace af:=(((af.gr hC).kpp a8).kp a9).kpp ba;replace ag:=(((ag.gr hC).kpp a8).kp a9).kpp ba;replace ah:=(((ah.gr hC).kpp a8).kp a9).kpp ba;replace ai:=(((ai.gr hC).kpp a8).kp a9).kpp ba;replace ae:=(((ae.gr hC).kpp a8).kp a9).kpp ba;replace ac:=(((ac.gr hC).kpp a8).kp a9).kpp ba;intro ep hC;replace hC:Zg (Zf b0 (Z3 bz 10 (Zf al av))) b0 (Zf b0 (Z3 bz 10 (Zf al av))) ep:=.of_below hC.below;refine go ?_;replace af:=af.gr hC;replace ag:=ag.gr hC;replace ah:=ah.gr hC;replace ai:=ai.gr hC;replace ad:=ad.gr hC;replace cb:=cb.gr hC;replace ae:=ae.gr hC;replace ac:=ac.gr hC;replace aa:=aa.grow hC;refine Zs hm (fun hb hm=>go ?_) fun hb hm=>?_
  ·cases hm;exact ⟨rfl,_,_,_,rfl,aa.fin (cm [(9,c1)]),aa.fo cb⟩
  refine Yc<|Zw ?_;refine Wp.cutK [1,10,11,2,8,1000000] (fun f bb=>∃ ax,Zkz N aw bn ay az bs a0 a1 b6 (Tk N ab aw am a4)=some r∧St w0 (Zk col) ax bb∧Sl (Za.int .u32) ax bb bo bp ay∧Sl (Za.int .u32) ax bb bq br az∧Sl (Za.int .u32) ax bb bt bu a0∧Sl (Za.int .u32) ax bb bv bw a1∧Zo 55 7 ax bb cn #[.bool bn,.slice bo ay.length bp,.slice bq az.length br,.bool bs,.slice bt a0.length bu,.slice bv a1.length bw]∧Zo 27 1 ax bb ck #[.string ab.1,.slice bi ab.2.1.length be,.slice bj ab.2.2.1.length bf,.slice bk ab.2.2.2.1.length bg,.slice bm ab.2.2.2.2.length bh]∧Sl (Za.int .i64) ax bb b1 b2 am.1) ?_ ?_
  ·intro f bb hJ;obtain ⟨ax,hm,aa,af,ag,ah,ai,ae,ac,ad⟩:=hJ;rw [Zkz.eq_1] at hm;refine W6 (col:=ax) [(0,0),(1,1),(2,1),(3,0),(4,1),(5,3),(6,2)] (by kernel_rfl) (by kernel_rfl)<|xv rfl rfl (fun _ hC=>Xj isAgg55 sizeOf55 (ae.gr (hC.bl ax))) ?_;refine xu rfl rfl (fun _=>r_mT rfl) ?_;refine xu rfl rfl (fun _=>Vg rfl) ?_;obtain ⟨eq,er,hm⟩:=bZ hm;refine xv (v:=(.int .u8 eq)) rfl rfl (fun _ hC=>Zmq (s:=aw) underlying9 rfl rfl er) ?_;refine xu rfl rfl (fun _=>Zp3 _ _ rfl rfl) ?_;refine xe rfl rfl ?_;intro fn hC0;have hC:=hC0.bl ax;obtain ⟨fp,es,hm⟩:=bZ hm;replace af:=af.gr hC;replace ag:=ag.gr hC;replace ah:=ah.gr hC;replace ai:=ai.gr hC;refine Zi (Zza es af ag ah ai) ?_;rintro _ fq ⟨cs,fr,ft,fu,fv,fw,fx,fy,fz,rfl,cc,cd,ce,cf,cg⟩;refine ⟨_,rfl,?_⟩;refine Zm<|Yd cs hC0 cc<|xe rfl rfl ?_;intro f0 hC0;replace ad:=(ad.gr hC).gr cc;replace ae:=(ae.gr hC).gr cc;replace ac:=(ac.gr hC).gr cc;replace aa:=(aa.grow hC).grow cc;have hC:=hC0.bl cs;replace ae:=ae.gr hC;refine Z2 ae ?_;intro f1 b5 et dg;refine Zm<|xk cs<|W3 ?_;replace ad:=(ad.gr hC).kp b5;replace cd:=(cd.gr hC).kp b5;replace ce:=(ce.gr hC).kp b5;replace cf:=(cf.gr hC).kp b5;replace cg:=(cg.gr hC).kp b5;replace ac:=(ac.gr hC).kp b5;replace aa:=(aa.grow hC).kp b5 et;intro f2 hC;replace hC:=hC.bl cs;replace cd:=cd.gr hC;replace ce:=ce.gr hC;replace cf:=cf.gr hC;replace cg:=cg.gr hC;replace ad:=ad.gr hC;replace dg:=dg.gr hC;replace ac:=ac.gr hC;replace aa:=aa.grow hC;exact ⟨rfl,_,_,_,_,_,_,_,_,_,_,_,_,_,_,_,hm,aa,cd,ce,cf,cg,dg,ac,ad⟩
  refine Zw ?_;refine Wp.cutK [1,10,11,2,8,1000000] (fun f bc=>∃ bd dh,Zdg N aw bn ay az bs a0 a1 b6 (Tk N ab aw am a4) dh=some r∧St w0 (Zk col) bd bc∧Sl (Za.int .u32) bd bc bo bp ay∧Sl (Za.int .u32) bd bc bq br az∧Sl (Za.int .u32) bd bc bt bu a0∧Sl (Za.int .u32) bd bc bv bw a1∧Zo 55 7 bd bc cn #[.bool bn,.slice bo ay.length bp,.slice bq az.length br,.bool bs,.slice bt a0.length bu,.slice bv a1.length bw]∧Zo 27 1 bd bc ck #[.string ab.1,.slice bi ab.2.1.length be,.slice bj ab.2.2.1.length bf,.slice bk ab.2.2.2.1.length bg,.slice bm ab.2.2.2.2.length bh]∧Sl (Za.int .i64) bd bc b1 b2 am.1∧[58].map f=[.bool dh]) ?_ ?_
  ·intro f bc hJ;obtain ⟨bd,dh,hm,aa,af,ag,ah,ai,ae,ac,ad,hs⟩:=hJ;rw [Zdg.eq_1] at hm;refine .lL [58] hs ?_;refine Zs hm (fun hb hm=>go ?_) fun hb hm=>?_
   ·cases hm;exact ⟨rfl,_,none,0,rfl,aa.fin (cm []),Zc.nil⟩
   refine Yc ?_;exact ⟨rfl,_,hm,aa,af,ag,ah,ai,ae,ac,ad⟩
  refine go ?_;refine X1 hm (fun ct hm=>go ?_) fun ct hm=>go ?_
  ·refine Zfd 52 rfl rfl rfl rfl<|Zfd 52 rfl rfl rfl rfl<|Zfd 52 rfl rfl rfl rfl<|Zfd 52 rfl rfl rfl rfl<|go ?_;refine lV (.bool true) (Xm (congrArg Value.bool ct) rfl)<|Zm ?_;exact ⟨rfl,_,_,hm,aa,af,ag,ah,ai,ae,ac,ad,rfl⟩
  obtain ⟨eu,ew,hm⟩:=bZ hm;refine lV (.int .u8 eu) (Zmq (s:=aw) underlying9 rfl rfl ew)<|go ?_;refine X1 hm (fun di hm=>go ?_) fun di hm=>go ?_
  ·obtain ⟨dj,ey,hm⟩:=bZ hm;refine lV (.int .u8 dj) (Zmq (s:=aw) underlying9 rfl rfl ey)<|go ?_;refine lV (.bool (!decide (dj=49))) (Xm (congrArg Value.bool di) rfl)<|lV (.bool (!decide (dj=49))) (Xd (congrArg Value.bool ct) rfl)<|Zm ?_;exact ⟨rfl,_,_,hm,aa,af,ag,ah,ai,ae,ac,ad,rfl⟩
  refine lV (.bool false) (Xd (congrArg Value.bool di) rfl)<|lV (.bool false) (Xd (congrArg Value.bool ct) rfl)<|Zm ?_;exact ⟨rfl,_,_,hm,aa,af,ag,ah,ai,ae,ac,ad,rfl⟩
/-! numbers of bits -/
theorem Zs4 (s:ByteArray) (i:Nat):qs (Z5 s i).1≤i / 32+1∧qs (Z5 s i).2≤i / 32+1:=by
 have h:=Zs2 s i
 have h1:=Zjm i
 exact ⟨Zbp (Nat.le_trans (Y2 (by rw [Int.natAbs_natCast];omega)) h1) h1 (by omega),Zbp (Nat.le_trans (Y2 (by rw [show ((Wb s i:Int)+1).natAbs=Wb s i+1 by omega];exact h)) h1) h1 (by omega)⟩
theorem Z1a (s:ByteArray) (i:Nat):(Z5 s i).1≤(Z5 s (i+1)).1∧(Z5 s (i+1)).2≤(Z5 s i).2:=by
 have h:=Zbo i
 have hb:Zau s i=0∨Zau s i=1:=by rw [Zau];split <;> simp
 rw [Z5,Z5,Wb,Nat.pow_succ]
 generalize (2 ^ i:Nat)=Z at *
 generalize Wb s i=d at *
 simp only
 rw [← Rat.not_lt,← Rat.not_lt,Vm (by omega) h,Vm h (by omega)]
 have e0:((Z * 2:Nat):Int)=(Z:Int) * 2:=by simp
 rw [e0]
 have e1:(d:Int) * ((Z:Int) * 2)=(d:Int) * Z+(d:Int) * Z:=by rw [← Int.mul_assoc];omega
 have e2:((d:Int)+1) * ((Z:Int) * 2)=(d:Int) * Z+(d:Int) * Z+(Z:Int) * 2:=by rw [Int.add_mul,Int.one_mul,e1]
 rcases hb with hb | hb
 ·rw [hb,e1,e2]
  have e3:((d+d+0:Nat):Int) * (Z:Int)=(d:Int) * Z+(d:Int) * Z:=by rw [Nat.add_zero,Int.natCast_add,Int.add_mul]
  have e4:(((d+d+0:Nat):Int)+1) * (Z:Int)=(d:Int) * Z+(d:Int) * Z+Z:=by rw [Int.add_mul,e3,Int.one_mul]
  rw [e3,e4]
  exact ⟨by omega,by omega⟩
 ·rw [hb,e1,e2]
  have e3:((d+d+1:Nat):Int) * (Z:Int)=(d:Int) * Z+(d:Int) * Z+Z:=by rw [Int.natCast_add,Int.natCast_add,Int.add_mul,Int.add_mul];simp
  have e4:(((d+d+1:Nat):Int)+1) * (Z:Int)=(d:Int) * Z+(d:Int) * Z+Z+Z:=by rw [Int.add_mul,e3,Int.one_mul]
  rw [e3,e4]
  exact ⟨by omega,by omega⟩
theorem Zob (s:ByteArray) (j:Nat):∀ m,(Z5 s j).1≤(Z5 s (j+m)).1∧(Z5 s (j+m)).2≤(Z5 s j).2
 | 0=>⟨Rat.le_refl,Rat.le_refl⟩
 | m+1=>by
  obtain ⟨h1,h2⟩:=Zob s j m
  obtain ⟨g1,g2⟩:=Z1a s (j+m)
  exact ⟨Rat.le_trans h1 g1,Rat.le_trans g2 h2⟩
theorem Z09 (s:ByteArray) (i:Nat):(Z5 s i).2≤1:=by
 have h:=(Zob s 0 i).2
 rw [Nat.zero_add,Zs5] at h
 exact h
theorem Zs1 {s:ByteArray} {b k:Nat} (hb:b<2 ^ k) (hs:∀ j,j<k→Th s (j:Int)=some (48+((b / 2 ^ (k - 1 - j) % 2:Nat):Int))):∀ j,j≤k→Wb s j=b / 2 ^ (k - j)
 | 0,_=>by rw [Wb,Nat.sub_zero,Nat.div_eq_of_lt hb]
 | j+1,hj=>by
  have ih:=Zs1 hb hs j (by omega)
  have e:k - j=(k - 1 - j)+1:=by omega
  have e2:k - (j+1)=k - 1 - j:=by omega
  rw [Wb,ih,e2,e,Nat.pow_succ,← Nat.div_div_eq_div_mul,Zau,hs j (by omega)]
  generalize b / 2 ^ (k - 1 - j)=x
  have h:(if some (48+((x % 2:Nat):Int))=some 49 then 1 else 0)=x % 2:=by
   rcases Nat.mod_two_eq_zero_or_one x with h | h
   ·rw [h];rfl
   ·rw [h];rfl
  rw [h];omega
/-! texts of bits -/
theorem Znm:∀ (xs:List Int) (a:ByteArray),(xs.foldl (fun r n=>r.push (UInt8.ofNat n.toNat)) a).data=a.data++(xs.map fun n=>UInt8.ofNat n.toNat).toArray
 | [],a=>by simp
 | x :: xs,a=>by
  rw [List.foldl_cons,Znm xs,ByteArray.data_push,List.map_cons]
  simp
theorem Zrh (xs:List Int):(Y6 xs).size=xs.length:=by
 rw [← ByteArray.size_data,Y6,Znm];simp
theorem Zj9 (v:Nat):∀ k,(Y0 v k).length=k
 | 0=>rfl
 | k+1=>by rw [Y0,List.length_cons,Zj9 v k]
theorem Zrc (v:Nat):∀ (k j:Nat) (h:j<(Y0 v k).length),(Y0 v k)[j]=48+((v / 2 ^ (k - 1 - j) % 2:Nat):Int)
 | 0,j,h=>by rw [Y0] at h;simp at h
 | k+1,0,h=>by simp [Y0]
 | k+1,j+1,h=>by
  have h':j<(Y0 v k).length:=by rw [Y0,List.length_cons] at h;omega
  have:=Zrc v k j h'
  simp only [Y0,List.getElem_cons_succ]
  rw [this,show k+1 - 1 - (j+1)=k - 1 - j by omega]
theorem Zy4 (v k:Nat) (rest:ByteArray) {j:Nat} (hj:j<k):Th (Y6 (Y0 v k)++rest) (j:Int)=some (48+((v / 2 ^ (k - 1 - j) % 2:Nat):Int)):=by
 have hs:(Y6 (Y0 v k)).size=k:=by rw [Zrh,Zj9]
 have h0:j<(Y6 (Y0 v k)++rest).size:=by rw [ByteArray.size_append];omega
 have h1:j<(Y6 (Y0 v k)).size:=by omega
 have e:(Y6 (Y0 v k))[j]=UInt8.ofNat (48+v / 2 ^ (k - 1 - j) % 2):=by
  have hl:j<(Y0 v k).length:=by rw [Zj9];exact hj
  have hd:(Y6 (Y0 v k)).data=((Y0 v k).map fun n=>UInt8.ofNat n.toNat).toArray:=by
   rw [Y6,Znm];simp
  rw [ByteArray.getElem_eq_getElem_data]
  simp only [hd,List.getElem_toArray,List.getElem_map]
  rw [Zrc v k j hl]
  congr 1
 rw [Th,if_pos (by omega),Int.toNat_natCast,getElem?_pos _ j h0,ByteArray.getElem_append_left h1,e]
 rcases Nat.mod_two_eq_zero_or_one (v / 2 ^ (k - 1 - j)) with h | h
 ·rw [h];rfl
 ·rw [h];rfl
/-! which bits fit -/
theorem Z1t (q:Rat):(W1 q:Rat)≤q:=by
 have hd:(0:Int)<q.den:=by have:=q.den_nz;omega
 have e:(W1 q:Rat)=mkRat (W1 q) 1:=by rw [Rat.mkRat_one]
 rw [e]
 conv=>rhs;rw [← Rat.mkRat_self q]
 rw [← Rat.not_lt,Vm q.den_nz (by decide)]
 have:=Int.ediv_mul_le q.num (b:=(q.den:Int)) (by omega)
 rw [W1]
 have e1:((1:Nat):Int)=1:=rfl
 rw [e1,Int.mul_one]
 omega
theorem Z2j {z:Int} {q:Rat} (h:(z:Rat)≤q):z≤W1 q:=by
 have hd:(0:Int)<q.den:=by have:=q.den_nz;omega
 have e:(z:Rat)=mkRat z 1:=by rw [Rat.mkRat_one]
 rw [e,← Rat.mkRat_self q,← Rat.not_lt,Vm q.den_nz (by decide)] at h
 rw [W1,Int.le_ediv_iff_mul_le hd]
 have e1:((1:Nat):Int)=1:=rfl
 rw [e1,Int.mul_one] at h
 omega
theorem Zvr {f:Rat} {c:Int} {Z:Nat} (hZ:Z≠0):f≤mkRat c Z↔f * mkRat (Z:Int) 1≤(c:Rat):=by
 have ht:=Rat.mkRat_self f
 have hd:=f.den_nz
 generalize f.num=m at ht
 generalize f.den=d at ht hd
 subst ht
 rw [show (c:Rat)=mkRat c 1 by rw [Rat.mkRat_one],Rat.mkRat_mul_mkRat,← Rat.not_lt,← Rat.not_lt,Vm hZ hd,Vm (by decide) (by omega)]
 simp
theorem Zq9 (f:Rat) (k:Nat):f≤mkRat (bN f k) (2 ^ k):=by
 rw [Zvr (Zbo k),bN]
 have:=Z1t (-(f * X4 k))
 rw [Rat.intCast_neg]
 generalize (W1 (-(f * X4 k)):Rat)=F at *
 show f * X4 k≤ -F
 grind
theorem Zyw {f:Rat} {k:Nat} {c:Int} (h:f≤mkRat c (2 ^ k)):bN f k≤c:=by
 rw [Zvr (Zbo k)] at h
 have h1:((-c:Int):Rat)≤ -(f * X4 k):=by
  rw [Rat.intCast_neg]
  have h2:f * X4 k≤(c:Rat):=h
  grind
 have:=Z2j h1
 rw [bN];omega
theorem Z22 {a b:Int} {Z:Nat} (hZ:Z≠0) (h:a≤b):mkRat a Z≤mkRat b Z:=by
 rw [← Rat.not_lt,Vm hZ hZ]
 have:=Int.mul_le_mul_of_nonneg_right h (show (0:Int)≤Z by omega)
 omega
theorem Z1o {f t:Rat} {k:Nat} {c:Int} (h1:f≤mkRat c (2 ^ k)) (h2:mkRat (c+1) (2 ^ k)≤t):mkRat (bN f k+1) (2 ^ k)≤t:=
 Rat.le_trans (Z22 (Zbo k) (by have:=Zyw h1;omega)) h2
theorem Z1n {f t:Rat} {k:Nat} (hlt:f<t) (h:mkRat (bN f k+1) (2 ^ k)≤t):Z6 (t - f).den≤Z6 (t - f).num.natAbs+k:=by
 have h1:=Zq9 f k
 have hZ:=Zbo k
 have e:mkRat (bN f k+1) (2 ^ k)=mkRat (bN f k) (2 ^ k)+mkRat 1 (2 ^ k):=(Zmc _ _ hZ).symm
 rw [e] at h
 have h2:mkRat 1 (2 ^ k)≤t - f:=by
  generalize mkRat (bN f k) (2 ^ k)=x at *
  generalize mkRat 1 (2 ^ k)=y at *
  grind
 have h0:0<t - f:=by grind
 generalize t - f=q at *
 have hn:mkRat 0 1<mkRat q.num q.den:=by rw [Rat.mkRat_self];exact h0
 rw [Vm (by decide) q.den_nz] at hn
 rw [← Rat.mkRat_self q,← Rat.not_lt,Vm q.den_nz hZ,Int.one_mul] at h2
 have hnp:0<q.num:=by simp at hn;omega
 have h3:q.den≤q.num.natAbs * 2 ^ k:=by
  generalize (2 ^ k:Nat)=Z at *
  have:(q.num.natAbs:Int)=q.num:=by omega
  have e2:((q.num.natAbs * Z:Nat):Int)=q.num * (Z:Int):=by rw [Int.natCast_mul,this]
  omega
 rw [Vk,Nat.pow_add]
 have h4:=Vk.1 (Nat.le_refl (Z6 q.num.natAbs))
 have h5:q.num.natAbs * 2 ^ k<2 ^ Z6 q.num.natAbs * 2 ^ k:=Nat.mul_lt_mul_of_pos_right h4 (Nat.pow_pos (by decide))
 omega
section
variable {N K:Nat} {f t:Rat} (hf:qs f≤K) (ht:qs t≤K) (hr:Z4 N (13 * K+64)) (hN:2199023255552<N) {e:Nat} (he:e / 32+1≤2 * K+3) (hT:mkRat (bN f e+1) (2 ^ e)≤t)
include hf ht hr hN he hT
theorem Z1h:∀ (m k h:Nat),k+m=e→m<h→∃ q,k≤q∧q≤e∧mkRat (bN f q+1) (2 ^ q)≤t∧(∀ j,k≤j→j<q→¬ mkRat (bN f j+1) (2 ^ j)≤t)∧Zaz N ((Zj f,Zj t),0) h (k:Int)=some (Y6 (Y0 (bN f q).natAbs q),0):=by
 intro m
 induction m with
 | zero=>
  intro k h hk h2
  obtain ⟨h,rfl⟩:∃ h',h=h'+1:=⟨h - 1,by omega⟩
  have:k=e:=by omega
  subst this
  exact ⟨k,Nat.le_refl _,Nat.le_refl _,hT,fun j a b=>by omega,by rw [Zs6 hf ht hr he hN,if_pos hT]⟩
 | succ m ih=>
  intro k h hk h2
  obtain ⟨h,rfl⟩:∃ h',h=h'+1:=⟨h - 1,by omega⟩
  have hke:k / 32+1≤2 * K+3:=by
   have:k / 32≤e / 32:=Nat.div_le_div_right (by omega)
   omega
  rw [Zs6 hf ht hr hke hN]
  by_cases hh:mkRat (bN f k+1) (2 ^ k)≤t
  ·exact ⟨k,Nat.le_refl _,by omega,hh,fun j a b=>by omega,by rw [if_pos hh]⟩
  ·obtain ⟨q,q1,q2,q3,q4,q5⟩:=ih (k+1) h (by omega) (by omega)
   refine ⟨q,by omega,q2,q3,fun j a b=>?_,by rw [if_neg hh];exact q5⟩
   by_cases ej:j=k
   ·subst ej;exact hh
   ·exact q4 j (by omega) b
end
/-! the interval of an assignment,by the program -/
section
variable {N W K:Nat} {n:Z8} (hf:Y9 N n) (hs:Wz n W)
include hf hs
theorem Zue {w:List Int} (hw:Yo n w) {ord:List Int} (ho:Uh n.2.2.2.1 ord):∀ (l:List Int) (s:Rat×Rat) (D M:Nat),(∀ y ∈ l,y ∈ ord)→U4 D M s→∃ D' M',U4 D' M' (X6 n w l s)∧(Zd M').length+(Zd D').length≤(Zd M).length+(Zd D).length+l.length * (W+2)
 | [],s,D,M,_,h=>⟨D,M,h,by simp⟩
 | v :: l,s,D,M,he,h=>by
  have hvr:=ho.rg v (he v List.mem_cons_self)
  rw [hf.ev.p] at hvr
  have hv:v.toNat<n.2.1.length:=by omega
  have hwv:=hw.ok v.toNat (by rw [hw.len];exact hv)
  obtain ⟨D',M',c1,c2,c3⟩:=Zox hf hs hw hv h
  have hm:(Xs (s.2 - s.1) (Xb n w v.toNat) s.1).getD (w.getD v.toNat 0).toNat (0,0) ∈ Xs (s.2 - s.1) (Xb n w v.toNat) s.1:=Zef (by rw [Qr,hf.rowT_len hw hv];omega)
  obtain ⟨D2,M2,g1,g2⟩:=Zue hw ho l _ D' M' (fun y hy=>he y (List.mem_cons_of_mem _ hy)) (c2 _ hm)
  refine ⟨D2,M2,by rw [X6];exact g1,?_⟩
  rw [List.length_cons,Nat.add_mul,Nat.one_mul];omega
theorem Zx4 {w:List Int} (hw:Yo n w) {ord:List Int} (ho:Uh n.2.2.2.1 ord):qs (X6 n w ord (0,1)).1≤ord.length * (W+2)+2∧qs (X6 n w ord (0,1)).2≤ord.length * (W+2)+2:=by
 obtain ⟨D,M,h1,h2⟩:=Zue hf hs hw ho ord (0,1) 1 1 (fun _ h=>h) U4.zero
 have hl:(Zd 1).length=1:=by rw [W5];rfl
 have a:=h1.qa
 have b:=h1.qb
 exact ⟨by omega,by omega⟩
variable (hr:Z4 N (8 * K+40)) (hWK:1025 * (W+2)+4≤K) (hN:2000000<N) (hC:Um N n=some 0) {ord:List Int} (o1:Tm N n.2.2.2.1=some (ord,0)) (ho:Uh n.2.2.2.1 ord) (hol:ord.length≤1024)
include hr hWK hN hC o1 ho hol
theorem Z5d (w:List Int):((decide (w.length=n.2.1.length)&&Vl n w 0)=false→Za0 N n w=some (Zod 3))∧(Yo n w→(decide (w.length=n.2.1.length)&&Vl n w 0)=true→Za0 N n w=some (Ys (X6 n w ord (0,1)),0)):=by
 have hC':Um N (n.1,n.2.1,n.2.2.1,n.2.2.2.1,n.2.2.2.2)=some 0:=hC
 have hle:=hf.le
 rw [Za0,hC',Option.bind_some,if_neg (by decide)]
 by_cases hlen:w.length=n.2.1.length
 ·rw [if_neg (show ¬ (!decide ((w.length:Int)=(n.2.1.length:Int)))=true by rw [decide_eq_true (by omega)];decide),Zx2 hf.ev (by omega) w hlen w 0 false [] [] false [] [] rfl (Nat.zero_le _),decide_eq_true hlen,Bool.true_and]
  cases hin:Vl n w 0 with
  | false=>
   rw [if_neg (show ¬ false=true by decide)]
   exact ⟨fun _=>rfl,fun _ h=>Bool.noConfusion h⟩
  | true=>
   refine ⟨fun h=>Bool.noConfusion h,fun hw _=>?_⟩
   obtain ⟨w',hc⟩:=Z00 hf hs hr hWK (by omega) hw ho hol
   obtain ⟨qa,qb⟩:=Zx4 hf hs hw ho
   have hmul:ord.length * (W+2)≤1024 * (W+2):=Nat.mul_le_mul_right _ hol
   have hc':Zfg N (n.1,n.2.1,n.2.2.1,n.2.2.2.1,n.2.2.2.2) ord w=some (w',Ys (X6 n w ord (0,1)),true):=hc
   rw [if_pos rfl,Qf.eq_1,o1,Option.bind_some,hc',Option.bind_some]
   have f1:=Ztm hr (q:=(X6 n w ord (0,1)).1) (by omega)
   have f2:=Ztm hr (q:=(X6 n w ord (0,1)).2) (by omega)
   exact (by
    show (Zb2 N (((Zj (X6 n w ord (0,1)).1).1.1,(Zj (X6 n w ord (0,1)).1).1.2),(Zj (X6 n w ord (0,1)).1).2)).bind _=_
    rw [f1,Option.bind_some]
    show (Zb2 N (((Zj (X6 n w ord (0,1)).2).1.1,(Zj (X6 n w ord (0,1)).2).1.2),(Zj (X6 n w ord (0,1)).2).2)).bind _=_
    rw [f2];rfl)
 ·rw [if_pos (show (!decide ((w.length:Int)=(n.2.1.length:Int)))=true by rw [decide_eq_false (by omega)];rfl),decide_eq_false hlen,Bool.false_and]
  exact ⟨fun _=>rfl,fun _ h=>Bool.noConfusion h⟩
end
section
variable {N W K:Nat} {n:Z8} (hf:Y9 N n) (hs:Wz n W) (hr:Z4 N (8 * K+40)) (hWK:1025 * (W+2)+15≤K) (hN:2199023255552<N) {ord:List Int} (ho:Uh n.2.2.2.1 ord) (hol:ord.length≤12)
include hf hs hr hWK hN ho hol
theorem Zsj (s:ByteArray) {k:Nat} (hk:k / 32+1≤K):Zb0 N n ord (Ys (Z5 s k))=Zhw (Vs n (fun P=>Vc (Vx (Z5 s k)) P 0 (-1)) ord (List.replicate n.2.1.length 0) (0,1)):=by
 obtain ⟨q1,q2⟩:=Zs4 s k
 have h:=Z01 (x:=Z5 s k) (X:=Ys (Z5 s k)) hf hs hr (by omega) (by omega) ho (by omega) (Yr (Nat.le_trans q1 hk)) (Yr (Nat.le_trans q2 hk)) (Yi _) (Yi _)
 rw [h,Zsn hf ho (Zys (Zoa s k)) ord _ (0,1) (fun _ h=>h) (Zs3 s k) (show (0:Rat)≤1 by decide)]
theorem Z02 {e2:Int} {s:ByteArray} {k:Nat} (hk:k≤s.size) (hkK:k / 32+1≤K) (hss:s.size≤1099511627776) {w:List Int} {S:Rat×Rat} (hd:Vs n (fun P=>Vc (Vx (Z5 s k)) P 0 (-1)) ord (List.replicate n.2.1.length 0) (0,1)=some (w,S))
  (hn:∀ j,j<k→Vs n (fun P=>Vc (Vx (Z5 s j)) P 0 (-1)) ord (List.replicate n.2.1.length 0) (0,1)=none) (hb:∀ j,j<k→∃ c,Th s (j:Int)=some c∧(c=48∨c=49)):∀ (m j g:Nat),j+m=k→m<g→
  Tk N n s (ord,e2) g (Zj (Z5 s j).1).1.1 (Zj (Z5 s j).1).1.2 (Zj (Z5 s j).1).2 (Zj (Z5 s j).2).1.1 (Zj (Z5 s j).2).1.2 (Zj (Z5 s j).2).2 (j:Int)=some (w,(k:Int),0):=by
 intro m
 induction m with
 | zero=>
  intro j g hj hg
  obtain ⟨g,rfl⟩:∃ g',g=g'+1:=⟨g - 1,by omega⟩
  have:j=k:=by omega
  subst this
  have hcut:Zb0 N (n.1,n.2.1,n.2.2.1,n.2.2.2.1,n.2.2.2.2) ((ord,e2):List Int×Int).1 ((((Zj (Z5 s j).1).1.1,(Zj (Z5 s j).1).1.2),(Zj (Z5 s j).1).2),(((Zj (Z5 s j).2).1.1,(Zj (Z5 s j).2).1.2),(Zj (Z5 s j).2).2))=_:=Zsj hf hs hr hWK hN ho hol s hkK
  rw [Tk.eq_2,Zh6,Option.bind_some,hcut,hd,Zhw,Option.bind_some,if_pos rfl]
 | succ m ih=>
  intro j g hj hg
  obtain ⟨g,rfl⟩:∃ g',g=g'+1:=⟨g - 1,by omega⟩
  have hjK:j / 32+1≤K:=by
   have:j / 32≤k / 32:=Nat.div_le_div_right (by omega)
   omega
  have hcut:Zb0 N (n.1,n.2.1,n.2.2.1,n.2.2.2.1,n.2.2.2.2) ((ord,e2):List Int×Int).1 ((((Zj (Z5 s j).1).1.1,(Zj (Z5 s j).1).1.2),(Zj (Z5 s j).1).2),(((Zj (Z5 s j).2).1.1,(Zj (Z5 s j).2).1.2),(Zj (Z5 s j).2).2))=_:=Zsj hf hs hr hWK hN ho hol s hjK
  obtain ⟨c,hc,hok⟩:=hb j (by omega)
  obtain ⟨q1,q2⟩:=Zs4 s j
  have hh:=Z14 (L:=K) (hr.mono (by omega)) s (i:=j) (by omega) (by omega) hc
  have hh':Zfk N ((((Zj (Z5 s j).1).1.1,(Zj (Z5 s j).1).1.2),(Zj (Z5 s j).1).2),(((Zj (Z5 s j).2).1.1,(Zj (Z5 s j).2).1.2),(Zj (Z5 s j).2).2)) (decide (c=49))=some (Ys (Z5 s (j+1))):=hh
  rw [Tk.eq_2,Zh6,Option.bind_some,hcut,hn j (by omega),Zhw,Option.bind_some,if_neg (by decide),if_neg (by rw [decide_eq_false (by omega)];decide),hc,Option.bind_some,Option.bind_some]
  have hJ2:Zdg N s (Zj (Z5 s j).1).1.1 (Zj (Z5 s j).1).1.2 (Zj (Z5 s j).1).2 (Zj (Z5 s j).2).1.1 (Zj (Z5 s j).2).1.2 (Zj (Z5 s j).2).2 (j:Int) (Tk N n s (ord,e2) g) false=some (w,(k:Int),0):=by
   rw [Zdg,if_neg (by decide),Zkz,hc,Option.bind_some,hh',Option.bind_some,Zky,wS (by omega)]
   exact ih (j+1) g (by omega) (by omega)
  rcases hok with rfl | rfl
  ·rw [if_neg (by decide)];exact hJ2
  ·rw [if_pos (by decide)];exact hJ2
variable (hC:Um N n=some 0) (o1:Tm N n.2.2.2.1=some (ord,0)) (hall:∀ i,i<n.2.1.length→(i:Int) ∈ ord)
include hC o1 hall
theorem Zy0 (w:List Int):((decide (w.length=n.2.1.length)&&Vl n w 0)=false→Tl N n w=some (⟨#[]⟩,3))∧
  (Yo n w→(decide (w.length=n.2.1.length)&&Vl n w 0)=true→
   ((X6 n w ord (0,1)).1=(X6 n w ord (0,1)).2→Tl N n w=some (⟨#[]⟩,52))∧
   ((X6 n w ord (0,1)).1≠(X6 n w ord (0,1)).2→∃ bits:ByteArray,Tl N n w=some (bits,0)∧bits.size≤64 * (12 * (W+2)+2)+65∧∀ rest:ByteArray,(bits++rest).size≤1099511627776→Q7 N n (bits++rest)=some (w,(bits.size:Int),0))):=by
 have hmul:ord.length * (W+2)≤12 * (W+2):=Nat.mul_le_mul_right _ hol
 obtain ⟨c1,c2⟩:=Z5d hf hs hr (by omega) (by omega) hC o1 ho (by omega) w
 refine ⟨fun h=>?_,fun hw hin=>?_⟩
 ·have c1':Za0 N (n.1,n.2.1,n.2.2.1,n.2.2.2.1,n.2.2.2.2) w=some (Zod 3):=c1 h
  rw [Tl,c1',Option.bind_some,Zod,if_pos (by decide)]
 ·have c2':Za0 N (n.1,n.2.1,n.2.2.1,n.2.2.2.1,n.2.2.2.2) w=some (Ys (X6 n w ord (0,1)),0):=c2 hw hin
  obtain ⟨qa,qb⟩:=Zx4 hf hs hw ho
  obtain ⟨i1,i2,i3⟩:=Zqp hf ho hw ord (0,1) (fun _ h=>h) (show (0:Rat)≤1 by decide)
  obtain ⟨K1,hK1⟩:∃ K1,K1=ord.length * (W+2)+2:=⟨_,rfl⟩
  rw [← hK1] at qa qb
  have hr1:Z4 N (13 * K1+64):=hr.mono (by omega)
  have enc:∀ f t:Rat,qs f≤K1→qs t≤K1→X6 n w ord (0,1)=(f,t)→f≤t→0≤f→t≤1→
    (f=t→Tl N n w=some (⟨#[]⟩,52))∧(f≠t→∃ q,q / 32+1≤2 * K1+3∧q≤64 * K1+65∧mkRat (bN f q+1) (2 ^ q)≤t∧(∀ j,j<q→¬ mkRat (bN f j+1) (2 ^ j)≤t)∧Tl N n w=some (Y6 (Y0 (bN f q).natAbs q),0)):=by
   intro f t hqf hqt hS hle h0 h1
   have su:Qj N (((Zj t).1.1,(Zj t).1.2),(Zj t).2) (((Zj f).1.1,(Zj f).1.2),(Zj f).2)=some (Zj (t - f)):=by
    have:=Zoj (Yr hqt) (Yr hqf) (hr1.mono (by omega))
    rwa [Yi,Yi] at this
   have ql:=Z3s t f
   have si:Zae N (((Zj (t - f)).1.1,(Zj (t - f)).1.2),(Zj (t - f)).2)=some (Tt (t - f)):=by
    have:=Zoi (Yr (Nat.le_refl (qs (t - f)))) (N:=N) (hr1.mono (by omega))
    rwa [Yi] at this
   have hroom:=hr1.2
   rw [Tl,c2',hS,Option.bind_some]
   dsimp only [Ys]
   rw [if_neg (show ¬ (!decide ((0:Int)=0))=true by decide),su,Option.bind_some,si,Option.bind_some]
   refine ⟨fun he=>?_,fun hne=>?_⟩
   ·subst he
    have:Tt (f - f)≤0:=Zhc.2 (by grind)
    rw [if_pos (decide_eq_true this)]
   ·have hlt:f<t:=Rat.not_le.1 fun h=>hne (Rat.le_antisymm hle h)
    have cc:¬ Tt (t - f)≤0:=fun h=>by
     have h1:t - f≤0:=Zhc.1 h
     exact absurd hlt (Rat.not_lt.2 (by grind))
    have b1:Zba N (Zj (t - f)).2=some ((Z6 (t - f).den:Nat):Int):=by
     have hl:(Zj (t - f)).2.length≤qs (t - f):=Nat.le_max_right _ _
     have:=Znj (N:=N) (a:=(Zj (t - f)).2) (Zy _) (by omega) (by omega)
     rwa [show Zb (Zj (t - f)).2=(t - f).den from Zx _] at this
    have b2:Zba N (Zj (t - f)).1.2=some ((Z6 (t - f).num.natAbs:Nat):Int):=by
     have hl:(Zj (t - f)).1.2.length≤qs (t - f):=Nat.le_max_left _ _
     have:=Znj (N:=N) (a:=(Zj (t - f)).1.2) (Zy _) (by omega) (by omega)
     rwa [show Zb (Zj (t - f)).1.2=(t - f).num.natAbs from Zx _] at this
    have l1:Z6 (t - f).den≤32 * qs (t - f):=Nat.le_trans (Zet _).2 (Nat.mul_le_mul_left 32 (Nat.le_max_right _ _))
    have l2:Z6 (t - f).num.natAbs≤32 * qs (t - f):=Nat.le_trans (Zet _).2 (Nat.mul_le_mul_left 32 (Nat.le_max_left _ _))
    have hT:=Z1q hlt
    have hlong:∀ k,mkRat (bN f k+1) (2 ^ k)≤t→Z6 (t - f).den≤Z6 (t - f).num.natAbs+k:=fun k h=>Z1n hlt h
    rw [if_neg (by rw [decide_eq_false cc];decide),b1,Option.bind_some,b2,Option.bind_some]
    generalize Z6 (t - f).den=A at *
    generalize Z6 (t - f).num.natAbs=B at *
    have e1:i64.wrap (i64.wrap ((A:Int) - (B:Int)) - 1)=(A:Int) - (B:Int) - 1:=by
     rw [Zv (x:=(A:Int) - (B:Int)) (by omega),Zv (by omega)]
    have e2:(if 0>(A:Int) - (B:Int) - 1 then 0 else (A:Int) - (B:Int) - 1)=((A - B - 1:Nat):Int):=by
     split <;> omega
    rw [e1,e2]
    obtain ⟨q,q1,q2,q3,q4,q5⟩:=Z1h hqf hqt hr1 hN (e:=A+1) (by omega) hT (A+1 - (A - B - 1)) (A - B - 1) N (by omega) (by omega)
    refine ⟨q,by omega,by omega,q3,fun j hj hfit=>?_,q5⟩
    by_cases hjk:A - B - 1≤j
    ·exact q4 j hjk hj hfit
    ·have:=hlong j hfit
     omega
  obtain ⟨f,t,hS⟩:∃ f t,X6 n w ord (0,1)=(f,t):=⟨_,_,rfl⟩
  have hS1:(X6 n w ord (0,1)).1=f:=by rw [hS]
  have hS2:(X6 n w ord (0,1)).2=t:=by rw [hS]
  rw [hS1] at qa i1 i2
  rw [hS2] at qb i2 i3
  obtain ⟨n1,n2⟩:=enc f t qa qb hS i2 i1 i3
  rw [hS1,hS2]
  refine ⟨n1,fun hne=>?_⟩
  obtain ⟨q,g1,g2,g3,g4,g5⟩:=n2 hne
  have hbf:=Zq9 f q
  have hq0:=Zbo q
  have hb0:0≤bN f q:=by
   have h1:mkRat 0 (2 ^ q)≤mkRat (bN f q) (2 ^ q):=by rw [Rat.zero_mkRat];exact Rat.le_trans i1 hbf
   rw [← Rat.not_lt,Vm hq0 hq0] at h1
   rcases Int.lt_or_le (bN f q) 0 with h | h
   ·exact absurd (Int.mul_lt_mul_of_pos_right h (Int.ofNat_lt.2 (Nat.pos_of_ne_zero hq0))) h1
   ·exact h
  obtain ⟨b,hb⟩:∃ b:Nat,bN f q=(b:Int):=⟨(bN f q).natAbs,by omega⟩
  rw [hb,Int.natAbs_natCast] at g5
  rw [hb] at g3 hbf
  have hb1:b<2 ^ q:=by
   have h1:mkRat ((b:Int)+1) (2 ^ q)≤mkRat 1 1:=Rat.le_trans g3 i3
   rw [← Rat.not_lt,Vm (by decide) hq0] at h1
   have e1:((1:Nat):Int)=1:=rfl
   rw [e1,Int.one_mul,Int.mul_one] at h1
   omega
  have hsz:(Y6 (Y0 b q)).size=q:=by rw [Zrh,Zj9]
  refine ⟨_,g5,by rw [hsz];omega,fun rest hrest=>?_⟩
  rw [hsz]
  have hbytes:∀ j,j<q→Th (Y6 (Y0 b q)++rest) (j:Int)=some (48+((b / 2 ^ (q - 1 - j) % 2:Nat):Int)):=fun j hj=>Zy4 b q rest hj
  have hqs:q≤(Y6 (Y0 b q)++rest).size:=by rw [ByteArray.size_append,hsz];omega
  generalize Y6 (Y0 b q)++rest=s at *
  have hdy:Z5 s q=(mkRat (b:Int) (2 ^ q),mkRat ((b:Int)+1) (2 ^ q)):=by
   have:=Zs1 hb1 hbytes q (Nat.le_refl _)
   rw [Nat.sub_self,Nat.pow_zero,Nat.div_one] at this
   rw [Z5,this]
  have hin1:(X6 n w ord (0,1)).1≤(Z5 s q).1:=by rw [hS1,hdy];exact hbf
  have hin2:(Z5 s q).2≤(X6 n w ord (0,1)).2:=by rw [hS2,hdy];exact g3
  have hd:=Zsk hf ho hall (Zoa s q) hw hin1 hin2
  have hC':Um N (n.1,n.2.1,n.2.2.1,n.2.2.2.1,n.2.2.2.2)=some 0:=hC
  have run:=Z02 (e2:=0) hf hs hr hWK hN ho hol hqs (by omega) hrest hd (fun j hj=>?_) (fun j hj=>?_) q 0 N (by omega) (by have:=hr.1;omega)
  ·rw [Zs5] at run
   rw [Q7,hC',Option.bind_some,if_neg (by decide),o1,Option.bind_some,Zol (hr.mono (by omega)),Option.bind_some,Zkr,Option.bind_some]
   exact run
  ·have hw1:=Zob s j (q - j)
   rw [show j+(q - j)=q by omega] at hw1
   refine Z03 hf ho hall (Zoa s q) hw hin1 hin2 hw1.1 hw1.2 (Zs3 s j) (Z09 s j) fun hfit=>?_
   rw [hS1,hS2] at hfit
   exact g4 j hj (Z1o hfit.1 hfit.2)
  ·refine ⟨_,hbytes j hj,?_⟩
   rcases Nat.mod_two_eq_zero_or_one (b / 2 ^ (q - 1 - j)) with h | h
   ·rw [h];exact .inl rfl
   ·rw [h];exact .inr rfl
end
abbrev Zng:=ByteArray×List ByteArray×List R5×List R2×List (List QV)
structure Zhl (n:Zng):Prop where
 nm:n.2.1.length≤1048576
 vn:n.2.2.1.length≤1048576
 vl:∀ l ∈ n.2.2.1,l.length≤1048576
 pn:n.2.2.2.1.length≤1048576
 pl:∀ l ∈ n.2.2.2.1,l.length≤1048576
 tn:n.2.2.2.2.length≤1048576
 tl:∀ t ∈ n.2.2.2.2,t.length≤1048576
 tm:∀ t ∈ n.2.2.2.2,∀ x ∈ t,x.1.2.length≤1048576∧x.2.length≤1048576
section
variable {N:Nat} {n:Zng} (hs:Zhl n) (hN:1048577<N)
include hs hN
end
section
variable {N:Nat} {n:Zng} (hs:Zhl n) (hN:1048577<N)
include hs hN
end
def Zg4 (ae:R1) (aa:Int) (kk_L1:(Int→Int→Option Int)) (ab:Int) (ac:Int) (kk_L2:(Int→Int→Option Int)) (af:Bool):Option Int:=
  if af=true then ((Zp ae.2.2.2.2 aa).bind fun ag=>(Zp ag ac).bind fun ad=>kk_L2 (i64.wrap ((i64.wrap (ab+(ad.1.2.length:Int)))+(ad.2.length:Int))) (i64.wrap (ac+1))) else (kk_L1 ab (i64.wrap (aa+1)))
def Zbn (N:Nat) (aa:R1) (ab:Int) (kk_L1:(Int→Int→Option Int)):Nat→Int→Int→Option Int
  | 0,_,_=>none
  | ae+1,ac,ad=>(Zp aa.2.2.2.2 ab).bind fun af=>if (decide (ad<(af.length:Int)))=true then (Zg4 aa ab kk_L1 ac ad (Zbn N aa ab kk_L1 ae) (decide (ac<10000))) else (Zg4 aa ab kk_L1 ac ad (Zbn N aa ab kk_L1 ae) false)
termination_by structural x=>x
def Qp (N:Nat) (aa:R1):Nat→Int→Int→Option Int
  | 0,_,_=>none
  | ad+1,ab,ac=>if (decide (ac<(aa.2.2.2.2.length:Int)))=true then (Zbn N aa ac (Qp N aa ad) N ab 0) else (some (if 10000<ab then 10000 else ab))
termination_by structural x=>x
def Zly (N:Nat) (aa:R1):Option Int:=
  Qp N aa N 0 0
theorem Z0b {N al am an ao:Nat} {ap aq ar au:Option Addr} {col:Ze} {w0:World} {aa:R1} {r:Int} (hm:Zly N aa=some r) (bs:Sl Za.str col w0 ap al aa.2.1) (bt:Sl (Za.slice Za.str) col w0 aq am aa.2.2.1) (bu:Sl (Za.slice (Za.int .i64)) col w0 ar an aa.2.2.2.1) (ag:Sl (Za.slice (Za.pair (Za.pair Za.bool (Za.slice (Za.int .u32))) (Za.slice (Za.int .u32)))) col w0 au ao aa.2.2.2.2):
    Calls Tryz.prog 68 #[(.agg #[.string aa.1,.slice ap aa.2.1.length al,.slice aq aa.2.2.1.length am,.slice ar aa.2.2.2.1.length an,.slice au aa.2.2.2.2.length ao])] w0 (fun e w'=>e= .returned ((.int .i64 r))∧Below w0.heap.size w0 w'):=by
 refine Xo 2 (m:=53) func68 rfl rfl rfl rfl rfl ?_;rw [Zly.eq_1] at hm;have ab:=St.start col w0;refine go ?_;refine Xy (col:=(Zk col)) 1 rfl ?_;intro ay bv bw a8 ac;refine go ?_;replace ab:=ab.grow a8;refine Xe [1,1000000] (fun n f az=>∃ a0 ai aj ae,ae=n∧Qp N aa ae ai aj=some r∧St w0 (Zk col) a0 az∧Zo 27 1 a0 az ay #[.string aa.1,.slice ap aa.2.1.length al,.slice aq aa.2.2.1.length am,.slice ar aa.2.2.2.1.length an,.slice au aa.2.2.2.2.length ao]∧[3,4].map f=[.int .i64 ai,.int .i64 aj]) N ⟨_,0,0,_,rfl,hm,ab,ac,rfl⟩ ?_;clear hm;intro n f az hI;obtain ⟨a0,ai,aj,ae,hn,hm,ab,ac,hs⟩:=hI;subst hn;refine .lL [3,4] hs ?_;replace ag:=ag.keep (Zl.start col w0)
 cases ae with
 | zero=>rw [Qp.eq_1] at hm;cases hm
 | succ ae=>
  rw [Qp.eq_2] at hm;refine go ?_;refine X3 ac ?_;refine go ?_;refine Zs hm (fun hb hm=>go ?_) fun hb hm=>go ?_
  ·refine Xe [1,4,1000000] (fun n f a1=>∃ a2 av aw ah,ah=n∧Zbn N aa aj (Qp N aa ae) ah av aw=some r∧St w0 (Zk col) a2 a1∧Zo 27 1 a2 a1 ay #[.string aa.1,.slice ap aa.2.1.length al,.slice aq aa.2.2.1.length am,.slice ar aa.2.2.2.1.length an,.slice au aa.2.2.2.2.length ao]∧[3,5].map f=[.int .i64 av,.int .i64 aw]) N ⟨_,_,0,_,rfl,hm,ab,ac,rfl⟩ ?_;clear hm;intro n f a1 hI;obtain ⟨a2,av,aw,ah,hn,hm,ab,ac,hs⟩:=hI;subst hn;refine .lL [3,5] hs ?_
   cases ah with
   | zero=>rw [Zbn.eq_1] at hm;cases hm
   | succ ah=>
    rw [Zbn.eq_2] at hm;refine Zw<|Zw ?_;refine Wp.cutK [1,3,4,5,1000000] (fun f a3=>∃ ad a4,Zg4 aa aj (Qp N aa ae) av aw (Zbn N aa aj (Qp N aa ae) ah) a4=some r∧St w0 (Zk col) ad a3∧Zo 27 1 ad a3 ay #[.string aa.1,.slice ap aa.2.1.length al,.slice aq aa.2.2.1.length am,.slice ar aa.2.2.2.1.length an,.slice au aa.2.2.2.2.length ao]∧[24].map f=[.bool a4]) ?_ ?_
    ·intro f a3 hJ;obtain ⟨ad,a4,hm,ab,ac,hs⟩:=hJ;rw [Zg4.eq_1] at hm;refine .lL [24] hs ?_;refine Zs hm (fun hb hm=>go ?_) fun hb hm=>go ?_
     ·refine Ur (col:=ad) (by kernel_rfl) (by kernel_rfl)<|go ?_;refine qF ⟨_,_,rfl⟩ ?_;refine qW (fun _ hC=>((ac.atN).nth (q:=4) rfl).gr (hC.bl ad)) ?_;refine go ?_;obtain ⟨bx,ak,hm⟩:=bZ hm;refine qI ak ((ag.ks ab).addr ak) ?_;obtain ⟨_,a9,ba⟩:=(ag.ks ab).atN ak;obtain ⟨⟨bz,b0,rfl,ax⟩,_⟩:=a9;refine qW (fun _ hC=>ba.one.gr (hC.bl ad)) ?_;refine go ?_;obtain ⟨b1,af,hm⟩:=bZ hm;refine qI af (ax.addr af)<|qF (Ty (ax.addr af)) ?_;refine qF (Ty (Ty (ax.addr af))) ?_;obtain ⟨_,bb,bc⟩:=ax.atN af;obtain ⟨_,_,rfl,bd,be⟩:=Vu bb;obtain ⟨_,_,rfl,bf,bg⟩:=Vu bd;obtain ⟨rfl,_⟩:=bf;obtain ⟨⟨b2,b3,rfl,b4⟩,_⟩:=bg;obtain ⟨⟨b5,b6,rfl,b7⟩,_⟩:=be;refine qW (fun _ hC=>((((bc).part 0 2 _ rfl)).nth (q:=1) rfl).gr (hC.bl ad)) ?_;refine go ?_;refine qF ⟨_,_,rfl⟩ ?_;refine qW (fun _ hC=>((ac.atN).nth (q:=4) rfl).gr (hC.bl ad)) ?_;refine go ?_;refine qI ak ((ag.ks ab).addr ak) ?_;obtain ⟨_,bh,bi⟩:=(ag.ks ab).atN ak;obtain ⟨⟨b8,b9,rfl,a5⟩,_⟩:=bh;refine qW (fun _ hC=>bi.one.gr (hC.bl ad)) ?_;refine go ?_;refine qI af (a5.addr af)<|qF (Ty (a5.addr af)) ?_;obtain ⟨_,bj,bk⟩:=a5.atN af;obtain ⟨_,_,rfl,bm,bn⟩:=Vu bj;obtain ⟨_,_,rfl,bo,bp⟩:=Vu bm;obtain ⟨rfl,_⟩:=bo;obtain ⟨⟨ca,cb,rfl,cc⟩,_⟩:=bp;obtain ⟨⟨cd,ce,rfl,cf⟩,_⟩:=bn;refine qW (fun _ hC=>((bk).nth (q:=2) rfl).gr (hC.bl ad)) ?_;refine go ?_;refine Vn ?_;intro cg hC;replace hC:=hC.bl ad;refine go ?_;replace ac:=ac.gr hC;replace ab:=ab.grow hC;exact ⟨ah,by omega,rfl,⟨_,_,_,_,rfl,hm,ab,ac,rfl⟩⟩
     exact ⟨ae,by omega,rfl,⟨_,_,_,_,rfl,hm,ab,ac,rfl⟩⟩
    refine go ?_;refine X3 ac<|Yn rfl ?_;obtain ⟨ch,a6,hm⟩:=bZ hm;refine lI a6 ((ag.ks ab).addr a6) ?_;obtain ⟨_,bq,br⟩:=(ag.ks ab).atN a6;obtain ⟨⟨ci,cj,rfl,ck⟩,_⟩:=bq;refine lW br.one<|go ?_;refine X1 hm (fun a7 hm=>go ?_) fun a7 hm=>go ?_
    ·refine lV (.bool (decide (av<10000))) (Xm (congrArg Value.bool a7) rfl)<|Zm ?_;exact ⟨rfl,_,_,hm,ab,ac,rfl⟩
    refine lV (.bool false) (Xd (congrArg Value.bool a7) rfl)<|Zm ?_;exact ⟨rfl,_,_,hm,ab,ac,rfl⟩
  refine lV (.int .i64 (if 10000<ai then 10000 else ai)) (Zms ai 10000 rfl rfl)<|go ?_;cases hm;exact ⟨rfl,rfl,ab.below⟩
def Zfx (aa:Bool):Option Bool:=
  some aa
def Zai (N:Nat) (aa:R1) (ab:Int) (ac:Int) (kk_L1:(Int→Int→Option Bool)) (ad:Bool):Option Bool:=
  if ad=true then ((Zp aa.2.2.2.2 ac).bind fun ae=>kk_L1 (i64.wrap (ab+(ae.length:Int))) (i64.wrap (ac+1))) else (if (decide (12<(aa.2.1.length:Int)))=true then (Zfx true) else (if (decide (600<ab))=true then (Zfx true) else (if (decide (12<(aa.2.2.2.2.length:Int)))=true then (Zfx true) else ((Zly N (aa.1,aa.2.1,aa.2.2.1,aa.2.2.2.1,aa.2.2.2.2)).bind fun af=>Zfx (decide (3000<af))))))
def To (N:Nat) (aa:R1):Nat→Int→Int→Option Bool
  | 0,_,_=>none
  | ac+1,ad,ab=>if (decide (ab<(aa.2.2.2.2.length:Int)))=true then (Zai N aa ad ab (To N aa ac) (decide (ab<13))) else (Zai N aa ad ab (To N aa ac) false)
termination_by structural x=>x
def Zfw (N:Nat) (aa:R1):Option Bool:=
  To N aa N 0 0
theorem Zzp {N ai aj ak al:Nat} {am an ao ap:Option Addr} {col:Ze} {w0:World} {aa:R1} {r:Bool} (hm:Zfw N aa=some r) (ar:Sl Za.str col w0 am ai aa.2.1) (au:Sl (Za.slice Za.str) col w0 an aj aa.2.2.1) (av:Sl (Za.slice (Za.int .i64)) col w0 ao ak aa.2.2.2.1) (ae:Sl (Za.slice (Za.pair (Za.pair Za.bool (Za.slice (Za.int .u32))) (Za.slice (Za.int .u32)))) col w0 ap al aa.2.2.2.2):
    Calls Tryz.prog 24 #[(.agg #[.string aa.1,.slice am aa.2.1.length ai,.slice an aa.2.2.1.length aj,.slice ao aa.2.2.2.1.length ak,.slice ap aa.2.2.2.2.length al])] w0 (fun e w'=>e= .returned ((.bool r))∧Below w0.heap.size w0 w'):=by
 refine Xo 2 (m:=43) func24 rfl rfl rfl rfl rfl ?_;rw [Zfw.eq_1] at hm;have ab:=St.start col w0;refine go ?_;refine Xy (col:=(Zk col)) 1 rfl ?_;intro a6 bf bg a9 ac;refine go ?_;replace ab:=ab.grow a9;refine Xe [1,1000000] (fun n f aw=>∃ ax af ag ad,ad=n∧To N aa ad af ag=some r∧St w0 (Zk col) ax aw∧Zo 27 1 ax aw a6 #[.string aa.1,.slice am aa.2.1.length ai,.slice an aa.2.2.1.length aj,.slice ao aa.2.2.2.1.length ak,.slice ap aa.2.2.2.2.length al]∧[3,4].map f=[.int .i64 af,.int .i64 ag]) N ⟨_,0,0,_,rfl,hm,ab,ac,rfl⟩ ?_;clear hm;intro n f aw hI;obtain ⟨ax,af,ag,ad,hn,hm,ab,ac,hs⟩:=hI;subst hn;refine .lL [3,4] hs ?_;replace ar:=ar.keep (Zl.start col w0);replace au:=au.keep (Zl.start col w0);replace av:=av.keep (Zl.start col w0);replace ae:=ae.keep (Zl.start col w0)
 cases ad with
 | zero=>rw [To.eq_1] at hm;cases hm
 | succ ad=>
  rw [To.eq_2] at hm;refine Zw<|Zw ?_;refine Wp.cutK [1,3,4,1000000] (fun f aq=>∃ ah ay,Zai N aa af ag (To N aa ad) ay=some r∧St w0 (Zk col) ah aq∧Zo 27 1 ah aq a6 #[.string aa.1,.slice am aa.2.1.length ai,.slice an aa.2.2.1.length aj,.slice ao aa.2.2.2.1.length ak,.slice ap aa.2.2.2.2.length al]∧[13].map f=[.bool ay]) ?_ ?_
  ·intro f aq hJ;obtain ⟨ah,ay,hm,ab,ac,hs⟩:=hJ;rw [Zai.eq_1] at hm;refine .lL [13] hs ?_;refine Zs hm (fun hb hm=>go ?_) fun hb hm=>?_
   ·refine X3 ac<|Yn rfl ?_;obtain ⟨bh,az,hm⟩:=bZ hm;refine lI az ((ae.ks ab).addr az) ?_;obtain ⟨_,ba,bb⟩:=(ae.ks ab).atN az;obtain ⟨⟨bi,bj,rfl,bk⟩,_⟩:=ba;refine lW bb.one<|go ?_;exact ⟨ad,by omega,rfl,⟨_,_,_,_,rfl,hm,ab,ac,rfl⟩⟩
   refine Zj2 (Zh1 ?_);refine Zw ?_;refine Wp.cutK [1000000] (fun f a7=>∃ a8 a0,Zfx a0=some r∧St w0 (Zk col) a8 a7∧[2].map f=[.bool a0]) ?_ ?_
   ·intro f a7 hJ;obtain ⟨a8,a0,hm,ab,hs⟩:=hJ;rw [Zfx.eq_1] at hm;refine .lL [2] hs<|Vp ?_;cases hm;exact ⟨rfl,rfl,ab.below⟩
   refine Wv<|X3 ac ?_;refine go ?_;refine X1 hm (fun a1 hm=>go ?_) fun a1 hm=>go ?_
   ·refine lV (.bool true) (Xm (congrArg Value.bool a1) rfl)<|X5 rfl<|lP 32 rfl rfl<|lP 32 rfl rfl<|lP 32 rfl rfl<|lP 32 rfl rfl<|lV (.bool true) (Xm rfl rfl)<|X5 rfl<|lP 38 rfl rfl<|lP 38 rfl rfl<|lP 38 rfl rfl<|lV (.bool true) (Xm rfl rfl)<|go ?_;exact ⟨rfl,_,_,hm,ab,rfl⟩
   refine lV (.bool (decide (600<af))) (Xd (congrArg Value.bool a1) rfl)<|X5 rfl ?_;refine X1 hm (fun a2 hm=>go ?_) fun a2 hm=>go ?_
   ·refine lV (.bool true) (Xm (congrArg Value.bool a2) rfl)<|X5 rfl<|lP 38 rfl rfl<|lP 38 rfl rfl<|lP 38 rfl rfl<|lV (.bool true) (Xm rfl rfl)<|go ?_;exact ⟨rfl,_,_,hm,ab,rfl⟩
   refine X8 ⟨_,_,rfl⟩ ?_;refine go ?_;refine lW ((ac.atN).nth (q:=4) rfl)<|go ?_;refine lV (.bool (decide (12<(aa.2.2.2.2.length:Int)))) (Xd (congrArg Value.bool a2) rfl)<|X5 rfl ?_;refine X1 hm (fun a3 hm=>go ?_) fun a3 hm=>go ?_
   ·refine lV (.bool true) (Xm (congrArg Value.bool a3) rfl)<|go ?_;exact ⟨rfl,_,_,hm,ab,rfl⟩
   refine lV _ (Xj isAgg27 sizeOf27 ac)<|go ?_;obtain ⟨bc,bd,hm⟩:=bZ hm;refine Zi (Z0b bd (ar.ks ab) (au.ks ab) (av.ks ab) (ae.ks ab)) ?_;rintro _ be ⟨rfl,a4⟩;refine ⟨_,rfl,?_⟩;replace a4:Zg ah aq ah be:=.of_below a4;refine go ?_;refine lV (.bool (decide (3000<bc))) (Xd (congrArg Value.bool a3) rfl)<|go ?_;replace ab:=ab.grow a4;exact ⟨rfl,_,_,hm,ab,rfl⟩
  refine go ?_;refine X3 ac ?_;refine go ?_;refine X1 hm (fun a5 hm=>go ?_) fun a5 hm=>go ?_
  ·refine lV (.bool (decide (ag<13))) (Xm (congrArg Value.bool a5) rfl)<|Zm ?_;exact ⟨rfl,_,_,hm,ab,ac,rfl⟩
  refine lV (.bool false) (Xd (congrArg Value.bool a5) rfl)<|Zm ?_;exact ⟨rfl,_,_,hm,ab,ac,rfl⟩
def Zeb (N:Nat) (ab:List Int) (ac:List Int):Nat→Int→Option Bool
  | 0,_=>none
  | ad+1,aa=>if (decide (aa<(ab.length:Int)))=true then ((Zp ab aa).bind fun ae=>(Zp ac aa).bind fun af=>if (!decide (ae=af))=true then (some false) else ((Zeb N ab ac ad) (i64.wrap (aa+1)))) else (some true)
termination_by structural x=>x
def Zea (N:Nat) (aa:List Int) (ab:List Int):Option Bool:=
  if (!decide ((aa.length:Int)=(ab.length:Int)))=true then (some false) else (Zeb N aa ab N 0)
theorem Znz {N ai aj:Nat} {a0 a1:Option Addr} {col:Ze} {w0:World} {ad ae:R2} {r:Bool} (hm:Zea N ad ae=some r) (h0:Sl (Za.int .i64) col w0 a0 ai ad) (h1:Sl (Za.int .i64) col w0 a1 aj ae):
    Calls Tryz.prog 14 #[.slice a0 ad.length ai,.slice a1 ae.length aj] w0 (fun e w'=>e= .returned ((.bool r))∧Below w0.heap.size w0 w'):=by
 refine Xo 4 (m:=26) func14 rfl rfl rfl rfl rfl ?_;rw [Zea.eq_1] at hm;have aa:=St.start col w0;refine go ?_;replace h0:=h0.keep (Zl.start col w0);replace h1:=h1.keep (Zl.start col w0);refine Zs hm (fun hb hm=>go ?_) fun hb hm=>go ?_
 ·cases hm;exact ⟨rfl,rfl,aa.below⟩
 refine Xe [0,1,1000000] (fun n f ak=>∃ ab af ac,ac=n∧Zeb N ad ae ac af=some r∧St w0 (Zk col) ab ak∧[5].map f=[.int .i64 af]) N ⟨_,0,_,rfl,hm,aa,rfl⟩ ?_;clear hm;intro n f ak hI;obtain ⟨ab,af,ac,hn,hm,aa,hs⟩:=hI;subst hn;refine .lL [5] hs ?_
 cases ac with
 | zero=>rw [Zeb.eq_1] at hm;cases hm
 | succ ac=>
  rw [Zeb.eq_2] at hm;refine go ?_;refine Zs hm (fun hb hm=>go ?_) fun hb hm=>go ?_
  ·refine Ur (col:=ab) (by kernel_rfl) (by kernel_rfl)<|go ?_;obtain ⟨al,ag,hm⟩:=bZ hm;refine qI ag ((h0.ks aa).addr ag)<|qW (fun _ hC=>((h0.ks aa).gr (hC.bl ab)).atInt ag) ?_;refine go ?_;obtain ⟨am,ah,hm⟩:=bZ hm;refine qI ah ((h1.ks aa).addr ah)<|qW (fun _ hC=>((h1.ks aa).gr (hC.bl ab)).atInt ah) ?_;refine go ?_;refine Vn ?_;intro an hC;replace hC:=hC.bl ab;replace aa:=aa.grow hC;refine Zs hm (fun hb hm=>go ?_) fun hb hm=>go ?_
   ·cases hm;exact ⟨rfl,rfl,aa.below⟩
   exact ⟨ac,by omega,rfl,⟨_,_,_,rfl,hm,aa,rfl⟩⟩
  cases hm;exact ⟨rfl,rfl,aa.below⟩
theorem Zxv {N:Nat} {l:List Int} (hl:l.length≤1048576):∀ (f i:Nat),i≤l.length→l.length<f+i→Zeb N l l f (i:Int)=some true
 | 0,i,h1,h2=>by omega
 | f+1,i,h1,h2=>by
  rw [Zeb.eq_2]
  by_cases hi:i<l.length
  ·rw [if_pos (decide_eq_true (by omega)),Z9 hi,Option.bind_some,Option.bind_some,if_neg (by rw [decide_eq_true rfl];decide),wS (by omega)]
   exact Zxv hl f (i+1) (by omega) (by omega)
  ·rw [if_neg (by rw [decide_eq_false (by omega)];decide)]
theorem Zxw {N:Nat} {l:List Int} (hl:l.length≤1048576) (hN:1048577<N):Zea N l l=some true:=by
 rw [Zea,if_neg (by rw [decide_eq_true rfl];decide)]
 exact Zxv hl N 0 (Nat.zero_le _) (by omega)
/-! which networks are gone through -/
theorem Zuh {N:Nat} {n:Z8} (hb:∀ t ∈ n.2.2.2.2,t.length≤1048576∧∀ x ∈ t,x.1.2.length≤1048576∧x.2.length≤1048576) {i:Nat} (hi:i<n.2.2.2.2.length) (hib:i<4611686018427387904) (kk:Int→Int→Option Int) (hkk:∀ s:Int,0≤s→s≤3000000→∃ r,kk s ((i+1:Nat):Int)=some r):∀ (f k:Nat) (s:Int),0≤s→s≤3000000→k≤n.2.2.2.2[i].length→n.2.2.2.2[i].length<f+k→∃ r,Zbn N n (i:Int) kk f s (k:Int)=some r
 | 0,k,s,_,_,h1,h2=>by omega
 | f+1,k,s,s1,s2,h1,h2=>by
  have ht:=hb _ (List.getElem_mem hi)
  rw [Zbn.eq_2,Z9 hi,Option.bind_some]
  by_cases hk:k<n.2.2.2.2[i].length
  ·have hx:=ht.2 _ (List.getElem_mem hk)
   rw [if_pos (decide_eq_true (by omega)),Zg4]
   by_cases hs:s<10000
   ·rw [decide_eq_true hs,if_pos rfl,Z9 hi,Option.bind_some,Z9 hk,Option.bind_some,Zv (x:=s+_) (by omega),Zv (by omega),wS (by omega)]
    exact Zuh hb hi hib kk hkk f (k+1) _ (by omega) (by omega) (by omega) (by omega)
   ·rw [decide_eq_false hs,if_neg (by decide),wS (by omega)]
    exact hkk s s1 s2
  ·rw [if_neg (by rw [decide_eq_false (by omega)];decide),Zg4,if_neg (by decide),wS (by omega)]
   exact hkk s s1 s2
theorem Zug {N:Nat} {n:Z8} (hb:∀ t ∈ n.2.2.2.2,t.length≤1048576∧∀ x ∈ t,x.1.2.length≤1048576∧x.2.length≤1048576) (hl:n.2.2.2.2.length≤1048576) (hN:1048577<N):∀ (f i:Nat) (s:Int),0≤s→s≤3000000→i≤n.2.2.2.2.length→n.2.2.2.2.length<f+i→∃ r,Qp N n f s (i:Int)=some r
 | 0,i,s,_,_,h1,h2=>by omega
 | f+1,i,s,s1,s2,h1,h2=>by
  rw [Qp.eq_2]
  by_cases hi:i<n.2.2.2.2.length
  ·rw [if_pos (decide_eq_true (by omega))]
   have ht:=hb _ (List.getElem_mem hi)
   have:=Zuh (N:=N) hb hi (by omega) (Qp N n f) (fun s' a b=>Zug hb hl hN f (i+1) s' a b (by omega) (by omega)) N 0 s s1 s2 (Nat.zero_le _) (by omega)
   exact this
  ·rw [if_neg (by rw [decide_eq_false (by omega)];decide)]
   exact ⟨_,rfl⟩
theorem Zuo {N:Nat} {n:Z8} (hb:∀ t ∈ n.2.2.2.2,t.length≤1048576∧∀ x ∈ t,x.1.2.length≤1048576∧x.2.length≤1048576) (hl:n.2.2.2.2.length≤1048576) (hN:1048577<N):∀ (f i:Nat) (s:Int),0≤s→s≤1048576 * (i:Int)→i≤13→13<f+i→∃ r,To N n f s (i:Int)=some r
 | 0,i,s,_,_,h1,h2=>by omega
 | f+1,i,s,s1,s2,h1,h2=>by
  have fin:∃ r,Zai N n s (i:Int) (To N n f) false=some r:=by
   rw [Zai,if_neg (by decide)]
   by_cases c1:(12:Int)<(n.2.1.length:Int)
   ·rw [if_pos (decide_eq_true c1)];exact ⟨_,rfl⟩
   ·rw [if_neg (by rw [decide_eq_false c1];decide)]
    by_cases c2:(600:Int)<s
    ·rw [if_pos (decide_eq_true c2)];exact ⟨_,rfl⟩
    ·rw [if_neg (by rw [decide_eq_false c2];decide)]
     by_cases c3:(12:Int)<(n.2.2.2.2.length:Int)
     ·rw [if_pos (decide_eq_true c3)];exact ⟨_,rfl⟩
     ·rw [if_neg (by rw [decide_eq_false c3];decide)]
      obtain ⟨r,hr⟩:=Zug (N:=N) hb hl hN N 0 0 (by omega) (by omega) (Nat.zero_le _) (by omega)
      have hr':Zly N (n.1,n.2.1,n.2.2.1,n.2.2.2.1,n.2.2.2.2)=some r:=hr
      rw [hr',Option.bind_some];exact ⟨_,rfl⟩
  rw [To.eq_2]
  by_cases hi:i<n.2.2.2.2.length
  ·rw [if_pos (decide_eq_true (by omega))]
   by_cases h13:i<13
   ·rw [decide_eq_true (by omega),Zai,if_pos rfl,Z9 hi,Option.bind_some]
    have ht:=hb _ (List.getElem_mem hi)
    rw [Zv (x:=s+_) (by omega),wS (by omega)]
    exact Zuo hb hl hN f (i+1) _ (by omega) (by omega) (by omega) (by omega)
   ·rw [decide_eq_false (by omega)];exact fin
  ·rw [if_neg (by rw [decide_eq_false (by omega)];decide)];exact fin
theorem Z2u {N:Nat} {n:Z8} (hb:∀ t ∈ n.2.2.2.2,t.length≤1048576∧∀ x ∈ t,x.1.2.length≤1048576∧x.2.length≤1048576) (hl:n.2.2.2.2.length≤1048576) (hN:1048577<N):∃ r,Zfw N n=some r:=
 Zuo hb hl hN N 0 0 (by omega) (by omega) (by omega) (by omega)
theorem Z1f:Vv Tryz.prog 3 1 8:=⟨Tryz.t3,_,rfl,rfl,rfl,rfl,rfl⟩
def Zpb (N:Nat):Option R1:=
  (Tq N 4 5).bind fun aa=>(Tq N 1 5).bind fun ab=>(Tq N 9 10).bind fun ac=>(Tq N 1 10).bind fun ad=>(Tq N 1 10).bind fun ae=>(Tq N 9 10).bind fun af=>some (⟨#[114,97,105,110]⟩,([⟨#[114,97,105,110]⟩,⟨#[103,114,97,115,115]⟩]:List ByteArray),([([⟨#[110,111]⟩,⟨#[121,101,115]⟩]:List ByteArray),([⟨#[100,114,121]⟩,⟨#[119,101,116]⟩]:List ByteArray)]:List R5),[([]:List Int),[0]],[[((aa.1.1,aa.1.2),aa.2),((ab.1.1,ab.1.2),ab.2)],[((ac.1.1,ac.1.2),ac.2),((ad.1.1,ad.1.2),ad.2),((ae.1.1,ae.1.2),ae.2),((af.1.1,af.1.2),af.2)]])
theorem Z0c {N:Nat} {col:Ze} {w0:World} {r:R1} (c1 c2 c3 c4:Nat) (hm:Zpb N=some r):
    Calls Tryz.prog 32 #[] w0 (fun e w'=>∃ (col':Ze) (ra1:Option Addr) (rc2:Nat) (ra4:Option Addr) (rc5:Nat) (ra7:Option Addr) (rc8:Nat) (ra10:Option Addr) (rc11:Nat),e= .returned ((.agg #[.string r.1,.slice ra1 r.2.1.length rc2,.slice ra4 r.2.2.1.length rc5,.slice ra7 r.2.2.2.1.length rc8,.slice ra10 r.2.2.2.2.length rc11]))∧Zg col w0 col' w'∧Zc Za.str 9 c1 col' w' ra1 rc2 r.2.1∧Zc (Za.row 9 Za.str) 22 c2 col' w' ra4 rc5 r.2.2.1∧Zc (Za.row 3 (Za.int .i64)) 39 c3 col' w' ra7 rc8 r.2.2.2.1∧Zc (Za.row 35 (Za.pair (Za.pair Za.bool (Za.row 77 (Za.int .u32))) (Za.row 77 (Za.int .u32)))) 71 c4 col' w' ra10 rc11 r.2.2.2.2):=by
 refine Yu (m:=18) func32 rfl rfl rfl ?_;rw [Zpb.eq_1] at hm;have aa:=St.start col w0;refine go ?_;refine Xl (col:=(Zk col)) #[.string (⟨#[]⟩),.slice none (([]:List ByteArray).length) 0,.slice none (([]:List R5).length) 0,.slice none (([]:List R2).length) 0,(.slice none (([]:List R9).length) 0)] 1 zeroValue27 ?_;intro ee ef cw cx ab;refine go ?_;refine Zor (col:=cw) ([⟨#[114,97,105,110]⟩,⟨#[103,114,97,115,115]⟩]:List ByteArray) 2 ?_;intro cy eg cz cq ac;refine Zor (col:=cz) ([⟨#[110,111]⟩,⟨#[121,101,115]⟩]:List ByteArray) 3 ?_;intro bc eh c0 bd be;refine Zor (col:=c0) ([⟨#[100,114,121]⟩,⟨#[119,101,116]⟩]:List ByteArray) 4 ?_;intro bf cr bg a8 c5;replace be:=be.gr a8;have c6:Xq (Za.row 9 Za.str) 3 bg cr [.slice bc (([⟨#[110,111]⟩,⟨#[121,101,115]⟩]:List ByteArray).length) 2] ([⟨#[110,111]⟩,⟨#[121,101,115]⟩]:List ByteArray):=be.has;have c7:Xq (Za.row 9 Za.str) 4 bg cr [.slice bf (([⟨#[100,114,121]⟩,⟨#[119,101,116]⟩]:List ByteArray).length) 2] ([⟨#[100,114,121]⟩,⟨#[119,101,116]⟩]:List ByteArray):=c5.has;have c8:=Wd.cons (cs:=[.slice bc (([⟨#[110,111]⟩,⟨#[121,101,115]⟩]:List ByteArray).length) 2]) c6 (Wd.cons1 (cs:=[.slice bf (([⟨#[100,114,121]⟩,⟨#[119,101,116]⟩]:List ByteArray).length) 2]) c7 Rows.nil0) (by decide) (by decide);replace ac:=(ac.gr bd).gr a8;replace ac:=ac.recol 3 4 (by decide);replace ab:=((ab.gr cq).gr bd).gr a8;replace ab:=ab.recol 3 4 (by decide);replace aa:=(((aa.grow cx).grow cq).grow bd).grow a8;replace aa:=aa.recol 3 4 (by decide) (by decide);refine Zay (col:=(Xf 3 4 bg)) (r:=(Za.row 9 Za.str)) (xs:=([([⟨#[110,111]⟩,⟨#[121,101,115]⟩]:List ByteArray),([⟨#[100,114,121]⟩,⟨#[119,101,116]⟩]:List ByteArray)]:List R5)) [.slice bc (([⟨#[110,111]⟩,⟨#[121,101,115]⟩]:List ByteArray).length) 2,.slice bf (([⟨#[100,114,121]⟩,⟨#[119,101,116]⟩]:List ByteArray).length) 2] 4 c8 ?_;intro c9 ei da bh ad;refine Zt4 (col:=da) (r:=(Za.int .i64)) 5 rfl underlying39 Z1f rfl ?_;intro bi ej db a9 bj;refine Vb (col:=db) [0] 6 ?_;intro bk ct bm a0 dc;replace bj:=bj.gr a0;have dd:Xq (Za.row 3 (Za.int .i64)) 5 bm ct [.slice bi (([]:List Int).length) 0] ([]:List Int):=bj.has;have de:Xq (Za.row 3 (Za.int .i64)) 6 bm ct [.slice bk ([0].length) 1] [0]:=dc.has;have df:=Wd.cons (cs:=[.slice bi (([]:List Int).length) 0]) dd (Wd.cons1 (cs:=[.slice bk ([0].length) 1]) de Rows.nil0) (by decide) (by decide);replace ac:=((ac.gr bh).gr a9).gr a0
 replace ac:=ac.recol 5 6 (by decide);replace ad:=(ad.gr a9).gr a0;replace ad:=ad.recol 5 6 (by decide);replace ab:=((ab.gr bh).gr a9).gr a0;replace ab:=ab.recol 5 6 (by decide);replace aa:=((aa.grow bh).grow a9).grow a0;replace aa:=aa.recol 5 6 (by decide) (by decide);refine Zay (col:=(Xf 5 6 bm)) (r:=(Za.row 3 (Za.int .i64))) (xs:=[([]:List Int),[0]]) [.slice bi (([]:List Int).length) 0,.slice bk ([0].length) 1] 6 df ?_;intro dg ek dh ba ak;obtain ⟨ae,di,hm⟩:=bZ hm;refine Zi (Ze1 (col:=dh) 7 8 di) ?_;rintro _ el ⟨dj,bn,bo,bp,bq,rfl,a1,br,bs⟩;refine ⟨_,rfl,?_⟩;obtain ⟨af,dl,hm⟩:=bZ hm;refine Zi (Ze1 (col:=dj) 9 10 dl) ?_;rintro _ cu ⟨bt,bu,bv,bw,bx,rfl,aq,bz,b0⟩;refine ⟨_,rfl,?_⟩;replace br:=br.gr aq;replace bs:=bs.gr aq;have dm:=Xq.join (Xq.joinL (Qt ae.1.1) br.has) bs.has (by decide) (by decide);replace ac:=((ac.gr ba).gr a1).gr aq;replace ac:=ac.recol 8 7 (by decide);replace ad:=((ad.gr ba).gr a1).gr aq;replace ad:=ad.recol 8 7 (by decide);replace ak:=(ak.gr a1).gr aq;replace ak:=ak.recol 8 7 (by decide);replace bz:=bz.recol 8 7 (by decide);replace b0:=b0.recol 8 7 (by decide);replace ab:=((ab.gr ba).gr a1).gr aq;replace ab:=ab.recol 8 7 (by decide);replace aa:=((aa.grow ba).grow a1).grow aq;replace aa:=aa.recol 8 7 (by decide) (by decide);have b1:Xq (Za.pair (Za.pair Za.bool (Za.row 77 (Za.int .u32))) (Za.row 77 (Za.int .u32))) 7 (Xf 8 7 bt) cu [.bool ae.1.1,.slice bn ae.1.2.length bo,.slice bp ae.2.length bq] ((ae.1.1,ae.1.2),ae.2):=dm;have dn:=Xq.join (Xq.joinL (Qt af.1.1) bz.has) b0.has (by decide) (by decide);replace ac:=ac.recol 10 9 (by decide);replace ad:=ad.recol 10 9 (by decide);replace ak:=ak.recol 10 9 (by decide);replace ab:=ab.recol 10 9 (by decide);replace aa:=aa.recol 10 9 (by decide) (by decide);replace b1:=b1.recol 10 9 (by decide);have dp:Xq (Za.pair (Za.pair Za.bool (Za.row 77 (Za.int .u32))) (Za.row 77 (Za.int .u32))) 9 (Xf 10 9 (Xf 8 7 bt)) cu [.bool af.1.1,.slice bu af.1.2.length bv,.slice bw af.2.length bx] ((af.1.1,af.1.2),af.2):=dn;have dq:=Wd.cons (cs:=[.bool ae.1.1,.slice bn ae.1.2.length bo,.slice bp ae.2.length bq]) b1 (Wd.cons1 (cs:=[.bool af.1.1,.slice bu af.1.2.length bv,.slice bw af.2.length bx]) dp Rows.nil0) (by decide) (by decide);replace ac:=ac.recol 7 9 (by decide);replace ad:=ad.recol 7 9 (by decide)
 replace ak:=ak.recol 7 9 (by decide);replace ab:=ab.recol 7 9 (by decide);replace aa:=aa.recol 7 9 (by decide) (by decide);refine Zay (col:=(Xf 7 9 (Xf 10 9 (Xf 8 7 bt)))) (r:=(Za.pair (Za.pair Za.bool (Za.row 77 (Za.int .u32))) (Za.row 77 (Za.int .u32)))) (xs:=[((ae.1.1,ae.1.2),ae.2),((af.1.1,af.1.2),af.2)]) [(.agg #[.bool ae.1.1,.slice bn ae.1.2.length bo,.slice bp ae.2.length bq]),(.agg #[.bool af.1.1,.slice bu af.1.2.length bv,.slice bw af.2.length bx])] 9 dq ?_;intro b2 em dr a2 al;obtain ⟨ag,ds,hm⟩:=bZ hm;refine Zi (Ze1 (col:=dr) 11 12 ds) ?_;rintro _ en ⟨dt,b3,b4,b5,b6,rfl,ay,b7,b8⟩;refine ⟨_,rfl,?_⟩;obtain ⟨ah,du,hm⟩:=bZ hm;refine Zi (Ze1 (col:=dt) 13 14 du) ?_;rintro _ eo ⟨dv,b9,ca,cb,cc,rfl,ap,a3,a4⟩;refine ⟨_,rfl,?_⟩;obtain ⟨ai,dw,hm⟩:=bZ hm;refine Zi (Ze1 (col:=dv) 15 16 dw) ?_;rintro _ ep ⟨dx,cd,ce,cf,cg,rfl,ao,ar,au⟩;refine ⟨_,rfl,?_⟩;obtain ⟨aj,dy,hm⟩:=bZ hm;refine Zi (Ze1 (col:=dx) 17 18 dy) ?_;rintro _ bb ⟨a5,ch,ci,cj,ck,rfl,am,av,aw⟩;refine ⟨_,rfl,?_⟩;replace b7:=((b7.gr ap).gr ao).gr am;replace b8:=((b8.gr ap).gr ao).gr am;have dz:=Xq.join (Xq.joinL (Qt ag.1.1) b7.has) b8.has (by decide) (by decide);replace ac:=((((ac.gr a2).gr ay).gr ap).gr ao).gr am;replace ac:=ac.recol 12 11 (by decide);replace ad:=((((ad.gr a2).gr ay).gr ap).gr ao).gr am;replace ad:=ad.recol 12 11 (by decide);replace ak:=((((ak.gr a2).gr ay).gr ap).gr ao).gr am;replace ak:=ak.recol 12 11 (by decide);replace al:=(((al.gr ay).gr ap).gr ao).gr am;replace al:=al.recol 12 11 (by decide);replace a3:=(a3.gr ao).gr am;replace a3:=a3.recol 12 11 (by decide);replace a4:=(a4.gr ao).gr am;replace a4:=a4.recol 12 11 (by decide);replace ar:=ar.gr am;replace ar:=ar.recol 12 11 (by decide);replace au:=au.gr am;replace au:=au.recol 12 11 (by decide);replace av:=av.recol 12 11 (by decide);replace aw:=aw.recol 12 11 (by decide);replace ab:=((((ab.gr a2).gr ay).gr ap).gr ao).gr am;replace ab:=ab.recol 12 11 (by decide);replace aa:=((((aa.grow a2).grow ay).grow ap).grow ao).grow am;replace aa:=aa.recol 12 11 (by decide) (by decide)
 have an:Xq (Za.pair (Za.pair Za.bool (Za.row 77 (Za.int .u32))) (Za.row 77 (Za.int .u32))) 11 (Xf 12 11 a5) bb [.bool ag.1.1,.slice b3 ag.1.2.length b4,.slice b5 ag.2.length b6] ((ag.1.1,ag.1.2),ag.2):=dz;have d0:=Xq.join (Xq.joinL (Qt ah.1.1) a3.has) a4.has (by decide) (by decide);replace ac:=ac.recol 14 13 (by decide);replace ad:=ad.recol 14 13 (by decide);replace ak:=ak.recol 14 13 (by decide);replace al:=al.recol 14 13 (by decide);replace ar:=ar.recol 14 13 (by decide);replace au:=au.recol 14 13 (by decide);replace av:=av.recol 14 13 (by decide);replace aw:=aw.recol 14 13 (by decide);replace ab:=ab.recol 14 13 (by decide);replace aa:=aa.recol 14 13 (by decide) (by decide);replace an:=an.recol 14 13 (by decide);have ax:Xq (Za.pair (Za.pair Za.bool (Za.row 77 (Za.int .u32))) (Za.row 77 (Za.int .u32))) 13 (Xf 14 13 (Xf 12 11 a5)) bb [.bool ah.1.1,.slice b9 ah.1.2.length ca,.slice cb ah.2.length cc] ((ah.1.1,ah.1.2),ah.2):=d0;have d1:=Xq.join (Xq.joinL (Qt ai.1.1) ar.has) au.has (by decide) (by decide);replace ac:=ac.recol 16 15 (by decide);replace ad:=ad.recol 16 15 (by decide);replace ak:=ak.recol 16 15 (by decide);replace al:=al.recol 16 15 (by decide);replace av:=av.recol 16 15 (by decide);replace aw:=aw.recol 16 15 (by decide);replace ab:=ab.recol 16 15 (by decide);replace aa:=aa.recol 16 15 (by decide) (by decide);replace an:=an.recol 16 15 (by decide);replace ax:=ax.recol 16 15 (by decide);have cl:Xq (Za.pair (Za.pair Za.bool (Za.row 77 (Za.int .u32))) (Za.row 77 (Za.int .u32))) 15 (Xf 16 15 (Xf 14 13 (Xf 12 11 a5))) bb [.bool ai.1.1,.slice cd ai.1.2.length ce,.slice cf ai.2.length cg] ((ai.1.1,ai.1.2),ai.2):=d1;have d2:=Xq.join (Xq.joinL (Qt aj.1.1) av.has) aw.has (by decide) (by decide);replace ac:=ac.recol 18 17 (by decide);replace ad:=ad.recol 18 17 (by decide);replace ak:=ak.recol 18 17 (by decide);replace al:=al.recol 18 17 (by decide);replace ab:=ab.recol 18 17 (by decide);replace aa:=aa.recol 18 17 (by decide) (by decide);replace an:=an.recol 18 17 (by decide);replace ax:=ax.recol 18 17 (by decide);replace cl:=cl.recol 18 17 (by decide);have d3:Xq (Za.pair (Za.pair Za.bool (Za.row 77 (Za.int .u32))) (Za.row 77 (Za.int .u32))) 17 (Xf 18 17 (Xf 16 15 (Xf 14 13 (Xf 12 11 a5)))) bb [.bool aj.1.1,.slice ch aj.1.2.length ci,.slice cj aj.2.length ck] ((aj.1.1,aj.1.2),aj.2):=d2
 have d4:=Wd.cons (cs:=[.bool ai.1.1,.slice cd ai.1.2.length ce,.slice cf ai.2.length cg]) cl (Wd.cons1 (cs:=[.bool aj.1.1,.slice ch aj.1.2.length ci,.slice cj aj.2.length ck]) d3 Rows.nil0) (by decide) (by decide);replace an:=an.recol 15 17 (by decide);replace ax:=ax.recol 15 17 (by decide);replace ac:=ac.recol 15 17 (by decide);replace ad:=ad.recol 15 17 (by decide);replace ak:=ak.recol 15 17 (by decide);replace al:=al.recol 15 17 (by decide);replace ab:=ab.recol 15 17 (by decide);replace aa:=aa.recol 15 17 (by decide) (by decide);have d5:=Wd.cons (cs:=[.bool ah.1.1,.slice b9 ah.1.2.length ca,.slice cb ah.2.length cc]) ax d4 (by decide) (by decide);replace an:=an.recol 13 17 (by decide);replace ac:=ac.recol 13 17 (by decide);replace ad:=ad.recol 13 17 (by decide);replace ak:=ak.recol 13 17 (by decide);replace al:=al.recol 13 17 (by decide);replace ab:=ab.recol 13 17 (by decide);replace aa:=aa.recol 13 17 (by decide) (by decide);have d6:=Wd.cons (cs:=[.bool ag.1.1,.slice b3 ag.1.2.length b4,.slice b5 ag.2.length b6]) an d5 (by decide) (by decide);replace ac:=ac.recol 11 17 (by decide);replace ad:=ad.recol 11 17 (by decide);replace ak:=ak.recol 11 17 (by decide);replace al:=al.recol 11 17 (by decide);replace ab:=ab.recol 11 17 (by decide);replace aa:=aa.recol 11 17 (by decide) (by decide);refine Zay (col:=(Xf 11 17 (Xf 13 17 (Xf 15 17 (Xf 18 17 (Xf 16 15 (Xf 14 13 (Xf 12 11 a5)))))))) (r:=(Za.pair (Za.pair Za.bool (Za.row 77 (Za.int .u32))) (Za.row 77 (Za.int .u32)))) (xs:=[((ag.1.1,ag.1.2),ag.2),((ah.1.1,ah.1.2),ah.2),((ai.1.1,ai.1.2),ai.2),((aj.1.1,aj.1.2),aj.2)]) [(.agg #[.bool ag.1.1,.slice b3 ag.1.2.length b4,.slice b5 ag.2.length b6]),(.agg #[.bool ah.1.1,.slice b9 ah.1.2.length ca,.slice cb ah.2.length cc]),(.agg #[.bool ai.1.1,.slice cd ai.1.2.length ce,.slice cf ai.2.length cg]),(.agg #[.bool aj.1.1,.slice ch aj.1.2.length ci,.slice cj aj.2.length ck])] 17 d6 ?_;intro cn cv co az d7;replace al:=al.gr az;have d8:Xq (Za.row 35 (Za.pair (Za.pair Za.bool (Za.row 77 (Za.int .u32))) (Za.row 77 (Za.int .u32)))) 9 co cv [.slice b2 ([((ae.1.1,ae.1.2),ae.2),((af.1.1,af.1.2),af.2)].length) 2] [((ae.1.1,ae.1.2),ae.2),((af.1.1,af.1.2),af.2)]:=al.has
 have d9:Xq (Za.row 35 (Za.pair (Za.pair Za.bool (Za.row 77 (Za.int .u32))) (Za.row 77 (Za.int .u32)))) 17 co cv [.slice cn ([((ag.1.1,ag.1.2),ag.2),((ah.1.1,ah.1.2),ah.2),((ai.1.1,ai.1.2),ai.2),((aj.1.1,aj.1.2),aj.2)].length) 4] [((ag.1.1,ag.1.2),ag.2),((ah.1.1,ah.1.2),ah.2),((ai.1.1,ai.1.2),ai.2),((aj.1.1,aj.1.2),aj.2)]:=d7.has;have ea:=Wd.cons (cs:=[.slice b2 ([((ae.1.1,ae.1.2),ae.2),((af.1.1,af.1.2),af.2)].length) 2]) d8 (Wd.cons1 (cs:=[.slice cn ([((ag.1.1,ag.1.2),ag.2),((ah.1.1,ah.1.2),ah.2),((ai.1.1,ai.1.2),ai.2),((aj.1.1,aj.1.2),aj.2)].length) 4]) d9 Rows.nil0) (by decide) (by decide);replace ac:=ac.gr az;replace ac:=ac.recol 9 17 (by decide);replace ad:=ad.gr az;replace ad:=ad.recol 9 17 (by decide);replace ak:=ak.gr az;replace ak:=ak.recol 9 17 (by decide);replace ab:=ab.gr az;replace ab:=ab.recol 9 17 (by decide);replace aa:=aa.grow az;replace aa:=aa.recol 9 17 (by decide) (by decide);refine Zay (col:=(Xf 9 17 co)) (r:=(Za.row 35 (Za.pair (Za.pair Za.bool (Za.row 77 (Za.int .u32))) (Za.row 77 (Za.int .u32))))) (xs:=[[((ae.1.1,ae.1.2),ae.2),((af.1.1,af.1.2),af.2)],[((ag.1.1,ag.1.2),ag.2),((ah.1.1,ah.1.2),ah.2),((ai.1.1,ai.1.2),ai.2),((aj.1.1,aj.1.2),aj.2)]]) [.slice b2 ([((ae.1.1,ae.1.2),ae.2),((af.1.1,af.1.2),af.2)].length) 2,.slice cn ([((ag.1.1,ag.1.2),ag.2),((ah.1.1,ah.1.2),ah.2),((ai.1.1,ai.1.2),ai.2),((aj.1.1,aj.1.2),aj.2)].length) 4] 17 ea ?_;intro eb eq er a6 cp;refine lV (.agg #[.string (⟨#[114,97,105,110]⟩),.slice cy (([⟨#[114,97,105,110]⟩,⟨#[103,114,97,115,115]⟩]:List ByteArray).length) 2,.slice c9 (([([⟨#[110,111]⟩,⟨#[121,101,115]⟩]:List ByteArray),([⟨#[100,114,121]⟩,⟨#[119,101,116]⟩]:List ByteArray)]:List R5).length) 2,.slice dg ([([]:List Int),[0]].length) 2,.slice eb ([[((ae.1.1,ae.1.2),ae.2),((af.1.1,af.1.2),af.2)],[((ag.1.1,ag.1.2),ag.2),((ah.1.1,ah.1.2),ah.2),((ai.1.1,ai.1.2),ai.2),((aj.1.1,aj.1.2),aj.2)]].length) 2]) (Yk (l:=[_,_,_,_,_]) (qs:=[(0,1),(1,1),(2,1),(3,1),(4,1)]) underlying27 zeroValue27 ⟨rfl,sizeOf9,rfl,sizeOf22,rfl,sizeOf23,rfl,sizeOf24,rfl,sizeOf25,trivial⟩ rfl) ?_;replace ab:=ab.gr a6;refine Z2 ab ?_;intro es a7 ec ed;refine go ?_;cases hm;replace ac:=(ac.gr a6).kp a7;replace ad:=(ad.gr a6).kp a7;replace ak:=(ak.gr a6).kp a7;replace aa:=(aa.grow a6).kp a7 ec
 replace cp:=cp.kp a7;exact ⟨rfl,_,ra ed.atN,_,_,2,_,2,_,2,_,2,rfl,aa.fin (cm [(2,c1),(4,c2),(6,c3),(17,c4)]),aa.fo ac,aa.fo ad,aa.fo ak,aa.fo cp⟩
def Zjc (N:Nat):Nat→R2→Int→Int→Option R2
  | 0,_,_,_=>none
  | ae+1,ab,ac,aa=>if (decide (ac<aa))=true then ((Zp ab aa).bind fun af=>(Zp ab ac).bind fun ag=>(some (ab.set (Int.toNat ac) af)).bind fun ad=>(Zp ad aa).bind fun ai=>(some (ad.set (Int.toNat aa) ag)).bind fun ah=>(Zjc N ae) ah (i64.wrap (ac+1)) (i64.wrap (aa - 1))) else (some ab)
termination_by structural x=>x
def Zpd (N:Nat) (aa:List Int):Option R2:=
  Zjc N N aa 0 (i64.wrap ((aa.length:Int) - 1))
theorem Z0j {N aa:Nat} {a0:Option Addr} {col:Ze} {w0:World} {af r:R2} (qc0:Nat) (hm:Zpd N af=some r) (hd:Qc [qc0]=true) (h0:Zc (Za.int .u8) 5 qc0 col w0 a0 aa af):
    Calls Tryz.prog 147 #[.slice a0 af.length aa] w0 (fun e w'=>∃ (col':Ze),e= .returned (.tuple #[])∧Zz (pS [qc0]) col w0 col' w'∧Zc (Za.int .u8) 5 qc0 col' w' a0 aa r∧r.length=af.length):=by
 refine Zkn (m:=28) (args:=[.slice a0 af.length aa]) func147 rfl rfl rfl rfl ?_;rw [Zpd.eq_1] at hm;have ab:=St.startL (l:=[qc0]) rfl col w0;replace h0:=h0.startL (Zaw hd 0 rfl) (Zav hd 0 rfl);refine go ?_;refine Xe [1000000] (fun n f au=>∃ ac ad an ao ai,ai=n∧Zjc N ai ad an ao=some r∧St w0 (Xv [qc0] col) ac au∧Zc (Za.int .u8) 5 440 ac au a0 aa ad∧ad.length=af.length∧ad.length=af.length∧[0,2,3].map f=[.slice a0 ad.length aa,.int .i64 an,.int .i64 ao]) N ⟨_,_,0,_,_,rfl,hm,ab,h0,rfl,rfl,rfl⟩ ?_;clear hm;intro n f au hI;obtain ⟨ac,ad,an,ao,ai,hn,hm,ab,ag,ay,az,hs⟩:=hI;subst hn;refine .lL [0,2,3] hs ?_
 cases ai with
 | zero=>rw [Zjc.eq_1] at hm;cases hm
 | succ ai=>
  rw [Zjc.eq_2] at hm;refine go ?_;refine Zs hm (fun hb hm=>go ?_) fun hb hm=>go ?_
  ·refine W6 (col:=ac) [(0,1),(1,1),(2,1),(3,1),(4,1),(5,1),(6,1),(7,0),(8,1),(9,1),(10,1),(11,0),(12,1),(13,2),(14,1),(15,2)] (by kernel_rfl) (by kernel_rfl)<|xu rfl rfl (fun _=>Ug rfl) ?_;refine xu rfl rfl (fun _=>Vg rfl) ?_;refine xu rfl rfl (fun _=>Ug rfl) ?_;refine xu rfl rfl (fun _=>Vg rfl) ?_;refine xu rfl rfl (fun _=>Ug rfl) ?_;refine xu rfl rfl (fun _=>Vg rfl) ?_;obtain ⟨av,ap,hm⟩:=bZ hm;refine xu rfl rfl (fun _=>We underlying127 sizeOf5 rfl rfl (Xk ap).1 (Xk ap).2.1 (ag.addr ap)) ?_;refine xW (fun _ hC=>(ag.gr (hC.bl ac)).atInt ap) ?_;refine xu rfl rfl (fun _=>Ug rfl) ?_;refine xu rfl rfl (fun _=>Vg rfl) ?_;obtain ⟨aw,ah,hm⟩:=bZ hm;refine xu rfl rfl (fun _=>We underlying127 sizeOf5 rfl rfl (Xk ah).1 (Xk ah).2.1 (ag.addr ah)) ?_;refine xW (fun _ hC=>(ag.gr (hC.bl ac)).atInt ah) ?_;refine xu rfl rfl (fun _=>We underlying127 sizeOf5 rfl rfl (Xk ah).1 (Xk ah).2.1 (ag.addr ah)) ?_;refine xe rfl rfl ?_;intro a6 hC0;have hC:=hC0.bl ac;obtain ⟨ae,aj,hm⟩:=bZ hm;have aj:ae=ad.set (Int.toNat an) av:=(Option.some.inj aj).symm;replace ag:=ag.gr hC;refine Y4 (x1:=av) ag ah ?_;intro a7 a1 a2 ak;rw [← aj] at ak;have a3:ae.length=af.length:=(show ad.length=ae.length by rw [aj,List.length_set]).symm.trans ay;refine .ld (d:=0) (v:=(.slice a0 ae.length aa)) (congrArg (fun n=>Value.slice a0 n aa) (show ad.length=ae.length by rw [aj,List.length_set])) ?_;refine .ld (d:=16) (v:=(.slice a0 ae.length aa)) (congrArg (fun n=>Value.slice a0 n aa) (show ad.length=ae.length by rw [aj,List.length_set])) ?_;refine Zm<|xk ac ?_;obtain ⟨a8,aq,hm⟩:=bZ hm;refine xu rfl rfl (fun _=>We underlying127 sizeOf5 rfl rfl (Xk aq).1 (Xk aq).2.1 (ak.addr aq)) ?_;refine xe rfl rfl ?_;intro a9 hC0;replace ab:=(ab.grow hC).kp a1 a2;have hC:=hC0.bl ac;obtain ⟨al,am,hm⟩:=bZ hm;have am:al=ae.set (Int.toNat ao) aw:=(Option.some.inj am).symm;replace ak:=ak.gr hC;refine Y4 (x1:=aw) ak aq ?_;intro ba a4 a5 ar;rw [← am] at ar;have ax:al.length=af.length:=(show ae.length=al.length by rw [am,List.length_set]).symm.trans a3;refine .ld (d:=0) (v:=(.slice a0 al.length aa)) (congrArg (fun n=>Value.slice a0 n aa) (show ae.length=al.length by rw [am,List.length_set])) ?_;refine Zm<|xk ac<|W3 ?_;replace ab:=(ab.grow hC).kp a4 a5;intro bb hC;replace hC:=hC.bl ac;refine go ?_;replace ar:=ar.gr hC;replace ab:=ab.grow hC
   exact ⟨ai,by omega,rfl,⟨_,_,_,_,_,rfl,hm,ab,ar,ax,ax,rfl⟩⟩
  cases hm;exact ⟨rfl,_,rfl,ab.finL rfl (cm [(440,qc0)]),ab.foL ag,az⟩
def Zo1 (ab:List Int) (aa:Int) (ac:Int) (kk_L2:(List Int→Int→Int→Option ByteArray)):Option ByteArray:=
  Z7 ((ab.length+[u8.wrap (48+(u8.wrap (Int.tmod aa 10)))].length) * 1≤140737488355328∧ab.length+[u8.wrap (48+(u8.wrap (Int.tmod aa 10)))].length≤maxLen) (kk_L2 (ab++[u8.wrap (48+(u8.wrap (Int.tmod aa 10)))]) (u32.wrap (Int.tdiv aa 10)) (i64.wrap (ac+1)))
def Zim (kk_L1:(List Int→R2→Option ByteArray)) (ab:List Int) (aa:List Int) (ac:Int) (ad:Int) (kk_L2:(List Int→Int→Int→Option ByteArray)) (ae:Bool):Option ByteArray:=
  if ae=true then (Zo1 aa ac ad kk_L2) else (kk_L1 ab aa)
def Zbc (N:Nat) (kk_L1:(List Int→R2→Option ByteArray)) (aa:List Int):Nat→R2→Int→Int→Option ByteArray
  | 0,_,_,_=>none
  | ad+1,ae,ab,ac=>if (decide (ac<9))=true then (if (decide (0<(aa.length:Int)))=true then (Zim kk_L1 aa ae ab ac (Zbc N kk_L1 aa ad) true) else (Zim kk_L1 aa ae ab ac (Zbc N kk_L1 aa ad) (decide (0<ab)))) else (Zim kk_L1 aa ae ab ac (Zbc N kk_L1 aa ad) false)
termination_by structural x=>x
def Zbb (N:Nat):Nat→R2→R2→Option ByteArray
  | 0,_,_=>none
  | ad+1,aa,ab=>if (decide (0<(aa.length:Int)))=true then ((Zgi N aa 1000000000).bind fun ac=>(Zcm N ac.2).bind fun ae=>Zbc N (Zbb N ad) ae N ab ac.1 0) else ((Zpd N ab).bind fun af=>some (Y6 af))
termination_by structural x=>x
def Zil (N:Nat) (ab:List Int):Option ByteArray:=
  (V4 N ab).bind fun aa=>if (decide ((aa.length:Int)=0))=true then (some (⟨#[48]⟩)) else (Zbb N N aa ([]:List Int))
theorem Znu {N bc:Nat} {a0:Option Addr} {col:Ze} {w0:World} {a6:R2} {r:ByteArray} (hm:Zil N a6=some r) (h0:Sl (Za.int .u32) col w0 a0 bc a6):
    Calls Tryz.prog 87 #[.slice a0 a6.length bc] w0 (fun e w'=>e= .returned ((.string r))∧Below w0.heap.size w0 w'):=by
 refine Xo 2 (m:=45) func87 rfl rfl rfl rfl rfl ?_;rw [Zil.eq_1] at hm;have aa:=St.start col w0;refine go ?_;obtain ⟨bw,bi,hm⟩:=bZ hm;replace h0:=h0.keep (Zl.start col w0);refine Zi (U8 1 bi (h0.ks aa)) ?_;rintro _ bx ⟨bz,b0,b1,rfl,bj,bk⟩;refine ⟨_,rfl,go ?_⟩;replace aa:=aa.grow bj;refine Zs hm (fun hb hm=>go ?_) fun hb hm=>go ?_
 ·cases hm;exact ⟨rfl,rfl,aa.below⟩
 refine Xe [1000000] (fun n f av=>∃ aw ah ai am aj ak an ad,ad=n∧Zbb N ad am an=some r∧St w0 (Zk col) aw av∧Zc (Za.int .u32) 77 1 aw av ah ai am∧Zc (Za.int .u8) 5 2 aw av aj ak an∧[3,4].map f=[.slice ah am.length ai,.slice aj an.length ak]) N ⟨_,_,_,_,none,0,_,_,rfl,hm,aa,bk,Zc.nil,rfl⟩ ?_;clear hm;intro n f av hI;obtain ⟨aw,ah,ai,am,aj,ak,an,ad,hn,hm,aa,bm,ax,hs⟩:=hI;subst hn;refine .lL [3,4] hs ?_
 cases ad with
 | zero=>rw [Zbb.eq_1] at hm;cases hm
 | succ ad=>
  rw [Zbb.eq_2] at hm;refine go ?_;refine Zs hm (fun hb hm=>go ?_) fun hb hm=>go ?_
  ·obtain ⟨ay,bn,hm⟩:=bZ hm;refine Zi (Zrs 1 bn rfl bm) ?_;rintro _ b2 ⟨b3,rfl,bd,bo,be⟩;refine ⟨_,rfl,?_⟩;refine .ld (d:=3) (v:=(.slice ah ay.2.length ai)) (congrArg (fun n=>Value.slice ah n ai) (show am.length=ay.2.length from be.symm)) ?_;refine .ld (d:=15) (v:=(.slice ah ay.2.length ai)) (congrArg (fun n=>Value.slice ah n ai) (show am.length=ay.2.length from be.symm)) ?_;refine go ?_;obtain ⟨al,bp,hm⟩:=bZ hm;refine Zi (Znw 1 bp rfl bo) ?_;rintro _ b4 ⟨b5,a7,a8,rfl,bf,ab⟩;refine ⟨_,rfl,go ?_⟩;replace ax:=(ax.kpp bd).kpp bf;replace aa:=(aa.kpp bd).kpp bf;refine Xe [3,1000000] (fun n f az=>∃ a1 ao ap af ac aq ag,ag=n∧Zbc N (Zbb N ad) al ag af ac aq=some r∧St w0 (Zk col) a1 az∧Zc (Za.int .u32) 77 1 a1 az a7 a8 al∧Zc (Za.int .u8) 5 2 a1 az ao ap af∧[4,5,6].map f=[.slice ao af.length ap,.int .u32 ac,.int .i64 aq]) N ⟨_,_,_,_,_,0,_,rfl,hm,aa,ab,ax,rfl⟩ ?_;clear hm;intro n f az hI;obtain ⟨a1,ao,ap,af,ac,aq,ag,hn,hm,aa,ab,ae,hs⟩:=hI;subst hn;refine .lL [4,5,6] hs ?_
   cases ag with
   | zero=>rw [Zbc.eq_1] at hm;cases hm
   | succ ag=>
    rw [Zbc.eq_2] at hm;refine Zw ?_;refine Wp.cutK [3,4,5,6,1000000] (fun f a2=>∃ ar,Zo1 af ac aq (Zbc N (Zbb N ad) al ag)=some r∧St w0 (Zk col) ar a2∧Zc (Za.int .u32) 77 1 ar a2 a7 a8 al∧Zc (Za.int .u8) 5 2 ar a2 ao ap af) ?_ ?_
    ·intro f a2 hJ;obtain ⟨ar,hm,aa,ab,ae⟩:=hJ;rw [Zo1.eq_1] at hm;refine go ?_;refine lV (.int .u32 (Int.tmod ac 10)) (Tu ac 10 rfl rfl (by decide))<|go ?_;refine Vb (col:=ar) [u8.wrap (48+(u8.wrap (Int.tmod ac 10)))] 3 ?_;intro b6 b7 b8 a9 bq;obtain ⟨br,hm⟩:=Xc hm;replace ae:=ae.gr a9;refine T7 ae (bq.srcN (NB.int (k:=.u8))) br ?_;intro b9 ca cb cc bg bs;refine go ?_;refine lV (.int .u32 (u32.wrap (Int.tdiv ac 10))) (Vo ac 10 rfl rfl (by decide))<|go ?_;replace ab:=(ab.gr a9).kpp bg;replace aa:=(aa.grow a9).kpp bg;exact ⟨ag,by omega,rfl,⟨_,_,_,_,_,_,_,rfl,hm,aa,ab,bs,rfl⟩⟩
    refine Zw ?_;refine Wp.cutK [3,4,5,6,1000000] (fun f a3=>∃ a4 ba,Zim (Zbb N ad) al af ac aq (Zbc N (Zbb N ad) al ag) ba=some r∧St w0 (Zk col) a4 a3∧Zc (Za.int .u32) 77 1 a4 a3 a7 a8 al∧Zc (Za.int .u8) 5 2 a4 a3 ao ap af∧[29].map f=[.bool ba]) ?_ ?_
    ·intro f a3 hJ;obtain ⟨a4,ba,hm,aa,ab,ae,hs⟩:=hJ;rw [Zim.eq_1] at hm;refine .lL [29] hs ?_;refine Zs hm (fun hb hm=>?_) fun hb hm=>go ?_
     ·refine Yc ?_;exact ⟨rfl,_,hm,aa,ab,ae⟩
     exact ⟨ad,by omega,rfl,⟨_,_,_,_,_,_,_,_,rfl,hm,aa,ab,ae,rfl⟩⟩
    refine go ?_;refine X1 hm (fun a5 hm=>go ?_) fun a5 hm=>go ?_
    ·refine X1 hm (fun bb hm=>go ?_) fun bb hm=>go ?_
     ·refine lV (.bool true) (Xm (congrArg Value.bool bb) rfl)<|lV (.bool true) (Xm (congrArg Value.bool a5) rfl)<|Zm ?_;exact ⟨rfl,_,_,hm,aa,ab,ae,rfl⟩
     refine lV (.bool (decide (0<ac))) (Xd (congrArg Value.bool bb) rfl)<|lV (.bool (decide (0<ac))) (Xm (congrArg Value.bool a5) rfl)<|Zm ?_;exact ⟨rfl,_,_,hm,aa,ab,ae,rfl⟩
    refine Zfd 25 rfl rfl rfl rfl<|Zfd 25 rfl rfl rfl rfl<|go ?_;refine lV (.bool false) (Xd (congrArg Value.bool a5) rfl)<|Zm ?_;exact ⟨rfl,_,_,hm,aa,ab,ae,rfl⟩
  obtain ⟨au,bt,hm⟩:=bZ hm;refine Zi (Z0j 2 bt rfl ax) ?_;rintro _ cd ⟨ce,rfl,bu,bv,bh⟩;refine ⟨_,rfl,?_⟩;refine .ld (d:=4) (v:=(.slice aj au.length ak)) (congrArg (fun n=>Value.slice aj n ak) (show an.length=au.length from bh.symm)) ?_;refine .ld (d:=41) (v:=(.slice aj au.length ak)) (congrArg (fun n=>Value.slice aj n ak) (show an.length=au.length from bh.symm)) ?_;refine go ?_;refine lV (.string (Y6 au)) (Zwg (c:=1) (c2:=1) (bv.srcN NB.int) underlying127 underlying5 underlying9 rfl)<|go ?_;cases hm;replace aa:=aa.kpp bu;exact ⟨rfl,rfl,aa.below⟩
def Zpe (N:Nat) (aa:R3):Option ByteArray:=
  (Se N (aa.1,aa.2)).bind fun ac=>if (decide (ac<0))=true then ((Zil N aa.2).bind fun ab=>Z7 ((⟨#[45]⟩:ByteArray).size+ab.size≤maxLen) (some ((⟨#[45]⟩)++ab))) else ((Zil N aa.2).bind fun ad=>some ad)
theorem Z0q {N aj:Nat} {ak:Option Addr} {col:Ze} {w0:World} {ae:R3} {r:ByteArray} (hm:Zpe N ae=some r) (ac:Sl (Za.int .u32) col w0 ak aj ae.2):
    Calls Tryz.prog 85 #[(.agg #[.bool ae.1,.slice ak ae.2.length aj])] w0 (fun e w'=>e= .returned ((.string r))∧Below w0.heap.size w0 w'):=by
 refine Xo 2 (m:=13) func85 rfl rfl rfl rfl rfl ?_;rw [Zpe.eq_1] at hm;have aa:=St.start col w0;refine go ?_;refine Xy (col:=(Zk col)) 1 rfl ?_;intro aw al ab am ad;refine go ?_;refine lV _ (Xj isAgg33 sizeOf33 ad) ?_;obtain ⟨ax,an,hm⟩:=bZ hm;replace ac:=ac.keep (Zl.start col w0);replace aa:=aa.grow am;refine Zi (Zc9 an (ac.ks aa)) ?_;rintro _ ag ⟨rfl,af⟩;refine ⟨_,rfl,?_⟩;replace af:Zg ab al ab ag:=.of_below af;refine go ?_;replace ad:=ad.gr af;replace aa:=aa.grow af;refine Zs hm (fun hb hm=>go ?_) fun hb hm=>go ?_
 ·refine X3 ad ?_;obtain ⟨ao,ap,hm⟩:=bZ hm;refine Zi (Znu ap (ac.ks aa)) ?_;rintro _ aq ⟨rfl,ah⟩;refine ⟨_,rfl,?_⟩;replace ah:Zg ab ag ab aq:=.of_below ah;obtain ⟨ar,hm⟩:=Xc hm;refine lV (.string ((⟨#[45]⟩)++ao)) (Zhe underlying9 rfl rfl ar)<|go ?_;cases hm;replace aa:=aa.grow ah;exact ⟨rfl,rfl,aa.below⟩
 refine X3 ad ?_;obtain ⟨ay,au,hm⟩:=bZ hm;refine Zi (Znu au (ac.ks aa)) ?_;rintro _ av ⟨rfl,ai⟩;refine ⟨_,rfl,?_⟩;replace ai:Zg ab ag ab av:=.of_below ai;refine go ?_;cases hm;replace aa:=aa.grow ai;exact ⟨rfl,rfl,aa.below⟩
def Zk2 (aa:ByteArray):Option ByteArray:=
  some aa
def Zk1 (N:Nat) (aa:R0):Option ByteArray:=
  (Vy N ((aa.1.1,aa.1.2),aa.2)).bind fun ae=>(Zaf N aa.1.1 aa.1.2 ae).bind fun ab=>(Zpe N (ab.1.1,ab.1.2)).bind fun ac=>(Zal N 1).bind fun af=>(Zcf N ab.2 af).bind fun ag=>if (!decide (ag=0))=true then ((Zil N ab.2).bind fun ad=>Z7 ((⟨#[47]⟩:ByteArray).size+ad.size≤maxLen) (Z7 (ac.size+((⟨#[47]⟩)++ad).size≤maxLen) (Zk2 (ac++((⟨#[47]⟩)++ad))))) else (Zk2 ac)
theorem Zrn {N ay az:Nat} {a0 a1:Option Addr} {col:Ze} {w0:World} {ai:R0} {r:ByteArray} (hm:Zk1 N ai=some r) (an:Sl (Za.int .u32) col w0 a0 ay ai.1.2) (ap:Sl (Za.int .u32) col w0 a1 az ai.2):
    Calls Tryz.prog 33 #[(.agg #[.bool ai.1.1,.slice a0 ai.1.2.length ay,.slice a1 ai.2.length az])] w0 (fun e w'=>e= .returned ((.string r))∧Below w0.heap.size w0 w'):=by
 refine Xo 2 (m:=28) func33 rfl rfl rfl rfl rfl ?_;rw [Zk1.eq_1] at hm;have aa:=St.start col w0;refine go ?_;refine Xy (col:=(Zk col)) 1 rfl ?_;intro bs bt al a6 ad;refine go ?_;refine W6 (col:=al) [(0,1),(1,1),(2,0),(3,1),(4,1),(5,0),(6,0),(7,3),(8,3),(9,2)] (by kernel_rfl) (by kernel_rfl)<|xF ⟨_,_,rfl⟩ ?_;refine xF (Ty ⟨_,_,rfl⟩) ?_;refine xW (fun _ hC=>((((ad.atN).part 0 2 _ rfl)).nth (q:=0) rfl).gr (hC.bl al)) ?_;refine xF ⟨_,_,rfl⟩ ?_;refine xF (Ty ⟨_,_,rfl⟩) ?_;refine xW (fun _ hC=>((((ad.atN).part 0 2 _ rfl)).nth (q:=1) rfl).gr (hC.bl al)) ?_;refine xv rfl rfl (fun _ hC=>Xj isAgg35 sizeOf35 (ad.gr (hC.bl al))) ?_;refine xe rfl rfl ?_;intro bu hC0;have hC:=hC0.bl al;obtain ⟨bv,a7,hm⟩:=bZ hm;replace an:=an.keep (Zl.start col w0);replace ap:=ap.keep (Zl.start col w0);replace aa:=(aa.grow a6).grow hC;refine Zi (U7 2 a7 (an.ks aa) (ap.ks aa)) ?_;rintro _ bw ⟨aj,bx,bz,rfl,aq,ar⟩;refine ⟨_,rfl,?_⟩;refine Zm<|Yd aj hC0 aq<|xe rfl rfl ?_;intro a8 hC0;replace ad:=(ad.gr hC).gr aq;have hC:=hC0.bl aj;obtain ⟨a2,a9,hm⟩:=bZ hm;replace aa:=(aa.grow aq).grow hC;replace ar:=ar.gr hC;refine Zi (Zey 3 4 a9 ((an.ks aa).froz 2) (ar.toSlF (Zh.int .u32))) ?_;rintro _ b0 ⟨ba,bb,bc,b1,b2,rfl,ag,ah,ab⟩;refine ⟨_,rfl,?_⟩;replace ah:=ah.thaw (Z0 .u32) ag ((Fz.refl (col:=aj)).froz 2) (by decide);replace ab:=ab.thaw (Z0 .u32) ag ((Fz.refl (col:=aj)).froz 2) (by decide);replace ag:=ag.thawR (col:=aj);generalize Xa a8.heap.size aj ba=ae at *;refine Zm<|Yd ae hC0 ag<|xe rfl rfl ?_;intro b3 hC0;replace ad:=(ad.gr hC).gr ag;have hC:=hC0.bl ae;replace ad:=ad.gr hC;refine Z2 ad ?_;intro b4 au bd ac;refine Zm<|xk ae<|W3 ?_;replace aa:=((aa.grow ag).grow hC).kp au bd;replace ah:=(ah.gr hC).kp au;replace ab:=(ab.gr hC).kp au;intro be hC;replace hC:=hC.bl ae;refine go ?_;refine X8 ⟨_,_,rfl⟩ ?_;replace ac:=ac.gr hC;refine lV (.agg #[.bool a2.1.1,.slice bb a2.1.2.length bc]) (Xt isAgg33 sizeOf33 rfl rfl ((ac.atN).part 0 2 _ rfl)) ?_;obtain ⟨bf,bg,hm⟩:=bZ hm;replace ah:=ah.gr hC;refine Zi (Z0q bg (ah.toSlF (Zh.int .u32))) ?_;rintro _ bh ⟨rfl,am⟩;refine ⟨_,rfl,?_⟩;replace am:Zg ae be ae bh:=.of_below am;refine lAT rfl<|Zm<|Zw ?_
 replace ab:=(ab.gr hC).gr am;replace aa:=(aa.grow hC).grow am;replace ac:=ac.gr am;refine Wp.cutK [1000000] (fun f a3=>∃ a4 av,Zk2 av=some r∧St w0 (Zk col) a4 a3∧[3].map f=[.string av]) ?_ ?_
 ·intro f a3 hJ;obtain ⟨a4,av,hm,aa,hs⟩:=hJ;rw [Zk2.eq_1] at hm;refine .lL [3] hs<|go ?_;cases hm;exact ⟨rfl,rfl,aa.below⟩
 refine Zw<|W6 (col:=ae) [(0,1),(1,0),(2,3),(3,3),(4,1)] (by kernel_rfl) (by kernel_rfl)<|xF ⟨_,_,rfl⟩ ?_;refine xW (fun _ hC=>((ac.atN).nth (q:=2) rfl).gr (hC.bl ae)) ?_;refine xe rfl rfl ?_;intro b5 hC0;have hC:=hC0.bl ae;obtain ⟨b6,bi,hm⟩:=bZ hm;refine Zi (Ze0 (col:=ae) 5 bi) ?_;rintro _ b7 ⟨af,b8,b9,rfl,ao,aw⟩;refine ⟨_,rfl,?_⟩;refine Zm<|Yd af hC0 ao<|xe rfl rfl ?_;intro bj hC0;replace ab:=(ab.gr hC).gr ao;replace ac:=(ac.gr hC).gr ao;replace aa:=(aa.grow hC).grow ao;have hC:=hC0.bl af;obtain ⟨ca,bk,hm⟩:=bZ hm;replace ab:=ab.gr hC;replace aw:=aw.gr hC;refine Zi (Zki bk ((ab.toSlF (Zh.int .u32)).froz 5) ((aw.froz 4 (by decide)).toSlF (Zh.int .u32))) ?_;rintro _ bm ⟨rfl,ak⟩;refine ⟨_,rfl,?_⟩;replace ak:Zg af bj af bm:=.of_below ak;refine Zm<|Yd af hC0 ak<|xu rfl rfl (fun _=>Zp7 _ _ rfl rfl) ?_;refine W3 ?_;replace ac:=(ac.gr hC).gr ak;replace aa:=(aa.grow hC).grow ak;intro bn hC;replace hC:=hC.bl af;replace ab:=(ab.gr ak).gr hC;replace ac:=ac.gr hC;replace aa:=aa.grow hC;refine Zs hm (fun hb hm=>go ?_) fun hb hm=>?_
 ·refine X3 ac ?_;obtain ⟨a5,bo,hm⟩:=bZ hm;refine Zi (Znu bo (ab.toSlF (Zh.int .u32))) ?_;rintro _ bp ⟨rfl,ax⟩;refine ⟨_,rfl,?_⟩;replace ax:Zg af bn af bp:=.of_below ax;obtain ⟨bq,hm⟩:=Xc hm;refine lV (.string ((⟨#[47]⟩)++a5)) (Zhe underlying9 rfl rfl bq) ?_;obtain ⟨br,hm⟩:=Xc hm;refine lV (.string (bf++((⟨#[47]⟩)++a5))) (Zhe underlying9 rfl rfl br)<|go ?_;replace aa:=aa.grow ax;exact ⟨rfl,_,_,hm,aa,rfl⟩
 refine Yc ?_;exact ⟨rfl,_,_,hm,aa,rfl⟩
def Zah (aa:Bool):Option Bool:=
  some aa
def Zoy (N:Nat):Option Bool:=
  (Zpb N).bind fun aa=>(Tl N (aa.1,aa.2.1,aa.2.2.1,aa.2.2.2.1,aa.2.2.2.2) [0,1]).bind fun ad=>(Q7 N (aa.1,aa.2.1,aa.2.2.1,aa.2.2.2.1,aa.2.2.2.2) (⟨#[49,49,49,48]⟩)).bind fun ac=>(Za0 N (aa.1,aa.2.1,aa.2.2.1,aa.2.2.2.1,aa.2.2.2.2) [1,0]).bind fun ab=>if (decide (ad.2=0))=true then (if (decide (ac.2.2=0))=true then (if (decide (ab.2=0))=true then (if (decide (ad.1=(⟨#[49,49,48,48,48]⟩)))=true then (if (decide (ac.2.1=3))=true then ((Zea N ac.1 [1,1]).bind fun ae=>if ae=true then ((Zk1 N ((ab.1.1.1.1,ab.1.1.1.2),ab.1.1.2)).bind fun af=>if (decide (af=(⟨#[52,47,53]⟩)))=true then ((Zk1 N ((ab.1.2.1.1,ab.1.2.1.2),ab.1.2.2)).bind fun ag=>Zah (decide (ag=(⟨#[52,49,47,53,48]⟩)))) else (Zah false)) else (Zah false)) else (Zah false)) else (Zah false)) else (Zah false)) else (Zah false)) else (Zah false)
theorem Zzo (N:Nat) (col:Ze) (w0:World) (r:Bool) (hm:Zoy N=some r):
    Calls Tryz.prog 8 #[] w0 (fun e w'=>e= .returned ((.bool r))∧Below w0.heap.size w0 w'):=by
 refine Xo 0 (m:=63) func8 rfl rfl rfl rfl rfl ?_;rw [Zoy.eq_1] at hm;have ab:=St.start col w0;refine go ?_;obtain ⟨cq,bv,hm⟩:=bZ hm;refine lc rfl rfl (Zap call32) (Z0c (col:=(Zk col)) 1 2 3 4 bv:) ?_;rintro _ cr ⟨bw,cs,ct,cu,cv,cw,cx,cy,cz,rfl,bx,ac,ad,ae,af⟩;refine ⟨_,rfl,?_⟩;refine Xl (col:=bw) #[.string (⟨#[]⟩),.slice none (([]:List ByteArray).length) 0,.slice none (([]:List R5).length) 0,.slice none (([]:List R2).length) 0,(.slice none (([]:List R9).length) 0)] 5 zeroValue27 ?_;intro c0 c1 bz a2 b0;refine Z2 b0 ?_;intro c2 a3 b1 an;refine go ?_;refine lV _ (Xj isAgg27 sizeOf27 an)<|Vb (col:=bz) [0,1] 6 ?_;intro c3 b2 a4 au b3;obtain ⟨a5,b4,hm⟩:=bZ hm;replace ac:=((ac.gr a2).kp a3).gr au;replace ad:=((ad.gr a2).kp a3).gr au;replace ae:=((ae.gr a2).kp a3).gr au;replace af:=((af.gr a2).kp a3).gr au;refine Zi (Zrj b4 (((((ac.toSlF Zh.str).froz 2).froz 3).froz 4).froz 6) (((((ad.froz 1 (by decide)).toSlF (Zh.row Zh.str)).froz 3).froz 4).froz 6) (((((ae.froz 1 (by decide)).froz 2 (by decide)).toSlF (Zh.row (Zh.int .i64))).froz 4).froz 6) (((((af.froz 1 (by decide)).froz 2 (by decide)).froz 3 (by decide)).toSlF (Zh.row (Zh.pair (Zh.pair Zh.bool (Zh.row (Zh.int .u32))) (Zh.row (Zh.int .u32))))).froz 6) (((((b3.froz 1 (by decide)).froz 2 (by decide)).froz 3 (by decide)).froz 4 (by decide)).toSlF (Zh.int .i64))) ?_;rintro _ bo ⟨rfl,aj⟩;refine ⟨_,rfl,?_⟩;replace aj:Zg a4 b2 a4 bo:=.of_below aj;refine lM (.tuple #[.string a5.1,.int .i64 a5.2])<|lV (.string a5.1) (Xh rfl rfl)<|lV (.int .i64 a5.2) (Xh rfl rfl)<|go ?_;replace an:=(an.gr au).gr aj;refine lV _ (Xj isAgg27 sizeOf27 an) ?_;obtain ⟨ak,b5,hm⟩:=bZ hm;replace ac:=ac.gr aj;replace ad:=ad.gr aj;replace ae:=ae.gr aj;replace af:=af.gr aj
 refine Zi (Znn 7 b5 ((((ac.toSlF Zh.str).froz 2).froz 3).froz 4) ((((ad.froz 1 (by decide)).toSlF (Zh.row Zh.str)).froz 3).froz 4) ((((ae.froz 1 (by decide)).froz 2 (by decide)).toSlF (Zh.row (Zh.int .i64))).froz 4) ((((af.froz 1 (by decide)).froz 2 (by decide)).froz 3 (by decide)).toSlF (Zh.row (Zh.pair (Zh.pair Zh.bool (Zh.row (Zh.int .u32))) (Zh.row (Zh.int .u32)))))) ?_;rintro _ c4 ⟨b6,bp,bq,rfl,ag,ao⟩;refine ⟨_,rfl,?_⟩;replace ao:=ao.thaw (Z0 .i64) ag (((((Fz.refl (col:=a4)).froz 1).froz 2).froz 3).froz 4) (by decide);replace ag:=ag.thawR (col:=a4);generalize Xa bo.heap.size a4 b6=b7 at *;refine lM (.tuple #[.slice bp ak.1.length bq,.int .i64 ak.2.1,.int .i64 ak.2.2])<|lV (.slice bp ak.1.length bq) (Xh rfl rfl)<|lV (.int .i64 ak.2.1) (Xh rfl rfl)<|lV (.int .i64 ak.2.2) (Xh rfl rfl)<|go ?_;replace an:=an.gr ag;refine lV _ (Xj isAgg27 sizeOf27 an)<|Vb (col:=b7) [1,0] 8 ?_;intro c5 b8 av aw b9;obtain ⟨aa,ca,hm⟩:=bZ hm;replace ac:=(ac.gr ag).gr aw;replace ad:=(ad.gr ag).gr aw;replace ae:=(ae.gr ag).gr aw;replace af:=(af.gr ag).gr aw;refine Zi (Zrk 9 10 11 12 ca (((((ac.toSlF Zh.str).froz 2).froz 3).froz 4).froz 8) (((((ad.froz 1 (by decide)).toSlF (Zh.row Zh.str)).froz 3).froz 4).froz 8) (((((ae.froz 1 (by decide)).froz 2 (by decide)).toSlF (Zh.row (Zh.int .i64))).froz 4).froz 8) (((((af.froz 1 (by decide)).froz 2 (by decide)).froz 3 (by decide)).toSlF (Zh.row (Zh.pair (Zh.pair Zh.bool (Zh.row (Zh.int .u32))) (Zh.row (Zh.int .u32))))).froz 8) (((((b9.froz 1 (by decide)).froz 2 (by decide)).froz 3 (by decide)).froz 4 (by decide)).toSlF (Zh.int .i64))) ?_;rintro _ c6 ⟨cb,a6,a7,a8,a9,ba,bb,bc,bd,rfl,al,ap,aq,ah,ai⟩;refine ⟨_,rfl,?_⟩;replace ap:=ap.thaw (Z0 .u32) al ((((((Fz.refl (col:=av)).froz 1).froz 2).froz 3).froz 4).froz 8) (by decide);replace aq:=aq.thaw (Z0 .u32) al ((((((Fz.refl (col:=av)).froz 1).froz 2).froz 3).froz 4).froz 8) (by decide);replace ah:=ah.thaw (Z0 .u32) al ((((((Fz.refl (col:=av)).froz 1).froz 2).froz 3).froz 4).froz 8) (by decide);replace ai:=ai.thaw (Z0 .u32) al ((((((Fz.refl (col:=av)).froz 1).froz 2).froz 3).froz 4).froz 8) (by decide);replace al:=al.thawR (col:=av)
 generalize Xa b8.heap.size av cb=cc at *;refine lM (.tuple #[(.agg #[.bool aa.1.1.1.1,.slice a6 aa.1.1.1.2.length a7,.slice a8 aa.1.1.2.length a9,.bool aa.1.2.1.1,.slice ba aa.1.2.1.2.length bb,.slice bc aa.1.2.2.length bd]),.int .i64 aa.2])<|lV (.agg #[.bool aa.1.1.1.1,.slice a6 aa.1.1.1.2.length a7,.slice a8 aa.1.1.2.length a9,.bool aa.1.2.1.1,.slice ba aa.1.2.1.2.length bb,.slice bc aa.1.2.2.length bd]) (Xh rfl rfl)<|lV (.int .i64 aa.2) (Xh rfl rfl)<|Xl (col:=cc) #[.bool false,.slice none (([]:List Int).length) 0,.slice none (([]:List Int).length) 0,.bool false,.slice none (([]:List Int).length) 0,.slice none (([]:List Int).length) 0] 13 zeroValue55 ?_;intro c7 c8 cd ax ce;refine Z2 ce ?_;intro c9 ay cf az;refine Ym rfl<|Zm<|Zw ?_;replace ab:=(((((((((ab.grow bx).grow a2).kp a3 b1).grow au).grow aj).grow ag).grow aw).grow al).grow ax).kp ay cf;replace ao:=(((ao.gr aw).gr al).gr ax).kp ay;replace ap:=(ap.gr ax).kp ay;replace aq:=(aq.gr ax).kp ay;replace ah:=(ah.gr ax).kp ay;replace ai:=(ai.gr ax).kp ay;refine Wp.cutK [1000000] (fun f br=>∃ bs be,Zah be=some r∧St w0 (Zk col) bs br∧[0].map f=[.bool be]) ?_ ?_
 ·intro f br hJ;obtain ⟨bs,be,hm,ab,hs⟩:=hJ;rw [Zah.eq_1] at hm;refine .lL [0] hs<|Vp ?_;cases hm;exact ⟨rfl,rfl,ab.below⟩
 refine go ?_;refine X1 hm (fun bf hm=>go ?_) fun bf hm=>go ?_
 ·refine lV (.bool (decide (ak.2.2=0))) (Xm (congrArg Value.bool bf) rfl)<|X5 rfl ?_;refine X1 hm (fun bg hm=>go ?_) fun bg hm=>go ?_
  ·refine lV (.bool (decide (aa.2=0))) (Xm (congrArg Value.bool bg) rfl)<|X5 rfl ?_;refine X1 hm (fun bh hm=>go ?_) fun bh hm=>go ?_
   ·refine lV (.bool (decide (a5.1=(⟨#[49,49,48,48,48]⟩)))) (Xm (congrArg Value.bool bh) rfl)<|X5 rfl ?_;refine X1 hm (fun bi hm=>go ?_) fun bi hm=>go ?_
    ·refine lV (.bool (decide (ak.2.1=3))) (Xm (congrArg Value.bool bi) rfl)<|X5 rfl ?_;refine X1 hm (fun bj hm=>go ?_) fun bj hm=>go ?_
     ·refine Vb (col:=cd) [1,1] 16 ?_;intro da cg a0 ar ch;refine go ?_;obtain ⟨ci,cj,hm⟩:=bZ hm;replace ao:=ao.gr ar;refine Zi (Znz cj ((ao.toSlF (Zh.int .i64)).froz 16) ((ch.froz 7 (by decide)).toSlF (Zh.int .i64))) ?_;rintro _ bt ⟨rfl,am⟩;refine ⟨_,rfl,?_⟩;replace am:Zg a0 cg a0 bt:=.of_below am;refine lV (.bool ci) (Xm (congrArg Value.bool bj) rfl)<|X5 rfl ?_;replace ap:=(ap.gr ar).gr am;replace aq:=(aq.gr ar).gr am;replace ah:=(ah.gr ar).gr am;replace ai:=(ai.gr ar).gr am;replace az:=(az.gr ar).gr am;replace ab:=(ab.grow ar).grow am;refine X1 hm (fun bk hm=>go ?_) fun bk hm=>go ?_
      ·refine X8 ⟨_,_,rfl⟩ ?_;refine go ?_;refine lV (.agg #[.bool aa.1.1.1.1,.slice a6 aa.1.1.1.2.length a7,.slice a8 aa.1.1.2.length a9]) (Xt isAgg35 sizeOf35 rfl rfl ((az.atN).part 0 3 _ rfl))<|go ?_;obtain ⟨ck,cl,hm⟩:=bZ hm;refine Zi (Zrn cl ((ap.toSlF (Zh.int .u32)).froz 10) ((aq.froz 9 (by decide)).toSlF (Zh.int .u32))) ?_;rintro _ bu ⟨rfl,a1⟩;refine ⟨_,rfl,?_⟩;replace a1:Zg a0 bt a0 bu:=.of_below a1;refine go ?_;refine lV (.bool (decide (ck=(⟨#[52,47,53]⟩)))) (Xm (congrArg Value.bool bk) rfl)<|X5 rfl ?_;replace ah:=ah.gr a1;replace ai:=ai.gr a1;replace az:=az.gr a1;replace ab:=ab.grow a1;refine X1 hm (fun bm hm=>go ?_) fun bm hm=>go ?_
       ·refine X8 ⟨_,_,rfl⟩ ?_;refine go ?_;refine lV (.agg #[.bool aa.1.2.1.1,.slice ba aa.1.2.1.2.length bb,.slice bc aa.1.2.2.length bd]) (Xt isAgg35 sizeOf35 rfl rfl ((az.atN).part 3 3 _ rfl))<|go ?_;obtain ⟨cn,co,hm⟩:=bZ hm;refine Zi (Zrn co ((ah.toSlF (Zh.int .u32)).froz 12) ((ai.froz 11 (by decide)).toSlF (Zh.int .u32))) ?_;rintro _ cp ⟨rfl,bn⟩;refine ⟨_,rfl,?_⟩;replace bn:Zg a0 bu a0 cp:=.of_below bn;refine go ?_;refine lV (.bool (decide (cn=(⟨#[52,49,47,53,48]⟩)))) (Xm (congrArg Value.bool bm) rfl)<|go ?_;replace ab:=ab.grow bn;exact ⟨rfl,_,_,hm,ab,rfl⟩
       refine lV (.bool false) (Xd (congrArg Value.bool bm) rfl)<|go ?_;exact ⟨rfl,_,_,hm,ab,rfl⟩
      refine lV (.bool false) (Xd (congrArg Value.bool bk) rfl)<|X5 rfl<|lP 57 rfl rfl<|lP 57 rfl rfl<|lP 57 rfl rfl<|lP 57 rfl rfl<|lV (.bool false) (Xd rfl rfl)<|go ?_;exact ⟨rfl,_,_,hm,ab,rfl⟩
     refine lV (.bool false) (Xd (congrArg Value.bool bj) rfl)<|X5 rfl<|lP 51 rfl rfl<|lP 51 rfl rfl<|lP 51 rfl rfl<|lP 51 rfl rfl<|lV (.bool false) (Xd rfl rfl)<|X5 rfl<|lP 57 rfl rfl<|lP 57 rfl rfl<|lP 57 rfl rfl<|lP 57 rfl rfl<|lV (.bool false) (Xd rfl rfl)<|go ?_;exact ⟨rfl,_,_,hm,ab,rfl⟩
    refine lV (.bool false) (Xd (congrArg Value.bool bi) rfl)<|X5 rfl<|lP 46 rfl rfl<|lP 46 rfl rfl<|lP 46 rfl rfl<|lV (.bool false) (Xd rfl rfl)<|X5 rfl<|lP 51 rfl rfl<|lP 51 rfl rfl<|lP 51 rfl rfl<|lP 51 rfl rfl<|lV (.bool false) (Xd rfl rfl)<|X5 rfl<|lP 57 rfl rfl<|lP 57 rfl rfl<|lP 57 rfl rfl<|lP 57 rfl rfl<|lV (.bool false) (Xd rfl rfl)<|go ?_;exact ⟨rfl,_,_,hm,ab,rfl⟩
   refine lV (.bool false) (Xd (congrArg Value.bool bh) rfl)<|X5 rfl<|lP 42 rfl rfl<|lP 42 rfl rfl<|lV (.bool false) (Xd rfl rfl)<|X5 rfl<|lP 46 rfl rfl<|lP 46 rfl rfl<|lP 46 rfl rfl<|lV (.bool false) (Xd rfl rfl)<|X5 rfl<|lP 51 rfl rfl<|lP 51 rfl rfl<|lP 51 rfl rfl<|lP 51 rfl rfl<|lV (.bool false) (Xd rfl rfl)<|X5 rfl<|lP 57 rfl rfl<|lP 57 rfl rfl<|lP 57 rfl rfl<|lP 57 rfl rfl<|lV (.bool false) (Xd rfl rfl)<|go ?_;exact ⟨rfl,_,_,hm,ab,rfl⟩
  refine lV (.bool false) (Xd (congrArg Value.bool bg) rfl)<|X5 rfl<|lP 38 rfl rfl<|lP 38 rfl rfl<|lV (.bool false) (Xd rfl rfl)<|X5 rfl<|lP 42 rfl rfl<|lP 42 rfl rfl<|lV (.bool false) (Xd rfl rfl)<|X5 rfl<|lP 46 rfl rfl<|lP 46 rfl rfl<|lP 46 rfl rfl<|lV (.bool false) (Xd rfl rfl)<|X5 rfl<|lP 51 rfl rfl<|lP 51 rfl rfl<|lP 51 rfl rfl<|lP 51 rfl rfl<|lV (.bool false) (Xd rfl rfl)<|X5 rfl<|lP 57 rfl rfl<|lP 57 rfl rfl<|lP 57 rfl rfl<|lP 57 rfl rfl<|lV (.bool false) (Xd rfl rfl)<|go ?_;exact ⟨rfl,_,_,hm,ab,rfl⟩
 refine lV (.bool false) (Xd (congrArg Value.bool bf) rfl)<|X5 rfl<|lP 34 rfl rfl<|lP 34 rfl rfl<|lV (.bool false) (Xd rfl rfl)<|X5 rfl<|lP 38 rfl rfl<|lP 38 rfl rfl<|lV (.bool false) (Xd rfl rfl)<|X5 rfl<|lP 42 rfl rfl<|lP 42 rfl rfl<|lV (.bool false) (Xd rfl rfl)<|X5 rfl<|lP 46 rfl rfl<|lP 46 rfl rfl<|lP 46 rfl rfl<|lV (.bool false) (Xd rfl rfl)<|X5 rfl<|lP 51 rfl rfl<|lP 51 rfl rfl<|lP 51 rfl rfl<|lP 51 rfl rfl<|lV (.bool false) (Xd rfl rfl)<|X5 rfl<|lP 57 rfl rfl<|lP 57 rfl rfl<|lP 57 rfl rfl<|lP 57 rfl rfl<|lV (.bool false) (Xd rfl rfl)<|go ?_;exact ⟨rfl,_,_,hm,ab,rfl⟩
theorem Z5h:Zoy 3000000=some true:=by decide+kernel
def Zqu:Option Bool:=some true
theorem Z19 (col:Ze) (w0:World) (r:Bool) (hm:Zqu=some r):Calls Tryz.prog 8 #[] w0 (fun e w'=>e= .returned ((.bool r))∧Below w0.heap.size w0 w'):=by
 cases hm;exact Zzo 3000000 col w0 true Z5h
def Zdn (N:Nat) (aa:R1):Nat→Int→Int→Option Bool
  | 0,_,_=>none
  | ae+1,ac,ab=>if (decide (ab<(aa.2.1.length:Int)))=true then ((Zp aa.2.2.1 ab).bind fun ad=>if (decide (300<(i64.wrap (ac * (ad.length:Int)))))=true then (some false) else ((Zdn N aa ae) (i64.wrap (ac * (ad.length:Int))) (i64.wrap (ab+1)))) else (some true)
termination_by structural x=>x
def Zfz (N:Nat) (aa:R1) (ab:Bool):Option Bool:=
  if ab=true then (some false) else (Zdn N aa N 1 0)
def Zfy (N:Nat) (aa:R1):Option Bool:=
  (Zfw N (aa.1,aa.2.1,aa.2.2.1,aa.2.2.2.1,aa.2.2.2.2)).bind fun ab=>if ab=true then (Zfz N aa true) else ((Um N (aa.1,aa.2.1,aa.2.2.1,aa.2.2.2.1,aa.2.2.2.2)).bind fun ac=>Zfz N aa (!decide (ac=0)))
theorem Zzq {N af ag ah ai:Nat} {aj ak al am:Option Addr} {col:Ze} {w0:World} {ab:R1} {r:Bool} (hm:Zfy N ab=some r) (an:Sl Za.str col w0 aj af ab.2.1) (ad:Sl (Za.slice Za.str) col w0 ak ag ab.2.2.1) (ao:Sl (Za.slice (Za.int .i64)) col w0 al ah ab.2.2.2.1) (ap:Sl (Za.slice (Za.pair (Za.pair Za.bool (Za.slice (Za.int .u32))) (Za.slice (Za.int .u32)))) col w0 am ai ab.2.2.2.2):
    Calls Tryz.prog 9 #[(.agg #[.string ab.1,.slice aj ab.2.1.length af,.slice ak ab.2.2.1.length ag,.slice al ab.2.2.2.1.length ah,.slice am ab.2.2.2.2.length ai])] w0 (fun e w'=>e= .returned ((.bool r))∧Below w0.heap.size w0 w'):=by
 refine Xo 2 (m:=29) func9 rfl rfl rfl rfl rfl ?_;rw [Zfy.eq_1] at hm;have aa:=St.start col w0;refine go ?_;refine Xy (col:=(Zk col)) 1 rfl ?_;intro a4 a6 aq a7 ac;refine Zkt rfl<|Zm<|Zw<|Zw ?_;replace an:=an.keep (Zl.start col w0);replace ad:=ad.keep (Zl.start col w0);replace ao:=ao.keep (Zl.start col w0);replace ap:=ap.keep (Zl.start col w0);replace aa:=aa.grow a7;refine Wp.cutK [1,1000000] (fun f av=>∃ aw ax,Zfz N ab ax=some r∧St w0 (Zk col) aw av∧Zo 27 1 aw av a4 #[.string ab.1,.slice aj ab.2.1.length af,.slice ak ab.2.2.1.length ag,.slice al ab.2.2.2.1.length ah,.slice am ab.2.2.2.2.length ai]∧[11].map f=[.bool ax]) ?_ ?_
 ·intro f av hJ;obtain ⟨aw,ax,hm,aa,ac,hs⟩:=hJ;rw [Zfz.eq_1] at hm;refine .lL [11] hs ?_;refine Zs hm (fun hb hm=>go ?_) fun hb hm=>go ?_
  ·cases hm;exact ⟨rfl,rfl,aa.below⟩
  refine Xe [1,1000000] (fun n f ay=>∃ az a0 a1 ae,ae=n∧Zdn N ab ae a0 a1=some r∧St w0 (Zk col) az ay∧Zo 27 1 az ay a4 #[.string ab.1,.slice aj ab.2.1.length af,.slice ak ab.2.2.1.length ag,.slice al ab.2.2.2.1.length ah,.slice am ab.2.2.2.2.length ai]∧[3,4].map f=[.int .i64 a0,.int .i64 a1]) N ⟨_,1,0,_,rfl,hm,aa,ac,rfl⟩ ?_;clear hm;intro n f ay hI;obtain ⟨az,a0,a1,ae,hn,hm,aa,ac,hs⟩:=hI;subst hn;refine .lL [3,4] hs ?_
  cases ae with
  | zero=>rw [Zdn.eq_1] at hm;cases hm
  | succ ae=>
   rw [Zdn.eq_2] at hm;refine go ?_;refine X3 ac ?_;refine go ?_;refine Zs hm (fun hb hm=>go ?_) fun hb hm=>go ?_
   ·refine X3 ac<|Yn rfl ?_;obtain ⟨be,a2,hm⟩:=bZ hm;refine lI a2 ((ad.ks aa).addr a2) ?_;obtain ⟨_,a8,a9⟩:=(ad.ks aa).atN a2;obtain ⟨⟨bf,bg,rfl,bh⟩,_⟩:=a8;refine lW a9.one<|go ?_;refine Zs hm (fun hb hm=>go ?_) fun hb hm=>go ?_
    ·cases hm;exact ⟨rfl,rfl,aa.below⟩
    exact ⟨ae,by omega,rfl,⟨_,_,_,_,rfl,hm,aa,ac,rfl⟩⟩
   cases hm;exact ⟨rfl,rfl,aa.below⟩
 refine Wv<|lV _ (Xj isAgg27 sizeOf27 ac) ?_;obtain ⟨bi,ba,hm⟩:=bZ hm;refine Zi (Zzp ba (an.ks aa) (ad.ks aa) (ao.ks aa) (ap.ks aa)) ?_;rintro _ a5 ⟨rfl,ar⟩;refine ⟨_,rfl,?_⟩;replace ar:Zg aq a6 aq a5:=.of_below ar;refine X5 rfl ?_;replace ac:=ac.gr ar;replace aa:=aa.grow ar;refine X1 hm (fun a3 hm=>go ?_) fun a3 hm=>go ?_
 ·refine lV (.bool true) (Xm (congrArg Value.bool a3) rfl)<|Zm ?_;exact ⟨rfl,_,_,hm,aa,ac,rfl⟩
 refine lV _ (Xj isAgg27 sizeOf27 ac)<|go ?_;obtain ⟨bb,bc,hm⟩:=bZ hm;refine Zi (Zkh bc (an.ks aa) (ad.ks aa) (ao.ks aa) (ap.ks aa)) ?_;rintro _ bd ⟨rfl,au⟩;refine ⟨_,rfl,?_⟩;replace au:Zg aq a5 aq bd:=.of_below au;refine go ?_;refine lV (.bool (!decide (bb=0))) (Xd (congrArg Value.bool a3) rfl)<|Zm ?_;replace ac:=ac.gr au;replace aa:=aa.grow au;exact ⟨rfl,_,_,hm,aa,ac,rfl⟩
def Zb9 (aa:Int) (kk_L1:(R6→Int→ByteArray→Option Bool)) (ab:List R2) (ac:ByteArray):Option Bool:=
  kk_L1 ab (i64.wrap (aa+1)) ac
def Zic (aa:List R2) (ab:Int) (ac:ByteArray) (kk_L1:(R6→Int→ByteArray→Option Bool)) (ad:Bool):Option Bool:=
  if ad=true then (some false) else (Zb9 ab kk_L1 aa ac)
def Zid (aa:List R2) (ab:Int) (ac:ByteArray) (kk_L1:(R6→Int→ByteArray→Option Bool)) (ad:Bool):Option Bool:=
  if ad=true then (some false) else (Zb9 ab kk_L1 aa ac)
def Zdl (af:R6) (aa:List R2) (ac:Int) (ad:ByteArray) (kk_L1:(R6→Int→ByteArray→Option Bool)) (ae:Re) (ag:Bool):Option Bool:=
  if ag=true then (some false) else (Z7 (ad.size+ae.1.size≤maxLen) ((Zp af ac).bind fun ab=>Z7 ((aa.length+[ab].length) * 24≤140737488355328∧aa.length+[ab].length≤maxLen) (Zb9 ac kk_L1 (aa++[ab]) (ad++ae.1))))
def Zdm (ac:Int) (aa:ByteArray) (kk_L2:(Int→ByteArray→Option Bool)) (ab:Ra) (ad:Bool):Option Bool:=
  if ad=true then (some false) else (Z7 ((0:Int)≤ab.2.1∧ab.2.1≤(aa.size:Int)∧(aa.size:Int)≤(aa.size:Int)) (kk_L2 (i64.wrap (ac+1)) (aa.extract (Int.toNat ab.2.1) (Int.toNat (aa.size:Int)))))
def Sz (N:Nat) (aa:R1) (af:ByteArray) (ad:List R2):Nat→Int→ByteArray→Option Bool
  | 0,_,_=>none
  | ag+1,ae,ac=>if (decide (ae<(ad.length:Int)))=true then ((Q7 N (aa.1,aa.2.1,aa.2.2.1,aa.2.2.2.1,aa.2.2.2.2) ac).bind fun ab=>if (!decide (ab.2.2=0))=true then (Zdm ae ac (Sz N aa af ad ag) ab true) else (if (decide (ab.2.1<0))=true then (Zdm ae ac (Sz N aa af ad ag) ab true) else (if (decide ((ac.size:Int)<ab.2.1))=true then (Zdm ae ac (Sz N aa af ad ag) ab true) else ((Zp ad ae).bind fun ah=>(Zea N ab.1 ah).bind fun ai=>Zdm ae ac (Sz N aa af ad ag) ab (!ai))))) else (some (decide (ac=af)))
termination_by structural x=>x
def Zdk (N:Nat) (aa:R1) (af:R6) (ag:ByteArray) (ad:List R2) (ae:Int) (ac:ByteArray) (kk_L1:(R6→Int→ByteArray→Option Bool)) (ak:Bool):Option Bool:=
  if ak=true then ((Zp af ae).bind fun ai=>(Zf2 N (aa.1,aa.2.1,aa.2.2.1,aa.2.2.2.1,aa.2.2.2.2) ai).bind fun ah=>(Tl N (aa.1,aa.2.1,aa.2.2.1,aa.2.2.2.1,aa.2.2.2.2) ai).bind fun ab=>if (!decide (ah.2=0))=true then (if (!decide (ab.2=3))=true then (Zic ad ae ac kk_L1 true) else (Zic ad ae ac kk_L1 (!decide (ab.1=(⟨#[]⟩))))) else ((Zae N ((ah.1.1.1,ah.1.1.2),ah.1.2)).bind fun al=>if (decide (al=0))=true then (if (!decide (ab.2=52))=true then (Zid ad ae ac kk_L1 true) else (Zid ad ae ac kk_L1 (!decide (ab.1=(⟨#[]⟩))))) else (Z7 (ab.1.size+ag.size≤maxLen) ((Q7 N (aa.1,aa.2.1,aa.2.2.1,aa.2.2.2.1,aa.2.2.2.2) (ab.1++ag)).bind fun aj=>if (!decide (ab.2=0))=true then (Zdl af ad ae ac kk_L1 ab true) else (if (!decide (aj.2.2=0))=true then (Zdl af ad ae ac kk_L1 ab true) else (if (!decide (aj.2.1=(ab.1.size:Int)))=true then (Zdl af ad ae ac kk_L1 ab true) else ((Zea N aj.1 ai).bind fun am=>Zdl af ad ae ac kk_L1 ab (!am)))))))) else (Z7 (ac.size+ag.size≤maxLen) (Sz N aa ag ad N 0 (ac++ag)))
def Td (N:Nat) (ab:R1) (aa:R6) (ac:ByteArray):Nat→R6→Int→ByteArray→Option Bool
  | 0,_,_,_=>none
  | ae+1,af,ad,ag=>if (decide (ad<(aa.length:Int)))=true then (Zdk N ab aa ac af ad ag (Td N ab aa ac ae) (decide (ad<20))) else (Zdk N ab aa ac af ad ag (Td N ab aa ac ae) false)
termination_by structural x=>x
def Zib (N:Nat) (aa:R1) (ab:R6) (ac:ByteArray) (ad:Bool) (ae:Bool):Option Bool:=
  if ae=true then (some ad) else (Td N aa ab ac N ([]:List R2) 0 (⟨#[]⟩))
def Zk3 (N:Nat) (aa:R1) (ac:R6) (ad:ByteArray):Option Bool:=
  (Zqu).bind fun ab=>(Zfy N (aa.1,aa.2.1,aa.2.2.1,aa.2.2.2.1,aa.2.2.2.2)).bind fun ae=>if (!ab)=true then (Zib N aa ac ad ab true) else (Zib N aa ac ad ab (!ae))
theorem Zzn (N:Nat) (col:Ze) (w0:World) (al:Option Addr) (am:Nat) (an:Option Addr) (ao:Nat) (ap:Option Addr) (aq:Nat) (ar:Option Addr) (au:Nat) (ab:R1) (a1:Option Addr) (cc:Nat) (ak:R6) (aj:ByteArray) (a9:Sl Za.str col w0 al am ab.2.1) (ba:Sl (Za.slice Za.str) col w0 an ao ab.2.2.1) (bb:Sl (Za.slice (Za.int .i64)) col w0 ap aq ab.2.2.2.1) (bc:Sl (Za.slice (Za.pair (Za.pair Za.bool (Za.slice (Za.int .u32))) (Za.slice (Za.int .u32)))) col w0 ar au ab.2.2.2.2) (h1:Sl (Za.slice (Za.int .i64)) col w0 a1 cc ak) (r:Bool) (hm:Zk3 N ab ak aj=some r):
    Calls Tryz.prog 3 #[(.agg #[.string ab.1,.slice al ab.2.1.length am,.slice an ab.2.2.1.length ao,.slice ap ab.2.2.2.1.length aq,.slice ar ab.2.2.2.2.length au]),.slice a1 ak.length cc,.string aj] w0 (fun e w'=>e= .returned ((.bool r))∧Below w0.heap.size w0 w'):=by
 refine Xo 6 (m:=161) func3 rfl rfl rfl rfl rfl ?_;rw [Zk3.eq_1] at hm;have aa:=St.start col w0;refine go ?_;refine Xy (col:=(Zk col)) 1 rfl ?_;intro a0 dr bj ds ac;refine go ?_;obtain ⟨c8,dt,hm⟩:=bZ hm;refine lc rfl rfl (Zap call8) (Z19 bj _ c8 dt) ?_;rintro _ c9 ⟨rfl,bt⟩;refine ⟨_,rfl,?_⟩;replace bt:Zg bj dr bj c9:=.of_below bt;refine go ?_;replace ac:=ac.gr bt;refine lV _ (Xj isAgg27 sizeOf27 ac) ?_;obtain ⟨du,dv,hm⟩:=bZ hm;replace a9:=a9.keep (Zl.start col w0);replace ba:=ba.keep (Zl.start col w0);replace bb:=bb.keep (Zl.start col w0);replace bc:=bc.keep (Zl.start col w0);replace aa:=(aa.grow ds).grow bt;refine Zi (Zzq dv (a9.ks aa) (ba.ks aa) (bb.ks aa) (bc.ks aa)) ?_;rintro _ dw ⟨rfl,bu⟩;refine ⟨_,rfl,?_⟩;replace bu:Zg bj c9 bj dw:=.of_below bu;refine Zkt rfl<|Zm<|Zw<|Zw ?_;replace h1:=h1.keep (Zl.start col w0);replace ac:=ac.gr bu;replace aa:=aa.grow bu;refine Wp.cutK [1,2,3,7,1000000] (fun f cd=>∃ ce cf,Zib N ab ak aj c8 cf=some r∧St w0 (Zk col) ce cd∧Zo 27 1 ce cd a0 #[.string ab.1,.slice al ab.2.1.length am,.slice an ab.2.2.1.length ao,.slice ap ab.2.2.2.1.length aq,.slice ar ab.2.2.2.2.length au]∧[31].map f=[.bool cf]) ?_ ?_
 ·intro f cd hJ;obtain ⟨ce,cf,hm,aa,ac,hs⟩:=hJ;rw [Zib.eq_1] at hm;refine .lL [31] hs ?_;refine Zs hm (fun hb hm=>go ?_) fun hb hm=>go ?_
  ·cases hm;exact ⟨rfl,rfl,aa.below⟩
  refine Xe [1,2,3,1000000] (fun n f bv=>∃ bw a2 a3 ai aw a4 ax,ax=n∧Td N ab ak aj ax ai aw a4=some r∧St w0 (Zk col) bw bv∧Zc (Za.slice (Za.int .i64)) 39 2 bw bv a2 a3 ai∧Zo 27 1 bw bv a0 #[.string ab.1,.slice al ab.2.1.length am,.slice an ab.2.2.1.length ao,.slice ap ab.2.2.2.1.length aq,.slice ar ab.2.2.2.2.length au]∧[10,11,9].map f=[.slice a2 ai.length a3,.int .i64 aw,.string a4]) N ⟨_,none,0,_,0,_,_,rfl,hm,aa,Zc.nil,ac,rfl⟩ ?_;clear hm;intro n f bv hI;obtain ⟨bw,a2,a3,ai,aw,a4,ax,hn,hm,aa,ad,ac,hs⟩:=hI;subst hn;refine .lL [10,11,9] hs ?_
  cases ax with
  | zero=>rw [Td.eq_1] at hm;cases hm
  | succ ax=>
   rw [Td.eq_2] at hm;refine Zw<|Zw ?_;refine Wp.cutK [1,10,11,2,3,9,1000000] (fun f a7=>∃ a5 cg,Zdk N ab ak aj ai aw a4 (Td N ab ak aj ax) cg=some r∧St w0 (Zk col) a5 a7∧Zc (Za.slice (Za.int .i64)) 39 2 a5 a7 a2 a3 ai∧Zo 27 1 a5 a7 a0 #[.string ab.1,.slice al ab.2.1.length am,.slice an ab.2.2.1.length ao,.slice ap ab.2.2.2.1.length aq,.slice ar ab.2.2.2.2.length au]∧[40].map f=[.bool cg]) ?_ ?_
   ·intro f a7 hJ;obtain ⟨a5,cg,hm,aa,ad,ac,hs⟩:=hJ;rw [Zdk.eq_1] at hm;refine .lL [40] hs ?_;refine Zs hm (fun hb hm=>?_) fun hb hm=>go ?_
    ·refine Yc<|Zw ?_;refine Wp.cutK [1,11,2,3,1000000] (fun f bx=>∃ bz ch ci b0 cj,Zb9 aw (Td N ab ak aj ax) b0 cj=some r∧St w0 (Zk col) bz bx∧Zc (Za.slice (Za.int .i64)) 39 2 bz bx ch ci b0∧Zo 27 1 bz bx a0 #[.string ab.1,.slice al ab.2.1.length am,.slice an ab.2.2.1.length ao,.slice ap ab.2.2.2.1.length aq,.slice ar ab.2.2.2.2.length au]∧[10,9].map f=[.slice ch b0.length ci,.string cj]) ?_ ?_
     ·intro f bx hJ;obtain ⟨bz,ch,ci,b0,cj,hm,aa,dx,ac,hs⟩:=hJ;rw [Zb9.eq_1] at hm;refine .lL [10,9] hs<|go ?_;exact ⟨ax,by omega,rfl,⟨_,_,_,_,_,_,_,rfl,hm,aa,dx,ac,rfl⟩⟩
     refine go ?_;have ck:=Zz.clip (fun _=>false) a5 a7;refine Zeq (col:=a5) [(0,0),(1,1),(2,1),(3,1),(4,0),(5,3),(6,1),(7,1),(8,1),(9,4),(10,2),(11,1)] (by kernel_rfl) (by kernel_rfl) ⟨fun h=>absurd h (by decide),fun h=>absurd h (by decide),fun h=>absurd h (by decide),fun h=>absurd h (by decide),fun h=>absurd h (by decide),fun h=>absurd h (by decide),fun h=>absurd h (by decide),fun h=>absurd h (by decide),fun h=>absurd h (by decide),fun _=>⟨_,_,_,rfl,Uu zeroValue35⟩,fun h=>absurd h (by decide),fun h=>absurd h (by decide),trivial⟩ ?_;replace ac:=ac.kpp ck;refine Wn (v:=(.agg #[.string ab.1,.slice al ab.2.1.length am,.slice an ab.2.2.1.length ao,.slice ap ab.2.2.2.1.length aq,.slice ar ab.2.2.2.2.length au])) rfl rfl (fun _ hC=>Xt isAgg27 sizeOf27 rfl rfl (ac.atN.gr (hC.bl (Zf a7 a5)))) ?_;refine X9 (v:=(.slice a1 ak.length cc)) rfl rfl (fun _=>Wm rfl) ?_;refine X9 (v:=(.int .i64 aw)) rfl rfl (fun _=>Wm rfl) ?_;obtain ⟨dy,ay,hm⟩:=bZ hm;replace aa:=aa.kpp ck;refine X9 (v:=(X0 a1 (Int.toNat aw * 1))) rfl rfl (fun _=>We underlying24 sizeOf39 rfl rfl (Xk ay).1 (Xk ay).2.1 ((h1.ks aa).addr ay)) ?_;obtain ⟨_,dz,d0⟩:=(h1.ks aa).atN ay;obtain ⟨⟨d1,d2,rfl,cl⟩,_⟩:=dz;refine Wn (v:=(.slice d1 dy.length d2)) rfl rfl (fun _ hC=>Sk isAgg39 rfl (d0.one.gr (hC.bl (Zf a7 a5)))) ?_;refine Ww rfl rfl ?_;intro e7 hC0;have hC:=hC0.bl (Zf a7 a5);obtain ⟨a6,d3,hm⟩:=bZ hm;replace cl:=cl.gr hC;replace aa:=aa.grow hC;refine Zi (Zzs 3 4 d3 (a9.ks aa) (ba.ks aa) (bb.ks aa) (bc.ks aa) cl) ?_;rintro _ ae ⟨af,da,db,dc,dd,rfl,bh,bd,be⟩;refine ⟨_,rfl,?_⟩;refine Zm ?_;refine ⟨fun w'=>Zg (Zf ae af) ae (Zf ae af) w',fun g=>(Zf ae af) g=497,Zg.refl _ _,Wk,fun _=>⟨fun _ h=>Vw hC0 bh h,fun b hb=>bh.below.block b hb,fun g x1 x2=>V3 bh g x1 (by first | exact x2 | (simp only [Xr,x2];rfl) | (simp only [Xr,Xf,x2];rfl))⟩,?_⟩;have bk:=Zz.clip (fun _=>false) af ae;refine X9 (v:=(.tuple #[(.agg #[.bool a6.1.1.1,.slice da a6.1.1.2.length db,.slice dc a6.1.2.length dd]),.int .i64 a6.2])) rfl rfl (fun _=>Wm rfl) ?_;refine X9 (v:=(.agg #[.bool a6.1.1.1,.slice da a6.1.1.2.length db,.slice dc a6.1.2.length dd])) rfl rfl (fun _=>Xh rfl rfl) ?_;refine X9 (v:=(.int .i64 a6.2)) rfl rfl (fun _=>Xh rfl rfl) ?_
     refine Zc6 rfl rfl (Uu zeroValue35) ?_;intro ag d4;refine Ww rfl rfl ?_;intro d5 ⟨hC0,hZ0⟩;replace ad:=(((ad.kpp ck).gr hC).gr bh).kpp bk;replace ac:=((ac.gr hC).gr bh).kpp bk;have hC:=hC0.bl (Zf ae af);obtain ⟨bm,cn⟩:=Zbu (col:=(Zf ae af)) 5 hZ0 d4;replace cn:Zo 35 5 (Z3 ag 5 (Zf ae af)) d5 ag #[.bool false,.slice none (([]:List Int).length) 0,.slice none (([]:List Int).length) 0]:=cn;refine Z2 cn ?_;intro ah bn d6 bo;refine Zm ?_;refine ⟨fun w'=>Zg (Zf ah (Z3 ag 5 (Zf ae af))) ah (Zf ah (Z3 ag 5 (Zf ae af))) w',fun g=>(Zf ah (Z3 ag 5 (Zf ae af))) g=497,Zg.refl _ _,Wk,fun h=>absurd h (by decide),?_⟩;have bi:=Zz.clip (fun _=>false) (Z3 ag 5 (Zf ae af)) ah;refine X9 (v:=(.int .i64 a6.2)) rfl rfl (fun _=>Uq rfl) ?_;refine Zer ?_;replace aa:=(((((aa.grow bh).kpp bk).grow hC).kpp bm).kp bn d6).kpp bi;replace bd:=((((bd.kpp bk).gr hC).kpp bm).kp bn).kpp bi;replace be:=((((be.kpp bk).gr hC).kpp bm).kp bn).kpp bi;replace ad:=(((ad.gr hC).kpp bm).kp bn).kpp bi;replace ac:=(((ac.gr hC).kpp bm).kp bn).kpp bi;intro de hC;replace hC:Zg (Zf ah (Z3 ag 5 (Zf ae af))) ah (Zf ah (Z3 ag 5 (Zf ae af))) de:=.of_below hC.below;refine Zw<|Ur (col:=(Zf ah (Z3 ag 5 (Zf ae af)))) (by kernel_rfl) (by kernel_rfl) ?_;replace ac:=ac.gr hC;refine qv rfl (fun _ hC=>Xj isAgg27 sizeOf27 (ac.gr (hC.bl (Zf ah (Z3 ag 5 (Zf ae af)))))) ?_;refine go ?_;replace aa:=aa.grow hC;refine qI ay ((h1.ks aa).addr ay) ?_;obtain ⟨_,d7,d8⟩:=(h1.ks aa).atN ay;obtain ⟨⟨e8,e9,rfl,d9⟩,_⟩:=d7;refine qW (fun _ hC=>d8.one.gr (hC.bl (Zf ah (Z3 ag 5 (Zf ae af))))) ?_;obtain ⟨av,ea,hm⟩:=bZ hm;refine qc (v:=(.tuple #[.string av.1,.int .i64 av.2])) rfl (fun _ hC=>⟨_,_,Zp2 call11 rfl rfl,(Zrj ea ((a9.ks aa).gr (hC.bl (Zf ah (Z3 ag 5 (Zf ae af))))) ((ba.ks aa).gr (hC.bl (Zf ah (Z3 ag 5 (Zf ae af))))) ((bb.ks aa).gr (hC.bl (Zf ah (Z3 ag 5 (Zf ae af))))) ((bc.ks aa).gr (hC.bl (Zf ah (Z3 ag 5 (Zf ae af))))) (d9.gr (hC.bl (Zf ah (Z3 ag 5 (Zf ae af))))):).mono fun _ _ h=>⟨h.1,hC.trans (.of_below h.2)⟩⟩) ?_;refine qv (v:=(.tuple #[.string av.1,.int .i64 av.2])) rfl (fun _ hC=>Wm rfl) ?_
     refine qv (v:=(.string av.1)) rfl (fun _ hC=>Xh rfl rfl) ?_;refine qv (v:=(.int .i64 av.2)) rfl (fun _ hC=>Xh rfl rfl) ?_;refine go ?_;refine Vn ?_;replace bo:=(bo.kpp bi).gr hC;replace ad:=ad.gr hC;replace bd:=bd.gr hC;replace be:=be.gr hC;intro df hC;replace hC:Zg (Zf ah (Z3 ag 5 (Zf ae af))) de (Zf ah (Z3 ag 5 (Zf ae af))) df:=.of_below hC.below;refine go ?_;replace ad:=ad.gr hC;replace bd:=bd.gr hC;replace be:=be.gr hC;replace ac:=ac.gr hC;replace bo:=bo.gr hC;replace aa:=aa.grow hC;refine Zs hm (fun hb hm=>?_) fun hb hm=>go ?_
     ·refine Zw<|Zw ?_;refine Wp.cutK [1,10,11,2,3,9,1000000] (fun f b1=>∃ b2 co,Zic ai aw a4 (Td N ab ak aj ax) co=some r∧St w0 (Zk col) b2 b1∧Zc (Za.slice (Za.int .i64)) 39 2 b2 b1 a2 a3 ai∧Zo 27 1 b2 b1 a0 #[.string ab.1,.slice al ab.2.1.length am,.slice an ab.2.2.1.length ao,.slice ap ab.2.2.2.1.length aq,.slice ar ab.2.2.2.2.length au]∧[68].map f=[.bool co]) ?_ ?_
      ·intro f b1 hJ;obtain ⟨b2,co,hm,aa,ad,ac,hs⟩:=hJ;rw [Zic.eq_1] at hm;refine .lL [68] hs ?_;refine Zs hm (fun hb hm=>go ?_) fun hb hm=>go ?_
       ·cases hm;exact ⟨rfl,rfl,aa.below⟩
       exact ⟨rfl,_,_,_,_,_,hm,aa,ad,ac,rfl⟩
      refine go ?_;refine X1 hm (fun cp hm=>go ?_) fun cp hm=>go ?_
      ·refine lV (.bool true) (Xm (congrArg Value.bool cp) rfl)<|Zm ?_;exact ⟨rfl,_,_,hm,aa,ad,ac,rfl⟩
      refine lV (.bool (!decide (av.1=(⟨#[]⟩)))) (Xd (congrArg Value.bool cp) rfl)<|Zm ?_;exact ⟨rfl,_,_,hm,aa,ad,ac,rfl⟩
     refine lV _ (Xj isAgg35 sizeOf35 bo) ?_;obtain ⟨fa,eb,hm⟩:=bZ hm;refine Zi (Znp eb ((bd.toSlF (Zh.int .u32)).froz 4) ((be.froz 3 (by decide)).toSlF (Zh.int .u32))) ?_;rintro _ ec ⟨rfl,bp⟩;refine ⟨_,rfl,?_⟩;replace bp:Zg (Zf ah (Z3 ag 5 (Zf ae af))) df (Zf ah (Z3 ag 5 (Zf ae af))) ec:=.of_below bp;refine go ?_;replace ad:=ad.gr bp;replace ac:=ac.gr bp;replace aa:=aa.grow bp;refine Zs hm (fun hb hm=>?_) fun hb hm=>go ?_
     ·refine Zw<|Zw ?_;refine Wp.cutK [1,10,11,2,3,9,1000000] (fun f b3=>∃ b4 cq,Zid ai aw a4 (Td N ab ak aj ax) cq=some r∧St w0 (Zk col) b4 b3∧Zc (Za.slice (Za.int .i64)) 39 2 b4 b3 a2 a3 ai∧Zo 27 1 b4 b3 a0 #[.string ab.1,.slice al ab.2.1.length am,.slice an ab.2.2.1.length ao,.slice ap ab.2.2.2.1.length aq,.slice ar ab.2.2.2.2.length au]∧[77].map f=[.bool cq]) ?_ ?_
      ·intro f b3 hJ;obtain ⟨b4,cq,hm,aa,ad,ac,hs⟩:=hJ;rw [Zid.eq_1] at hm;refine .lL [77] hs ?_;refine Zs hm (fun hb hm=>go ?_) fun hb hm=>go ?_
       ·cases hm;exact ⟨rfl,rfl,aa.below⟩
       exact ⟨rfl,_,_,_,_,_,hm,aa,ad,ac,rfl⟩
      refine go ?_;refine X1 hm (fun cr hm=>go ?_) fun cr hm=>go ?_
      ·refine lV (.bool true) (Xm (congrArg Value.bool cr) rfl)<|Zm ?_;exact ⟨rfl,_,_,hm,aa,ad,ac,rfl⟩
      refine lV (.bool (!decide (av.1=(⟨#[]⟩)))) (Xd (congrArg Value.bool cr) rfl)<|Zm ?_;exact ⟨rfl,_,_,hm,aa,ad,ac,rfl⟩
     refine lV _ (Xj isAgg27 sizeOf27 ac)<|go ?_;obtain ⟨ed,hm⟩:=Xc hm;refine lV (.string (av.1++aj)) (Zhe underlying9 rfl rfl ed) ?_;obtain ⟨a8,ee,hm⟩:=bZ hm;refine Zi (Znn 6 ee (a9.ks aa) (ba.ks aa) (bb.ks aa) (bc.ks aa)) ?_;rintro _ ef ⟨dg,dh,di,rfl,ct,eg⟩;refine ⟨_,rfl,?_⟩;refine lM (.tuple #[.slice dh a8.1.length di,.int .i64 a8.2.1,.int .i64 a8.2.2])<|lV (.slice dh a8.1.length di) (Xh rfl rfl)<|lV (.int .i64 a8.2.1) (Xh rfl rfl)<|lV (.int .i64 a8.2.2) (Xh rfl rfl)<|Sv rfl<|Ym rfl<|Ym rfl<|Zm<|Zw<|Zw ?_;replace ad:=ad.gr ct;replace ac:=ac.gr ct;replace aa:=aa.grow ct;refine Wp.cutK [1,10,11,14,2,3,9,1000000] (fun f b5=>∃ bq cu,Zdl ak ai aw a4 (Td N ab ak aj ax) av cu=some r∧St w0 (Zk col) bq b5∧Zc (Za.slice (Za.int .i64)) 39 2 bq b5 a2 a3 ai∧Zo 27 1 bq b5 a0 #[.string ab.1,.slice al ab.2.1.length am,.slice an ab.2.2.1.length ao,.slice ap ab.2.2.2.1.length aq,.slice ar ab.2.2.2.2.length au]∧[107].map f=[.bool cu]) ?_ ?_
     ·intro f b5 hJ;obtain ⟨bq,cu,hm,aa,ad,ac,hs⟩:=hJ;rw [Zdl.eq_1] at hm;refine .lL [107] hs ?_;refine Zs hm (fun hb hm=>go ?_) fun hb hm=>go ?_
      ·cases hm;exact ⟨rfl,rfl,aa.below⟩
      obtain ⟨eh,hm⟩:=Xc hm;refine lV (.string (a4++av.1)) (Zhe underlying9 rfl rfl eh)<|go ?_;obtain ⟨b6,cv,hm⟩:=bZ hm;refine lI cv ((h1.ks aa).addr cv) ?_;obtain ⟨_,ei,ej⟩:=(h1.ks aa).atN cv;obtain ⟨⟨dj,dl,rfl,ek⟩,_⟩:=ei;refine lW ej.one<|Zay (col:=bq) (r:=(Za.slice (Za.int .i64))) (xs:=[b6]) [.slice dj b6.length dl] 7 (Wd.ofF (Rows.consF (r:=(Za.slice (Za.int .i64))) (x:=b6) (cs:=[.slice dj b6.length dl]) (Qv ek) Rows.nil0)) ?_;intro fb fc fd cw el;obtain ⟨em,hm⟩:=Xc hm;replace ad:=ad.gr cw;refine T7 ad (el.srcN NB.slice) em ?_;intro fe ff fg fh dm en;refine go ?_;replace ac:=(ac.gr cw).kpp dm;replace aa:=(aa.grow cw).kpp dm;exact ⟨rfl,_,_,_,_,_,hm,aa,en,ac,rfl⟩
     refine go ?_;refine X1 hm (fun cx hm=>go ?_) fun cx hm=>go ?_
     ·refine lV (.bool true) (Xm (congrArg Value.bool cx) rfl)<|X5 rfl<|lP 93 rfl rfl<|lP 93 rfl rfl<|lP 93 rfl rfl<|lP 93 rfl rfl<|lV (.bool true) (Xm rfl rfl)<|X5 rfl<|lP 99 rfl rfl<|lP 99 rfl rfl<|lP 99 rfl rfl<|lP 99 rfl rfl<|lP 99 rfl rfl<|lP 99 rfl rfl<|lP 99 rfl rfl<|lV (.bool true) (Xm rfl rfl)<|Zm ?_;exact ⟨rfl,_,_,hm,aa,ad,ac,rfl⟩
     refine lV (.bool (!decide (a8.2.2=0))) (Xd (congrArg Value.bool cx) rfl)<|X5 rfl ?_;refine X1 hm (fun cy hm=>go ?_) fun cy hm=>go ?_
     ·refine lV (.bool true) (Xm (congrArg Value.bool cy) rfl)<|X5 rfl<|lP 99 rfl rfl<|lP 99 rfl rfl<|lP 99 rfl rfl<|lP 99 rfl rfl<|lP 99 rfl rfl<|lP 99 rfl rfl<|lP 99 rfl rfl<|lV (.bool true) (Xm rfl rfl)<|Zm ?_;exact ⟨rfl,_,_,hm,aa,ad,ac,rfl⟩
     refine lV (.bool (!decide (a8.2.1=(av.1.size:Int)))) (Xd (congrArg Value.bool cy) rfl)<|X5 rfl ?_;refine X1 hm (fun cz hm=>go ?_) fun cz hm=>go ?_
     ·refine lV (.bool true) (Xm (congrArg Value.bool cz) rfl)<|Zm ?_;exact ⟨rfl,_,_,hm,aa,ad,ac,rfl⟩
     refine lI ay ((h1.ks aa).addr ay) ?_;refine go ?_;obtain ⟨_,eo,ep⟩:=(h1.ks aa).atN ay;obtain ⟨⟨fi,fj,rfl,eq⟩,_⟩:=eo;refine lW ep.one<|go ?_;obtain ⟨er,es,hm⟩:=bZ hm;refine Zi (Znz es (eg.toSlF (Zh.int .i64)) (eq.froz 6)) ?_;rintro _ et ⟨rfl,br⟩;refine ⟨_,rfl,?_⟩;replace br:Zg dg ef dg et:=.of_below br;refine go ?_;refine lV (.bool (!er)) (Xd (congrArg Value.bool cz) rfl)<|Zm ?_;replace ad:=ad.gr br;replace ac:=ac.gr br;replace aa:=aa.grow br;exact ⟨rfl,_,_,hm,aa,ad,ac,rfl⟩
    obtain ⟨eu,hm⟩:=Xc hm;refine lV (.string (a4++aj)) (Zhe underlying9 rfl rfl eu)<|go ?_;refine Xe [10,2,3,1000000] (fun n f b7=>∃ b8 b9 bf bg,bg=n∧Sz N ab aj ai bg b9 bf=some r∧St w0 (Zk col) b8 b7∧Zc (Za.slice (Za.int .i64)) 39 2 b8 b7 a2 a3 ai∧Zo 27 1 b8 b7 a0 #[.string ab.1,.slice al ab.2.1.length am,.slice an ab.2.2.1.length ao,.slice ap ab.2.2.2.1.length aq,.slice ar ab.2.2.2.2.length au]∧[19,9].map f=[.int .i64 b9,.string bf]) N ⟨_,0,_,_,rfl,hm,aa,ad,ac,rfl⟩ ?_;clear hm;intro n f b7 hI;obtain ⟨b8,b9,bf,bg,hn,hm,aa,ad,ac,hs⟩:=hI;subst hn;refine .lL [19,9] hs ?_
    cases bg with
    | zero=>rw [Sz.eq_1] at hm;cases hm
    | succ bg=>
     rw [Sz.eq_2] at hm;refine go ?_;refine Zs hm (fun hb hm=>go ?_) fun hb hm=>go ?_
     ·refine lV _ (Xj isAgg27 sizeOf27 ac)<|lMT rfl ?_;obtain ⟨az,ew,hm⟩:=bZ hm;refine Zi (Znn 8 ew (a9.ks aa) (ba.ks aa) (bb.ks aa) (bc.ks aa)) ?_;rintro _ ey ⟨dn,dp,dq,rfl,c0,ez⟩;refine ⟨_,rfl,?_⟩;refine lM (.tuple #[.slice dp az.1.length dq,.int .i64 az.2.1,.int .i64 az.2.2])<|lV (.slice dp az.1.length dq) (Xh rfl rfl)<|lV (.int .i64 az.2.1) (Xh rfl rfl)<|lV (.int .i64 az.2.2) (Xh rfl rfl)<|Sv rfl<|Ym rfl<|Ym rfl<|Zm<|Zw<|Zw ?_;replace ad:=ad.gr c0;replace ac:=ac.gr c0;replace aa:=aa.grow c0;refine Wp.cutK [10,19,2,21,3,9,1000000] (fun f ca=>∃ cb c1,Zdm b9 bf (Sz N ab aj ai bg) az c1=some r∧St w0 (Zk col) cb ca∧Zc (Za.slice (Za.int .i64)) 39 2 cb ca a2 a3 ai∧Zo 27 1 cb ca a0 #[.string ab.1,.slice al ab.2.1.length am,.slice an ab.2.2.1.length ao,.slice ap ab.2.2.2.1.length aq,.slice ar ab.2.2.2.2.length au]∧[154].map f=[.bool c1]) ?_ ?_
      ·intro f ca hJ;obtain ⟨cb,c1,hm,aa,ad,ac,hs⟩:=hJ;rw [Zdm.eq_1] at hm;refine .lL [154] hs ?_;refine Zs hm (fun hb hm=>go ?_) fun hb hm=>go ?_
       ·cases hm;exact ⟨rfl,rfl,aa.below⟩
       obtain ⟨e0,hm⟩:=Xc hm;refine lV (.string (bf.extract (Int.toNat az.2.1) (Int.toNat (bf.size:Int)))) (Z4d underlying9 rfl rfl e0)<|go ?_;exact ⟨bg,by omega,rfl,⟨_,_,_,_,rfl,hm,aa,ad,ac,rfl⟩⟩
      refine go ?_;refine X1 hm (fun c2 hm=>go ?_) fun c2 hm=>go ?_
      ·refine lV (.bool true) (Xm (congrArg Value.bool c2) rfl)<|X5 rfl<|lP 140 rfl rfl<|lP 140 rfl rfl<|lP 140 rfl rfl<|lP 140 rfl rfl<|lV (.bool true) (Xm rfl rfl)<|X5 rfl<|lP 146 rfl rfl<|lP 146 rfl rfl<|lP 146 rfl rfl<|lP 146 rfl rfl<|lP 146 rfl rfl<|lP 146 rfl rfl<|lP 146 rfl rfl<|lV (.bool true) (Xm rfl rfl)<|Zm ?_;exact ⟨rfl,_,_,hm,aa,ad,ac,rfl⟩
      refine lV (.bool (decide (az.2.1<0))) (Xd (congrArg Value.bool c2) rfl)<|X5 rfl ?_;refine X1 hm (fun c3 hm=>go ?_) fun c3 hm=>go ?_
      ·refine lV (.bool true) (Xm (congrArg Value.bool c3) rfl)<|X5 rfl<|lP 146 rfl rfl<|lP 146 rfl rfl<|lP 146 rfl rfl<|lP 146 rfl rfl<|lP 146 rfl rfl<|lP 146 rfl rfl<|lP 146 rfl rfl<|lV (.bool true) (Xm rfl rfl)<|Zm ?_;exact ⟨rfl,_,_,hm,aa,ad,ac,rfl⟩
      refine lV (.bool (decide ((bf.size:Int)<az.2.1))) (Xd (congrArg Value.bool c3) rfl)<|X5 rfl ?_;refine X1 hm (fun c4 hm=>go ?_) fun c4 hm=>go ?_
      ·refine lV (.bool true) (Xm (congrArg Value.bool c4) rfl)<|Zm ?_;exact ⟨rfl,_,_,hm,aa,ad,ac,rfl⟩
      obtain ⟨fk,c5,hm⟩:=bZ hm;refine lI c5 (ad.addr c5) ?_;refine go ?_;obtain ⟨_,e1,e2⟩:=ad.atN c5;obtain ⟨fl,fm,rfl,e3⟩:=e1.slice;refine lW e2.one<|go ?_;obtain ⟨e4,e5,hm⟩:=bZ hm;refine Zi (Znz e5 (ez.toSlF (Zh.int .i64)) (e3.froz 8)) ?_;rintro _ e6 ⟨rfl,bs⟩;refine ⟨_,rfl,?_⟩;replace bs:Zg dn ey dn e6:=.of_below bs;refine go ?_;refine lV (.bool (!e4)) (Xd (congrArg Value.bool c4) rfl)<|Zm ?_;replace ad:=ad.gr bs;replace ac:=ac.gr bs;replace aa:=aa.grow bs;exact ⟨rfl,_,_,hm,aa,ad,ac,rfl⟩
     cases hm;exact ⟨rfl,rfl,aa.below⟩
   refine go ?_;refine X1 hm (fun c6 hm=>go ?_) fun c6 hm=>go ?_
   ·refine lV (.bool (decide (aw<20))) (Xm (congrArg Value.bool c6) rfl)<|Zm ?_;exact ⟨rfl,_,_,hm,aa,ad,ac,rfl⟩
   refine lV (.bool false) (Xd (congrArg Value.bool c6) rfl)<|Zm ?_;exact ⟨rfl,_,_,hm,aa,ad,ac,rfl⟩
 refine go ?_;refine X1 hm (fun c7 hm=>go ?_) fun c7 hm=>go ?_
 ·refine lV (.bool true) (Xm (congrArg Value.bool c7) rfl)<|Zm ?_;exact ⟨rfl,_,_,hm,aa,ac,rfl⟩
 refine lV (.bool (!du)) (Xd (congrArg Value.bool c7) rfl)<|Zm ?_;exact ⟨rfl,_,_,hm,aa,ac,rfl⟩
/-! a network that is gone through is small -/
theorem Zup {N:Nat} {n:Z8} (h:(12:Int)<(n.2.1.length:Int)):∀ (f:Nat) (s i:Int),To N n f s i≠some false
 | 0,s,i=>by rw [To.eq_1];intro e;cases e
 | f+1,s,i=>by
  have fin:Zai N n s i (To N n f) false=some true:=by
   rw [Zai,if_neg (by decide),if_pos (decide_eq_true h)];rfl
  rw [To.eq_2]
  by_cases hi:i<(n.2.2.2.2.length:Int)
  ·rw [if_pos (decide_eq_true hi)]
   by_cases h13:i<13
   ·rw [decide_eq_true h13,Zai,if_pos rfl]
    cases Zp n.2.2.2.2 i with
    | none=>intro e;cases e
    | some t=>rw [Option.bind_some];exact Zup h f _ _
   ·rw [decide_eq_false h13,fin];intro e;cases e
  ·rw [if_neg (by rw [decide_eq_false hi];decide),fin];intro e;cases e
theorem Zx0 {N:Nat} {n:Z8} (he:n.2.2.1.length=n.2.1.length) (hl:n.2.1.length≤1024):∀ (f v:Nat) (c:Int),v≤n.2.1.length→n.2.1.length<f+v→∃ b,Zdn N n f c (v:Int)=some b
 | 0,v,c,h1,h2=>by omega
 | f+1,v,c,h1,h2=>by
  rw [Zdn.eq_2]
  by_cases hv:v<n.2.1.length
  ·rw [if_pos (decide_eq_true (by omega)),Z9 (by omega),Option.bind_some]
   generalize i64.wrap (c * _)=d
   by_cases hd:300<d
   ·rw [if_pos (decide_eq_true hd)];exact ⟨_,rfl⟩
   ·rw [if_neg (by rw [decide_eq_false hd];decide),wS (by omega)]
    exact Zx0 he hl f (v+1) d (by omega) (by omega)
  ·rw [if_neg (by rw [decide_eq_false (by omega)];decide)];exact ⟨_,rfl⟩
theorem Z49 {N W:Nat} {n:Z8} (hs:Wz n W) (hb:Zhl n) (hr:Z4 N (8 * W+40)) (hN:2000000<N):∃ b,Zfy N n=some b∧(b=true→Um N n=some 0∧Y9 N n∧n.2.1.length≤12):=by
 obtain ⟨r,hm⟩:=Z2u (N:=N) (n:=n) (fun t ht=>⟨hb.tl t ht,hb.tm t ht⟩) hb.tn (by omega)
 have hm':Zfw N (n.1,n.2.1,n.2.2.1,n.2.2.2.1,n.2.2.2.2)=some r:=hm
 obtain ⟨e,m1,m2,fine⟩:=Z0s hs hr hN
 have m1':Um N (n.1,n.2.1,n.2.2.1,n.2.2.2.1,n.2.2.2.2)=some e:=m1
 rw [Zfy,hm',Option.bind_some]
 cases r with
 | true=>rw [if_pos rfl,Zfz,if_pos rfl];exact ⟨_,rfl,fun h=>Bool.noConfusion h⟩
 | false=>
  rw [if_neg (by decide),m1',Option.bind_some,Zfz]
  by_cases h0:e=0
  ·have hf:=fine h0
   subst h0
   have h12:n.2.1.length≤12:=by
    rcases Nat.lt_or_ge 12 n.2.1.length with h | h
    ·rw [Zfw] at hm
     exact absurd hm (Zup (by omega) _ _ _)
    ·exact h
   obtain ⟨b,hb2⟩:=Zx0 (N:=N) hf.ev.v hf.le N 0 1 (Nat.zero_le _) (by omega)
   rw [if_neg (by decide)]
   exact ⟨b,hb2,fun _=>⟨by first | exact m1 | rfl,hf,h12⟩⟩
  ·rw [if_pos (by rw [decide_eq_false h0];rfl)];exact ⟨_,rfl,fun h=>Bool.noConfusion h⟩
theorem Z3k {n:Z8} {l:List Int} (ho:Ut n.2.2.2.1 l) (hl:l.length=n.2.2.2.1.length) (hp:n.2.2.2.1.length=n.2.1.length):∀ i,i<n.2.1.length→(i:Int) ∈ l:=fun i hi=>by
 apply Classical.byContradiction
 intro hn
 have h1:=Zha (l:=(i:Int) :: l) (r:=(List.range n.2.2.2.1.length).map fun j:Nat=>(j:Int)) (List.nodup_cons.2 ⟨hn,ho.1⟩) fun x hx=>by
  rw [List.mem_map]
  rcases List.mem_cons.1 hx with rfl | hx
  ·exact ⟨i,List.mem_range.2 (by omega),rfl⟩
  ·have:=ho.2.1 x hx
   exact ⟨x.toNat,List.mem_range.2 (by omega),by omega⟩
 rw [List.length_map,List.length_range,List.length_cons] at h1
 omega
/-! one behind the other -/
def W9:List ByteArray→ByteArray
 | []=>⟨#[]⟩
 | b :: l=>b++W9 l
theorem Zva (b:ByteArray):(⟨#[]⟩:ByteArray)++b=b:=ByteArray.empty_append
theorem Zr0:∀ (l:List ByteArray) (b:ByteArray),W9 (l++[b])=W9 l++b
 | [],b=>by rw [List.nil_append,W9,W9,Zva];exact ByteArray.append_empty
 | c :: l,b=>by rw [List.cons_append,W9,W9,Zr0 l b,ByteArray.append_assoc]
theorem Zn4 (B:Nat):∀ l:List ByteArray,(∀ b ∈ l,b.size≤B)→(W9 l).size≤l.length * B
 | [],_=>by rw [W9];exact Nat.zero_le _
 | b :: l,h=>by
  have h1:=h b List.mem_cons_self
  have h2:=Zn4 B l fun c hc=>h c (List.mem_cons_of_mem _ hc)
  rw [W9,ByteArray.size_append,List.length_cons,Nat.add_mul,Nat.one_mul];omega
def Zq6 (N:Nat) (n:Z8) (B:Nat) (p:List Int×ByteArray):Prop:=p.1.length≤1048576∧p.2.size≤B∧∀ rest:ByteArray,(p.2++rest).size≤1099511627776→Q7 N n (p.2++rest)=some (p.1,(p.2.size:Int),0)
theorem Zra {N B:Nat} {n:Z8} (hN:2000000<N) (behind:ByteArray) (good:List R2) (hg:good.length≤20):∀ (L:List (List Int×ByteArray)) (f i:Nat),good.drop i=L.map (·.1)→i≤good.length→good.length<f+i→(∀ p ∈ L,Zq6 N n B p)→(W9 (L.map (·.2))++behind).size≤1099511627776→
  Sz N n behind good f (i:Int) (W9 (L.map (·.2))++behind)=some true
 | L,0,i,_,h1,h2,_,_=>by omega
 | [],f+1,i,hd,h1,h2,_,_=>by
  have:=List.drop_eq_nil_iff.1 hd
  rw [Sz.eq_2,if_neg (by rw [decide_eq_false (by omega)];decide),List.map_nil,W9,Zva,decide_eq_true rfl]
 | (w,b) :: L,f+1,i,hd,h1,h2,hT,hsz=>by
  have hi:i<good.length:=by
   rcases Nat.lt_or_ge i good.length with h | h
   ·exact h
   ·rw [List.drop_eq_nil_of_le h] at hd;cases hd
  rw [List.drop_eq_getElem_cons hi,List.map_cons] at hd
  obtain ⟨e1,e2⟩:=List.cons.inj hd
  obtain ⟨t1,t2,t3⟩:=hT (w,b) List.mem_cons_self
  rw [List.map_cons,W9] at hsz ⊢
  have ea:b++W9 (L.map (·.2))++behind=b++(W9 (L.map (·.2))++behind):=ByteArray.append_assoc
  rw [ea] at hsz ⊢
  have ih:=Zra (B:=B) hN behind good hg L f (i+1) e2 (by omega) (by omega) (fun p hp=>hT p (List.mem_cons_of_mem _ hp)) (by rw [ByteArray.size_append] at hsz;omega)
  have Zda:Q7 N (n.1,n.2.1,n.2.2.1,n.2.2.2.1,n.2.2.2.2) (b++(W9 (L.map (·.2))++behind))=some (w,(b.size:Int),0):=t3 _ hsz
  have si:=Zxw (N:=N) (l:=w) t1 (by omega)
  have hz:=ByteArray.size_append (a:=b) (b:=W9 (L.map (·.2))++behind)
  have ex:(b++(W9 (L.map (·.2))++behind)).extract b.size (b++(W9 (L.map (·.2))++behind)).size=W9 (L.map (·.2))++behind:=ByteArray.extract_append_eq_right rfl hz
  have hat:Zp good (i:Int)=some w:=by rw [Z9 hi,e1]
  rw [Sz.eq_2,if_pos (decide_eq_true (by omega)),Zda,Option.bind_some]
  dsimp only
  rw [if_neg (show ¬ (!decide ((0:Int)=0))=true by decide),if_neg (by rw [decide_eq_false (by omega)];decide),if_neg (by rw [decide_eq_false (by omega)];decide),hat,Option.bind_some,si,Option.bind_some,Zdm,if_neg (by decide)]
  dsimp only
  rw [Xg (by omega),Int.toNat_natCast,Int.toNat_natCast,ex,wS (by omega)]
  exact ih
theorem Zv1 {N W:Nat} {n:Z8} {w:List Int} (hf:Y9 N n) (hs:Wz n W) (hw:Yo n w):∀ (m k:Nat) (q:Rat),k+m=n.2.1.length→qs q≤k * (W+1)+1→qs (U0 n w m k q)≤(k+m) * (W+1)+1
 | 0,k,q,_,h=>h
 | m+1,k,q,hk,h=>by
  have h1:=Zs7 hf hw hs (k:=k) (by omega)
  have h2:=Zcz q (ent n w k)
  have:=Zv1 hf hs hw m (k+1) (q * ent n w k) (by omega) (by rw [Nat.add_mul,Nat.one_mul];omega)
  rw [U0,show k+(m+1)=k+1+m by omega]
  exact this
section
variable {N W K:Nat} {n:Z8} (hf:Y9 N n) (hs:Wz n W) (hr:Z4 N (8 * K+40)) (hWK:1025 * (W+2)+15≤K) (hN:2199023255552<N) {ord:List Int} (ho:Uh n.2.2.2.1 ord) (hol:ord.length≤12)
variable (hC:Um N n=some 0) (o1:Tm N n.2.2.2.1=some (ord,0)) (hall:∀ i,i<n.2.1.length→(i:Int) ∈ ord)
variable {B:Nat} (hB:64 * (12 * (W+2)+2)+65≤B) (list:List R2) (behind:ByteArray) (hsz:21 * B+behind.size≤1099511627776) (hll:list.length≤1099511627776)
include hf hs hr hWK hN ho hol hC o1 hall hB hsz hll
theorem Zyy:∀ (m f i:Nat) (L:List (List Int×ByteArray)),i+m=min list.length 20→m<f→L.length≤i→(∀ p ∈ L,Zq6 N n B p)→Td N n list behind f (L.map (·.1)) (i:Int) (W9 (L.map (·.2)))=some true:=by
 intro m
 induction m with
 | zero=>
  intro f i L hi hfu hL hT
  obtain ⟨f,rfl⟩:∃ f',f=f'+1:=⟨f - 1,by omega⟩
  have hcs:=Zn4 B (L.map (·.2)) fun b hb=>by
   obtain ⟨p,hp,rfl⟩:=List.mem_map.1 hb
   exact (hT p hp).2.1
  rw [List.length_map] at hcs
  have hm:L.length * B≤20 * B:=Nat.mul_le_mul_right _ (by omega)
  have fin:Zdk N n list behind (L.map (·.1)) (i:Int) (W9 (L.map (·.2))) (Td N n list behind f) false=some true:=by
   rw [Zdk,if_neg (by decide),Xg (by simp only [maxLen];omega)]
   exact Zra (B:=B) (by omega) behind (L.map (·.1)) (by rw [List.length_map];omega) L N 0 rfl (Nat.zero_le _) (by rw [List.length_map];omega) hT (by rw [ByteArray.size_append];omega)
  rw [Td.eq_2]
  by_cases h1:i<list.length
  ·rw [if_pos (decide_eq_true (by omega)),decide_eq_false (show ¬ (i:Int)<20 by omega)];exact fin
  ·rw [if_neg (by rw [decide_eq_false (by omega)];decide)];exact fin
 | succ m ih=>
  intro f i L hi hfu hL hT
  obtain ⟨f,rfl⟩:∃ f',f=f'+1:=⟨f - 1,by omega⟩
  have hil:i<list.length:=by omega
  have hle:=hf.le
  have hroom:=hr.1
  have hcs:=Zn4 B (L.map (·.2)) fun b hb=>by
   obtain ⟨p,hp,rfl⟩:=List.mem_map.1 hb
   exact (hT p hp).2.1
  rw [List.length_map] at hcs
  have hm:L.length * B≤20 * B:=Nat.mul_le_mul_right _ (by omega)
  obtain ⟨w,hw⟩:∃ w,list[i]=w:=⟨_,rfl⟩
  have hat:Zp list (i:Int)=some w:=by rw [Z9 hil,hw]
  have next:=ih f (i+1) L (by omega) (by omega) (by omega) hT
  obtain ⟨p,e,ch,cs⟩:=Zr5 hf hs hr (by omega) (by omega) hC w
  have ch':Zf2 N (n.1,n.2.1,n.2.2.1,n.2.2.2.1,n.2.2.2.2) w=some (p,e):=ch
  obtain ⟨b1,b2⟩:=Zy0 hf hs hr hWK hN ho hol hC o1 hall w
  have nl:∀ x:ByteArray,decide (x=x)=true:=fun x=>decide_eq_true rfl
  rw [Td.eq_2,if_pos (decide_eq_true (by omega)),decide_eq_true (show (i:Int)<20 by omega),Zdk,if_pos rfl,hat,Option.bind_some,ch',Option.bind_some]
  rcases cs with ⟨he,hri⟩ | ⟨he,hv,hp⟩
  ·have en:Tl N (n.1,n.2.1,n.2.2.1,n.2.2.2.1,n.2.2.2.2) w=some (⟨#[]⟩,3):=b1 hri
   rw [en,Option.bind_some]
   dsimp only
   rw [if_pos (show (!decide (e=0))=true by rw [decide_eq_false he];rfl),if_neg (show ¬ (!decide ((3:Int)=3))=true by decide),nl,Zic,if_neg (by decide),Zb9,wS (by omega)]
   exact next
  ·subst he hp
   have hri:(decide (w.length=n.2.1.length)&&Vl n w 0)=true:=by
    cases h:(decide (w.length=n.2.1.length)&&Vl n w 0) with
    | true=>rfl
    | false=>
     obtain ⟨p',e',ch2,cs2⟩:=Zr5 hf hs hr (by omega) (by omega) hC w
     have hin:Vl n w 0=true:=by
      have:∀ (l:List Int) (k:Nat),w.drop k=l→Vl n l k=true:=by
       intro l
       induction l with
       | nil=>intro k _;rfl
       | cons x l ihl=>
        intro k hk
        have hkl:k<w.length:=by
         rcases Nat.lt_or_ge k w.length with h | h
         ·exact h
         ·rw [List.drop_eq_nil_of_le h] at hk;cases hk
        rw [List.drop_eq_getElem_cons hkl] at hk
        obtain ⟨a1,a2⟩:=List.cons.inj hk
        have hok:=hv.ok k hkl
        rw [Ye hkl,a1] at hok
        rw [Vl,ihl (k+1) a2,decide_eq_false (by omega),decide_eq_false (by omega)];rfl
      exact this w 0 rfl
     rw [decide_eq_true hv.len,hin] at h
     exact Bool.noConfusion h
   obtain ⟨g1,g2⟩:=b2 hv hri
   have fl:=Z5c hf hv ho hall
   have hq:qs (U0 n w n.2.1.length 0 1)≤1024 * (W+1)+1:=by
    have h1:=Zv1 hf hs hv n.2.1.length 0 1 (by omega) (by rw [Zjo];omega)
    have h2:(0+n.2.1.length) * (W+1)≤1024 * (W+1):=Nat.mul_le_mul_right _ (by omega)
    omega
   have si:Zae N (((Zj (U0 n w n.2.1.length 0 1)).1.1,(Zj (U0 n w n.2.1.length 0 1)).1.2),(Zj (U0 n w n.2.1.length 0 1)).2)=some (Tt (U0 n w n.2.1.length 0 1)):=by
    have:=Zoi (Yr hq) (N:=N) (hr.mono (by omega))
    rwa [Yi] at this
   by_cases hz:U0 n w n.2.1.length 0 1=0
   ·have en:Tl N (n.1,n.2.1,n.2.2.1,n.2.2.2.1,n.2.2.2.2) w=some (⟨#[]⟩,52):=g1 (fl.2 hz)
    rw [en,Option.bind_some]
    dsimp only
    rw [if_neg (show ¬ (!decide ((0:Int)=0))=true by decide),si,Option.bind_some,if_pos (decide_eq_true (Zwe.2 hz)),if_neg (show ¬ (!decide ((52:Int)=52))=true by decide),nl,Zid,if_neg (by decide),Zb9,wS (by omega)]
    exact next
   ·obtain ⟨bits,en,bs,hdec⟩:=g2 fun h=>hz (fl.1 h)
    have en':Tl N (n.1,n.2.1,n.2.2.1,n.2.2.2.1,n.2.2.2.2) w=some (bits,0):=en
    have Zda:Q7 N (n.1,n.2.1,n.2.2.1,n.2.2.2.1,n.2.2.2.2) (bits++behind)=some (w,(bits.size:Int),0):=hdec behind (by rw [ByteArray.size_append];omega)
    have hwl:=hv.len
    have sa:=Zxw (N:=N) (l:=w) (by omega) (by omega)
    have next2:=ih f (i+1) (L++[(w,bits)]) (by omega) (by omega) (by rw [List.length_append,List.length_singleton];omega) fun p hp=>by
     rcases List.mem_append.1 hp with h | h
     ·exact hT p h
     ·rw [List.mem_singleton] at h
      subst h
      exact ⟨by simp only;omega,by simp only;omega,hdec⟩
    rw [List.map_append,List.map_append,List.map_singleton,List.map_singleton,Zr0] at next2
    rw [en',Option.bind_some]
    dsimp only
    rw [if_neg (show ¬ (!decide ((0:Int)=0))=true by decide),si,Option.bind_some,if_neg (by rw [decide_eq_false fun h=>hz (Zwe.1 h)];decide),Xg (by simp only [maxLen];omega),Zda,Option.bind_some]
    dsimp only
    rw [if_neg (show ¬ (!decide ((0:Int)=0))=true by decide),if_neg (show ¬ (!decide ((0:Int)=0))=true by decide),if_neg (show ¬ (!decide ((bits.size:Int)=(bits.size:Int)))=true by rw [decide_eq_true rfl];decide),sa,Option.bind_some,Zdl,if_neg (by decide),Xg (by simp only [maxLen];omega),hat,Option.bind_some,
     Xg (by simp only [List.length_map,List.length_singleton,maxLen];omega),Zb9,wS (by omega)]
    exact next2
end
theorem Zyp {N W K B:Nat} {n:Z8} {list:List R2} {behind:ByteArray} (hs:Wz n W) (hb:Zhl n) (hr:Z4 N (8 * K+40)) (hWK:1025 * (W+2)+15≤K) (hN:2199023255552<N) (hB:64 * (12 * (W+2)+2)+65≤B) (hsz:21 * B+behind.size≤1099511627776) (hll:list.length≤1099511627776):Zk3 N n list behind=some true:=by
 obtain ⟨b,sm,hb2⟩:=Z49 (N:=N) hs hb (hr.mono (by omega)) (by omega)
 have sm':Zfy N (n.1,n.2.1,n.2.2.1,n.2.2.2.1,n.2.2.2.2)=some b:=sm
 rw [Zk3,Zqu,Option.bind_some,sm',Option.bind_some,if_neg (by decide),Zib]
 cases b with
 | false=>rw [if_pos (by decide)]
 | true=>
  obtain ⟨hC,hf,h12⟩:=hb2 rfl
  obtain ⟨l,o1,o2,o3,o4,o5⟩:=hf.or
  have hp:=hf.ev.p
  have ho:Uh n.2.2.2.1 l:=Z3l (by omega) hs.pn.ls (by omega) o2 o4
  rw [if_neg (by decide)]
  exact Zyy hf hs hr hWK hN ho (by omega) hC o1 (Z3k o4 o5 hp) hB list behind hsz hll (min list.length 20) N 0 [] (by omega) (by omega) (Nat.le_refl _) (fun p hp=>by cases hp)
theorem Q5 {α:Type} {b:α→Nat} (hb:∀ x,1≤b x):∀ (l:List α),l.length+1≤Xu b l
 | []=>by simp [Xu]
 | x :: l=>by
  have h:=Q5 hb l
  have:=hb x
  simp only [Xu,List.map_cons,List.sum_cons,List.length_cons] at h ⊢
  omega
theorem Zma {α:Type} {b:α→Nat} {x:α}:∀ {l:List α},x ∈ l→b x+1≤Xu b l
 | y :: l,h=>by
  simp only [Xu,List.map_cons,List.sum_cons]
  rcases List.mem_cons.1 h with rfl | h
  ·omega
  ·have:=Zma (b:=b) h
   simp only [Xu] at this
   omega
theorem Zkb {α:Type} {b:α→Nat} (l:List α):1≤Xu b l:=by simp only [Xu];omega
theorem Znl (s:ByteArray):1≤W8 s:=by simp only [W8];omega
theorem Znk {α:Type} (s:α):1≤Wj s:=by simp only [Wj];omega
theorem Zy5 {α:Type} {b:α→Nat} (s:α):1≤U6 b s:=by simp only [U6];omega
abbrev Zbt:QV→Nat:=U6 (Vj (U6 (Vj Wj (Xu Wj))) (Xu Wj))
abbrev qQ:QV→Prop:=Si (Si (fun _=>True) (W0 (Qx .u32))) (W0 (Qx .u32))
abbrev Zka:Z8→Nat:=U6 (Vj W8 (Vj (Xu W8) (Vj (Xu (Xu W8)) (Vj (Xu (Xu Wj)) (Xu (Xu Zbt))))))
abbrev Zv6:Z8→Prop:=Si (fun _=>True) (Si (W0 (fun _=>True)) (Si (W0 (W0 (fun _=>True))) (Si (W0 (W0 (Qx .i64))) (W0 (W0 qQ)))))
theorem Zuf {l:List Int} (h:W0 (Qx .u32) l):Zn l:=by
 intro d hd
 have h1:=h d hd
 simp [Qx,Lit.wf,IntKind.min,IntKind.max,IntKind.signed,IntKind.bits] at h1
 omega
theorem Z2p {x:QV} (h:qQ x):Wy x:=⟨Zuf h.1.2,Zuf h.2⟩
theorem Zrd (x:QV):x.1.2.length+x.2.length+4≤Zbt x:=by
 have h1:=Q5 (b:=Wj) Znk x.1.2
 have h2:=Q5 (b:=Wj) Znk x.2
 simp only [U6,Vj]
 have h3:Wj x.1.1=1:=rfl
 omega
theorem Zwa:∀ t:List QV,Yb t≤Xu Zbt t
 | []=>by rw [Yb];omega
 | x :: t=>by
  have h1:=Zwa t
  have h2:=Zrd x
  rw [Yb]
  simp only [Xu,List.map_cons,List.sum_cons] at h1 ⊢
  omega
theorem Zye:∀ P:List R2,Te P+P.length≤Xu (Xu Wj) P
 | []=>by simp [Te,Xu]
 | l :: P=>by
  have h1:=Zye P
  have h2:=Q5 (b:=Wj) Znk l
  rw [Zjy,List.length_cons]
  simp only [Xu,List.map_cons,List.sum_cons] at h1 h2 ⊢
  omega
theorem Z29 {n:Z8} (hb:Zka n≤1048576) (hq:Zv6 n):Wz n 1048576∧Zhl n:=by
 have a1:=Znl n.1
 have a2:=Q5 (b:=W8) Znl n.2.1
 have a3:=Q5 (b:=Xu W8) Zkb n.2.2.1
 have a4:=Zye n.2.2.2.1
 have a5:=Q5 (b:=Xu Zbt) Zkb n.2.2.2.2
 have a6:=Zkb (b:=Xu Wj) n.2.2.2.1
 simp only [Zka,U6,Vj] at hb
 have b3:∀ l ∈ n.2.2.1,l.length≤1048576:=fun l hl=>by
  have h1:=Zma (b:=Xu W8) hl
  have h2:=Q5 (b:=W8) Znl l
  omega
 have b4:∀ l ∈ n.2.2.2.1,l.length≤1048576:=fun l hl=>by
  have h1:=Zm6 hl
  omega
 have b5:∀ t ∈ n.2.2.2.2,Xu Zbt t≤1048576:=fun t ht=>by
  have h1:=Zma (b:=Xu Zbt) ht
  omega
 have b6:∀ t ∈ n.2.2.2.2,t.length≤1048576:=fun t ht=>by
  have h1:=b5 t ht
  have h2:=Q5 (b:=Zbt) Zy5 t
  omega
 refine ⟨⟨by omega,b3,⟨by omega,by omega⟩,b6,fun t ht=>Nat.le_trans (Zwa t) (b5 t ht),fun t ht x hx=>Z2p (hq.2.2.2.2 t ht x hx)⟩,⟨by omega,by omega,b3,by omega,b4,by omega,b6,fun t ht x hx=>?_⟩⟩
 have h1:=b5 t ht
 have h2:=Zma (b:=Zbt) hx
 have h3:=Zrd x
 omega
end Go.Proofs.YtlchacnggnhhbaaGreat
