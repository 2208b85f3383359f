/-
  What functions of the program compute, as plain Lean functions (m_..), and proofs that they compute it (c_..). Printed by a program of the author; no conditions.
-/
import Derived.Test.YtbmjpjhbankpoaaGreatJointSumBFloat
import Derived.Test.YtbmjpjhbankpoaaGreatProg
import Derived.Test.YtbmjpjhbankpoaaGreatJointSumBBrief
import Derived.Test.YtbmjpjhbankpoaaGreatJointSumBBulk
import Derived.Test.YtbmjpjhbankpoaaGreatJointSumBEqs
import Derived.Test.YtbmjpjhbankpoaaGreatJointSumBView
import Derived.Test.YtbmjpjhbankpoaaGreatJointSumF5
set_option linter.unusedVariables false
set_option maxRecDepth 100000
set_option maxHeartbeats 2000000
namespace Go.Proofs.YtbmjpjhbankpoaaGreat
open Go Go.RowKit
open Go.IntKind (i8 i16 i32 i64 u8 u16 u32 u64)
open Go.Proofs.Tryz

theorem Zsz:Wf prog 79 1 4:=⟨Tryz.t79,_,rfl,rfl,rfl,rfl,rfl⟩
def Zff (N:Nat) (ad:Int) (ab:Int) (kk_L1:(R8→Int→Int→Option Rh)):Nat→R8→Int→Option Rh
  | 0,_,_=>none
  | af+1,ae,ac=>(Zj ae ab).bind fun aa=>if (decide (ac<(aa.2.length:Int)))=true then ((Zj aa.2 ac).bind fun ah=>(some (aa.2.set (Int.toNat ac) (u32.wrap (ad+1)))).bind fun ag=>(Zff N ad ab kk_L1 af) (ae.set (Int.toNat ab) ((aa.1.1,aa.1.2),ag)) (i64.wrap (ac+1))) else (kk_L1 ae (u32.wrap (ad+2)) (i64.wrap (ab+1)))
termination_by structural x=>x
def Zfe (N:Nat) (ad:Int) (ab:Int) (kk_L1:(R8→Int→Int→Option Rh)):Nat→R8→Int→Option Rh
  | 0,_,_=>none
  | af+1,ae,ac=>(Zj ae ab).bind fun aa=>if (decide (ac<(aa.1.2.length:Int)))=true then ((Zj aa.1.2 ac).bind fun ah=>(some (aa.1.2.set (Int.toNat ac) ad)).bind fun ag=>(Zfe N ad ab kk_L1 af) (ae.set (Int.toNat ab) ((aa.1.1,ag),aa.2)) (i64.wrap (ac+1))) else (Zff N ad ab kk_L1 N ae 0)
termination_by structural x=>x
def Zfh (N:Nat) (ab:Int) (kk_L4:(Int→Option Rh)):Nat→R2→Int→Option Rh
  | 0,_,_=>none
  | ad+1,aa,ac=>if (decide (ac<12))=true then (Zv ((aa.length+[8].length) * 4≤140737488355328∧aa.length+[8].length≤maxLen) ((Zfh N ab kk_L4 ad) (aa++[8]) (i64.wrap (ac+1)))) else (kk_L4 (i64.wrap (ab+1)))
termination_by structural x=>x
def Zfg (N:Nat) (ab:Int) (kk_L4:(Int→Option Rh)) (ac:R1):Nat→R2→Int→Option Rh
  | 0,_,_=>none
  | ae+1,aa,ad=>if (decide (ad<12))=true then (Zv ((aa.length+[7].length) * 4≤140737488355328∧aa.length+[7].length≤maxLen) ((Zfg N ab kk_L4 ac ae) (aa++[7]) (i64.wrap (ad+1)))) else (Zfh N ab kk_L4 N ac.2 0)
termination_by structural x=>x
def Zfj (N:Nat) (aa:List R1) (ab:Int) (ac:Int) (kk_L7:(Int→Int→Option Rh)):Nat→Int→Option Rh
  | 0,_=>none
  | af+1,ad=>(Zj aa ab).bind fun ae=>if (decide (ad<(ae.2.length:Int)))=true then ((Zj ae.2 ad).bind fun ag=>if (!decide (ag=(u32.wrap (ac+1))))=true then (some (false,aa)) else ((Zfj N aa ab ac kk_L7 af) (i64.wrap (ad+1)))) else (kk_L7 (i64.wrap (ab+1)) (u32.wrap (ac+2)))
termination_by structural x=>x
def Zfi (N:Nat) (aa:List R1) (ab:Int) (ac:Int) (kk_L7:(Int→Int→Option Rh)):Nat→Int→Option Rh
  | 0,_=>none
  | af+1,ad=>(Zj aa ab).bind fun ae=>if (decide (ad<(ae.1.2.length:Int)))=true then ((Zj ae.1.2 ad).bind fun ag=>if (!decide (ag=ac))=true then (some (false,aa)) else ((Zfi N aa ab ac kk_L7 af) (i64.wrap (ad+1)))) else (Zfj N aa ab ac kk_L7 N 0)
termination_by structural x=>x
def Qs (N:Nat) (aa:List R1):Nat→Int→Int→Option Rh
  | 0,_,_=>none
  | ac+1,ab,ad=>if (decide (ab<(aa.length:Int)))=true then (Zfi N aa ab ad (Qs N aa ac) N 0) else (some (true,aa))
termination_by structural x=>x
def Qr (N:Nat) (aa:List R1):Nat→Int→Option Rh
  | 0,_=>none
  | ad+1,ab=>if (decide (ab<(aa.length:Int)))=true then ((Zj aa ab).bind fun ac=>Zfg N ab (Qr N aa ad) ac N ac.1.2 0) else (Qs N aa N 0 1000)
termination_by structural x=>x
def Zal (N:Nat):Nat→R8→Int→Int→Option Rh
  | 0,_,_,_=>none
  | ac+1,aa,ad,ab=>if (decide (ab<(aa.length:Int)))=true then (Zfe N ad ab (Zal N ac) N aa 0) else (Qr N aa N 0)
termination_by structural x=>x
def Zii (N:Nat) (aa:R8):Option Rh:=
  Zal N N aa 1000 0
theorem Z1s {N ac:Nat} {a0:Option Addr} {col:Zd} {w0:World} {aj:R8} {r:Rh} (qc0:Nat) (hm:Zii N aj=some r) (hd:Qb [qc0]=true) (h0:Zc (Za.pair (Za.pair Za.bool (Za.row 79 (Za.int .u32))) (Za.row 79 (Za.int .u32))) 47 qc0 col w0 a0 ac aj):
    Calls prog 27 #[.slice a0 aj.length ac] w0 (fun e w'=>∃ (col':Zd),e= .returned ((.bool r.1))∧Z1 (pS [qc0]) col w0 col' w'∧Zc (Za.pair (Za.pair Za.bool (Za.row 79 (Za.int .u32))) (Za.row 79 (Za.int .u32))) 47 qc0 col' w' a0 ac r.2∧r.2.length=aj.length):=by
 refine Xc 2 (m:=144) func27 rfl rfl rfl rfl rfl ?_;rw [Zii.eq_1] at hm;have aa:=St.startL (l:=[qc0]) rfl col w0;replace h0:=h0.startL (Zaz hd 0 rfl) (Zay hd 0 rfl);refine go ?_;refine Zw [1000000] (fun n f b3=>∃ b4 ad aq af au,au=n∧Zal N au ad aq af=some r∧St w0 (Xu [qc0] col) b4 b3∧Zc (Za.pair (Za.pair Za.bool (Za.row 79 (Za.int .u32))) (Za.row 79 (Za.int .u32))) 47 440 b4 b3 a0 ac ad∧ad.length=aj.length∧ad.length=aj.length∧[0,3,4].map f=[.slice a0 ad.length ac,.int .u32 aq,.int .i64 af]) N ⟨_,_,1000,0,_,rfl,hm,aa,h0,rfl,rfl,rfl⟩ ?_;clear hm;intro n f b3 hI;obtain ⟨b4,ad,aq,af,au,hn,hm,aa,ab,dp,bo,hs⟩:=hI;subst hn;refine .lL [0,3,4] hs ?_
 cases au with
 | zero=>rw [Zal.eq_1] at hm;cases hm
 | succ au=>
  rw [Zal.eq_2] at hm;refine go ?_;refine Zo hm (fun hb hm=>go ?_) fun hb hm=>go ?_
  ·refine Zw [3,4,1000000] (fun n f bp=>∃ b5 ak bq a3,a3=n∧Zfe N aq af (Zal N au) a3 ak bq=some r∧St w0 (Xu [qc0] col) b5 bp∧Zc (Za.pair (Za.pair Za.bool (Za.row 79 (Za.int .u32))) (Za.row 79 (Za.int .u32))) 47 440 b5 bp a0 ac ak∧ak.length=aj.length∧ak.length=aj.length∧[0,5].map f=[.slice a0 ak.length ac,.int .i64 bq]) N ⟨_,_,0,_,rfl,hm,aa,ab,dp,bo,rfl⟩ ?_;clear hm;intro n f bp hI;obtain ⟨b5,ak,bq,a3,hn,hm,aa,ar,cx,dq,hs⟩:=hI;subst hn;refine .lL [0,5] hs ?_
   cases a3 with
   | zero=>rw [Zfe.eq_1] at hm;cases hm
   | succ a3=>
    rw [Zfe.eq_2] at hm;refine go ?_;obtain ⟨ah,ao,hm⟩:=bZ hm;refine lI ao (ar.addr ao)<|Xd (X2 (ar.addr ao)) ?_;refine Xd (X2 (X2 (ar.addr ao))) ?_;obtain ⟨_,dr,ds⟩:=ar.atN ao;obtain ⟨_,_,rfl,dt,du⟩:=dr.parts;obtain ⟨_,_,rfl,dv,dw⟩:=dt.parts;obtain rfl:=dv.bool;obtain ⟨f0,f1,rfl,f2⟩:=dw.row;obtain ⟨f3,f4,rfl,f5⟩:=du.row;refine lW ((((ds).part 0 2 _ rfl)).nth (q:=1) rfl)<|go ?_;refine Zo hm (fun hb hm=>go ?_) fun hb hm=>go ?_
    ·refine lI ao (ar.addr ao)<|Xd (X2 (ar.addr ao)) ?_;refine Xd (X2 (X2 (ar.addr ao))) ?_;obtain ⟨_,f6,dx,al,dy⟩:=ar.open_ 1 (by decide) ao;obtain ⟨_,_,cy,rfl,cz,dz,d0⟩:=dy.split 2 (by decide);obtain ⟨_,_,rfl,d1,d2⟩:=dz.parts;obtain rfl:=d1.bool;obtain ⟨c0,c1,rfl,c3⟩:=d2.row;obtain ⟨c4,c5,rfl,b6⟩:=d0.row;replace al:=al.kpp cz;replace al:Yl (Za.pair (Za.pair Za.bool (Za.row 79 (Za.int .u32))) (Za.row 79 (Za.int .u32))) 47 440 cy bp a0 ac ak (Int.toNat af) [.bool ah.1.1,.slice c0 ah.1.2.length c1,.slice c4 ah.2.length c5]:=al;refine lW ((((al.atN).part 0 2 _ rfl)).nth (q:=1) rfl)<|go ?_;obtain ⟨f7,b7,hm⟩:=bZ hm;refine lI b7 (c3.addr b7) ?_;obtain ⟨a4,br,hm⟩:=bZ hm;have br:a4=ah.1.2.set (Int.toNat bq) aq:=(Option.some.inj br).symm;refine Wb (x1:=aq) c3 b7 ?_;intro d3 b8 d4 c6;rw [← br] at c6;replace al:=al.kp b8;replace al:Yl (Za.pair (Za.pair Za.bool (Za.row 79 (Za.int .u32))) (Za.row 79 (Za.int .u32))) 47 440 cy d3 a0 ac ak (Int.toNat af) [.bool ah.1.1,.slice c0 a4.length c1,.slice c4 ah.2.length c5]:=by rw [← (show ah.1.2.length=a4.length by rw [br,nS])];exact al
     replace b6:=b6.kp b8;have d5:=X0.join (X0.joinL (T3 ah.1.1) c6.has) b6.has (by decide) (by decide);replace al:=al.recol 2 1 (by decide);replace aa:=((aa.kpp dx).kpp cz).kp b8 d4;replace aa:=aa.recol 2 1 (by decide) (by decide);have d6:=al.close d5 (by decide) (by decide);have c7:(ak.set (Int.toNat af) ((ah.1.1,a4),ah.2)).length=aj.length:=by rw [nS];exact cx
     replace aa:=aa.recol 1 440 (by decide) (by decide);refine .ld (d:=0) (v:=(.slice a0 ((ak.set (Int.toNat af) ((ah.1.1,a4),ah.2)).length) ac)) (congrArg (fun n=>Value.slice a0 n ac) (show ak.length=(ak.set (Int.toNat af) ((ah.1.1,a4),ah.2)).length by simp only [nS])) ?_;refine go ?_;exact ⟨a3,by omega,rfl,⟨_,_,_,_,rfl,hm,aa,d6,c7,c7,rfl⟩⟩
    refine Zw [3,4,1000000] (fun n f bs=>∃ b9 am bt a5,a5=n∧Zff N aq af (Zal N au) a5 am bt=some r∧St w0 (Xu [qc0] col) b9 bs∧Zc (Za.pair (Za.pair Za.bool (Za.row 79 (Za.int .u32))) (Za.row 79 (Za.int .u32))) 47 440 b9 bs a0 ac am∧am.length=aj.length∧am.length=aj.length∧[0,6].map f=[.slice a0 am.length ac,.int .i64 bt]) N ⟨_,_,0,_,rfl,hm,aa,ar,cx,dq,rfl⟩ ?_;clear hm;intro n f bs hI;obtain ⟨b9,am,bt,a5,hn,hm,aa,a1,c8,d7,hs⟩:=hI;subst hn;refine .lL [0,6] hs ?_
    cases a5 with
    | zero=>rw [Zff.eq_1] at hm;cases hm
    | succ a5=>
     rw [Zff.eq_2] at hm;refine go ?_;obtain ⟨ai,av,hm⟩:=bZ hm;refine lI av (a1.addr av)<|Xd (X2 (a1.addr av)) ?_;obtain ⟨_,d8,d9⟩:=a1.atN av;obtain ⟨_,_,rfl,ea,eb⟩:=d8.parts;obtain ⟨_,_,rfl,ec,ed⟩:=ea.parts;obtain rfl:=ec.bool;obtain ⟨f8,f9,rfl,ga⟩:=ed.row;obtain ⟨gb,gc,rfl,gd⟩:=eb.row;refine lW ((d9).nth (q:=2) rfl)<|go ?_;refine Zo hm (fun hb hm=>go ?_) fun hb hm=>go ?_
     ·refine lI av (a1.addr av)<|Xd (X2 (a1.addr av)) ?_;obtain ⟨_,ge,ee,an,ef⟩:=a1.open_ 3 (by decide) av;obtain ⟨_,_,c9,rfl,da,eg,eh⟩:=ef.split 4 (by decide);obtain ⟨_,_,rfl,ei,ej⟩:=eg.parts;obtain rfl:=ei.bool;obtain ⟨db,dc,rfl,ca⟩:=ej.row;obtain ⟨dd,de,rfl,df⟩:=eh.row;replace an:=an.kpp da;replace an:Yl (Za.pair (Za.pair Za.bool (Za.row 79 (Za.int .u32))) (Za.row 79 (Za.int .u32))) 47 440 c9 bs a0 ac am (Int.toNat af) [.bool ai.1.1,.slice db ai.1.2.length dc,.slice dd ai.2.length de]:=an;refine lW ((an.atN).nth (q:=2) rfl)<|go ?_;obtain ⟨gf,cb,hm⟩:=bZ hm;refine lI cb (df.addr cb) ?_;obtain ⟨a6,bu,hm⟩:=bZ hm;have bu:a6=ai.2.set (Int.toNat bt) (u32.wrap (aq+1)):=(Option.some.inj bu).symm;refine Wb (x1:=u32.wrap (aq+1)) df cb ?_;intro ek cc el dg;rw [← bu] at dg;replace an:=an.kp cc;replace an:Yl (Za.pair (Za.pair Za.bool (Za.row 79 (Za.int .u32))) (Za.row 79 (Za.int .u32))) 47 440 c9 ek a0 ac am (Int.toNat af) [.bool ai.1.1,.slice db ai.1.2.length dc,.slice dd a6.length de]:=by rw [← (show ai.2.length=a6.length by rw [bu,nS])];exact an
      replace ca:=ca.kp cc;have em:=X0.join (X0.joinL (T3 ai.1.1) ca.has) dg.has (by decide) (by decide);replace an:=an.recol 4 3 (by decide);replace aa:=((aa.kpp ee).kpp da).kp cc el;replace aa:=aa.recol 4 3 (by decide) (by decide);have en:=an.close em (by decide) (by decide);have dh:(am.set (Int.toNat af) ((ai.1.1,ai.1.2),a6)).length=aj.length:=by rw [nS];exact c8
      replace aa:=aa.recol 3 440 (by decide) (by decide);refine .ld (d:=0) (v:=(.slice a0 ((am.set (Int.toNat af) ((ai.1.1,ai.1.2),a6)).length) ac)) (congrArg (fun n=>Value.slice a0 n ac) (show am.length=(am.set (Int.toNat af) ((ai.1.1,ai.1.2),a6)).length by simp only [nS])) ?_;refine go ?_;exact ⟨a5,by omega,rfl,⟨_,_,_,_,rfl,hm,aa,en,dh,dh,rfl⟩⟩
     exact ⟨au,by omega,rfl,⟨_,_,_,_,_,rfl,hm,aa,a1,c8,d7,rfl⟩⟩
  refine Zw [0,1000000] (fun n f bv=>∃ cd aw ax,ax=n∧Qr N ad ax aw=some r∧St w0 (Xu [qc0] col) cd bv∧Zc (Za.pair (Za.pair Za.bool (Za.row 79 (Za.int .u32))) (Za.row 79 (Za.int .u32))) 47 440 cd bv a0 ac ad∧[7].map f=[.int .i64 aw]) N ⟨_,0,_,rfl,hm,aa,ab,rfl⟩ ?_;clear hm;intro n f bv hI;obtain ⟨cd,aw,ax,hn,hm,aa,ab,hs⟩:=hI;subst hn;refine .lL [7] hs ?_
  cases ax with
  | zero=>rw [Qr.eq_1] at hm;cases hm
  | succ ax=>
   rw [Qr.eq_2] at hm;refine go ?_;refine Zo hm (fun hb hm=>go ?_) fun hb hm=>go ?_
   ·obtain ⟨ag,a2,hm⟩:=bZ hm;refine lI a2 (ab.addr a2)<|Xd (X2 (ab.addr a2)) ?_;refine Xd (X2 (X2 (ab.addr a2))) ?_;obtain ⟨_,gg,eo,ae,ep⟩:=ab.open_ 5 (by decide) a2;obtain ⟨_,_,eq,rfl,di,er,es⟩:=ep.split 6 (by decide);obtain ⟨_,_,rfl,et,eu⟩:=er.parts;obtain rfl:=et.bool;obtain ⟨bf,bg,rfl,ew⟩:=eu.row;obtain ⟨bh,bi,rfl,a7⟩:=es.row;replace ae:=ae.kpp di;replace ae:Yl (Za.pair (Za.pair Za.bool (Za.row 79 (Za.int .u32))) (Za.row 79 (Za.int .u32))) 47 440 eq bv a0 ac ad (Int.toNat aw) [.bool ag.1.1,.slice bf ag.1.2.length bg,.slice bh ag.2.length bi]:=ae;refine lW ((((ae.atN).part 0 2 _ rfl)).nth (q:=1) rfl)<|go ?_;refine lI a2 (ae.addr)<|Xd (X2 (ae.addr)) ?_;refine lW ((ae.atN).nth (q:=2) rfl)<|go ?_;have ey:=ew.ex;replace aa:=(aa.kpp eo).kpp di;refine Zw [0,7,9,1000000] (fun n f bj=>∃ a8 ce cf bw cg a9,a9=n∧Zfg N aw (Qr N ad ax) ag a9 bw cg=some r∧St w0 (Xu [qc0] col) a8 bj∧Ex (Za.int .u32) 79 5 a8 bj bf bg ag.1.2 ce cf bw∧Zc (Za.int .u32) 79 6 a8 bj bh bi ag.2∧Yl (Za.pair (Za.pair Za.bool (Za.row 79 (Za.int .u32))) (Za.row 79 (Za.int .u32))) 47 440 a8 bj a0 ac ad (Int.toNat aw) [.bool ag.1.1,.slice bf ag.1.2.length bg,.slice bh ag.2.length bi]∧[10,8].map f=[.int .i64 cg,.slice ce bw.length cf]) N ⟨_,_,_,_,0,_,rfl,hm,aa,ey,a7,ae,rfl⟩ ?_;clear hm;intro n f bj hI;obtain ⟨a8,ce,cf,bw,cg,a9,hn,hm,aa,bx,a7,ae,hs⟩:=hI;subst hn;refine .lL [10,8] hs ?_
    cases a9 with
    | zero=>rw [Zfg.eq_1] at hm;cases hm
    | succ a9=>
     rw [Zfg.eq_2] at hm;refine go ?_;refine Zo hm (fun hb hm=>go ?_) fun hb hm=>go ?_
     ·refine W1 (col:=a8) [7] 7 ?_;intro gh ez e0 bz e1;obtain ⟨dj,hm⟩:=Zx hm;replace bx:=bx.gr bz;refine Qf (col:=e0) (w:=ez) (r:=(Za.int .u32)) (c:=5) (c2:=5) bx (e1.srcN (NB.int (k:=.u32))) rfl underlying43 Zsz rfl rfl rfl dj.1 dj.2 (by decide) ?_;intro gi gj gk gl ch e2;refine go ?_;replace ae:=(ae.gr bz).kpp ch;replace a7:=(a7.gr bz).kpp ch;replace aa:=(aa.grow bz).kpp ch;exact ⟨a9,by omega,rfl,⟨_,_,_,_,_,_,rfl,hm,aa,e2,a7,ae,rfl⟩⟩
     have ba:=bx.old;refine go ?_;have e3:=a7.ex;refine Zw [0,7,1000000] (fun n f bk=>∃ bb ci cj b0 ck bc,bc=n∧Zfh N aw (Qr N ad ax) bc b0 ck=some r∧St w0 (Xu [qc0] col) bb bk∧Zc (Za.int .u32) 79 5 bb bk bf bg ag.1.2∧Ex (Za.int .u32) 79 6 bb bk bh bi ag.2 ci cj b0∧Yl (Za.pair (Za.pair Za.bool (Za.row 79 (Za.int .u32))) (Za.row 79 (Za.int .u32))) 47 440 bb bk a0 ac ad (Int.toNat aw) [.bool ag.1.1,.slice bf ag.1.2.length bg,.slice bh ag.2.length bi]∧[11,9].map f=[.int .i64 ck,.slice ci b0.length cj]) N ⟨_,_,_,_,0,_,rfl,hm,aa,ba,e3,ae,rfl⟩ ?_;clear hm;intro n f bk hI;obtain ⟨bb,ci,cj,b0,ck,bc,hn,hm,aa,ba,b1,ae,hs⟩:=hI;subst hn;refine .lL [11,9] hs ?_
     cases bc with
     | zero=>rw [Zfh.eq_1] at hm;cases hm
     | succ bc=>
      rw [Zfh.eq_2] at hm;refine go ?_;refine Zo hm (fun hb hm=>go ?_) fun hb hm=>go ?_
      ·refine W1 (col:=bb) [8] 8 ?_;intro gm e4 e5 b2 e6;obtain ⟨dk,hm⟩:=Zx hm;replace b1:=b1.gr b2;refine Qf (col:=e5) (w:=e4) (r:=(Za.int .u32)) (c:=6) (c2:=6) b1 (e6.srcN (NB.int (k:=.u32))) rfl underlying43 Zsz rfl rfl rfl dk.1 dk.2 (by decide) ?_;intro gp gs gt gu cl e7;refine go ?_;replace ae:=(ae.gr b2).kpp cl;replace ba:=(ba.gr b2).kpp cl;replace aa:=(aa.grow b2).kpp cl;exact ⟨bc,by omega,rfl,⟨_,_,_,_,_,_,rfl,hm,aa,ba,e7,ae,rfl⟩⟩
      have e8:=b1.old;have e9:=X0.join (X0.joinL (T3 ag.1.1) ba.has) e8.has (by decide) (by decide);replace ae:=ae.recol 6 5 (by decide);replace aa:=aa.recol 6 5 (by decide) (by decide);have dl:=ae.close e9 (by decide) (by decide);rw [Z6o a2] at dl;replace aa:=aa.recol 5 440 (by decide) (by decide);refine go ?_;exact ⟨ax,by omega,rfl,⟨_,_,_,rfl,hm,aa,dl,rfl⟩⟩
   refine Zw [0,1000000] (fun n f cn=>∃ co bm bn ay,ay=n∧Qs N ad ay bm bn=some r∧St w0 (Xu [qc0] col) co cn∧Zc (Za.pair (Za.pair Za.bool (Za.row 79 (Za.int .u32))) (Za.row 79 (Za.int .u32))) 47 440 co cn a0 ac ad∧[12,3].map f=[.int .i64 bm,.int .u32 bn]) N ⟨_,0,1000,_,rfl,hm,aa,ab,rfl⟩ ?_;clear hm;intro n f cn hI;obtain ⟨co,bm,bn,ay,hn,hm,aa,ab,hs⟩:=hI;subst hn;refine .lL [12,3] hs ?_
   cases ay with
   | zero=>rw [Qs.eq_1] at hm;cases hm
   | succ ay=>
    rw [Qs.eq_2] at hm;refine go ?_;refine Zo hm (fun hb hm=>go ?_) fun hb hm=>go ?_
    ·refine Zw [0,12,3,1000000] (fun n f cp=>∃ cq cr bd,bd=n∧Zfi N ad bm bn (Qs N ad ay) bd cr=some r∧St w0 (Xu [qc0] col) cq cp∧Zc (Za.pair (Za.pair Za.bool (Za.row 79 (Za.int .u32))) (Za.row 79 (Za.int .u32))) 47 440 cq cp a0 ac ad∧[13].map f=[.int .i64 cr]) N ⟨_,0,_,rfl,hm,aa,ab,rfl⟩ ?_;clear hm;intro n f cp hI;obtain ⟨cq,cr,bd,hn,hm,aa,ab,hs⟩:=hI;subst hn;refine .lL [13] hs ?_
     cases bd with
     | zero=>rw [Zfi.eq_1] at hm;cases hm
     | succ bd=>
      rw [Zfi.eq_2] at hm;refine go ?_;obtain ⟨gv,ap,hm⟩:=bZ hm;refine lI ap (ab.addr ap)<|Xd (X2 (ab.addr ap)) ?_;refine Xd (X2 (X2 (ab.addr ap))) ?_;obtain ⟨_,fa,fb⟩:=ab.atN ap;obtain ⟨_,_,rfl,fc,fd⟩:=fa.parts;obtain ⟨_,_,rfl,fe,ff⟩:=fc.parts;obtain rfl:=fe.bool;obtain ⟨gw,gx,rfl,gy⟩:=ff.row;obtain ⟨gz,g0,rfl,g1⟩:=fd.row;refine lW ((((fb).part 0 2 _ rfl)).nth (q:=1) rfl)<|go ?_;refine Zo hm (fun hb hm=>go ?_) fun hb hm=>go ?_
      ·refine lI ap (ab.addr ap)<|Xd (X2 (ab.addr ap)) ?_;refine Xd (X2 (X2 (ab.addr ap))) ?_;obtain ⟨_,fg,fh⟩:=ab.atN ap;obtain ⟨_,_,rfl,fi,fj⟩:=fg.parts;obtain ⟨_,_,rfl,fk,fl⟩:=fi.parts;obtain rfl:=fk.bool;obtain ⟨g2,g3,rfl,dm⟩:=fl.row;obtain ⟨g4,g5,rfl,g6⟩:=fj.row;refine lW ((((fh).part 0 2 _ rfl)).nth (q:=1) rfl)<|Xo rfl ?_;obtain ⟨g7,cs,hm⟩:=bZ hm;refine lI cs (dm.addr cs)<|lW (dm.atInt cs) ?_;refine go ?_;refine Zo hm (fun hb hm=>go ?_) fun hb hm=>go ?_
       ·cases hm;exact ⟨rfl,_,rfl,aa.finL rfl (cm [(440,qc0)]),aa.foL ab,bo⟩
       exact ⟨bd,by omega,rfl,⟨_,_,_,rfl,hm,aa,ab,rfl⟩⟩
      refine Zw [0,12,3,1000000] (fun n f ct=>∃ cu cv be,be=n∧Zfj N ad bm bn (Qs N ad ay) be cv=some r∧St w0 (Xu [qc0] col) cu ct∧Zc (Za.pair (Za.pair Za.bool (Za.row 79 (Za.int .u32))) (Za.row 79 (Za.int .u32))) 47 440 cu ct a0 ac ad∧[14].map f=[.int .i64 cv]) N ⟨_,0,_,rfl,hm,aa,ab,rfl⟩ ?_;clear hm;intro n f ct hI;obtain ⟨cu,cv,be,hn,hm,aa,ab,hs⟩:=hI;subst hn;refine .lL [14] hs ?_
      cases be with
      | zero=>rw [Zfj.eq_1] at hm;cases hm
      | succ be=>
       rw [Zfj.eq_2] at hm;refine go ?_;obtain ⟨g8,az,hm⟩:=bZ hm;refine lI az (ab.addr az)<|Xd (X2 (ab.addr az)) ?_;obtain ⟨_,fm,fn⟩:=ab.atN az;obtain ⟨_,_,rfl,fp,fq⟩:=fm.parts;obtain ⟨_,_,rfl,fr,ft⟩:=fp.parts;obtain rfl:=fr.bool;obtain ⟨g9,ha,rfl,hc⟩:=ft.row;obtain ⟨he,hf,rfl,hg⟩:=fq.row;refine lW ((fn).nth (q:=2) rfl)<|go ?_;refine Zo hm (fun hb hm=>go ?_) fun hb hm=>go ?_
       ·refine lI az (ab.addr az)<|Xd (X2 (ab.addr az)) ?_;obtain ⟨_,fu,fv⟩:=ab.atN az;obtain ⟨_,_,rfl,fw,fx⟩:=fu.parts;obtain ⟨_,_,rfl,fy,fz⟩:=fw.parts;obtain rfl:=fy.bool;obtain ⟨hh,hi,rfl,hj⟩:=fz.row;obtain ⟨hk,hl,rfl,dn⟩:=fx.row;refine lW ((fv).nth (q:=2) rfl)<|Xo rfl ?_;obtain ⟨ho,cw,hm⟩:=bZ hm;refine lI cw (dn.addr cw)<|lW (dn.atInt cw) ?_;refine go ?_;refine Zo hm (fun hb hm=>go ?_) fun hb hm=>go ?_
        ·cases hm;exact ⟨rfl,_,rfl,aa.finL rfl (cm [(440,qc0)]),aa.foL ab,bo⟩
        exact ⟨be,by omega,rfl,⟨_,_,_,rfl,hm,aa,ab,rfl⟩⟩
       exact ⟨ay,by omega,rfl,⟨_,_,_,_,rfl,hm,aa,ab,rfl⟩⟩
    cases hm;exact ⟨rfl,_,rfl,aa.finL rfl (cm [(440,qc0)]),aa.foL ab,bo⟩
def Zbw (m:Int) (x:QV):QV:=((x.1.1,List.replicate x.1.2.length m),List.replicate x.2.length (m+1))
def Va:Int→List QV→List QV
 | _,[]=>[]
 | m,x :: l=>Zbw m x :: Va (m+2) l
theorem Zas:∀ (l:List QV) (m:Int),(Va m l).length=l.length
 | [],_=>rfl
 | x :: l,m=>by rw [Va,nC,Zas l,nC]
theorem Zpj:∀ (l:List QV) (m:Int) (i:Nat) (hi:i<l.length),(Va m l)[i]?=some (Zbw (m+2 * i) l[i])
 | x :: l,m,0,_=>by simp [Va]
 | x :: l,m,i+1,hi=>by
  rw [Va,List.getElem?_cons_succ,Zpj l (m+2) i (by simpa using hi),List.getElem_cons_succ]
  congr 2;omega
theorem Zu7:∀ (a b:List QV) (m:Int),Va m (a++b)=Va m a++Va (m+2 * (a.length:Int)) b
 | [],b,m=>by simp [Va]
 | x :: a,b,m=>by
  rw [List.cons_append,Va,Zu7 a b,Va,List.cons_append,nC]
  congr 3;omega
theorem Zn1 {x:Int} (h:0≤x∧x<4294967296):u32.wrap x=x:=by rw [IntKind.wrap_u32];omega
theorem Z6n {α:Type} {l:List α} {i:Nat} {x:α} (h:l[i]?=some x):l.set i x=l:=by
 obtain ⟨hi,rfl⟩:=List.getElem?_eq_some_iff.1 h
 exact List.set_getElem_self hi
theorem Zzb {l:List Int} {k:Nat} {m:Int} (hk:k<l.length) (h:l.take k=List.replicate k m):(l.set k m).take (k+1)=List.replicate (k+1) m:=by
 rw [List.take_set,List.take_succ_eq_append_getElem hk,h,List.set_append_right _ _ (by simp),List.length_replicate,Nat.sub_self,List.replicate_succ']
 rfl
theorem Zqz {l:List Int} {k:Nat} {m:Int} (h:l.take k=List.replicate k m) (hk:l.length≤k):l=List.replicate l.length m:=by
 rw [List.take_of_length_le hk] at h
 have:=congrArg List.length h
 rw [List.length_replicate] at this
 rw [this];exact h
abbrev Zga:=Option (Bool×List QV)
section
variable {N:Nat} (hN:1099511627777<N)
include hN
omit hN in
theorem Zth {m:Int} (hm:0≤m∧m<4294967000) {i:Nat} (hi:i<4611686018427387904) (kk:List QV→Int→Int→Zga) (b:Bool) (num:List Int) (c:Nat) (hc:c≤1099511627776):∀ (f k:Nat) (l:List QV) (den:List Int),l[i]?=some ((b,num),den)→den.length=c→den.take k=List.replicate k (m+1)→k≤c→c<f+k→
  Zff N m (i:Int) kk f l (k:Int)=kk (l.set i ((b,num),List.replicate c (m+1))) (m+2) ((i+1:Nat):Int)
 | 0,k,l,den,_,_,_,h1,h2=>by omega
 | f+1,k,l,den,hl,hd,ht,h1,h2=>by
  rw [Zff.eq_2,V1,hl,oB]
  by_cases hk:k<c
  ·have hkd:k<den.length:=by omega
   have hil:=(List.getElem?_eq_some_iff.1 hl).1
   rw [if_pos (dT (show (k:Int)<(den.length:Int) by omega)),show (((b,num),den):QV).2=den from rfl,Zy hkd,oB,oB,Zn1 (by omega),Int.toNat_natCast,Int.toNat_natCast,wS (by omega)]
   have ih:=Zth hm hi kk b num c hc f (k+1) (l.set i ((b,num),den.set k (m+1))) (den.set k (m+1)) (by rw [List.getElem?_set_self hil]) (by rw [nS];exact hd) (Zzb hkd ht) (by omega) (by omega)
   rw [List.set_set] at ih
   exact ih
  ·rw [if_neg (by rw [decide_eq_false (show ¬ (k:Int)<((((b,num),den):QV).2.length:Int) by simp only;omega)];decide),Zn1 (by omega),Zr (by omega)]
   have e:=Zqz ht (by omega)
   rw [hd] at e
   rw [← e,Z6n hl];rfl
theorem Ztg {m:Int} (hm:0≤m∧m<4294967000) {i:Nat} (hi:i<4611686018427387904) (kk:List QV→Int→Int→Zga) (b:Bool) (den:List Int) (hden:den.length≤1099511627776) (c:Nat) (hc:c≤1099511627776):∀ (f k:Nat) (l:List QV) (num:List Int),l[i]?=some ((b,num),den)→num.length=c→num.take k=List.replicate k m→k≤c→c<f+k→
  Zfe N m (i:Int) kk f l (k:Int)=kk (l.set i ((b,List.replicate c m),List.replicate den.length (m+1))) (m+2) ((i+1:Nat):Int)
 | 0,k,l,num,_,_,_,h1,h2=>by omega
 | f+1,k,l,num,hl,hd,ht,h1,h2=>by
  rw [Zfe.eq_2,V1,hl,oB]
  by_cases hk:k<c
  ·have hkd:k<num.length:=by omega
   have hil:=(List.getElem?_eq_some_iff.1 hl).1
   rw [if_pos (dT (show (k:Int)<(num.length:Int) by omega)),show (((b,num),den):QV).1.2=num from rfl,Zy hkd,oB,oB,Int.toNat_natCast,Int.toNat_natCast,wS (by omega)]
   have ih:=Ztg hm hi kk b den hden c hc f (k+1) (l.set i ((b,num.set k m),den)) (num.set k m) (by rw [List.getElem?_set_self hil]) (by rw [nS];exact hd) (Zzb hkd ht) (by omega) (by omega)
   rw [List.set_set] at ih
   exact ih
  ·rw [if_neg (by rw [decide_eq_false (show ¬ (k:Int)<((((b,num),den):QV).1.2.length:Int) by simp only;omega)];decide)]
   have e:=Zqz ht (by omega)
   rw [hd] at e
   have:=Zth (N:=N) hm hi kk b num den.length hden N 0 l den hl rfl rfl (Nat.zero_le _) (by omega)
   rw [show ((0:Nat):Int)=0 from rfl] at this
   rw [this,e]
theorem Ztf {p:List QV} (hp:p.length≤1048576) (hl:∀ x ∈ p,x.1.2.length≤1099511627776∧x.2.length≤1099511627776):∀ (f i:Nat) (l:List QV),l=Va 1000 (p.take i)++p.drop i→i≤p.length→p.length<f+i→
  Zal N f l (1000+2 * (i:Int)) (i:Int)=Qr N (Va 1000 p) N 0
 | 0,i,l,_,h1,h2=>by omega
 | f+1,i,l,he,h1,h2=>by
  have hll:l.length=p.length:=by
   rw [he,nA,Zas,nK,List.length_drop];omega
  rw [Zal.eq_2]
  by_cases hi:i<p.length
  ·have hmem:=hl _ (List.getElem_mem hi)
   have hg:l[i]?=some ((p[i].1.1,p[i].1.2),p[i].2):=by
    rw [he,List.getElem?_append_right (by rw [Zas,nK];omega),Zas,nK,Nat.min_eq_left (by omega),Nat.sub_self,List.getElem?_drop,Nat.add_zero,List.getElem?_eq_getElem hi]
   rw [if_pos (dT (by omega))]
   have h3:=Ztg hN (m:=1000+2 * (i:Int)) (by omega) (i:=i) (by omega) (Zal N f) p[i].1.1 p[i].2 hmem.2 p[i].1.2.length hmem.1 N 0 l p[i].1.2 hg rfl rfl (Nat.zero_le _) (by omega)
   rw [show ((0:Nat):Int)=0 from rfl] at h3
   rw [h3,show (1000+2 * (i:Int)+2)=1000+2 * ((i+1:Nat):Int) by omega]
   refine Ztf hp hl f (i+1) _ ?_ (by omega) (by omega)
   rw [he,List.set_append_right _ _ (by rw [Zas,nK];omega),Zas,nK,Nat.min_eq_left (by omega),Nat.sub_self,List.drop_eq_getElem_cons hi,List.set_cons_zero,List.take_succ_eq_append_getElem hi,Zu7,List.append_assoc,nK,Nat.min_eq_left (by omega)]
   rfl
  ·rw [if_neg (dF (by omega)),he,List.take_of_length_le (by omega),List.drop_eq_nil_of_le (by omega),List.append_nil]
omit hN in
theorem Ztk (i:Nat) (hi:i<4611686018427387904) (kk:Int→Zga):∀ (f k:Nat) (l:List Int),k≤12→12<f+k→l.length≤1099511627776+k→Zfh N (i:Int) kk f l (k:Int)=kk ((i+1:Nat):Int)
 | 0,k,l,h1,h2,_=>by omega
 | f+1,k,l,h1,h2,hl=>by
  rw [Zfh.eq_2]
  by_cases hk:k<12
  ·rw [if_pos (dT (by omega)),Zz (by simp only [List.length_singleton,maxLen];omega),wS (by omega)]
   exact Ztk i hi kk f (k+1) _ (by omega) (by omega) (by rw [nA,List.length_singleton];omega)
  ·rw [if_neg (dF (by omega)),wS (by omega)]
theorem Ztj (i:Nat) (hi:i<4611686018427387904) (kk:Int→Zga) (e:QV) (he:e.2.length≤1099511627776):∀ (f k:Nat) (l:List Int),k≤12→12<f+k→l.length≤1099511627776+k→Zfg N (i:Int) kk e f l (k:Int)=kk ((i+1:Nat):Int)
 | 0,k,l,h1,h2,_=>by omega
 | f+1,k,l,h1,h2,hl=>by
  rw [Zfg.eq_2]
  by_cases hk:k<12
  ·rw [if_pos (dT (by omega)),Zz (by simp only [List.length_singleton,maxLen];omega),wS (by omega)]
   exact Ztj i hi kk e he f (k+1) _ (by omega) (by omega) (by rw [nA,List.length_singleton];omega)
  ·rw [if_neg (dF (by omega))]
   have:=Ztk (N:=N) i hi kk N 0 e.2 (Nat.zero_le _) (by omega) (by omega)
   exact this
theorem Zti {l:List QV} (hp:l.length≤1048576) (hl:∀ x ∈ l,x.1.2.length≤1099511627776∧x.2.length≤1099511627776):∀ (f i:Nat),i≤l.length→l.length<f+i→Qr N l f (i:Int)=Qs N l N 0 1000
 | 0,i,h1,h2=>by omega
 | f+1,i,h1,h2=>by
  rw [Qr.eq_2]
  by_cases hi:i<l.length
  ·have hmem:=hl _ (List.getElem_mem hi)
   rw [if_pos (dT (by omega)),Zy hi,oB]
   have:=Ztj hN i (by omega) (Qr N l f) l[i] hmem.2 N 0 l[i].1.2 (Nat.zero_le _) (by omega) (by omega)
   rw [show ((0:Nat):Int)=0 from rfl] at this
   rw [this]
   exact Zti hp hl f (i+1) (by omega) (by omega)
  ·rw [if_neg (dF (by omega))]
omit hN in
theorem Ztn {l:List QV} {i:Nat} {m:Int} {x:QV} (hm:0≤m∧m<4294967000) (hi:i<4611686018427387904) (hx:l[i]?=some (Zbw m x)) (hc:x.2.length≤1099511627776) (kk:Int→Int→Zga):∀ (f k:Nat),k≤x.2.length→x.2.length<f+k→Zfj N l (i:Int) m kk f (k:Int)=kk ((i+1:Nat):Int) (m+2)
 | 0,k,h1,h2=>by omega
 | f+1,k,h1,h2=>by
  have hlen:(Zbw m x).2.length=x.2.length:=List.length_replicate
  rw [Zfj.eq_2,V1,hx,oB,hlen]
  by_cases hk:k<x.2.length
  ·rw [if_pos (dT (by omega)),Zy (by rw [hlen];exact hk),oB,show (Zbw m x).2[k]'(by rw [hlen];exact hk)=m+1 from List.getElem_replicate _,Zn1 (by omega),if_neg (by rw [decide_eq_true rfl];decide),wS (by omega)]
   exact Ztn hm hi hx hc kk f (k+1) (by omega) (by omega)
  ·rw [if_neg (dF (by omega)),Zn1 (by omega),wS (by omega)]
theorem Ztm {l:List QV} {i:Nat} {m:Int} {x:QV} (hm:0≤m∧m<4294967000) (hi:i<4611686018427387904) (hx:l[i]?=some (Zbw m x)) (hc:x.1.2.length≤1099511627776) (hd:x.2.length≤1099511627776) (kk:Int→Int→Zga):∀ (f k:Nat),k≤x.1.2.length→x.1.2.length<f+k→Zfi N l (i:Int) m kk f (k:Int)=kk ((i+1:Nat):Int) (m+2)
 | 0,k,h1,h2=>by omega
 | f+1,k,h1,h2=>by
  have hlen:(Zbw m x).1.2.length=x.1.2.length:=List.length_replicate
  rw [Zfi.eq_2,V1,hx,oB,hlen]
  by_cases hk:k<x.1.2.length
  ·rw [if_pos (dT (by omega)),Zy (by rw [hlen];exact hk),oB,show (Zbw m x).1.2[k]'(by rw [hlen];exact hk)=m from List.getElem_replicate _,if_neg (by rw [decide_eq_true rfl];decide),wS (by omega)]
   exact Ztm hm hi hx hc hd kk f (k+1) (by omega) (by omega)
  ·rw [if_neg (dF (by omega))]
   have:=Ztn (N:=N) hm hi hx hd kk N 0 (Nat.zero_le _) (by omega)
   exact this
theorem Ztl {p:List QV} (hp:p.length≤1048576) (hl:∀ x ∈ p,x.1.2.length≤1099511627776∧x.2.length≤1099511627776):∀ (f i:Nat),i≤p.length→p.length<f+i→Qs N (Va 1000 p) f (i:Int) (1000+2 * (i:Int))=some (true,Va 1000 p)
 | 0,i,h1,h2=>by omega
 | f+1,i,h1,h2=>by
  rw [Qs.eq_2,Zas]
  by_cases hi:i<p.length
  ·have hmem:=hl _ (List.getElem_mem hi)
   have h3:=Ztm hN (l:=Va 1000 p) (i:=i) (m:=1000+2 * (i:Int)) (x:=p[i]) (by omega) (by omega) (Zpj p 1000 i hi) hmem.1 hmem.2 (Qs N (Va 1000 p) f) N 0 (Nat.zero_le _) (by omega)
   rw [show ((0:Nat):Int)=0 from rfl] at h3
   rw [if_pos (dT (by omega)),h3,show (1000+2 * (i:Int)+2)=1000+2 * ((i+1:Nat):Int) by omega]
   exact Ztl hp hl f (i+1) (by omega) (by omega)
  ·rw [if_neg (dF (by omega))]
theorem Z3x {p:List QV} (hp:p.length≤1048576) (hl:∀ x ∈ p,x.1.2.length≤1099511627776∧x.2.length≤1099511627776):Zii N p=some (true,Va 1000 p):=by
 have h1:=Ztf hN hp hl N 0 p (by simp [Va]) (Nat.zero_le _) (by omega)
 have hm:∀ x ∈ Va 1000 p,x.1.2.length≤1099511627776∧x.2.length≤1099511627776:=fun x hx=>by
  obtain ⟨i,hi⟩:=List.getElem?_of_mem hx
  have hil:i<p.length:=by have:=(List.getElem?_eq_some_iff.1 hi).1;rwa [Zas] at this
  rw [Zpj p 1000 i hil] at hi
  cases hi
  have:=hl _ (List.getElem_mem hil)
  simp only [Zbw,List.length_replicate]
  exact this
 have h2:=Zti hN (l:=Va 1000 p) (by rw [Zas];exact hp) hm N 0 (Nat.zero_le _) (by rw [Zas];omega)
 have h3:=Ztl hN hp hl N 0 (Nat.zero_le _) (by omega)
 rw [show ((0:Nat):Int)=0 from rfl] at h1 h2 h3
 rw [show (1000+2 * (0:Int))=1000 from rfl] at h1 h3
 rw [Zii,h1,h2,h3]
end
def Zil (ae:R0) (aa:Int) (kk_L1:(Int→Int→Option Int)) (ab:Int) (ac:Int) (kk_L2:(Int→Int→Option Int)) (af:Bool):Option Int:=
  if af=true then ((Zj ae.2.2.2.2 aa).bind fun ag=>(Zj ag ac).bind fun ad=>kk_L2 (i64.wrap ((i64.wrap (ab+(ad.1.2.length:Int)))+(ad.2.length:Int))) (i64.wrap (ac+1))) else (kk_L1 ab (i64.wrap (aa+1)))
def Zbv (N:Nat) (aa:R0) (ab:Int) (kk_L1:(Int→Int→Option Int)):Nat→Int→Int→Option Int
  | 0,_,_=>none
  | ae+1,ac,ad=>(Zj aa.2.2.2.2 ab).bind fun af=>if (decide (ad<(af.length:Int)))=true then (Zil aa ab kk_L1 ac ad (Zbv N aa ab kk_L1 ae) (decide (ac<10000))) else (Zil aa ab kk_L1 ac ad (Zbv N aa ab kk_L1 ae) false)
termination_by structural x=>x
def Qu (N:Nat) (aa:R0):Nat→Int→Int→Option Int
  | 0,_,_=>none
  | ad+1,ab,ac=>if (decide (ac<(aa.2.2.2.2.length:Int)))=true then (Zbv N aa ac (Qu N aa ad) N ab 0) else (some (if 10000<ab then 10000 else ab))
termination_by structural x=>x
def Zmt (N:Nat) (aa:R0):Option Int:=
  Qu N aa N 0 0
theorem Z1v {N al am an ao:Nat} {ap aq ar au:Option Addr} {col:Zd} {w0:World} {aa:R0} {r:Int} (hm:Zmt N aa=some r) (bs:Sl Za.str col w0 ap al aa.2.1) (bt:Sl (Za.slice Za.str) col w0 aq am aa.2.2.1) (bu:Sl (Za.slice (Za.int .i64)) col w0 ar an aa.2.2.2.1) (ag:Sl (Za.slice (Za.pair (Za.pair Za.bool (Za.slice (Za.int .u32))) (Za.slice (Za.int .u32)))) col w0 au ao aa.2.2.2.2):
    Calls prog 84 #[(.agg #[.string aa.1,.slice ap aa.2.1.length al,.slice aq aa.2.2.1.length am,.slice ar aa.2.2.2.1.length an,.slice au aa.2.2.2.2.length ao])] w0 (fun e w'=>e= .returned ((.int .i64 r))∧Below w0.heap.size w0 w'):=by
 refine Xc 2 (m:=53) func84 rfl rfl rfl rfl rfl ?_;rw [Zmt.eq_1] at hm;have ab:=St.start col w0;refine go ?_;refine Xg (col:=(Zh col)) 1 rfl ?_;intro ay bv bw a8 ac;refine go ?_;replace ab:=ab.grow a8;refine Zw [1,1000000] (fun n f az=>∃ a0 ai aj ae,ae=n∧Qu N aa ae ai aj=some r∧St w0 (Zh col) a0 az∧Zm 27 1 a0 az ay #[.string aa.1,.slice ap aa.2.1.length al,.slice aq aa.2.2.1.length am,.slice ar aa.2.2.2.1.length an,.slice au aa.2.2.2.2.length ao]∧[3,4].map f=[.int .i64 ai,.int .i64 aj]) N ⟨_,0,0,_,rfl,hm,ab,ac,rfl⟩ ?_;clear hm;intro n f az hI;obtain ⟨a0,ai,aj,ae,hn,hm,ab,ac,hs⟩:=hI;subst hn;refine .lL [3,4] hs ?_;replace ag:=ag.keep (Zf.start col w0)
 cases ae with
 | zero=>rw [Qu.eq_1] at hm;cases hm
 | succ ae=>
  rw [Qu.eq_2] at hm;refine go ?_;refine Xa ac ?_;refine go ?_;refine Zo hm (fun hb hm=>go ?_) fun hb hm=>go ?_
  ·refine Zw [1,4,1000000] (fun n f a1=>∃ a2 av aw ah,ah=n∧Zbv N aa aj (Qu N aa ae) ah av aw=some r∧St w0 (Zh col) a2 a1∧Zm 27 1 a2 a1 ay #[.string aa.1,.slice ap aa.2.1.length al,.slice aq aa.2.2.1.length am,.slice ar aa.2.2.2.1.length an,.slice au aa.2.2.2.2.length ao]∧[3,5].map f=[.int .i64 av,.int .i64 aw]) N ⟨_,_,0,_,rfl,hm,ab,ac,rfl⟩ ?_;clear hm;intro n f a1 hI;obtain ⟨a2,av,aw,ah,hn,hm,ab,ac,hs⟩:=hI;subst hn;refine .lL [3,5] hs ?_
   cases ah with
   | zero=>rw [Zbv.eq_1] at hm;cases hm
   | succ ah=>
    rw [Zbv.eq_2] at hm;refine Z0<|Z0 ?_;refine Wp.cutK [1,3,4,5,1000000] (fun f a3=>∃ ad a4,Zil aa aj (Qu N aa ae) av aw (Zbv N aa aj (Qu N aa ae) ah) a4=some r∧St w0 (Zh col) ad a3∧Zm 27 1 ad a3 ay #[.string aa.1,.slice ap aa.2.1.length al,.slice aq aa.2.2.1.length am,.slice ar aa.2.2.2.1.length an,.slice au aa.2.2.2.2.length ao]∧[24].map f=[.bool a4]) ?_ ?_
    ·intro f a3 hJ;obtain ⟨ad,a4,hm,ab,ac,hs⟩:=hJ;rw [Zil.eq_1] at hm;refine .lL [24] hs ?_;refine Zo hm (fun hb hm=>go ?_) fun hb hm=>go ?_
     ·refine Wd (col:=ad) (by kernel_rfl) (by kernel_rfl)<|go ?_;refine qF ⟨_,_,rfl⟩ ?_;refine qW (fun _ hC=>((ac.atN).nth (q:=4) rfl).gr (hC.bl ad)) ?_;refine go ?_;obtain ⟨bx,ak,hm⟩:=bZ hm;refine qI ak ((ag.ks ab).addr ak) ?_;obtain ⟨_,a9,ba⟩:=(ag.ks ab).atN ak;obtain ⟨⟨bz,b0,rfl,ax⟩,_⟩:=a9;refine qW (fun _ hC=>ba.one.gr (hC.bl ad)) ?_;refine go ?_;obtain ⟨b1,af,hm⟩:=bZ hm;refine qI af (ax.addr af)<|qF (X2 (ax.addr af)) ?_;refine qF (X2 (X2 (ax.addr af))) ?_;obtain ⟨_,bb,bc⟩:=ax.atN af;obtain ⟨_,_,rfl,bd,be⟩:=Yi bb;obtain ⟨_,_,rfl,bf,bg⟩:=Yi bd;obtain ⟨rfl,_⟩:=bf;obtain ⟨⟨b2,b3,rfl,b4⟩,_⟩:=bg;obtain ⟨⟨b5,b6,rfl,b7⟩,_⟩:=be;refine qW (fun _ hC=>((((bc).part 0 2 _ rfl)).nth (q:=1) rfl).gr (hC.bl ad)) ?_;refine go ?_;refine qF ⟨_,_,rfl⟩ ?_;refine qW (fun _ hC=>((ac.atN).nth (q:=4) rfl).gr (hC.bl ad)) ?_;refine go ?_;refine qI ak ((ag.ks ab).addr ak) ?_;obtain ⟨_,bh,bi⟩:=(ag.ks ab).atN ak;obtain ⟨⟨b8,b9,rfl,a5⟩,_⟩:=bh;refine qW (fun _ hC=>bi.one.gr (hC.bl ad)) ?_;refine go ?_;refine qI af (a5.addr af)<|qF (X2 (a5.addr af)) ?_;obtain ⟨_,bj,bk⟩:=a5.atN af;obtain ⟨_,_,rfl,bm,bn⟩:=Yi bj;obtain ⟨_,_,rfl,bo,bp⟩:=Yi bm;obtain ⟨rfl,_⟩:=bo;obtain ⟨⟨ca,cb,rfl,cc⟩,_⟩:=bp;obtain ⟨⟨cd,ce,rfl,cf⟩,_⟩:=bn;refine qW (fun _ hC=>((bk).nth (q:=2) rfl).gr (hC.bl ad)) ?_;refine go ?_;refine X7 ?_;intro cg hC;replace hC:=hC.bl ad;refine go ?_;replace ac:=ac.gr hC;replace ab:=ab.grow hC;exact ⟨ah,by omega,rfl,⟨_,_,_,_,rfl,hm,ab,ac,rfl⟩⟩
     exact ⟨ae,by omega,rfl,⟨_,_,_,_,rfl,hm,ab,ac,rfl⟩⟩
    refine go ?_;refine Xa ac<|Xo rfl ?_;obtain ⟨ch,a6,hm⟩:=bZ hm;refine lI a6 ((ag.ks ab).addr a6) ?_;obtain ⟨_,bq,br⟩:=(ag.ks ab).atN a6;obtain ⟨⟨ci,cj,rfl,ck⟩,_⟩:=bq;refine lW br.one<|go ?_;refine Xt hm (fun a7 hm=>go ?_) fun a7 hm=>go ?_
    ·refine lV (.bool (decide (av<10000))) (Xb (congrArg Value.bool a7) rfl)<|Zk ?_;exact ⟨rfl,_,_,hm,ab,ac,rfl⟩
    refine lV (.bool false) (Xm (congrArg Value.bool a7) rfl)<|Zk ?_;exact ⟨rfl,_,_,hm,ab,ac,rfl⟩
  refine lV (.int .i64 (if 10000<ai then 10000 else ai)) (Zp6 ai 10000 rfl rfl)<|go ?_;cases hm;exact ⟨rfl,rfl,ab.below⟩
theorem Zur {N:Nat} {n:Xe} (hb:∀ t ∈ n.2.2.2.2,t.length≤1048576∧∀ x ∈ t,x.1.2.length≤1048576∧x.2.length≤1048576) {i:Nat} (hi:i<n.2.2.2.2.length) (hib:i<4611686018427387904) (kk:Int→Int→Option Int) (hkk:∀ s:Int,0≤s→s≤3000000→∃ r,kk s ((i+1:Nat):Int)=some r):∀ (f k:Nat) (s:Int),0≤s→s≤3000000→k≤n.2.2.2.2[i].length→n.2.2.2.2[i].length<f+k→∃ r,Zbv N n (i:Int) kk f s (k:Int)=some r
 | 0,k,s,_,_,h1,h2=>by omega
 | f+1,k,s,s1,s2,h1,h2=>by
  have ht:=hb _ (List.getElem_mem hi)
  rw [Zbv.eq_2,Zy hi,oB]
  by_cases hk:k<n.2.2.2.2[i].length
  ·have hx:=ht.2 _ (List.getElem_mem hk)
   rw [if_pos (dT (by omega)),Zil]
   by_cases hs:s<10000
   ·rw [decide_eq_true hs,if_pos rfl,Zy hi,oB,Zy hk,oB,Zr (x:=s+_) (by omega),Zr (by omega),wS (by omega)]
    exact Zur hb hi hib kk hkk f (k+1) _ (by omega) (by omega) (by omega) (by omega)
   ·rw [decide_eq_false hs,if_neg (by decide),wS (by omega)]
    exact hkk s s1 s2
  ·rw [if_neg (dF (by omega)),Zil,if_neg (by decide),wS (by omega)]
   exact hkk s s1 s2
theorem Zuq {N:Nat} {n:Xe} (hb:∀ t ∈ n.2.2.2.2,t.length≤1048576∧∀ x ∈ t,x.1.2.length≤1048576∧x.2.length≤1048576) (hl:n.2.2.2.2.length≤1048576) (hN:1048577<N):∀ (f i:Nat) (s:Int),0≤s→s≤3000000→i≤n.2.2.2.2.length→n.2.2.2.2.length<f+i→∃ r,Qu N n f s (i:Int)=some r
 | 0,i,s,_,_,h1,h2=>by omega
 | f+1,i,s,s1,s2,h1,h2=>by
  rw [Qu.eq_2]
  by_cases hi:i<n.2.2.2.2.length
  ·rw [if_pos (dT (by omega))]
   have ht:=hb _ (List.getElem_mem hi)
   have:=Zur (N:=N) hb hi (by omega) (Qu N n f) (fun s' a b=>Zuq hb hl hN f (i+1) s' a b (by omega) (by omega)) N 0 s s1 s2 (Nat.zero_le _) (by omega)
   exact this
  ·rw [if_neg (dF (by omega))]
   exact ⟨_,rfl⟩
def Zmh (aa:Bool):Option Bool:=
  some aa
def Zd8 (N:Nat) (aa:R0):Nat→Int→Int→Option Bool
  | 0,_,_=>none
  | ad+1,ac,ab=>if (decide (ab<(aa.2.2.2.2.length:Int)))=true then ((Zj aa.2.2.2.2 ab).bind fun ae=>(Zd8 N aa ad) (i64.wrap (ac+(ae.length:Int))) (i64.wrap (ab+1))) else (if (decide (3000<ac))=true then (Zmh true) else ((Zmt N (aa.1,aa.2.1,aa.2.2.1,aa.2.2.2.1,aa.2.2.2.2)).bind fun af=>Zmh (decide (6000<af))))
termination_by structural x=>x
def Zd7 (N:Nat) (aa:R0):Nat→Int→Int→Option Bool
  | 0,_,_=>none
  | ae+1,ad,ac=>if (decide (ac<(aa.2.2.1.length:Int)))=true then ((Zj aa.2.2.1 ac).bind fun ab=>if (decide (600<(i64.wrap (ad * (if (ab.length:Int)>1 then (ab.length:Int) else 1)))))=true then (some true) else ((Zd7 N aa ae) (i64.wrap (ad * (if (ab.length:Int)>1 then (ab.length:Int) else 1))) (i64.wrap (ac+1)))) else (Zd8 N aa N 0 0)
termination_by structural x=>x
def Zmg (N:Nat) (aa:R0):Option Bool:=
  Zd7 N aa N 1 0
theorem Z0n {N ai aj ak al:Nat} {am an ao ap:Option Addr} {col:Zd} {w0:World} {ab:R0} {r:Bool} (hm:Zmg N ab=some r) (ar:Sl Za.str col w0 am ai ab.2.1) (af:Sl (Za.slice Za.str) col w0 an aj ab.2.2.1) (au:Sl (Za.slice (Za.int .i64)) col w0 ao ak ab.2.2.2.1) (ag:Sl (Za.slice (Za.pair (Za.pair Za.bool (Za.slice (Za.int .u32))) (Za.slice (Za.int .u32)))) col w0 ap al ab.2.2.2.2):
    Calls prog 68 #[(.agg #[.string ab.1,.slice am ab.2.1.length ai,.slice an ab.2.2.1.length aj,.slice ao ab.2.2.2.1.length ak,.slice ap ab.2.2.2.2.length al])] w0 (fun e w'=>e= .returned ((.bool r))∧Below w0.heap.size w0 w'):=by
 refine Xc 2 (m:=47) func68 rfl rfl rfl rfl rfl ?_;rw [Zmg.eq_1] at hm;have aa:=St.start col w0;refine go ?_;refine Xg (col:=(Zh col)) 1 rfl ?_;intro a7 bi bj ba ac;refine go ?_;replace aa:=aa.grow ba;refine Zw [1,1000000] (fun n f av=>∃ aw ax ay ad,ad=n∧Zd7 N ab ad ax ay=some r∧St w0 (Zh col) aw av∧Zm 27 1 aw av a7 #[.string ab.1,.slice am ab.2.1.length ai,.slice an ab.2.2.1.length aj,.slice ao ab.2.2.2.1.length ak,.slice ap ab.2.2.2.2.length al]∧[3,4].map f=[.int .i64 ax,.int .i64 ay]) N ⟨_,1,0,_,rfl,hm,aa,ac,rfl⟩ ?_;clear hm;intro n f av hI;obtain ⟨aw,ax,ay,ad,hn,hm,aa,ac,hs⟩:=hI;subst hn;refine .lL [3,4] hs ?_;replace ar:=ar.keep (Zf.start col w0);replace af:=af.keep (Zf.start col w0);replace au:=au.keep (Zf.start col w0);replace ag:=ag.keep (Zf.start col w0)
 cases ad with
 | zero=>rw [Zd7.eq_1] at hm;cases hm
 | succ ad=>
  rw [Zd7.eq_2] at hm;refine go ?_;refine Xa ac ?_;refine go ?_;refine Zo hm (fun hb hm=>go ?_) fun hb hm=>go ?_
  ·refine Xa ac<|Xo rfl ?_;obtain ⟨az,a0,hm⟩:=bZ hm;refine lI a0 ((af.ks aa).addr a0) ?_;obtain ⟨_,bb,bc⟩:=(af.ks aa).atN a0;obtain ⟨⟨bk,bm,rfl,bn⟩,_⟩:=bb;refine lW bc.one<|go ?_;refine lV (.int .i64 (if (az.length:Int)>1 then (az.length:Int) else 1)) (Z5w 1 (az.length:Int) rfl rfl)<|go ?_;refine Zo hm (fun hb hm=>go ?_) fun hb hm=>go ?_
   ·cases hm;exact ⟨rfl,rfl,aa.below⟩
   exact ⟨ad,by omega,rfl,⟨_,_,_,_,rfl,hm,aa,ac,rfl⟩⟩
  refine Zw [1,1000000] (fun n f aq=>∃ ah a1 a2 ae,ae=n∧Zd8 N ab ae a1 a2=some r∧St w0 (Zh col) ah aq∧Zm 27 1 ah aq a7 #[.string ab.1,.slice am ab.2.1.length ai,.slice an ab.2.2.1.length aj,.slice ao ab.2.2.2.1.length ak,.slice ap ab.2.2.2.2.length al]∧[5,6].map f=[.int .i64 a1,.int .i64 a2]) N ⟨_,0,0,_,rfl,hm,aa,ac,rfl⟩ ?_;clear hm;intro n f aq hI;obtain ⟨ah,a1,a2,ae,hn,hm,aa,ac,hs⟩:=hI;subst hn;refine .lL [5,6] hs ?_
  cases ae with
  | zero=>rw [Zd8.eq_1] at hm;cases hm
  | succ ae=>
   rw [Zd8.eq_2] at hm;refine go ?_;refine Xa ac ?_;refine go ?_;refine Zo hm (fun hb hm=>go ?_) fun hb hm=>?_
   ·refine Xa ac<|Xo rfl ?_;obtain ⟨bo,a3,hm⟩:=bZ hm;refine lI a3 ((ag.ks aa).addr a3) ?_;obtain ⟨_,bd,be⟩:=(ag.ks aa).atN a3;obtain ⟨⟨bp,bq,rfl,br⟩,_⟩:=bd;refine lW be.one<|go ?_;exact ⟨ae,by omega,rfl,⟨_,_,_,_,rfl,hm,aa,ac,rfl⟩⟩
   refine Zk9 (Zji ?_);refine Z0 ?_;refine Wp.cutK [1000000] (fun f a8=>∃ a9 a4,Zmh a4=some r∧St w0 (Zh col) a9 a8∧[2].map f=[.bool a4]) ?_ ?_
   ·intro f a8 hJ;obtain ⟨a9,a4,hm,aa,hs⟩:=hJ;rw [Zmh.eq_1] at hm;refine .lL [2] hs<|We ?_;cases hm;exact ⟨rfl,rfl,aa.below⟩
   refine go ?_;refine Xt hm (fun a5 hm=>go ?_) fun a5 hm=>go ?_
   ·refine lV (.bool true) (Xb (congrArg Value.bool a5) rfl)<|go ?_;exact ⟨rfl,_,_,hm,aa,rfl⟩
   refine lV _ (Z7 isAgg27 sizeOf27 ac)<|go ?_;obtain ⟨bf,bg,hm⟩:=bZ hm;refine Zi (Z1v bg (ar.ks aa) (af.ks aa) (au.ks aa) (ag.ks aa)) ?_;rintro _ bh ⟨rfl,a6⟩;refine ⟨_,rfl,?_⟩;replace a6:Zg ah aq ah bh:=.of_below a6;refine go ?_;refine lV (.bool (decide (6000<bf))) (Xm (congrArg Value.bool a5) rfl)<|go ?_;replace aa:=aa.grow a6;exact ⟨rfl,_,_,hm,aa,rfl⟩
def Zjo (N:Nat) (aa:R0):Option Bool:=
  (Vt N (aa.1,aa.2.1,aa.2.2.1,aa.2.2.2.1,aa.2.2.2.2) ([]:List R5) ([]:List Int)).bind fun ab=>some (decide (ab=4))
theorem Z0m {N ah ai aj ak:Nat} {al am an ao:Option Addr} {col:Zd} {w0:World} {aa:R0} {r:Bool} (hm:Zjo N aa=some r) (ac:Sl Za.str col w0 al ah aa.2.1) (ad:Sl (Za.slice Za.str) col w0 am ai aa.2.2.1) (ae:Sl (Za.slice (Za.int .i64)) col w0 an aj aa.2.2.2.1) (af:Sl (Za.slice (Za.pair (Za.pair Za.bool (Za.slice (Za.int .u32))) (Za.slice (Za.int .u32)))) col w0 ao ak aa.2.2.2.2):
    Calls prog 134 #[(.agg #[.string aa.1,.slice al aa.2.1.length ah,.slice am aa.2.2.1.length ai,.slice an aa.2.2.2.1.length aj,.slice ao aa.2.2.2.2.length ak])] w0 (fun e w'=>e= .returned ((.bool r))∧Below w0.heap.size w0 w'):=by
 refine Xc 2 (m:=6) func134 rfl rfl rfl rfl rfl ?_;rw [Zjo.eq_1] at hm;have ab:=St.start col w0;refine go ?_;refine Xg (col:=(Zh col)) 1 rfl ?_;intro ax aq ap ar au;refine go ?_;refine lV _ (Z7 isAgg27 sizeOf27 au) ?_;obtain ⟨ay,av,hm⟩:=bZ hm;replace ac:=ac.keep (Zf.start col w0);replace ad:=ad.keep (Zf.start col w0);replace ae:=ae.keep (Zf.start col w0);replace af:=af.keep (Zf.start col w0);replace ab:=ab.grow ar;refine Zi (Zlw av (ac.ks ab) (ad.ks ab) (ae.ks ab) (af.ks ab) Sl.nil Sl.nil) ?_;rintro _ aw ⟨rfl,ag⟩;refine ⟨_,rfl,?_⟩;replace ag:Zg ap aq ap aw:=.of_below ag;refine go ?_;cases hm;replace ab:=ab.grow ag;exact ⟨rfl,rfl,ab.below⟩
def Zmf (aa:Bool):Option Bool:=
  some aa
def Zjn (N:Nat) (aa:R0):Option Bool:=
  (Zmg N (aa.1,aa.2.1,aa.2.2.1,aa.2.2.2.1,aa.2.2.2.2)).bind fun ab=>(Zjo N (aa.1,aa.2.1,aa.2.2.1,aa.2.2.2.1,aa.2.2.2.2)).bind fun ac=>if ab=true then (Zmf (!ac)) else (Zmf false)
theorem Z0l {N am an ao ap:Nat} {aq ar au av:Option Addr} {col:Zd} {w0:World} {ab:R0} {r:Bool} (hm:Zjn N ab=some r) (ac:Sl Za.str col w0 aq am ab.2.1) (ad:Sl (Za.slice Za.str) col w0 ar an ab.2.2.1) (ae:Sl (Za.slice (Za.int .i64)) col w0 au ao ab.2.2.2.1) (af:Sl (Za.slice (Za.pair (Za.pair Za.bool (Za.slice (Za.int .u32))) (Za.slice (Za.int .u32)))) col w0 av ap ab.2.2.2.2):
    Calls prog 47 #[(.agg #[.string ab.1,.slice aq ab.2.1.length am,.slice ar ab.2.2.1.length an,.slice au ab.2.2.2.1.length ao,.slice av ab.2.2.2.2.length ap])] w0 (fun e w'=>e= .returned ((.bool r))∧Below w0.heap.size w0 w'):=by
 refine Xc 2 (m:=14) func47 rfl rfl rfl rfl rfl ?_;rw [Zjn.eq_1] at hm;have aa:=St.start col w0;refine go ?_;refine Xg (col:=(Zh col)) 1 rfl ?_;intro a5 az ag a0 ah;refine go ?_;refine lV _ (Z7 isAgg27 sizeOf27 ah) ?_;obtain ⟨a6,a1,hm⟩:=bZ hm;replace ac:=ac.keep (Zf.start col w0);replace ad:=ad.keep (Zf.start col w0);replace ae:=ae.keep (Zf.start col w0);replace af:=af.keep (Zf.start col w0);replace aa:=aa.grow a0;refine Zi (Z0n a1 (ac.ks aa) (ad.ks aa) (ae.ks aa) (af.ks aa)) ?_;rintro _ aw ⟨rfl,ai⟩;refine ⟨_,rfl,?_⟩;replace ai:Zg ag az ag aw:=.of_below ai;refine go ?_;replace ah:=ah.gr ai;refine lV _ (Z7 isAgg27 sizeOf27 ah) ?_;obtain ⟨a2,a3,hm⟩:=bZ hm;replace aa:=aa.grow ai;refine Zi (Z0m a3 (ac.ks aa) (ad.ks aa) (ae.ks aa) (af.ks aa)) ?_;rintro _ a4 ⟨rfl,aj⟩;refine ⟨_,rfl,?_⟩;replace aj:Zg ag aw ag a4:=.of_below aj;refine Q4 rfl<|Zk<|Z0 ?_;replace aa:=aa.grow aj;refine Wp.cutK [1000000] (fun f ax=>∃ ay ak,Zmf ak=some r∧St w0 (Zh col) ay ax∧[2].map f=[.bool ak]) ?_ ?_
 ·intro f ax hJ;obtain ⟨ay,ak,hm,aa,hs⟩:=hJ;rw [Zmf.eq_1] at hm;refine .lL [2] hs<|We ?_;cases hm;exact ⟨rfl,rfl,aa.below⟩
 refine go ?_;refine Xt hm (fun al hm=>go ?_) fun al hm=>go ?_
 ·refine lV (.bool (!a2)) (Xb (congrArg Value.bool al) rfl)<|go ?_;exact ⟨rfl,_,_,hm,aa,rfl⟩
 refine lV (.bool false) (Xm (congrArg Value.bool al) rfl)<|go ?_;exact ⟨rfl,_,_,hm,aa,rfl⟩
def Zg2 (aa:Rc):Option (Nat×Rc):=
  Zv ((([]:List R5).length+aa.length) * 16≤140737488355328∧([]:List R5).length+aa.length≤maxLen) (Zv (((([]:List R5)++aa).length+[((-71),0),((-72),0),((-73),0),((-74),0)].length) * 16≤140737488355328∧(([]:List R5)++aa).length+[((-71),0),((-72),0),((-73),0),((-74),0)].length≤maxLen) (Zv ((0:Int)≤(aa.length:Int)∧(aa.length:Int)≤(((([]:List R5)++aa)++[((-71),0),((-72),0),((-73),0),((-74),0)]).length:Int)) (some ((Int.toNat (aa.length:Int)),(([]:List R5)++aa)++[((-71),0),((-72),0),((-73),0),((-74),0)]))))
theorem Zq9 {ag:Nat} {a0:Option Addr} {col:Zd} {w0:World} {aa:Rc} {r:(Nat×Rc)} (c1:Nat) (hm:Zg2 aa=some r) (h0:Sl (Za.pair (Za.int .i64) (Za.int .i64)) col w0 a0 ag aa):
    Calls prog 51 #[.slice a0 aa.length ag] w0 (fun e w'=>∃ (col':Zd) (ra1:Option Addr) (rc2:Nat),e= .returned ((.slice ra1 ((r.2.take r.1).length) rc2))∧Zg col w0 col' w'∧Zc (Za.pair (Za.int .i64) (Za.int .i64)) 97 c1 col' w' ra1 rc2 r.2):=by
 refine Xc 2 (m:=18) func51 rfl rfl rfl rfl rfl ?_;rw [Zg2.eq_1] at hm;have ab:=St.start col w0;refine go ?_;obtain ⟨aj,hm⟩:=Zx hm;replace h0:=h0.keep (Zf.start col w0);refine Y3 (c:=1) Zc.nil (h0.ks ab).srcC aj ?_;intro ap aq ar ak al ac;refine go ?_;refine lV (.agg #[.int .i64 (-71),.int .i64 0]) (Yz (l:=[_,_]) (qs:=[(0,1),(1,1)]) underlying97 zeroValue97 ⟨rfl,sizeOf3,rfl,sizeOf3,trivial⟩ rfl)<|lV (.agg #[.int .i64 (-72),.int .i64 0]) (Yz (l:=[_,_]) (qs:=[(0,1),(1,1)]) underlying97 zeroValue97 ⟨rfl,sizeOf3,rfl,sizeOf3,trivial⟩ rfl)<|lV (.agg #[.int .i64 (-73),.int .i64 0]) (Yz (l:=[_,_]) (qs:=[(0,1),(1,1)]) underlying97 zeroValue97 ⟨rfl,sizeOf3,rfl,sizeOf3,trivial⟩ rfl)<|lV (.agg #[.int .i64 (-74),.int .i64 0]) (Yz (l:=[_,_]) (qs:=[(0,1),(1,1)]) underlying97 zeroValue97 ⟨rfl,sizeOf3,rfl,sizeOf3,trivial⟩ rfl)<|Th (col:=ak) (r:=(Za.pair (Za.int .i64) (Za.int .i64))) (xs:=[((-71),0),((-72),0),((-73),0),((-74),0)]) [(.agg #[.int .i64 (-71),.int .i64 0]),(.agg #[.int .i64 (-72),.int .i64 0]),(.agg #[.int .i64 (-73),.int .i64 0]),(.agg #[.int .i64 (-74),.int .i64 0])] 2 (Wm.ofF (Rows.consF (r:=(Za.pair (Za.int .i64) (Za.int .i64))) (x:=((-71),0)) (cs:=[.int .i64 (-71),.int .i64 0]) (S1 (Uf .i64 (-71)) (Uf .i64 0)) (Rows.consF (r:=(Za.pair (Za.int .i64) (Za.int .i64))) (x:=((-72),0)) (cs:=[.int .i64 (-72),.int .i64 0]) (S1 (Uf .i64 (-72)) (Uf .i64 0)) (Rows.consF (r:=(Za.pair (Za.int .i64) (Za.int .i64))) (x:=((-73),0)) (cs:=[.int .i64 (-73),.int .i64 0]) (S1 (Uf .i64 (-73)) (Uf .i64 0)) (Rows.consF (r:=(Za.pair (Za.int .i64) (Za.int .i64))) (x:=((-74),0)) (cs:=[.int .i64 (-74),.int .i64 0]) (S1 (Uf .i64 (-74)) (Uf .i64 0)) Rows.nil0))))) ?_;intro au av aw ah am;obtain ⟨an,hm⟩:=Zx hm;replace ac:=ac.gr ah;refine Y3 ac (am.srcN (NB.pair (NB.int (k:=.i64)) (NB.int (k:=.i64)))) an ?_;intro ad ae ax ay ao ai;refine go ?_;obtain ⟨af,hm⟩:=Zx hm;refine lv (v:=.slice ad (Int.toNat (aa.length:Int)) ae) rfl rfl (V5 underlying82 sizeOf97 rfl rfl af.1 (by have:=ai.lecap;have:=af.2;omega))<|.ld (d:=17) (v:=(.slice ad ((((([]:List R5)++aa)++[((-71),0),((-72),0),((-73),0),((-74),0)]).take (Int.toNat (aa.length:Int))).length) ae)) (congrArg (fun n=>Value.slice ad n ae) (List.length_take_of_le (show (Int.toNat (aa.length:Int))≤((([]:List R5)++aa)++[((-71),0),((-72),0),((-73),0),((-74),0)]).length by have:=af.2;omega)).symm) ?_;refine go ?_;cases hm
 replace ab:=((ab.kpp al).grow ah).kpp ao;exact ⟨rfl,_,_,_,rfl,ab.fin (cm [(1,c1)]),ab.fo ai⟩
def Zeu (N:Nat) (ab:List Int) (ac:List Int):Nat→Int→Option Bool
  | 0,_=>none
  | ad+1,aa=>if (decide (aa<(ab.length:Int)))=true then ((Zj ab aa).bind fun ae=>(Zj ac aa).bind fun af=>if (!decide (ae=af))=true then (some false) else ((Zeu N ab ac ad) (i64.wrap (aa+1)))) else (some true)
termination_by structural x=>x
def Zht (N:Nat) (aa:List Int) (ab:List Int):Option Bool:=
  if (!decide ((aa.length:Int)=(ab.length:Int)))=true then (some false) else (Zeu N aa ab N 0)
theorem Zrk {N ai aj:Nat} {a0 a1:Option Addr} {col:Zd} {w0:World} {ad ae:R2} {r:Bool} (hm:Zht N ad ae=some r) (h0:Sl (Za.int .u32) col w0 a0 ai ad) (h1:Sl (Za.int .u32) col w0 a1 aj ae):
    Calls prog 116 #[.slice a0 ad.length ai,.slice a1 ae.length aj] w0 (fun e w'=>e= .returned ((.bool r))∧Below w0.heap.size w0 w'):=by
 refine Xc 4 (m:=26) func116 rfl rfl rfl rfl rfl ?_;rw [Zht.eq_1] at hm;have aa:=St.start col w0;refine go ?_;replace h0:=h0.keep (Zf.start col w0);replace h1:=h1.keep (Zf.start col w0);refine Zo hm (fun hb hm=>go ?_) fun hb hm=>go ?_
 ·cases hm;exact ⟨rfl,rfl,aa.below⟩
 refine Zw [0,1,1000000] (fun n f ak=>∃ ab af ac,ac=n∧Zeu N ad ae ac af=some r∧St w0 (Zh col) ab ak∧[5].map f=[.int .i64 af]) N ⟨_,0,_,rfl,hm,aa,rfl⟩ ?_;clear hm;intro n f ak hI;obtain ⟨ab,af,ac,hn,hm,aa,hs⟩:=hI;subst hn;refine .lL [5] hs ?_
 cases ac with
 | zero=>rw [Zeu.eq_1] at hm;cases hm
 | succ ac=>
  rw [Zeu.eq_2] at hm;refine go ?_;refine Zo hm (fun hb hm=>go ?_) fun hb hm=>go ?_
  ·refine Wd (col:=ab) (by kernel_rfl) (by kernel_rfl)<|go ?_;obtain ⟨al,ag,hm⟩:=bZ hm;refine qI ag ((h0.ks aa).addr ag)<|qW (fun _ hC=>((h0.ks aa).gr (hC.bl ab)).atInt ag) ?_;refine go ?_;obtain ⟨am,ah,hm⟩:=bZ hm;refine qI ah ((h1.ks aa).addr ah)<|qW (fun _ hC=>((h1.ks aa).gr (hC.bl ab)).atInt ah) ?_;refine go ?_;refine X7 ?_;intro an hC;replace hC:=hC.bl ab;replace aa:=aa.grow hC;refine Zo hm (fun hb hm=>go ?_) fun hb hm=>go ?_
   ·cases hm;exact ⟨rfl,rfl,aa.below⟩
   exact ⟨ac,by omega,rfl,⟨_,_,_,rfl,hm,aa,rfl⟩⟩
  cases hm;exact ⟨rfl,rfl,aa.below⟩
def Zj9 (aa:Bool):Option Bool:=
  some aa
def Zmo (N:Nat) (aa:R4) (ab:R4):Option Bool:=
  if (decide (aa.1=ab.1))=true then ((Zht N aa.2 ab.2).bind fun ac=>Zj9 ac) else (Zj9 false)
theorem Z07 {N aj ak:Nat} {al am:Option Addr} {col:Zd} {w0:World} {ab ac:R4} {r:Bool} (hm:Zmo N ab ac=some r) (ae:Sl (Za.int .u32) col w0 al aj ab.2) (af:Sl (Za.int .u32) col w0 am ak ac.2):
    Calls prog 115 #[(.agg #[.bool ab.1,.slice al ab.2.length aj]),(.agg #[.bool ac.1,.slice am ac.2.length ak])] w0 (fun e w'=>e= .returned ((.bool r))∧Below w0.heap.size w0 w'):=by
 refine Xc 4 (m:=17) func115 rfl rfl rfl rfl rfl ?_;rw [Zmo.eq_1] at hm;have aa:=St.start col w0;refine go ?_;refine Xg (col:=(Zh col)) 1 rfl ?_;intro a0 a1 au av ad;refine Xg (col:=au) 2 rfl ?_;intro a2 aw an ao ap;refine Q4 rfl<|Zk<|Z0 ?_;replace ae:=ae.keep (Zf.start col w0);replace af:=af.keep (Zf.start col w0);replace aa:=(aa.grow av).grow ao;replace ad:=ad.gr ao;refine Wp.cutK [1000000] (fun f aq=>∃ ar ag,Zj9 ag=some r∧St w0 (Zh col) ar aq∧[4].map f=[.bool ag]) ?_ ?_
 ·intro f aq hJ;obtain ⟨ar,ag,hm,aa,hs⟩:=hJ;rw [Zj9.eq_1] at hm;refine .lL [4] hs<|We ?_;cases hm;exact ⟨rfl,rfl,aa.below⟩
 refine Wk<|Xa ad<|Xa ap ?_;refine go ?_;refine Xt hm (fun ah hm=>go ?_) fun ah hm=>go ?_
 ·refine Xd ⟨_,_,rfl⟩ ?_;refine go ?_;refine lW ((ad.atN).nth (q:=1) rfl)<|go ?_;refine Xd ⟨_,_,rfl⟩ ?_;refine go ?_;refine lW ((ap.atN).nth (q:=1) rfl)<|go ?_;obtain ⟨ax,ay,hm⟩:=bZ hm;refine Zi (Zrk ay (ae.ks aa) (af.ks aa)) ?_;rintro _ az ⟨rfl,ai⟩;refine ⟨_,rfl,?_⟩;replace ai:Zg an aw an az:=.of_below ai;refine lV (.bool ax) (Xb (congrArg Value.bool ah) rfl)<|go ?_;replace aa:=aa.grow ai;exact ⟨rfl,_,_,hm,aa,rfl⟩
 refine lV (.bool false) (Xm (congrArg Value.bool ah) rfl)<|go ?_;exact ⟨rfl,_,_,hm,aa,rfl⟩
def Zkb (aa:Bool):Option Bool:=
  some aa
def Zh3 (N:Nat) (aa:R1) (ab:R1):Option Bool:=
  (Zmo N (aa.1.1,aa.1.2) (ab.1.1,ab.1.2)).bind fun ac=>if ac=true then ((Zht N aa.2 ab.2).bind fun ad=>Zkb ad) else (Zkb false)
theorem Zrs {N ah au ai av:Nat} {aj aw ak ax:Option Addr} {col:Zd} {w0:World} {ab ac:R1} {r:Bool} (hm:Zh3 N ab ac=some r) (al:Sl (Za.int .u32) col w0 aj ah ab.1.2) (am:Sl (Za.int .u32) col w0 aw au ab.2) (an:Sl (Za.int .u32) col w0 ak ai ac.1.2) (ao:Sl (Za.int .u32) col w0 ax av ac.2):
    Calls prog 41 #[(.agg #[.bool ab.1.1,.slice aj ab.1.2.length ah,.slice aw ab.2.length au]),(.agg #[.bool ac.1.1,.slice ak ac.1.2.length ai,.slice ax ac.2.length av])] w0 (fun e w'=>e= .returned ((.bool r))∧Below w0.heap.size w0 w'):=by
 refine Xc 4 (m:=17) func41 rfl rfl rfl rfl rfl ?_;rw [Zh3.eq_1] at hm;have aa:=St.start col w0;refine go ?_;refine Xg (col:=(Zh col)) 1 rfl ?_;intro a9 ba a2 a3 ad;refine Xg (col:=a2) 2 rfl ?_;intro bb a4 af ay ag;refine Q4 rfl<|Zk<|Z0 ?_;replace al:=al.keep (Zf.start col w0);replace am:=am.keep (Zf.start col w0);replace an:=an.keep (Zf.start col w0);replace ao:=ao.keep (Zf.start col w0);replace aa:=(aa.grow a3).grow ay;replace ad:=ad.gr ay;refine Wp.cutK [1000000] (fun f az=>∃ a0 ap,Zkb ap=some r∧St w0 (Zh col) a0 az∧[4].map f=[.bool ap]) ?_ ?_
 ·intro f az hJ;obtain ⟨a0,ap,hm,aa,hs⟩:=hJ;rw [Zkb.eq_1] at hm;refine .lL [4] hs<|We ?_;cases hm;exact ⟨rfl,rfl,aa.below⟩
 refine Wk<|Xd ⟨_,_,rfl⟩ ?_;refine lV (.agg #[.bool ab.1.1,.slice aj ab.1.2.length ah]) (Yj isAgg45 sizeOf45 rfl rfl ((ad.atN).part 0 2 _ rfl))<|Xd ⟨_,_,rfl⟩ ?_;refine lV (.agg #[.bool ac.1.1,.slice ak ac.1.2.length ai]) (Yj isAgg45 sizeOf45 rfl rfl ((ag.atN).part 0 2 _ rfl)) ?_;obtain ⟨bc,a5,hm⟩:=bZ hm;refine Zi (Z07 a5 (al.ks aa) (an.ks aa)) ?_;rintro _ a1 ⟨rfl,ae⟩;refine ⟨_,rfl,?_⟩;replace ae:Zg af a4 af a1:=.of_below ae;refine Y2 rfl ?_;replace ad:=ad.gr ae;replace ag:=ag.gr ae;replace aa:=aa.grow ae;refine Xt hm (fun aq hm=>go ?_) fun aq hm=>go ?_
 ·refine Xd ⟨_,_,rfl⟩ ?_;refine go ?_;refine lW ((ad.atN).nth (q:=2) rfl)<|go ?_;refine Xd ⟨_,_,rfl⟩ ?_;refine go ?_;refine lW ((ag.atN).nth (q:=2) rfl)<|go ?_;obtain ⟨a6,a7,hm⟩:=bZ hm;refine Zi (Zrk a7 (am.ks aa) (ao.ks aa)) ?_;rintro _ a8 ⟨rfl,ar⟩;refine ⟨_,rfl,?_⟩;replace ar:Zg af a1 af a8:=.of_below ar;refine lV (.bool a6) (Xb (congrArg Value.bool aq) rfl)<|go ?_;replace aa:=aa.grow ar;exact ⟨rfl,_,_,hm,aa,rfl⟩
 refine lV (.bool false) (Xm (congrArg Value.bool aq) rfl)<|go ?_;exact ⟨rfl,_,_,hm,aa,rfl⟩
def Zme (aa:Bool):Option Bool:=
  some aa
def Zd6 (N:Nat) (n0:Nat) (ab:Rc) (aa:Rc):Nat→Int→Option Bool
  | 0,_=>none
  | af+1,ac=>if (decide (ac<(aa.length:Int)))=true then ((Zj (ab.take n0) ac).bind fun ad=>(Zj aa ac).bind fun ae=>if (!(decide (ad.1=ae.1)&&decide (ad.2=ae.2)))=true then (some false) else ((Zd6 N n0 ab aa af) (i64.wrap (ac+1)))) else (Zv ((0:Int)≤(i64.wrap ((aa.length:Int)+4))∧(i64.wrap ((aa.length:Int)+4))≤(ab.length:Int)) ((Zj (ab.take (Int.toNat (i64.wrap ((aa.length:Int)+4)))) (aa.length:Int)).bind fun ag=>if (decide (ag.1=(-71)))=true then ((Zj (ab.take (Int.toNat (i64.wrap ((aa.length:Int)+4)))) (i64.wrap ((aa.length:Int)+3))).bind fun ah=>Zme (decide (ah.1=(-74)))) else (Zme false)))
termination_by structural x=>x
def Zg1 (N:Nat) (n0:Nat) (aa:Rc) (ab:Rc):Option Bool:=
  if (!decide (((aa.take n0).length:Int)=(ab.length:Int)))=true then (some false) else (Zd6 N n0 aa ab N 0)
theorem Zq8 {N ah n0 aq:Nat} {a0 a1:Option Addr} {col:Zd} {w0:World} {ac ab:Rc} {r:Bool} (hm:Zg1 N n0 ac ab=some r) (h0:Sl (Za.pair (Za.int .i64) (Za.int .i64)) col w0 a0 ah ac) (h1:Sl (Za.pair (Za.int .i64) (Za.int .i64)) col w0 a1 aq ab):
    Calls prog 56 #[.slice a0 ((ac.take n0).length) ah,.slice a1 ab.length aq] w0 (fun e w'=>e= .returned ((.bool r))∧Below w0.heap.size w0 w'):=by
 refine Xc 4 (m:=49) func56 rfl rfl rfl rfl rfl ?_;rw [Zg1.eq_1] at hm;have aa:=St.start col w0;refine go ?_;replace h0:=h0.keep (Zf.start col w0);replace h1:=h1.keep (Zf.start col w0);refine Zo hm (fun hb hm=>go ?_) fun hb hm=>go ?_
 ·cases hm;exact ⟨rfl,rfl,aa.below⟩
 refine Zw [0,1,1000000] (fun n f ar=>∃ ad ak ae,ae=n∧Zd6 N n0 ac ab ae ak=some r∧St w0 (Zh col) ad ar∧[5].map f=[.int .i64 ak]) N ⟨_,0,_,rfl,hm,aa,rfl⟩ ?_;clear hm;intro n f ar hI;obtain ⟨ad,ak,ae,hn,hm,aa,hs⟩:=hI;subst hn;refine .lL [5] hs ?_
 cases ae with
 | zero=>rw [Zd6.eq_1] at hm;cases hm
 | succ ae=>
  rw [Zd6.eq_2] at hm;refine go ?_;refine Zo hm (fun hb hm=>go ?_) fun hb hm=>go ?_
  ·refine Wd (col:=ad) (by kernel_rfl) (by kernel_rfl)<|go ?_;obtain ⟨af,al,hm⟩:=bZ hm;refine qI al (((h0.ks aa).take n0).addr al) ?_;obtain ⟨_,aw,ax⟩:=((h0.ks aa).take n0).atN al;obtain ⟨_,_,rfl,ay,az⟩:=Yi aw;obtain ⟨rfl,_⟩:=ay;obtain ⟨rfl,_⟩:=az;refine qv (v:=(.agg #[.int .i64 af.1,.int .i64 af.2])) rfl (fun _ hC=>Yj isAgg97 sizeOf97 rfl rfl (ax.gr (hC.bl ad))) ?_;refine go ?_;obtain ⟨ag,am,hm⟩:=bZ hm;refine qI am ((h1.ks aa).addr am) ?_;obtain ⟨_,a2,a3⟩:=(h1.ks aa).atN am;obtain ⟨_,_,rfl,a4,a5⟩:=Yi a2;obtain ⟨rfl,_⟩:=a4;obtain ⟨rfl,_⟩:=a5;refine qv (v:=(.agg #[.int .i64 ag.1,.int .i64 ag.2])) rfl (fun _ hC=>Yj isAgg97 sizeOf97 rfl rfl (a3.gr (hC.bl ad))) ?_;refine qv (v:=(.bool (!(decide (af.1=ag.1)&&decide (af.2=ag.2))))) rfl (fun _ hC=>Z5x rfl rfl (by decide+kernel) (Z3l underlying97 (by decide+kernel) (by decide) (by decide) (Znp isAgg3 rfl) (Znp isAgg3 rfl) (Znp isAgg3 rfl) (Znp isAgg3 rfl) (Zv7 af.1 ag.1 underlying3) (Zv7 af.2 ag.2 underlying3))) ?_;refine X7 ?_;intro bf hC;replace hC:=hC.bl ad;replace aa:=aa.grow hC;refine Zo hm (fun hb hm=>go ?_) fun hb hm=>go ?_
   ·cases hm;exact ⟨rfl,rfl,aa.below⟩
   exact ⟨ae,by omega,rfl,⟨_,_,_,rfl,hm,aa,rfl⟩⟩
  obtain ⟨an,hm⟩:=Zx hm;refine lv (v:=.slice a0 (Int.toNat (i64.wrap ((ab.length:Int)+4))) ah) rfl rfl (V5 underlying82 sizeOf97 rfl rfl an.1 (by have:=(h0.ks aa).1.2;have:=an.2;omega))<|.ld (d:=31) (v:=(.slice a0 ((ac.take (Int.toNat (i64.wrap ((ab.length:Int)+4)))).length) ah)) (congrArg (fun n=>Value.slice a0 n ah) (List.length_take_of_le (show (Int.toNat (i64.wrap ((ab.length:Int)+4)))≤ac.length by have:=an.2;omega)).symm) ?_;refine Za0 rfl<|Zk<|Z0 ?_;refine Wp.cutK [1000000] (fun f au=>∃ av ao,Zme ao=some r∧St w0 (Zh col) av au∧[4].map f=[.bool ao]) ?_ ?_
  ·intro f au hJ;obtain ⟨av,ao,hm,aa,hs⟩:=hJ;rw [Zme.eq_1] at hm;refine .lL [4] hs<|We ?_;cases hm;exact ⟨rfl,rfl,aa.below⟩
  refine go ?_;obtain ⟨bg,ai,hm⟩:=bZ hm;refine lI ai (((h0.ks aa).take (Int.toNat (i64.wrap ((ab.length:Int)+4)))).addr ai)<|Xd (X2 (((h0.ks aa).take (Int.toNat (i64.wrap ((ab.length:Int)+4)))).addr ai)) ?_;obtain ⟨_,a6,a7⟩:=((h0.ks aa).take (Int.toNat (i64.wrap ((ab.length:Int)+4)))).atN ai;obtain ⟨_,_,rfl,a8,a9⟩:=Yi a6;obtain ⟨rfl,_⟩:=a8;obtain ⟨rfl,_⟩:=a9;refine lW ((a7).nth (q:=0) rfl)<|go ?_;refine Xt hm (fun ap hm=>go ?_) fun ap hm=>go ?_
  ·obtain ⟨ba,aj,hm⟩:=bZ hm;refine lI aj (((h0.ks aa).take (Int.toNat (i64.wrap ((ab.length:Int)+4)))).addr aj) ?_;refine go ?_;refine Xd (X2 (((h0.ks aa).take (Int.toNat (i64.wrap ((ab.length:Int)+4)))).addr aj)) ?_;refine go ?_;obtain ⟨_,bb,bc⟩:=((h0.ks aa).take (Int.toNat (i64.wrap ((ab.length:Int)+4)))).atN aj;obtain ⟨_,_,rfl,bd,be⟩:=Yi bb;obtain ⟨rfl,_⟩:=bd;obtain ⟨rfl,_⟩:=be;refine lW ((bc).nth (q:=0) rfl)<|go ?_;refine lV (.bool (decide (ba.1=(-74)))) (Xb (congrArg Value.bool ap) rfl)<|go ?_;exact ⟨rfl,_,_,hm,aa,rfl⟩
  refine lV (.bool false) (Xm (congrArg Value.bool ap) rfl)<|go ?_;exact ⟨rfl,_,_,hm,aa,rfl⟩
def Zd5 (aa:Bool):Option Bool:=
  some aa
def Zd4 (N:Nat) (ab:R0) (ag:Rc) (ah:Rc) (aa:R3) (ae:(Nat×Rc)) (af:(Nat×Rc)) (ac:(R1×Int)) (ad:(R1×Int)) (ai:Bool):Option Bool:=
  if ai=true then (some false) else ((Zij N (aa.1,(aa.2.1.1,aa.2.1.2),aa.2.2.1,aa.2.2.2.1,aa.2.2.2.2) (ab.1,ab.2.1,ab.2.2.1,ab.2.2.2.1,ab.2.2.2.2)).bind fun aj=>if aj=true then ((Zg1 N ae.1 ae.2 ag).bind fun ak=>if ak=true then ((Zg1 N af.1 af.2 ah).bind fun al=>if al=true then ((Zii N [((ac.1.1.1,ac.1.1.2),ac.1.2),((ad.1.1.1,ad.1.1.2),ad.1.2)]).bind fun am=>Zd5 am.1) else (Zd5 false)) else (Zd5 false)) else (Zd5 false))
def Zmd (N:Nat) (aa:R0) (ag:Rc) (af:Rc):Option Bool:=
  (Zjn N (aa.1,aa.2.1,aa.2.2.1,aa.2.2.2.1,aa.2.2.2.2)).bind fun ak=>if ak=true then (some true) else ((Zik N (aa.1,aa.2.1,aa.2.2.1,aa.2.2.2.1,aa.2.2.2.2)).bind fun ab=>(Zg2 ag).bind fun ah=>(Zg2 af).bind fun ac=>(Zd2 N (ab.1,ab.2.1.2.take ab.2.1.1,ab.2.2.1.map X3,ab.2.2.2.1.map X3,ab.2.2.2.2.map (U2 (Prod.map (Prod.map id X3) X3))) (ac.2.take ac.1)).bind fun ad=>(Zd1 N (ab.1,ab.2.1.2.take ab.2.1.1,ab.2.2.1.map X3,ab.2.2.2.1.map X3,ab.2.2.2.2.map (U2 (Prod.map (Prod.map id X3) X3))) (ah.2.take ah.1) (ac.2.take ac.1)).bind fun ae=>(Zc7 N (aa.1,aa.2.1,aa.2.2.1,aa.2.2.2.1,aa.2.2.2.2) af).bind fun ai=>(Zc2 N (aa.1,aa.2.1,aa.2.2.1,aa.2.2.2.1,aa.2.2.2.2) ag af).bind fun aj=>if (!decide (ad.2=ai.2))=true then (Zd4 N aa ag af ab ah ac ad ae true) else (if (!decide (ae.2=aj.2))=true then (Zd4 N aa ag af ab ah ac ad ae true) else ((Zh3 N ((ad.1.1.1,ad.1.1.2),ad.1.2) ((ai.1.1.1,ai.1.1.2),ai.1.2)).bind fun al=>if (!al)=true then (Zd4 N aa ag af ab ah ac ad ae true) else ((Zh3 N ((ae.1.1.1,ae.1.1.2),ae.1.2) ((aj.1.1.1,aj.1.1.2),aj.1.2)).bind fun am=>Zd4 N aa ag af ab ah ac ad ae (!am)))))
theorem Z0k (N:Nat) (col:Zd) (w0:World) (ch:Option Addr) (ci:Nat) (cj:Option Addr) (ck:Nat) (cl:Option Addr) (cn:Nat) (co:Option Addr) (cp:Nat) (a5:R0) (a1:Option Addr) (c7:Nat) (ca:Rc) (a2:Option Addr) (c8:Nat) (cb:Rc) (bj:Sl Za.str col w0 ch ci a5.2.1) (bk:Sl (Za.slice Za.str) col w0 cj ck a5.2.2.1) (bm:Sl (Za.slice (Za.int .i64)) col w0 cl cn a5.2.2.2.1) (bn:Sl (Za.slice (Za.pair (Za.pair Za.bool (Za.slice (Za.int .u32))) (Za.slice (Za.int .u32)))) col w0 co cp a5.2.2.2.2) (h1:Sl (Za.pair (Za.int .i64) (Za.int .i64)) col w0 a1 c7 ca) (h2:Sl (Za.pair (Za.int .i64) (Za.int .i64)) col w0 a2 c8 cb) (r:Bool) (hm:Zmd N a5 ca cb=some r):
    Calls prog 10 #[(.agg #[.string a5.1,.slice ch a5.2.1.length ci,.slice cj a5.2.2.1.length ck,.slice cl a5.2.2.2.1.length cn,.slice co a5.2.2.2.2.length cp]),.slice a1 ca.length c7,.slice a2 cb.length c8] w0 (fun e w'=>e= .returned ((.bool r))∧Below w0.heap.size w0 w'):=by
 refine Xc 6 (m:=91) func10 rfl rfl rfl rfl rfl ?_;rw [Zmd.eq_1] at hm;have ab:=St.start col w0;refine go ?_;refine Xg (col:=(Zh col)) 1 rfl ?_;intro dq dr c9 ds ah;refine go ?_;refine lV _ (Z7 isAgg27 sizeOf27 ah) ?_;obtain ⟨fg,dt,hm⟩:=bZ hm;replace bj:=bj.keep (Zf.start col w0);replace bk:=bk.keep (Zf.start col w0);replace bm:=bm.keep (Zf.start col w0);replace bn:=bn.keep (Zf.start col w0);replace ab:=ab.grow ds;refine Zi (Z0l dt (bj.ks ab) (bk.ks ab) (bm.ks ab) (bn.ks ab)) ?_;rintro _ du ⟨rfl,cc⟩;refine ⟨_,rfl,?_⟩;replace cc:Zg c9 dr c9 du:=.of_below cc;refine Zk ?_;replace h1:=h1.keep (Zf.start col w0);replace h2:=h2.keep (Zf.start col w0);replace ah:=ah.gr cc;replace ab:=ab.grow cc;refine Zo hm (fun hb hm=>go ?_) fun hb hm=>go ?_
 ·cases hm;exact ⟨rfl,rfl,ab.below⟩
 refine lV _ (Z7 isAgg27 sizeOf27 ah) ?_;obtain ⟨aa,dv,hm⟩:=bZ hm;refine Zi (Z1u dv (bj.ks ab) (bk.ks ab) (bm.ks ab) (bn.ks ab)) ?_;rintro _ fh ⟨dw,bx,bz,b0,b1,b2,b3,b4,b5,rfl,da,aq,ar,au,av⟩;refine ⟨_,rfl,?_⟩;refine Xl (col:=dw) #[.string (⟨#[]⟩),.slice none (([]:List ByteArray).length) 0,.slice none (([]:List R7).length) 0,.slice none (([]:List R2).length) 0,(.slice none (([]:List R8).length) 0)] 2 zeroValue27 ?_;intro dx fi fj b6 dy;refine Z4 dy ?_;intro fk b7 dz aw;refine go ?_;obtain ⟨cq,d0,hm⟩:=bZ hm;replace ab:=((ab.grow da).grow b6).kp b7 dz;refine Zi (Zq9 3 d0 (h1.ks ab)) ?_;rintro _ fl ⟨fm,d1,d2,rfl,bo,ay⟩;refine ⟨_,rfl,go ?_⟩;obtain ⟨cd,d3,hm⟩:=bZ hm;replace ab:=ab.grow bo;refine Zi (Zq9 4 d3 (h2.ks ab)) ?_;rintro _ d4 ⟨ce,d5,d6,rfl,bh,ak⟩;refine ⟨_,rfl,go ?_⟩;replace aw:=(aw.gr bo).gr bh;refine lV _ (Z7 isAgg27 sizeOf27 aw)<|Yr rfl ?_;have d7:((.agg #[.string aa.1,.slice bx ((aa.2.1.2.take aa.2.1.1).length) bz,.slice b0 aa.2.2.1.length b1,.slice b2 aa.2.2.2.1.length b3,.slice b4 aa.2.2.2.2.length b5]):Value)=(.agg #[.string aa.1,(.slice bx (aa.1,aa.2.1.2.take aa.2.1.1,aa.2.2.1.map X3,aa.2.2.2.1.map X3,aa.2.2.2.2.map (U2 (Prod.map (Prod.map id X3) X3))).2.1.length bz),(.slice b0 (aa.1,aa.2.1.2.take aa.2.1.1,aa.2.2.1.map X3,aa.2.2.2.1.map X3,aa.2.2.2.2.map (U2 (Prod.map (Prod.map id X3) X3))).2.2.1.length b1),(.slice b2 (aa.1,aa.2.1.2.take aa.2.1.1,aa.2.2.1.map X3,aa.2.2.2.1.map X3,aa.2.2.2.2.map (U2 (Prod.map (Prod.map id X3) X3))).2.2.2.1.length b3),(.slice b4 (aa.1,aa.2.1.2.take aa.2.1.1,aa.2.2.1.map X3,aa.2.2.2.1.map X3,aa.2.2.2.2.map (U2 (Prod.map (Prod.map id X3) X3))).2.2.2.2.length b5)]):=by first | (simp only [List.length_map];done) | simp only [List.length_map,List.take_length]
 obtain ⟨ad,d8,hm⟩:=bZ hm;replace aq:=(((aq.gr b6).kp b7).gr bo).gr bh;replace ar:=(((ar.gr b6).kp b7).gr bo).gr bh;replace au:=(((au.gr b6).kp b7).gr bo).gr bh;replace av:=(((av.gr b6).kp b7).gr bo).gr bh;refine lc rfl rfl (Zbx call52 d7 rfl) (Z0h 5 6 d8 ((aq.take aa.2.1.1).froz 4) ((ar.froz 4).weak Wn.view0) ((au.froz 4).weak Wn.view0) ((av.froz 4).weak (Wn.view (Wn.pair (Wn.pair Wn.rfl Wn.view0) Wn.view0))) ((ak.take cd.1).toSlF (Zn.pair (Zn.int .i64) (Zn.int .i64))):) ?_;rintro _ fn ⟨d9,bp,bq,br,bs,rfl,ba,ai,aj⟩;refine ⟨_,rfl,?_⟩;replace ai:=ai.thaw (Z3 .u32) ba ((Fz.refl (col:=ce)).froz 4) (by decide);replace aj:=aj.thaw (Z3 .u32) ba ((Fz.refl (col:=ce)).froz 4) (by decide);replace ba:=ba.thawR (col:=ce);generalize Xf d4.heap.size ce d9=ea at *;refine lM (.tuple #[(.agg #[.bool ad.1.1.1,.slice bp ad.1.1.2.length bq,.slice br ad.1.2.length bs]),.int .i64 ad.2])<|lV (.agg #[.bool ad.1.1.1,.slice bp ad.1.1.2.length bq,.slice br ad.1.2.length bs]) (Xv rfl rfl)<|lV (.int .i64 ad.2) (Xv rfl rfl)<|Xl (col:=ea) #[.bool false,.slice none (([]:List Int).length) 0,.slice none (([]:List Int).length) 0] 7 zeroValue47 ?_;intro eb fp cf bb ec;refine Z4 ec ?_;intro ed bc ee ao;refine go ?_;replace aw:=((aw.gr ba).gr bb).kp bc;refine lV _ (Z7 isAgg27 sizeOf27 aw)<|go ?_
 have ef:((.agg #[.string aa.1,.slice bx ((aa.2.1.2.take aa.2.1.1).length) bz,.slice b0 aa.2.2.1.length b1,.slice b2 aa.2.2.2.1.length b3,.slice b4 aa.2.2.2.2.length b5]):Value)=(.agg #[.string aa.1,(.slice bx (aa.1,aa.2.1.2.take aa.2.1.1,aa.2.2.1.map X3,aa.2.2.2.1.map X3,aa.2.2.2.2.map (U2 (Prod.map (Prod.map id X3) X3))).2.1.length bz),(.slice b0 (aa.1,aa.2.1.2.take aa.2.1.1,aa.2.2.1.map X3,aa.2.2.2.1.map X3,aa.2.2.2.2.map (U2 (Prod.map (Prod.map id X3) X3))).2.2.1.length b1),(.slice b2 (aa.1,aa.2.1.2.take aa.2.1.1,aa.2.2.1.map X3,aa.2.2.2.1.map X3,aa.2.2.2.2.map (U2 (Prod.map (Prod.map id X3) X3))).2.2.2.1.length b3),(.slice b4 (aa.1,aa.2.1.2.take aa.2.1.1,aa.2.2.1.map X3,aa.2.2.2.1.map X3,aa.2.2.2.2.map (U2 (Prod.map (Prod.map id X3) X3))).2.2.2.2.length b5)]):=by first | (simp only [List.length_map];done) | simp only [List.length_map,List.take_length]
 obtain ⟨ac,eg,hm⟩:=bZ hm;replace ay:=(((ay.gr bh).gr ba).gr bb).kp bc;replace aq:=((aq.gr ba).gr bb).kp bc;replace ar:=((ar.gr ba).gr bb).kp bc;replace au:=((au.gr ba).gr bb).kp bc;replace av:=((av.gr ba).gr bb).kp bc;replace ak:=((ak.gr ba).gr bb).kp bc;refine lc rfl rfl (Zwt call53 ef rfl rfl) (Z0g 8 9 eg (((aq.take aa.2.1.1).froz 3).froz 4) (((ar.froz 3).froz 4).weak Wn.view0) (((au.froz 3).froz 4).weak Wn.view0) (((av.froz 3).froz 4).weak (Wn.view (Wn.pair (Wn.pair Wn.rfl Wn.view0) Wn.view0))) (((ay.take cq.1).toSlF (Zn.pair (Zn.int .i64) (Zn.int .i64))).froz 4) (((ak.take cd.1).froz 3 (by decide)).toSlF (Zn.pair (Zn.int .i64) (Zn.int .i64))):) ?_;rintro _ fq ⟨eh,bt,bu,bv,bw,rfl,a6,af,ag⟩;refine ⟨_,rfl,?_⟩;replace af:=af.thaw (Z3 .u32) a6 (((Fz.refl (col:=cf)).froz 3).froz 4) (by decide);replace ag:=ag.thaw (Z3 .u32) a6 (((Fz.refl (col:=cf)).froz 3).froz 4) (by decide);replace a6:=a6.thawR (col:=cf);generalize Xf ed.heap.size cf eh=ei at *;refine lM (.tuple #[(.agg #[.bool ac.1.1.1,.slice bt ac.1.1.2.length bu,.slice bv ac.1.2.length bw]),.int .i64 ac.2])<|lV (.agg #[.bool ac.1.1.1,.slice bt ac.1.1.2.length bu,.slice bv ac.1.2.length bw]) (Xv rfl rfl)<|lV (.int .i64 ac.2) (Xv rfl rfl)<|Xl (col:=ei) #[.bool false,.slice none (([]:List Int).length) 0,.slice none (([]:List Int).length) 0] 10 zeroValue47 ?_;intro ej fr ft a8 ek;refine Z4 ek ?_;intro fu a9 el ap;refine go ?_;replace ah:=((((((((((ah.gr da).gr b6).kp b7).gr bo).gr bh).gr ba).gr bb).kp bc).gr a6).gr a8).kp a9;refine lV _ (Z7 isAgg27 sizeOf27 ah)<|Yr rfl ?_;obtain ⟨bi,em,hm⟩:=bZ hm;replace ab:=((((((ab.grow bh).grow ba).grow bb).kp bc ee).grow a6).grow a8).kp a9 el;refine Zi (Z1y 11 12 em (bj.ks ab) (bk.ks ab) (bm.ks ab) (bn.ks ab) (h2.ks ab)) ?_;rintro _ fv ⟨en,db,dc,dd,de,rfl,a7,cr,ct⟩;refine ⟨_,rfl,?_⟩
 refine lM (.tuple #[(.agg #[.bool bi.1.1.1,.slice db bi.1.1.2.length dc,.slice dd bi.1.2.length de]),.int .i64 bi.2])<|lV (.agg #[.bool bi.1.1.1,.slice db bi.1.1.2.length dc,.slice dd bi.1.2.length de]) (Xv rfl rfl)<|lV (.int .i64 bi.2) (Xv rfl rfl)<|Xl (col:=en) #[.bool false,.slice none (([]:List Int).length) 0,.slice none (([]:List Int).length) 0] 13 zeroValue47 ?_;intro fw fx fy az eo;refine Z4 eo ?_;intro fz a0 ep cu;refine go ?_;replace ah:=((ah.gr a7).gr az).kp a0;refine lV _ (Z7 isAgg27 sizeOf27 ah)<|go ?_;obtain ⟨bf,eq,hm⟩:=bZ hm;replace ab:=((ab.grow a7).grow az).kp a0 ep;refine Zi (Z1p 14 15 eq (bj.ks ab) (bk.ks ab) (bm.ks ab) (bn.ks ab) (h1.ks ab) (h2.ks ab)) ?_;rintro _ f0 ⟨er,df,dg,dh,di,rfl,ax,b8,b9⟩;refine ⟨_,rfl,?_⟩;refine lM (.tuple #[(.agg #[.bool bf.1.1.1,.slice df bf.1.1.2.length dg,.slice dh bf.1.2.length di]),.int .i64 bf.2])<|lV (.agg #[.bool bf.1.1.1,.slice df bf.1.1.2.length dg,.slice dh bf.1.2.length di]) (Xv rfl rfl)<|lV (.int .i64 bf.2) (Xv rfl rfl)<|Xl (col:=er) #[.bool false,.slice none (([]:List Int).length) 0,.slice none (([]:List Int).length) 0] 16 zeroValue47 ?_;intro f1 f2 cg al es;refine Z4 es ?_;intro et am eu cv;refine Y8 rfl<|Zk<|Z0<|Z0 ?_;replace ai:=((((((((((ai.gr bb).kp bc).gr a6).gr a8).kp a9).gr a7).gr az).kp a0).gr ax).gr al).kp am;replace aj:=((((((((((aj.gr bb).kp bc).gr a6).gr a8).kp a9).gr a7).gr az).kp a0).gr ax).gr al).kp am;replace aq:=((((((((aq.gr a6).gr a8).kp a9).gr a7).gr az).kp a0).gr ax).gr al).kp am;replace ar:=((((((((ar.gr a6).gr a8).kp a9).gr a7).gr az).kp a0).gr ax).gr al).kp am;replace au:=((((((((au.gr a6).gr a8).kp a9).gr a7).gr az).kp a0).gr ax).gr al).kp am;replace av:=((((((((av.gr a6).gr a8).kp a9).gr a7).gr az).kp a0).gr ax).gr al).kp am;replace ay:=((((((((ay.gr a6).gr a8).kp a9).gr a7).gr az).kp a0).gr ax).gr al).kp am;replace ak:=((((((((ak.gr a6).gr a8).kp a9).gr a7).gr az).kp a0).gr ax).gr al).kp am
 replace aw:=((((((((aw.gr a6).gr a8).kp a9).gr a7).gr az).kp a0).gr ax).gr al).kp am;replace ao:=((((((((ao.gr a6).gr a8).kp a9).gr a7).gr az).kp a0).gr ax).gr al).kp am;replace af:=(((((((af.gr a8).kp a9).gr a7).gr az).kp a0).gr ax).gr al).kp am;replace ag:=(((((((ag.gr a8).kp a9).gr a7).gr az).kp a0).gr ax).gr al).kp am;replace ap:=(((((ap.gr a7).gr az).kp a0).gr ax).gr al).kp am;replace cr:=((((cr.gr az).kp a0).gr ax).gr al).kp am;replace ct:=((((ct.gr az).kp a0).gr ax).gr al).kp am;replace ah:=((ah.gr ax).gr al).kp am;replace cu:=((cu.gr ax).gr al).kp am;replace ab:=((ab.grow ax).grow al).kp am eu;replace b8:=(b8.gr al).kp am;replace b9:=(b9.gr al).kp am;refine Wp.cutK [1,10,12,2,3,7,8,9,1000000] (fun f a3=>∃ ae cw,Zd4 N a5 ca cb aa cq cd ad ac cw=some r∧St w0 (Zh col) ae a3∧Zc (Za.int .u32) 79 5 ae a3 bp bq ad.1.1.2∧Zc (Za.int .u32) 79 6 ae a3 br bs ad.1.2∧Zm 47 7 ae a3 eb #[.bool ad.1.1.1,.slice bp ad.1.1.2.length bq,.slice br ad.1.2.length bs]∧Zc (Za.int .u32) 79 8 ae a3 bt bu ac.1.1.2∧Zc (Za.int .u32) 79 9 ae a3 bv bw ac.1.2∧Zm 47 10 ae a3 ej #[.bool ac.1.1.1,.slice bt ac.1.1.2.length bu,.slice bv ac.1.2.length bw]∧Zm 27 1 ae a3 dq #[.string a5.1,.slice ch a5.2.1.length ci,.slice cj a5.2.2.1.length ck,.slice cl a5.2.2.2.1.length cn,.slice co a5.2.2.2.2.length cp]∧Sl Za.str ae a3 bx bz aa.2.1.2∧Sl (Za.view Za.str) ae a3 b0 b1 aa.2.2.1∧Sl (Za.view (Za.int .i64)) ae a3 b2 b3 aa.2.2.2.1∧Sl (Za.view (Za.pair (Za.pair Za.bool (Za.view (Za.int .u32))) (Za.view (Za.int .u32)))) ae a3 b4 b5 aa.2.2.2.2∧Zm 27 2 ae a3 dx #[.string aa.1,.slice bx ((aa.2.1.2.take aa.2.1.1).length) bz,.slice b0 aa.2.2.1.length b1,.slice b2 aa.2.2.2.1.length b3,.slice b4 aa.2.2.2.2.length b5]∧Zc (Za.pair (Za.int .i64) (Za.int .i64)) 97 3 ae a3 d1 d2 cq.2∧Zc (Za.pair (Za.int .i64) (Za.int .i64)) 97 4 ae a3 d5 d6 cd.2∧[71].map f=[.bool cw]) ?_ ?_
 ·intro f a3 hJ;obtain ⟨ae,cw,hm,ab,ai,aj,ao,af,ag,ap,ah,aq,ar,au,av,aw,ay,ak,hs⟩:=hJ;rw [Zd4.eq_1] at hm;refine .lL [71] hs ?_;refine Zo hm (fun hb hm=>go ?_) fun hb hm=>?_
  ·cases hm;exact ⟨rfl,rfl,ab.below⟩
  refine X9<|Z0 ?_;refine Wp.cutK [1000000] (fun f dj=>∃ dk cx,Zd5 cx=some r∧St w0 (Zh col) dk dj∧[6].map f=[.bool cx]) ?_ ?_
  ·intro f dj hJ;obtain ⟨dk,cx,hm,ab,hs⟩:=hJ;rw [Zd5.eq_1] at hm;refine .lL [6] hs<|We ?_;cases hm;exact ⟨rfl,rfl,ab.below⟩
  refine Wk<|lV _ (Z7 isAgg27 sizeOf27 aw)<|lV _ (Z7 isAgg27 sizeOf27 ah) ?_;obtain ⟨f3,ew,hm⟩:=bZ hm;refine Zi (Z1t ew aq ar au av (bj.ks ab) (bk.ks ab) (bm.ks ab) (bn.ks ab)) ?_;rintro _ dl ⟨rfl,bd⟩;refine ⟨_,rfl,?_⟩;replace bd:Zg ae a3 ae dl:=.of_below bd;refine Y2 rfl ?_;replace ai:=ai.gr bd;replace aj:=aj.gr bd;replace af:=af.gr bd;replace ag:=ag.gr bd;replace ay:=ay.gr bd;replace ak:=ak.gr bd;replace ao:=ao.gr bd;replace ap:=ap.gr bd;replace ab:=ab.grow bd;refine Xt hm (fun cy hm=>go ?_) fun cy hm=>go ?_
  ·obtain ⟨ey,ez,hm⟩:=bZ hm;refine Zi (Zq8 ez (ay.toSlF (Zn.pair (Zn.int .i64) (Zn.int .i64))) ((h1.ks ab).froz 3)) ?_;rintro _ dm ⟨rfl,be⟩;refine ⟨_,rfl,?_⟩;replace be:Zg ae dl ae dm:=.of_below be;refine lV (.bool ey) (Xb (congrArg Value.bool cy) rfl)<|Y2 rfl ?_;replace ai:=ai.gr be;replace aj:=aj.gr be;replace af:=af.gr be;replace ag:=ag.gr be;replace ak:=ak.gr be;replace ao:=ao.gr be;replace ap:=ap.gr be;replace ab:=ab.grow be;refine Xt hm (fun cz hm=>go ?_) fun cz hm=>go ?_
   ·obtain ⟨e0,e1,hm⟩:=bZ hm;refine Zi (Zq8 e1 (ak.toSlF (Zn.pair (Zn.int .i64) (Zn.int .i64))) ((h2.ks ab).froz 4)) ?_;rintro _ c0 ⟨rfl,bg⟩;refine ⟨_,rfl,?_⟩;replace bg:Zg ae dm ae c0:=.of_below bg;refine lV (.bool e0) (Xb (congrArg Value.bool cz) rfl)<|Y2 rfl ?_;replace ai:=ai.gr bg;replace aj:=aj.gr bg;replace af:=af.gr bg;replace ag:=ag.gr bg;replace ao:=ao.gr bg;replace ap:=ap.gr bg;replace ab:=ab.grow bg;refine Xt hm (fun c1 hm=>go ?_) fun c1 hm=>go ?_
    ·refine lV _ (Z7 isAgg47 sizeOf47 ao)<|go ?_;refine lV _ (Z7 isAgg47 sizeOf47 ap)<|go ?_;have e2:=X0.join (X0.joinL (T3 ad.1.1.1) ai.has) aj.has (by decide) (by decide);replace af:=af.recol 6 5 (by decide);replace ag:=ag.recol 6 5 (by decide);replace ab:=ab.recol 6 5 (by decide) (by decide);have c2:X0 (Za.pair (Za.pair Za.bool (Za.row 79 (Za.int .u32))) (Za.row 79 (Za.int .u32))) 5 (Xx 6 5 ae) c0 [.bool ad.1.1.1,.slice bp ad.1.1.2.length bq,.slice br ad.1.2.length bs] ((ad.1.1.1,ad.1.1.2),ad.1.2):=e2;have e3:=X0.join (X0.joinL (T3 ac.1.1.1) af.has) ag.has (by decide) (by decide);replace ab:=ab.recol 9 8 (by decide) (by decide);replace c2:=c2.recol 9 8 (by decide);have e4:X0 (Za.pair (Za.pair Za.bool (Za.row 79 (Za.int .u32))) (Za.row 79 (Za.int .u32))) 8 (Xx 9 8 (Xx 6 5 ae)) c0 [.bool ac.1.1.1,.slice bt ac.1.1.2.length bu,.slice bv ac.1.2.length bw] ((ac.1.1.1,ac.1.1.2),ac.1.2):=e3;have e5:=Wm.cons (cs:=[.bool ad.1.1.1,.slice bp ad.1.1.2.length bq,.slice br ad.1.2.length bs]) c2 (Wm.cons1 (cs:=[.bool ac.1.1.1,.slice bt ac.1.1.2.length bu,.slice bv ac.1.2.length bw]) e4 Rows.nil0) (by decide) (by decide);replace ab:=ab.recol 5 8 (by decide) (by decide);refine Th (col:=(Xx 5 8 (Xx 9 8 (Xx 6 5 ae)))) (r:=(Za.pair (Za.pair Za.bool (Za.row 79 (Za.int .u32))) (Za.row 79 (Za.int .u32)))) (xs:=[((ad.1.1.1,ad.1.1.2),ad.1.2),((ac.1.1.1,ac.1.1.2),ac.1.2)]) [(.agg #[.bool ad.1.1.1,.slice bp ad.1.1.2.length bq,.slice br ad.1.2.length bs]),(.agg #[.bool ac.1.1.1,.slice bt ac.1.1.2.length bu,.slice bv ac.1.2.length bw])] 8 e5 ?_;intro dn f4 f5 e6 e7;refine go ?_;obtain ⟨c3,e8,hm⟩:=bZ hm;refine Zi (Z1s 8 e8 rfl e7) ?_;rintro _ f6 ⟨f7,rfl,e9,f8,fa⟩;refine ⟨_,rfl,?_⟩;refine .ld (d:=88) (v:=(.slice dn c3.2.length 2)) (congrArg (fun n=>Value.slice dn n 2) (show [((ad.1.1.1,ad.1.1.2),ad.1.2),((ac.1.1.1,ac.1.1.2),ac.1.2)].length=c3.2.length from fa.symm)) ?_;refine lV (.bool c3.1) (Xb (congrArg Value.bool c1) rfl)<|go ?_;replace ab:=(ab.grow e6).kpp e9;exact ⟨rfl,_,_,hm,ab,rfl⟩
    refine lV (.bool false) (Xm (congrArg Value.bool c1) rfl)<|go ?_;exact ⟨rfl,_,_,hm,ab,rfl⟩
   refine lV (.bool false) (Xm (congrArg Value.bool cz) rfl)<|Y2 rfl<|lP 85 rfl rfl<|lP 85 rfl rfl<|lP 85 rfl rfl<|lP 85 rfl rfl<|lV (.bool false) (Xm rfl rfl)<|go ?_;exact ⟨rfl,_,_,hm,ab,rfl⟩
  refine lV (.bool false) (Xm (congrArg Value.bool cy) rfl)<|Y2 rfl<|lP 80 rfl rfl<|lP 80 rfl rfl<|lP 80 rfl rfl<|lV (.bool false) (Xm rfl rfl)<|Y2 rfl<|lP 85 rfl rfl<|lP 85 rfl rfl<|lP 85 rfl rfl<|lP 85 rfl rfl<|lV (.bool false) (Xm rfl rfl)<|go ?_;exact ⟨rfl,_,_,hm,ab,rfl⟩
 refine go ?_;refine Xt hm (fun c4 hm=>go ?_) fun c4 hm=>go ?_
 ·refine lV (.bool true) (Xb (congrArg Value.bool c4) rfl)<|Y2 rfl<|lP 60 rfl rfl<|lP 60 rfl rfl<|lP 60 rfl rfl<|lP 60 rfl rfl<|lV (.bool true) (Xb rfl rfl)<|Y2 rfl<|lP 66 rfl rfl<|lP 66 rfl rfl<|lP 66 rfl rfl<|lP 66 rfl rfl<|lV (.bool true) (Xb rfl rfl)<|Zk ?_;exact ⟨rfl,_,_,hm,ab,ai,aj,ao,af,ag,ap,ah,aq,ar,au,av,aw,ay,ak,rfl⟩
 refine lV (.bool (!decide (ac.2=bf.2))) (Xm (congrArg Value.bool c4) rfl)<|Y2 rfl ?_;refine Xt hm (fun c5 hm=>go ?_) fun c5 hm=>go ?_
 ·refine lV (.bool true) (Xb (congrArg Value.bool c5) rfl)<|Y2 rfl<|lP 66 rfl rfl<|lP 66 rfl rfl<|lP 66 rfl rfl<|lP 66 rfl rfl<|lV (.bool true) (Xb rfl rfl)<|Zk ?_;exact ⟨rfl,_,_,hm,ab,ai,aj,ao,af,ag,ap,ah,aq,ar,au,av,aw,ay,ak,rfl⟩
 refine lV _ (Z7 isAgg47 sizeOf47 ao)<|go ?_;refine lV _ (Z7 isAgg47 sizeOf47 cu)<|go ?_;obtain ⟨fb,fc,hm⟩:=bZ hm;refine Zi (Zrs fc ((((ai.toSlF (Zn.int .u32)).froz 6).froz 11).froz 12) ((((aj.froz 5 (by decide)).toSlF (Zn.int .u32)).froz 11).froz 12) ((((cr.froz 5 (by decide)).froz 6 (by decide)).toSlF (Zn.int .u32)).froz 12) ((((ct.froz 5 (by decide)).froz 6 (by decide)).froz 11 (by decide)).toSlF (Zn.int .u32))) ?_;rintro _ dp ⟨rfl,an⟩;refine ⟨_,rfl,?_⟩;replace an:Zg cg et cg dp:=.of_below an;refine go ?_;refine lV (.bool (!fb)) (Xm (congrArg Value.bool c5) rfl)<|Y2 rfl ?_;replace aq:=aq.gr an;replace ar:=ar.gr an;replace au:=au.gr an;replace av:=av.gr an;replace ay:=ay.gr an;replace ak:=ak.gr an;replace ai:=ai.gr an;replace aj:=aj.gr an;replace af:=af.gr an;replace ag:=ag.gr an;replace b8:=b8.gr an;replace b9:=b9.gr an;replace ah:=ah.gr an;replace aw:=aw.gr an;replace ao:=ao.gr an;replace ap:=ap.gr an;replace cv:=cv.gr an;replace ab:=ab.grow an;refine Xt hm (fun c6 hm=>go ?_) fun c6 hm=>go ?_
 ·refine lV (.bool true) (Xb (congrArg Value.bool c6) rfl)<|Zk ?_;exact ⟨rfl,_,_,hm,ab,ai,aj,ao,af,ag,ap,ah,aq,ar,au,av,aw,ay,ak,rfl⟩
 refine lV _ (Z7 isAgg47 sizeOf47 ap)<|go ?_;refine lV _ (Z7 isAgg47 sizeOf47 cv)<|go ?_;obtain ⟨fd,fe,hm⟩:=bZ hm;refine Zi (Zrs fe ((((af.toSlF (Zn.int .u32)).froz 9).froz 14).froz 15) ((((ag.froz 8 (by decide)).toSlF (Zn.int .u32)).froz 14).froz 15) ((((b8.froz 8 (by decide)).froz 9 (by decide)).toSlF (Zn.int .u32)).froz 15) ((((b9.froz 8 (by decide)).froz 9 (by decide)).froz 14 (by decide)).toSlF (Zn.int .u32))) ?_;rintro _ ff ⟨rfl,a4⟩;refine ⟨_,rfl,?_⟩;replace a4:Zg cg dp cg ff:=.of_below a4;refine go ?_;refine lV (.bool (!fd)) (Xm (congrArg Value.bool c6) rfl)<|Zk ?_;replace aq:=aq.gr a4;replace ar:=ar.gr a4;replace au:=au.gr a4;replace av:=av.gr a4;replace ay:=ay.gr a4;replace ak:=ak.gr a4;replace ai:=ai.gr a4;replace aj:=aj.gr a4;replace af:=af.gr a4;replace ag:=ag.gr a4;replace ah:=ah.gr a4;replace aw:=aw.gr a4;replace ao:=ao.gr a4;replace ap:=ap.gr a4;replace ab:=ab.grow a4;exact ⟨rfl,_,_,hm,ab,ai,aj,ao,af,ag,ap,ah,aq,ar,au,av,aw,ay,ak,rfl⟩
theorem Z2m {l:List R5} (h:l.length≤1099511627776):Zkm l=some l:=by
 rw [Zkm,Zz (by simp only [nN,maxLen];omega),List.nil_append]
/-! fixes with Zaq behind them -/
abbrev Tt:List R5:=[(-71,0),(-72,0),(-73,0),(-74,0)]
theorem Zte {l:List R5} (hl:l.length≤1048576):Zg2 l=some (Yx Tt l):=by
 rw [Zg2,Zz (by simp only [nN,maxLen];omega),Zz (by simp only [nA,nC,nN,maxLen];omega),Zz (by simp only [nA,nC,nN];omega),List.nil_append,Int.toNat_natCast]
 rfl
theorem Ztc {N:Nat} {l:List R5} (hl:l.length≤1048576):∀ (f i:Nat),i≤l.length→l.length<f+i→Zd6 N l.length (l++Tt) l f (i:Int)=some true
 | 0,i,h1,h2=>by omega
 | f+1,i,h1,h2=>by
  have tk:(l++Tt).take l.length=l:=List.take_left
  rw [Zd6.eq_2,tk]
  by_cases hi:i<l.length
  ·rw [if_pos (dT (by omega)),Zy hi,oB,oB,if_neg (by rw [decide_eq_true rfl,decide_eq_true rfl];decide),wS (by omega)]
   exact Ztc hl f (i+1) (by omega) (by omega)
  ·have a0:=Zb2 (ms:=Tt) (l:=l) (j:=0) (k:=l.length+4) (by simp) (by omega)
   have a3:=Zb2 (ms:=Tt) (l:=l) (j:=3) (k:=l.length+4) (by simp) (by omega)
   simp only [Nat.add_zero] at a0
   rw [if_neg (dF (by omega)),Zr (x:=(l.length:Int)+4) (by omega),Zz (by simp only [nA,nC,nN];omega),show Int.toNat ((l.length:Int)+4)=l.length+4 by omega,a0,oB,if_pos (by decide),Zr (x:=(l.length:Int)+3) (by omega),show (l.length:Int)+3=((l.length+3:Nat):Int) by omega,a3,oB]
   rfl
theorem Ztd {N:Nat} {l:List R5} (hl:l.length≤1048576) (hN:1048577<N):Zg1 N (Yx Tt l).1 (Yx Tt l).2 l=some true:=by
 have tk:(Yx Tt l).2.take (Yx Tt l).1=l:=Zk5 _ _
 rw [Zg1,tk,if_neg (by rw [decide_eq_true rfl];decide)]
 exact Ztc hl N 0 (Nat.zero_le _) (by omega)
/-! fractions that are the same -/
theorem Zyw {N:Nat} {l:List Int} (hl:l.length≤1099511627776):∀ (f i:Nat),i≤l.length→l.length<f+i→Zeu N l l f (i:Int)=some true
 | 0,i,h1,h2=>by omega
 | f+1,i,h1,h2=>by
  rw [Zeu.eq_2]
  by_cases hi:i<l.length
  ·rw [if_pos (dT (by omega)),Zy hi,oB,oB,if_neg (by rw [decide_eq_true rfl];decide),wS (by omega)]
   exact Zyw hl f (i+1) (by omega) (by omega)
  ·rw [if_neg (dF (by omega))]
theorem Zyx {N:Nat} {l:List Int} (hl:l.length≤1099511627776) (hN:1099511627777<N):Zht N l l=some true:=by
 rw [Zht,if_neg (by rw [decide_eq_true rfl];decide)]
 exact Zyw hl N 0 (Nat.zero_le _) (by omega)
theorem Zyy {N:Nat} {x:QV} (h:x.1.2.length≤1099511627776∧x.2.length≤1099511627776) (hN:1099511627777<N):Zh3 N ((x.1.1,x.1.2),x.2) ((x.1.1,x.1.2),x.2)=some true:=by
 rw [Zh3,Zmo,if_pos (dT rfl),Zyx h.1 hN,oB,Zj9,oB,if_pos rfl,Zyx h.2 hN,oB,Zkb]
/-! which networks are gone through -/
theorem Zux {N:Nat} {n:Xe} (hb:∀ t ∈ n.2.2.2.2,t.length≤1048576∧∀ x ∈ t,x.1.2.length≤1048576∧x.2.length≤1048576) (hl:n.2.2.2.2.length≤1048576) (hN:1048577<N):∀ (f i:Nat) (s:Int),0≤s→s≤1048576 * (i:Int)→i≤n.2.2.2.2.length→n.2.2.2.2.length<f+i→∃ r,Zd8 N n f s (i:Int)=some r
 | 0,i,s,_,_,h1,h2=>by omega
 | f+1,i,s,s1,s2,h1,h2=>by
  rw [Zd8.eq_2]
  by_cases hi:i<n.2.2.2.2.length
  ·have ht:=hb _ (List.getElem_mem hi)
   rw [if_pos (dT (by omega)),Zy hi,oB,Zr (x:=s+_) (by omega),wS (by omega)]
   exact Zux hb hl hN f (i+1) _ (by omega) (by omega) (by omega) (by omega)
  ·rw [if_neg (dF (by omega))]
   by_cases h3:3000<s
   ·rw [if_pos (dT h3)];exact ⟨_,rfl⟩
   ·rw [if_neg (dF h3)]
    obtain ⟨r,hr⟩:=Zuq (N:=N) hb hl hN N 0 0 (by omega) (by omega) (Nat.zero_le _) (by omega)
    have hr':Zmt N (n.1,n.2.1,n.2.2.1,n.2.2.2.1,n.2.2.2.2)=some r:=hr
    rw [hr',oB];exact ⟨_,rfl⟩
theorem Zuw {N:Nat} {n:Xe} (hvl:∀ l ∈ n.2.2.1,l.length≤1048576) (hvn:n.2.2.1.length≤1048576) (hb:∀ t ∈ n.2.2.2.2,t.length≤1048576∧∀ x ∈ t,x.1.2.length≤1048576∧x.2.length≤1048576) (hl:n.2.2.2.2.length≤1048576) (hN:1048577<N):∀ (f v c:Nat),v≤n.2.2.1.length→c≤600→n.2.2.1.length<f+v→∃ r,Zd7 N n f (c:Int) (v:Int)=some r∧(r=false→c * Z6 ((n.2.2.1.drop v).map fun l=>max l.length 1)≤600)
 | 0,v,c,h1,h2,h3=>by omega
 | f+1,v,c,h1,h2,h3=>by
  rw [Zd7.eq_2]
  by_cases hk:v<n.2.2.1.length
  ·have hlv:=hvl _ (List.getElem_mem hk)
   have e0:(if (n.2.2.1[v].length:Int)>1 then (n.2.2.1[v].length:Int) else 1)=((max n.2.2.1[v].length 1:Nat):Int):=by
    split <;> omega
   have hm:c * max n.2.2.1[v].length 1≤600 * 1048576:=Nat.mul_le_mul h2 (by omega)
   have e:(c:Int) * ((max n.2.2.1[v].length 1:Nat):Int)=((c * max n.2.2.1[v].length 1:Nat):Int):=(Int.natCast_mul _ _).symm
   rw [if_pos (dT (by omega)),Zy hk,oB,e0,e]
   generalize hz:c * max n.2.2.1[v].length 1=z at hm ⊢
   rw [Zr (by omega)]
   by_cases h4:600<(z:Int)
   ·rw [if_pos (dT h4)];exact ⟨_,rfl,fun h=>Bool.noConfusion h⟩
   ·rw [if_neg (dF h4),wS (by omega)]
    obtain ⟨r,r1,r2⟩:=Zuw hvl hvn hb hl hN f (v+1) z (by omega) (by omega) (by omega)
    exact ⟨r,r1,fun h=>by rw [List.drop_eq_getElem_cons hk,List.map_cons,Z6,← Nat.mul_assoc,hz];exact r2 h⟩
  ·rw [if_neg (dF (by omega))]
   obtain ⟨r,hr⟩:=Zux (N:=N) hb hl hN N 0 0 (by omega) (by omega) (Nat.zero_le _) (by omega)
   exact ⟨r,hr,fun _=>by rw [List.drop_eq_nil_of_le (by omega),List.map_nil,Z6,Nat.mul_one];exact h2⟩
def Zdm (x:QV×Int):Prop:=x.1.1.2.length≤1099511627776∧x.1.2.length≤1099511627776
theorem Zvm {q:Rat} {K:Nat} (h:qs q≤K) (hK:K≤1099511627776) (e:Int):Zdm (Zs q,e):=
 ⟨Nat.le_trans (Nat.le_max_left _ _) (Nat.le_trans h hK),Nat.le_trans (Nat.le_max_right _ _) (Nat.le_trans h hK)⟩
theorem Zzu {N W K:Nat} {n:Xe} {A G:List R5} (hs:W4 n W) (hb:Zle n) (hq:∀ t ∈ n.2.2.2.2,Xz (t.map Ws)≤W) (hAl:A.length≤1048576) (hGl:G.length≤1048576) (hr:Xh N (8 * K+40)) (hWK:1025 * (W+2)+15≤K) (hK:2 * K≤1099511627776) (hN:4611686018427387903<N):Zmd N n A G=some true:=by
 obtain ⟨r,mn,mf⟩:=Zuw (N:=N) hb.vl hb.vn (fun t ht=>⟨hb.tl t ht,hb.tm t ht⟩) hb.tn (by omega) N 0 1 (Nat.zero_le _) (by decide) (by have:=hb.vn;omega)
 have mn':Zmg N (n.1,n.2.1,n.2.2.1,n.2.2.2.1,n.2.2.2.2)=some r:=mn
 obtain ⟨e,m1,m2,fine⟩:=Z2j hs (hr.mono (s:=8 * W+40) (by omega)) (by omega)
 have m1':Tw N (n.1,n.2.1,n.2.2.1,n.2.2.2.1,n.2.2.2.2)=some e:=m1
 have m2':Zcy N (n.1,n.2.1,n.2.2.1,n.2.2.2.1,n.2.2.2.2)=some e:=m2
 have AGl:(A++G).length≤2097152:=by rw [nA];omega
 have cA:=Z2m (l:=A) (by omega)
 -- all answers
 have key:∀ c:Int,Vt N n [] []=some c→¬ (r=true∧c≠4)→∃ x y,Zd2 N n G=some x∧Zc7 N n G=some x∧Zd1 N n A G=some y∧Zc2 N n A G=some y∧Zdm x∧Zdm y:=by
  intro c hc hrc
  have z0:∀ k:Int,Zdm (((false,([]:List Int)),([]:List Int)),k):=fun k=>by simp [Zdm]
  by_cases h0:e=0
  ·have hf:=fine h0
   subst h0
   obtain ⟨w1,_,_⟩:=Zl6 hf hs (hr.mono (by omega)) (by omega) [] [] (by simp) (by simp) m2
   obtain ⟨g1,ga,g2,g3⟩:=Zl6 hf hs (hr.mono (by omega)) (by omega) G [] (by omega) (by simp) m2
   obtain ⟨b1,ba,b2,b3⟩:=Zl6 hf hs (hr.mono (by omega)) (by omega) (A++G) [] AGl (by simp) m2
   have g1':Vt N (n.1,n.2.1,n.2.2.1,n.2.2.2.1,n.2.2.2.2) G []=some (Ug n G []):=g1
   have g2':Tj N (n.1,n.2.1,n.2.2.1,n.2.2.2.1,n.2.2.2.2) G []=some (ga,Ug n G []):=g2
   have b1':Vt N (n.1,n.2.1,n.2.2.1,n.2.2.2.1,n.2.2.2.2) (A++G) []=some (Ug n (A++G) []):=b1
   have b2':Tj N (n.1,n.2.1,n.2.2.1,n.2.2.2.1,n.2.2.2.2) (A++G) []=some (ba,Ug n (A++G) []):=b2
   -- where sums are reckoned, there are few assignments
   have few:∀ F,Ug n F []=0→Z6 (Zq n)≤65536∧Z6 (Zq n)≤600∧Vt N n [] []=some 0:=fun F hF=>by
    have h1:¬ 65536<Z6 (Zq n):=fun h=>by
     rw [Ug] at hF
     split at hF
     ·split at hF
      ·split at hF
       ·exact absurd hF (by decide)
       ·exact absurd hF (by decide)
      ·cases hF
     ·cases hF
    have h2:Ug n [] []=0:=by rw [Ug];simp [h1]
    rw [h2] at w1
    refine ⟨by omega,?_,w1⟩
    rw [hc,Option.some.injEq] at w1
    have hrf:r=false:=by
     cases r with
     | false=>rfl
     | true=>exact absurd ⟨rfl,by omega⟩ hrc
    have h3:=mf hrf
    rw [List.drop_zero,Nat.one_mul] at h3
    have e1:(n.2.2.1.map fun l=>max l.length 1)=Zq n:=by
     rw [Zq]
     exact List.map_congr_left fun l hl=>by have:=List.length_pos_iff.2 (hf.ev.ne l hl);omega
    rwa [e1] at h3
   have hS:∃ x,Zd2 N n G=some x∧Zc7 N n G=some x∧Zdm x:=by
    rw [Zd2,Zc7,g1',g2',oB,oB]
    dsimp only
    by_cases hw:Ug n G []=0
    ·obtain ⟨p1,p2,p3⟩:=few G hw
     obtain ⟨q,s1,s2,s3⟩:=Zqn hf hs hr hWK hN p1 p2 hq p3 G (Zvo hw) (by omega)
     have s1':Zae N (n.1,n.2.1,n.2.2.1,n.2.2.2.1,n.2.2.2.2) G=some (Zs q):=s1
     have s2':Zan N (n.1,n.2.1,n.2.2.1,n.2.2.2.1,n.2.2.2.2) G=some (Zs q):=s2
     rw [hw,if_neg (show ¬ (!decide ((0:Int)=0))=true by decide),if_neg (show ¬ (!decide ((0:Int)=0))=true by decide),s1',s2',oB]
     exact ⟨(Zs q,0),rfl,rfl,Zvm s3 (by omega) 0⟩
    ·have hc1:(!decide (Ug n G []=0))=true:=by rw [decide_eq_false hw];rfl
     rw [if_pos hc1,if_pos hc1]
     exact ⟨_,rfl,rfl,z0 _⟩
   have hA:∃ y,Zd1 N n A G=some y∧Zc2 N n A G=some y∧Zdm y:=by
    rw [Zd1,Zc2,cA,oB,List.nil_append,Zz (by simp only [maxLen];omega),Zz (by simp only [nN,maxLen];omega),Zz (by simp only [maxLen];omega),b1',b2',oB,oB]
    dsimp only
    by_cases hw:Ug n (A++G) []=0
    ·obtain ⟨p1,p2,p3⟩:=few _ hw
     have okAG:=Zvo hw
     have okG:G.all (Vu n)=true:=by rw [List.all_append,Bool.and_eq_true] at okAG;exact okAG.2
     obtain ⟨q,s1,s2,s3⟩:=Zqn hf hs hr hWK hN p1 p2 hq p3 (A++G) okAG (by omega)
     obtain ⟨u,t1,t2,t3⟩:=Zqn hf hs hr hWK hN p1 p2 hq p3 G okG (by omega)
     have s1':Zae N (n.1,n.2.1,n.2.2.1,n.2.2.2.1,n.2.2.2.2) (A++G)=some (Zs q):=s1
     have s2':Zan N (n.1,n.2.1,n.2.2.1,n.2.2.2.1,n.2.2.2.2) (A++G)=some (Zs q):=s2
     have t1':Zae N (n.1,n.2.1,n.2.2.1,n.2.2.2.1,n.2.2.2.2) G=some (Zs u):=t1
     have t2':Zan N (n.1,n.2.1,n.2.2.1,n.2.2.2.1,n.2.2.2.2) G=some (Zs u):=t2
     have d1:Zgw N (((Zs q).1.1,(Zs q).1.2),(Zs q).2) (((Zs u).1.1,(Zs u).1.2),(Zs u).2)=some (if u=0 then (((false,[]),[]),11) else (Zs (q / u),0)):=by
      have:=Z3m (T4 s3) (T4 t3) (hr.mono (by omega))
      rwa [V4,V4] at this
     have d2:Zh2 N (((Zs q).1.1,(Zs q).1.2),(Zs q).2) (((Zs u).1.1,(Zs u).1.2),(Zs u).2)=some (if u=0 then (((false,[]),[]),11) else (Zs (q / u),0)):=by
      have:=Z6e (T4 s3) (T4 t3) (hr.mono (by omega))
      rwa [V4,V4] at this
     rw [hw,if_neg (show ¬ (!decide ((0:Int)=0))=true by decide),if_neg (show ¬ (!decide ((0:Int)=0))=true by decide),s1',oB,t1',oB,d1,oB,s2',oB,t2',oB,d2,oB]
     by_cases hu:u=0
     ·rw [if_pos hu,if_pos (show (!decide ((11:Int)=0))=true by decide)]
      exact ⟨_,rfl,rfl,z0 _⟩
     ·have hqd:=Z5i q u
      rw [if_neg hu]
      dsimp only
      rw [if_neg (show ¬ (!decide ((0:Int)=0))=true by decide)]
      exact ⟨(Zs (q / u),0),rfl,rfl,Zvm (Nat.le_trans hqd (show _≤2 * K by omega)) hK 0⟩
    ·have hc1:(!decide (Ug n (A++G) []=0))=true:=by rw [decide_eq_false hw];rfl
     rw [if_pos hc1,if_pos hc1]
     exact ⟨_,rfl,rfl,z0 _⟩
   obtain ⟨x,x1,x2,x3⟩:=hS
   obtain ⟨y,y1,y2,y3⟩:=hA
   exact ⟨x,y,x1,x2,y1,y2,x3,y3⟩
  ·have hc0:(!decide (e=0))=true:=by rw [decide_eq_false h0];rfl
   have jc:∀ F,Tj N (n.1,n.2.1,n.2.2.1,n.2.2.2.1,n.2.2.2.2) F []=some ([],e):=fun F=>by
    rw [Tj,m1',oB,if_pos hc0]
   have dc:∀ F,Vt N (n.1,n.2.1,n.2.2.1,n.2.2.2.1,n.2.2.2.2) F []=some e:=fun F=>by
    rw [Vt,m2',oB,if_pos hc0]
   refine ⟨(((false,[]),[]),e),(((false,[]),[]),e),?_,?_,?_,?_,z0 _,z0 _⟩
   ·rw [Zd2,jc,oB];dsimp only;rw [if_pos hc0]
   ·rw [Zc7,dc,oB,if_pos hc0]
   ·rw [Zd1,cA,oB,Zz (by simp only [maxLen];omega),jc,oB];dsimp only;rw [if_pos hc0]
   ·rw [Zc2,Zz (by simp only [nN,maxLen];omega),List.nil_append,Zz (by simp only [maxLen];omega),dc,oB,if_pos hc0]
 -- the document's test without a question
 have hc:∃ c,Vt N n [] []=some c:=by
  by_cases h0:e=0
  ·have hf:=fine h0
   subst h0
   exact ⟨_,(Zl6 hf hs (hr.mono (by omega)) (by omega) [] [] (by simp) (by simp) m2).1⟩
  ·exact ⟨e,by rw [Vt,m2',oB,if_pos (by rw [decide_eq_false h0];rfl)]⟩
 obtain ⟨c,hc⟩:=hc
 have hc':Vt N (n.1,n.2.1,n.2.2.1,n.2.2.2.1,n.2.2.2.2) [] []=some c:=hc
 have lg:Zjo N (n.1,n.2.1,n.2.2.1,n.2.2.2.1,n.2.2.2.2)=some (decide (c=4)):=by rw [Zjo,hc',oB]
 have idl:Zjn N (n.1,n.2.1,n.2.2.1,n.2.2.2.1,n.2.2.2.2)=some (r&&!decide (c=4)):=by
  rw [Zjn,mn',oB,lg,oB]
  cases r with
  | true=>rw [if_pos rfl];rfl
  | false=>rw [if_neg (by decide)];rfl
 rw [Zmd,idl,oB]
 by_cases hi:(r&&!decide (c=4))=true
 ·rw [if_pos hi]
 ·rw [if_neg hi]
  obtain ⟨x,y,x1,x2,y1,y2,x3,y3⟩:=key c hc fun h=>hi (by rw [h.1,decide_eq_false h.2];rfl)
  have l:Zik N (n.1,n.2.1,n.2.2.1,n.2.2.2.1,n.2.2.2.2)=some (Wc n):=Z4i hb (by omega)
  have k1:Zij N ((Wc n).1,((Wc n).2.1.1,(Wc n).2.1.2),(Wc n).2.2.1,(Wc n).2.2.2.1,(Wc n).2.2.2.2) (n.1,n.2.1,n.2.2.1,n.2.2.2.1,n.2.2.2.2)=some true:=Z38 hb (by omega)
  have vA:(Yx Tt A).2.take (Yx Tt A).1=A:=Zk5 _ _
  have vG:(Yx Tt G).2.take (Yx Tt G).1=G:=Zk5 _ _
  have x2':Zc7 N (n.1,n.2.1,n.2.2.1,n.2.2.2.1,n.2.2.2.2) G=some x:=x2
  have y2':Zc2 N (n.1,n.2.1,n.2.2.1,n.2.2.2.1,n.2.2.2.2) A G=some y:=y2
  have sx:=Zyy (N:=N) (x:=x.1) x3 (by omega)
  have sy:=Zyy (N:=N) (x:=y.1) y3 (by omega)
  have fA:=Ztd (N:=N) hAl (by omega)
  have fG:=Ztd (N:=N) hGl (by omega)
  have hfr:Zii N [((x.1.1.1,x.1.1.2),x.1.2),((y.1.1.1,y.1.1.2),y.1.2)]=some (true,Va 1000 [((x.1.1.1,x.1.1.2),x.1.2),((y.1.1.1,y.1.1.2),y.1.2)]):=Z3x (by omega) (by simp) (fun z hz=>by
   rcases List.mem_cons.1 hz with rfl | hz
   ·exact x3
   ·rw [List.mem_singleton] at hz;subst hz;exact y3)
  have d1:¬ (!decide (x.2=x.2))=true:=by rw [decide_eq_true rfl];decide
  have d2:¬ (!decide (y.2=y.2))=true:=by rw [decide_eq_true rfl];decide
  rw [l,oB,Zte hAl,oB,Zte hGl,oB,Z6z,vA,vG,x1,oB,y1,oB,x2',oB,y2',oB,if_neg d1,if_neg d2,sx,oB,if_neg (show ¬ (!true)=true by decide),sy,oB,
   Zd4,if_neg (show ¬ (!true)=true by decide),k1,oB,if_pos rfl,fA,oB,if_pos rfl,fG,oB,if_pos rfl,hfr,oB,Zd5]
theorem Qg {α:Type} {b:α→Nat} (hb:∀ x,1≤b x):∀ (l:List α),l.length+1≤Xs b l
 | []=>by simp [Xs]
 | x :: l=>by
  have h:=Qg hb l
  have:=hb x
  simp only [Xs,List.map_cons,List.sum_cons,nC] at h ⊢
  omega
theorem Zks {α:Type} {b:α→Nat} {x:α}:∀ {l:List α},x ∈ l→b x+1≤Xs b l
 | y :: l,h=>by
  simp only [Xs,List.map_cons,List.sum_cons]
  rcases List.mem_cons.1 h with rfl | h
  ·omega
  ·have:=Zks (b:=b) h
   simp only [Xs] at this
   omega
theorem Zod {α:Type} {b:α→Nat} (l:List α):1≤Xs b l:=by simp only [Xs];omega
theorem Zlk (s:ByteArray):1≤Vp s:=by simp only [Vp];omega
theorem Zob {α:Type} (s:α):1≤Yq s:=by simp only [Yq];omega
theorem Zlj {α:Type} {b:α→Nat} (s:α):1≤W5 b s:=by simp only [W5];omega
abbrev S8:QV→Nat:=W5 (Y6 (W5 (Y6 Yq (Xs Yq))) (Xs Yq))
abbrev qQ:QV→Prop:=U8 (U8 (fun _=>True) (Wz (Up .u32))) (Wz (Up .u32))
abbrev Zgc:Xe→Nat:=W5 (Y6 Vp (Y6 (Xs Vp) (Y6 (Xs (Xs Vp)) (Y6 (Xs (Xs Yq)) (Xs (Xs S8))))))
abbrev Zpv:Xe→Prop:=U8 (fun _=>True) (U8 (Wz (fun _=>True)) (U8 (Wz (Wz (fun _=>True))) (U8 (Wz (Wz (Up .i64))) (Wz (Wz qQ)))))
theorem Zup {l:List Int} (h:Wz (Up .u32) l):Zp l:=by
 intro d hd
 have h1:=h d hd
 simp [Up,Lit.wf,IntKind.min,IntKind.max,IntKind.signed,IntKind.bits] at h1
 omega
theorem Zuo {x:QV} (h:qQ x):Wy x:=⟨Zup h.1.2,Zup h.2⟩
theorem Zoc (x:QV):x.1.2.length+x.2.length+4≤S8 x:=by
 have h1:=Qg (b:=Yq) Zob x.1.2
 have h2:=Qg (b:=Yq) Zob x.2
 simp only [W5,Y6]
 have h3:Yq x.1.1=1:=rfl
 omega
theorem Zwk:∀ t:List QV,Xz t≤Xs S8 t
 | []=>by rw [Xz];omega
 | x :: t=>by
  have h1:=Zwk t
  have h2:=Zoc x
  rw [Xz]
  simp only [Xs,List.map_cons,List.sum_cons] at h1 ⊢
  omega
theorem Zzh:∀ P:List R2,Ta P+P.length≤Xs (Xs Yq) P
 | []=>by simp [Ta,Xs]
 | l :: P=>by
  have h1:=Zzh P
  have h2:=Qg (b:=Yq) Zob l
  rw [Zk6,nC]
  simp only [Xs,List.map_cons,List.sum_cons] at h1 h2 ⊢
  omega
theorem Z43 {n:Xe} (hb:Zgc n≤1048576) (hq:Zpv n):W4 n 1048576∧Zle n:=by
 have a1:=Zlk n.1
 have a2:=Qg (b:=Vp) Zlk n.2.1
 have a3:=Qg (b:=Xs Vp) Zod n.2.2.1
 have a4:=Zzh n.2.2.2.1
 have a5:=Qg (b:=Xs S8) Zod n.2.2.2.2
 have a6:=Zod (b:=Xs Yq) n.2.2.2.1
 simp only [Zgc,W5,Y6] at hb
 have b3:∀ l ∈ n.2.2.1,l.length≤1048576:=fun l hl=>by
  have h1:=Zks (b:=Xs Vp) hl
  have h2:=Qg (b:=Vp) Zlk l
  omega
 have b4:∀ l ∈ n.2.2.2.1,l.length≤1048576:=fun l hl=>by
  have h1:=Zny hl
  omega
 have b5:∀ t ∈ n.2.2.2.2,Xs S8 t≤1048576:=fun t ht=>by
  have h1:=Zks (b:=Xs S8) ht
  omega
 have b6:∀ t ∈ n.2.2.2.2,t.length≤1048576:=fun t ht=>by
  have h1:=b5 t ht
  have h2:=Qg (b:=S8) Zlj t
  omega
 refine ⟨⟨by omega,b3,⟨by omega,by omega⟩,b6,fun t ht=>Nat.le_trans (Zwk t) (b5 t ht),fun t ht x hx=>Zuo (hq.2.2.2.2 t ht x hx)⟩,⟨by omega,by omega,b3,by omega,b4,by omega,b6,fun t ht x hx=>?_⟩⟩
 have h1:=b5 t ht
 have h2:=Zks (b:=S8) hx
 have h3:=Zoc x
 omega
theorem Zsi:∀ t:List QV,(∀ x ∈ t,Wy x)→Xz (t.map Ws)≤Xs S8 t
 | [],_=>by rw [List.map_nil,Xz];omega
 | x :: t,h=>by
  have h1:=Zsi t fun y hy=>h y (List.mem_cons_of_mem _ hy)
  have h2:=Zoc x
  have hx:=h x List.mem_cons_self
  have h3:=Zwp (Zby hx.1 hx.2)
  have h4:max (Ws x).1.2.length (Ws x).2.length=qs (Z5 x):=rfl
  rw [List.map_cons,Xz,h4]
  simp only [Xs,List.map_cons,List.sum_cons] at h1 ⊢
  omega
theorem Z42 {n:Xe} (hb:Zgc n≤1048576) (hq:Zpv n):∀ t ∈ n.2.2.2.2,Xz (t.map Ws)≤1048576:=fun t ht=>by
 have h1:=Zsi t fun x hx=>Zuo (hq.2.2.2.2 t ht x hx)
 have h2:=Zks (b:=Xs S8) ht
 have a1:=Zlk n.1
 simp only [Zgc,W5,Y6] at hb
 omega

end Go.Proofs.YtbmjpjhbankpoaaGreat
