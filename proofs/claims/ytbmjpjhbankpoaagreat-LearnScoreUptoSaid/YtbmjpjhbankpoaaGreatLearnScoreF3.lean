/-
  What functions of the program compute, as plain Lean functions (m_..), and proofs that they compute it (c_..). Printed by a program of the author; no conditions.
-/
import Derived.Test.YtbmjpjhbankpoaaGreatLearnScoreBFloat
import Derived.Test.YtbmjpjhbankpoaaGreatProg
import Derived.Test.YtbmjpjhbankpoaaGreatLearnScoreBBrief
import Derived.Test.YtbmjpjhbankpoaaGreatLearnScoreBThree
import Derived.Test.YtbmjpjhbankpoaaGreatLearnScoreF2
set_option linter.unusedVariables false
set_option maxRecDepth 100000
set_option maxHeartbeats 2000000
namespace Go.Proofs.YtbmjpjhbankpoaaGreat
open Go Go.RowKit
open Go.IntKind (i8 i16 i32 i64 u8 u16 u32 u64)
open Go.Proofs.Tryz

def Zbf (kk_L2:(Option Int)):List Int→(List (Int×Int))→Option Int
  | [],aa=>kk_L2
  | ab :: ac,aa=>if (decide (0<((Y3 aa ab).getD 0)))=true then (some 40) else ((some (T3 aa ab 1)).bind fun ad=>(Zbf kk_L2 ac) ad)
termination_by structural x=>x
def Qe:List R1→Option Int
  | []=>some 0
  | aa :: ab=>Zbf (Qe ab) aa ([]:List (Int×Int))
termination_by structural x=>x
def Zfa (kk_L4:(Option Int)) (aa:Bool):Option Int:=
  if aa=true then (some 3) else kk_L4
def Qf (aa:R4) (kk_L1:(Option Int)):List Int→Option Int
  | []=>kk_L1
  | ab :: ac=>if (decide (ab<0))=true then (Zfa (Qf aa kk_L1 ac) true) else (Zfa (Qf aa kk_L1 ac) (decide ((aa.length:Int)≤ab)))
termination_by structural x=>x
def Qd (aa:R4):List R1→Option Int
  | []=>Qe aa
  | ab :: ac=>Qf aa (Qd aa ac) ab
termination_by structural x=>x
def Ze9 (aa:R4):Option Int:=
  Qd aa aa
theorem Zw9 {a6:Nat} {a0:Option Addr} {col:Ze} {w0:World} {ab:R4} {r:Int} (hm:Ze9 ab=some r) (h0:Sl (Za.slice (Za.int .i64)) col w0 a0 a6 ab):
    Calls prog 201 #[.slice a0 ab.length a6] w0 (fun e w'=>e= .returned ((.int .i64 r))∧Below w0.heap.size w0 w'):=by
 refine Z1 2 (m:=57) func201 rfl rfl rfl rfl rfl ?_;rw [Ze9.eq_1] at hm;have aa:=St.start col w0;refine go ?_;refine Zu [0,12,13,1000000] (fun n f a7=>∃ a8 ag ah,n=ah.length∧ab.drop ag=ah∧Qd ab ah=some r∧St w0 (Zg col) a8 a7∧[14].map f=[.int .i64 ag]) ab.length ⟨_,0,_,rfl,rfl,hm,aa,rfl⟩ ?_;clear hm;intro n f a7 hI;obtain ⟨a8,ag,ah,hn,hl,hm,aa,hs⟩:=hI;subst hn;refine .lL [14] hs ?_;replace h0:=h0.keep (Zh.start col w0)
 cases ah with
 | nil=>
  have hk:¬ ((ag:Int)<(ab.length:Int)):=by have:=List.drop_eq_nil_iff.1 hl;omega
  have hkb:=decide_eq_false hk;rw [Qd.eq_1] at hm;refine go ?_;refine Yd (congrArg Value.bool hkb)<|go ?_;refine Zu [34,35,1000000] (fun n f a9=>∃ au ai aj,n=aj.length∧ab.drop ai=aj∧Qe aj=some r∧St w0 (Zg col) au a9∧[36].map f=[.int .i64 ai]) ab.length ⟨_,0,_,rfl,rfl,hm,aa,rfl⟩ ?_;clear hm;intro n f a9 hI;obtain ⟨au,ai,aj,hn,hl,hm,aa,hs⟩:=hI;subst hn;refine .lL [36] hs ?_
  cases aj with
  | nil=>
   have hk:¬ ((ai:Int)<(ab.length:Int)):=by have:=List.drop_eq_nil_iff.1 hl;omega
   have hkb:=decide_eq_false hk;rw [Qe.eq_1] at hm;refine go ?_;refine Yd (congrArg Value.bool hkb)<|go ?_;cases hm;exact ⟨rfl,rfl,aa.below⟩
  | cons ak ba=>
   obtain ⟨ac,bi,bj⟩:=Yn hl;have hk:(ai:Int)<(ab.length:Int):=by omega
   have hkb:=decide_eq_true hk;rw [Qe.eq_2] at hm;refine go ?_;refine Ye (congrArg Value.bool hkb)<|go ?_;refine lI ac ((h0.ks aa).addr ac) ?_;obtain ⟨_,bk,bm⟩:=(h0.ks aa).atN ac;obtain ⟨⟨bn,bo,rfl,ad⟩,_⟩:=bk;refine lW bm.one<|go ?_;refine Z0p (col:=au) (fk:=(Value.int .i64)) (fv:=(Value.int .i64)) 1 rfl underlying243 rfl ?_;intro b3 b4 b5 bb bp;refine go ?_;replace ad:=ad.gr bb;replace aa:=aa.grow bb;refine Zu [34,35,36,43,44,1000000] (fun n f aq=>∃ ar al av am an,n=an.length∧ak.drop al=an∧Zbf (Qe ba) an am=some r∧St w0 (Zg col) ar aq∧Sl (Za.int .i64) ar aq bn bo ak∧Ww (Value.int .i64) (Value.int .i64) 1 ar aq av am∧[45,9].map f=[.int .i64 al,.map (some av)]) ak.length ⟨_,0,_,_,_,rfl,rfl,hm,aa,ad,bp,rfl⟩ ?_;clear hm;intro n f aq hI;obtain ⟨ar,al,av,am,an,hn,hl,hm,aa,ad,bc,hs⟩:=hI;subst hn;refine .lL [45,9] hs ?_
   cases an with
   | nil=>
    have hk:¬ ((al:Int)<(ak.length:Int)):=by have:=List.drop_eq_nil_iff.1 hl;omega
    have hkb:=decide_eq_false hk;rw [Zbf.eq_1] at hm;refine go ?_;refine Yd (congrArg Value.bool hkb)<|go ?_;exact ⟨ba.length,by simp,rfl,⟨_,_,_,rfl,bi,hm,aa,(Yq (congrArg (Value.int .i64) (Yj (Nat.lt_of_lt_of_le bj (h0.ks aa).1.1))) rfl)⟩⟩
   | cons aw bq=>
    obtain ⟨ac,br,bs⟩:=Yn hl;have hk:(al:Int)<(ak.length:Int):=by omega
    have hkb:=decide_eq_true hk;rw [Zbf.eq_2] at hm;refine go ?_;refine Ye (congrArg Value.bool hkb)<|go ?_;refine lI ac (ad.addr ac)<|lW (ad.atInt ac) ?_;refine go ?_;refine lV (.int .i64 ((Y3 am aw).getD 0)) (Zt5 Th.int bc underlying243 underlying3 zeroValue3 rfl rfl)<|go ?_;refine Zm hm (fun hb hm=>go ?_) fun hb hm=>go ?_
    ·cases hm;exact ⟨rfl,rfl,aa.below⟩
    obtain ⟨bt,ax,hm⟩:=bZ hm;have ax:bt=T3 am aw 1:=(Option.some.inj ax).symm;refine Zrs (k:=aw) (v:=1) Th.int bc underlying243 underlying3 rfl rfl rfl ?_;intro b6 bd bu be;rw [← ax] at be;refine go ?_;replace ad:=ad.kp bd;replace aa:=aa.kp bd bu;exact ⟨bq.length,by simp,rfl,⟨_,_,_,_,_,rfl,br,hm,aa,ad,be,(Yq (congrArg (Value.int .i64) (Yj (Nat.lt_of_lt_of_le bs ad.1.1))) rfl)⟩⟩
 | cons af ay=>
  obtain ⟨ac,bv,bw⟩:=Yn hl;have hk:(ag:Int)<(ab.length:Int):=by omega
  have hkb:=decide_eq_true hk;rw [Qd.eq_2] at hm;refine go ?_;refine Ye (congrArg Value.bool hkb)<|go ?_;refine lI ac ((h0.ks aa).addr ac) ?_;obtain ⟨_,bx,bz⟩:=(h0.ks aa).atN ac;obtain ⟨⟨bf,bg,rfl,ae⟩,_⟩:=bx;refine lW bz.one<|go ?_;refine Zu [0,12,13,14,18,19,1000000] (fun n f az=>∃ a1 ao ap,n=ap.length∧af.drop ao=ap∧Qf ab (Qd ab ay) ap=some r∧St w0 (Zg col) a1 az∧Sl (Za.int .i64) a1 az bf bg af∧[20].map f=[.int .i64 ao]) af.length ⟨_,0,_,rfl,rfl,hm,aa,ae,rfl⟩ ?_;clear hm;intro n f az hI;obtain ⟨a1,ao,ap,hn,hl,hm,aa,ae,hs⟩:=hI;subst hn;refine .lL [20] hs ?_
  cases ap with
  | nil=>
   have hk:¬ ((ao:Int)<(af.length:Int)):=by have:=List.drop_eq_nil_iff.1 hl;omega
   have hkb:=decide_eq_false hk;rw [Qf.eq_1] at hm;refine go ?_;refine Yd (congrArg Value.bool hkb)<|go ?_;exact ⟨ay.length,by simp,rfl,⟨_,_,_,rfl,bv,hm,aa,(Yq (congrArg (Value.int .i64) (Yj (Nat.lt_of_lt_of_le bw (h0.ks aa).1.1))) rfl)⟩⟩
  | cons b0 bh=>
   obtain ⟨ac,b1,b2⟩:=Yn hl;have hk:(ao:Int)<(af.length:Int):=by omega
   have hkb:=decide_eq_true hk;rw [Qf.eq_2] at hm;refine go ?_;refine Ye (congrArg Value.bool hkb)<|go ?_;refine lI ac (ae.addr ac)<|lW (ae.atInt ac)<|Yh rfl<|Zo<|Zt ?_;refine Wp.cutK [0,12,13,14,18,19,20,1000000] (fun f a2=>∃ a3 a4,Zfa (Qf ab (Qd ab ay) bh) a4=some r∧St w0 (Zg col) a3 a2∧Sl (Za.int .i64) a3 a2 bf bg af∧[31].map f=[.bool a4]) ?_ ?_
   ·intro f a2 hJ;obtain ⟨a3,a4,hm,aa,ae,hs⟩:=hJ;rw [Zfa.eq_1] at hm;refine .lL [31] hs ?_;refine Zm hm (fun hb hm=>go ?_) fun hb hm=>go ?_
    ·cases hm;exact ⟨rfl,rfl,aa.below⟩
    exact ⟨bh.length,by simp,rfl,⟨_,_,_,rfl,b1,hm,aa,ae,(Yq (congrArg (Value.int .i64) (Yj (Nat.lt_of_lt_of_le b2 ae.1.1))) rfl)⟩⟩
   refine go ?_;refine Xu hm (fun a5 hm=>go ?_) fun a5 hm=>go ?_
   ·refine lV (.bool true) (Xg (congrArg Value.bool a5) rfl)<|Zo ?_;exact ⟨rfl,_,_,hm,aa,ae,rfl⟩
   refine lV (.bool (decide ((ab.length:Int)≤b0))) (Xt (congrArg Value.bool a5) rfl)<|Zo ?_;exact ⟨rfl,_,_,hm,aa,ae,rfl⟩
theorem Zzu:Wi prog 3 1 8:=⟨Tryz.t3,_,rfl,rfl,rfl,rfl,rfl⟩
def Zbe (aa:Nat) (kk_L1:(Nat→R4→Option R4)):List Int→R4→Option R4
  | [],ab=>kk_L1 (aa+1) ab
  | ad :: ae,ab=>(Zl ab ad).bind fun ac=>Z0 ((ac.length+[(aa:Int)].length) * 8≤140737488355328∧ac.length+[(aa:Int)].length≤maxLen) ((Zbe aa kk_L1 ae) (ab.set (Int.toNat ad) (ac++[(aa:Int)])))
termination_by structural x=>x
def Qc:List R1→Nat→R4→Option R4
  | [],ab,aa=>some aa
  | ac :: ad,ab,aa=>Zbe ab (Qc ad) ac aa
termination_by structural x=>x
def Ze8 (aa:R4):Option R4:=
  Z0 (aa.length * 24≤281474976710656∧aa.length≤maxLen) (Qc aa 0 (List.replicate aa.length (([]:List Int):List Int)))
theorem Zw8 {a7:Nat} {a0:Option Addr} {col:Ze} {w0:World} {ae r:R4} (c1:Nat) (hm:Ze8 ae=some r) (h0:Sl (Za.slice (Za.int .i64)) col w0 a0 a7 ae):
    Calls prog 203 #[.slice a0 ae.length a7] w0 (fun e w'=>∃ (col':Ze) (ra1:Option Addr) (rc2:Nat),e= .returned ((.slice ra1 r.length rc2))∧Zf col w0 col' w'∧Zc (Za.row 3 (Za.int .i64)) 40 c1 col' w' ra1 rc2 r):=by
 refine Z1 2 (m:=37) func203 rfl rfl rfl rfl rfl ?_;rw [Ze8.eq_1] at hm;have aa:=St.start col w0;refine go ?_;obtain ⟨a8,hm⟩:=Z3 hm;refine Si (col:=(Zg col)) (w:=w0) (r:=(Za.row 3 (Za.int .i64))) (n:=ae.length) (x0:=([]:List Int)) 1 rfl underlying24 Tryz.t40 rfl rfl rfl rfl rfl rfl rfl a8.1 a8.2 Z2k ?_;intro b4 b5 b6 bg bh;refine go ?_;replace aa:=aa.grow bg;refine Zu [11,12,1000000] (fun n f aw=>∃ ax ab ay az ap aj,n=aj.length∧ae.drop ab=aj∧Qc aj ab ap=some r∧St w0 (Zg col) ax aw∧Zc (Za.row 3 (Za.int .i64)) 40 1 ax aw ay az ap∧[13,3].map f=[.int .i64 ab,.slice ay ap.length az]) ae.length ⟨_,0,_,_,_,_,rfl,rfl,hm,aa,bh,rfl⟩ ?_;clear hm;intro n f aw hI;obtain ⟨ax,ab,ay,az,ap,aj,hn,hl,hm,aa,a9,hs⟩:=hI;subst hn;refine .lL [13,3] hs ?_;replace h0:=h0.keep (Zh.start col w0)
 cases aj with
 | nil=>
  have hk:¬ ((ab:Int)<(ae.length:Int)):=by have:=List.drop_eq_nil_iff.1 hl;omega
  have hkb:=decide_eq_false hk;rw [Qc.eq_1] at hm;refine go ?_;refine Yd (congrArg Value.bool hkb)<|go ?_;cases hm;exact ⟨rfl,_,_,_,rfl,aa.fin (cm [(1,c1)]),aa.fo a9⟩
 | cons ak ba=>
  obtain ⟨af,bi,bj⟩:=Yn hl;have hk:(ab:Int)<(ae.length:Int):=by omega
  have hkb:=decide_eq_true hk;rw [Qc.eq_2] at hm;refine go ?_;refine Ye (congrArg Value.bool hkb)<|go ?_;refine lI af ((h0.ks aa).addr af) ?_;obtain ⟨_,bk,bm⟩:=(h0.ks aa).atN af;obtain ⟨⟨bn,bo,rfl,ac⟩,_⟩:=bk;refine lW bm.one<|go ?_;refine Zu [11,12,13,18,19,4,1000000] (fun n f al=>∃ aq am ag ah ad an,n=an.length∧ak.drop am=an∧Zbe ab (Qc ba) an ad=some r∧St w0 (Zg col) aq al∧Sl (Za.int .i64) aq al bn bo ak∧Zc (Za.row 3 (Za.int .i64)) 40 1 aq al ag ah ad∧[20,3].map f=[.int .i64 am,.slice ag ad.length ah]) ak.length ⟨_,0,_,_,_,_,rfl,rfl,hm,aa,ac,a9,rfl⟩ ?_;clear hm;intro n f al hI;obtain ⟨aq,am,ag,ah,ad,an,hn,hl,hm,aa,ac,a1,hs⟩:=hI;subst hn;refine .lL [20,3] hs ?_
  cases an with
  | nil=>
   have hk:¬ ((am:Int)<(ak.length:Int)):=by have:=List.drop_eq_nil_iff.1 hl;omega
   have hkb:=decide_eq_false hk;rw [Zbe.eq_1] at hm;refine go ?_;refine Yd (congrArg Value.bool hkb)<|go ?_;exact ⟨ba.length,by simp,rfl,⟨_,_,_,_,_,_,rfl,bi,hm,aa,a1,(Yq (congrArg (Value.int .i64) (Yj (Nat.lt_of_lt_of_le bj (h0.ks aa).1.1))) rfl)⟩⟩
  | cons ar bp=>
   obtain ⟨af,bq,br⟩:=Yn hl;have hk:(am:Int)<(ak.length:Int):=by omega
   have hkb:=decide_eq_true hk;rw [Zbe.eq_2] at hm;refine go ?_;refine Ye (congrArg Value.bool hkb)<|go ?_;refine lI af (ac.addr af)<|lW (ac.atInt af) ?_;refine go ?_;obtain ⟨ao,au,hm⟩:=bZ hm;refine lI au (a1.addr au) ?_;obtain ⟨_,bb,bc,ai,bs⟩:=a1.open_ 2 (by decide) au;obtain ⟨bt,bu,rfl,a2⟩:=bs.row;replace ai:Yk (Za.row 3 (Za.int .i64)) 40 1 bb al ag ah ad (Int.toNat ar) [.slice bt ao.length bu]:=ai;refine lW ai.atN.one<|Xn rfl<|W5 (col:=bb) [(ab:Int)] 3 ?_;intro b7 bv bw av bx;obtain ⟨bd,hm⟩:=Z3 hm;replace a2:=a2.gr av;refine Zhz (col:=bw) (w:=bv) (r:=(Za.int .i64)) (c:=2) (c2:=2) (a2.ex) (bx.srcN (NB.int (k:=.i64))) rfl underlying40 Zzu rfl rfl rfl bd.1 bd.2 (by decide) ?_;intro be bf b8 bz a3 a4;replace ai:=(ai.gr av).kpp a3;refine lI au (ai.addr)<|Z0r (v:=(.slice be ((ao++[(ab:Int)]).length) bf)) ai rfl sizeOf40 rfl (by intro u hu;simp only [Value.cells,List.mem_cons,List.not_mem_nil,or_false] at hu;subst hu;rfl) rfl rfl (by decide) ?_;intro b0 a5 b1 a6;replace a6:Yk (Za.row 3 (Za.int .i64)) 40 1 bz b0 ag ah ad (Int.toNat ar) [.slice be ((ao++[(ab:Int)]).length) bf]:=a6;replace a4:=a4.kp a5;have b2:=a4.new;have b3:=a6.close b2.has (by decide) (by decide);replace ac:=(((ac.kpp bc).gr av).kpp a3).kp a5;replace ac:=ac.recol 2 1 (by decide);replace aa:=(((aa.kpp bc).grow av).kpp a3).kp a5 b1;replace aa:=aa.recol 2 1 (by decide) (by decide);refine .ld (d:=3) (v:=(.slice ag ((ad.set (Int.toNat ar) (ao++[(ab:Int)])).length) ah)) (congrArg (fun n=>Value.slice ag n ah) (show ad.length=(ad.set (Int.toNat ar) (ao++[(ab:Int)])).length by simp only [nS])) ?_;refine go ?_;exact ⟨bp.length,by simp,rfl,⟨_,_,_,_,_,_,rfl,bq,hm,aa,ac,b3,(Yq (congrArg (Value.int .i64) (Yj (Nat.lt_of_lt_of_le br ac.1.1))) rfl)⟩⟩
def Zbg (aa:Int) (kk_L2:(Int→Int→Option R6)) (ab:Int):Option R6:=
  kk_L2 (i64.wrap (aa+1)) ab
def Zfb (aa:Int) (ab:Int) (kk_L2:(Int→Int→Option R6)) (ac:Int) (ad:Bool):Option R6:=
  if ad=true then (Zbg aa kk_L2 ac) else (Zbg aa kk_L2 ab)
def Tp (N:Nat) (ad:List Int) (ag:Int) (aa:List Int) (ac:Int) (kk_L1:(List Int→Int→Option R6)):Nat→Int→Int→Option R6
  | 0,_,_=>none
  | ah+1,ae,ab=>if (decide (ae<2))=true then ((Zl [i64.wrap ((i64.wrap (2 * ac))+1),i64.wrap ((i64.wrap (2 * ac))+2)] ae).bind fun af=>if (decide (af<(i64.wrap ((ad.length:Int) - 1))))=true then ((Zl aa af).bind fun aj=>(Zl aa ab).bind fun ak=>Zfb ae ab (Tp N ad ag aa ac kk_L1 ah) af (decide (aj<ak))) else (Zfb ae ab (Tp N ad ag aa ac kk_L1 ah) af false)) else (if (decide (ab=ac))=true then (some (ag,aa.take (Int.toNat (i64.wrap ((ad.length:Int) - 1))))) else ((Zl aa ab).bind fun al=>(Zl aa ac).bind fun am=>(some (aa.set (Int.toNat ac) al)).bind fun ai=>(Zl ai ab).bind fun ao=>(some (ai.set (Int.toNat ab) am)).bind fun an=>kk_L1 an ab))
termination_by structural x=>x
def To (N:Nat) (aa:List Int) (ab:Int):Nat→R1→Int→Option R6
  | 0,_,_=>none
  | ad+1,ae,ac=>Tp N aa ab ae ac (To N aa ab ad) N 0 ac
termination_by structural x=>x
def Zh1 (N:Nat) (aa:List Int):Option R6:=
  (Zl aa 0).bind fun ac=>(Zl aa (i64.wrap ((aa.length:Int) - 1))).bind fun ad=>(some (aa.set (Int.toNat 0) ad)).bind fun ab=>Z0 ((0:Int)≤(i64.wrap ((aa.length:Int) - 1))∧(i64.wrap ((aa.length:Int) - 1))≤(ab.length:Int)) (To N aa ac N ab 0)
theorem Zxa {N g0 al:Nat} {am:Option Addr} {col:Ze} {w0:World} {aa:R1} {r:R6} (qc0 ai:Nat) (hm:Zh1 N aa=some r) (hd:Se [qc0,ai]=true) (ap:Zc (Za.int .i64) 3 ai col w0 am al aa) (hb0:Zk 244 qc0 col w0 g0 #[.slice am aa.length al]):
    Calls prog 267 #[.pointer (some ⟨g0,0,none⟩)] w0 (fun e w'=>∃ (col':Ze) (oa1:Option Addr) (oc2:Nat),e= .returned ((.int .i64 r.1))∧Zx (pS [qc0,ai]) col w0 col' w'∧Zc (Za.int .i64) 3 ai col' w' oa1 oc2 r.2∧Zk 244 qc0 col' w' g0 #[.slice oa1 r.2.length oc2]):=by
 refine Z1 2 (m:=76) func267 rfl rfl rfl rfl rfl ?_;rw [Zh1.eq_1] at hm;have ac:=St.startL (l:=[qc0,ai]) rfl col w0;replace hb0:=hb0.startL (Q7 hd 0 rfl) (Q6 hd 0 rfl);replace ap:=ap.startL (Q7 hd 1 rfl) (Q6 hd 1 rfl);refine go ?_;refine lV (.pointer (some ⟨g0,0,none⟩)) (S1 rfl)<|lW hb0.at1<|go ?_;obtain ⟨au,av,hm⟩:=bZ hm;refine lI av (ap.addr av)<|lW (ap.atInt av) ?_;refine go ?_;obtain ⟨bm,be,hm⟩:=bZ hm;refine lI be (ap.addr be)<|lW (ap.atInt be)<|lI av (ap.addr av) ?_;obtain ⟨an,ay,hm⟩:=bZ hm;have ay:an=aa.set (Int.toNat 0) bm:=(Option.some.inj ay).symm;refine Yu (x1:=bm) ap av ?_;intro bu bn bv az;rw [← ay] at az;refine .ld (d:=3) (v:=(.slice am an.length al)) (congrArg (fun n=>Value.slice am n al) (show aa.length=an.length by rw [ay,nS])) ?_;replace hb0:=hb0.kp bn;replace hb0:Zk 244 440 (Xh [qc0,ai] col) bu g0 #[.slice am an.length al]:=by rw [← (show aa.length=an.length by rw [ay,nS])];exact hb0
 refine go ?_;obtain ⟨bf,hm⟩:=Z3 hm;refine lv (v:=.slice am (Int.toNat (i64.wrap ((aa.length:Int) - 1))) al) rfl rfl (Q0 underlying244 sizeOf3 rfl rfl bf.1 (by have:=az.lecap;have:=bf.2;omega))<|.ld (d:=28) (v:=(.slice am ((an.take (Int.toNat (i64.wrap ((aa.length:Int) - 1)))).length) al)) (congrArg (fun n=>Value.slice am n al) (List.length_take_of_le (show (Int.toNat (i64.wrap ((aa.length:Int) - 1)))≤an.length by have:=bf.2;omega)).symm) ?_;refine lV (.pointer (some ⟨g0,0,none⟩)) (S1 rfl)<|Ze4 (v:=(.slice am ((an.take (Int.toNat (i64.wrap ((aa.length:Int) - 1)))).length) al)) hb0 sizeOf244 rfl rfl (by intro u hu;simp only [Value.cells,List.mem_cons,List.not_mem_nil,or_false] at hu;subst hu;rfl) rfl rfl ?_;intro bw bo bx ab;replace ab:Zk 244 440 (Xh [qc0,ai] col) bw g0 #[(.slice am ((an.take (Int.toNat (i64.wrap ((aa.length:Int) - 1)))).length) al)]:=ab;refine go ?_;replace ac:=(ac.kp bn bv).kp bo bx;replace az:=az.kp bo;refine Zu [4,5,1000000] (fun n f a4=>∃ a5 af ag ah ak ao,ao=n∧To N aa au ao ah ak=some r∧St w0 (Xh [qc0,ai] col) a5 a4∧Zc (Za.int .i64) 3 441 a5 a4 af ag ah∧Zk 244 440 a5 a4 g0 #[(.slice af ((ah.take (Int.toNat (i64.wrap ((aa.length:Int) - 1)))).length) ag)]∧[3,6].map f=[.slice af ah.length ag,.int .i64 ak]) N ⟨_,_,_,_,0,_,rfl,hm,ac,az,ab,rfl⟩ ?_;clear hm;intro n f a4 hI;obtain ⟨a5,af,ag,ah,ak,ao,hn,hm,ac,ad,ab,hs⟩:=hI;subst hn;refine .lL [3,6] hs ?_
 cases ao with
 | zero=>rw [To.eq_1] at hm;cases hm
 | succ ao=>
  rw [To.eq_2] at hm;refine go ?_;refine lV (.agg #[(.int .i64 (i64.wrap ((i64.wrap (2 * ak))+1))),(.int .i64 (i64.wrap ((i64.wrap (2 * ak))+2)))]) (Z14 underlying261 sizeOf3 zeroValue261 rfl)<|go ?_;refine Zu [3,37,4,5,6,1000000] (fun n f a6=>∃ ae a0 a1 aq,aq=n∧Tp N aa au ah ak (To N aa au ao) aq a0 a1=some r∧St w0 (Xh [qc0,ai] col) ae a6∧Zc (Za.int .i64) 3 441 ae a6 af ag ah∧Zk 244 440 ae a6 g0 #[(.slice af ((ah.take (Int.toNat (i64.wrap ((aa.length:Int) - 1)))).length) ag)]∧[38,7].map f=[.int .i64 a0,.int .i64 a1]) N ⟨_,0,_,_,rfl,hm,ac,ad,ab,rfl⟩ ?_;clear hm;intro n f a6 hI;obtain ⟨ae,a0,a1,aq,hn,hm,ac,ad,ab,hs⟩:=hI;subst hn;refine .lL [38,7] hs ?_
  cases aq with
  | zero=>rw [Tp.eq_1] at hm;cases hm
  | succ aq=>
   rw [Tp.eq_2] at hm;refine go ?_;refine Zm hm (fun hb hm=>?_) fun hb hm=>go ?_
   ·refine Xr<|Zt ?_;refine Wp.cutK [3,37,38,4,5,6,1000000] (fun f a7=>∃ a8 bg,Zbg a0 (Tp N aa au ah ak (To N aa au ao) aq) bg=some r∧St w0 (Xh [qc0,ai] col) a8 a7∧Zc (Za.int .i64) 3 441 a8 a7 af ag ah∧Zk 244 440 a8 a7 g0 #[(.slice af ((ah.take (Int.toNat (i64.wrap ((aa.length:Int) - 1)))).length) ag)]∧[7].map f=[.int .i64 bg]) ?_ ?_
    ·intro f a7 hJ;obtain ⟨a8,bg,hm,ac,ad,ab,hs⟩:=hJ;rw [Zbg.eq_1] at hm;refine .lL [7] hs<|go ?_;exact ⟨aq,by omega,rfl,⟨_,_,_,_,rfl,hm,ac,ad,ab,rfl⟩⟩
    refine go ?_;obtain ⟨bp,bz,hm⟩:=bZ hm;refine lV (.int .i64 bp) (Z18 (l:=[i64.wrap ((i64.wrap (2 * ak))+1),i64.wrap ((i64.wrap (2 * ak))+2)]) (k:=.i64) underlying261 sizeOf3 isAgg3 rfl rfl rfl bz)<|Yh rfl<|Zo<|Zt ?_;refine Wp.cutK [3,37,38,4,5,6,7,9,1000000] (fun f a9=>∃ ba bh,Zfb a0 a1 (Tp N aa au ah ak (To N aa au ao) aq) bp bh=some r∧St w0 (Xh [qc0,ai] col) ba a9∧Zc (Za.int .i64) 3 441 ba a9 af ag ah∧Zk 244 440 ba a9 g0 #[(.slice af ((ah.take (Int.toNat (i64.wrap ((aa.length:Int) - 1)))).length) ag)]∧[54].map f=[.bool bh]) ?_ ?_
    ·intro f a9 hJ;obtain ⟨ba,bh,hm,ac,ad,ab,hs⟩:=hJ;rw [Zfb.eq_1] at hm;refine .lL [54] hs ?_;refine Zm hm (fun hb hm=>go ?_) fun hb hm=>?_
     ·exact ⟨rfl,_,_,hm,ac,ad,ab,rfl⟩
     refine Xr ?_;exact ⟨rfl,_,_,hm,ac,ad,ab,rfl⟩
    refine Ys (col:=ae) (by kernel_rfl) (by kernel_rfl)<|go ?_;refine Xu hm (fun bi hm=>go ?_) fun bi hm=>go ?_
    ·obtain ⟨b0,bj,hm⟩:=bZ hm;refine qI bj (ad.addr bj) ?_;refine go ?_;refine qW (fun _ hC=>(ad.gr (hC.bl ae)).atInt bj) ?_;refine go ?_;obtain ⟨b1,bk,hm⟩:=bZ hm;refine qI bk (ad.addr bk) ?_;refine go ?_;refine qW (fun _ hC=>(ad.gr (hC.bl ae)).atInt bk) ?_;refine go ?_;refine qv (v:=(.bool (decide (b0<b1)))) rfl (fun _ hC=>Xg (congrArg Value.bool bi) rfl) ?_;refine X9 ?_;intro b6 hC;replace hC:=hC.bl ae;replace ad:=ad.gr hC;replace ab:=ab.gr hC;replace ac:=ac.grow hC;exact ⟨rfl,_,_,hm,ac,ad,ab,rfl⟩
    refine qv (v:=(.bool false)) rfl (fun _ hC=>Xt (congrArg Value.bool bi) rfl) ?_;refine X9 ?_;intro b7 hC;replace hC:=hC.bl ae;replace ad:=ad.gr hC;replace ab:=ab.gr hC;replace ac:=ac.grow hC;exact ⟨rfl,_,_,hm,ac,ad,ab,rfl⟩
   refine Zm hm (fun hb hm=>go ?_) fun hb hm=>go ?_
   ·cases hm;exact ⟨rfl,Sc w0.heap.size [qc0,ai] col ae (fun n=>bif Nat.beq n 441 then ai else bif Nat.beq n 440 then qc0 else 0),af,ag,rfl,ac.finL rfl (fun n=>bif Nat.beq n 441 then ai else bif Nat.beq n 440 then qc0 else 0),ac.finOwnL (g:=(fun n=>bif Nat.beq n 441 then ai else bif Nat.beq n 440 then qc0 else 0)) rfl (ad.take (Int.toNat (i64.wrap ((aa.length:Int) - 1)))) (by decide) (by decide) rfl,ac.finBoxL (g:=(fun n=>bif Nat.beq n 441 then ai else bif Nat.beq n 440 then qc0 else 0)) ab (by decide) (by decide) rfl⟩
   refine W9 (col:=ae) [(0,1),(1,1),(2,1),(3,1),(4,1),(5,1),(6,1),(7,0),(8,1),(9,1),(10,1),(11,0),(12,1),(13,2),(14,1),(15,2)] (by kernel_rfl) (by kernel_rfl)<|xu rfl rfl (fun _=>Qz rfl) ?_;refine xu rfl rfl (fun _=>W7 rfl) ?_;refine xu rfl rfl (fun _=>Qz rfl) ?_;refine xu rfl rfl (fun _=>W7 rfl) ?_;refine xu rfl rfl (fun _=>Qz rfl) ?_;refine xu rfl rfl (fun _=>W7 rfl) ?_;obtain ⟨bq,bb,hm⟩:=bZ hm;refine xu rfl rfl (fun _=>Wt underlying244 sizeOf3 rfl rfl (Xy bb).1 (Xy bb).2.1 (ad.addr bb)) ?_;refine xW (fun _ hC=>(ad.gr (hC.bl ae)).atInt bb) ?_;refine xu rfl rfl (fun _=>Qz rfl) ?_;refine xu rfl rfl (fun _=>W7 rfl) ?_;obtain ⟨br,ar,hm⟩:=bZ hm;refine xu rfl rfl (fun _=>Wt underlying244 sizeOf3 rfl rfl (Xy ar).1 (Xy ar).2.1 (ad.addr ar)) ?_;refine xW (fun _ hC=>(ad.gr (hC.bl ae)).atInt ar) ?_;refine xu rfl rfl (fun _=>Wt underlying244 sizeOf3 rfl rfl (Xy ar).1 (Xy ar).2.1 (ad.addr ar)) ?_;refine xe rfl rfl ?_;intro b8 hC0;have hC:=hC0.bl ae;obtain ⟨aj,aw,hm⟩:=bZ hm;have aw:aj=ah.set (Int.toNat ak) bq:=(Option.some.inj aw).symm;replace ad:=ad.gr hC;refine Yu (x1:=bq) ad ar ?_;intro b2 bs b3 a2;rw [← aw] at a2;refine .ld (d:=3) (v:=(.slice af aj.length ag)) (congrArg (fun n=>Value.slice af n ag) (show ah.length=aj.length by rw [aw,nS])) ?_;refine .ld (d:=63) (v:=(.slice af aj.length ag)) (congrArg (fun n=>Value.slice af n ag) (show ah.length=aj.length by rw [aw,nS])) ?_;replace ab:=(ab.gr hC).kp bs;replace ab:Zk 244 440 ae b2 g0 #[(.slice af ((aj.take (Int.toNat (i64.wrap ((aa.length:Int) - 1)))).length) ag)]:=by rw [← (show (ah.take (Int.toNat (i64.wrap ((aa.length:Int) - 1)))).length=(aj.take (Int.toNat (i64.wrap ((aa.length:Int) - 1)))).length by rw [nK,nK,(show ah.length=aj.length by rw [aw,nS])])];exact ab
   refine Zo<|xk ae ?_;obtain ⟨b9,bc,hm⟩:=bZ hm;refine xu rfl rfl (fun _=>Wt underlying244 sizeOf3 rfl rfl (Xy bc).1 (Xy bc).2.1 (a2.addr bc)) ?_;refine xe rfl rfl ?_;intro ca hC0;replace ac:=(ac.grow hC).kp bs b3;have hC:=hC0.bl ae;obtain ⟨ax,a3,hm⟩:=bZ hm;have a3:ax=aj.set (Int.toNat a1) br:=(Option.some.inj a3).symm;replace a2:=a2.gr hC;refine Yu (x1:=br) a2 bc ?_;intro b4 bt b5 bd;rw [← a3] at bd;refine .ld (d:=3) (v:=(.slice af ax.length ag)) (congrArg (fun n=>Value.slice af n ag) (show aj.length=ax.length by rw [a3,nS])) ?_;replace ab:=(ab.gr hC).kp bt;replace ab:Zk 244 440 ae b4 g0 #[(.slice af ((ax.take (Int.toNat (i64.wrap ((aa.length:Int) - 1)))).length) ag)]:=by rw [← (show (aj.take (Int.toNat (i64.wrap ((aa.length:Int) - 1)))).length=(ax.take (Int.toNat (i64.wrap ((aa.length:Int) - 1)))).length by rw [nK,nK,(show aj.length=ax.length by rw [a3,nS])])];exact ab
   refine Zo<|xk ae<|Wu ?_;replace ac:=(ac.grow hC).kp bt b5;intro cb hC;replace hC:=hC.bl ae;refine go ?_;replace bd:=bd.gr hC;replace ab:=ab.gr hC;replace ac:=ac.grow hC;exact ⟨ao,by omega,rfl,⟨_,_,_,_,_,_,rfl,hm,ac,bd,ab,rfl⟩⟩
theorem Zzv:Wi prog 3 1 8:=⟨Tryz.t3,_,rfl,rfl,rfl,rfl,rfl⟩
def Zfd (ab:List Int) (aa:Int) (kk_L1:(List Int→Int→Option R1)) (ad:Bool):Option R1:=
  if ad=true then ((Zl ab (i64.wrap (Int.tdiv (i64.wrap (aa - 1)) 2))).bind fun ae=>(Zl ab aa).bind fun af=>(some (ab.set (Int.toNat aa) ae)).bind fun ac=>(Zl ac (i64.wrap (Int.tdiv (i64.wrap (aa - 1)) 2))).bind fun ah=>(some (ac.set (Int.toNat (i64.wrap (Int.tdiv (i64.wrap (aa - 1)) 2))) af)).bind fun ag=>kk_L1 ag (i64.wrap (Int.tdiv (i64.wrap (aa - 1)) 2))) else (some ab)
def Zaa (N:Nat):Nat→R1→Int→Option R1
  | 0,_,_=>none
  | ac+1,ab,aa=>if (decide (0<aa))=true then ((Zl ab aa).bind fun ad=>(Zl ab (i64.wrap (Int.tdiv (i64.wrap (aa - 1)) 2))).bind fun ae=>Zfd ab aa (Zaa N ac) (decide (ad<ae))) else (Zfd ab aa (Zaa N ac) false)
termination_by structural x=>x
def Zfc (N:Nat) (aa:List Int) (ab:Int):Option R1:=
  Z0 ((aa.length+[ab].length) * 8≤140737488355328∧aa.length+[ab].length≤maxLen) (Zaa N N (aa++[ab]) (i64.wrap (((aa++[ab]).length:Int) - 1)))
theorem Zph {N g0 a7:Nat} {a8:Option Addr} {col:Ze} {w0:World} {ao:R1} {an:Int} {r:R1} (qc0 af:Nat) (hm:Zfc N ao an=some r) (hd:Se [qc0,af]=true) (ap:Zc (Za.int .i64) 3 af col w0 a8 a7 ao) (hb0:Zk 244 qc0 col w0 g0 #[.slice a8 ao.length a7]):
    Calls prog 266 #[.pointer (some ⟨g0,0,none⟩),.int .i64 an] w0 (fun e w'=>∃ (col':Ze) (oa1:Option Addr) (oc2:Nat),e= .returned (.tuple #[])∧Zx (pS [qc0,af]) col w0 col' w'∧Zc (Za.int .i64) 3 af col' w' oa1 oc2 r∧Zk 244 qc0 col' w' g0 #[.slice oa1 r.length oc2]):=by
 refine Zkn (m:=66) (args:=[.pointer (some ⟨g0,0,none⟩),.int .i64 an]) func266 rfl rfl rfl rfl ?_;rw [Zfc.eq_1] at hm;have ab:=St.startL (l:=[qc0,af]) rfl col w0;replace hb0:=hb0.startL (Q7 hd 0 rfl) (Q6 hd 0 rfl);replace ap:=ap.startL (Q7 hd 1 rfl) (Q6 hd 1 rfl);refine go ?_;refine lV (.pointer (some ⟨g0,0,none⟩)) (S1 rfl)<|lW hb0.at1<|Xn rfl<|W5 (col:=(Xh [qc0,af] col)) [an] 1 ?_;intro bw bi bj a0 bk;obtain ⟨a9,hm⟩:=Z3 hm;replace ap:=ap.gr a0;refine Zhz (col:=bj) (w:=bi) (r:=(Za.int .i64)) (c:=441) (c2:=441) (ap.ex) (bk.srcN (NB.int (k:=.i64))) rfl underlying244 Zzv rfl rfl rfl a9.1 a9.2 (by decide) ?_;intro ba bb bx bm bc a1;refine lV (.pointer (some ⟨g0,0,none⟩)) (S1 rfl) ?_;replace hb0:=(hb0.gr a0).kpp bc;refine Ze4 (v:=(.slice ba ((ao++[an]).length) bb)) hb0 sizeOf244 rfl rfl (by intro u hu;simp only [Value.cells,List.mem_cons,List.not_mem_nil,or_false] at hu;subst hu;rfl) rfl rfl ?_;intro bn bd bo aa;replace aa:Zk 244 440 bm bn g0 #[.slice ba ((ao++[an]).length) bb]:=aa;replace a1:=a1.kp bd;have bp:=a1.new;refine go ?_;refine lV (.pointer (some ⟨g0,0,none⟩)) (S1 rfl)<|lW aa.at1<|go ?_;replace ab:=((ab.grow a0).kpp bc).kp bd bo;refine Zu [0,1000000] (fun n f au=>∃ ag ah ai aj ae al,al=n∧Zaa N al aj ae=some r∧St w0 (Xh [qc0,af] col) ag au∧Zc (Za.int .i64) 3 441 ag au ah ai aj∧Zk 244 440 ag au g0 #[.slice ah aj.length ai]∧[4].map f=[.int .i64 ae]) N ⟨_,_,_,_,_,_,rfl,hm,ab,bp,aa,rfl⟩ ?_;clear hm;intro n f au hI;obtain ⟨ag,ah,ai,aj,ae,al,hn,hm,ab,ac,aa,hs⟩:=hI;subst hn;refine .lL [4] hs ?_
 cases al with
 | zero=>rw [Zaa.eq_1] at hm;cases hm
 | succ al=>
  rw [Zaa.eq_2] at hm;refine Zt<|Zt ?_;refine Wp.cutK [0,4,1000000] (fun f av=>∃ ad a2,Zfd aj ae (Zaa N al) a2=some r∧St w0 (Xh [qc0,af] col) ad av∧Zc (Za.int .i64) 3 441 ad av ah ai aj∧Zk 244 440 ad av g0 #[.slice ah aj.length ai]∧[36].map f=[.bool a2]) ?_ ?_
  ·intro f av hJ;obtain ⟨ad,a2,hm,ab,ac,aa,hs⟩:=hJ;rw [Zfd.eq_1] at hm;refine .lL [36] hs ?_;refine Zm hm (fun hb hm=>go ?_) fun hb hm=>go ?_
   ·refine W9 (col:=ad) [(0,1),(1,1),(2,0),(3,1),(4,1),(5,1),(6,0),(7,1),(8,1),(9,1),(10,1),(11,1),(12,0),(13,1),(14,1),(15,1),(16,1),(17,0),(18,1),(19,1),(20,0),(21,1),(22,1),(23,0),(24,1),(25,2),(26,1),(27,2)] (by kernel_rfl) (by kernel_rfl)<|xu rfl rfl (fun _=>Zl8 rfl) ?_;refine xu (v:=(.pointer (some ⟨g0,0,none⟩))) rfl rfl (fun _=>S1 rfl) ?_;refine xW (fun _ hC=>aa.at1.gr (hC.bl ad)) ?_;refine xu rfl rfl (fun _=>W7 rfl) ?_;refine xu rfl rfl (fun _=>Zl8 rfl) ?_;refine xu (v:=(.pointer (some ⟨g0,0,none⟩))) rfl rfl (fun _=>S1 rfl) ?_;refine xW (fun _ hC=>aa.at1.gr (hC.bl ad)) ?_;refine xu rfl rfl (fun _=>W7 rfl) ?_;refine xu rfl rfl (fun _=>Zhg _ _ rfl rfl) ?_;refine xu (v:=(.int .i64 (i64.wrap (Int.tdiv (i64.wrap (ae - 1)) 2)))) rfl rfl (fun _=>Vq (i64.wrap (ae - 1)) 2 rfl rfl (by decide)) ?_;refine xu rfl rfl (fun _=>Zl8 rfl) ?_;refine xu (v:=(.pointer (some ⟨g0,0,none⟩))) rfl rfl (fun _=>S1 rfl) ?_;refine xW (fun _ hC=>aa.at1.gr (hC.bl ad)) ?_;refine xu rfl rfl (fun _=>W7 rfl) ?_;refine xu rfl rfl (fun _=>Zhg _ _ rfl rfl) ?_;refine xu (v:=(.int .i64 (i64.wrap (Int.tdiv (i64.wrap (ae - 1)) 2)))) rfl rfl (fun _=>Vq (i64.wrap (ae - 1)) 2 rfl rfl (by decide)) ?_;obtain ⟨be,aw,hm⟩:=bZ hm;refine xu rfl rfl (fun _=>Wt underlying244 sizeOf3 rfl rfl (Xy aw).1 (Xy aw).2.1 (ac.addr aw)) ?_;refine xW (fun _ hC=>(ac.gr (hC.bl ad)).atInt aw) ?_;refine xu rfl rfl (fun _=>Zl8 rfl) ?_;refine xu (v:=(.pointer (some ⟨g0,0,none⟩))) rfl rfl (fun _=>S1 rfl) ?_;refine xW (fun _ hC=>aa.at1.gr (hC.bl ad)) ?_;refine xu rfl rfl (fun _=>W7 rfl) ?_;obtain ⟨bf,ak,hm⟩:=bZ hm;refine xu rfl rfl (fun _=>Wt underlying244 sizeOf3 rfl rfl (Xy ak).1 (Xy ak).2.1 (ac.addr ak)) ?_;refine xW (fun _ hC=>(ac.gr (hC.bl ad)).atInt ak) ?_;refine xu rfl rfl (fun _=>Wt underlying244 sizeOf3 rfl rfl (Xy ak).1 (Xy ak).2.1 (ac.addr ak)) ?_;refine xe rfl rfl ?_;intro bz hC0;have hC:=hC0.bl ad;obtain ⟨am,aq,hm⟩:=bZ hm;have aq:am=aj.set (Int.toNat ae) be:=(Option.some.inj aq).symm;replace ac:=ac.gr hC;refine Yu (x1:=be) ac ak ?_;intro bq bg br ar;rw [← aq] at ar;refine .ld (d:=46) (v:=(.slice ah am.length ai)) (congrArg (fun n=>Value.slice ah n ai) (show aj.length=am.length by rw [aq,nS])) ?_;replace aa:=(aa.gr hC).kp bg;replace aa:Zk 244 440 ad bq g0 #[.slice ah am.length ai]:=by rw [← (show aj.length=am.length by rw [aq,nS])];exact aa
    refine Zo<|xk ad ?_;obtain ⟨b0,ax,hm⟩:=bZ hm;refine xu rfl rfl (fun _=>Wt underlying244 sizeOf3 rfl rfl (Xy ax).1 (Xy ax).2.1 (ar.addr ax)) ?_;refine xe rfl rfl ?_;intro b1 hC0;replace ab:=(ab.grow hC).kp bg br;have hC:=hC0.bl ad;obtain ⟨a3,ay,hm⟩:=bZ hm;have ay:a3=am.set (Int.toNat (i64.wrap (Int.tdiv (i64.wrap (ae - 1)) 2))) bf:=(Option.some.inj ay).symm;replace ar:=ar.gr hC;refine Yu (x1:=bf) ar ax ?_;intro bs bh bt az;rw [← ay] at az;replace aa:=(aa.gr hC).kp bh;replace aa:Zk 244 440 ad bs g0 #[.slice ah a3.length ai]:=by rw [← (show am.length=a3.length by rw [ay,nS])];exact aa
    refine Zo<|xk ad<|Wu ?_;replace ab:=(ab.grow hC).kp bh bt;intro b2 hC;replace hC:=hC.bl ad;refine go ?_;refine lV (.int .i64 (i64.wrap (Int.tdiv (i64.wrap (ae - 1)) 2))) (Vq (i64.wrap (ae - 1)) 2 rfl rfl (by decide))<|go ?_;replace az:=az.gr hC;replace aa:=aa.gr hC;replace ab:=ab.grow hC;exact ⟨al,by omega,rfl,⟨_,_,_,_,_,_,rfl,hm,ab,az,aa,rfl⟩⟩
   cases hm;exact ⟨rfl,Sc w0.heap.size [qc0,af] col ad (fun n=>bif Nat.beq n 441 then af else bif Nat.beq n 440 then qc0 else 0),ah,ai,rfl,ab.finL rfl (fun n=>bif Nat.beq n 441 then af else bif Nat.beq n 440 then qc0 else 0),ab.finOwnL (g:=(fun n=>bif Nat.beq n 441 then af else bif Nat.beq n 440 then qc0 else 0)) rfl ac (by decide) (by decide) rfl,ab.finBoxL (g:=(fun n=>bif Nat.beq n 441 then af else bif Nat.beq n 440 then qc0 else 0)) aa (by decide) (by decide) rfl⟩
  refine Ys (col:=ag) (by kernel_rfl) (by kernel_rfl)<|go ?_;refine Xu hm (fun a4 hm=>go ?_) fun a4 hm=>go ?_
  ·refine qv (v:=(.pointer (some ⟨g0,0,none⟩))) rfl (fun _ hC=>S1 rfl) ?_;refine go ?_;refine qW (fun _ hC=>aa.at1.gr (hC.bl ag)) ?_;refine go ?_;obtain ⟨bu,a5,hm⟩:=bZ hm;refine qI a5 (ac.addr a5) ?_;refine go ?_;refine qW (fun _ hC=>(ac.gr (hC.bl ag)).atInt a5) ?_;refine go ?_;refine qv (v:=(.pointer (some ⟨g0,0,none⟩))) rfl (fun _ hC=>S1 rfl) ?_;refine go ?_;refine qW (fun _ hC=>aa.at1.gr (hC.bl ag)) ?_;refine go ?_;refine qv (v:=(.int .i64 (i64.wrap (Int.tdiv (i64.wrap (ae - 1)) 2)))) rfl (fun _ hC=>Vq (i64.wrap (ae - 1)) 2 rfl rfl (by decide)) ?_;refine go ?_;obtain ⟨bv,a6,hm⟩:=bZ hm;refine qI a6 (ac.addr a6) ?_;refine go ?_;refine qW (fun _ hC=>(ac.gr (hC.bl ag)).atInt a6) ?_;refine go ?_;refine qv (v:=(.bool (decide (bu<bv)))) rfl (fun _ hC=>Xg (congrArg Value.bool a4) rfl) ?_;refine X9 ?_;intro b3 hC;replace hC:=hC.bl ag;replace ac:=ac.gr hC;replace aa:=aa.gr hC;replace ab:=ab.grow hC;exact ⟨rfl,_,_,hm,ab,ac,aa,rfl⟩
  refine qv (v:=(.bool false)) rfl (fun _ hC=>Xt (congrArg Value.bool a4) rfl) ?_;refine X9 ?_;intro b4 hC;replace hC:=hC.bl ag;replace ac:=ac.gr hC;replace aa:=aa.gr hC;replace ab:=ab.grow hC;exact ⟨rfl,_,_,hm,ab,ac,aa,rfl⟩
def Zff (kk_L3:(List Int→R1→Option R1)) (aa:List Int) (ab:List Int):Option R1:=
  kk_L3 aa ab
def Qh (N:Nat) (ad:List Int) (kk_L2:(List Int→R1→R1→Option R1)) (ae:R6):List Int→R1→R1→Option R1
  | [],aa,ab=>kk_L2 aa ab (ad++[ae.1])
  | ac :: ag,aa,ab=>(Zl aa ac).bind fun ah=>(some (aa.set (Int.toNat ac) (i64.wrap (ah - 1)))).bind fun af=>(Zl af ac).bind fun ai=>if (decide (ai=0))=true then ((Zfc N ab ac).bind fun aj=>Zff (Qh N ad kk_L2 ae ag) af aj) else (Zff (Qh N ad kk_L2 ae ag) af ab)
termination_by structural x=>x
def Ud (N:Nat) (ac:R4):Nat→R1→R1→R1→Option R1
  | 0,_,_,_=>none
  | ae+1,af,ad,ab=>if (decide (0<(ad.length:Int)))=true then ((Zh1 N ad).bind fun aa=>Z0 ((ab.length+[aa.1].length) * 8≤140737488355328∧ab.length+[aa.1].length≤maxLen) ((Zl ac aa.1).bind fun ag=>Qh N ab (Ud N ac ae) aa ag af aa.2)) else (some ab)
termination_by structural x=>x
def Zfg (aa:Nat) (kk_L1:(Nat→R1→R1→Option R1)) (ab:List Int) (ac:List Int):Option R1:=
  kk_L1 (aa+1) ab ac
def Qg (N:Nat) (ad:R4):List R1→Nat→R1→R1→Option R1
  | [],aa,ab,ac=>Ud N ad N ab ac ([]:List Int)
  | ae :: af,aa,ab,ac=>(Zl ab (aa:Int)).bind fun ai=>(some (ab.set (Int.toNat (aa:Int)) (ae.length:Int))).bind fun ag=>if (decide ((ae.length:Int)=0))=true then ((Zfc N ac (aa:Int)).bind fun ah=>Zfg aa (Qg N ad af) ag ah) else (Zfg aa (Qg N ad af) ag ac)
termination_by structural x=>x
def Zfe (N:Nat) (aa:R4) (ab:R4):Option R1:=
  Z0 (aa.length * 8≤281474976710656∧aa.length≤maxLen) (Qg N ab aa 0 (List.replicate aa.length (0:Int)) ([]:List Int))
theorem Zxb {N cs ct:Nat} {a0 a1:Option Addr} {col:Ze} {w0:World} {af ag:R4} {r:R1} (c1:Nat) (hm:Zfe N af ag=some r) (h0:Sl (Za.slice (Za.int .i64)) col w0 a0 cs af) (h1:Sl (Za.slice (Za.int .i64)) col w0 a1 ct ag):
    Calls prog 202 #[.slice a0 af.length cs,.slice a1 ag.length ct] w0 (fun e w'=>∃ (col':Ze) (ra1:Option Addr) (rc2:Nat),e= .returned ((.slice ra1 r.length rc2))∧Zf col w0 col' w'∧Zc (Za.int .i64) 3 c1 col' w' ra1 rc2 r):=by
 refine Z1 4 (m:=66) func202 rfl rfl rfl rfl rfl ?_;rw [Zfe.eq_1] at hm;have aa:=St.start col w0;refine go ?_;obtain ⟨cu,hm⟩:=Z3 hm;refine Si (col:=(Zg col)) (w:=w0) (r:=(Za.int .i64)) (n:=af.length) (x0:=0) 1 rfl underlying40 Tryz.t3 rfl rfl rfl rfl rfl rfl rfl cu.1 cu.2 (Q1 .i64 0) ?_;intro d2 d3 c6 c7 bx;refine go ?_;refine Zkx (col:=c6) (v:=(.slice none (([]:List Int).length) 0)) 2 rfl zeroValue244 ?_;intro aq c8 c9 cv ab;replace ab:Zk 244 2 c9 c8 aq #[.slice none (([]:List Int).length) 0]:=ab;refine go ?_;replace aa:=(aa.grow c7).grow cv;replace bx:=bx.gr cv;refine Zu [1,16,17,6,1000000] (fun n f az=>∃ a2 ah a3 a4 ar bz b0 bj a5,n=a5.length∧af.drop ah=a5∧Qg N ag a5 ah ar bj=some r∧St w0 (Zg col) a2 az∧Zc (Za.int .i64) 3 1 a2 az a3 a4 ar∧Zc (Za.int .i64) 3 3 a2 az bz b0 bj∧Zk 244 2 a2 az aq #[.slice bz bj.length b0]∧[18,5].map f=[.int .i64 ah,.slice a3 ar.length a4]) af.length ⟨_,0,_,_,_,none,0,_,_,rfl,rfl,hm,aa,bx,Zc.nil,ab,rfl⟩ ?_;clear hm;intro n f az hI;obtain ⟨a2,ah,a3,a4,ar,bz,b0,bj,a5,hn,hl,hm,aa,b1,a6,ab,hs⟩:=hI;subst hn;refine .lL [18,5] hs ?_;replace h0:=h0.keep (Zh.start col w0);replace h1:=h1.keep (Zh.start col w0)
 cases a5 with
 | nil=>
  have hk:¬ ((ah:Int)<(af.length:Int)):=by have:=List.drop_eq_nil_iff.1 hl;omega
  have hkb:=decide_eq_false hk;rw [Qg.eq_1] at hm;refine go ?_;refine Yd (congrArg Value.bool hkb)<|go ?_;refine Zu [1,6,1000000] (fun n f au=>∃ av b2 b3 bk b4 b5 bm b6 b7 ai aj,aj=n∧Ud N ag aj bk bm ai=some r∧St w0 (Zg col) av au∧Zc (Za.int .i64) 3 1 av au b2 b3 bk∧Zc (Za.int .i64) 3 3 av au b4 b5 bm∧Zk 244 2 av au aq #[.slice b4 bm.length b5]∧Zc (Za.int .i64) 3 4 av au b6 b7 ai∧[5,9].map f=[.slice b2 bk.length b3,.slice b6 ai.length b7]) N ⟨_,_,_,_,_,_,_,none,0,_,_,rfl,hm,aa,b1,a6,ab,Zc.nil,rfl⟩ ?_;clear hm;intro n f au hI;obtain ⟨av,b2,b3,bk,b4,b5,bm,b6,b7,ai,aj,hn,hm,aa,b8,da,ab,bn,hs⟩:=hI;subst hn;refine .lL [5,9] hs ?_
  cases aj with
  | zero=>rw [Ud.eq_1] at hm;cases hm
  | succ aj=>
   rw [Ud.eq_2] at hm;refine go ?_;refine lW ab.at1<|go ?_;refine Zm hm (fun hb hm=>go ?_) fun hb hm=>go ?_
   ·obtain ⟨a7,db,hm⟩:=bZ hm;refine Zi (Zxa 2 3 db rfl da ab) ?_;rintro _ d4 ⟨dc,d5,d6,rfl,b9,ca,ad⟩;refine ⟨_,rfl,go ?_⟩;refine W5 (col:=dc) [a7.1] 5 ?_;intro d7 d8 d9 a8 dd;obtain ⟨de,hm⟩:=Z3 hm;replace bn:=(bn.kpp b9).gr a8;refine Wk bn (dd.srcN (NB.int (k:=.i64))) de ?_;intro cw cx ea eb bo ae;refine go ?_;obtain ⟨aw,cb,hm⟩:=bZ hm;replace aa:=((aa.kpp b9).grow a8).kpp bo;refine lI cb ((h1.ks aa).addr cb) ?_;obtain ⟨_,df,dg⟩:=(h1.ks aa).atN cb;obtain ⟨⟨cy,cz,rfl,ac⟩,_⟩:=df;refine lW dg.one<|go ?_;replace b8:=((b8.kpp b9).gr a8).kpp bo;replace ca:=(ca.gr a8).kpp bo;replace ad:=(ad.gr a8).kpp bo;refine Zu [1,45,46,6,9,1000000] (fun n f ak=>∃ al a9 ba bb ax cc cd bp bc,n=bc.length∧aw.drop a9=bc∧Qh N ai (Ud N ag aj) a7 bc ax bp=some r∧St w0 (Zg col) al ak∧Sl (Za.int .i64) al ak cy cz aw∧Zc (Za.int .i64) 3 1 al ak ba bb ax∧Zc (Za.int .i64) 3 3 al ak cc cd bp∧Zk 244 2 al ak aq #[.slice cc bp.length cd]∧Zc (Za.int .i64) 3 4 al ak cw cx (ai++[a7.1])∧[47,5].map f=[.int .i64 a9,.slice ba ax.length bb]) aw.length ⟨_,0,_,_,_,_,_,_,_,rfl,rfl,hm,aa,ac,b8,ca,ad,ae,rfl⟩ ?_;clear hm;intro n f ak hI;obtain ⟨al,a9,ba,bb,ax,cc,cd,bp,bc,hn,hl,hm,aa,ac,bd,be,ad,ae,hs⟩:=hI;subst hn;refine .lL [47,5] hs ?_
    cases bc with
    | nil=>
     have hk:¬ ((a9:Int)<(aw.length:Int)):=by have:=List.drop_eq_nil_iff.1 hl;omega
     have hkb:=decide_eq_false hk;rw [Qh.eq_1] at hm;refine go ?_;refine Yd (congrArg Value.bool hkb)<|go ?_;exact ⟨aj,by omega,rfl,⟨_,_,_,_,_,_,_,_,_,_,_,rfl,hm,aa,bd,be,ad,ae,rfl⟩⟩
    | cons dh c0=>
     obtain ⟨am,di,dj⟩:=Yn hl;have hk:(a9:Int)<(aw.length:Int):=by omega
     have hkb:=decide_eq_true hk;rw [Qh.eq_2] at hm;refine go ?_;refine Ye (congrArg Value.bool hkb)<|Xr<|Zt ?_;refine Wp.cutK [1,45,46,47,6,9,1000000] (fun f an=>∃ ao ce cf bq cg ch br,Zff (Qh N ai (Ud N ag aj) a7 c0) bq br=some r∧St w0 (Zg col) ao an∧Sl (Za.int .i64) ao an cy cz aw∧Zc (Za.int .i64) 3 1 ao an ce cf bq∧Zc (Za.int .i64) 3 3 ao an cg ch br∧Zk 244 2 ao an aq #[.slice cg br.length ch]∧Zc (Za.int .i64) 3 4 ao an cw cx (ai++[a7.1])∧[5].map f=[.slice ce bq.length cf]) ?_ ?_
     ·intro f an hJ;obtain ⟨ao,ce,cf,bq,cg,ch,br,hm,aa,ac,dl,dm,ad,ae,hs⟩:=hJ;rw [Zff.eq_1] at hm;refine .lL [5] hs<|go ?_;exact ⟨c0.length,by simp,rfl,⟨_,_,_,_,_,_,_,_,_,rfl,di,hm,aa,ac,dl,dm,ad,ae,(Yq (congrArg (Value.int .i64) (Yj (Nat.lt_of_lt_of_le dj ac.1.1))) rfl)⟩⟩
     refine go ?_;refine lI am (ac.addr am)<|lW (ac.atInt am) ?_;refine go ?_;obtain ⟨c2,ay,hm⟩:=bZ hm;refine lI ay (bd.addr ay)<|lW (bd.atInt ay) ?_;refine go ?_;refine lI ay (bd.addr ay) ?_;obtain ⟨ci,bs,hm⟩:=bZ hm;have bs:ci=ax.set (Int.toNat dh) (i64.wrap (c2 - 1)):=(Option.some.inj bs).symm;refine Yu (x1:=i64.wrap (c2 - 1)) bd ay ?_;intro ec bf dn ap;rw [← bs] at ap;refine .ld (d:=5) (v:=(.slice ba ci.length bb)) (congrArg (fun n=>Value.slice ba n bb) (show ax.length=ci.length by rw [bs,nS])) ?_;refine go ?_;obtain ⟨ed,cj,hm⟩:=bZ hm;refine lI cj (ap.addr cj)<|lW (ap.atInt cj) ?_;refine go ?_;replace ac:=ac.kp bf;replace be:=be.kp bf;replace ae:=ae.kp bf;replace ad:=ad.kp bf;replace aa:=aa.kp bf dn;refine Zm hm (fun hb hm=>go ?_) fun hb hm=>?_
     ·obtain ⟨ee,dp,hm⟩:=bZ hm;refine Zi (Zph 2 3 dp rfl be ad) ?_;rintro _ ef ⟨eg,eh,ei,rfl,bt,dq,dr⟩;refine ⟨_,rfl,?_⟩;refine Zo ?_;replace ac:=ac.kpp bt;replace ap:=ap.kpp bt;replace ae:=ae.kpp bt;replace aa:=aa.kpp bt;exact ⟨rfl,_,_,_,_,_,_,_,hm,aa,ac,ap,dq,dr,ae,rfl⟩
     refine Xr ?_;exact ⟨rfl,_,_,_,_,_,_,_,hm,aa,ac,ap,be,ad,ae,rfl⟩
   cases hm;exact ⟨rfl,_,_,_,rfl,aa.fin (cm [(4,c1)]),aa.fo bn⟩
 | cons c3 c4=>
  obtain ⟨am,ds,dt⟩:=Yn hl;have hk:(ah:Int)<(af.length:Int):=by omega
  have hkb:=decide_eq_true hk;rw [Qg.eq_2] at hm;refine go ?_;refine Ye (congrArg Value.bool hkb)<|Xr<|Zt ?_;refine Wp.cutK [1,16,17,18,6,1000000] (fun f bg=>∃ bh ck cl bu cn co bv,Zfg ah (Qg N ag c4) bu bv=some r∧St w0 (Zg col) bh bg∧Zc (Za.int .i64) 3 1 bh bg ck cl bu∧Zc (Za.int .i64) 3 3 bh bg cn co bv∧Zk 244 2 bh bg aq #[.slice cn bv.length co]∧[5].map f=[.slice ck bu.length cl]) ?_ ?_
  ·intro f bg hJ;obtain ⟨bh,ck,cl,bu,cn,co,bv,hm,aa,du,dv,ab,hs⟩:=hJ;rw [Zfg.eq_1] at hm;refine .lL [5] hs<|go ?_;exact ⟨c4.length,by simp,rfl,⟨_,_,_,_,_,_,_,_,_,rfl,ds,hm,aa,du,dv,ab,(Yq (congrArg (Value.int .i64) (Yj (Nat.lt_of_lt_of_le dt (h0.ks aa).1.1))) rfl)⟩⟩
  refine go ?_;refine lI am ((h0.ks aa).addr am) ?_;obtain ⟨_,dw,dx⟩:=(h0.ks aa).atN am;obtain ⟨⟨ej,ek,rfl,el⟩,_⟩:=dw;refine lW dx.one<|go ?_;obtain ⟨em,cp,hm⟩:=bZ hm;refine lI cp (b1.addr cp) ?_;obtain ⟨cq,bw,hm⟩:=bZ hm;have bw:cq=ar.set (Int.toNat (ah:Int)) (c3.length:Int):=(Option.some.inj bw).symm;refine Yu (x1:=(c3.length:Int)) b1 cp ?_;intro en cr dy bi;rw [← bw] at bi;refine .ld (d:=5) (v:=(.slice a3 cq.length a4)) (congrArg (fun n=>Value.slice a3 n a4) (show ar.length=cq.length by rw [bw,nS])) ?_;refine go ?_;replace a6:=a6.kp cr;replace ab:=ab.kp cr;replace aa:=aa.kp cr dy;refine Zm hm (fun hb hm=>go ?_) fun hb hm=>?_
  ·obtain ⟨eo,dz,hm⟩:=bZ hm;refine Zi (Zph 2 3 dz rfl a6 ab) ?_;rintro _ ep ⟨eq,er,es,rfl,c5,d0,d1⟩;refine ⟨_,rfl,?_⟩;refine Zo ?_;replace bi:=bi.kpp c5;replace aa:=aa.kpp c5;exact ⟨rfl,_,_,_,_,_,_,_,hm,aa,bi,d0,d1,rfl⟩
  refine Xr ?_;exact ⟨rfl,_,_,_,_,_,_,_,hm,aa,bi,a6,ab,rfl⟩
def Q9 (N:Nat) (aa:R4):Option Rb:=
  (Ze9 aa).bind fun ab=>if (!decide (ab=0))=true then (some (([]:List Int),ab)) else ((Ze8 aa).bind fun ad=>(Zfe N aa ad).bind fun ac=>if (decide ((ac.length:Int)<(aa.length:Int)))=true then (some (([]:List Int),42)) else (some (ac,0)))
theorem Zw7 {N ad:Nat} {a0:Option Addr} {col:Ze} {w0:World} {ab:R4} {r:Rb} (c1:Nat) (hm:Q9 N ab=some r) (h0:Sl (Za.slice (Za.int .i64)) col w0 a0 ad ab):
    Calls prog 89 #[.slice a0 ab.length ad] w0 (fun e w'=>∃ (col':Ze) (ra1:Option Addr) (rc2:Nat),e= .returned (.tuple #[.slice ra1 r.1.length rc2,.int .i64 r.2])∧Zf col w0 col' w'∧Zc (Za.int .i64) 3 c1 col' w' ra1 rc2 r.1):=by
 refine Zko 2 3 (m:=21) (args:=[.slice a0 ab.length ad]) func89 rfl rfl rfl rfl rfl ?_;rw [Q9.eq_1] at hm;have aa:=St.start col w0;refine go ?_;obtain ⟨ap,ah,hm⟩:=bZ hm;replace h0:=h0.keep (Zh.start col w0);refine Zi (Zw9 ah (h0.ks aa)) ?_;rintro _ ai ⟨rfl,ae⟩;refine ⟨_,rfl,?_⟩;replace ae:Zf (Zg col) w0 (Zg col) ai:=.of_below ae;refine go ?_;replace aa:=aa.grow ae;refine Zm hm (fun hb hm=>go ?_) fun hb hm=>go ?_
 ·cases hm;exact ⟨rfl,_,none,0,rfl,aa.fin (cm []),Zc.nil⟩
 obtain ⟨aq,aj,hm⟩:=bZ hm;refine Zi (Zw8 1 aj (h0.ks aa)) ?_;rintro _ ak ⟨af,ar,au,rfl,al,am⟩;refine ⟨_,rfl,?_⟩;obtain ⟨av,an,hm⟩:=bZ hm;replace aa:=aa.grow al;refine Zi (Zxb 2 an ((h0.ks aa).froz 1) (am.toSlF (Zj.row (Zj.int .i64)))) ?_;rintro _ aw ⟨ao,ax,ay,rfl,ac,ag⟩;refine ⟨_,rfl,?_⟩;replace ag:=ag.thaw (Z2 .i64) ac ((Fz.refl (col:=af)).froz 1) (by decide);replace ac:=ac.thawR (col:=af);generalize Z7 ak.heap.size af ao=az at *;refine go ?_;replace aa:=aa.grow ac;refine Zm hm (fun hb hm=>go ?_) fun hb hm=>go ?_
 ·cases hm;exact ⟨rfl,_,none,0,rfl,aa.fin (cm []),Zc.nil⟩
 cases hm;exact ⟨rfl,_,_,_,rfl,aa.fin (cm [(2,c1)]),aa.fo ag⟩
def Q8 (N:Nat) (aa:R4):Option Int:=
  (Q9 N aa).bind fun ab=>some ab.2
theorem Zw6 {N ad:Nat} {a0:Option Addr} {col:Ze} {w0:World} {ac:R4} {r:Int} (hm:Q8 N ac=some r) (h0:Sl (Za.slice (Za.int .i64)) col w0 a0 ad ac):
    Calls prog 175 #[.slice a0 ac.length ad] w0 (fun e w'=>e= .returned ((.int .i64 r))∧Below w0.heap.size w0 w'):=by
 refine Z1 2 (m:=11) func175 rfl rfl rfl rfl rfl ?_;rw [Q8.eq_1] at hm;have aa:=St.start col w0;refine go ?_;obtain ⟨ab,ag,hm⟩:=bZ hm;replace h0:=h0.keep (Zh.start col w0);refine Zi (Zw7 1 ag (h0.ks aa)) ?_;rintro _ ai ⟨aj,ae,af,rfl,ah,ak⟩;refine ⟨_,rfl,?_⟩;refine lM (.tuple #[.slice ae ab.1.length af,.int .i64 ab.2])<|lV (.slice ae ab.1.length af) (Xq rfl rfl)<|lV (.int .i64 ab.2) (Xq rfl rfl)<|go ?_;cases hm;replace aa:=aa.grow ah;exact ⟨rfl,rfl,aa.below⟩
def Zgu (aa:Int) (kk_L2:(Int→Option Bool)) (ab:Bool):Option Bool:=
  if ab=true then (some false) else (kk_L2 (i64.wrap (aa+1)))
def Zao (N:Nat) (aa:R4) (ab:Int) (kk_L1:(Int→Option Bool)):Nat→Int→Option Bool
  | 0,_=>none
  | ad+1,ac=>(Zl aa ab).bind fun ae=>if (decide (ac<(ae.length:Int)))=true then ((Zl ae ac).bind fun af=>if (decide (af<0))=true then (Zgu ac (Zao N aa ab kk_L1 ad) true) else (Zgu ac (Zao N aa ab kk_L1 ad) (decide ((aa.length:Int)≤af)))) else (kk_L1 (i64.wrap (ab+1)))
termination_by structural x=>x
def Qt (N:Nat) (aa:R4):Nat→Int→Option Bool
  | 0,_=>none
  | ac+1,ab=>if (decide (ab<(aa.length:Int)))=true then (Zao N aa ab (Qt N aa ac) N 0) else (some true)
termination_by structural x=>x
def Zgt (N:Nat) (aa:R4):Option Bool:=
  Qt N aa N 0
theorem Zyi {N ak:Nat} {a0:Option Addr} {col:Ze} {w0:World} {ab:R4} {r:Bool} (hm:Zgt N ab=some r) (h0:Sl (Za.slice (Za.int .i64)) col w0 a0 ak ab):
    Calls prog 263 #[.slice a0 ab.length ak] w0 (fun e w'=>e= .returned ((.bool r))∧Below w0.heap.size w0 w'):=by
 refine Z1 2 (m:=36) func263 rfl rfl rfl rfl rfl ?_;rw [Zgt.eq_1] at hm;have aa:=St.start col w0;refine go ?_;refine Zu [0,1000000] (fun n f al=>∃ am af ac,ac=n∧Qt N ab ac af=some r∧St w0 (Zg col) am al∧[3].map f=[.int .i64 af]) N ⟨_,0,_,rfl,hm,aa,rfl⟩ ?_;clear hm;intro n f al hI;obtain ⟨am,af,ac,hn,hm,aa,hs⟩:=hI;subst hn;refine .lL [3] hs ?_;replace h0:=h0.keep (Zh.start col w0)
 cases ac with
 | zero=>rw [Qt.eq_1] at hm;cases hm
 | succ ac=>
  rw [Qt.eq_2] at hm;refine go ?_;refine Zm hm (fun hb hm=>go ?_) fun hb hm=>go ?_
  ·refine Zu [0,3,1000000] (fun n f an=>∃ ao ag ad,ad=n∧Zao N ab af (Qt N ab ac) ad ag=some r∧St w0 (Zg col) ao an∧[4].map f=[.int .i64 ag]) N ⟨_,0,_,rfl,hm,aa,rfl⟩ ?_;clear hm;intro n f an hI;obtain ⟨ao,ag,ad,hn,hm,aa,hs⟩:=hI;subst hn;refine .lL [4] hs ?_
   cases ad with
   | zero=>rw [Zao.eq_1] at hm;cases hm
   | succ ad=>
    rw [Zao.eq_2] at hm;refine go ?_;obtain ⟨az,ae,hm⟩:=bZ hm;refine lI ae ((h0.ks aa).addr ae) ?_;obtain ⟨_,au,av⟩:=(h0.ks aa).atN ae;obtain ⟨⟨a1,a2,rfl,a3⟩,_⟩:=au;refine lW av.one<|go ?_;refine Zm hm (fun hb hm=>go ?_) fun hb hm=>go ?_
    ·refine lI ae ((h0.ks aa).addr ae) ?_;obtain ⟨_,aw,ax⟩:=(h0.ks aa).atN ae;obtain ⟨⟨a4,a5,rfl,ap⟩,_⟩:=aw;refine lW ax.one<|Xn rfl ?_;obtain ⟨ay,ah,hm⟩:=bZ hm;refine lI ah (ap.addr ah)<|lW (ap.atInt ah)<|Yh rfl<|Zo<|Zt ?_;refine Wp.cutK [0,3,4,1000000] (fun f aq=>∃ ar ai,Zgu ag (Zao N ab af (Qt N ab ac) ad) ai=some r∧St w0 (Zg col) ar aq∧[35].map f=[.bool ai]) ?_ ?_
     ·intro f aq hJ;obtain ⟨ar,ai,hm,aa,hs⟩:=hJ;rw [Zgu.eq_1] at hm;refine .lL [35] hs ?_;refine Zm hm (fun hb hm=>go ?_) fun hb hm=>go ?_
      ·cases hm;exact ⟨rfl,rfl,aa.below⟩
      exact ⟨ad,by omega,rfl,⟨_,_,_,rfl,hm,aa,rfl⟩⟩
     refine go ?_;refine Xu hm (fun aj hm=>go ?_) fun aj hm=>go ?_
     ·refine lV (.bool true) (Xg (congrArg Value.bool aj) rfl)<|Zo ?_;exact ⟨rfl,_,_,hm,aa,rfl⟩
     refine lV (.bool (decide ((ab.length:Int)≤ay))) (Xt (congrArg Value.bool aj) rfl)<|Zo ?_;exact ⟨rfl,_,_,hm,aa,rfl⟩
    exact ⟨ac,by omega,rfl,⟨_,_,_,rfl,hm,aa,rfl⟩⟩
  cases hm;exact ⟨rfl,rfl,aa.below⟩
def Zdy (N:Nat) (aa:List Int) (ac:Int):Nat→Int→Option Bool
  | 0,_=>none
  | ad+1,ab=>if (decide (ab<(aa.length:Int)))=true then ((Zl aa ab).bind fun ae=>if (decide (ae=ac))=true then (some true) else ((Zdy N aa ac ad) (i64.wrap (ab+1)))) else (some false)
termination_by structural x=>x
def Zdx (N:Nat) (aa:List Int) (ab:Int):Option Bool:=
  Zdy N aa ab N 0
theorem Znd {N ag:Nat} {a0:Option Addr} {col:Ze} {w0:World} {ac:R1} {ad:Int} {r:Bool} (hm:Zdx N ac ad=some r) (h0:Sl (Za.int .i64) col w0 a0 ag ac):
    Calls prog 265 #[.slice a0 ac.length ag,.int .i64 ad] w0 (fun e w'=>e= .returned ((.bool r))∧Below w0.heap.size w0 w'):=by
 refine Z1 4 (m:=18) func265 rfl rfl rfl rfl rfl ?_;rw [Zdx.eq_1] at hm;have aa:=St.start col w0;refine go ?_;refine Zu [0,1,1000000] (fun n f ah=>∃ ai ae ab,ab=n∧Zdy N ac ad ab ae=some r∧St w0 (Zg col) ai ah∧[5].map f=[.int .i64 ae]) N ⟨_,0,_,rfl,hm,aa,rfl⟩ ?_;clear hm;intro n f ah hI;obtain ⟨ai,ae,ab,hn,hm,aa,hs⟩:=hI;subst hn;refine .lL [5] hs ?_;replace h0:=h0.keep (Zh.start col w0)
 cases ab with
 | zero=>rw [Zdy.eq_1] at hm;cases hm
 | succ ab=>
  rw [Zdy.eq_2] at hm;refine go ?_;refine Zm hm (fun hb hm=>go ?_) fun hb hm=>go ?_
  ·obtain ⟨aj,af,hm⟩:=bZ hm;refine lI af ((h0.ks aa).addr af)<|lW ((h0.ks aa).atInt af) ?_;refine go ?_;refine Zm hm (fun hb hm=>go ?_) fun hb hm=>go ?_
   ·cases hm;exact ⟨rfl,rfl,aa.below⟩
   exact ⟨ab,by omega,rfl,⟨_,_,_,rfl,hm,aa,rfl⟩⟩
  cases hm;exact ⟨rfl,rfl,aa.below⟩
def Zd0 (N:Nat) (ad:R4) (ac:Int) (kk_L1:(Int→Option Bool)):Nat→Int→Option Bool
  | 0,_=>none
  | ae+1,aa=>(Zl ad ac).bind fun ab=>if (decide (aa<(ab.length:Int)))=true then (Z0 ((0:Int)≤aa∧aa≤(ab.length:Int)) ((Zl ab aa).bind fun af=>(Zdx N (ab.take (Int.toNat aa)) af).bind fun ag=>if ag=true then (some true) else ((Zd0 N ad ac kk_L1 ae) (i64.wrap (aa+1))))) else (kk_L1 (i64.wrap (ac+1)))
termination_by structural x=>x
def Zaq (N:Nat) (aa:R4):Nat→Int→Option Bool
  | 0,_=>none
  | ac+1,ab=>if (decide (ab<(aa.length:Int)))=true then (Zd0 N aa ab (Zaq N aa ac) N 0) else (some false)
termination_by structural x=>x
def Zgx (N:Nat) (aa:R4):Option Bool:=
  Zaq N aa N 0
theorem Zyk {N am:Nat} {a0:Option Addr} {col:Ze} {w0:World} {af:R4} {r:Bool} (hm:Zgx N af=some r) (h0:Sl (Za.slice (Za.int .i64)) col w0 a0 am af):
    Calls prog 264 #[.slice a0 af.length am] w0 (fun e w'=>e= .returned ((.bool r))∧Below w0.heap.size w0 w'):=by
 refine Z1 2 (m:=34) func264 rfl rfl rfl rfl rfl ?_;rw [Zgx.eq_1] at hm;have aa:=St.start col w0;refine go ?_;refine Zu [0,1000000] (fun n f an=>∃ ao ah ad,ad=n∧Zaq N af ad ah=some r∧St w0 (Zg col) ao an∧[3].map f=[.int .i64 ah]) N ⟨_,0,_,rfl,hm,aa,rfl⟩ ?_;clear hm;intro n f an hI;obtain ⟨ao,ah,ad,hn,hm,aa,hs⟩:=hI;subst hn;refine .lL [3] hs ?_;replace h0:=h0.keep (Zh.start col w0)
 cases ad with
 | zero=>rw [Zaq.eq_1] at hm;cases hm
 | succ ad=>
  rw [Zaq.eq_2] at hm;refine go ?_;refine Zm hm (fun hb hm=>go ?_) fun hb hm=>go ?_
  ·refine Zu [0,3,1000000] (fun n f ap=>∃ ac ae ag,ag=n∧Zd0 N af ah (Zaq N af ad) ag ae=some r∧St w0 (Zg col) ac ap∧[4].map f=[.int .i64 ae]) N ⟨_,0,_,rfl,hm,aa,rfl⟩ ?_;clear hm;intro n f ap hI;obtain ⟨ac,ae,ag,hn,hm,aa,hs⟩:=hI;subst hn;refine .lL [4] hs ?_
   cases ag with
   | zero=>rw [Zd0.eq_1] at hm;cases hm
   | succ ag=>
    rw [Zd0.eq_2] at hm;refine go ?_;obtain ⟨aq,ab,hm⟩:=bZ hm;refine lI ab ((h0.ks aa).addr ab) ?_;obtain ⟨_,av,aw⟩:=(h0.ks aa).atN ab;obtain ⟨⟨a4,a5,rfl,a6⟩,_⟩:=av;refine lW aw.one<|go ?_;refine Zm hm (fun hb hm=>go ?_) fun hb hm=>go ?_
    ·refine Ys (col:=ac) (by kernel_rfl) (by kernel_rfl)<|go ?_;refine qI ab ((h0.ks aa).addr ab) ?_;obtain ⟨_,ax,ay⟩:=(h0.ks aa).atN ab;obtain ⟨⟨ai,aj,rfl,ar⟩,_⟩:=ax;refine qW (fun _ hC=>ay.one.gr (hC.bl ac)) ?_;refine go ?_;obtain ⟨ak,hm⟩:=Z3 hm;refine qv (v:=.slice ai (Int.toNat ae) aj) rfl (fun _ hC=>Q0 underlying40 sizeOf3 rfl rfl ak.1 (by have:=ar.1.2;have:=ak.2;omega)) ?_;refine .ld (d:=25) (v:=(.slice ai ((aq.take (Int.toNat ae)).length) aj)) (congrArg (fun n=>Value.slice ai n aj) (List.length_take_of_le (show (Int.toNat ae)≤aq.length by have:=ak.2;omega)).symm) ?_;refine go ?_;refine qI ab ((h0.ks aa).addr ab) ?_;obtain ⟨_,az,a1⟩:=(h0.ks aa).atN ab;obtain ⟨⟨a7,a8,rfl,au⟩,_⟩:=az;refine qW (fun _ hC=>a1.one.gr (hC.bl ac)) ?_;refine go ?_;obtain ⟨a9,al,hm⟩:=bZ hm;refine qI al (au.addr al)<|qW (fun _ hC=>(au.gr (hC.bl ac)).atInt al) ?_;obtain ⟨a2,a3,hm⟩:=bZ hm;refine qc (v:=(.bool a2)) rfl (fun _ hC=>⟨_,_,Ur call265 rfl rfl,(Znd a3 ((ar.take (Int.toNat ae)).gr (hC.bl ac)):).mono fun _ _ h=>⟨h.1,hC.trans (.of_below h.2)⟩⟩) ?_;refine X9 ?_;intro ba hC;replace hC:=hC.bl ac;replace aa:=aa.grow hC;refine Zm hm (fun hb hm=>go ?_) fun hb hm=>go ?_
     ·cases hm;exact ⟨rfl,rfl,aa.below⟩
     exact ⟨ag,by omega,rfl,⟨_,_,_,rfl,hm,aa,rfl⟩⟩
    exact ⟨ad,by omega,rfl,⟨_,_,_,rfl,hm,aa,rfl⟩⟩
  cases hm;exact ⟨rfl,rfl,aa.below⟩
def Zgv (aa:Int) (kk_L2:(Int→Int→Option R1)) (ab:Int):Option R1:=
  kk_L2 ab (i64.wrap (aa+1))
def Zgw (aa:Int) (kk_L3:(Bool→Int→Option R1)) (ab:Bool):Option R1:=
  kk_L3 ab (i64.wrap (aa+1))
def Zap (N:Nat) (ac:R4) (ad:List Int) (ae:Int) (aa:Int) (kk_L2:(Int→Int→Option R1)):Nat→Bool→Int→Option R1
  | 0,_,_=>none
  | af+1,ag,ab=>(Zl ac aa).bind fun ah=>if (decide (ab<(ah.length:Int)))=true then (if ag=true then ((Zl ah ab).bind fun ai=>(Zdx N ad ai).bind fun aj=>Zgw ab (Zap N ac ad ae aa kk_L2 af) aj) else (Zgw ab (Zap N ac ad ae aa kk_L2 af) false)) else (if ag=true then (Zgv aa kk_L2 aa) else (Zgv aa kk_L2 ae))
termination_by structural x=>x
def Zb3 (N:Nat) (ad:R4) (aa:List Int) (kk_L1:(List Int→Option R1)) (ab:Int) (ac:Int) (kk_L2:(Int→Int→Option R1)) (ae:Bool):Option R1:=
  if ae=true then ((Zdx N aa ac).bind fun af=>Zap N ad aa ab ac kk_L2 N (!af) 0) else (if (decide (ab<0))=true then (some aa) else (Z0 ((aa.length+[ab].length) * 8≤140737488355328∧aa.length+[ab].length≤maxLen) (kk_L1 (aa++[ab]))))
def Uo (N:Nat) (aa:R4) (ab:List Int) (kk_L1:(List Int→Option R1)):Nat→Int→Int→Option R1
  | 0,_,_=>none
  | ae+1,ac,ad=>if (decide (ad<(aa.length:Int)))=true then (Zb3 N aa ab kk_L1 ac ad (Uo N aa ab kk_L1 ae) (decide (ac<0))) else (Zb3 N aa ab kk_L1 ac ad (Uo N aa ab kk_L1 ae) false)
termination_by structural x=>x
def V4 (N:Nat) (aa:R4):Nat→R1→Option R1
  | 0,_=>none
  | ab+1,ac=>Uo N aa ac (V4 N aa ab) N (-1) 0
termination_by structural x=>x
def Sw (N:Nat) (aa:R4):Option R1:=
  V4 N aa N ([]:List Int)
theorem Zyj {N bb:Nat} {a0:Option Addr} {col:Ze} {w0:World} {ac:R4} {r:R1} (c1:Nat) (hm:Sw N ac=some r) (h0:Sl (Za.slice (Za.int .i64)) col w0 a0 bb ac):
    Calls prog 199 #[.slice a0 ac.length bb] w0 (fun e w'=>∃ (col':Ze) (ra1:Option Addr) (rc2:Nat),e= .returned ((.slice ra1 r.length rc2))∧Zf col w0 col' w'∧Zc (Za.int .i64) 3 c1 col' w' ra1 rc2 r):=by
 refine Z1 2 (m:=52) func199 rfl rfl rfl rfl rfl ?_;rw [Sw.eq_1] at hm;have aa:=St.start col w0;refine go ?_;refine Zu [0,1000000] (fun n f av=>∃ aw ag ah ad ae,ae=n∧V4 N ac ae ad=some r∧St w0 (Zg col) aw av∧Zc (Za.int .i64) 3 1 aw av ag ah ad∧[3].map f=[.slice ag ad.length ah]) N ⟨_,none,0,_,_,rfl,hm,aa,Zc.nil,rfl⟩ ?_;clear hm;intro n f av hI;obtain ⟨aw,ag,ah,ad,ae,hn,hm,aa,ab,hs⟩:=hI;subst hn;refine .lL [3] hs ?_;replace h0:=h0.keep (Zh.start col w0)
 cases ae with
 | zero=>rw [V4.eq_1] at hm;cases hm
 | succ ae=>
  rw [V4.eq_2] at hm;refine go ?_;refine Zu [0,3,1000000] (fun n f ax=>∃ ay ai aj af,af=n∧Uo N ac ad (V4 N ac ae) af ai aj=some r∧St w0 (Zg col) ay ax∧Zc (Za.int .i64) 3 1 ay ax ag ah ad∧[4,5].map f=[.int .i64 ai,.int .i64 aj]) N ⟨_,_,0,_,rfl,hm,aa,ab,rfl⟩ ?_;clear hm;intro n f ax hI;obtain ⟨ay,ai,aj,af,hn,hm,aa,ab,hs⟩:=hI;subst hn;refine .lL [4,5] hs ?_
  cases af with
  | zero=>rw [Uo.eq_1] at hm;cases hm
  | succ af=>
   rw [Uo.eq_2] at hm;refine Zt<|Zt ?_;refine Wp.cutK [0,3,4,5,1000000] (fun f ao=>∃ al az,Zb3 N ac ad (V4 N ac ae) ai aj (Uo N ac ad (V4 N ac ae) af) az=some r∧St w0 (Zg col) al ao∧Zc (Za.int .i64) 3 1 al ao ag ah ad∧[15].map f=[.bool az]) ?_ ?_
   ·intro f ao hJ;obtain ⟨al,az,hm,aa,ab,hs⟩:=hJ;rw [Zb3.eq_1] at hm;refine .lL [15] hs ?_;refine Zm hm (fun hb hm=>?_) fun hb hm=>go ?_
    ·refine Xr<|Zt ?_;refine Wp.cutK [0,3,5,1000000] (fun f a1=>∃ a2 a3,Zgv aj (Uo N ac ad (V4 N ac ae) af) a3=some r∧St w0 (Zg col) a2 a1∧Zc (Za.int .i64) 3 1 a2 a1 ag ah ad∧[4].map f=[.int .i64 a3]) ?_ ?_
     ·intro f a1 hJ;obtain ⟨a2,a3,hm,aa,ab,hs⟩:=hJ;rw [Zgv.eq_1] at hm;refine .lL [4] hs<|go ?_;exact ⟨af,by omega,rfl,⟨_,_,_,_,rfl,hm,aa,ab,rfl⟩⟩
     refine go ?_;obtain ⟨bs,be,hm⟩:=bZ hm;refine Zi (Znd be (ab.toSlF (Zj.int .i64))) ?_;rintro _ bf ⟨rfl,ap⟩;refine ⟨_,rfl,?_⟩;replace ap:Zf al ao al bf:=.of_below ap;refine go ?_;replace ab:=ab.gr ap;replace aa:=aa.grow ap;refine Zu [0,3,4,5,1000000] (fun n f aq=>∃ an a4 ar ak,ak=n∧Zap N ac ad ai aj (Uo N ac ad (V4 N ac ae) af) ak a4 ar=some r∧St w0 (Zg col) an aq∧Zc (Za.int .i64) 3 1 an aq ag ah ad∧[6,7].map f=[.bool a4,.int .i64 ar]) N ⟨_,_,0,_,rfl,hm,aa,ab,rfl⟩ ?_;clear hm;intro n f aq hI;obtain ⟨an,a4,ar,ak,hn,hm,aa,ab,hs⟩:=hI;subst hn;refine .lL [6,7] hs ?_
     cases ak with
     | zero=>rw [Zap.eq_1] at hm;cases hm
     | succ ak=>
      rw [Zap.eq_2] at hm;refine go ?_;obtain ⟨bt,am,hm⟩:=bZ hm;refine lI am ((h0.ks aa).addr am) ?_;obtain ⟨_,bg,bh⟩:=(h0.ks aa).atN am;obtain ⟨⟨bu,bv,rfl,bw⟩,_⟩:=bg;refine lW bh.one<|go ?_;refine Zm hm (fun hb hm=>?_) fun hb hm=>go ?_
      ·refine Xr<|Zt ?_;refine Wp.cutK [0,3,4,5,7,1000000] (fun f a5=>∃ a6 a7,Zgw ar (Zap N ac ad ai aj (Uo N ac ad (V4 N ac ae) af) ak) a7=some r∧St w0 (Zg col) a6 a5∧Zc (Za.int .i64) 3 1 a6 a5 ag ah ad∧[6].map f=[.bool a7]) ?_ ?_
       ·intro f a5 hJ;obtain ⟨a6,a7,hm,aa,ab,hs⟩:=hJ;rw [Zgw.eq_1] at hm;refine .lL [6] hs<|go ?_;exact ⟨ak,by omega,rfl,⟨_,_,_,_,rfl,hm,aa,ab,rfl⟩⟩
       refine go ?_;refine Xu hm (fun a8 hm=>go ?_) fun a8 hm=>go ?_
       ·refine lI am ((h0.ks aa).addr am) ?_;refine go ?_;obtain ⟨_,bi,bj⟩:=(h0.ks aa).atN am;obtain ⟨⟨bx,bz,rfl,bc⟩,_⟩:=bi;refine lW bj.one<|go ?_;obtain ⟨b0,a9,hm⟩:=bZ hm;refine lI a9 (bc.addr a9) ?_;refine go ?_;refine lW (bc.atInt a9)<|go ?_;obtain ⟨bk,bm,hm⟩:=bZ hm;refine Zi (Znd bm (ab.toSlF (Zj.int .i64))) ?_;rintro _ bn ⟨rfl,au⟩;refine ⟨_,rfl,?_⟩;replace au:Zf an aq an bn:=.of_below au;refine lV (.bool bk) (Xg (congrArg Value.bool a8) rfl)<|go ?_;replace ab:=ab.gr au;replace aa:=aa.grow au;exact ⟨rfl,_,_,hm,aa,ab,rfl⟩
       refine lV (.bool false) (Xt (congrArg Value.bool a8) rfl)<|go ?_;exact ⟨rfl,_,_,hm,aa,ab,rfl⟩
      refine Zm hm (fun hb hm=>go ?_) fun hb hm=>?_
      ·exact ⟨rfl,_,_,hm,aa,ab,rfl⟩
      refine Xr ?_;exact ⟨rfl,_,_,hm,aa,ab,rfl⟩
    refine Zm hm (fun hb hm=>go ?_) fun hb hm=>go ?_
    ·cases hm;exact ⟨rfl,_,_,_,rfl,aa.fin (cm [(1,c1)]),aa.fo ab⟩
    refine W5 (col:=al) [ai] 2 ?_;intro b1 b2 b3 bd bo;obtain ⟨bp,hm⟩:=Z3 hm;replace ab:=ab.gr bd;refine Wk ab (bo.srcN (NB.int (k:=.i64))) bp ?_;intro b4 b5 b6 b7 bq br;refine go ?_;replace aa:=(aa.grow bd).kpp bq;exact ⟨ae,by omega,rfl,⟨_,_,_,_,_,rfl,hm,aa,br,rfl⟩⟩
   refine go ?_;refine Xu hm (fun ba hm=>go ?_) fun ba hm=>go ?_
   ·refine lV (.bool (decide (ai<0))) (Xg (congrArg Value.bool ba) rfl)<|Zo ?_;exact ⟨rfl,_,_,hm,aa,ab,rfl⟩
   refine lV (.bool false) (Xt (congrArg Value.bool ba) rfl)<|Zo ?_;exact ⟨rfl,_,_,hm,aa,ab,rfl⟩
def Sv (N:Nat) (aa:R4):Option Int:=
  (Zgt N aa).bind fun ab=>if (!ab)=true then (some 3) else ((Zgx N aa).bind fun ac=>if ac=true then (some 40) else ((Sw N aa).bind fun ad=>if (decide ((ad.length:Int)<(aa.length:Int)))=true then (some 42) else (some 0)))
theorem Zyh {N ae:Nat} {a0:Option Addr} {col:Ze} {w0:World} {ab:R4} {r:Int} (hm:Sv N ab=some r) (h0:Sl (Za.slice (Za.int .i64)) col w0 a0 ae ab):
    Calls prog 193 #[.slice a0 ab.length ae] w0 (fun e w'=>e= .returned ((.int .i64 r))∧Below w0.heap.size w0 w'):=by
 refine Z1 2 (m:=18) func193 rfl rfl rfl rfl rfl ?_;rw [Sv.eq_1] at hm;have aa:=St.start col w0;refine go ?_;obtain ⟨al,ag,hm⟩:=bZ hm;replace h0:=h0.keep (Zh.start col w0);refine Zi (Zyi ag (h0.ks aa)) ?_;rintro _ af ⟨rfl,ac⟩;refine ⟨_,rfl,?_⟩;replace ac:Zf (Zg col) w0 (Zg col) af:=.of_below ac;refine go ?_;replace aa:=aa.grow ac;refine Zm hm (fun hb hm=>go ?_) fun hb hm=>go ?_
 ·cases hm;exact ⟨rfl,rfl,aa.below⟩
 obtain ⟨am,ah,hm⟩:=bZ hm;refine Zi (Zyk ah (h0.ks aa)) ?_;rintro _ ai ⟨rfl,ad⟩;refine ⟨_,rfl,?_⟩;replace ad:Zf (Zg col) af (Zg col) ai:=.of_below ad;refine go ?_;replace aa:=aa.grow ad;refine Zm hm (fun hb hm=>go ?_) fun hb hm=>go ?_
 ·cases hm;exact ⟨rfl,rfl,aa.below⟩
 obtain ⟨an,aj,hm⟩:=bZ hm;refine Zi (Zyj 1 aj (h0.ks aa)) ?_;rintro _ ao ⟨ap,aq,ar,rfl,ak,au⟩;refine ⟨_,rfl,go ?_⟩;replace aa:=aa.grow ak;refine Zm hm (fun hb hm=>go ?_) fun hb hm=>go ?_
 ·cases hm;exact ⟨rfl,rfl,aa.below⟩
 cases hm;exact ⟨rfl,rfl,aa.below⟩
def Zdz (N:Nat) (ab:List Int) (ac:List Int):Nat→Int→Option Bool
  | 0,_=>none
  | ad+1,aa=>if (decide (aa<(ab.length:Int)))=true then ((Zl ab aa).bind fun ae=>(Zl ac aa).bind fun af=>if (!decide (ae=af))=true then (some false) else ((Zdz N ab ac ad) (i64.wrap (aa+1)))) else (some true)
termination_by structural x=>x
def Zgs (N:Nat) (aa:List Int) (ab:List Int):Option Bool:=
  if (!decide ((aa.length:Int)=(ab.length:Int)))=true then (some false) else (Zdz N aa ab N 0)
theorem Zp2 {N ai aj:Nat} {a0 a1:Option Addr} {col:Ze} {w0:World} {ad ae:R1} {r:Bool} (hm:Zgs N ad ae=some r) (h0:Sl (Za.int .i64) col w0 a0 ai ad) (h1:Sl (Za.int .i64) col w0 a1 aj ae):
    Calls prog 119 #[.slice a0 ad.length ai,.slice a1 ae.length aj] w0 (fun e w'=>e= .returned ((.bool r))∧Below w0.heap.size w0 w'):=by
 refine Z1 4 (m:=26) func119 rfl rfl rfl rfl rfl ?_;rw [Zgs.eq_1] at hm;have aa:=St.start col w0;refine go ?_;replace h0:=h0.keep (Zh.start col w0);replace h1:=h1.keep (Zh.start col w0);refine Zm hm (fun hb hm=>go ?_) fun hb hm=>go ?_
 ·cases hm;exact ⟨rfl,rfl,aa.below⟩
 refine Zu [0,1,1000000] (fun n f ak=>∃ ab af ac,ac=n∧Zdz N ad ae ac af=some r∧St w0 (Zg col) ab ak∧[5].map f=[.int .i64 af]) N ⟨_,0,_,rfl,hm,aa,rfl⟩ ?_;clear hm;intro n f ak hI;obtain ⟨ab,af,ac,hn,hm,aa,hs⟩:=hI;subst hn;refine .lL [5] hs ?_
 cases ac with
 | zero=>rw [Zdz.eq_1] at hm;cases hm
 | succ ac=>
  rw [Zdz.eq_2] at hm;refine go ?_;refine Zm hm (fun hb hm=>go ?_) fun hb hm=>go ?_
  ·refine Ys (col:=ab) (by kernel_rfl) (by kernel_rfl)<|go ?_;obtain ⟨al,ag,hm⟩:=bZ hm;refine qI ag ((h0.ks aa).addr ag)<|qW (fun _ hC=>((h0.ks aa).gr (hC.bl ab)).atInt ag) ?_;refine go ?_;obtain ⟨am,ah,hm⟩:=bZ hm;refine qI ah ((h1.ks aa).addr ah)<|qW (fun _ hC=>((h1.ks aa).gr (hC.bl ab)).atInt ah) ?_;refine go ?_;refine X9 ?_;intro an hC;replace hC:=hC.bl ab;replace aa:=aa.grow hC;refine Zm hm (fun hb hm=>go ?_) fun hb hm=>go ?_
   ·cases hm;exact ⟨rfl,rfl,aa.below⟩
   exact ⟨ac,by omega,rfl,⟨_,_,_,rfl,hm,aa,rfl⟩⟩
  cases hm;exact ⟨rfl,rfl,aa.below⟩
theorem Zo8 (N:Nat) (l:List Int) (x:Int) (hl:l.length≤1048576):∀ (n k:Nat),l.length<n+k→k≤l.length→Zdy N l x n (k:Int)=some (decide (x ∈ l.drop k))
 | 0,k,h,hk=>by omega
 | n+1,k,h,hk=>by
  rw [Zdy.eq_2]
  by_cases hlt:k<l.length
  ·rw [if_pos (by simpa using hlt),Zv hlt,oB,wS (by omega),Zo8 N l x hl n (k+1) (by omega) (by omega),List.drop_eq_getElem_cons hlt]
   by_cases he:l[k]=x
   ·rw [if_pos (by simpa using he),decide_eq_true (by rw [he];exact List.mem_cons_self)]
   ·rw [if_neg (by simpa using he)]
    exact congrArg some (decide_eq_decide.2 ⟨fun h=>List.mem_cons_of_mem _ h,fun h=>(List.mem_cons.1 h).resolve_left (Ne.symm he)⟩)
  ·rw [if_neg (by simpa using hlt),List.drop_eq_nil_of_le (by omega)];simp
theorem Zmx {N:Nat} {l:List Int} {x:Int} (hl:l.length≤1048576) (hN:1048576<N):Zdx N l x=some (decide (x ∈ l)):=by
 rw [Zdx];simpa using Zo8 N l x hl N 0 (by omega) (by omega)
def Vx (m:Int) (P:List R1):Bool:=P.all fun l=>l.all fun p=>decide (0≤p∧p<m)
theorem Zro (N:Nat) (P:List R1) (i:Nat) (hi:i<P.length) (hP:P.length≤1048576) (hl:P[i].length≤1048576) (kk:Int→Option Bool):∀ (n k:Nat),P[i].length<n+k→k≤P[i].length→
  Zao N P (i:Int) kk n (k:Int)=if (P[i].drop k).all (fun p=>decide (0≤p∧p<(P.length:Int))) then kk ((i+1:Nat):Int) else some false
 | 0,k,h,hk=>by omega
 | n+1,k,h,hk=>by
  rw [Zao.eq_2,Zv hi,oB]
  by_cases hlt:k<P[i].length
  ·rw [if_pos (by simpa using hlt),Zv hlt,oB,Zgu,Zgu,wS (by omega),Zro N P i hi hP hl kk n (k+1) (by omega) (by omega),List.drop_eq_getElem_cons hlt]
   by_cases h1:P[i][k]<0
   ·rw [if_pos (by simpa using h1),if_pos rfl,if_neg (fun h=>by rw [List.all_cons,Bool.and_eq_true,decide_eq_true_eq] at h;omega)]
   ·rw [if_neg (by simpa using h1)]
    by_cases h2:(P.length:Int)≤P[i][k]
    ·rw [if_pos (by simpa using h2),if_neg (fun h=>by rw [List.all_cons,Bool.and_eq_true,decide_eq_true_eq] at h;omega)]
    ·rw [if_neg (by simpa using h2)]
     simp only [List.all_cons,Bool.and_eq_true]
     have h3:decide (0≤P[i][k]∧P[i][k]<(P.length:Int))=true:=by simp;omega
     simp only [h3,true_and]
  ·rw [if_neg (by simpa using hlt),List.drop_eq_nil_of_le (by omega),wS (by omega)];simp
theorem Zrn (N:Nat) (P:List R1) (hP:P.length≤1048576) (hl:∀ l ∈ P,l.length≤1048576) (hN:1048576<N):∀ (n i:Nat),P.length<n+i→i≤P.length→
  Qt N P n (i:Int)=some (Vx P.length (P.drop i))
 | 0,i,h,hi=>by omega
 | n+1,i,h,hi=>by
  rw [Qt.eq_2]
  by_cases hlt:i<P.length
  ·have h0:=Zro N P i hlt hP (hl _ (List.getElem_mem hlt)) (Qt N P n) N 0 (by have:=hl _ (List.getElem_mem hlt);omega) (by omega)
   rw [if_pos (by simpa using hlt)]
   rw [show (0:Int)=((0:Nat):Int) from rfl,h0,Zrn N P hP hl hN n (i+1) (by omega) (by omega),List.drop_eq_getElem_cons hlt]
   simp only [Vx,List.all_cons,List.drop_zero]
   by_cases h1:(P[i].all fun p=>decide (0≤p∧p<(P.length:Int)))=true
   ·rw [if_pos h1,h1,Bool.true_and]
   ·rw [if_neg h1,Bool.eq_false_iff.2 h1,Bool.false_and]
  ·rw [if_neg (by simpa using hlt),List.drop_eq_nil_of_le (by omega)];rfl
theorem Z0j {N:Nat} {P:List R1} (hP:P.length≤1048576) (hl:∀ l ∈ P,l.length≤1048576) (hN:1048576<N):Zgt N P=some (Vx P.length P):=by
 rw [Zgt];simpa using Zrn N P hP hl hN N 0 (by omega) (by omega)
def Uj (P:List R1):Bool:=P.any fun l=>!decide l.Nodup
theorem Zs0 (l:List Int) (k:Nat) (hk:k<l.length):(l.take (k+1)).Nodup↔(l.take k).Nodup∧l[k] ∉ l.take k:=by
 rw [List.take_succ_eq_append_getElem hk,List.nodup_append]
 simp only [List.nodup_cons,List.not_mem_nil,not_false_eq_true,List.nodup_nil,and_self,List.mem_singleton,true_and]
 constructor
 ·rintro ⟨h1,h2⟩;exact ⟨h1,fun h=>h2 _ h _ rfl rfl⟩
 ·rintro ⟨h1,h2⟩;exact ⟨h1,fun a ha b hb e=>h2 (by rw [← hb,← e];exact ha)⟩
theorem Zwg (N:Nat) (P:List R1) (i:Nat) (hi:i<P.length) (hP:P.length≤1048576) (hl:P[i].length≤1048576) (hN:1048576<N) (kk:Int→Option Bool):∀ (n k:Nat),P[i].length<n+k→k≤P[i].length→(P[i].take k).Nodup→
  Zd0 N P (i:Int) kk n (k:Int)=if P[i].Nodup then kk ((i+1:Nat):Int) else some true
 | 0,k,h,hk,_=>by omega
 | n+1,k,h,hk,hnd=>by
  rw [Zd0.eq_2,Zv hi,oB]
  by_cases hlt:k<P[i].length
  ·rw [if_pos (by simpa using hlt),Z6 (by omega),Zv hlt,oB,Zmx (by simp;omega) hN,oB,Int.toNat_natCast]
   by_cases h1:P[i][k] ∈ P[i].take k
   ·rw [if_pos (by simpa using h1),if_neg]
    intro h2
    exact ((Zs0 _ k hlt).1 (h2.sublist (List.take_sublist _ _))).2 h1
   ·rw [if_neg (by simpa using h1),wS (by omega)]
    exact Zwg N P i hi hP hl hN kk n (k+1) (by omega) (by omega) ((Zs0 _ k hlt).2 ⟨hnd,h1⟩)
  ·rw [if_neg (by simpa using hlt),wS (by omega)]
   rw [List.take_of_length_le (by omega)] at hnd
   rw [if_pos hnd]
theorem Zwf (N:Nat) (P:List R1) (hP:P.length≤1048576) (hl:∀ l ∈ P,l.length≤1048576) (hN:1048576<N):∀ (n i:Nat),P.length<n+i→i≤P.length→
  Zaq N P n (i:Int)=some (Uj (P.drop i))
 | 0,i,h,hi=>by omega
 | n+1,i,h,hi=>by
  rw [Zaq.eq_2]
  by_cases hlt:i<P.length
  ·have h0:=Zwg N P i hlt hP (hl _ (List.getElem_mem hlt)) hN (Zaq N P n) N 0 (by have:=hl _ (List.getElem_mem hlt);omega) (by omega) (by simp)
   rw [if_pos (by simpa using hlt)]
   rw [show (0:Int)=((0:Nat):Int) from rfl,h0,Zwf N P hP hl hN n (i+1) (by omega) (by omega),List.drop_eq_getElem_cons hlt]
   simp only [Uj,List.any_cons]
   by_cases h1:P[i].Nodup
   ·rw [if_pos h1];simp [h1]
   ·rw [if_neg h1];simp [h1]
  ·rw [if_neg (by simpa using hlt),List.drop_eq_nil_of_le (by omega)];rfl
theorem Z3g {N:Nat} {P:List R1} (hP:P.length≤1048576) (hl:∀ l ∈ P,l.length≤1048576) (hN:1048576<N):Zgx N P=some (Uj P):=by
 rw [Zgx];simpa using Zwf N P hP hl hN N 0 (by omega) (by omega)
def Ui (P:List R1):Nat:=(P.map List.length).sum
theorem Zjv (l:List Int) (P:List R1):Ui (l :: P)=l.length+Ui P:=by simp [Ui]
theorem Zml {l:List Int}:∀ {P:List R1},l ∈ P→l.length≤Ui P
 | x :: P,h=>by
  rw [Zjv]
  rcases List.mem_cons.1 h with rfl | h
  ·omega
  ·have:=Zml h;omega
def Zno:Nat→List R1→List (Int×Int)
 | _,[]=>[]
 | k,l :: P=>l.map (fun p=>(p,(k:Int)))++Zno (k+1) P
theorem Zzr:∀ (k:Nat) (P:List R1),(Zno k P).length=Ui P
 | _,[]=>rfl
 | k,l :: P=>by rw [Zno,nA,List.length_map,Zzr,Zjv]
def Ut (P:List R1) (l:List Int) (i:Nat):Bool:=!decide ((i:Int) ∈ l)&&(P.getD i []).all fun p=>decide (p ∈ l)
def W0 (P:List R1) (l:List Int) (i:Nat):Option Nat:=(List.range' i (P.length - i)).find? (Ut P l)
theorem Z1g (P:List R1) (l:List Int) (i:Nat) (h:P.length≤i):W0 P l i=none:=by
 rw [W0,Nat.sub_eq_zero_of_le h];rfl
theorem Z1i (P:List R1) (l:List Int) (i:Nat) (h:i<P.length):W0 P l i=if Ut P l i then some i else W0 P l (i+1):=by
 rw [W0,W0,show P.length - i=(P.length - (i+1))+1 by omega,List.range'_succ,List.find?_cons]
 cases Ut P l i <;> simp
section
variable (N:Nat) (P:List R1) (l:List Int)
theorem Zn5 (hP:P.length≤1048576) (hl:l.length≤1048576) (hN:1048576<N) (next:Int) (i:Nat) (hi:i<P.length) (hli:P[i].length≤1048576) (kk:Int→Int→Option R1):∀ (n:Nat) (b:Bool) (k:Nat),P[i].length<n+k→k≤P[i].length→
  Zap N P l next (i:Int) kk n b (k:Int)=kk (if (b&&(P[i].drop k).all fun p=>decide (p ∈ l))=true then (i:Int) else next) ((i+1:Nat):Int)
 | 0,b,k,h,hk=>by omega
 | n+1,b,k,h,hk=>by
  rw [Zap.eq_2,Zv hi,oB]
  by_cases hlt:k<P[i].length
  ·rw [if_pos (by simpa using hlt),Zv hlt,oB,Zmx hl hN,oB,Zgw,Zgw,wS (by omega),Zn5 hP hl hN next i hi hli kk n _ (k+1) (by omega) (by omega),Zn5 hP hl hN next i hi hli kk n _ (k+1) (by omega) (by omega),List.drop_eq_getElem_cons hlt,List.all_cons]
   cases b
   ·rw [if_neg (by decide),Bool.false_and,Bool.false_and]
   ·rw [if_pos rfl,Bool.true_and]
  ·rw [if_neg (by simpa using hlt),List.drop_eq_nil_of_le (by omega),Zgv,Zgv,wS (by omega),List.all_nil,Bool.and_true]
   cases b
   ·rw [if_neg (by decide),if_neg (by decide)]
   ·rw [if_pos rfl,if_pos rfl]
def Zto (kk:List Int→Option R1):Option Nat→Option R1
 | none=>some l
 | some i=>kk (l++[(i:Int)])
theorem Zs8 (hl:l.length<1048576) (kk:List Int→Option R1) (i:Nat) (i':Int) (kk2:Int→Int→Option R1):Zb3 N P l kk (i:Int) i' kk2 false=kk (l++[(i:Int)]):=by
 rw [Zb3,if_neg (by decide),if_neg (by rw [decide_eq_true_eq];omega),Z6 (by simp only [nC,nN,maxLen];omega)]
theorem Zs7 (hP:P.length≤1048576) (hls:∀ x ∈ P,x.length≤1048576) (hl:l.length<1048576) (hN:1048576<N) (kk:List Int→Option R1):∀ (n i:Nat),P.length<n+i→i≤P.length→
  Uo N P l kk n (-1) (i:Int)=Zto l kk (W0 P l i)
 | 0,i,h,hi=>by omega
 | n+1,i,h,hi=>by
  rw [Uo.eq_2]
  by_cases hlt:i<P.length
  ·have h3:=Zn5 N P l hP (by omega) hN (-1) i hlt (hls _ (List.getElem_mem hlt)) (Uo N P l kk n) N (!decide ((i:Int) ∈ l)) 0 (by have:=hls _ (List.getElem_mem hlt);omega) (by omega)
   rw [if_pos (by simpa using hlt),Zb3,if_pos (by decide),Zmx (by omega) hN,oB]
   rw [show (0:Int)=((0:Nat):Int) from rfl,h3,Z1i P l i hlt,List.drop_zero]
   have hb:(!decide ((i:Int) ∈ l)&&P[i].all fun p=>decide (p ∈ l))=Ut P l i:=by
    rw [Ut,List.getD_eq_getElem?_getD,List.getElem?_eq_getElem hlt];rfl
   rw [hb]
   by_cases hr:Ut P l i=true
   ·rw [if_pos hr,if_pos hr]
    match n,h with
    | 0,h=>omega
    | n+1,h=>
     rw [Uo.eq_2]
     by_cases h2:i+1<P.length
     ·rw [if_pos (dT (by omega)),show decide ((i:Int)<0)=false from decide_eq_false (by omega)]
      exact Zs8 N P l hl kk i _ _
     ·rw [if_neg (by rw [decide_eq_true_eq];omega)]
      exact Zs8 N P l hl kk i _ _
   ·rw [if_neg hr,if_neg hr]
    exact Zs7 hP hls hl hN kk n (i+1) (by omega) (by omega)
  ·rw [if_neg (by simpa using hlt),Z1g P l i (by omega),Zb3,if_neg (by decide),if_pos (by decide)];rfl
end
theorem Zs9 {N:Nat} {P:List R1} {l:List Int} (hP:P.length≤1048576) (hls:∀ x ∈ P,x.length≤1048576) (hl:l.length<1048576) (hN:1048576<N) (n:Nat):
  V4 N P (n+1) l=Zto l (V4 N P n) (W0 P l 0):=by
 rw [V4.eq_2]
 exact Zs7 N P l hP hls hl hN _ N 0 (by omega) (by omega)
theorem Zsx {P:List R1} {l:List Int} {i j:Nat} (h:W0 P l i=some j):i≤j∧j<P.length∧Ut P l j=true∧∀ k,i≤k→k<j→Ut P l k=false:=by
 rw [W0,List.find?_range'_eq_some] at h
 obtain ⟨h1,h2,h3⟩:=h
 rw [List.mem_range'] at h2
 obtain ⟨q,h4,h5⟩:=h2
 refine ⟨by omega,by omega,h1,fun k hk1 hk2=>?_⟩
 have:=h3 k hk1 hk2
 simpa using this
theorem Z1h {P:List R1} {l:List Int} {i:Nat} (h:W0 P l i=none):∀ k,i≤k→k<P.length→Ut P l k=false:=by
 rw [W0,List.find?_eq_none] at h
 intro k hk1 hk2
 have:=h k (by rw [List.mem_range'];exact ⟨k - i,by omega,by omega⟩)
 simpa using this
theorem Z2m {P:List R1} {l:List Int} {i:Nat} (hi:i<P.length):Ut P l i=true↔(i:Int) ∉ l∧∀ p ∈ P[i],p ∈ l:=by
 rw [Ut,List.getD_eq_getElem?_getD,List.getElem?_eq_getElem hi]
 simp
def U0 (P:List R1) (l:List Int):Prop:=l.Nodup∧(∀ x ∈ l,0≤x∧x<(P.length:Int))∧∀ (i:Nat) (hi:i<P.length),(i:Int) ∈ l→∀ p ∈ P[i],p ∈ l
theorem U0.len {P:List R1} {l:List Int} (h:U0 P l):l.length≤P.length:=by
 have h1:=Zjj (r:=(List.range P.length).map fun i:Nat=>(i:Int)) h.1 fun x hx=>by
  have:=h.2.1 x hx
  exact List.mem_map.2 ⟨x.toNat,List.mem_range.2 (by omega),by omega⟩
 simpa using h1
theorem U0.step {P:List R1} {l:List Int} {j:Nat} (h:U0 P l) (hn:W0 P l 0=some j):U0 P (l++[(j:Int)])∧l.length<P.length:=by
 obtain ⟨_,h2,h3,_⟩:=Zsx hn
 obtain ⟨h4,h5⟩:=(Z2m h2).1 h3
 have h6:U0 P (l++[(j:Int)]):=by
  refine ⟨?_,?_,?_⟩
  ·rw [List.nodup_append]
   refine ⟨h.1,by simp,fun a ha b hb e=>?_⟩
   rw [List.mem_singleton] at hb;subst hb;subst e;exact h4 ha
  ·intro x hx
   rcases List.mem_append.1 hx with hx | hx
   ·exact h.2.1 x hx
   ·rw [List.mem_singleton] at hx;omega
  ·intro i hi hm p hp
   rcases List.mem_append.1 hm with hm | hm
   ·exact List.mem_append_left _ (h.2.2 i hi hm p hp)
   ·rw [List.mem_singleton] at hm
    have:i=j:=by omega
    subst this
    exact List.mem_append_left _ (h5 p hp)
 exact ⟨h6,by have:=h6.len;rw [nA,nC,nN] at this;omega⟩
theorem Zta {N:Nat} {P:List R1} (hP:P.length<1048576) (hls:∀ x ∈ P,x.length≤1048576) (hN:1048576<N):∀ (n:Nat) (l:List Int),U0 P l→P.length<n+l.length→
  ∃ r,V4 N P n l=some r∧U0 P r∧W0 P r 0=none
 | 0,l,h,hn=>by have:=h.len;omega
 | n+1,l,h,hn=>by
  have hl:=h.len
  rw [Zs9 (by omega) hls (by omega) hN]
  cases hnx:W0 P l 0 with
  | none=>exact ⟨l,rfl,h,hnx⟩
  | some j=>
   obtain ⟨h1,h2⟩:=h.step hnx
   exact Zta hP hls hN n _ h1 (by simp;omega)
theorem Z1r {N:Nat} {P:List R1} (hP:P.length<1048576) (hls:∀ x ∈ P,x.length≤1048576) (hN:1048576<N):∃ r,Sw N P=some r∧U0 P r∧W0 P r 0=none:=by
 rw [Sw]
 exact Zta hP hls hN N [] ⟨.nil,by simp,by simp⟩ (by simp;omega)
def gD (h:List Int) (j:Nat):Int:=h.getD j 0
theorem Sh {h:List Int} {j:Nat} (hj:j<h.length):gD h j=h[j]:=by rw [gD,List.getD_eq_getElem?_getD,List.getElem?_eq_getElem hj];rfl
theorem S9 {h:List Int} {j:Nat} (hj:j<h.length):Zl h (j:Int)=some (gD h j):=by rw [Zv hj,Sh hj]
def Uv (h:List Int) (i p:Nat):List Int:=(h.set i (gD h p)).set p (gD h i)
theorem Zju (h:List Int) (i p:Nat):(Uv h i p).length=h.length:=by simp [Uv]
theorem Zv6 {h:List Int} {i p:Nat} (hi:i<h.length) (hp:p<h.length):(Uv h i p).Perm h:=by
 rw [Uv,Sh hi,Sh hp];exact List.set_set_perm hi hp
theorem Zkv (h:List Int) (i j:Nat) (x:Int) (hi:i<h.length):gD (h.set i x) j=if j=i then x else gD h j:=by
 rw [gD,gD,List.getD_eq_getElem?_getD,List.getD_eq_getElem?_getD,List.getElem?_set]
 by_cases h1:i=j
 ·subst h1;rw [if_pos rfl,if_pos hi,if_pos rfl];rfl
 ·rw [if_neg h1,if_neg (Ne.symm h1)]
theorem Zbc {h:List Int} {i p:Nat} (hi:i<h.length) (hp:p<h.length) (j:Nat):gD (Uv h i p) j=if j=p then gD h i else if j=i then gD h p else gD h j:=by
 rw [Uv,Zkv _ _ _ _ (by simpa using hp),Zkv _ _ _ _ hi]
def Tg (h:List Int) (n:Nat):Prop:=∀ j,0<j→j<n→gD h ((j - 1) / 2)≤gD h j
theorem Tg.min {h:List Int} {n:Nat} (hh:Tg h n):∀ j,j<n→gD h 0≤gD h j:=by
 intro j
 induction j using Nat.strongRecOn with
 | ind j ih=>
  intro hj
  by_cases h0:j=0
  ·subst h0;exact Int.le_refl _
  ·exact Int.le_trans (ih ((j - 1) / 2) (by omega) (by omega)) (hh j (by omega) hj)
/-! ### push -/
def Zj6 (h:List Int) (i:Nat):Prop:=(∀ j,0<j→j<h.length→j≠i→gD h ((j - 1) / 2)≤gD h j)∧∀ j,0<j→j<h.length→(j - 1) / 2=i→0<i→gD h ((i - 1) / 2)≤gD h j
theorem Zj6.step {h:List Int} {i:Nat} (hu:Zj6 h i) (hi:i<h.length) (h0:0<i) (hlt:gD h i<gD h ((i - 1) / 2)):Zj6 (Uv h i ((i - 1) / 2)) ((i - 1) / 2):=by
 have hp:(i - 1) / 2<h.length:=by omega
 refine ⟨fun j hj0 hj hjp=>?_,fun j hj0 hj hjp hp0=>?_⟩
 ·rw [Zju] at hj
  rw [Zbc hi hp,Zbc hi hp,if_neg hjp]
  by_cases hji:j=i
  ·subst hji;rw [if_pos rfl,if_pos rfl];omega
  ·rw [if_neg hji]
   have h1:=hu.1 j hj0 hj hji
   by_cases hq:(j - 1) / 2=(i - 1) / 2
   ·rw [if_pos hq];rw [hq] at h1;omega
   ·rw [if_neg hq]
    by_cases hq2:(j - 1) / 2=i
    ·rw [if_pos hq2];exact hu.2 j hj0 hj hq2 h0
    ·rw [if_neg hq2];exact h1
 ·rw [Zju] at hj
  rw [Zbc hi hp,Zbc hi hp,if_neg (by omega),if_neg (by omega),if_neg (by omega)]
  have h1:=hu.1 ((i - 1) / 2) hp0 hp (by omega)
  by_cases hji:j=i
  ·rw [if_pos hji];exact h1
  ·rw [if_neg hji]
   have h2:=hu.1 j hj0 hj hji
   rw [hjp] at h2;omega
theorem Zth {i:Nat} (h0:0<i) (h1:i≤9000000):i64.wrap (Int.tdiv (i64.wrap ((i:Int) - 1)) 2)=(((i - 1) / 2:Nat):Int):=by
 rw [Zs (x:=(i:Int) - 1) (by omega),Int.tdiv_eq_ediv_of_nonneg (by omega),Zs (by omega)];omega
theorem Ztm (N:Nat):∀ (n:Nat) (h:List Int) (i:Nat),i<n→i<h.length→h.length≤9000000→Zj6 h i→
  ∃ h',Zaa N n h (i:Int)=some h'∧h'.Perm h∧Tg h' h'.length
 | 0,h,i,hn,_,_,_=>by omega
 | n+1,h,i,hn,hi,hl,hu=>by
  rw [Zaa.eq_2]
  by_cases h0:0<i
  ·have hp:(i - 1) / 2<h.length:=by omega
   rw [if_pos (dT (by omega)),S9 hi,oB,Zth h0 (by omega),S9 hp,oB,Zfd,Zth h0 (by omega)]
   by_cases hlt:gD h i<gD h ((i - 1) / 2)
   ·obtain ⟨h',h1,h2,h3⟩:=Ztm N n (Uv h i ((i - 1) / 2)) ((i - 1) / 2) (by omega) (by rw [Zju];exact hp) (by rw [Zju];exact hl) (hu.step hi h0 hlt)
    refine ⟨h',?_,h2.trans (Zv6 hi hp),h3⟩
    rw [if_pos (dT hlt),S9 hp,oB,S9 hi,oB,oB,Int.toNat_natCast,Int.toNat_natCast,Zv (by simpa using hp),oB,oB]
    exact h1
   ·refine ⟨h,by rw [if_neg (by simpa using hlt)],.refl _,fun j hj0 hj=>?_⟩
    by_cases hji:j=i
    ·subst hji;omega
    ·exact hu.1 j hj0 hj hji
  ·have:i=0:=by omega
   subst this
   rw [if_neg (by decide),Zfd,if_neg (by decide)]
   exact ⟨h,rfl,.refl _,fun j hj0 hj=>hu.1 j hj0 hj (by omega)⟩
theorem Zrh {h:List Int} {x:Int} {j:Nat} (hj:j<h.length):gD (h++[x]) j=gD h j:=by
 rw [Sh hj,Sh (by simp;omega),List.getElem_append_left hj]
theorem Ztn {N:Nat} {h:List Int} (x:Int) (hl:h.length<2000000) (hh:Tg h h.length) (hN:2000000<N):∃ h',Zfc N h x=some h'∧h'.Perm (x :: h)∧Tg h' h'.length:=by
 rw [Zfc,Z6 (by simp only [nC,nN,maxLen];omega)]
 have hle:(h++[x]).length=h.length+1:=by simp
 rw [Zs (by omega),show (((h++[x]).length:Int) - 1)=((h.length:Nat):Int) by omega]
 obtain ⟨h',h1,h2,h3⟩:=Ztm N N (h++[x]) h.length (by omega) (by omega) (by omega) ⟨fun j hj0 hj hji=>by rw [Zrh (by omega),Zrh (by omega)];exact hh j hj0 (by omega),fun j hj0 hj hji h0=>by omega⟩
 exact ⟨h',h1,h2.trans (List.perm_append_singleton x h),h3⟩
/-! ### pop -/
def Zhp (l:List Int) (n i:Nat):Prop:=(∀ j,0<j→j<n→(j - 1) / 2≠i→gD l ((j - 1) / 2)≤gD l j)∧∀ j,0<j→j<n→(j - 1) / 2=i→0<i→gD l ((i - 1) / 2)≤gD l j
theorem Zhp.step {l:List Int} {n i q:Nat} (hu:Zhp l n i) (hn:n≤l.length) (hi:i<n) (hq:q<n) (hqi:(q - 1) / 2=i) (hq0:0<q) (hlt:gD l q<gD l i) (hle:∀ j,0<j→j<n→(j - 1) / 2=i→gD l q≤gD l j):Zhp (Uv l i q) n q:=by
 have hi':i<l.length:=by omega
 have hq':q<l.length:=by omega
 refine ⟨fun j hj0 hj hjp=>?_,fun j hj0 hj hjp _=>?_⟩
 ·rw [Zbc hi' hq',Zbc hi' hq',if_neg hjp]
  by_cases h1:(j - 1) / 2=i
  ·rw [if_pos h1]
   by_cases h2:j=q
   ·rw [if_pos h2];omega
   ·rw [if_neg h2,if_neg (by omega)];exact hle j hj0 hj h1
  ·rw [if_neg h1,if_neg (show j≠q by omega)]
   by_cases h2:j=i
   ·subst h2
    rw [if_pos rfl];exact hu.2 q hq0 hq hqi hj0
   ·rw [if_neg h2];exact hu.1 j hj0 hj h1
 ·rw [Zbc hi' hq',Zbc hi' hq',hqi,if_neg (by omega),if_pos rfl,if_neg (by omega),if_neg (by omega)]
  have:=hu.1 j hj0 hj (by omega)
  rwa [hjp] at this
theorem Z3e {l:List Int} {n i q:Nat} (hn:n≤l.length) (hi:i<n) (hq:q<n):(Uv l i q).take n=Uv (l.take n) i q:=by
 have h1:∀ j,j<n→gD (l.take n) j=gD l j:=fun j hj=>by rw [Sh (by simp;omega),Sh (by omega),List.getElem_take]
 rw [Uv,Uv,List.take_set,List.take_set,h1 i hi,h1 q hq]
theorem Ztl (N:Nat) (p0:List Int) (x0:Int) (n:Nat) (hp0:p0.length=n+1) (hn:n≤2000000) (hN:2000000<N):∀ (m:Nat) (l:List Int) (i:Nat),n<m+i→(i<n∨n=0∧i=0)→l.length=n+1→Zhp l n i→
  ∃ t,To N p0 x0 m l (i:Int)=some (x0,t)∧t.Perm (l.take n)∧Tg t n
 | 0,l,i,hm,hi,hl,hu=>by omega
 | m+1,l,i,hm,hi,hl,hu=>by
  rw [To.eq_2]
  obtain ⟨N,rfl⟩:∃ N',N=N'+1+1+1:=⟨N - 3,by omega⟩
  have w1:i64.wrap ((p0.length:Int) - 1)=(n:Int):=by rw [Zs (by omega)];omega
  have wa:i64.wrap (i64.wrap (2 * (i:Int))+1)=((2 * i+1:Nat):Int):=by rw [Zs (x:=2 * (i:Int)) (by omega),Zs (by omega)];omega
  have wb:i64.wrap (i64.wrap (2 * (i:Int))+2)=((2 * i+2:Nat):Int):=by rw [Zs (x:=2 * (i:Int)) (by omega),Zs (by omega)];omega
  -- one child after the other
  have stepv:∀ (v:Nat) (k least:Nat),v<2→k=2 * i+1+v→(least<n∨n=0)→least<l.length→∀ f kk,Tp (N+1+1+1) p0 x0 l (i:Int) kk (f+1) (v:Int) (least:Int)=
    Tp (N+1+1+1) p0 x0 l (i:Int) kk f ((v+1:Nat):Int) ((if k<n∧gD l k<gD l least then k else least:Nat):Int):=by
   intro v k least hv hk hle hll f kk
   rw [Tp.eq_2,if_pos (dT (by omega)),wa,wb,w1]
   have hat:Zl [((2 * i+1:Nat):Int),((2 * i+2:Nat):Int)] (v:Int)=some (k:Int):=by
    rw [Q5]
    match v,hv with
    | 0,_=>simp [hk]
    | 1,_=>simp [hk];omega
   rw [hat,oB]
   by_cases h1:k<n
   ·rw [if_pos (dT (by omega)),S9 (by omega),oB,S9 hll,oB,Zfb,Zbg,Zbg,wS (by omega)]
    by_cases h2:gD l k<gD l least
    ·rw [if_pos (dT h2),if_pos ⟨h1,h2⟩]
    ·rw [if_neg (by simpa using h2),if_neg (fun h=>h2 h.2)]
   ·rw [if_neg (by rw [decide_eq_true_eq];omega),Zfb,Zbg,Zbg,if_neg (by decide),wS (by omega),if_neg (fun h=>h1 h.1)]
  have hil:i<l.length:=by omega
  have e1:=stepv 0 (2 * i+1) i (by omega) (by omega) (by omega) hil (N+1+1) (To (N+1+1+1) p0 x0 m)
  generalize hq1:(if 2 * i+1<n∧gD l (2 * i+1)<gD l i then 2 * i+1 else i)=q1 at e1
  have hq1':(q1=i∧(2 * i+1<n→gD l i≤gD l (2 * i+1)))∨(q1=2 * i+1∧q1<n∧gD l q1<gD l i):=by
   by_cases hc:2 * i+1<n∧gD l (2 * i+1)<gD l i
   ·rw [if_pos hc] at hq1;subst hq1;exact .inr ⟨rfl,hc.1,hc.2⟩
   ·rw [if_neg hc] at hq1;subst hq1;exact .inl ⟨rfl,fun h=>by omega⟩
  have e2:=stepv 1 (2 * i+2) q1 (by omega) (by omega) (by omega) (by omega) (N+1) (To (N+1+1+1) p0 x0 m)
  generalize hq2:(if 2 * i+2<n∧gD l (2 * i+2)<gD l q1 then 2 * i+2 else q1)=q2 at e2
  have hq2':(q2=i∧(2 * i+1<n→gD l i≤gD l (2 * i+1))∧(2 * i+2<n→gD l i≤gD l (2 * i+2)))∨((q2=2 * i+1∨q2=2 * i+2)∧q2<n∧gD l q2<gD l i∧(2 * i+1<n→gD l q2≤gD l (2 * i+1))∧(2 * i+2<n→gD l q2≤gD l (2 * i+2))):=by
   by_cases hc:2 * i+2<n∧gD l (2 * i+2)<gD l q1
   ·rw [if_pos hc] at hq2;subst hq2
    rcases hq1' with ⟨rfl,h3⟩ | ⟨rfl,h3,h4⟩
    ·exact .inr ⟨.inr rfl,hc.1,hc.2,fun h=>by have:=h3 h;omega,fun _=>Int.le_refl _⟩
    ·exact .inr ⟨.inr rfl,hc.1,by omega,fun _=>by omega,fun _=>Int.le_refl _⟩
   ·rw [if_neg hc] at hq2;subst hq2
    rcases hq1' with ⟨rfl,h3⟩ | ⟨rfl,h3,h4⟩
    ·exact .inl ⟨rfl,h3,fun h=>by omega⟩
    ·exact .inr ⟨.inl rfl,h3,h4,fun _=>Int.le_refl _,fun h=>by omega⟩
  rw [show (0:Int)=((0:Nat):Int) from rfl,e1]
  rw [show ((0+1:Nat):Int)=((1:Nat):Int) from rfl,e2,Tp.eq_2,if_neg (by decide),w1,Int.toNat_natCast]
  rcases hq2' with ⟨rfl,h3,h4⟩ | ⟨h2,h3,h4,h5,h6⟩
  ·rw [if_pos (by simp)]
   refine ⟨_,rfl,.refl _,fun j hj0 hj=>?_⟩
   have ht:∀ k,k<n→gD (l.take n) k=gD l k:=fun k hk=>by rw [Sh (by simp;omega),Sh (by omega),List.getElem_take]
   rw [ht _ (by omega),ht _ hj]
   by_cases hq:(j - 1) / 2=q2
   ·rw [hq]
    rcases (show j=2 * q2+1∨j=2 * q2+2 by omega) with rfl | rfl
    ·exact h3 hj
    ·exact h4 hj
   ·exact hu.1 j hj0 hj hq
  ·have hq2l:q2<l.length:=by omega
   have hin:i<n:=by omega
   have hd:=hu.step (by omega) hin h3 (by omega) (by omega) h4 (fun j hj0 hj hji=>by
    rcases (show j=2 * i+1∨j=2 * i+2 by omega) with rfl | rfl
    ·exact h5 hj
    ·exact h6 hj)
   obtain ⟨t,k1,k2,k3⟩:=Ztl (N+1+1+1) p0 x0 n hp0 hn hN m (Uv l i q2) q2 (by omega) (.inl h3) (by rw [Zju];exact hl) hd
   refine ⟨t,?_,k2.trans ?_,k3⟩
   ·rw [if_neg (by simp;omega),S9 hq2l,oB,S9 hil,oB,oB,Int.toNat_natCast,Int.toNat_natCast,Zv (by simpa using hq2l),oB,oB]
    exact k1
   ·rw [Z3e (by omega) hin h3];exact Zv6 (by simp;omega) (by simp;omega)
theorem Z1v {N:Nat} {h:List Int} (hl:h.length≤2000000) (h0:0<h.length) (hh:Tg h h.length) (hN:2000000<N):∃ x t,Zh1 N h=some (x,t)∧h.Perm (x :: t)∧(∀ y ∈ h,x≤y)∧Tg t t.length:=by
 rw [Zh1]
 obtain ⟨n,hn⟩:∃ n,h.length=n+1:=⟨h.length - 1,by omega⟩
 have w1:i64.wrap ((h.length:Int) - 1)=(n:Int):=by rw [Zs (by omega)];omega
 rw [w1,show (0:Int)=((0:Nat):Int) from rfl,S9 h0,oB,S9 (by omega),oB,oB,Z6 (by simp;omega),Int.toNat_natCast]
 have hd:Zhp (h.set 0 (gD h n)) n 0:=by
  refine ⟨fun j hj0 hj hji=>?_,fun j _ _ _ h=>by omega⟩
  rw [Zkv _ _ _ _ h0,Zkv _ _ _ _ h0,if_neg (by omega),if_neg (by omega)]
  exact hh j hj0 (by omega)
 obtain ⟨t,h1,h2,h3⟩:=Ztl N h (gD h 0) n hn (by omega) hN N (h.set 0 (gD h n)) 0 (by omega) (by omega) (by simpa using hn) hd
 have hpm:h.Perm (gD h 0 :: (h.set 0 (gD h n)).take n):=by
  match h,hn with
  | x :: r,hn=>
   have hr:r.length=n:=by simpa using hn
   match n,hr with
   | 0,hr=>rw [List.length_eq_zero_iff.1 hr];exact .refl _
   | n+1,hr=>
    have e:gD (x :: r) (n+1)=gD r n:=rfl
    rw [e,List.set_cons_zero,List.take_succ_cons]
    refine List.Perm.cons x ?_
    have:r=r.take n++[gD r n]:=by
     have:=List.take_succ_eq_append_getElem (show n<r.length by omega)
     rw [List.take_of_length_le (by omega)] at this
     rw [Sh (by omega)];exact this
    conv=>lhs;rw [this]
    exact List.perm_append_singleton _ _
 have hp2:h.Perm (gD h 0 :: t):=hpm.trans (List.Perm.cons _ h2.symm)
 refine ⟨gD h 0,t,h1,hp2,fun y hy=>?_,?_⟩
 ·obtain ⟨j,hj,rfl⟩:=List.getElem_of_mem hy
  rw [← Sh hj];exact hh.min j hj
 ·have:=hp2.length_eq
  rw [nC,hn] at this
  rw [show t.length=n by omega];exact h3
theorem Yr {α:Type} {l:List α} {d:α} {j:Nat} (hj:j<l.length):l.getD j d=l[j]:=by rw [List.getD_eq_getElem?_getD,List.getElem?_eq_getElem hj];rfl
theorem Wf {α:Type} {l:List α} (d:α) {j:Nat} (hj:j<l.length):Zl l (j:Int)=some (l.getD j d):=by rw [Zv hj,Yr hj]
theorem Qb {α:Type} (l:List α) (d:α) (i j:Nat) (x:α) (hi:i<l.length):(l.set i x).getD j d=if j=i then x else l.getD j d:=by
 rw [List.getD_eq_getElem?_getD,List.getD_eq_getElem?_getD,List.getElem?_set]
 by_cases h1:i=j
 ·subst h1;rw [if_pos rfl,if_pos hi,if_pos rfl];rfl
 ·rw [if_neg h1,if_neg (Ne.symm h1)]
def Vl:Nat→List R1→Int→List Int
 | _,[],_=>[]
 | k,l :: P,p=>List.replicate (l.count p) (k:Int)++Vl (k+1) P p
def Zj1 (n:Nat) (l:List Int):Prop:=∀ x ∈ l,0≤x∧x<(n:Int)
theorem Zqb (k:Nat) (kk:Nat→List R1→Option R4):∀ (l:List Int) (out:List R1),Zj1 out.length l→(∀ p:Nat,(out.getD p []).length+l.length≤1048576)→
  ∃ out',Zbe k kk l out=kk (k+1) out'∧out'.length=out.length∧∀ p:Nat,p<out.length→out'.getD p []=out.getD p []++List.replicate (l.count (p:Int)) (k:Int)
 | [],out,h,hb=>⟨out,by rw [Zbe.eq_1],rfl,fun p hp=>by simp⟩
 | x :: l,out,h,hb=>by
  obtain ⟨h0,h1⟩:=h x List.mem_cons_self
  obtain ⟨q,rfl⟩:=Int.eq_ofNat_of_zero_le h0
  have hq:q<out.length:=by omega
  have hbq:=hb q
  simp only [nC] at hbq hb
  rw [Zbe.eq_2,Wf [] hq,oB,Z6 (by simp only [nC,nN,maxLen];omega),Int.toNat_natCast]
  obtain ⟨out',h2,h3,h4⟩:=Zqb k kk l (out.set q (out.getD q []++[(k:Int)])) (by rw [nS];exact fun y hy=>h y (List.mem_cons_of_mem _ hy)) (fun p=>by
   rw [Qb _ _ _ _ _ hq]
   have:=hb p
   split
   ·simp only [nA,nC,nN];omega
   ·omega)
  refine ⟨out',h2,by rw [h3,nS],fun p hp=>?_⟩
  rw [h4 p (by rw [nS];exact hp),Qb _ _ _ _ _ hq,List.count_cons]
  by_cases hpq:p=q
  ·subst hpq
   rw [if_pos rfl,if_pos (by simp),List.append_assoc,show l.count (p:Int)+1=1+l.count (p:Int) by omega,show [(k:Int)]=List.replicate 1 (k:Int) from rfl,List.replicate_append_replicate]
  ·rw [if_neg hpq,if_neg (by simp;omega),Nat.add_zero]
theorem Zrp (p:Int):∀ (k:Nat) (P:List R1),(Vl k P p).length≤Ui P
 | _,[]=>by simp [Vl]
 | k,l :: P=>by
  rw [Vl,nA,List.length_replicate,Zjv]
  have:=Zrp p (k+1) P
  have:=List.count_le_length (a:=p) (l:=l)
  omega
theorem Zqa (n:Nat):∀ (P:List R1) (k:Nat) (out:List R1),out.length=n→(∀ l ∈ P,Zj1 n l)→(∀ p:Nat,(out.getD p []).length+Ui P≤1048576)→
  ∃ out',Qc P k out=some out'∧out'.length=n∧∀ p:Nat,p<n→out'.getD p []=out.getD p []++Vl k P p
 | [],k,out,hn,_,_=>⟨out,by rw [Qc.eq_1],hn,fun p hp=>by simp [Vl]⟩
 | l :: P,k,out,hn,h,hb=>by
  simp only [Zjv] at hb
  rw [Qc.eq_2]
  obtain ⟨out1,h1,h2,h3⟩:=Zqb k (Qc P) l out (by rw [hn];exact h l List.mem_cons_self) (fun p=>by have:=hb p;omega)
  obtain ⟨out',h4,h5,h6⟩:=Zqa n P (k+1) out1 (by omega) (fun x hx=>h x (List.mem_cons_of_mem _ hx)) (fun p=>by
   have:=hb p
   by_cases hp:p<out.length
   ·rw [h3 p hp,nA,List.length_replicate]
    have:=List.count_le_length (a:=(p:Int)) (l:=l)
    omega
   ·rw [List.getD_eq_getElem?_getD,List.getElem?_eq_none (by omega)];simp;omega)
  refine ⟨out',by rw [h1,h4],h5,fun p hp=>?_⟩
  rw [h6 p hp,h3 p (by omega),List.append_assoc,Vl]
theorem Zzf {P:List R1} (hP:P.length≤1048576) (ht:Ui P≤1048576) (h:∀ l ∈ P,Zj1 P.length l):∃ D,Ze8 P=some D∧D.length=P.length∧∀ p:Nat,p<P.length→D.getD p []=Vl 0 P p:=by
 rw [Ze8,Z6 (by simp only [maxLen];omega)]
 have hr:∀ p:Nat,(List.replicate P.length ([]:List Int)).getD p []=[]:=fun p=>by
  rw [List.getD_eq_getElem?_getD,List.getElem?_replicate];split <;> rfl
 obtain ⟨D,h1,h2,h3⟩:=Zqa P.length P 0 (List.replicate P.length []) (by simp) h (fun p=>by rw [hr];simpa using ht)
 exact ⟨D,h1,h2,fun p hp=>by rw [h3 p hp,hr];rfl⟩
theorem Znt (p:Int):∀ (k:Nat) (P:List R1) (c:Nat),(Vl k P p).count (c:Int)=if k≤c then (P.getD (c - k) []).count p else 0
 | k,[],c=>by simp [Vl]
 | k,l :: P,c=>by
  rw [Vl,List.count_append,Znt p (k+1) P c,List.count_replicate]
  by_cases h1:k=c
  ·subst h1
   rw [if_pos (by simp),if_neg (by omega),if_pos (Nat.le_refl _),Nat.sub_self];rfl
  ·rw [if_neg (by simp;omega)]
   by_cases h2:k≤c
   ·rw [if_pos (by omega),if_pos h2,show c - k=(c - (k+1))+1 by omega];simp
   ·rw [if_neg (by omega),if_neg h2]
theorem Zrq (p:Int):∀ (k:Nat) (P:List R1) (x:Int),x ∈ Vl k P p→∃ c:Nat,x=(c:Int)∧k≤c∧c<k+P.length
 | k,[],x,h=>by simp [Vl] at h
 | k,l :: P,x,h=>by
  rw [Vl] at h
  rcases List.mem_append.1 h with h | h
  ·exact ⟨k,(List.mem_replicate.1 h).2,Nat.le_refl _,by simp⟩
  ·obtain ⟨c,h1,h2,h3⟩:=Zrq p (k+1) P x h
   exact ⟨c,h1,by omega,by rw [nC];omega⟩
def U2 (P:List R1) (out:List Int) (c:Nat):Nat:=(P.getD c []).countP fun q=>!decide (q ∈ out)
theorem Zqk (out:List Int) (p:Int) (hp:p ∉ out):∀ l:List Int,(l.countP fun q=>!decide (q ∈ out))=(l.countP fun q=>!decide (q ∈ out++[p]))+l.count p
 | []=>rfl
 | x :: l=>by
  rw [List.countP_cons,List.countP_cons,List.count_cons,Zqk out p hp l]
  by_cases h1:x=p
  ·subst h1
   have h2:(!decide (x ∈ out))=true:=by simp [hp]
   have h3:(!decide (x ∈ out++[x]))=false:=by simp
   rw [h2,h3];simp;omega
  ·have h3:(x ∈ out++[p])↔x ∈ out:=by simp [h1]
   rw [show (!decide (x ∈ out++[p]))=(!decide (x ∈ out)) from congrArg _ (decide_eq_decide.2 h3),if_neg (show ¬ ((x==p)=true) by simpa using h1)];omega
theorem Zqj {P:List R1} {out:List Int} {p:Int} (hp:p ∉ out) (c:Nat):U2 P out c=U2 P (out++[p]) c+(P.getD c []).count p:=Zqk out p hp _
theorem Zuo (P:List R1) (out:List Int) (c:Nat):Ut P out c=true↔(c:Int) ∉ out∧U2 P out c=0:=by
 rw [Ut,U2,List.countP_eq_zero]
 simp
structure Zj2 (P:List R1) (out left ready:List Int):Prop where
 ok:U0 P out
 len:left.length=P.length
 cnt:∀ c:Nat,c<P.length→left.getD c 0=(U2 P out c:Int)
 heap:Tg ready ready.length
 nd:ready.Nodup
 mem:∀ y:Int,y ∈ ready↔∃ c:Nat,c<P.length∧y=(c:Int)∧(c:Int) ∉ out∧left.getD c 0=0
theorem Zov (N:Nat) (P:List R1) (hP:P.length≤1048576) (ht:Ui P≤1048576) (hN:2000000<N) (out:List Int) (p:Nat) (r2:List Int) (kk:List Int→List Int→List Int→Option R1):
  ∀ (rest left ready:List Int),rest.length≤9000000000000000000→left.length=P.length→(∀ c:Nat,c<P.length→left.getD c 0=((U2 P (out++[(p:Int)]) c+rest.count (c:Int):Nat):Int))→
   Tg ready ready.length→ready.Nodup→(∀ y:Int,y ∈ ready↔∃ c:Nat,c<P.length∧y=(c:Int)∧(c:Int) ∉ out++[(p:Int)]∧left.getD c 0=0)→
   (∀ x ∈ rest,∃ c:Nat,c<P.length∧x=(c:Int)∧x ∉ out++[(p:Int)])→
   ∃ left' ready',Qh N out kk ((p:Int),r2) rest left ready=kk left' ready' (out++[(p:Int)])∧left'.length=P.length∧(∀ c:Nat,c<P.length→left'.getD c 0=(U2 P (out++[(p:Int)]) c:Int))∧
    Tg ready' ready'.length∧ready'.Nodup∧∀ y:Int,y ∈ ready'↔∃ c:Nat,c<P.length∧y=(c:Int)∧(c:Int) ∉ out++[(p:Int)]∧left'.getD c 0=0
 | [],left,ready,_,h1,h2,h3,h4,h5,_=>⟨left,ready,by rw [Qh.eq_1],h1,fun c hc=>by rw [h2 c hc];simp,h3,h4,h5⟩
 | x :: rest,left,ready,hrest,h1,h2,h3,h4,h5,h6=>by
  obtain ⟨c0,hc0,rfl,hx⟩:=h6 x List.mem_cons_self
  have hc0l:c0<left.length:=by omega
  have hcx:=h2 c0 hc0
  rw [List.count_cons,if_pos (by simp)] at hcx
  have hle:U2 P (out++[(p:Int)]) c0≤1048576:=by
   have h7:=List.countP_le_length (p:=fun q=>!decide (q ∈ out++[(p:Int)])) (l:=P.getD c0 [])
   rw [Yr hc0] at h7
   have h8:=Zml (P:=P) (List.getElem_mem hc0)
   rw [U2,Yr hc0];omega
  have hrl:ready.length≤P.length:=by
   have h7:=Zjj (r:=(List.range P.length).map fun i:Nat=>(i:Int)) h4 fun y hy=>by
    obtain ⟨c,h8,h9,_⟩:=(h5 y).1 hy
    exact List.mem_map.2 ⟨c,List.mem_range.2 h8,h9.symm⟩
   simpa using h7
  have hv:i64.wrap (left.getD c0 0 - 1)=((U2 P (out++[(p:Int)]) c0+rest.count (c0:Int):Nat):Int):=by
   have h9:=List.count_le_length (a:=(c0:Int)) (l:=rest)
   rw [hcx,Zs]
   ·omega
   ·simp only [nC] at hrest
    omega
  have hl1:∀ c:Nat,c<P.length→(left.set c0 (i64.wrap (left.getD c0 0 - 1))).getD c 0=((U2 P (out++[(p:Int)]) c+rest.count (c:Int):Nat):Int):=fun c hc=>by
   rw [Qb _ _ _ _ _ hc0l]
   by_cases hcc:c=c0
   ·subst hcc;rw [if_pos rfl,hv]
   ·rw [if_neg hcc,h2 c hc,List.count_cons,if_neg (by simp;omega),Nat.add_zero]
  have hne:left.getD c0 0≠0:=by rw [hcx];omega
  have hnr:(c0:Int) ∉ ready:=fun h=>by
   obtain ⟨c,h8,h9,_,h10⟩:=(h5 _).1 h
   have:c=c0:=by omega
   subst this;exact hne h10
  have h6':∀ x ∈ rest,∃ c:Nat,c<P.length∧x=(c:Int)∧x ∉ out++[(p:Int)]:=fun x hx=>h6 x (List.mem_cons_of_mem _ hx)
  have hr':rest.length≤9000000000000000000:=by simp only [nC] at hrest;omega
  rw [Qh.eq_2,Wf 0 hc0l,oB,oB,Int.toNat_natCast,Wf 0 (by rw [nS];exact hc0l),oB,Zff,Qb _ _ _ _ _ hc0l,if_pos rfl]
  by_cases hz:i64.wrap (left.getD c0 0 - 1)=0
  ·obtain ⟨ready1,k1,k2,k3⟩:=Ztn (N:=N) (c0:Int) (by omega:ready.length<2000000) h3 hN
   rw [if_pos (by simpa using hz),k1,oB,Zff]
   refine Zov N P hP ht hN out p r2 kk rest _ ready1 hr' (by rw [nS];exact h1) hl1 k3 (k2.nodup_iff.2 (List.nodup_cons.2 ⟨hnr,h4⟩)) (fun y=>?_) h6'
   rw [k2.mem_iff,List.mem_cons]
   constructor
   ·rintro (rfl | hy)
    ·exact ⟨c0,hc0,rfl,hx,by rw [Qb _ _ _ _ _ hc0l,if_pos rfl,hz]⟩
    ·obtain ⟨c,h8,h9,h10,h11⟩:=(h5 y).1 hy
     refine ⟨c,h8,h9,h10,?_⟩
     rw [Qb _ _ _ _ _ hc0l]
     split
     ·exact hz
     ·exact h11
   ·rintro ⟨c,h8,h9,h10,h11⟩
    by_cases hcc:c=c0
    ·subst hcc;exact .inl h9
    ·rw [Qb _ _ _ _ _ hc0l,if_neg hcc] at h11
     exact .inr ((h5 y).2 ⟨c,h8,h9,h10,h11⟩)
  ·rw [if_neg (by simpa using hz)]
   refine Zov N P hP ht hN out p r2 kk rest _ ready hr' (by rw [nS];exact h1) hl1 h3 h4 (fun y=>?_) h6'
   rw [h5 y]
   constructor
   ·rintro ⟨c,h8,h9,h10,h11⟩
    refine ⟨c,h8,h9,h10,?_⟩
    rw [Qb _ _ _ _ _ hc0l,if_neg (fun h=>hne (by rw [← h];exact h11))];exact h11
   ·rintro ⟨c,h8,h9,h10,h11⟩
    refine ⟨c,h8,h9,h10,?_⟩
    rw [Qb _ _ _ _ _ hc0l] at h11
    split at h11
    ·exact absurd h11 hz
    ·exact h11
theorem Z3b {N:Nat} {P D:List R1} (hP:P.length≤1048576) (ht:Ui P≤1048576) (hN:2000000<N) (hD:D.length=P.length) (hDk:∀ p:Nat,p<P.length→D.getD p []=Vl 0 P p) {out left ready:List Int} (hi:Zj2 P out left ready) (n:Nat):
  (W0 P out 0=none→Ud N D (n+1) left ready out=some out)∧
  ∀ p,W0 P out 0=some p→∃ left' ready',Zj2 P (out++[(p:Int)]) left' ready'∧Ud N D (n+1) left ready out=Ud N D n left' ready' (out++[(p:Int)]):=by
 have hrl:ready.length≤P.length:=by
  have h7:=Zjj (r:=(List.range P.length).map fun i:Nat=>(i:Int)) hi.nd fun y hy=>by
   obtain ⟨c,h8,h9,_⟩:=(hi.mem y).1 hy
   exact List.mem_map.2 ⟨c,List.mem_range.2 h8,h9.symm⟩
  simpa using h7
 have hrd:∀ c:Nat,c<P.length→(Ut P out c=true↔(c:Int) ∈ ready):=fun c hc=>by
  rw [Zuo,hi.mem]
  constructor
  ·rintro ⟨h1,h2⟩;exact ⟨c,hc,rfl,h1,by rw [hi.cnt c hc,h2];rfl⟩
  ·rintro ⟨c',h1,h2,h3,h4⟩
   have:c'=c:=by omega
   subst this
   rw [hi.cnt c' h1] at h4
   exact ⟨h3,by omega⟩
 refine ⟨fun hn=>?_,fun p hn=>?_⟩
 ·have h0:ready=[]:=by
   cases hr:ready with
   | nil=>rfl
   | cons y l=>
    obtain ⟨c,h1,h2,_⟩:=(hi.mem y).1 (by rw [hr];exact List.mem_cons_self)
    have h3:=Z1h hn c (Nat.zero_le _) h1
    have h4:=(hrd c h1).2 (by rw [← h2,hr];exact List.mem_cons_self)
    rw [h3] at h4;cases h4
  rw [Ud.eq_2,h0,if_neg (by decide)]
 ·obtain ⟨_,hp,hr,hmin⟩:=Zsx hn
  have hpr:=(hrd p hp).1 hr
  have hpos:0<ready.length:=List.length_pos_of_mem hpr
  obtain ⟨x,t,k1,k2,k3,k4⟩:=Z1v (N:=N) (by omega:ready.length≤2000000) hpos hi.heap hN
  have hxr:x ∈ ready:=k2.mem_iff.2 List.mem_cons_self
  have hxp:x=(p:Int):=by
   obtain ⟨c,h1,h2,_⟩:=(hi.mem x).1 hxr
   have h3:=k3 _ hpr
   have h4:¬ c<p:=fun hlt=>by
    have h5:=hmin c (Nat.zero_le _) hlt
    have h6:=(hrd c h1).2 (by rw [← h2];exact hxr)
    rw [h5] at h6;cases h6
   omega
  subst hxp
  have hnd:((p:Int) :: t).Nodup:=k2.nodup_iff.1 hi.nd
  obtain ⟨hp1,hp2⟩:=(Zuo P out p).1 hr
  obtain ⟨hok,hlt⟩:=hi.ok.step hn
  have hol:=hi.ok.len
  have hself:(P.getD p []).count (p:Int)=0:=by have:=Zqj (P:=P) hp1 p;omega
  rw [Ud.eq_2,if_pos (dT (by omega)),k1,oB,Z6 (by simp only [nC,nN,maxLen];omega),Wf [] (by rw [hD];exact hp),oB,hDk p hp]
  have hkl:=Zrp (p:Int) 0 P
  obtain ⟨left',ready',h1,h2,h3,h4,h5,h6⟩:=Zov N P hP ht hN out p t (Ud N D n) (Vl 0 P p) left t (by omega) hi.len (fun c hc=>by
    rw [hi.cnt c hc,Zqj hp1 c,Znt (p:Int) 0 P c,if_pos (Nat.zero_le _),Nat.sub_zero]) k4 (List.nodup_cons.1 hnd).2 (fun y=>by
    have h7:y ∈ t↔y ∈ ready∧y≠(p:Int):=by
     rw [k2.mem_iff,List.mem_cons]
     exact ⟨fun h=>⟨.inr h,fun e=>(List.nodup_cons.1 hnd).1 (by rw [← e];exact h)⟩,fun h=>h.1.resolve_left h.2⟩
    rw [h7,hi.mem]
    constructor
    ·rintro ⟨⟨c,h8,h9,h10,h11⟩,h12⟩
     exact ⟨c,h8,h9,by rw [List.mem_append,List.mem_singleton];exact fun h=>h.elim h10 fun h=>h12 (by rw [h9,h]),h11⟩
    ·rintro ⟨c,h8,h9,h10,h11⟩
     rw [List.mem_append,List.mem_singleton] at h10
     exact ⟨⟨c,h8,h9,fun h=>h10 (.inl h),h11⟩,fun h=>h10 (.inr (by rw [← h9,h]))⟩) (fun x hx=>by
    obtain ⟨c,h7,_,h8⟩:=Zrq (p:Int) 0 P x hx
    have h8:c<P.length:=by omega
    have h9:=Znt (p:Int) 0 P c
    rw [if_pos (Nat.zero_le _),Nat.sub_zero] at h9
    have h10:0<(P.getD c []).count (p:Int):=by rw [← h9,← h7];exact List.count_pos_iff.2 hx
    refine ⟨c,h8,h7,fun h=>?_⟩
    rcases List.mem_append.1 h with h | h
    ·rw [h7] at h
     have h11:=hi.ok.2.2 c h8 h (p:Int) (by rw [Yr h8] at h10;exact List.count_pos_iff.1 h10)
     exact hp1 h11
    ·rw [List.mem_singleton] at h
     have:c=p:=by omega
     subst this
     omega)
  exact ⟨left',ready',⟨hok,h2,h3,h4,h5,h6⟩,h1⟩
theorem Zv2 {N:Nat} {P D:List R1} (hP:P.length<1048576) (hls:∀ x ∈ P,x.length≤1048576) (ht:Ui P≤1048576) (hN:2000000<N) (hD:D.length=P.length) (hDk:∀ p:Nat,p<P.length→D.getD p []=Vl 0 P p):∀ (n:Nat) (out left ready:List Int),Zj2 P out left ready→P.length<n+out.length→
  Ud N D n left ready out=V4 N P n out
 | 0,out,left,ready,hi,hn=>by have:=hi.ok.len;omega
 | n+1,out,left,ready,hi,hn=>by
  have hl:=hi.ok.len
  obtain ⟨h1,h2⟩:=Z3b (N:=N) (by omega) ht hN hD hDk hi n
  rw [Zs9 (by omega) hls (by omega) (by omega)]
  cases hnx:W0 P out 0 with
  | none=>rw [h1 hnx];rfl
  | some p=>
   obtain ⟨left',ready',h3,h4⟩:=h2 p hnx
   rw [h4]
   exact Zv2 hP hls ht hN hD hDk n _ _ _ h3 (by simp;omega)
theorem Zou {N:Nat} (P D:List R1) (hP:P.length<1048576) (hN:2000000<N) (hl:∀ l ∈ P,l.length≤1048576):∀ (Q:List R1) (k:Nat) (left ready:List Int),P.drop k=Q→k≤P.length→left.length=P.length→
  (∀ c:Nat,c<k→left.getD c 0=((P.getD c []).length:Int))→Tg ready ready.length→ready.Nodup→(∀ y:Int,y ∈ ready↔∃ c:Nat,c<k∧y=(c:Int)∧(P.getD c []).length=0)→
  ∃ left' ready',Qg N D Q k left ready=Ud N D N left' ready' []∧Zj2 P [] left' ready'
 | [],k,left,ready,hQ,hk,h1,h2,h3,h4,h5=>by
  have hkP:k=P.length:=by have:=congrArg List.length hQ;simp at this;omega
  subst hkP
  have hc0:∀ c,U2 P [] c=(P.getD c []).length:=fun c=>by
   rw [U2,List.countP_eq_length.2 (fun a _=>by simp)]
  refine ⟨left,ready,by rw [Qg.eq_1],⟨⟨.nil,by simp,by simp⟩,h1,fun c hc=>by rw [h2 c hc,hc0],h3,h4,fun y=>?_⟩⟩
  rw [h5]
  constructor
  ·rintro ⟨c,h6,h7,h8⟩;exact ⟨c,h6,h7,by simp,by rw [h2 c h6,h8];rfl⟩
  ·rintro ⟨c,h6,h7,_,h8⟩;exact ⟨c,h6,h7,by rw [h2 c h6] at h8;omega⟩
 | x :: Q,k,left,ready,hQ,hk,h1,h2,h3,h4,h5=>by
  have hkl:k<P.length:=by
   rcases Nat.lt_or_ge k P.length with h | h
   ·exact h
   ·rw [List.drop_eq_nil_of_le h] at hQ;cases hQ
  rw [List.drop_eq_getElem_cons hkl] at hQ
  obtain ⟨hx,hQ⟩:=List.cons.inj hQ
  have hxd:P.getD k []=x:=by rw [Yr hkl,hx]
  have hkl':k<left.length:=by omega
  have hrl:ready.length≤k:=by
   have h7:=Zjj (r:=(List.range k).map fun i:Nat=>(i:Int)) h4 fun y hy=>by
    obtain ⟨c,h8,h9,_⟩:=(h5 y).1 hy
    exact List.mem_map.2 ⟨c,List.mem_range.2 h8,h9.symm⟩
   simpa using h7
  have hl1:∀ c:Nat,c<k+1→(left.set k (x.length:Int)).getD c 0=((P.getD c []).length:Int):=fun c hc=>by
   rw [Qb _ _ _ _ _ hkl']
   by_cases hck:c=k
   ·subst hck;rw [if_pos rfl,hxd]
   ·rw [if_neg hck,h2 c (by omega)]
  have hnr:(k:Int) ∉ ready:=fun h=>by obtain ⟨c,h6,h7,_⟩:=(h5 _).1 h;omega
  rw [Qg.eq_2,Wf 0 hkl',oB,oB,Int.toNat_natCast]
  by_cases h0:x.length=0
  ·obtain ⟨ready1,k1,k2,k3⟩:=Ztn (N:=N) (k:Int) (by omega:ready.length<2000000) h3 hN
   rw [if_pos (dT (by omega)),k1,oB,Zfg]
   refine Zou P D hP hN hl Q (k+1) _ ready1 hQ (by omega) (by rw [nS];exact h1) hl1 k3 (k2.nodup_iff.2 (List.nodup_cons.2 ⟨hnr,h4⟩)) (fun y=>?_)
   rw [k2.mem_iff,List.mem_cons,h5]
   constructor
   ·rintro (rfl | ⟨c,h6,h7,h8⟩)
    ·exact ⟨k,by omega,rfl,by rw [hxd];exact h0⟩
    ·exact ⟨c,by omega,h7,h8⟩
   ·rintro ⟨c,h6,h7,h8⟩
    by_cases hck:c=k
    ·subst hck;exact .inl h7
    ·exact .inr ⟨c,by omega,h7,h8⟩
  ·rw [if_neg (by rw [decide_eq_true_eq];omega),Zfg]
   refine Zou P D hP hN hl Q (k+1) _ ready hQ (by omega) (by rw [nS];exact h1) hl1 h3 h4 (fun y=>?_)
   rw [h5]
   constructor
   ·rintro ⟨c,h6,h7,h8⟩;exact ⟨c,by omega,h7,h8⟩
   ·rintro ⟨c,h6,h7,h8⟩
    by_cases hck:c=k
    ·subst hck;rw [hxd] at h8;exact absurd h8 h0
    ·exact ⟨c,by omega,h7,h8⟩
theorem Z3a {N:Nat} {P D:List R1} (hP:P.length<1048576) (hls:∀ x ∈ P,x.length≤1048576) (ht:Ui P≤1048576) (hN:2000000<N) (hD:D.length=P.length) (hDk:∀ p:Nat,p<P.length→D.getD p []=Vl 0 P p):Zfe N P D=Sw N P:=by
 rw [Zfe,Z6 (by simp only [maxLen];omega),Sw]
 obtain ⟨left,ready,h1,h2⟩:=Zou (N:=N) P D hP hN hls P 0 (List.replicate P.length 0) [] rfl (Nat.zero_le _) (by simp) (fun c hc=>by omega) (fun j _ hj=>by simp at hj) .nil (fun y=>by simp)
 rw [h1]
 exact Zv2 hP hls ht hN hD hDk N [] _ _ h2 (by simp;omega)
theorem Zq6 (kk:Option Int):∀ (l:List Int) (seen:List (Int×Int)) (S:List Int),S.Nodup→(∀ k,Y3 seen k=if k ∈ S then some 1 else none)→Zbf kk l seen=if (S++l).Nodup then kk else some 40
 | [],seen,S,h1,h2=>by rw [Zbf.eq_1,List.append_nil,if_pos h1]
 | x :: l,seen,S,h1,h2=>by
  rw [Zbf.eq_2,h2 x]
  by_cases hx:x ∈ S
  ·rw [if_pos hx,if_pos (by decide),if_neg]
   intro h
   exact (List.nodup_append.1 h).2.2 x hx x List.mem_cons_self rfl
  ·rw [if_neg hx,if_neg (by decide),oB,Zq6 kk l _ (S++[x]) (by
    rw [List.nodup_append]
    refine ⟨h1,by simp,fun a ha b hb e=>?_⟩
    rw [List.mem_singleton] at hb;subst hb;subst e;exact hx ha) (fun k=>by
    rw [Zsg,h2 k]
    by_cases hk:k=x
    ·subst hk;rw [if_pos rfl,if_pos (by simp)]
    ·rw [if_neg hk]
     by_cases hs:k ∈ S
     ·rw [if_pos hs,if_pos (by simp [hs])]
     ·rw [if_neg hs,if_neg (by simp [hs,hk])])]
   rw [List.append_assoc];rfl
theorem Zq5:∀ P:List R1,Qe P=if Uj P then some 40 else some 0
 | []=>by rw [Qe.eq_1];rfl
 | l :: P=>by
  rw [Qe.eq_2,Zq6 _ l [] [] .nil (fun k=>by simp [Y3]),Zq5 P,List.nil_append]
  by_cases h:l.Nodup
  ·rw [if_pos h]
   have:Uj (l :: P)=Uj P:=by rw [Uj,Uj,List.any_cons,decide_eq_true h];rfl
   rw [this]
  ·rw [if_neg h]
   have:Uj (l :: P)=true:=by rw [Uj,List.any_cons,decide_eq_false h];rfl
   rw [this];rfl
theorem Zq7 (P:List R1) (kk:Option Int):∀ l:List Int,Qf P kk l=if (l.all fun p=>decide (0≤p∧p<(P.length:Int)))=true then kk else some 3
 | []=>by rw [Qf.eq_1];rfl
 | x :: l=>by
  rw [Qf.eq_2,Zq7 P kk l,Zfa,Zfa,List.all_cons]
  by_cases h1:x<0
  ·rw [if_pos (by simpa using h1),if_pos rfl,decide_eq_false (by omega),Bool.false_and,if_neg (by decide)]
  ·rw [if_neg (by simpa using h1)]
   by_cases h2:(P.length:Int)≤x
   ·rw [if_pos (by simpa using h2),decide_eq_false (by omega),Bool.false_and,if_neg (by decide)]
   ·rw [if_neg (by simpa using h2),decide_eq_true (by omega),Bool.true_and]
theorem Zq4 (P:List R1):∀ Q:List R1,Qd P Q=if Vx P.length Q=true then Qe P else some 3
 | []=>by rw [Qd.eq_1];rfl
 | l :: Q=>by
  rw [Qd.eq_2,Zq7,Zq4 P Q]
  by_cases h:(l.all fun p=>decide (0≤p∧p<(P.length:Int)))=true
  ·rw [if_pos h]
   have:Vx P.length (l :: Q)=Vx P.length Q:=by rw [Vx,Vx,List.all_cons,h,Bool.true_and]
   rw [this]
  ·rw [if_neg h]
   have:Vx P.length (l :: Q)=false:=by rw [Vx,List.all_cons,Bool.eq_false_iff.2 h,Bool.false_and]
   rw [this,if_neg (by decide)]
theorem Zz7 (P:List R1):Ze9 P=if Vx P.length P=true then (if Uj P=true then some 40 else some 0) else some 3:=by
 rw [Ze9,Zq4,Zq5]
structure Zj4 (P:List R1):Prop where
 n:P.length≤1048575
 t:Ui P≤1048576
theorem Zj4.ls {P:List R1} (h:Zj4 P):∀ x ∈ P,x.length≤1048576:=fun x hx=>Nat.le_trans (Zml hx) h.t
theorem Zrm {P:List R1} {n:Nat} (h:Vx n P=true):∀ l ∈ P,Zj1 n l:=by
 intro l hl x hx
 rw [Vx,List.all_eq_true] at h
 have:=List.all_eq_true.1 (h l hl) x hx
 simpa using this
inductive Zj3 (N:Nat) (P:List R1):Prop
 | err (e:Int) (D:Q9 N P=some ([],e)) (R:Sv N P=some e) (ne:e=3∨e=40):Zj3 N P
 | cyc (I:Vx P.length P=true) (T:Uj P=false) (l:List Int) (o:Sw N P=some l) (ok:U0 P l) (mx:W0 P l 0=none) (lt:l.length<P.length) (D:Q9 N P=some ([],42)) (R:Sv N P=some 42):Zj3 N P
 | ord (I:Vx P.length P=true) (T:Uj P=false) (l:List Int) (o:Sw N P=some l) (ok:U0 P l) (mx:W0 P l 0=none) (eq:l.length=P.length) (D:Q9 N P=some (l,0)) (R:Sv N P=some 0):Zj3 N P
theorem Zvu {N:Nat} {P:List R1} (h:Zj4 P) (hN:2000000<N):Zj3 N P:=by
 have hn:=h.n
 have ht:=h.t
 have hls:=h.ls
 have hls':∀ x ∈ P,x.length≤1048576:=fun x hx=>by have:=hls x hx;omega
 have hD:Q9 N P=(Ze9 P).bind fun r_1=>if (!decide (r_1=0))=true then (some (([]:List Int),r_1)) else ((Ze8 P).bind fun r_5=>(Zfe N P r_5).bind fun r_13=>if (decide ((r_13.length:Int)<(P.length:Int)))=true then (some (([]:List Int),42)) else (some (r_13,0))):=by rw [Q9]
 have hR:Sv N P=(Zgt N P).bind fun r_1=>if (!r_1)=true then (some 3) else ((Zgx N P).bind fun r_5=>if r_5=true then (some 40) else ((Sw N P).bind fun r_9=>if (decide ((r_9.length:Int)<(P.length:Int)))=true then (some 42) else (some 0))):=by rw [Sv]
 rw [Zz7] at hD
 rw [Z0j (by omega) hls' (by omega),oB] at hR
 by_cases hI:Vx P.length P=true
 ·rw [hI,if_neg (by decide),Z3g (by omega) hls' (by omega),oB] at hR
  rw [if_pos hI] at hD
  by_cases hT:Uj P=true
  ·rw [if_pos hT] at hD hR
   exact .err 40 (by rw [hD];rfl) hR (.inr rfl)
  ·rw [if_neg hT] at hD hR
   obtain ⟨l,h1,h2,h3⟩:=Z1r (N:=N) (P:=P) (by omega) hls' (by omega)
   obtain ⟨D,h4,h5,h6⟩:=Zzf (P:=P) (by omega) (by omega) (Zrm hI)
   rw [h1,oB] at hR
   rw [oB,if_neg (by decide),h4,oB,Z3a (by omega) hls' (by omega) hN h5 h6,h1,oB] at hD
   have hT:=Bool.eq_false_iff.2 hT
   have hle:=h2.len
   by_cases hlt:l.length<P.length
   ·rw [if_pos (dT (by omega))] at hR hD
    exact .cyc hI hT l h1 h2 h3 hlt hD hR
   ·rw [if_neg (by rw [decide_eq_true_eq];omega)] at hR hD
    exact .ord hI hT l h1 h2 h3 (by omega) hD hR
 ·rw [Bool.eq_false_iff.2 hI,if_pos (by decide)] at hR
  rw [if_neg hI] at hD
  exact .err 3 (by rw [hD];rfl) hR (.inl rfl)
def Zeg (ab:ByteArray):List ByteArray→Nat→Option Int
  | [],aa=>some (-1)
  | ac :: ad,aa=>if (decide (ab=ac))=true then (some (aa:Int)) else ((Zeg ab ad) (aa+1))
termination_by structural x=>x
def Zlo (aa:List ByteArray) (ab:ByteArray):Option Int:=
  Zeg ab aa 0
theorem Zy9 {ag:Nat} {a0:Option Addr} {col:Ze} {w0:World} {ab:R5} {ae:ByteArray} {r:Int} (hm:Zlo ab ae=some r) (h0:Sl Za.str col w0 a0 ag ab):
    Calls prog 191 #[.slice a0 ab.length ag,.string ae] w0 (fun e w'=>e= .returned ((.int .i64 r))∧Below w0.heap.size w0 w'):=by
 refine Z1 4 (m:=19) func191 rfl rfl rfl rfl rfl ?_;rw [Zlo.eq_1] at hm;have aa:=St.start col w0;refine go ?_;refine Zu [0,1,7,1000000] (fun n f ah=>∃ ai ac ad,n=ad.length∧ab.drop ac=ad∧Zeg ae ad ac=some r∧St w0 (Zg col) ai ah∧[8].map f=[.int .i64 ac]) ab.length ⟨_,0,_,rfl,rfl,hm,aa,rfl⟩ ?_;clear hm;intro n f ah hI;obtain ⟨ai,ac,ad,hn,hl,hm,aa,hs⟩:=hI;subst hn;refine .lL [8] hs ?_;replace h0:=h0.keep (Zh.start col w0)
 cases ad with
 | nil=>
  have hk:¬ ((ac:Int)<(ab.length:Int)):=by have:=List.drop_eq_nil_iff.1 hl;omega
  have hkb:=decide_eq_false hk;rw [Zeg.eq_1] at hm;refine go ?_;refine Yd (congrArg Value.bool hkb)<|go ?_;cases hm;exact ⟨rfl,rfl,aa.below⟩
 | cons am aj=>
  obtain ⟨af,ak,al⟩:=Yn hl;have hk:(ac:Int)<(ab.length:Int):=by omega
  have hkb:=decide_eq_true hk;rw [Zeg.eq_2] at hm;refine go ?_;refine Ye (congrArg Value.bool hkb)<|go ?_;refine lI af ((h0.ks aa).addr af)<|lW ((h0.ks aa).atStr af) ?_;refine go ?_;refine Zm hm (fun hb hm=>go ?_) fun hb hm=>go ?_
  ·cases hm;exact ⟨rfl,rfl,aa.below⟩
  exact ⟨aj.length,by simp,rfl,⟨_,_,_,rfl,ak,hm,aa,(Yq (congrArg (Value.int .i64) (Yj (Nat.lt_of_lt_of_le al (h0.ks aa).1.1))) rfl)⟩⟩
def Zjc (aa:List ByteArray) (ab:ByteArray):Option Bool:=
  (Zlo aa ab).bind fun ac=>some (decide (0≤ac))
theorem Zy6 {ad:Nat} {a0:Option Addr} {col:Ze} {w0:World} {ab:R5} {ae:ByteArray} {r:Bool} (hm:Zjc ab ae=some r) (h0:Sl Za.str col w0 a0 ad ab):
    Calls prog 78 #[.slice a0 ab.length ad,.string ae] w0 (fun e w'=>e= .returned ((.bool r))∧Below w0.heap.size w0 w'):=by
 refine Z1 4 (m:=9) func78 rfl rfl rfl rfl rfl ?_;rw [Zjc.eq_1] at hm;have aa:=St.start col w0;refine go ?_;obtain ⟨ah,af,hm⟩:=bZ hm;replace h0:=h0.keep (Zh.start col w0);refine Zi (Zy9 af (h0.ks aa)) ?_;rintro _ ag ⟨rfl,ac⟩;refine ⟨_,rfl,?_⟩;replace ac:Zf (Zg col) w0 (Zg col) ag:=.of_below ac;refine go ?_;cases hm;replace aa:=aa.grow ac;exact ⟨rfl,rfl,aa.below⟩
def Zbq:List ByteArray→(List (ByteArray×Int))→Option Bool
  | [],aa=>some false
  | ab :: ac,aa=>if (decide (0<((Y3 aa ab).getD 0)))=true then (some true) else ((some (T3 aa ab 1)).bind fun ad=>(Zbq ac) ad)
termination_by structural x=>x
def Zia (aa:List ByteArray):Option Bool:=
  Zbq aa ([]:List (ByteArray×Int))
theorem Zxu {al:Nat} {a0:Option Addr} {col:Ze} {w0:World} {ab:R5} {r:Bool} (hm:Zia ab=some r) (h0:Sl Za.str col w0 a0 al ab):
    Calls prog 252 #[.slice a0 ab.length al] w0 (fun e w'=>e= .returned ((.bool r))∧Below w0.heap.size w0 w'):=by
 refine Z1 2 (m:=20) func252 rfl rfl rfl rfl rfl ?_;rw [Zia.eq_1] at hm;have aa:=St.start col w0;refine go ?_;refine Z0o (col:=(Zg col)) (fk:=Value.string) (fv:=(Value.int .i64)) 1 rfl ?_;intro ay az a1 ao ap;refine go ?_;replace aa:=aa.grow ao;refine Zu [7,8,1000000] (fun n f af=>∃ ag ah ac ad ae,n=ae.length∧ab.drop ad=ae∧Zbq ae ac=some r∧St w0 (Zg col) ag af∧Ww Value.string (Value.int .i64) 1 ag af ah ac∧[9,3].map f=[.int .i64 ad,.map (some ah)]) ab.length ⟨_,_,_,0,_,rfl,rfl,hm,aa,ap,rfl⟩ ?_;clear hm;intro n f af hI;obtain ⟨ag,ah,ac,ad,ae,hn,hl,hm,aa,am,hs⟩:=hI;subst hn;refine .lL [9,3] hs ?_;replace h0:=h0.keep (Zh.start col w0)
 cases ae with
 | nil=>
  have hk:¬ ((ad:Int)<(ab.length:Int)):=by have:=List.drop_eq_nil_iff.1 hl;omega
  have hkb:=decide_eq_false hk;rw [Zbq.eq_1] at hm;refine go ?_;refine Yd (congrArg Value.bool hkb)<|go ?_;cases hm;exact ⟨rfl,rfl,aa.below⟩
 | cons ai aq=>
  obtain ⟨aj,ar,au⟩:=Yn hl;have hk:(ad:Int)<(ab.length:Int):=by omega
  have hkb:=decide_eq_true hk;rw [Zbq.eq_2] at hm;refine go ?_;refine Ye (congrArg Value.bool hkb)<|go ?_;refine lI aj ((h0.ks aa).addr aj)<|lW ((h0.ks aa).atStr aj) ?_;refine go ?_;refine lV (.int .i64 ((Y3 ac ai).getD 0)) (Zt5 Th.str am underlying111 underlying9 zeroValue3 rfl rfl)<|go ?_;refine Zm hm (fun hb hm=>go ?_) fun hb hm=>go ?_
  ·cases hm;exact ⟨rfl,rfl,aa.below⟩
  obtain ⟨av,ak,hm⟩:=bZ hm;have ak:av=T3 ac ai 1:=(Option.some.inj ak).symm;refine Zrs (k:=ai) (v:=1) Th.str am underlying111 underlying9 rfl rfl rfl ?_;intro a2 aw ax an;rw [← ak] at an;refine go ?_;replace aa:=aa.kp aw ax;exact ⟨aq.length,by simp,rfl,⟨_,_,_,_,_,rfl,ar,hm,aa,an,(Yq (congrArg (Value.int .i64) (Yj (Nat.lt_of_lt_of_le au (h0.ks aa).1.1))) rfl)⟩⟩
def Zfx (ab:R0) (aa:Nat) (kk_L1:(Nat→Option Int)) (ac:Bool):Option Int:=
  if ac=true then (some 40) else ((Zl ab.2.2.1 (aa:Int)).bind fun ad=>if (decide ((ad.length:Int)=0))=true then (some 43) else (kk_L1 (aa+1)))
def Zag (aa:R0):List ByteArray→Nat→Option Int
  | [],ab=>some 0
  | ad :: ac,ab=>Z0 ((0:Int)≤(ab:Int)∧(ab:Int)≤(aa.2.1.length:Int)) ((Zjc (aa.2.1.take (Int.toNat (ab:Int))) ad).bind fun ae=>if ae=true then (Zfx aa ab (Zag aa ac) true) else ((Zl aa.2.2.1 (ab:Int)).bind fun af=>(Zia af).bind fun ag=>Zfx aa ab (Zag aa ac) ag))
termination_by structural x=>x
def Zfw (aa:R0):Option Int:=
  Zag aa aa.2.1 0
theorem Zxr {ae ak al am:Nat} {af an ao ap:Option Addr} {col:Ze} {w0:World} {aa:R0} {r:Int} (hm:Zfw aa=some r) (ag:Sl Za.str col w0 af ae aa.2.1) (ai:Sl (Za.slice Za.str) col w0 an ak aa.2.2.1) (bi:Sl (Za.slice (Za.int .i64)) col w0 ao al aa.2.2.2.1) (bj:Sl (Za.slice (Za.pair (Za.pair Za.bool (Za.slice (Za.int .u32))) (Za.slice (Za.int .u32)))) col w0 ap am aa.2.2.2.2):
    Calls prog 174 #[(.agg #[.string aa.1,.slice af aa.2.1.length ae,.slice an aa.2.2.1.length ak,.slice ao aa.2.2.2.1.length al,.slice ap aa.2.2.2.2.length am])] w0 (fun e w'=>e= .returned ((.int .i64 r))∧Below w0.heap.size w0 w'):=by
 refine Z1 2 (m:=37) func174 rfl rfl rfl rfl rfl ?_;rw [Zfw.eq_1] at hm;have ab:=St.start col w0;refine go ?_;refine Xe (col:=(Zg col)) 1 rfl ?_;intro a3 bk bm a6 ac;refine go ?_;refine Z9 ac ?_;refine go ?_;replace ab:=ab.grow a6;refine Zu [1,6,7,1000000] (fun n f aq=>∃ ah ad aj,n=aj.length∧aa.2.1.drop ad=aj∧Zag aa aj ad=some r∧St w0 (Zg col) ah aq∧Zk 27 1 ah aq a3 #[.string aa.1,.slice af aa.2.1.length ae,.slice an aa.2.2.1.length ak,.slice ao aa.2.2.2.1.length al,.slice ap aa.2.2.2.2.length am]∧[8].map f=[.int .i64 ad]) aa.2.1.length ⟨_,0,_,rfl,rfl,hm,ab,ac,rfl⟩ ?_;clear hm;intro n f aq hI;obtain ⟨ah,ad,aj,hn,hl,hm,ab,ac,hs⟩:=hI;subst hn;refine .lL [8] hs ?_;replace ag:=ag.keep (Zh.start col w0);replace ai:=ai.keep (Zh.start col w0)
 cases aj with
 | nil=>
  have hk:¬ ((ad:Int)<(aa.2.1.length:Int)):=by have:=List.drop_eq_nil_iff.1 hl;omega
  have hkb:=decide_eq_false hk;rw [Zag.eq_1] at hm;refine go ?_;refine Yd (congrArg Value.bool hkb)<|go ?_;cases hm;exact ⟨rfl,rfl,ab.below⟩
 | cons bn a4=>
  obtain ⟨av,a7,a8⟩:=Yn hl;have hk:(ad:Int)<(aa.2.1.length:Int):=by omega
  have hkb:=decide_eq_true hk;rw [Zag.eq_2] at hm;refine go ?_;refine Ye (congrArg Value.bool hkb)<|go ?_;refine lI av ((ag.ks ab).addr av)<|lW ((ag.ks ab).atStr av)<|Yh rfl<|lAT rfl<|Zo<|Zck<|Zt ?_;refine Wp.cutK [1,3,6,7,8,1000000] (fun f aw=>∃ ax ay,Zfx aa ad (Zag aa a4) ay=some r∧St w0 (Zg col) ax aw∧Zk 27 1 ax aw a3 #[.string aa.1,.slice af aa.2.1.length ae,.slice an aa.2.2.1.length ak,.slice ao aa.2.2.2.1.length al,.slice ap aa.2.2.2.2.length am]∧[13].map f=[.bool ay]) ?_ ?_
  ·intro f aw hJ;obtain ⟨ax,ay,hm,ab,ac,hs⟩:=hJ;rw [Zfx.eq_1] at hm;refine .lL [13] hs ?_;refine Zm hm (fun hb hm=>go ?_) fun hb hm=>go ?_
   ·cases hm;exact ⟨rfl,rfl,ab.below⟩
   refine Z9 ac<|Xn rfl ?_;obtain ⟨bo,az,hm⟩:=bZ hm;refine lI az ((ai.ks ab).addr az) ?_;obtain ⟨_,a9,ba⟩:=(ai.ks ab).atN az;obtain ⟨⟨bp,bq,rfl,br⟩,_⟩:=a9;refine lW ba.one<|go ?_;refine Zm hm (fun hb hm=>go ?_) fun hb hm=>go ?_
   ·cases hm;exact ⟨rfl,rfl,ab.below⟩
   exact ⟨a4.length,by simp,rfl,⟨_,_,_,rfl,a7,hm,ab,ac,(Yq (congrArg (Value.int .i64) (Yj (Nat.lt_of_lt_of_le a8 (ag.ks ab).1.1))) rfl)⟩⟩
  refine Wa<|Z9 ac<|Xn rfl ?_;obtain ⟨a0,hm⟩:=Z3 hm;refine lv (v:=.slice af (Int.toNat (ad:Int)) ae) rfl rfl (Q0 underlying22 sizeOf9 rfl rfl a0.1 (by have:=(ag.ks ab).1.2;have:=a0.2;omega))<|.ld (d:=17) (v:=(.slice af ((aa.2.1.take (Int.toNat (ad:Int))).length) ae)) (congrArg (fun n=>Value.slice af n ae) (List.length_take_of_le (show (Int.toNat (ad:Int))≤aa.2.1.length by have:=a0.2;omega)).symm) ?_;refine lMT rfl ?_;obtain ⟨bs,bb,hm⟩:=bZ hm;refine Zi (Zy6 bb ((ag.ks ab).take (Int.toNat (ad:Int)))) ?_;rintro _ a5 ⟨rfl,ar⟩;refine ⟨_,rfl,?_⟩;replace ar:Zf ah aq ah a5:=.of_below ar;refine Y0 rfl ?_;replace ac:=ac.gr ar;replace ab:=ab.grow ar;refine Xu hm (fun a1 hm=>go ?_) fun a1 hm=>go ?_
  ·refine lV (.bool true) (Xg (congrArg Value.bool a1) rfl)<|go ?_;exact ⟨rfl,_,_,hm,ab,ac,rfl⟩
  refine Xv ⟨_,_,rfl⟩ ?_;refine go ?_;refine lW ((ac.atN).nth (q:=2) rfl)<|go ?_;obtain ⟨bt,a2,hm⟩:=bZ hm;refine lI a2 ((ai.ks ab).addr a2) ?_;refine go ?_;obtain ⟨_,bc,bd⟩:=(ai.ks ab).atN a2;obtain ⟨⟨bu,bv,rfl,be⟩,_⟩:=bc;refine lW bd.one<|go ?_;obtain ⟨bf,bg,hm⟩:=bZ hm;refine Zi (Zxu bg be) ?_;rintro _ bh ⟨rfl,au⟩;refine ⟨_,rfl,?_⟩;replace au:Zf ah a5 ah bh:=.of_below au;refine lV (.bool bf) (Xt (congrArg Value.bool a1) rfl)<|go ?_;replace ac:=ac.gr au;replace ab:=ab.grow au;exact ⟨rfl,_,_,hm,ab,ac,rfl⟩
def Zfu (aa:Bool) (ab:List Int) (ac:List Int):Option R2:=
  some ((aa,ab),ac)
def Zft (N:Nat) (aa:R2):Option R2:=
  (Zde N aa.2).bind fun ab=>if (decide ((ab.length:Int)=0))=true then ((So N 1).bind fun ac=>Zfu aa.1.1 aa.1.2 ac) else (Zfu aa.1.1 aa.1.2 aa.2)
theorem Zxq {N am a1:Nat} {an a2:Option Addr} {col:Ze} {w0:World} {ad r:R2} (hm:Zft N ad=some r) (ai:Sl (Za.int .u32) col w0 an am ad.1.2) (aj:Sl (Za.int .u32) col w0 a2 a1 ad.2):
    Calls prog 183 #[(.agg #[.bool ad.1.1,.slice an ad.1.2.length am,.slice a2 ad.2.length a1])] w0 (fun e w'=>∃ (col':Ze) (ra1:Option Addr) (rc2:Nat) (ra4:Option Addr) (rc5:Nat),e= .returned ((.agg #[.bool r.1.1,.slice ra1 r.1.2.length rc2,.slice ra4 r.2.length rc5]))∧Zf col w0 col' w'∧Sl (Za.int .u32) col' w' ra1 rc2 r.1.2∧Sl (Za.int .u32) col' w' ra4 rc5 r.2):=by
 refine Yt (m:=11) func183 rfl rfl rfl ?_;rw [Zft.eq_1] at hm;have aa:=St.start col w0;refine go ?_;refine Xe (col:=(Zg col)) 1 rfl ?_;intro a3 bj a8 a9 ab;refine Xs (col:=a8) #[.bool false,.slice none (([]:List Int).length) 0,.slice none (([]:List Int).length) 0] 2 zeroValue47 ?_;intro ba bk bm a4 ac;refine Zo<|Zt ?_;replace ai:=ai.keep (Zh.start col w0);replace aj:=aj.keep (Zh.start col w0);replace aa:=(aa.grow a9).grow a4;replace ab:=ab.gr a4;refine Wp.cutK [1,2,1000000] (fun f ae=>∃ af ao ap aq ak ar au al,Zfu ao ak al=some r∧St w0 (Zg col) af ae∧Sl (Za.int .u32) af ae ap aq ak∧Sl (Za.int .u32) af ae ar au al∧Zk 47 1 af ae a3 #[.bool ao,.slice ap ak.length aq,.slice ar al.length au]∧Zk 47 2 af ae ba #[.bool false,.slice none (([]:List Int).length) 0,.slice none (([]:List Int).length) 0]) ?_ ?_
 ·intro f ae hJ;obtain ⟨af,ao,ap,aq,ak,ar,au,al,hm,aa,av,aw,ab,ac⟩:=hJ;rw [Zfu.eq_1] at hm;refine go ?_;refine lV _ (Xd isAgg47 sizeOf47 ab)<|Xa ac ?_;intro bn ax bb bc;refine go ?_;cases hm;replace av:=av.kp ax;replace aw:=aw.kp ax;replace aa:=aa.kp ax bb;exact ⟨rfl,_,ra bc.atN,_,_,_,_,_,rfl,aa.fin (cm []),aa.fs av,aa.fs aw⟩
 refine go ?_;refine Z9 ab ?_;obtain ⟨bo,bd,hm⟩:=bZ hm;refine Zi (Zm8 3 bd (aj.ks aa)) ?_;rintro _ bp ⟨be,bq,br,rfl,ay,bs⟩;refine ⟨_,rfl,go ?_⟩;replace ab:=ab.gr ay;replace ac:=ac.gr ay;replace aa:=aa.grow ay;refine Zm hm (fun hb hm=>?_) fun hb hm=>?_
 ·refine Wa ?_;obtain ⟨a5,bf,hm⟩:=bZ hm;refine Zi (Zcr (col:=be) 4 bf) ?_;rintro _ bt ⟨bg,a6,a7,rfl,az,ag⟩;refine ⟨_,rfl,?_⟩;refine Xv ⟨_,_,rfl⟩ ?_;replace ab:=ab.gr az;refine Zcx (off:=2) (v:=(.slice a6 a5.length a7)) ab sizeOf43 rfl rfl (by intro u hu;simp only [Value.cells,List.mem_cons,List.not_mem_nil,or_false] at hu;subst hu;rfl) rfl rfl ?_;intro bh a0 bi ah;replace ah:Zk 47 1 bg bh a3 #[.bool ad.1.1,.slice an ad.1.2.length am,.slice a6 a5.length a7]:=ah;refine Zo ?_;replace ag:=ag.kp a0;replace ag:=(ag).toSlF (Zj.int .u32);replace ah:=ah.froz 4 (by decide);replace ac:=(ac.gr az).kp a0;replace ac:=ac.froz 4 (by decide);replace aa:=(aa.grow az).kp a0 bi;replace aa:=aa.froz 4 (by decide) (by decide);exact ⟨rfl,_,_,_,_,_,_,_,_,hm,aa,(ai.ks aa),ag,ah,ac⟩
 refine Xr ?_;exact ⟨rfl,_,_,_,_,_,_,_,_,hm,aa,(ai.ks aa),(aj.ks aa),ab,ac⟩
theorem Zzy:Wi prog 47 3 56:=⟨Tryz.t47,_,rfl,rfl,rfl,rfl,rfl⟩
def Zbp (N:Nat):List R2→R7→Option R7
  | [],ab=>some ab
  | ac :: ad,ab=>(Zft N ((ac.1.1,ac.1.2),ac.2)).bind fun aa=>Z0 ((ab.length+[((aa.1.1,aa.1.2),aa.2)].length) * 56≤140737488355328∧ab.length+[((aa.1.1,aa.1.2),aa.2)].length≤maxLen) ((Zbp N ad) (ab++[((aa.1.1,aa.1.2),aa.2)]))
termination_by structural x=>x
def Zfv (N:Nat) (aa:R7):Option R7:=
  Z0 (aa.length * 56≤281474976710656∧aa.length≤maxLen) (Zbp N aa ([]:List R2))
theorem Zpn {N ar:Nat} {a0:Option Addr} {col:Ze} {w0:World} {ac r:R7} (c1:Nat) (hm:Zfv N ac=some r) (h0:Sl (Za.pair (Za.pair Za.bool (Za.slice (Za.int .u32))) (Za.slice (Za.int .u32))) col w0 a0 ar ac):
    Calls prog 178 #[.slice a0 ac.length ar] w0 (fun e w'=>∃ (col':Ze) (ra1:Option Addr) (rc2:Nat),e= .returned ((.slice ra1 r.length rc2))∧Zf col w0 col' w'∧Zc (Za.pair (Za.pair Za.bool (Za.slice (Za.int .u32))) (Za.slice (Za.int .u32))) 47 c1 col' w' ra1 rc2 r):=by
 refine Z1 2 (m:=22) func178 rfl rfl rfl rfl rfl ?_;rw [Zfv.eq_1] at hm;have ab:=St.start col w0;refine go ?_;obtain ⟨au,hm⟩:=Z3 hm;refine Z0n (col:=(Zg col)) (w:=w0) (r:=(Za.pair (Za.pair Za.bool (Za.slice (Za.int .u32))) (Za.slice (Za.int .u32)))) (n:=ac.length) 1 rfl underlying56 Zzy rfl rfl rfl au.1 au.2 ?_;intro bt bu bv a2 a3;refine go ?_;replace ab:=ab.grow a2;refine Zu [10,9,1000000] (fun n f ak=>∃ af ad al am ag ae,n=ae.length∧ac.drop ad=ae∧Zbp N ae ag=some r∧St w0 (Zg col) af ak∧Zc (Za.pair (Za.pair Za.bool (Za.slice (Za.int .u32))) (Za.slice (Za.int .u32))) 47 1 af ak al am ag∧[11,3].map f=[.int .i64 ad,.slice al ag.length am]) ac.length ⟨_,0,_,_,_,_,rfl,rfl,hm,ab,a3,rfl⟩ ?_;clear hm;intro n f ak hI;obtain ⟨af,ad,al,am,ag,ae,hn,hl,hm,ab,ah,hs⟩:=hI;subst hn;refine .lL [11,3] hs ?_;replace h0:=h0.keep (Zh.start col w0)
 cases ae with
 | nil=>
  have hk:¬ ((ad:Int)<(ac.length:Int)):=by have:=List.drop_eq_nil_iff.1 hl;omega
  have hkb:=decide_eq_false hk;rw [Zbp.eq_1] at hm;refine go ?_;refine Yd (congrArg Value.bool hkb)<|go ?_;cases hm;exact ⟨rfl,_,_,_,rfl,ab.fin (cm [(1,c1)]),ab.fo ah⟩
 | cons an a4=>
  obtain ⟨ao,a5,a6⟩:=Yn hl;have hk:(ad:Int)<(ac.length:Int):=by omega
  have hkb:=decide_eq_true hk;rw [Zbp.eq_2] at hm;refine go ?_;refine Ye (congrArg Value.bool hkb)<|go ?_;refine lI ao ((h0.ks ab).addr ao) ?_;obtain ⟨_,a7,a8⟩:=(h0.ks ab).atN ao;obtain ⟨_,_,rfl,a9,ba⟩:=W8 a7;obtain ⟨_,_,rfl,bb,bc⟩:=W8 a9;obtain ⟨rfl,_⟩:=bb;obtain ⟨⟨bd,be,rfl,ap⟩,_⟩:=bc;obtain ⟨⟨bf,bg,rfl,aq⟩,_⟩:=ba;refine lV (.agg #[.bool an.1.1,.slice bd an.1.2.length be,.slice bf an.2.length bg]) (Y1 isAgg47 sizeOf47 rfl rfl a8)<|Xs (col:=af) #[.bool false,.slice none (([]:List Int).length) 0,.slice none (([]:List Int).length) 0] 2 zeroValue47 ?_;intro bw bx bz ai bh;refine Xa bh ?_;intro b0 aj bi bj;refine go ?_;refine lV _ (Xd isAgg47 sizeOf47 bj) ?_;obtain ⟨aa,bk,hm⟩:=bZ hm;replace ap:=(ap.gr ai).kp aj;replace aq:=(aq.gr ai).kp aj;refine Zi (Zxq bk ap aq) ?_;rintro _ b1 ⟨bm,av,aw,ax,ay,rfl,az,bn,bo⟩;refine ⟨_,rfl,?_⟩;refine Zcy (col:=bm) (r:=(Za.pair (Za.pair Za.bool (Za.slice (Za.int .u32))) (Za.slice (Za.int .u32)))) (xs:=[((aa.1.1,aa.1.2),aa.2)]) [(.agg #[.bool aa.1.1,.slice av aa.1.2.length aw,.slice ax aa.2.length ay])] 3 (Vj.ofF (Rows.consF (r:=(Za.pair (Za.pair Za.bool (Za.slice (Za.int .u32))) (Za.slice (Za.int .u32)))) (x:=((aa.1.1,aa.1.2),aa.2)) (cs:=[.bool aa.1.1,.slice av aa.1.2.length aw,.slice ax aa.2.length ay]) (Zuj (Zuj (Zui aa.1.1) (Zuk bn)) (Zuk bo)) Rows.nil0)) ?_;intro b2 b3 b4 a1 bp;obtain ⟨bq,hm⟩:=Z3 hm;replace ah:=(((ah.gr ai).kp aj).gr az).gr a1;refine Wk ah (bp.srcN (NB.pair (NB.pair NB.bool NB.slice) NB.slice)) bq ?_;intro b5 b6 b7 b8 br bs;refine go ?_;replace ab:=((((ab.grow ai).kp aj bi).grow az).grow a1).kpp br;exact ⟨a4.length,by simp,rfl,⟨_,_,_,_,_,_,rfl,a5,hm,ab,bs,(Yq (congrArg (Value.int .i64) (Yj (Nat.lt_of_lt_of_le a6 (h0.ks ab).1.1))) rfl)⟩⟩
def Zca (N:Nat) (ab:List R2) (ac:Int):Nat→Int→Option Rd
  | 0,_=>none
  | ad+1,aa=>if (decide (aa<(ab.length:Int)))=true then (Z0 ((0:Int)≤aa∧aa≤(ab.length:Int)) (Z0 ((0:Int)≤aa∧aa≤(i64.wrap (aa+(if ((ab.drop (Int.toNat aa)).length:Int)<ac then ((ab.drop (Int.toNat aa)).length:Int) else ac)))∧(i64.wrap (aa+(if ((ab.drop (Int.toNat aa)).length:Int)<ac then ((ab.drop (Int.toNat aa)).length:Int) else ac)))≤(i64.wrap (aa+(if ((ab.drop (Int.toNat aa)).length:Int)<ac then ((ab.drop (Int.toNat aa)).length:Int) else ac)))∧(i64.wrap (aa+(if ((ab.drop (Int.toNat aa)).length:Int)<ac then ((ab.drop (Int.toNat aa)).length:Int) else ac)))≤(ab.length:Int)) (((Zca N ab ac ad) (i64.wrap (aa+ac))).bind fun ae=>some ((ab.take (Int.toNat (i64.wrap (aa+(if ((ab.drop (Int.toNat aa)).length:Int)<ac then ((ab.drop (Int.toNat aa)).length:Int) else ac))))).drop (Int.toNat aa) :: ae)))) else (some [])
termination_by structural x=>x
def Zlh (N:Nat) (aa:List R2) (ab:Int):Option Rd:=
  Zca N aa ab N 0
theorem Zy0 (N:Nat) (col:Ze) (w0:World) (g0:Nat) (af0:Option Addr) (capf0:Nat) (ab:List R2) (hf0:Sl (Za.pair (Za.pair Za.bool (Za.slice (Za.int .u32))) (Za.slice (Za.int .u32))) col w0 af0 capf0 ab) (hb0:Zk 56 450 col w0 g0 #[.slice af0 ab.length capf0]) (g1:Nat) (ac:Int) (hb1:Zk 3 450 col w0 g1 #[.int .i64 ac]) (r:List R7) (hm:Zlh N ab ac=some r):
    Zmw prog 1 285 [.pointer (some ⟨g0,0,none⟩),.pointer (some ⟨g1,0,none⟩)] (fun (y:List R2) (col:Ze) (w:World) (args:List Value)=>∃ (a0:Option Addr) (ak:Nat),args=[.slice a0 y.length ak]∧Sl (Za.pair (Za.pair Za.bool (Za.slice (Za.int .u32))) (Za.slice (Za.int .u32))) col w a0 ak y) r col w0:=by
 intro l J X hjs hxs hy ad;refine Zkn (m:=31) (args:=[.func (.yield l) #[] #[],.pointer (some ⟨g0,0,none⟩),.pointer (some ⟨g1,0,none⟩)]) func285 rfl rfl rfl rfl ?_;rw [Zlh.eq_1] at hm;refine go ?_;refine Zu [0,1,2,1000000] (fun n f ah=>∃ ae r aa af,af=n∧Zca N ab ac af aa=some r∧J r ae ah∧Sl (Za.pair (Za.pair Za.bool (Za.slice (Za.int .u32))) (Za.slice (Za.int .u32))) ae ah af0 capf0 ab∧Zk 56 450 ae ah g0 #[.slice af0 ab.length capf0]∧Zk 3 450 ae ah g1 #[.int .i64 ac]∧[4].map f=[.int .i64 aa]) N ⟨_,_,0,_,rfl,hm,ad,hf0,hb0,hb1,rfl⟩ ?_;clear hm;intro n f ah hI;obtain ⟨ae,r,aa,af,hn,hm,ad,hf0,hb0,hb1,hs⟩:=hI;subst hn;refine .lL [4] hs ?_
 cases af with
 | zero=>rw [Zca.eq_1] at hm;cases hm
 | succ af=>
  rw [Zca.eq_2] at hm;refine go ?_;refine lW hb0.at1<|go ?_;refine Zm hm (fun hb hm=>go ?_) fun hb hm=>go ?_
  ·refine Ys (col:=ae) (by kernel_rfl) (by kernel_rfl)<|qW (fun _ hC=>hb1.at1.gr (hC.bl ae)) ?_;refine qW (fun _ hC=>hb0.at1.gr (hC.bl ae)) ?_;refine go ?_;obtain ⟨al,hm⟩:=Z3 hm;have ap:=hf0.drop (sz:=3) rfl (Int.toNat aa);refine qv (v:=.slice (if capf0=(Int.toNat aa) then af0 else af0.map (·.add ((Int.toNat aa) * 3))) (ab.length - (Int.toNat aa)) (capf0 - (Int.toNat aa))) rfl (fun _ hC=>Zua underlying56 sizeOf47 rfl rfl al.1 al.2) ?_;generalize (if capf0=(Int.toNat aa) then af0 else af0.map (·.add ((Int.toNat aa) * 3)))=am at *;refine .ld (d:=16) (v:=(.slice am ((ab.drop (Int.toNat aa)).length) (capf0 - (Int.toNat aa)))) (congrArg (fun n=>Value.slice am n (capf0 - (Int.toNat aa))) (List.length_drop (i:=(Int.toNat aa)) (l:=ab)).symm) ?_;refine go ?_;refine qv (v:=(.int .i64 (if ((ab.drop (Int.toNat aa)).length:Int)<ac then ((ab.drop (Int.toNat aa)).length:Int) else ac))) rfl (fun _ hC=>Zl9 ac ((ab.drop (Int.toNat aa)).length:Int) rfl rfl) ?_;refine go ?_;refine X9 ?_;intro aq hC;replace hC:=hC.bl ae;replace hf0:=hf0.gr hC;replace hb0:=hb0.gr hC;replace hb1:=hb1.gr hC;replace ad:=hjs _ _ _ _ _ ad hC.toP;refine go ?_;refine lM (.func (.yield l) #[] #[])<|lW hb0.at1<|go ?_;obtain ⟨ag,hm⟩:=Z3 hm;have an:=((hf0.take (Int.toNat (i64.wrap (aa+(if ((ab.drop (Int.toNat aa)).length:Int)<ac then ((ab.drop (Int.toNat aa)).length:Int) else ac))))).recap (show (ab.take (Int.toNat (i64.wrap (aa+(if ((ab.drop (Int.toNat aa)).length:Int)<ac then ((ab.drop (Int.toNat aa)).length:Int) else ac))))).length≤(Int.toNat (i64.wrap (aa+(if ((ab.drop (Int.toNat aa)).length:Int)<ac then ((ab.drop (Int.toNat aa)).length:Int) else ac)))) by rw [List.length_take (i:=(Int.toNat (i64.wrap (aa+(if ((ab.drop (Int.toNat aa)).length:Int)<ac then ((ab.drop (Int.toNat aa)).length:Int) else ac))))) (l:=ab)];have:=ag.2;omega)).drop (sz:=3) rfl (Int.toNat aa);refine lv (v:=.slice (if (Int.toNat (i64.wrap (aa+(if ((ab.drop (Int.toNat aa)).length:Int)<ac then ((ab.drop (Int.toNat aa)).length:Int) else ac))))=(Int.toNat aa) then af0 else af0.map (·.add ((Int.toNat aa) * 3))) ((Int.toNat (i64.wrap (aa+(if ((ab.drop (Int.toNat aa)).length:Int)<ac then ((ab.drop (Int.toNat aa)).length:Int) else ac)))) - (Int.toNat aa)) ((Int.toNat (i64.wrap (aa+(if ((ab.drop (Int.toNat aa)).length:Int)<ac then ((ab.drop (Int.toNat aa)).length:Int) else ac)))) - (Int.toNat aa))) rfl rfl (Zuc underlying56 sizeOf47 rfl rfl rfl rfl ag.1 ag.2.1 ag.2.2.1 (by have:=hf0.1.2;have:=ag.2.2.2;omega)) ?_
   generalize (if (Int.toNat (i64.wrap (aa+(if ((ab.drop (Int.toNat aa)).length:Int)<ac then ((ab.drop (Int.toNat aa)).length:Int) else ac))))=(Int.toNat aa) then af0 else af0.map (·.add ((Int.toNat aa) * 3)))=ai at *;refine .ld (d:=28) (v:=(.slice ai (((ab.take (Int.toNat (i64.wrap (aa+(if ((ab.drop (Int.toNat aa)).length:Int)<ac then ((ab.drop (Int.toNat aa)).length:Int) else ac))))).drop (Int.toNat aa)).length) ((Int.toNat (i64.wrap (aa+(if ((ab.drop (Int.toNat aa)).length:Int)<ac then ((ab.drop (Int.toNat aa)).length:Int) else ac)))) - (Int.toNat aa)))) (congrArg (fun n=>Value.slice ai n ((Int.toNat (i64.wrap (aa+(if ((ab.drop (Int.toNat aa)).length:Int)<ac then ((ab.drop (Int.toNat aa)).length:Int) else ac)))) - (Int.toNat aa))) (show (Int.toNat (i64.wrap (aa+(if ((ab.drop (Int.toNat aa)).length:Int)<ac then ((ab.drop (Int.toNat aa)).length:Int) else ac)))) - (Int.toNat aa)=((ab.take (Int.toNat (i64.wrap (aa+(if ((ab.drop (Int.toNat aa)).length:Int)<ac then ((ab.drop (Int.toNat aa)).length:Int) else ac))))).drop (Int.toNat aa)).length by rw [List.length_drop (i:=(Int.toNat aa)) (l:=ab.take (Int.toNat (i64.wrap (aa+(if ((ab.drop (Int.toNat aa)).length:Int)<ac then ((ab.drop (Int.toNat aa)).length:Int) else ac))))),List.length_take (i:=(Int.toNat (i64.wrap (aa+(if ((ab.drop (Int.toNat aa)).length:Int)<ac then ((ab.drop (Int.toNat aa)).length:Int) else ac))))) (l:=ab)];have:=ag.2;omega)) ?_;obtain ⟨ar,hc_14m,ao⟩:=bZ hm;cases ao;have hm:=hc_14m;refine ly1 rfl rfl rfl (hy _ _ _ _ [(.slice ai (((ab.take (Int.toNat (i64.wrap (aa+(if ((ab.drop (Int.toNat aa)).length:Int)<ac then ((ab.drop (Int.toNat aa)).length:Int) else ac))))).drop (Int.toNat aa)).length) ((Int.toNat (i64.wrap (aa+(if ((ab.drop (Int.toNat aa)).length:Int)<ac then ((ab.drop (Int.toNat aa)).length:Int) else ac)))) - (Int.toNat aa)))] ad ⟨ai,((Int.toNat (i64.wrap (aa+(if ((ab.drop (Int.toNat aa)).length:Int)<ac then ((ab.drop (Int.toNat aa)).length:Int) else ac)))) - (Int.toNat aa)),rfl,an⟩) ?_;rintro _ au ⟨av,aj,⟨rfl,hJ⟩ | ⟨rfl,hX⟩⟩
   ·refine ⟨_,rfl,?_⟩;have ad:=hJ;refine go ?_;refine Yd rfl<|go ?_;replace hb1:=hb1.kpp aj;refine lW hb1.at1<|go ?_;replace hf0:=hf0.kpp aj;replace hb0:=hb0.kpp aj;exact ⟨af,by omega,rfl,⟨_,_,_,_,rfl,hm,ad,hf0,hb0,hb1,rfl⟩⟩
   refine ⟨_,rfl,?_⟩;have ad:=hX;refine go ?_;refine Ye rfl<|Wh ?_;exact ⟨rfl,⟨_,rfl⟩,_,.inr ad⟩
  cases hm;exact ⟨rfl,⟨_,rfl⟩,_,.inl ad⟩
def Zli (N:Nat) (aa:R7) (ab:Int):Option Rd:=
  Zlh N aa ab
def Zlg (N:Nat) (ab:R7) (aa:Int):Option Rd:=
  if (decide (aa<1))=true then none else (Zli N ab aa)
theorem Zyz {N aa:Nat} {a0:Option Addr} {col:Ze} {w0:World} {ac:R7} {ad:Int} {r:Rd} (hm:Zlg N ac ad=some r) (h0:Sl (Za.pair (Za.pair Za.bool (Za.slice (Za.int .u32))) (Za.slice (Za.int .u32))) col w0 a0 aa ac):
    Calls prog 254 #[.slice a0 ac.length aa,.int .i64 ad] w0 (fun e w'=>∃ (col':Ze) (rv1:Value),e= .returned (rv1)∧Zf col w0 col' w'∧It prog 1 rv1 (fun (y:List R2) (col:Ze) (w:World) (args:List Value)=>∃ (a0:Option Addr) (aa:Nat),args=[.slice a0 y.length aa]∧Sl (Za.pair (Za.pair Za.bool (Za.slice (Za.int .u32))) (Za.slice (Za.int .u32))) col w a0 aa y) r q0 col' w'):=by
 refine Z1 4 (m:=9) func254 rfl rfl rfl rfl rfl ?_;rw [Zlg.eq_1] at hm;have ab:=St.start col w0;refine go ?_;refine Zhy (col:=(Zg col)) (v:=(.slice a0 ac.length aa)) 1 rfl rfl ?_;intro af ap an aq ae;replace ae:Zk 56 1 an ap af #[.slice a0 ac.length aa]:=ae;refine Zhy (col:=an) (v:=(.int .i64 ad)) 2 rfl rfl ?_;intro ag ar au ao ah;replace ah:Zk 3 2 au ar ag #[.int .i64 ad]:=ah;refine lv (v:=_) rfl rfl (S0 rfl)<|Zo<|Zt ?_;replace h0:=h0.keep (Zh.start col w0);replace ab:=(ab.grow aq).grow ao;replace ae:=ae.gr ao;refine Wp.cutK [2,3,1000000] (fun f aj=>∃ ai,Zli N ac ad=some r∧St w0 (Zg col) ai aj∧Zk 56 1 ai aj af #[.slice a0 ac.length aa]∧Zk 3 2 ai aj ag #[.int .i64 ad]) ?_ ?_
 ·intro f aj hJ;obtain ⟨ai,hm,ab,ae,ah⟩:=hJ;rw [Zli.eq_1] at hm;refine go ?_;refine lV (.func (.func 285) #[] #[.pointer (some ⟨af,0,none⟩),.pointer (some ⟨ag,0,none⟩)]) (Zt2 rfl rfl)<|lA (.func (.func 285) #[] #[.pointer (some ⟨af,0,none⟩),.pointer (some ⟨ag,0,none⟩)])<|go ?_;have ak:=ab.finBox (G:=(fun n=>bif Nat.beq n 1 then 450 else bif Nat.beq n 2 then 450 else 0)) ae (by decide) (by decide) (show (fun n=>bif Nat.beq n 1 then 450 else bif Nat.beq n 2 then 450 else 0) 1=450 from rfl);have h0f:=ab.finSl (g:=(fun n=>bif Nat.beq n 1 then 450 else bif Nat.beq n 2 then 450 else 0)) rfl (h0.ks ab);have al:=ab.finBox (G:=(fun n=>bif Nat.beq n 1 then 450 else bif Nat.beq n 2 then 450 else 0)) ah (by decide) (by decide) (show (fun n=>bif Nat.beq n 1 then 450 else bif Nat.beq n 2 then 450 else 0) 2=450 from rfl);refine ⟨rfl,Vv w0.heap.size col ai (fun n=>bif Nat.beq n 1 then 450 else bif Nat.beq n 2 then 450 else 0),_,rfl,ab.fin (fun n=>bif Nat.beq n 1 then 450 else bif Nat.beq n 2 then 450 else 0),285,[.pointer (some ⟨af,0,none⟩),.pointer (some ⟨ag,0,none⟩)],rfl,call285,?_⟩;intro col9 w9 am hk9;replace ak:=ak.itk am hk9 rfl;replace h0f:=h0f.itk am hk9 rfl;replace al:=al.itk am hk9 rfl;exact Zy0 N col9 w9 af a0 aa ac h0f ak ag ad al r hm
 refine go ?_;refine lW ah.at1<|go ?_;refine Zm hm (fun hb hm=>?_) fun hb hm=>?_
 ·cases hm
 refine Xr ?_;exact ⟨rfl,_,hm,ab,ae,ah⟩
def Zfy (N:Nat):Option R2:=
  (Zfm N 1 1).bind fun aa=>some ((aa.1.1.1,aa.1.1.2),aa.1.2)
theorem Zpo {N:Nat} {col:Ze} {w0:World} {r:R2} (c1 c2:Nat) (hm:Zfy N=some r):
    Calls prog 182 #[] w0 (fun e w'=>∃ (col':Ze) (ra1:Option Addr) (rc2:Nat) (ra4:Option Addr) (rc5:Nat),e= .returned ((.agg #[.bool r.1.1,.slice ra1 r.1.2.length rc2,.slice ra4 r.2.length rc5]))∧Zf col w0 col' w'∧Zc (Za.int .u32) 79 c1 col' w' ra1 rc2 r.1.2∧Zc (Za.int .u32) 79 c2 col' w' ra4 rc5 r.2):=by
 refine Yt (m:=8) func182 rfl rfl rfl ?_;rw [Zfy.eq_1] at hm;have ab:=St.start col w0;refine go ?_;refine Xs (col:=(Zg col)) #[.bool false,.slice none (([]:List Int).length) 0,.slice none (([]:List Int).length) 0] 1 zeroValue47 ?_;intro ay az an ao ae;refine go ?_;obtain ⟨aa,ap,hm⟩:=bZ hm;refine Zi (Zpk (col:=an) 2 3 ap) ?_;rintro _ a0 ⟨aq,ai,aj,ak,al,rfl,am,af,ag⟩;refine ⟨_,rfl,?_⟩;refine lM (.tuple #[(.agg #[.bool aa.1.1.1,.slice ai aa.1.1.2.length aj,.slice ak aa.1.2.length al]),.int .i64 aa.2])<|lV (.agg #[.bool aa.1.1.1,.slice ai aa.1.1.2.length aj,.slice ak aa.1.2.length al]) (Xq rfl rfl)<|lV (.int .i64 aa.2) (Xq rfl rfl)<|Xs (col:=aq) #[.bool false,.slice none (([]:List Int).length) 0,.slice none (([]:List Int).length) 0] 4 zeroValue47 ?_;intro a1 a2 a3 ac ar;refine Xa ar ?_;intro a4 ad au av;refine go ?_;refine lV _ (Xd isAgg47 sizeOf47 av) ?_;replace ae:=((ae.gr am).gr ac).kp ad;refine Xa ae ?_;intro a5 ah aw ax;refine go ?_;cases hm;replace ab:=((((ab.grow ao).grow am).grow ac).kp ad au).kp ah aw;replace af:=((af.gr ac).kp ad).kp ah;replace ag:=((ag.gr ac).kp ad).kp ah;exact ⟨rfl,_,ra ax.atN,_,_,_,_,_,rfl,ab.fin (cm [(2,c1),(3,c2)]),ab.fo af,ab.fo ag⟩
def Zny (aa:Bool):Option Bool:=
  some aa
def Zc9 (N:Nat):List R7→Bool→Option Bool
  | [],ac=>some true
  | ad :: ae,ac=>(Zh5 N ad).bind fun aa=>(Zfy N).bind fun ab=>(Zfj N ((aa.1.1,aa.1.2),aa.2) ((ab.1.1,ab.1.2),ab.2)).bind fun af=>if (!decide (af=0))=true then (Zny false) else ((Zc9 N ae) ac)
termination_by structural x=>x
def Zib (N:Nat) (aa:R7) (ab:Int):Option Bool:=
  (Zlg N aa ab).bind fun ac=>Zc9 N ac false
theorem Zxv {N ah:Nat} {a0:Option Addr} {col:Ze} {w0:World} {am:R7} {ao:Int} {r:Bool} (hm:Zib N am ao=some r) (h0:Sl (Za.pair (Za.pair Za.bool (Za.slice (Za.int .u32))) (Za.slice (Za.int .u32))) col w0 a0 ah am):
    Calls prog 180 #[.slice a0 am.length ah,.int .i64 ao] w0 (fun e w'=>e= .returned ((.bool r))∧Below w0.heap.size w0 w'):=by
 refine Zp9 (m:=15) (args:=[.slice a0 am.length ah,.int .i64 ao]) func180 rfl rfl rfl ?_;rw [Zib.eq_1] at hm;have aa:=St.start col w0;replace h0:=h0.keep (Zh.start col w0);have hmk:Yg 499 (Zg col) w0 []:=.nil;refine go ?_;refine Zkx (col:=(Zg col)) (v:=(.bool false)) 1 rfl zeroValue4 ?_;intro ai a4 a5 ax ab;replace ab:Zk 4 1 a5 a4 ai #[.bool false]:=ab;refine go ?_;obtain ⟨a6,a7,hm⟩:=bZ hm;replace aa:=aa.grow ax;refine Zi (Zyz a7 (h0.ks aa)) ?_;rintro _ bq ⟨a8,br,rfl,ap,a9⟩;refine ⟨_,rfl,go ?_⟩;replace hmk:=(hmk.gr ax).gr ap;replace ab:=ab.gr ap;replace aa:=aa.grow ap;refine Zwr (psl:=[9]) (arr:=(fun (y:List R2) (col:Ze) (w:World) (args:List Value)=>∃ (a0:Option Addr) (ah:Nat),args=[.slice a0 y.length ah]∧Sl (Za.pair (Za.pair Za.bool (Za.slice (Za.int .u32))) (Za.slice (Za.int .u32))) col w a0 ah y)) (ys:=a6) (col:=a8) 498 rfl a9 rfl hmk rfl rfl (by rintro _ _ _ _ ⟨_,_,rfl,_⟩;rfl) (fun ys_ ad ae=>∃ (ac:Bool),Zc9 N ys_ ac=some r∧St w0 (Zg col) ad ae∧Zk 4 1 ad ae ai #[.bool ac]) (fun c_ ad ae=>(c_= .ret∧∃ (ac:Bool),Zny ac=some r∧St w0 (Zg col) ad ae∧Zk 4 1 ad ae ai #[.bool ac])) ?_ ?_ ⟨false,hm,aa,ab⟩ ?_ ?_ ?_
 ·intro ys_ ad ae col2_ w2_ hJ hk;obtain ⟨ac,hm,aa,ab⟩:=hJ;exact ⟨ac,hm,aa.kpp hk rfl rfl,ab.kpp hk rfl⟩
 ·intro c_ ad ae col2_ w2_ hX hk;obtain ⟨rfl,hX⟩:=hX;obtain ⟨ac,hm,aa,ab⟩:=hX;exact ⟨rfl,⟨ac,hm,aa.kpp hk rfl rfl,ab.kpp hk rfl⟩⟩
 ·intro bs bt bu bv bw ad ae args hJ hrec hmk harr;obtain ⟨ac,hm,aa,ab⟩:=hJ;rw [Zc9.eq_2] at hm;have hki:=Zx.refl (pC 1) ad ae;obtain ⟨bx,bz,rfl,aq⟩:=harr;refine go ?_;refine ⟨_,hrec,?_⟩;intro b0 b1 aj ay hrec2;have hrec:=hrec2;refine go ?_;obtain ⟨b2,ba,hm⟩:=bZ hm;replace aq:=aq.kp aj;refine Zi (Zxh 2 3 ba aq) ?_;rintro _ b3 ⟨bb,b4,b5,b6,b7,rfl,ak,ar,au⟩;refine ⟨_,rfl,?_⟩;obtain ⟨b8,bc,hm⟩:=bZ hm;refine lc rfl rfl (Zhf call182) (Zpo (col:=bb) 4 5 bc:) ?_;rintro _ bd ⟨av,b9,ca,cb,cc,rfl,af,be,bf⟩;refine ⟨_,rfl,?_⟩;obtain ⟨cd,bg,hm⟩:=bZ hm;replace ar:=ar.gr af;replace au:=au.gr af;refine Zi (Zpi bg ((((ar.toSlF (Zj.int .u32)).froz 3).froz 4).froz 5) ((((au.froz 2 (by decide)).toSlF (Zj.int .u32)).froz 4).froz 5) ((((be.froz 2 (by decide)).froz 3 (by decide)).toSlF (Zj.int .u32)).froz 5) ((((bf.froz 2 (by decide)).froz 3 (by decide)).froz 4 (by decide)).toSlF (Zj.int .u32))) ?_;rintro _ bh ⟨rfl,ag⟩;refine ⟨_,rfl,?_⟩;replace ag:Zf av bd av bh:=.of_below ag;refine go ?_;replace ab:=(((ab.kp aj).gr ak).gr af).gr ag;replace hmk:=(((hmk.kp aj).gr ak).gr af).gr ag;replace hki:=(((hki.kp aj ay rfl).gr ak).gr af).gr ag;replace aa:=(((aa.kp aj ay).grow ak).grow af).grow ag;replace hrec:=((hrec.gr ak).gr af).gr ag;refine Zm hm (fun hb hm=>go ?_) fun hb hm=>?_
  ·refine Ze4 (v:=(.bool false)) ab sizeOf4 rfl rfl (by intro u hu;simp only [Value.cells,List.mem_cons,List.not_mem_nil,or_false] at hu;subst hu;rfl) rfl rfl ?_;intro bi an az aw;replace aw:Zk 4 1 av bi ai #[.bool false]:=aw;refine go ?_;replace hrec:=hrec.kp an;replace hmk:=hmk.kp an;replace hki:=hki.kp an az rfl;replace aa:=aa.kp an az;exact ⟨_,hki,⟨rfl,⟨false,hm,aa,aw⟩⟩,hrec,hmk⟩
  refine Xr ?_;exact ⟨_,hki,⟨ac,hm,aa,ab⟩,hrec,hmk⟩
 ·intro bj ad ae hJ hmk;obtain ⟨ac,hm,aa,ab⟩:=hJ;rw [Zc9.eq_1] at hm;refine go ?_;refine Ze4 (v:=(.bool true)) ab sizeOf4 rfl rfl (by intro u hu;simp only [Value.cells,List.mem_cons,List.not_mem_nil,or_false] at hu;subst hu;rfl) rfl rfl ?_;intro bk a1 bm al;replace al:Zk 4 1 ad bk ai #[.bool true]:=al;refine go ?_;cases hm;replace hmk:=hmk.kp a1;refine ⟨_,(bj :: []),rfl,hmk,?_⟩;intro ce a2 bn;replace aa:=(aa.kp a1 bm).kp a2 bn;replace al:=al.kp a2;exact ⟨_,Zur rfl rfl isAgg4 rfl al.at1,rfl,aa.below⟩
 intro c_ bo ad ae hX hmk;obtain ⟨rfl,hX⟩:=hX;obtain ⟨ac,hm,aa,ab⟩:=hX;rw [Zny.eq_1] at hm;refine Wh ?_;cases hm;refine ⟨_,(bo :: []),rfl,hmk,?_⟩;intro cf a3 bp;replace ab:=ab.kp a3;replace aa:=aa.kp a3 bp;exact ⟨_,Zur rfl rfl isAgg4 rfl ab.at1,rfl,aa.below⟩
def Zf0 (aa:Bool):Option Bool:=
  some aa
def Zfz (N:Nat) (aa:R2):Option Bool:=
  (Zfn N ((aa.1.1,aa.1.2),aa.2)).bind fun ac=>if (decide (ac<0))=true then (Zf0 true) else ((Zfy N).bind fun ab=>(Zfj N ((aa.1.1,aa.1.2),aa.2) ((ab.1.1,ab.1.2),ab.2)).bind fun ad=>Zf0 (decide (0<ad)))
theorem Zxs {N al am:Nat} {an ao:Option Addr} {col:Ze} {w0:World} {ac:R2} {r:Bool} (hm:Zfz N ac=some r) (ah:Sl (Za.int .u32) col w0 an al ac.1.2) (ai:Sl (Za.int .u32) col w0 ao am ac.2):
    Calls prog 179 #[(.agg #[.bool ac.1.1,.slice an ac.1.2.length al,.slice ao ac.2.length am])] w0 (fun e w'=>e= .returned ((.bool r))∧Below w0.heap.size w0 w'):=by
 refine Z1 2 (m:=12) func179 rfl rfl rfl rfl rfl ?_;rw [Zfz.eq_1] at hm;have aa:=St.start col w0;refine go ?_;refine Xe (col:=(Zg col)) 1 rfl ?_;intro a6 a7 ab ay aj;refine Zcw rfl<|Zo<|Zt ?_;replace ah:=ah.keep (Zh.start col w0);replace ai:=ai.keep (Zh.start col w0);replace aa:=aa.grow ay;refine Wp.cutK [1000000] (fun f av=>∃ aw ap,Zf0 ap=some r∧St w0 (Zg col) aw av∧[2].map f=[.bool ap]) ?_ ?_
 ·intro f av hJ;obtain ⟨aw,ap,hm,aa,hs⟩:=hJ;rw [Zf0.eq_1] at hm;refine .lL [2] hs<|Wh ?_;cases hm;exact ⟨rfl,rfl,aa.below⟩
 refine W9 (col:=ab) [(0,0),(1,3),(2,1),(3,1),(4,0),(5,3),(6,3),(7,1),(8,1),(9,1)] (by kernel_rfl) (by kernel_rfl)<|xv rfl rfl (fun _ hC=>Xd isAgg47 sizeOf47 (aj.gr (hC.bl ab))) ?_;refine xe rfl rfl ?_;intro az hC0;have hC:=hC0.bl ab;obtain ⟨ae,a0,hm⟩:=bZ hm;replace aa:=aa.grow hC;refine Zi (Zxg a0 (ah.ks aa) (ai.ks aa)) ?_;rintro _ a1 ⟨rfl,ag⟩;refine ⟨_,rfl,?_⟩;replace ag:Zf ab az ab a1:=.of_below ag;refine Zo<|X1 ab hC0 ag<|xu rfl rfl (fun _=>Zl7 _ _ rfl rfl) ?_;refine xu rfl rfl (fun _=>Zt6 rfl) ?_;replace aj:=(aj.gr hC).gr ag;replace aa:=aa.grow ag;refine Xu hm (fun ad hm=>?_) fun ad hm=>?_
 ·refine Zcm (b:=decide (ae<0)) 6 rfl rfl rfl rfl rfl (by rw [ad];rfl)<|Zcm (b:=decide (ae<0)) 6 rfl rfl rfl rfl rfl (by rw [ad];rfl)<|Zcm (b:=decide (ae<0)) 6 rfl rfl rfl rfl rfl (by rw [ad];rfl)<|Zcm (b:=decide (ae<0)) 6 rfl rfl rfl rfl rfl (by rw [ad];rfl)<|xu (v:=(.bool true)) rfl rfl (fun _=>Xg (congrArg Value.bool ad) rfl) ?_;refine xu rfl rfl (fun _=>Zl2 rfl) ?_;refine Wu ?_;intro a8 hC;replace hC:=hC.bl ab;replace aa:=aa.grow hC;exact ⟨rfl,_,_,hm,aa,rfl⟩
 refine Zwv (v:=(.agg #[.bool ac.1.1,.slice an ac.1.2.length al,.slice ao ac.2.length am])) (b:=decide (ae<0)) 6 rfl rfl rfl rfl rfl (by rw [ad];rfl) (fun _ hC=>Y1 isAgg47 sizeOf47 rfl rfl (aj.atN.gr (hC.bl ab))) ?_;refine xe rfl rfl ?_;intro a9 hC0;have hC:=hC0.bl ab;refine go ?_;obtain ⟨ba,a2,hm⟩:=bZ hm;refine lc rfl rfl (Zhf call182) (Zpo (col:=ab) 6 7 a2:) ?_;rintro _ bb ⟨af,bc,bd,be,bf,rfl,ax,aq,ar⟩;refine ⟨_,rfl,?_⟩;refine Zo<|X1 af hC0 ax<|xe rfl rfl ?_;intro a3 hC0;replace aa:=(aa.grow hC).grow ax;have hC:=hC0.bl af;refine go ?_;obtain ⟨au,a4,hm⟩:=bZ hm;replace aq:=aq.gr hC;replace ar:=ar.gr hC;replace aa:=aa.grow hC;refine Zi (Zpi a4 (((ah.ks aa).froz 6).froz 7) (((ai.ks aa).froz 6).froz 7) ((aq.toSlF (Zj.int .u32)).froz 7) ((ar.froz 6 (by decide)).toSlF (Zj.int .u32))) ?_;rintro _ a5 ⟨rfl,ak⟩;refine ⟨_,rfl,?_⟩;replace ak:Zf af a3 af a5:=.of_below ak;refine Zo<|X1 af hC0 ak<|Zwu (v:=(.bool (decide (0<au)))) (b:=decide (ae<0)) 6 rfl rfl rfl rfl rfl (by rw [ad];rfl) (fun _=>Zl6 au 0 rfl rfl) ?_;refine xu (v:=(.bool (decide (0<au)))) rfl rfl (fun _=>Xt (congrArg Value.bool ad) rfl) ?_;refine xu rfl rfl (fun _=>Zl2 rfl) ?_;refine Wu ?_;intro bg hC;replace hC:=hC.bl af;replace aa:=(aa.grow ak).grow hC;exact ⟨rfl,_,_,hm,aa,rfl⟩
def Zef (N:Nat):List R2→Nat→Option Int
  | [],aa=>some (-1)
  | ab :: ac,aa=>(Zfz N ((ab.1.1,ab.1.2),ab.2)).bind fun ad=>if ad=true then (some (aa:Int)) else ((Zef N ac) (aa+1))
termination_by structural x=>x
def Zlm (N:Nat) (aa:R7):Option Int:=
  Zef N aa 0
theorem Zy7 {N aj:Nat} {a0:Option Addr} {col:Ze} {w0:World} {ab:R7} {r:Int} (hm:Zlm N ab=some r) (h0:Sl (Za.pair (Za.pair Za.bool (Za.slice (Za.int .u32))) (Za.slice (Za.int .u32))) col w0 a0 aj ab):
    Calls prog 253 #[.slice a0 ab.length aj,(.func (.func 179) #[] #[])] w0 (fun e w'=>e= .returned ((.int .i64 r))∧Below w0.heap.size w0 w'):=by
 refine Z1 4 (m:=19) func253 rfl rfl rfl rfl rfl ?_;rw [Zlm.eq_1] at hm;have aa:=St.start col w0;refine go ?_;refine Zu [0,1,7,1000000] (fun n f af=>∃ ae ac ad,n=ad.length∧ab.drop ac=ad∧Zef N ad ac=some r∧St w0 (Zg col) ae af∧[8].map f=[.int .i64 ac]) ab.length ⟨_,0,_,rfl,rfl,hm,aa,rfl⟩ ?_;clear hm;intro n f af hI;obtain ⟨ae,ac,ad,hn,hl,hm,aa,hs⟩:=hI;subst hn;refine .lL [8] hs ?_;replace h0:=h0.keep (Zh.start col w0)
 cases ad with
 | nil=>
  have hk:¬ ((ac:Int)<(ab.length:Int)):=by have:=List.drop_eq_nil_iff.1 hl;omega
  have hkb:=decide_eq_false hk;rw [Zef.eq_1] at hm;refine go ?_;refine Yd (congrArg Value.bool hkb)<|go ?_;cases hm;exact ⟨rfl,rfl,aa.below⟩
 | cons ag ak=>
  obtain ⟨ah,al,am⟩:=Yn hl;have hk:(ac:Int)<(ab.length:Int):=by omega
  have hkb:=decide_eq_true hk;rw [Zef.eq_2] at hm;refine go ?_;refine Ye (congrArg Value.bool hkb)<|go ?_;refine lM (.func (.func 179) #[] #[])<|go ?_;refine lI ah ((h0.ks aa).addr ah) ?_;obtain ⟨_,an,ao⟩:=(h0.ks aa).atN ah;obtain ⟨_,_,rfl,ap,aq⟩:=W8 an;obtain ⟨_,_,rfl,ar,au⟩:=W8 ap;obtain ⟨rfl,_⟩:=ar;obtain ⟨⟨av,aw,rfl,ax⟩,_⟩:=au;obtain ⟨⟨ay,az,rfl,a1⟩,_⟩:=aq;refine lV (.agg #[.bool ag.1.1,.slice av ag.1.2.length aw,.slice ay ag.2.length az]) (Y1 isAgg47 sizeOf47 rfl rfl ao) ?_;obtain ⟨a4,a2,hm⟩:=bZ hm;refine lc rfl rfl (Z15 call179 rfl rfl) (Zxs a2 ax a1:) ?_;rintro _ a3 ⟨rfl,ai⟩;refine ⟨_,rfl,?_⟩;replace ai:Zf ae af ae a3:=.of_below ai;refine Zo ?_;replace aa:=aa.grow ai;refine Zm hm (fun hb hm=>go ?_) fun hb hm=>go ?_
  ·cases hm;exact ⟨rfl,rfl,aa.below⟩
  exact ⟨ak.length,by simp,rfl,⟨_,_,_,rfl,al,hm,aa,(Yq (congrArg (Value.int .i64) (Yj (Nat.lt_of_lt_of_le am (h0.ks aa).1.1))) rfl)⟩⟩
def Zll (N:Nat) (aa:R7):Option Bool:=
  (Zlm N aa).bind fun ab=>some (decide (0≤ab))
theorem Zy4 {N ad:Nat} {a0:Option Addr} {col:Ze} {w0:World} {ab:R7} {r:Bool} (hm:Zll N ab=some r) (h0:Sl (Za.pair (Za.pair Za.bool (Za.slice (Za.int .u32))) (Za.slice (Za.int .u32))) col w0 a0 ad ab):
    Calls prog 177 #[.slice a0 ab.length ad,(.func (.func 179) #[] #[])] w0 (fun e w'=>e= .returned ((.bool r))∧Below w0.heap.size w0 w'):=by
 refine Z1 4 (m:=9) func177 rfl rfl rfl rfl rfl ?_;rw [Zll.eq_1] at hm;have aa:=St.start col w0;refine go ?_;refine lM (.func (.func 179) #[] #[]) ?_;obtain ⟨ag,ae,hm⟩:=bZ hm;replace h0:=h0.keep (Zh.start col w0);refine Zi (Zy7 ae (h0.ks aa)) ?_;rintro _ af ⟨rfl,ac⟩;refine ⟨_,rfl,?_⟩;replace ac:Zf (Zg col) w0 (Zg col) af:=.of_below ac;refine go ?_;cases hm;replace aa:=aa.grow ac;exact ⟨rfl,rfl,aa.below⟩
def Zc8 (ab:R0):List Int→Int→Option Int
  | [],aa=>some aa
  | ad :: ae,aa=>(Zl ab.2.2.1 ad).bind fun ac=>(Zc8 ab ae) (if 1099511627776<(i64.wrap (aa * (ac.length:Int))) then 1099511627776 else (i64.wrap (aa * (ac.length:Int))))
termination_by structural x=>x
def Zf1 (aa:R0) (ab:Int):Option Int:=
  (Zl aa.2.2.2.1 ab).bind fun ac=>Zc8 aa ac 1
theorem Zxt {am an ao ap:Nat} {aq ar au av:Option Addr} {col:Ze} {w0:World} {aa:R0} {a0 r:Int} (hm:Zf1 aa a0=some r) (bc:Sl Za.str col w0 aq am aa.2.1) (ai:Sl (Za.slice Za.str) col w0 ar an aa.2.2.1) (aj:Sl (Za.slice (Za.int .i64)) col w0 au ao aa.2.2.2.1) (bd:Sl (Za.slice (Za.pair (Za.pair Za.bool (Za.slice (Za.int .u32))) (Za.slice (Za.int .u32)))) col w0 av ap aa.2.2.2.2):
    Calls prog 176 #[(.agg #[.string aa.1,.slice aq aa.2.1.length am,.slice ar aa.2.2.1.length an,.slice au aa.2.2.2.1.length ao,.slice av aa.2.2.2.2.length ap]),.int .i64 a0] w0 (fun e w'=>e= .returned ((.int .i64 r))∧Below w0.heap.size w0 w'):=by
 refine Z1 4 (m:=29) func176 rfl rfl rfl rfl rfl ?_;rw [Zf1.eq_1] at hm;have ab:=St.start col w0;refine go ?_;refine Xe (col:=(Zg col)) 1 rfl ?_;intro a1 be bf a2 ae;refine go ?_;refine Z9 ae<|Xn rfl ?_;obtain ⟨af,aw,hm⟩:=bZ hm;replace aj:=aj.keep (Zh.start col w0);replace ab:=ab.grow a2;refine lI aw ((aj.ks ab).addr aw) ?_;obtain ⟨_,a3,a4⟩:=(aj.ks ab).atN aw;obtain ⟨⟨a5,a6,rfl,ac⟩,_⟩:=a3;refine lW a4.one<|go ?_;refine Zu [12,13,2,1000000] (fun n f ak=>∃ al ag ad ah,n=ah.length∧af.drop ag=ah∧Zc8 aa ah ad=some r∧St w0 (Zg col) al ak∧Sl (Za.int .i64) al ak a5 a6 af∧Zk 27 1 al ak a1 #[.string aa.1,.slice aq aa.2.1.length am,.slice ar aa.2.2.1.length an,.slice au aa.2.2.2.1.length ao,.slice av aa.2.2.2.2.length ap]∧[14,5].map f=[.int .i64 ag,.int .i64 ad]) af.length ⟨_,0,1,_,rfl,rfl,hm,ab,ac,ae,rfl⟩ ?_;clear hm;intro n f ak hI;obtain ⟨al,ag,ad,ah,hn,hl,hm,ab,ac,ae,hs⟩:=hI;subst hn;refine .lL [14,5] hs ?_;replace ai:=ai.keep (Zh.start col w0)
 cases ah with
 | nil=>
  have hk:¬ ((ag:Int)<(af.length:Int)):=by have:=List.drop_eq_nil_iff.1 hl;omega
  have hkb:=decide_eq_false hk;rw [Zc8.eq_1] at hm;refine go ?_;refine Yd (congrArg Value.bool hkb)<|go ?_;cases hm;exact ⟨rfl,rfl,ab.below⟩
 | cons bg a7=>
  obtain ⟨ax,a8,a9⟩:=Yn hl;have hk:(ag:Int)<(af.length:Int):=by omega
  have hkb:=decide_eq_true hk;rw [Zc8.eq_2] at hm;refine go ?_;refine Ye (congrArg Value.bool hkb)<|go ?_;refine lI ax (ac.addr ax)<|lW (ac.atInt ax) ?_;refine go ?_;refine Z9 ae<|Xn rfl ?_;obtain ⟨ay,az,hm⟩:=bZ hm;refine lI az ((ai.ks ab).addr az) ?_;obtain ⟨_,ba,bb⟩:=(ai.ks ab).atN az;obtain ⟨⟨bh,bi,rfl,bj⟩,_⟩:=ba;refine lW bb.one<|go ?_;refine lV (.int .i64 (if 1099511627776<(i64.wrap (ad * (ay.length:Int))) then 1099511627776 else (i64.wrap (ad * (ay.length:Int))))) (Zl9 (i64.wrap (ad * (ay.length:Int))) 1099511627776 rfl rfl)<|go ?_;exact ⟨a7.length,by simp,rfl,⟨_,_,_,_,rfl,a8,hm,ab,ac,ae,(Yq (congrArg (Value.int .i64) (Yj (Nat.lt_of_lt_of_le a9 ac.1.1))) rfl)⟩⟩
def Zbo (N:Nat) (ab:R0):List R7→Nat→Option Int
  | [],aa=>some 0
  | ac :: ad,aa=>(Zl ab.2.2.1 (aa:Int)).bind fun ae=>(Zfv N ac).bind fun af=>(Zib N af (ae.length:Int)).bind fun ag=>if (!ag)=true then (some 46) else ((Zbo N ab ad) (aa+1))
termination_by structural x=>x
def Zaf (N:Nat) (aa:R0):List R7→Option Int
  | []=>Zbo N aa aa.2.2.2.2 0
  | ab :: ac=>(Zfv N ab).bind fun ad=>(Zll N ad).bind fun ae=>if ae=true then (some 45) else (Zaf N aa ac)
termination_by structural x=>x
def Zae (N:Nat) (aa:R0):List R7→Nat→Option Int
  | [],ab=>Zaf N aa aa.2.2.2.2
  | ae :: af,ab=>(Zf1 (aa.1,aa.2.1,aa.2.2.1,aa.2.2.2.1,aa.2.2.2.2) (ab:Int)).bind fun ac=>(Zl aa.2.2.1 (ab:Int)).bind fun ad=>if (decide (65536<(i64.wrap (ac * (ad.length:Int)))))=true then (some 4) else (if (!decide ((i64.wrap (ac * (ad.length:Int)))=(ae.length:Int)))=true then (some 60) else ((Zae N aa af) (ab+1)))
termination_by structural x=>x
def Zbn (N:Nat) (aa:R0) (ad:Bool):Option Int:=
  if ad=true then (some 60) else (if (decide (1024<(aa.2.1.length:Int)))=true then (some 4) else ((Zfw (aa.1,aa.2.1,aa.2.2.1,aa.2.2.2.1,aa.2.2.2.2)).bind fun ab=>if (!decide (ab=0))=true then (some ab) else ((Q8 N aa.2.2.2.1).bind fun ac=>if (!decide (ac=0))=true then (some ac) else (Zae N aa aa.2.2.2.2 0))))
def Sm (N:Nat) (aa:R0):Option Int:=
  if (!decide ((aa.2.2.1.length:Int)=(aa.2.1.length:Int)))=true then (Zbn N aa true) else (if (!decide ((aa.2.2.2.1.length:Int)=(aa.2.1.length:Int)))=true then (Zbn N aa true) else (Zbn N aa (!decide ((aa.2.2.2.2.length:Int)=(aa.2.1.length:Int)))))
theorem Zpm {N aj ak al am:Nat} {an ao ap aq:Option Addr} {col:Ze} {w0:World} {ab:R0} {r:Int} (hm:Sm N ab=some r) (a2:Sl Za.str col w0 an aj ab.2.1) (ag:Sl (Za.slice Za.str) col w0 ao ak ab.2.2.1) (aw:Sl (Za.slice (Za.int .i64)) col w0 ap al ab.2.2.2.1) (ad:Sl (Za.slice (Za.pair (Za.pair Za.bool (Za.slice (Za.int .u32))) (Za.slice (Za.int .u32)))) col w0 aq am ab.2.2.2.2):
    Calls prog 67 #[(.agg #[.string ab.1,.slice an ab.2.1.length aj,.slice ao ab.2.2.1.length ak,.slice ap ab.2.2.2.1.length al,.slice aq ab.2.2.2.2.length am])] w0 (fun e w'=>e= .returned ((.int .i64 r))∧Below w0.heap.size w0 w'):=by
 refine Z1 2 (m:=103) func67 rfl rfl rfl rfl rfl ?_;rw [Sm.eq_1] at hm;have aa:=St.start col w0;refine go ?_;refine Xe (col:=(Zg col)) 1 rfl ?_;intro a3 cp cq bo ac;refine go ?_;refine Z9 ac<|lV _ (Zel underlying22 rfl)<|Yh rfl<|Zo<|Zt<|Zt ?_;replace a2:=a2.keep (Zh.start col w0);replace ag:=ag.keep (Zh.start col w0);replace aw:=aw.keep (Zh.start col w0);replace ad:=ad.keep (Zh.start col w0);replace aa:=aa.grow bo;refine Wp.cutK [1,3,1000000] (fun f a4=>∃ ah a9,Zbn N ab a9=some r∧St w0 (Zg col) ah a4∧Zk 27 1 ah a4 a3 #[.string ab.1,.slice an ab.2.1.length aj,.slice ao ab.2.2.1.length ak,.slice ap ab.2.2.2.1.length al,.slice aq ab.2.2.2.2.length am]∧[34].map f=[.bool a9]) ?_ ?_
 ·intro f a4 hJ;obtain ⟨ah,a9,hm,aa,ac,hs⟩:=hJ;rw [Zbn.eq_1] at hm;refine .lL [34] hs ?_;refine Zm hm (fun hb hm=>go ?_) fun hb hm=>go ?_
  ·cases hm;exact ⟨rfl,rfl,aa.below⟩
  refine Zm hm (fun hb hm=>go ?_) fun hb hm=>go ?_
  ·cases hm;exact ⟨rfl,rfl,aa.below⟩
  refine lV _ (Xd isAgg27 sizeOf27 ac) ?_;obtain ⟨cr,bp,hm⟩:=bZ hm;refine Zi (Zxr bp (a2.ks aa) (ag.ks aa) (aw.ks aa) (ad.ks aa)) ?_;rintro _ bk ⟨rfl,a5⟩;refine ⟨_,rfl,?_⟩;replace a5:Zf ah a4 ah bk:=.of_below a5;refine go ?_;replace ac:=ac.gr a5;replace aa:=aa.grow a5;refine Zm hm (fun hb hm=>go ?_) fun hb hm=>go ?_
  ·cases hm;exact ⟨rfl,rfl,aa.below⟩
  refine Z9 ac ?_;obtain ⟨cs,bq,hm⟩:=bZ hm;refine Zi (Zw6 bq (aw.ks aa)) ?_;rintro _ br ⟨rfl,a6⟩;refine ⟨_,rfl,?_⟩;replace a6:Zf ah bk ah br:=.of_below a6;refine go ?_;replace ac:=ac.gr a6;replace aa:=aa.grow a6;refine Zm hm (fun hb hm=>go ?_) fun hb hm=>go ?_
  ·cases hm;exact ⟨rfl,rfl,aa.below⟩
  refine Z9 ac ?_;refine go ?_;refine Zu [1,49,50,1000000] (fun n f ba=>∃ ae ar ax,n=ax.length∧ab.2.2.2.2.drop ar=ax∧Zae N ab ax ar=some r∧St w0 (Zg col) ae ba∧Zk 27 1 ae ba a3 #[.string ab.1,.slice an ab.2.1.length aj,.slice ao ab.2.2.1.length ak,.slice ap ab.2.2.2.1.length al,.slice aq ab.2.2.2.2.length am]∧[51].map f=[.int .i64 ar]) ab.2.2.2.2.length ⟨_,0,_,rfl,rfl,hm,aa,ac,rfl⟩ ?_;clear hm;intro n f ba hI;obtain ⟨ae,ar,ax,hn,hl,hm,aa,ac,hs⟩:=hI;subst hn;refine .lL [51] hs ?_
  cases ax with
  | nil=>
   have hk:¬ ((ar:Int)<(ab.2.2.2.2.length:Int)):=by have:=List.drop_eq_nil_iff.1 hl;omega
   have hkb:=decide_eq_false hk;rw [Zae.eq_1] at hm;refine go ?_;refine Yd (congrArg Value.bool hkb)<|go ?_;refine Z9 ac ?_;refine go ?_;refine Zu [1,74,75,1000000] (fun n f bb=>∃ bc ay az,n=az.length∧ab.2.2.2.2.drop ay=az∧Zaf N ab az=some r∧St w0 (Zg col) bc bb∧Zk 27 1 bc bb a3 #[.string ab.1,.slice an ab.2.1.length aj,.slice ao ab.2.2.1.length ak,.slice ap ab.2.2.2.1.length al,.slice aq ab.2.2.2.2.length am]∧[76].map f=[.int .i64 ay]) ab.2.2.2.2.length ⟨_,0,_,rfl,rfl,hm,aa,ac,rfl⟩ ?_;clear hm;intro n f bb hI;obtain ⟨bc,ay,az,hn,hl,hm,aa,ac,hs⟩:=hI;subst hn;refine .lL [76] hs ?_
   cases az with
   | nil=>
    have hk:¬ ((ay:Int)<(ab.2.2.2.2.length:Int)):=by have:=List.drop_eq_nil_iff.1 hl;omega
    have hkb:=decide_eq_false hk;rw [Zaf.eq_1] at hm;refine go ?_;refine Yd (congrArg Value.bool hkb)<|go ?_;refine Z9 ac ?_;refine go ?_;refine Zu [1,85,86,1000000] (fun n f bd=>∃ ai au a0,n=a0.length∧ab.2.2.2.2.drop au=a0∧Zbo N ab a0 au=some r∧St w0 (Zg col) ai bd∧Zk 27 1 ai bd a3 #[.string ab.1,.slice an ab.2.1.length aj,.slice ao ab.2.2.1.length ak,.slice ap ab.2.2.2.1.length al,.slice aq ab.2.2.2.2.length am]∧[87].map f=[.int .i64 au]) ab.2.2.2.2.length ⟨_,0,_,rfl,rfl,hm,aa,ac,rfl⟩ ?_;clear hm;intro n f bd hI;obtain ⟨ai,au,a0,hn,hl,hm,aa,ac,hs⟩:=hI;subst hn;refine .lL [87] hs ?_
    cases a0 with
    | nil=>
     have hk:¬ ((au:Int)<(ab.2.2.2.2.length:Int)):=by have:=List.drop_eq_nil_iff.1 hl;omega
     have hkb:=decide_eq_false hk;rw [Zbo.eq_1] at hm;refine go ?_;refine Yd (congrArg Value.bool hkb)<|go ?_;cases hm;exact ⟨rfl,rfl,aa.below⟩
    | cons ct bs=>
     obtain ⟨af,bt,bu⟩:=Yn hl;have hk:(au:Int)<(ab.2.2.2.2.length:Int):=by omega
     have hkb:=decide_eq_true hk;rw [Zbo.eq_2] at hm;refine go ?_;refine Ye (congrArg Value.bool hkb)<|go ?_;refine lI af ((ad.ks aa).addr af) ?_;obtain ⟨_,bv,bw⟩:=(ad.ks aa).atN af;obtain ⟨⟨cu,cv,rfl,be⟩,_⟩:=bv;refine lW bw.one<|go ?_;refine W9 (col:=ai) [(0,1),(2,1),(3,0),(4,1),(5,1),(6,0),(7,1),(1,3),(8,3),(9,1)] (by kernel_rfl) (by kernel_rfl)<|xu rfl rfl (fun _=>Qz rfl) ?_;refine xF ⟨_,_,rfl⟩ ?_;refine xW (fun _ hC=>((ac.atN).nth (q:=2) rfl).gr (hC.bl ai)) ?_;refine xu rfl rfl (fun _=>W7 rfl) ?_;obtain ⟨cw,a7,hm⟩:=bZ hm;refine xu rfl rfl (fun _=>Wt underlying23 sizeOf22 rfl rfl (Xy a7).1 (Xy a7).2.1 ((ag.ks aa).addr a7)) ?_;obtain ⟨_,bx,bz⟩:=(ag.ks aa).atN a7;obtain ⟨⟨cx,cy,rfl,cz⟩,_⟩:=bx;refine xW (fun _ hC=>bz.one.gr (hC.bl ai)) ?_;refine xu rfl rfl (fun _=>Zel underlying22 rfl) ?_;refine xe rfl rfl ?_;intro c0 hC0;have hC:=hC0.bl ai;obtain ⟨c1,b0,hm⟩:=bZ hm;replace be:=be.gr hC;refine Zi (Zpn 2 b0 be) ?_;rintro _ c2 ⟨av,c3,c4,rfl,bf,bg⟩;refine ⟨_,rfl,?_⟩;refine Zo<|X1 av hC0 bf<|xe rfl rfl ?_;intro b1 hC0;replace ac:=(ac.gr hC).gr bf;replace aa:=(aa.grow hC).grow bf;have hC:=hC0.bl av;obtain ⟨c5,b2,hm⟩:=bZ hm;replace bg:=bg.gr hC;refine Zi (Zxv b2 (bg.toSlF (Zj.pair (Zj.pair Zj.bool Zj.slice) Zj.slice))) ?_;rintro _ b3 ⟨rfl,a1⟩;refine ⟨_,rfl,?_⟩;replace a1:Zf av b1 av b3:=.of_below a1;refine Zo<|X1 av hC0 a1<|xu rfl rfl (fun _=>Zod _ rfl) ?_;refine Wu ?_;replace ac:=(ac.gr hC).gr a1;replace aa:=(aa.grow hC).grow a1;intro c6 hC;replace hC:=hC.bl av;replace ac:=ac.gr hC;replace aa:=aa.grow hC;refine Zm hm (fun hb hm=>go ?_) fun hb hm=>go ?_
     ·cases hm;exact ⟨rfl,rfl,aa.below⟩
     exact ⟨bs.length,by simp,rfl,⟨_,_,_,rfl,bt,hm,aa,ac,(Yq (congrArg (Value.int .i64) (Yj (Nat.lt_of_lt_of_le bu (ad.ks aa).1.1))) rfl)⟩⟩
   | cons c7 b4=>
    obtain ⟨af,b5,b6⟩:=Yn hl;have hk:(ay:Int)<(ab.2.2.2.2.length:Int):=by omega
    have hkb:=decide_eq_true hk;rw [Zaf.eq_2] at hm;refine go ?_;refine Ye (congrArg Value.bool hkb)<|go ?_;refine lI af ((ad.ks aa).addr af) ?_;obtain ⟨_,b7,b8⟩:=(ad.ks aa).atN af;obtain ⟨⟨c8,c9,rfl,b9⟩,_⟩:=b7;refine lW b8.one<|go ?_;obtain ⟨da,ca,hm⟩:=bZ hm;refine Zi (Zpn 3 ca b9) ?_;rintro _ cb ⟨bm,db,dc,rfl,bn,cc⟩;refine ⟨_,rfl,?_⟩;obtain ⟨dd,cd,hm⟩:=bZ hm;refine Zi (Zy4 cd (cc.toSlF (Zj.pair (Zj.pair Zj.bool Zj.slice) Zj.slice))) ?_;rintro _ ce ⟨rfl,a8⟩;refine ⟨_,rfl,?_⟩;replace a8:Zf bm cb bm ce:=.of_below a8;refine Zo ?_;replace ac:=(ac.gr bn).gr a8;replace aa:=(aa.grow bn).grow a8;refine Zm hm (fun hb hm=>go ?_) fun hb hm=>go ?_
    ·cases hm;exact ⟨rfl,rfl,aa.below⟩
    exact ⟨b4.length,by simp,rfl,⟨_,_,_,rfl,b5,hm,aa,ac,(Yq (congrArg (Value.int .i64) (Yj (Nat.lt_of_lt_of_le b6 (ad.ks aa).1.1))) rfl)⟩⟩
  | cons de cf=>
   obtain ⟨af,cg,ch⟩:=Yn hl;have hk:(ar:Int)<(ab.2.2.2.2.length:Int):=by omega
   have hkb:=decide_eq_true hk;rw [Zae.eq_2] at hm;refine go ?_;refine Ye (congrArg Value.bool hkb)<|go ?_;refine lI af ((ad.ks aa).addr af) ?_;obtain ⟨_,ci,cj⟩:=(ad.ks aa).atN af;obtain ⟨⟨df,dg,rfl,dh⟩,_⟩:=ci;refine lW cj.one<|go ?_;refine Ys (col:=ae) (by kernel_rfl) (by kernel_rfl)<|qv rfl (fun _ hC=>Xd isAgg27 sizeOf27 (ac.gr (hC.bl ae))) ?_;refine go ?_;obtain ⟨ck,cl,hm⟩:=bZ hm;refine qc (v:=(.int .i64 ck)) rfl (fun _ hC=>⟨_,_,Ur call176 rfl rfl,(Zxt cl ((a2.ks aa).gr (hC.bl ae)) ((ag.ks aa).gr (hC.bl ae)) ((aw.ks aa).gr (hC.bl ae)) ((ad.ks aa).gr (hC.bl ae)):).mono fun _ _ h=>⟨h.1,hC.trans (.of_below h.2)⟩⟩) ?_;refine qF ⟨_,_,rfl⟩ ?_;refine qW (fun _ hC=>((ac.atN).nth (q:=2) rfl).gr (hC.bl ae)) ?_;refine go ?_;obtain ⟨di,bh,hm⟩:=bZ hm;refine qI bh ((ag.ks aa).addr bh) ?_;obtain ⟨_,cn,co⟩:=(ag.ks aa).atN bh;obtain ⟨⟨dj,dl,rfl,dm⟩,_⟩:=cn;refine qW (fun _ hC=>co.one.gr (hC.bl ae)) ?_;refine go ?_;refine X9 ?_;intro dn hC;replace hC:=hC.bl ae;refine go ?_;replace ac:=ac.gr hC;replace aa:=aa.grow hC;refine Zm hm (fun hb hm=>go ?_) fun hb hm=>go ?_
   ·cases hm;exact ⟨rfl,rfl,aa.below⟩
   refine Zm hm (fun hb hm=>go ?_) fun hb hm=>go ?_
   ·cases hm;exact ⟨rfl,rfl,aa.below⟩
   exact ⟨cf.length,by simp,rfl,⟨_,_,_,rfl,cg,hm,aa,ac,(Yq (congrArg (Value.int .i64) (Yj (Nat.lt_of_lt_of_le ch (ad.ks aa).1.1))) rfl)⟩⟩
 refine Wa<|Z9 ac ?_;refine go ?_;refine Xu hm (fun bi hm=>go ?_) fun bi hm=>go ?_
 ·refine lV (.bool true) (Xg (congrArg Value.bool bi) rfl)<|Y0 rfl<|lP 28 rfl rfl<|lP 28 rfl rfl<|lP 28 rfl rfl<|lP 28 rfl rfl<|lP 28 rfl rfl<|lV (.bool true) (Xg rfl rfl)<|Zo ?_;exact ⟨rfl,_,_,hm,aa,ac,rfl⟩
 refine Xv ⟨_,_,rfl⟩ ?_;refine go ?_;refine lW ((ac.atN).nth (q:=3) rfl)<|go ?_;refine lV (.bool (!decide ((ab.2.2.2.1.length:Int)=(ab.2.1.length:Int)))) (Xt (congrArg Value.bool bi) rfl)<|Y0 rfl ?_;refine Xu hm (fun bj hm=>go ?_) fun bj hm=>go ?_
 ·refine lV (.bool true) (Xg (congrArg Value.bool bj) rfl)<|Zo ?_;exact ⟨rfl,_,_,hm,aa,ac,rfl⟩
 refine Xv ⟨_,_,rfl⟩ ?_;refine go ?_;refine lW ((ac.atN).nth (q:=4) rfl)<|go ?_;refine lV (.bool (!decide ((ab.2.2.2.2.length:Int)=(ab.2.1.length:Int)))) (Xt (congrArg Value.bool bj) rfl)<|Zo ?_;exact ⟨rfl,_,_,hm,aa,ac,rfl⟩
def Zd3 (N:Nat) (ab:List ByteArray) (ac:ByteArray):Nat→Int→Option Int
  | 0,_=>none
  | ad+1,aa=>if (decide (aa<(ab.length:Int)))=true then ((Zl ab aa).bind fun ae=>if (decide (ae=ac))=true then (some aa) else ((Zd3 N ab ac ad) (i64.wrap (aa+1)))) else (some (-1))
termination_by structural x=>x
def Zi1 (N:Nat) (aa:List ByteArray) (ab:ByteArray):Option Int:=
  Zd3 N aa ab N 0
theorem Zp3 {N ag:Nat} {a0:Option Addr} {col:Ze} {w0:World} {ac:R5} {ad:ByteArray} {r:Int} (hm:Zi1 N ac ad=some r) (h0:Sl Za.str col w0 a0 ag ac):
    Calls prog 192 #[.slice a0 ac.length ag,.string ad] w0 (fun e w'=>e= .returned ((.int .i64 r))∧Below w0.heap.size w0 w'):=by
 refine Z1 4 (m:=19) func192 rfl rfl rfl rfl rfl ?_;rw [Zi1.eq_1] at hm;have aa:=St.start col w0;refine go ?_;refine Zu [0,1,1000000] (fun n f ah=>∃ ai ae ab,ab=n∧Zd3 N ac ad ab ae=some r∧St w0 (Zg col) ai ah∧[5].map f=[.int .i64 ae]) N ⟨_,0,_,rfl,hm,aa,rfl⟩ ?_;clear hm;intro n f ah hI;obtain ⟨ai,ae,ab,hn,hm,aa,hs⟩:=hI;subst hn;refine .lL [5] hs ?_;replace h0:=h0.keep (Zh.start col w0)
 cases ab with
 | zero=>rw [Zd3.eq_1] at hm;cases hm
 | succ ab=>
  rw [Zd3.eq_2] at hm;refine go ?_;refine Zm hm (fun hb hm=>go ?_) fun hb hm=>go ?_
  ·obtain ⟨aj,af,hm⟩:=bZ hm;refine lI af ((h0.ks aa).addr af)<|lW ((h0.ks aa).atStr af) ?_;refine go ?_;refine Zm hm (fun hb hm=>go ?_) fun hb hm=>go ?_
   ·cases hm;exact ⟨rfl,rfl,aa.below⟩
   exact ⟨ab,by omega,rfl,⟨_,_,_,rfl,hm,aa,rfl⟩⟩
  cases hm;exact ⟨rfl,rfl,aa.below⟩
def Zd6 (N:Nat) (ab:R0):Nat→R1→Int→Option R1
  | 0,_,_=>none
  | ae+1,aa,ac=>if (decide (ac<(ab.2.2.1.length:Int)))=true then ((Zl ab.2.2.1 ac).bind fun ad=>Z0 ((aa.length+[(ad.length:Int)].length) * 8≤140737488355328∧aa.length+[(ad.length:Int)].length≤maxLen) ((Zd6 N ab ae) (aa++[(ad.length:Int)]) (i64.wrap (ac+1)))) else (some aa)
termination_by structural x=>x
def Zd5 (N:Nat) (aa:R0):Option R1:=
  Zd6 N aa N ([]:List Int) 0
theorem Zys {N aj ak al am:Nat} {an ao ap aq:Option Addr} {col:Ze} {w0:World} {aa:R0} {r:R1} (c1:Nat) (hm:Zd5 N aa=some r) (a7:Sl Za.str col w0 an aj aa.2.1) (af:Sl (Za.slice Za.str) col w0 ao ak aa.2.2.1) (a8:Sl (Za.slice (Za.int .i64)) col w0 ap al aa.2.2.2.1) (a9:Sl (Za.slice (Za.pair (Za.pair Za.bool (Za.slice (Za.int .u32))) (Za.slice (Za.int .u32)))) col w0 aq am aa.2.2.2.2):
    Calls prog 150 #[(.agg #[.string aa.1,.slice an aa.2.1.length aj,.slice ao aa.2.2.1.length ak,.slice ap aa.2.2.2.1.length al,.slice aq aa.2.2.2.2.length am])] w0 (fun e w'=>∃ (col':Ze) (ra1:Option Addr) (rc2:Nat),e= .returned ((.slice ra1 r.length rc2))∧Zf col w0 col' w'∧Zc (Za.int .i64) 3 c1 col' w' ra1 rc2 r):=by
 refine Z1 2 (m:=22) func150 rfl rfl rfl rfl rfl ?_;rw [Zd5.eq_1] at hm;have ab:=St.start col w0;refine go ?_;refine Xe (col:=(Zg col)) 1 rfl ?_;intro az ba bb a0 ac;refine go ?_;replace ab:=ab.grow a0;refine Zu [1,1000000] (fun n f ag=>∃ ae ar au ah av ad,ad=n∧Zd6 N aa ad ah av=some r∧St w0 (Zg col) ae ag∧Zk 27 1 ae ag az #[.string aa.1,.slice an aa.2.1.length aj,.slice ao aa.2.2.1.length ak,.slice ap aa.2.2.2.1.length al,.slice aq aa.2.2.2.2.length am]∧Zc (Za.int .i64) 3 2 ae ag ar au ah∧[3,4].map f=[.slice ar ah.length au,.int .i64 av]) N ⟨_,none,0,_,0,_,rfl,hm,ab,ac,Zc.nil,rfl⟩ ?_;clear hm;intro n f ag hI;obtain ⟨ae,ar,au,ah,av,ad,hn,hm,ab,ac,ai,hs⟩:=hI;subst hn;refine .lL [3,4] hs ?_;replace af:=af.keep (Zh.start col w0)
 cases ad with
 | zero=>rw [Zd6.eq_1] at hm;cases hm
 | succ ad=>
  rw [Zd6.eq_2] at hm;refine go ?_;refine Z9 ac ?_;refine go ?_;refine Zm hm (fun hb hm=>go ?_) fun hb hm=>go ?_
  ·refine Z9 ac<|Xn rfl ?_;obtain ⟨a1,aw,hm⟩:=bZ hm;refine lI aw ((af.ks ab).addr aw) ?_;obtain ⟨_,a2,a3⟩:=(af.ks ab).atN aw;obtain ⟨⟨bc,bd,rfl,be⟩,_⟩:=a2;refine lW a3.one<|go ?_;refine W5 (col:=ae) [(a1.length:Int)] 3 ?_;intro bf bg bh ax a4;obtain ⟨a5,hm⟩:=Z3 hm;replace ai:=ai.gr ax;refine Wk ai (a4.srcN (NB.int (k:=.i64))) a5 ?_;intro bi bj bk bm ay a6;refine go ?_;replace ac:=(ac.gr ax).kpp ay;replace ab:=(ab.grow ax).kpp ay;exact ⟨ad,by omega,rfl,⟨_,_,_,_,_,_,rfl,hm,ab,ac,a6,rfl⟩⟩
  cases hm;exact ⟨rfl,_,_,_,rfl,ab.fin (cm [(2,c1)]),ab.fo ai⟩
def Zgz (aa:Int) (kk_L2:(Int→Int→Option Int)) (ab:Int):Option Int:=
  kk_L2 ab (i64.wrap (aa+1))
def Zau (N:Nat) (aa:List Int) (ac:List Int):Nat→Int→Int→Option Int
  | 0,_,_=>none
  | af+1,ad,ab=>if (decide (ab<(aa.length:Int)))=true then ((Zl aa ab).bind fun ag=>(Zl ac ag).bind fun ae=>Z0 (ae≠0) (if (decide ((i64.wrap (Int.tdiv 1099511627776 ae))<ad))=true then (Zgz ab (Zau N aa ac af) 1099511627776) else (Zgz ab (Zau N aa ac af) (i64.wrap (ad * ae))))) else (some ad)
termination_by structural x=>x
def Zd2 (N:Nat) (aa:List Int) (ab:List Int):Nat→Int→Option Int
  | 0,_=>none
  | ad+1,ac=>if (decide (ac<(aa.length:Int)))=true then ((Zl aa ac).bind fun ae=>(Zl ab ae).bind fun af=>if (decide (af<1))=true then (some 0) else ((Zd2 N aa ab ad) (i64.wrap (ac+1)))) else (Zau N aa ab N 1 0)
termination_by structural x=>x
def Zi0 (N:Nat) (aa:List Int) (ab:List Int):Option Int:=
  Zd2 N aa ab N 0
theorem Zym {N an ao:Nat} {a0 a1:Option Addr} {col:Ze} {w0:World} {ac ad:R1} {r:Int} (hm:Zi0 N ac ad=some r) (h0:Sl (Za.int .i64) col w0 a0 an ac) (h1:Sl (Za.int .i64) col w0 a1 ao ad):
    Calls prog 194 #[.slice a0 ac.length an,.slice a1 ad.length ao] w0 (fun e w'=>e= .returned ((.int .i64 r))∧Below w0.heap.size w0 w'):=by
 refine Z1 4 (m:=48) func194 rfl rfl rfl rfl rfl ?_;rw [Zi0.eq_1] at hm;have aa:=St.start col w0;refine go ?_;refine Zu [0,1,1000000] (fun n f ap=>∃ aq ai ae,ae=n∧Zd2 N ac ad ae ai=some r∧St w0 (Zg col) aq ap∧[5].map f=[.int .i64 ai]) N ⟨_,0,_,rfl,hm,aa,rfl⟩ ?_;clear hm;intro n f ap hI;obtain ⟨aq,ai,ae,hn,hm,aa,hs⟩:=hI;subst hn;refine .lL [5] hs ?_;replace h0:=h0.keep (Zh.start col w0);replace h1:=h1.keep (Zh.start col w0)
 cases ae with
 | zero=>rw [Zd2.eq_1] at hm;cases hm
 | succ ae=>
  rw [Zd2.eq_2] at hm;refine go ?_;refine Zm hm (fun hb hm=>go ?_) fun hb hm=>go ?_
  ·obtain ⟨az,aj,hm⟩:=bZ hm;refine lI aj ((h0.ks aa).addr aj)<|lW ((h0.ks aa).atInt aj) ?_;obtain ⟨a2,ak,hm⟩:=bZ hm;refine lI ak ((h1.ks aa).addr ak)<|lW ((h1.ks aa).atInt ak) ?_;refine go ?_;refine Zm hm (fun hb hm=>go ?_) fun hb hm=>go ?_
   ·cases hm;exact ⟨rfl,rfl,aa.below⟩
   exact ⟨ae,by omega,rfl,⟨_,_,_,rfl,hm,aa,rfl⟩⟩
  refine Zu [0,1,1000000] (fun n f ar=>∃ au al ah ab,ab=n∧Zau N ac ad ab al ah=some r∧St w0 (Zg col) au ar∧[6,7].map f=[.int .i64 al,.int .i64 ah]) N ⟨_,1,0,_,rfl,hm,aa,rfl⟩ ?_;clear hm;intro n f ar hI;obtain ⟨au,al,ah,ab,hn,hm,aa,hs⟩:=hI;subst hn;refine .lL [6,7] hs ?_
  cases ab with
  | zero=>rw [Zau.eq_1] at hm;cases hm
  | succ ab=>
   rw [Zau.eq_2] at hm;refine go ?_;refine Zm hm (fun hb hm=>?_) fun hb hm=>go ?_
   ·refine Xr<|Zt ?_;refine Wp.cutK [0,1,7,1000000] (fun f av=>∃ aw am,Zgz ah (Zau N ac ad ab) am=some r∧St w0 (Zg col) aw av∧[6].map f=[.int .i64 am]) ?_ ?_
    ·intro f av hJ;obtain ⟨aw,am,hm,aa,hs⟩:=hJ;rw [Zgz.eq_1] at hm;refine .lL [6] hs<|go ?_;exact ⟨ab,by omega,rfl,⟨_,_,_,_,rfl,hm,aa,rfl⟩⟩
    refine go ?_;obtain ⟨a3,af,hm⟩:=bZ hm;refine lI af ((h0.ks aa).addr af)<|lW ((h0.ks aa).atInt af) ?_;obtain ⟨ax,ag,hm⟩:=bZ hm;refine lI ag ((h1.ks aa).addr ag)<|lW ((h1.ks aa).atInt ag) ?_;obtain ⟨ay,hm⟩:=Z3 hm;refine lV (.int .i64 (i64.wrap (Int.tdiv 1099511627776 ax))) (Vq 1099511627776 ax rfl rfl ay)<|go ?_;refine Zm hm (fun hb hm=>go ?_) fun hb hm=>go ?_
    ·exact ⟨rfl,_,1099511627776,hm,aa,rfl⟩
    refine lI af ((h0.ks aa).addr af)<|lW ((h0.ks aa).atInt af)<|lI ag ((h1.ks aa).addr ag)<|lW ((h1.ks aa).atInt ag) ?_;refine go ?_;exact ⟨rfl,_,_,hm,aa,rfl⟩
   cases hm;exact ⟨rfl,rfl,aa.below⟩
def Zi3 (aa:Bool):Option Bool:=
  some aa
def Zi2 (ab:Int) (aa:Int):Option Bool:=
  if (decide (0<aa))=true then (Z0 (aa≠0) (Zi3 (decide ((i64.wrap (Int.tdiv 65536 aa))<ab)))) else (Zi3 false)
theorem Zyp {col:Ze} {w0:World} {ac aa:Int} {r:Bool} (hm:Zi2 ac aa=some r):
    Calls prog 195 #[.int .i64 ac,.int .i64 aa] w0 (fun e w'=>e= .returned ((.bool r))∧Below w0.heap.size w0 w'):=by
 refine Z1 4 (m:=13) func195 rfl rfl rfl rfl rfl ?_;rw [Zi2.eq_1] at hm;have ab:=St.start col w0;refine Zt<|Wa<|Zcw rfl<|Zo<|Zt ?_;refine Wp.cutK [1000000] (fun f af=>∃ ag ad,Zi3 ad=some r∧St w0 (Zg col) ag af∧[4].map f=[.bool ad]) ?_ ?_
 ·intro f af hJ;obtain ⟨ag,ad,hm,ab,hs⟩:=hJ;rw [Zi3.eq_1] at hm;refine .lL [4] hs<|Wh ?_;cases hm;exact ⟨rfl,rfl,ab.below⟩
 refine go ?_;refine Xu hm (fun ae hm=>go ?_) fun ae hm=>go ?_
 ·obtain ⟨ah,hm⟩:=Z3 hm;refine lV (.int .i64 (i64.wrap (Int.tdiv 65536 aa))) (Vq 65536 aa rfl rfl ah)<|go ?_;refine lV (.bool (decide ((i64.wrap (Int.tdiv 65536 aa))<ac))) (Xg (congrArg Value.bool ae) rfl)<|go ?_;exact ⟨rfl,_,_,hm,ab,rfl⟩
 refine lV (.bool false) (Xt (congrArg Value.bool ae) rfl)<|go ?_;exact ⟨rfl,_,_,hm,ab,rfl⟩
def Zg2 (N:Nat):Option R2:=
  (Zb2 N 1 1).bind fun aa=>some ((aa.1.1,aa.1.2),aa.2)
theorem Zp4 {N:Nat} {col:Ze} {w0:World} {r:R2} (c1 c2:Nat) (hm:Zg2 N=some r):
    Calls prog 242 #[] w0 (fun e w'=>∃ (col':Ze) (ra1:Option Addr) (rc2:Nat) (ra4:Option Addr) (rc5:Nat),e= .returned ((.agg #[.bool r.1.1,.slice ra1 r.1.2.length rc2,.slice ra4 r.2.length rc5]))∧Zf col w0 col' w'∧Zc (Za.int .u32) 79 c1 col' w' ra1 rc2 r.1.2∧Zc (Za.int .u32) 79 c2 col' w' ra4 rc5 r.2):=by
 refine Yt (m:=2) func242 rfl rfl rfl ?_;rw [Zg2.eq_1] at hm;have aa:=St.start col w0;refine go ?_;refine Xs (col:=(Zg col)) #[.bool false,.slice none (([]:List Int).length) 0,.slice none (([]:List Int).length) 0] 1 zeroValue47 ?_;intro al am ag ah ab;refine go ?_;obtain ⟨an,ai,hm⟩:=bZ hm;refine Zi (Zp0 (col:=ag) 2 3 ai) ?_;rintro _ ao ⟨ap,aq,ar,au,av,rfl,af,ac,ad⟩;refine ⟨_,rfl,?_⟩;replace ab:=ab.gr af;refine Xa ab ?_;intro aw ae aj ak;refine go ?_;cases hm;replace aa:=((aa.grow ah).grow af).kp ae aj;replace ac:=ac.kp ae;replace ad:=ad.kp ae;exact ⟨rfl,_,ra ak.atN,_,_,_,_,_,rfl,aa.fin (cm [(2,c1),(3,c2)]),aa.fo ac,aa.fo ad⟩
def Zg4 (aa:Bool):Option Bool:=
  some aa
def Zg3 (N:Nat) (aa:R2):Option Bool:=
  (Zgq N ((aa.1.1,aa.1.2),aa.2)).bind fun ac=>if (decide (ac<0))=true then (Zg4 true) else ((Zg2 N).bind fun ab=>(Zb0 N ((aa.1.1,aa.1.2),aa.2) ((ab.1.1,ab.1.2),ab.2)).bind fun ad=>Zg4 (decide (0<ad)))
theorem Zyo {N al am:Nat} {an ao:Option Addr} {col:Ze} {w0:World} {ac:R2} {r:Bool} (hm:Zg3 N ac=some r) (ah:Sl (Za.int .u32) col w0 an al ac.1.2) (ai:Sl (Za.int .u32) col w0 ao am ac.2):
    Calls prog 196 #[(.agg #[.bool ac.1.1,.slice an ac.1.2.length al,.slice ao ac.2.length am])] w0 (fun e w'=>e= .returned ((.bool r))∧Below w0.heap.size w0 w'):=by
 refine Z1 2 (m:=12) func196 rfl rfl rfl rfl rfl ?_;rw [Zg3.eq_1] at hm;have aa:=St.start col w0;refine go ?_;refine Xe (col:=(Zg col)) 1 rfl ?_;intro a6 a7 ab ay aj;refine Zcw rfl<|Zo<|Zt ?_;replace ah:=ah.keep (Zh.start col w0);replace ai:=ai.keep (Zh.start col w0);replace aa:=aa.grow ay;refine Wp.cutK [1000000] (fun f av=>∃ aw ap,Zg4 ap=some r∧St w0 (Zg col) aw av∧[2].map f=[.bool ap]) ?_ ?_
 ·intro f av hJ;obtain ⟨aw,ap,hm,aa,hs⟩:=hJ;rw [Zg4.eq_1] at hm;refine .lL [2] hs<|Wh ?_;cases hm;exact ⟨rfl,rfl,aa.below⟩
 refine W9 (col:=ab) [(0,0),(1,3),(2,1),(3,1),(4,0),(5,3),(6,3),(7,1),(8,1),(9,1)] (by kernel_rfl) (by kernel_rfl)<|xv rfl rfl (fun _ hC=>Xd isAgg47 sizeOf47 (aj.gr (hC.bl ab))) ?_;refine xe rfl rfl ?_;intro az hC0;have hC:=hC0.bl ab;obtain ⟨ae,a0,hm⟩:=bZ hm;replace aa:=aa.grow hC;refine Zi (Zye a0 (ah.ks aa) (ai.ks aa)) ?_;rintro _ a1 ⟨rfl,ag⟩;refine ⟨_,rfl,?_⟩;replace ag:Zf ab az ab a1:=.of_below ag;refine Zo<|X1 ab hC0 ag<|xu rfl rfl (fun _=>Zl7 _ _ rfl rfl) ?_;refine xu rfl rfl (fun _=>Zt6 rfl) ?_;replace aj:=(aj.gr hC).gr ag;replace aa:=aa.grow ag;refine Xu hm (fun ad hm=>?_) fun ad hm=>?_
 ·refine Zcm (b:=decide (ae<0)) 6 rfl rfl rfl rfl rfl (by rw [ad];rfl)<|Zcm (b:=decide (ae<0)) 6 rfl rfl rfl rfl rfl (by rw [ad];rfl)<|Zcm (b:=decide (ae<0)) 6 rfl rfl rfl rfl rfl (by rw [ad];rfl)<|Zcm (b:=decide (ae<0)) 6 rfl rfl rfl rfl rfl (by rw [ad];rfl)<|xu (v:=(.bool true)) rfl rfl (fun _=>Xg (congrArg Value.bool ad) rfl) ?_;refine xu rfl rfl (fun _=>Zl2 rfl) ?_;refine Wu ?_;intro a8 hC;replace hC:=hC.bl ab;replace aa:=aa.grow hC;exact ⟨rfl,_,_,hm,aa,rfl⟩
 refine Zwv (v:=(.agg #[.bool ac.1.1,.slice an ac.1.2.length al,.slice ao ac.2.length am])) (b:=decide (ae<0)) 6 rfl rfl rfl rfl rfl (by rw [ad];rfl) (fun _ hC=>Y1 isAgg47 sizeOf47 rfl rfl (aj.atN.gr (hC.bl ab))) ?_;refine xe rfl rfl ?_;intro a9 hC0;have hC:=hC0.bl ab;refine go ?_;obtain ⟨ba,a2,hm⟩:=bZ hm;refine lc rfl rfl (Zhf call242) (Zp4 (col:=ab) 6 7 a2:) ?_;rintro _ bb ⟨af,bc,bd,be,bf,rfl,ax,aq,ar⟩;refine ⟨_,rfl,?_⟩;refine Zo<|X1 af hC0 ax<|xe rfl rfl ?_;intro a3 hC0;replace aa:=(aa.grow hC).grow ax;have hC:=hC0.bl af;refine go ?_;obtain ⟨au,a4,hm⟩:=bZ hm;replace aq:=aq.gr hC;replace ar:=ar.gr hC;replace aa:=aa.grow hC;refine Zi (Znb a4 (((ah.ks aa).froz 6).froz 7) (((ai.ks aa).froz 6).froz 7) ((aq.toSlF (Zj.int .u32)).froz 7) ((ar.froz 6 (by decide)).toSlF (Zj.int .u32))) ?_;rintro _ a5 ⟨rfl,ak⟩;refine ⟨_,rfl,?_⟩;replace ak:Zf af a3 af a5:=.of_below ak;refine Zo<|X1 af hC0 ak<|Zwu (v:=(.bool (decide (0<au)))) (b:=decide (ae<0)) 6 rfl rfl rfl rfl rfl (by rw [ad];rfl) (fun _=>Zl6 au 0 rfl rfl) ?_;refine xu (v:=(.bool (decide (0<au)))) rfl rfl (fun _=>Xt (congrArg Value.bool ad) rfl) ?_;refine xu rfl rfl (fun _=>Zl2 rfl) ?_;refine Wu ?_;intro bg hC;replace hC:=hC.bl af;replace aa:=(aa.grow ak).grow hC;exact ⟨rfl,_,_,hm,aa,rfl⟩
def Zb7 (N:Nat) (ac:R7) (ab:Int):Nat→Int→Option Bool
  | 0,_=>none
  | af+1,aa=>if (decide (aa<(ac.length:Int)))=true then (Z0 ((0:Int)≤aa∧aa≤(i64.wrap (aa+ab))∧(i64.wrap (aa+ab))≤(ac.length:Int)) ((Ziz N ((ac.take (Int.toNat (i64.wrap (aa+ab)))).drop (Int.toNat aa))).bind fun ad=>(Zg2 N).bind fun ae=>(Zb0 N ((ad.1.1,ad.1.2),ad.2) ((ae.1.1,ae.1.2),ae.2)).bind fun ag=>if (!decide (ag=0))=true then (some false) else ((Zb7 N ac ab af) (i64.wrap (aa+ab))))) else (some true)
termination_by structural x=>x
def Zlf (N:Nat) (aa:R7) (ab:Int):Option Bool:=
  Zb7 N aa ab N 0
theorem Zyt {N ad:Nat} {a0:Option Addr} {col:Ze} {w0:World} {ae:R7} {ac:Int} {r:Bool} (hm:Zlf N ae ac=some r) (h0:Sl (Za.pair (Za.pair Za.bool (Za.slice (Za.int .u32))) (Za.slice (Za.int .u32))) col w0 a0 ad ae):
    Calls prog 197 #[.slice a0 ae.length ad,.int .i64 ac] w0 (fun e w'=>e= .returned ((.bool r))∧Below w0.heap.size w0 w'):=by
 refine Z1 4 (m:=23) func197 rfl rfl rfl rfl rfl ?_;rw [Zlf.eq_1] at hm;have ab:=St.start col w0;refine go ?_;refine Zu [0,1,1000000] (fun n f al=>∃ am aa af,af=n∧Zb7 N ae ac af aa=some r∧St w0 (Zg col) am al∧[5].map f=[.int .i64 aa]) N ⟨_,0,_,rfl,hm,ab,rfl⟩ ?_;clear hm;intro n f al hI;obtain ⟨am,aa,af,hn,hm,ab,hs⟩:=hI;subst hn;refine .lL [5] hs ?_;replace h0:=h0.keep (Zh.start col w0)
 cases af with
 | zero=>rw [Zb7.eq_1] at hm;cases hm
 | succ af=>
  rw [Zb7.eq_2] at hm;refine go ?_;refine Zm hm (fun hb hm=>go ?_) fun hb hm=>go ?_
  ·obtain ⟨ag,hm⟩:=Z3 hm;have ap:=((h0.ks ab).take (Int.toNat (i64.wrap (aa+ac)))).drop (sz:=3) rfl (Int.toNat aa);refine lv (v:=.slice (if ad=(Int.toNat aa) then a0 else a0.map (·.add ((Int.toNat aa) * 3))) ((Int.toNat (i64.wrap (aa+ac))) - (Int.toNat aa)) (ad - (Int.toNat aa))) rfl rfl (Zub underlying56 sizeOf47 rfl rfl rfl ag.1 ag.2.1 (by have:=(h0.ks ab).1.2;have:=ag.2.2;omega)) ?_;generalize (if ad=(Int.toNat aa) then a0 else a0.map (·.add ((Int.toNat aa) * 3)))=an at *;refine .ld (d:=18) (v:=(.slice an (((ae.take (Int.toNat (i64.wrap (aa+ac)))).drop (Int.toNat aa)).length) (ad - (Int.toNat aa)))) (congrArg (fun n=>Value.slice an n (ad - (Int.toNat aa))) (show (Int.toNat (i64.wrap (aa+ac))) - (Int.toNat aa)=((ae.take (Int.toNat (i64.wrap (aa+ac)))).drop (Int.toNat aa)).length by rw [List.length_drop,nK];have:=ag.2;omega)) ?_;obtain ⟨a2,aq,hm⟩:=bZ hm;refine Zi (Zyf 1 2 aq ap) ?_;rintro _ a3 ⟨ar,a4,a5,a6,a7,rfl,au,ah,ai⟩;refine ⟨_,rfl,?_⟩;obtain ⟨a8,av,hm⟩:=bZ hm;refine lc rfl rfl (Zhf call242) (Zp4 (col:=ar) 3 4 av:) ?_;rintro _ aw ⟨ao,a9,ba,bb,bc,rfl,aj,ax,ay⟩;refine ⟨_,rfl,?_⟩;obtain ⟨bd,az,hm⟩:=bZ hm;replace ah:=ah.gr aj;replace ai:=ai.gr aj;refine Zi (Znb az ((((ah.toSlF (Zj.int .u32)).froz 2).froz 3).froz 4) ((((ai.froz 1 (by decide)).toSlF (Zj.int .u32)).froz 3).froz 4) ((((ax.froz 1 (by decide)).froz 2 (by decide)).toSlF (Zj.int .u32)).froz 4) ((((ay.froz 1 (by decide)).froz 2 (by decide)).froz 3 (by decide)).toSlF (Zj.int .u32))) ?_;rintro _ a1 ⟨rfl,ak⟩;refine ⟨_,rfl,?_⟩;replace ak:Zf ao aw ao a1:=.of_below ak;refine go ?_;replace ab:=((ab.grow au).grow aj).grow ak;refine Zm hm (fun hb hm=>go ?_) fun hb hm=>go ?_
   ·cases hm;exact ⟨rfl,rfl,ab.below⟩
   exact ⟨af,by omega,rfl,⟨_,_,_,rfl,hm,ab,rfl⟩⟩
  cases hm;exact ⟨rfl,rfl,ab.below⟩
def Zgy (aa:Int) (kk_L2:(Bool→Int→Option Int)) (ab:Bool):Option Int:=
  kk_L2 ab (i64.wrap (aa+1))
def Zar (N:Nat) (ad:R0) (ab:Int) (kk_L1:(Int→Option Int)):Nat→Bool→Int→Option Int
  | 0,_,_=>none
  | ae+1,af,aa=>(Zl ad.2.2.1 ab).bind fun ac=>if (decide (aa<(ac.length:Int)))=true then (if af=true then (Zgy aa (Zar N ad ab kk_L1 ae) true) else ((Zl ac aa).bind fun ag=>(Zi1 N ac ag).bind fun ah=>Zgy aa (Zar N ad ab kk_L1 ae) (decide (ah<aa)))) else (if af=true then (some 40) else (if (decide ((ac.length:Int)=0))=true then (some 43) else (kk_L1 (i64.wrap (ab+1)))))
termination_by structural x=>x
def Zd1 (N:Nat) (ad:R0) (aa:Int) (kk_L4:(Int→Option Int)):Nat→Int→Option Int
  | 0,_=>none
  | af+1,ab=>(Zl ad.2.2.2.2 aa).bind fun ae=>if (decide (ab<(ae.length:Int)))=true then ((Zl ae ab).bind fun ac=>(Zg3 N ((ac.1.1,ac.1.2),ac.2)).bind fun ag=>if ag=true then (some 45) else ((Zd1 N ad aa kk_L4 af) (i64.wrap (ab+1)))) else (kk_L4 (i64.wrap (aa+1)))
termination_by structural x=>x
def Zat (N:Nat) (ab:R0) (ac:List Int):Nat→Int→Option Int
  | 0,_=>none
  | ad+1,aa=>if (decide (aa<(ab.2.1.length:Int)))=true then ((Zl ab.2.2.2.2 aa).bind fun ae=>(Zl ac aa).bind fun af=>(Zlf N ae af).bind fun ag=>if (!ag)=true then (some 46) else ((Zat N ab ac ad) (i64.wrap (aa+1)))) else (some 0)
termination_by structural x=>x
def Qu (N:Nat) (aa:R0) (ab:List Int):Nat→Int→Option Int
  | 0,_=>none
  | ad+1,ac=>if (decide (ac<(aa.2.1.length:Int)))=true then (Zd1 N aa ac (Qu N aa ab ad) N 0) else (Zat N aa ab N 0)
termination_by structural x=>x
def Zas (N:Nat) (aa:R0) (ac:List Int):Nat→Int→Option Int
  | 0,_=>none
  | af+1,ab=>if (decide (ab<(aa.2.1.length:Int)))=true then ((Zl aa.2.2.2.1 ab).bind fun ag=>(Zi0 N ag ac).bind fun ad=>(Zl ac ab).bind fun ae=>(Zi2 ad ae).bind fun ah=>if ah=true then (some 4) else ((Zl aa.2.2.2.2 ab).bind fun ai=>if (!decide ((ai.length:Int)=(i64.wrap (ad * ae))))=true then (some 60) else ((Zas N aa ac af) (i64.wrap (ab+1))))) else (Qu N aa ac N 0)
termination_by structural x=>x
def Ty (N:Nat) (aa:R0):Nat→Int→Option Int
  | 0,_=>none
  | ad+1,ab=>if (decide (ab<(aa.2.1.length:Int)))=true then ((Zl aa.2.1 ab).bind fun ae=>(Zi1 N aa.2.1 ae).bind fun af=>Zar N aa ab (Ty N aa ad) N (decide (af<ab)) 0) else ((Sv N aa.2.2.2.1).bind fun ac=>if (!decide (ac=0))=true then (some ac) else ((Zd5 N (aa.1,aa.2.1,aa.2.2.1,aa.2.2.2.1,aa.2.2.2.2)).bind fun ag=>Zas N aa ag N 0))
termination_by structural x=>x
def Zb5 (N:Nat) (aa:R0) (ab:Bool):Option Int:=
  if ab=true then (some 60) else (if (decide (1024<(aa.2.1.length:Int)))=true then (some 4) else (Ty N aa N 0))
def Zb4 (N:Nat) (aa:R0):Option Int:=
  if (!decide ((aa.2.2.1.length:Int)=(aa.2.1.length:Int)))=true then (Zb5 N aa true) else (if (!decide ((aa.2.2.2.1.length:Int)=(aa.2.1.length:Int)))=true then (Zb5 N aa true) else (Zb5 N aa (!decide ((aa.2.2.2.2.length:Int)=(aa.2.1.length:Int)))))
theorem Zyl {N ak al am an:Nat} {ao ap aq ar:Option Addr} {col:Ze} {w0:World} {ab:R0} {r:Int} (hm:Zb4 N ab=some r) (a0:Sl Za.str col w0 ao ak ab.2.1) (ah:Sl (Za.slice Za.str) col w0 ap al ab.2.2.1) (a1:Sl (Za.slice (Za.int .i64)) col w0 aq am ab.2.2.2.1) (ai:Sl (Za.slice (Za.pair (Za.pair Za.bool (Za.slice (Za.int .u32))) (Za.slice (Za.int .u32)))) col w0 ar an ab.2.2.2.2):
    Calls prog 79 #[(.agg #[.string ab.1,.slice ao ab.2.1.length ak,.slice ap ab.2.2.1.length al,.slice aq ab.2.2.2.1.length am,.slice ar ab.2.2.2.2.length an])] w0 (fun e w'=>e= .returned ((.int .i64 r))∧Below w0.heap.size w0 w'):=by
 refine Z1 2 (m:=175) func79 rfl rfl rfl rfl rfl ?_;rw [Zb4.eq_1] at hm;have aa:=St.start col w0;refine go ?_;refine Xe (col:=(Zg col)) 1 rfl ?_;intro av du dv cg ac;refine go ?_;refine Z9 ac<|lV _ (Zel underlying22 rfl)<|Yh rfl<|Zo<|Zt<|Zt ?_;replace a0:=a0.keep (Zh.start col w0);replace ah:=ah.keep (Zh.start col w0);replace a1:=a1.keep (Zh.start col w0);replace ai:=ai.keep (Zh.start col w0);replace aa:=aa.grow cg;refine Wp.cutK [1,3,1000000] (fun f bo=>∃ bp bq,Zb5 N ab bq=some r∧St w0 (Zg col) bp bo∧Zk 27 1 bp bo av #[.string ab.1,.slice ao ab.2.1.length ak,.slice ap ab.2.2.1.length al,.slice aq ab.2.2.2.1.length am,.slice ar ab.2.2.2.2.length an]∧[38].map f=[.bool bq]) ?_ ?_
 ·intro f bo hJ;obtain ⟨bp,bq,hm,aa,ac,hs⟩:=hJ;rw [Zb5.eq_1] at hm;refine .lL [38] hs ?_;refine Zm hm (fun hb hm=>go ?_) fun hb hm=>go ?_
  ·cases hm;exact ⟨rfl,rfl,aa.below⟩
  refine Zm hm (fun hb hm=>go ?_) fun hb hm=>go ?_
  ·cases hm;exact ⟨rfl,rfl,aa.below⟩
  refine Zu [1,3,1000000] (fun n f bf=>∃ aj a8 aw,aw=n∧Ty N ab aw a8=some r∧St w0 (Zg col) aj bf∧Zk 27 1 aj bf av #[.string ab.1,.slice ao ab.2.1.length ak,.slice ap ab.2.2.1.length al,.slice aq ab.2.2.2.1.length am,.slice ar ab.2.2.2.2.length an]∧[4].map f=[.int .i64 a8]) N ⟨_,0,_,rfl,hm,aa,ac,rfl⟩ ?_;clear hm;intro n f bf hI;obtain ⟨aj,a8,aw,hn,hm,aa,ac,hs⟩:=hI;subst hn;refine .lL [4] hs ?_
  cases aw with
  | zero=>rw [Ty.eq_1] at hm;cases hm
  | succ aw=>
   rw [Ty.eq_2] at hm;refine go ?_;refine Zm hm (fun hb hm=>go ?_) fun hb hm=>go ?_
   ·refine Ys (col:=aj) (by kernel_rfl) (by kernel_rfl)<|qF ⟨_,_,rfl⟩ ?_;refine qW (fun _ hC=>((ac.atN).nth (q:=1) rfl).gr (hC.bl aj)) ?_;refine qF ⟨_,_,rfl⟩ ?_;refine qW (fun _ hC=>((ac.atN).nth (q:=1) rfl).gr (hC.bl aj)) ?_;refine go ?_;obtain ⟨dw,br,hm⟩:=bZ hm;refine qI br ((a0.ks aa).addr br)<|qW (fun _ hC=>((a0.ks aa).gr (hC.bl aj)).atStr br) ?_;obtain ⟨ch,ci,hm⟩:=bZ hm;refine qc (v:=(.int .i64 ch)) rfl (fun _ hC=>⟨_,_,Ur call192 rfl rfl,(Zp3 ci ((a0.ks aa).gr (hC.bl aj)):).mono fun _ _ h=>⟨h.1,hC.trans (.of_below h.2)⟩⟩) ?_;refine go ?_;refine X9 ?_;intro dx hC;replace hC:=hC.bl aj;refine go ?_;replace ac:=ac.gr hC;replace aa:=aa.grow hC;refine Zu [1,3,4,1000000] (fun n f bs=>∃ af bt a9 ay,ay=n∧Zar N ab a8 (Ty N ab aw) ay bt a9=some r∧St w0 (Zg col) af bs∧Zk 27 1 af bs av #[.string ab.1,.slice ao ab.2.1.length ak,.slice ap ab.2.2.1.length al,.slice aq ab.2.2.2.1.length am,.slice ar ab.2.2.2.2.length an]∧[5,6].map f=[.bool bt,.int .i64 a9]) N ⟨_,_,0,_,rfl,hm,aa,ac,rfl⟩ ?_;clear hm;intro n f bs hI;obtain ⟨af,bt,a9,ay,hn,hm,aa,ac,hs⟩:=hI;subst hn;refine .lL [5,6] hs ?_
    cases ay with
    | zero=>rw [Zar.eq_1] at hm;cases hm
    | succ ay=>
     rw [Zar.eq_2] at hm;refine go ?_;refine Z9 ac<|Xn rfl ?_;obtain ⟨dy,ag,hm⟩:=bZ hm;refine lI ag ((ah.ks aa).addr ag) ?_;obtain ⟨_,cj,ck⟩:=(ah.ks aa).atN ag;obtain ⟨⟨dz,d0,rfl,d1⟩,_⟩:=cj;refine lW ck.one<|go ?_;refine Zm hm (fun hb hm=>?_) fun hb hm=>go ?_
     ·refine Xr<|Zt ?_;refine Wp.cutK [1,3,4,6,1000000] (fun f bu=>∃ bv bw,Zgy a9 (Zar N ab a8 (Ty N ab aw) ay) bw=some r∧St w0 (Zg col) bv bu∧Zk 27 1 bv bu av #[.string ab.1,.slice ao ab.2.1.length ak,.slice ap ab.2.2.1.length al,.slice aq ab.2.2.2.1.length am,.slice ar ab.2.2.2.2.length an]∧[5].map f=[.bool bw]) ?_ ?_
      ·intro f bu hJ;obtain ⟨bv,bw,hm,aa,ac,hs⟩:=hJ;rw [Zgy.eq_1] at hm;refine .lL [5] hs<|go ?_;exact ⟨ay,by omega,rfl,⟨_,_,_,_,rfl,hm,aa,ac,rfl⟩⟩
      refine Zck<|Ys (col:=af) (by kernel_rfl) (by kernel_rfl)<|go ?_;refine Xu hm (fun bx hm=>go ?_) fun bx hm=>go ?_
      ·refine qv (v:=(.bool true)) rfl (fun _ hC=>Xg (congrArg Value.bool bx) rfl) ?_;refine go ?_;refine X9 ?_;intro d2 hC;replace hC:=hC.bl af;replace ac:=ac.gr hC;replace aa:=aa.grow hC;exact ⟨rfl,_,_,hm,aa,ac,rfl⟩
      refine qF ⟨_,_,rfl⟩ ?_;refine go ?_;refine qW (fun _ hC=>((ac.atN).nth (q:=2) rfl).gr (hC.bl af)) ?_;refine go ?_;refine qI ag ((ah.ks aa).addr ag) ?_;refine go ?_;obtain ⟨_,cl,cn⟩:=(ah.ks aa).atN ag;obtain ⟨⟨d3,d4,rfl,co⟩,_⟩:=cl;refine qW (fun _ hC=>cn.one.gr (hC.bl af)) ?_;refine go ?_;refine qF ⟨_,_,rfl⟩ ?_;refine go ?_;refine qW (fun _ hC=>((ac.atN).nth (q:=2) rfl).gr (hC.bl af)) ?_;refine go ?_;refine qI ag ((ah.ks aa).addr ag) ?_;refine go ?_;obtain ⟨_,cp,cq⟩:=(ah.ks aa).atN ag;obtain ⟨⟨d5,d6,rfl,cb⟩,_⟩:=cp;refine qW (fun _ hC=>cq.one.gr (hC.bl af)) ?_;refine go ?_;obtain ⟨d7,bz,hm⟩:=bZ hm;refine qI bz (cb.addr bz) ?_;refine go ?_;refine qW (fun _ hC=>(cb.gr (hC.bl af)).atStr bz) ?_;refine go ?_;obtain ⟨cc,cr,hm⟩:=bZ hm;refine qc (v:=(.int .i64 cc)) rfl (fun _ hC=>⟨_,_,Ur call192 rfl rfl,(Zp3 cr (co.gr (hC.bl af)):).mono fun _ _ h=>⟨h.1,hC.trans (.of_below h.2)⟩⟩) ?_;refine go ?_;refine qv (v:=(.bool (decide (cc<a9)))) rfl (fun _ hC=>Xt (congrArg Value.bool bx) rfl) ?_;refine go ?_;refine X9 ?_;intro d8 hC;replace hC:=hC.bl af;replace ac:=ac.gr hC;replace aa:=aa.grow hC;exact ⟨rfl,_,_,hm,aa,ac,rfl⟩
     refine Zm hm (fun hb hm=>go ?_) fun hb hm=>go ?_
     ·cases hm;exact ⟨rfl,rfl,aa.below⟩
     refine Z9 ac<|Xn rfl<|lI ag ((ah.ks aa).addr ag) ?_;obtain ⟨_,cs,ct⟩:=(ah.ks aa).atN ag;obtain ⟨⟨d9,ea,rfl,eb⟩,_⟩:=cs;refine lW ct.one<|go ?_;refine Zm hm (fun hb hm=>go ?_) fun hb hm=>go ?_
     ·cases hm;exact ⟨rfl,rfl,aa.below⟩
     exact ⟨aw,by omega,rfl,⟨_,_,_,rfl,hm,aa,ac,rfl⟩⟩
   refine Z9 ac ?_;obtain ⟨ec,cu,hm⟩:=bZ hm;refine Zi (Zyh cu (a1.ks aa)) ?_;rintro _ cv ⟨rfl,bg⟩;refine ⟨_,rfl,?_⟩;replace bg:Zf aj bf aj cv:=.of_below bg;refine go ?_;replace ac:=ac.gr bg;replace aa:=aa.grow bg;refine Zm hm (fun hb hm=>go ?_) fun hb hm=>go ?_
   ·cases hm;exact ⟨rfl,rfl,aa.below⟩
   refine lV _ (Xd isAgg27 sizeOf27 ac) ?_;obtain ⟨ax,cw,hm⟩:=bZ hm;refine Zi (Zys 2 cw (a0.ks aa) (ah.ks aa) (a1.ks aa) (ai.ks aa)) ?_;rintro _ ed ⟨ee,bh,bi,rfl,cd,ad⟩;refine ⟨_,rfl,go ?_⟩;replace ac:=ac.gr cd;replace aa:=aa.grow cd;refine Zu [1,3,8,1000000] (fun n f ba=>∃ ae b0 a2,a2=n∧Zas N ab ax a2 b0=some r∧St w0 (Zg col) ae ba∧Zk 27 1 ae ba av #[.string ab.1,.slice ao ab.2.1.length ak,.slice ap ab.2.2.1.length al,.slice aq ab.2.2.2.1.length am,.slice ar ab.2.2.2.2.length an]∧Zc (Za.int .i64) 3 2 ae ba bh bi ax∧[9].map f=[.int .i64 b0]) N ⟨_,0,_,rfl,hm,aa,ac,ad,rfl⟩ ?_;clear hm;intro n f ba hI;obtain ⟨ae,b0,a2,hn,hm,aa,ac,ad,hs⟩:=hI;subst hn;refine .lL [9] hs ?_
   cases a2 with
   | zero=>rw [Zas.eq_1] at hm;cases hm
   | succ a2=>
    rw [Zas.eq_2] at hm;refine go ?_;refine Zm hm (fun hb hm=>go ?_) fun hb hm=>go ?_
    ·refine Z9 ac<|Xn rfl ?_;obtain ⟨ef,b1,hm⟩:=bZ hm;refine lI b1 ((a1.ks aa).addr b1) ?_;obtain ⟨_,cx,cy⟩:=(a1.ks aa).atN b1;obtain ⟨⟨eg,eh,rfl,cz⟩,_⟩:=cx;refine lW cy.one<|Yi rfl ?_;obtain ⟨ei,c0,hm⟩:=bZ hm;refine Zi (Zym c0 (cz.froz 2) (ad.toSlF (Zj.int .i64))) ?_;rintro _ ce ⟨rfl,bb⟩;refine ⟨_,rfl,?_⟩;replace bb:Zf ae ba ae ce:=.of_below bb;refine go ?_;obtain ⟨ej,a3,hm⟩:=bZ hm;replace ad:=ad.gr bb;refine lI a3 (ad.addr a3)<|lW (ad.atInt a3) ?_;obtain ⟨ek,c1,hm⟩:=bZ hm;refine Zi (Zyp (col:=ae) c1) ?_;rintro _ c2 ⟨rfl,bc⟩;refine ⟨_,rfl,?_⟩;replace bc:Zf ae ce ae c2:=.of_below bc;refine go ?_;replace ac:=(ac.gr bb).gr bc;replace aa:=(aa.grow bb).grow bc;replace ad:=ad.gr bc;refine Zm hm (fun hb hm=>go ?_) fun hb hm=>go ?_
     ·cases hm;exact ⟨rfl,rfl,aa.below⟩
     refine Ys (col:=ae) (by kernel_rfl) (by kernel_rfl)<|qF ⟨_,_,rfl⟩ ?_;refine qW (fun _ hC=>((ac.atN).nth (q:=4) rfl).gr (hC.bl ae)) ?_;refine go ?_;obtain ⟨el,b2,hm⟩:=bZ hm;refine qI b2 ((ai.ks aa).addr b2) ?_;obtain ⟨_,c3,c4⟩:=(ai.ks aa).atN b2;obtain ⟨⟨em,en,rfl,eo⟩,_⟩:=c3;refine qW (fun _ hC=>c4.one.gr (hC.bl ae)) ?_;refine go ?_;refine qI a3 (ad.addr a3)<|qW (fun _ hC=>(ad.gr (hC.bl ae)).atInt a3) ?_;refine go ?_;refine X9 ?_;intro ep hC;replace hC:=hC.bl ae;replace ad:=ad.gr hC;replace ac:=ac.gr hC;replace aa:=aa.grow hC;refine Zm hm (fun hb hm=>go ?_) fun hb hm=>go ?_
     ·cases hm;exact ⟨rfl,rfl,aa.below⟩
     exact ⟨a2,by omega,rfl,⟨_,_,_,rfl,hm,aa,ac,ad,rfl⟩⟩
    refine Zu [1,3,8,1000000] (fun n f bj=>∃ bk bm az,az=n∧Qu N ab ax az bm=some r∧St w0 (Zg col) bk bj∧Zk 27 1 bk bj av #[.string ab.1,.slice ao ab.2.1.length ak,.slice ap ab.2.2.1.length al,.slice aq ab.2.2.2.1.length am,.slice ar ab.2.2.2.2.length an]∧Zc (Za.int .i64) 3 2 bk bj bh bi ax∧[12].map f=[.int .i64 bm]) N ⟨_,0,_,rfl,hm,aa,ac,ad,rfl⟩ ?_;clear hm;intro n f bj hI;obtain ⟨bk,bm,az,hn,hm,aa,ac,ad,hs⟩:=hI;subst hn;refine .lL [12] hs ?_
    cases az with
    | zero=>rw [Qu.eq_1] at hm;cases hm
    | succ az=>
     rw [Qu.eq_2] at hm;refine go ?_;refine Zm hm (fun hb hm=>go ?_) fun hb hm=>go ?_
     ·refine Zu [1,12,3,8,1000000] (fun n f bd=>∃ a4 b3 a5,a5=n∧Zd1 N ab bm (Qu N ab ax az) a5 b3=some r∧St w0 (Zg col) a4 bd∧Zk 27 1 a4 bd av #[.string ab.1,.slice ao ab.2.1.length ak,.slice ap ab.2.2.1.length al,.slice aq ab.2.2.2.1.length am,.slice ar ab.2.2.2.2.length an]∧Zc (Za.int .i64) 3 2 a4 bd bh bi ax∧[13].map f=[.int .i64 b3]) N ⟨_,0,_,rfl,hm,aa,ac,ad,rfl⟩ ?_;clear hm;intro n f bd hI;obtain ⟨a4,b3,a5,hn,hm,aa,ac,ad,hs⟩:=hI;subst hn;refine .lL [13] hs ?_
      cases a5 with
      | zero=>rw [Zd1.eq_1] at hm;cases hm
      | succ a5=>
       rw [Zd1.eq_2] at hm;refine go ?_;refine Z9 ac<|Xn rfl ?_;obtain ⟨eq,a6,hm⟩:=bZ hm;refine lI a6 ((ai.ks aa).addr a6) ?_;obtain ⟨_,c5,c6⟩:=(ai.ks aa).atN a6;obtain ⟨⟨er,es,rfl,et⟩,_⟩:=c5;refine lW c6.one<|go ?_;refine Zm hm (fun hb hm=>go ?_) fun hb hm=>go ?_
       ·refine Z9 ac<|Xn rfl<|lI a6 ((ai.ks aa).addr a6) ?_;obtain ⟨_,c7,c8⟩:=(ai.ks aa).atN a6;obtain ⟨⟨eu,ew,rfl,cf⟩,_⟩:=c7;refine lW c8.one<|Xn rfl ?_;obtain ⟨b4,b5,hm⟩:=bZ hm;refine lI b5 (cf.addr b5) ?_;obtain ⟨_,c9,da⟩:=cf.atN b5;obtain ⟨_,_,rfl,db,dc⟩:=W8 c9;obtain ⟨_,_,rfl,dd,de⟩:=W8 db;obtain ⟨rfl,_⟩:=dd;obtain ⟨⟨df,dg,rfl,dh⟩,_⟩:=de;obtain ⟨⟨di,dj,rfl,dl⟩,_⟩:=dc;refine lV (.agg #[.bool b4.1.1,.slice df b4.1.2.length dg,.slice di b4.2.length dj]) (Y1 isAgg47 sizeOf47 rfl rfl da) ?_;obtain ⟨ey,dm,hm⟩:=bZ hm;refine Zi (Zyo dm dh dl) ?_;rintro _ dn ⟨rfl,be⟩;refine ⟨_,rfl,?_⟩;replace be:Zf a4 bd a4 dn:=.of_below be;refine go ?_;replace ad:=ad.gr be;replace ac:=ac.gr be;replace aa:=aa.grow be;refine Zm hm (fun hb hm=>go ?_) fun hb hm=>go ?_
        ·cases hm;exact ⟨rfl,rfl,aa.below⟩
        exact ⟨a5,by omega,rfl,⟨_,_,_,rfl,hm,aa,ac,ad,rfl⟩⟩
       exact ⟨az,by omega,rfl,⟨_,_,_,rfl,hm,aa,ac,ad,rfl⟩⟩
     refine Zu [1,3,8,1000000] (fun n f bn=>∃ au b6 a7,a7=n∧Zat N ab ax a7 b6=some r∧St w0 (Zg col) au bn∧Zk 27 1 au bn av #[.string ab.1,.slice ao ab.2.1.length ak,.slice ap ab.2.2.1.length al,.slice aq ab.2.2.2.1.length am,.slice ar ab.2.2.2.2.length an]∧Zc (Za.int .i64) 3 2 au bn bh bi ax∧[15].map f=[.int .i64 b6]) N ⟨_,0,_,rfl,hm,aa,ac,ad,rfl⟩ ?_;clear hm;intro n f bn hI;obtain ⟨au,b6,a7,hn,hm,aa,ac,ad,hs⟩:=hI;subst hn;refine .lL [15] hs ?_
     cases a7 with
     | zero=>rw [Zat.eq_1] at hm;cases hm
     | succ a7=>
      rw [Zat.eq_2] at hm;refine go ?_;refine Zm hm (fun hb hm=>go ?_) fun hb hm=>go ?_
      ·refine Ys (col:=au) (by kernel_rfl) (by kernel_rfl)<|qF ⟨_,_,rfl⟩ ?_;refine qW (fun _ hC=>((ac.atN).nth (q:=4) rfl).gr (hC.bl au)) ?_;refine go ?_;obtain ⟨ez,b7,hm⟩:=bZ hm;refine qI b7 ((ai.ks aa).addr b7) ?_;obtain ⟨_,dp,dq⟩:=(ai.ks aa).atN b7;obtain ⟨⟨e0,e1,rfl,dr⟩,_⟩:=dp;refine qW (fun _ hC=>dq.one.gr (hC.bl au)) ?_;refine go ?_;obtain ⟨e2,b8,hm⟩:=bZ hm;refine qI b8 (ad.addr b8)<|qW (fun _ hC=>(ad.gr (hC.bl au)).atInt b8) ?_;obtain ⟨ds,dt,hm⟩:=bZ hm;refine qc (v:=(.bool ds)) rfl (fun _ hC=>⟨_,_,Ur call197 rfl rfl,(Zyt dt (dr.gr (hC.bl au)):).mono fun _ _ h=>⟨h.1,hC.trans (.of_below h.2)⟩⟩) ?_;refine go ?_;refine X9 ?_;intro e3 hC;replace hC:=hC.bl au;refine go ?_;replace ad:=ad.gr hC;replace ac:=ac.gr hC;replace aa:=aa.grow hC;refine Zm hm (fun hb hm=>go ?_) fun hb hm=>go ?_
       ·cases hm;exact ⟨rfl,rfl,aa.below⟩
       exact ⟨a7,by omega,rfl,⟨_,_,_,rfl,hm,aa,ac,ad,rfl⟩⟩
      cases hm;exact ⟨rfl,rfl,aa.below⟩
 refine Wa<|Z9 ac ?_;refine go ?_;refine Xu hm (fun b9 hm=>go ?_) fun b9 hm=>go ?_
 ·refine lV (.bool true) (Xg (congrArg Value.bool b9) rfl)<|Y0 rfl<|lP 32 rfl rfl<|lP 32 rfl rfl<|lP 32 rfl rfl<|lP 32 rfl rfl<|lP 32 rfl rfl<|lV (.bool true) (Xg rfl rfl)<|Zo ?_;exact ⟨rfl,_,_,hm,aa,ac,rfl⟩
 refine Xv ⟨_,_,rfl⟩ ?_;refine go ?_;refine lW ((ac.atN).nth (q:=3) rfl)<|go ?_;refine lV (.bool (!decide ((ab.2.2.2.1.length:Int)=(ab.2.1.length:Int)))) (Xt (congrArg Value.bool b9) rfl)<|Y0 rfl ?_;refine Xu hm (fun ca hm=>go ?_) fun ca hm=>go ?_
 ·refine lV (.bool true) (Xg (congrArg Value.bool ca) rfl)<|Zo ?_;exact ⟨rfl,_,_,hm,aa,ac,rfl⟩
 refine Xv ⟨_,_,rfl⟩ ?_;refine go ?_;refine lW ((ac.atN).nth (q:=4) rfl)<|go ?_;refine lV (.bool (!decide ((ab.2.2.2.2.length:Int)=(ab.2.1.length:Int)))) (Xt (congrArg Value.bool ca) rfl)<|Zo ?_;exact ⟨rfl,_,_,hm,aa,ac,rfl⟩
abbrev Z4:=ByteArray×List ByteArray×List R5×List R1×List (List QV)
instance decMemB:∀ (s:ByteArray) (l:List ByteArray),Decidable (s ∈ l)
 | _,[]=>isFalse (by simp)
 | s,x :: l=>if h:s=x then isTrue (by rw [h];exact List.mem_cons_self) else match decMemB s l with
  | isTrue h2=>isTrue (List.mem_cons_of_mem _ h2)
  | isFalse h2=>isFalse (by rw [List.mem_cons];rintro (h3 | h3) <;> contradiction)
theorem Z1j {α:Type} (l:List α) (k:Nat) (hk:k<l.length):(l.take (k+1)).Nodup↔(l.take k).Nodup∧l[k] ∉ l.take k:=by
 rw [List.take_add_one,List.getElem?_eq_getElem hk,Option.toList_some,List.nodup_append]
 constructor
 ·rintro ⟨h1,_,h3⟩
  exact ⟨h1,fun hm=>h3 _ hm _ (by simp) rfl⟩
 ·rintro ⟨h1,h2⟩
  refine ⟨h1,by simp,fun a ha b hb e=>?_⟩
  rw [List.mem_singleton] at hb
  subst hb;subst e
  exact h2 ha
theorem Zq0 (N:Nat) (l:List ByteArray) (hl:l.length<4611686018427387904) (v:Nat) (hv:v<l.length):∀ (n k:Nat),k≤v→v<n+k→l[v] ∉ l.take k→∃ j:Nat,Zd3 N l l[v] n (k:Int)=some (j:Int)∧j≤v∧(j<v↔l[v] ∈ l.take v)
 | 0,k,h1,h2,_=>by omega
 | n+1,k,h1,h2,h3=>by
  have hk:k<l.length:=by omega
  rw [Zd3.eq_2,if_pos (dT (by omega)),Zv hk,oB]
  by_cases he:l[k]=l[v]
  ·rw [if_pos (dT he)]
   refine ⟨k,rfl,h1,fun h=>?_,fun h=>?_⟩
   ·rw [← he]
    exact List.mem_iff_getElem.2 ⟨k,by rw [nK];omega,by rw [List.getElem_take]⟩
   ·rcases Nat.lt_or_ge k v with h4 | h4
    ·exact h4
    ·have:k=v:=by omega
     subst this;exact absurd h h3
  ·have hkv:k<v:=by
    rcases Nat.lt_or_ge k v with h4 | h4
    ·exact h4
    ·have:k=v:=by omega
     subst this;exact absurd rfl he
   rw [if_neg (dF he),Zs (by omega)]
   have:=Zq0 N l hl v hv n (k+1) (by omega) (by omega) (by
    rw [List.take_add_one,List.getElem?_eq_getElem hk,Option.toList_some,List.mem_append,List.mem_singleton]
    rintro (h | h)
    ·exact h3 h
    ·exact he h.symm)
   exact this
theorem Zq1 {N:Nat} {l:List ByteArray} (hl:l.length<4611686018427387904) {v:Nat} (hv:v<l.length) (hN:l.length<N):∃ j:Nat,Zi1 N l l[v]=some (j:Int)∧(j<v↔l[v] ∈ l.take v):=by
 obtain ⟨j,h1,_,h2⟩:=Zq0 N l hl v hv N 0 (by omega) (by omega) (by simp)
 exact ⟨j,h1,h2⟩
theorem Zrl (s:ByteArray):∀ (l:List ByteArray) (k:Nat),∃ j:Int,Zeg s l k=some j∧(0≤j↔s ∈ l)
 | [],k=>⟨-1,rfl,by simp⟩
 | x :: l,k=>by
  rw [Zeg.eq_2]
  by_cases h:s=x
  ·rw [if_pos (dT h)];exact ⟨_,rfl,by simp [h]⟩
  ·rw [if_neg (dF h)]
   obtain ⟨j,h1,h2⟩:=Zrl s l (k+1)
   exact ⟨j,h1,by rw [h2,List.mem_cons];simp [h]⟩
theorem Zzl (s:ByteArray) (l:List ByteArray):Zjc l s=some (decide (s ∈ l)):=by
 obtain ⟨j,h1,h2⟩:=Zrl s l 0
 rw [Zjc,Zlo,h1,oB]
 congr 1
 exact decide_eq_decide.2 h2
theorem Zsr:∀ (l:List ByteArray) (seen:List (ByteArray×Int)) (S:List ByteArray),S.Nodup→(∀ k,Y3 seen k=if k ∈ S then some 1 else none)→Zbq l seen=some (!decide (S++l).Nodup)
 | [],seen,S,h1,h2=>by rw [Zbq.eq_1,List.append_nil,decide_eq_true h1];rfl
 | x :: l,seen,S,h1,h2=>by
  rw [Zbq.eq_2,h2 x]
  by_cases hx:x ∈ S
  ·rw [if_pos hx,if_pos (by decide),decide_eq_false]
   ·rfl
   intro h
   exact (List.nodup_append.1 h).2.2 x hx x List.mem_cons_self rfl
  ·rw [if_neg hx,if_neg (by decide),oB,Zsr l _ (S++[x]) (by
    rw [List.nodup_append]
    refine ⟨h1,by simp,fun a ha b hb e=>?_⟩
    rw [List.mem_singleton] at hb;subst hb;subst e;exact hx ha) (fun k=>by
    rw [Zsg,h2 k]
    by_cases hk:k=x
    ·subst hk;rw [if_pos rfl,if_pos (by simp)]
    ·rw [if_neg hk]
     by_cases hs:k ∈ S
     ·rw [if_pos hs,if_pos (by simp [hs])]
     ·rw [if_neg hs,if_neg (by simp [hs,hk])])]
   rw [List.append_assoc];rfl
theorem Z1b (l:List ByteArray):Zia l=some (!decide l.Nodup):=by
 rw [Zia,Zsr l [] [] .nil (fun k=>by simp [Y3]),List.nil_append]
def Ta (names:List ByteArray) (vals:List R5):Nat→Nat→Int
 | 0,_=>0
 | m+1,v=>if names.getD v ⟨#[]⟩ ∈ names.take v∨¬ (vals.getD v []).Nodup then 40 else if vals.getD v []=[] then 43 else Ta names vals m (v+1)
theorem Zsw (n:Z4) (hl:n.2.2.1.length=n.2.1.length):∀ (l:List ByteArray) (k:Nat),n.2.1.drop k=l→k≤n.2.1.length→Zag n l k=some (Ta n.2.1 n.2.2.1 l.length k)
 | [],k,_,_=>rfl
 | x :: l,k,hd,hk=>by
  have hk1:k<n.2.1.length:=by
   rcases Nat.lt_or_ge k n.2.1.length with h | h
   ·exact h
   ·rw [List.drop_eq_nil_of_le h] at hd;cases hd
  have hd2:=List.drop_eq_getElem_cons hk1
  rw [hd] at hd2
  obtain ⟨hx,hl2⟩:=List.cons.inj hd2
  rw [Zag.eq_2,Z6 (by omega),Int.toNat_natCast,Zzl,oB,nC,Ta,Yr hk1,← hx,Yr (by omega)]
  by_cases h1:x ∈ n.2.1.take k
  ·rw [if_pos (dT h1),Zfx,if_pos rfl,if_pos (.inl h1)]
  ·rw [if_neg (dF h1),Zv (by omega),oB,Z1b,oB,Zfx]
   by_cases h2:(n.2.2.1[k]'(by omega)).Nodup
   ·rw [decide_eq_true h2,if_neg (by decide),if_neg (by simp [h1,h2]),Zv (by omega),oB]
    by_cases h3:n.2.2.1[k]'(by omega)=[]
    ·rw [if_pos (by rw [h3];decide),if_pos h3]
    ·rw [if_neg (by simpa using h3),if_neg h3]
     exact Zsw n hl l (k+1) hl2.symm (by omega)
   ·rw [decide_eq_false h2,if_pos (by decide),if_pos (.inr h2)]
theorem Z1e (n:Z4) (hl:n.2.2.1.length=n.2.1.length):Zfw n=some (Ta n.2.1 n.2.2.1 n.2.1.length 0):=by
 rw [Zfw];exact Zsw n hl n.2.1 0 (by simp) (by omega)
theorem Zom (N:Nat) (n:Z4) (v:Nat) (hv:v<n.2.2.1.length) (hb:n.2.2.1[v].length≤1048576) (hN:1048577<N) (hvb:v<4611686018427387904) (kk:Int→Option Int) (A:Prop) [Decidable A]:∀ (m i:Nat) (a:Bool),i≤n.2.2.1[v].length→n.2.2.1[v].length<m+i→(a=true→A∨¬ (n.2.2.1[v]).Nodup)→(a=false→¬ A∧((n.2.2.1[v]).take i).Nodup)→
  Zar N n (v:Int) kk m a (i:Int)=if A∨¬ (n.2.2.1[v]).Nodup then some 40 else if n.2.2.1[v]=[] then some 43 else kk ((v:Int)+1)
 | 0,i,a,h1,h2,_,_=>by omega
 | m+1,i,a,h1,h2,h3,h4=>by
  rw [Zar.eq_2,Zv hv,oB]
  by_cases hi:i<n.2.2.1[v].length
  ·rw [if_pos (dT (by omega))]
   cases a with
   | true=>
    rw [if_pos rfl,Zgy,Zs (by omega)]
    exact Zom N n v hv hb hN hvb kk A m (i+1) true (by omega) (by omega) h3 (fun h=>by cases h)
   | false=>
    obtain ⟨j,j1,j2⟩:=Zq1 (N:=N) (l:=n.2.2.1[v]) (by omega) hi (by omega)
    have st:=Z1j n.2.2.1[v] i hi
    have h5:=h4 rfl
    rw [if_neg (by decide),Zv hi,oB,j1,oB,Zgy,Zs (by omega)]
    have:=Zom N n v hv hb hN hvb kk A m (i+1) (decide ((j:Int)<(i:Int))) (by omega) (by omega) (fun h=>.inr fun hn=>by
     have h6:=of_decide_eq_true h
     have h7:=(hn.sublist (List.take_sublist (i+1) _))
     exact (st.1 h7).2 (j2.1 (by omega))) (fun h=>⟨h5.1,st.2 ⟨h5.2,fun hm=>by
     have h6:=of_decide_eq_false h
     have:=j2.2 hm
     omega⟩⟩)
    exact this
  ·have hil:i=n.2.2.1[v].length:=by omega
   rw [if_neg (dF (by omega))]
   cases a with
   | true=>rw [if_pos rfl,if_pos (h3 rfl)]
   | false=>
    obtain ⟨h5,h6⟩:=h4 rfl
    rw [hil,List.take_length] at h6
    have hA:¬ (A∨¬ (n.2.2.1[v]).Nodup):=fun h=>h.elim h5 (fun h=>h h6)
    rw [if_neg (by decide),if_neg hA,Zs (by omega)]
    by_cases h7:n.2.2.1[v]=[]
    ·rw [if_pos (by rw [h7];decide),if_pos h7]
    ·rw [if_neg (by simpa using h7),if_neg h7]
theorem Zu3 (N:Nat) (n:Z4) (hl:n.2.2.1.length=n.2.1.length) (hn:n.2.1.length≤1048576) (hb:∀ l ∈ n.2.2.1,l.length≤1048576) (hN:1048577<N):∀ (m fuel v:Nat),m+v=n.2.1.length→m<fuel→
  Ty N n fuel (v:Int)=if Ta n.2.1 n.2.2.1 m v=0 then Ty N n (fuel - m) (n.2.1.length:Int) else some (Ta n.2.1 n.2.2.1 m v)
 | 0,fuel,v,h1,_=>by
  have:v=n.2.1.length:=by omega
  rw [Ta,if_pos rfl,this,Nat.sub_zero]
 | m+1,0,v,h1,h2=>by omega
 | m+1,fuel+1,v,h1,h2=>by
  have hv:v<n.2.1.length:=by omega
  have hv2:v<n.2.2.1.length:=by omega
  obtain ⟨j,j1,j2⟩:=Zq1 (N:=N) (l:=n.2.1) (by omega) hv (by omega)
  rw [Ty.eq_2,if_pos (dT (by omega)),Zv hv,oB,j1,oB,Ta,Yr hv,Yr hv2,show (0:Int)=((0:Nat):Int) from rfl,
   Zom N n v hv2 (hb _ (List.getElem_mem hv2)) hN (by omega) (Ty N n fuel) (n.2.1[v] ∈ n.2.1.take v) N 0 _ (by omega) (by have:=hb _ (List.getElem_mem hv2);omega) (fun h=>.inl (j2.1 (by have:=of_decide_eq_true h;omega))) (fun h=>⟨fun hm=>by have:=of_decide_eq_false h;have:=j2.2 hm;omega,by simp⟩)]
  by_cases h3:n.2.1[v] ∈ n.2.1.take v∨¬ (n.2.2.1[v]).Nodup
  ·rw [if_pos h3,if_pos h3,if_neg (by decide)]
  ·rw [if_neg h3,if_neg h3]
   by_cases h4:n.2.2.1[v]=[]
   ·rw [if_pos h4,if_pos h4,if_neg (by decide)]
   ·rw [if_neg h4,if_neg h4]
    have ih:=Zu3 N n hl hn hb hN m fuel (v+1) (by omega) (by omega)
    rw [show ((v+1:Nat):Int)=(v:Int)+1 by omega] at ih
    rw [ih,show fuel+1 - (m+1)=fuel - m by omega]
    rfl
theorem Zsz {names:List ByteArray} {vals:List R5}:∀ (m v:Nat),Ta names vals m v=0→∀ i,v≤i→i<v+m→vals.getD i []≠[]∧(vals.getD i []).Nodup∧names.getD i ⟨#[]⟩ ∉ names.take i
 | 0,v,_,i,h1,h2=>by omega
 | m+1,v,h,i,h1,h2=>by
  rw [Ta] at h
  by_cases h3:names.getD v ⟨#[]⟩ ∈ names.take v∨¬ (vals.getD v []).Nodup
  ·rw [if_pos h3] at h;cases h
  ·rw [if_neg h3] at h
   by_cases h4:vals.getD v []=[]
   ·rw [if_pos h4] at h;cases h
   ·rw [if_neg h4] at h
    rcases Nat.lt_or_ge v i with h5 | h5
    ·exact Zsz m (v+1) h i (by omega) (by omega)
    ·have:i=v:=by omega
     subst this
     exact ⟨h4,by simpa using (not_or.1 h3).2,(not_or.1 h3).1⟩
def Ya (vals:List R5):List Int→Nat→Nat
 | [],k=>k
 | p :: ps,k=>Ya vals ps (min (k * (vals.getD p.toNat []).length) 1099511627776)
theorem Zoo (vals:List R5):∀ (ps:List Int) (k:Nat),k≤1099511627776→Ya vals ps k≤1099511627776
 | [],k,h=>h
 | p :: ps,k,h=>Zoo vals ps _ (by omega)
theorem Zlq {a b:Nat} (h:a≤1099511627776) (g:b≤1048576):a * b≤1152921504606846976:=by
 have:=Nat.mul_le_mul h g
 simpa using this
theorem Zso (n:Z4) (hb:∀ l ∈ n.2.2.1,l.length≤1048576):∀ (ps:List Int) (k:Nat),k≤1099511627776→(∀ p ∈ ps,0≤p∧p<(n.2.2.1.length:Int))→Zc8 n ps (k:Int)=some (Ya n.2.2.1 ps k:Int)
 | [],k,_,_=>rfl
 | p :: ps,k,hk,hp=>by
  have h1:=hp p List.mem_cons_self
  have h2:p.toNat<n.2.2.1.length:=by omega
  have h3:=hb _ (List.getElem_mem h2)
  have h4:=Zlq hk h3
  rw [Zc8.eq_2,show p=((p.toNat:Nat):Int) by omega,Zv h2,oB,Ya,Int.toNat_natCast,Yr h2,← Int.natCast_mul,Zs (by omega)]
  have ih:=Zso n hb ps (min (k * n.2.2.1[p.toNat].length) 1099511627776) (by omega) (fun q hq=>hp q (List.mem_cons_of_mem _ hq))
  rw [← ih]
  congr 1
  by_cases h5:1099511627776<k * n.2.2.1[p.toNat].length
  ·rw [if_pos (by omega),Nat.min_eq_right (by omega)];rfl
  ·rw [if_neg (by omega),Nat.min_eq_left (by omega)]
theorem Zvz (N:Nat) (n:Z4) (hl:n.2.2.1.length≤1048576):∀ (m i:Nat) (out:List Int),i≤n.2.2.1.length→n.2.2.1.length<m+i→out=(n.2.2.1.take i).map (fun l=>(l.length:Int))→Zd6 N n m out (i:Int)=some (n.2.2.1.map fun l=>(l.length:Int))
 | 0,i,out,h1,h2,_=>by omega
 | m+1,i,out,h1,h2,h3=>by
  rw [Zd6.eq_2]
  have lo:out.length=i:=by rw [h3,List.length_map,nK];omega
  by_cases hi:i<n.2.2.1.length
  ·rw [if_pos (dT (by omega)),Zv hi,oB,Z6 (by simp only [List.length_singleton,maxLen];omega),Zs (by omega)]
   exact Zvz N n hl m (i+1) _ (by omega) (by omega) (by rw [h3,List.take_add_one,List.getElem?_eq_getElem hi,Option.toList_some,List.map_append];rfl)
  ·rw [if_neg (dF (by omega)),h3,List.take_of_length_le (by omega)]
theorem Z25 {N:Nat} {n:Z4} (hl:n.2.2.1.length≤1048576) (hN:1048576<N):Zd5 N n=some (n.2.2.1.map fun l=>(l.length:Int)):=by
 rw [Zd5]
 exact Zvz N n hl N 0 [] (by omega) (by omega) (by simp)
theorem Zmj {vals:List R5} {i:Nat} (h:i<vals.length):Zl (vals.map fun l=>(l.length:Int)) (i:Int)=some (vals[i].length:Int):=by
 rw [Zv (by rw [List.length_map];exact h),List.getElem_map]
theorem Znh (N:Nat) (ps:List Int) (vals:List R5) (hb:∀ l ∈ vals,l.length≤1048576) (hne:∀ l ∈ vals,l≠[]) (hp:∀ p ∈ ps,0≤p∧p<(vals.length:Int)) (hps:ps.length≤1048576):∀ (m i k:Nat),i≤ps.length→ps.length<m+i→k≤1099511627776→
  Zau N ps (vals.map fun l=>(l.length:Int)) m (k:Int) (i:Int)=some (Ya vals (ps.drop i) k:Int)
 | 0,i,k,h1,h2,_=>by omega
 | m+1,i,k,h1,h2,h3=>by
  rw [Zau.eq_2]
  by_cases hi:i<ps.length
  ·have h4:=hp _ (List.getElem_mem hi)
   have h5:(ps[i]).toNat<vals.length:=by omega
   have h6:=hb _ (List.getElem_mem h5)
   have h7:0<vals[(ps[i]).toNat].length:=List.length_pos_iff.2 (hne _ (List.getElem_mem h5))
   have h8:=Zlq h3 h6
   rw [if_pos (dT (by omega)),Zv hi,oB]
   conv=>lhs;rw [show ps[i]=(((ps[i]).toNat:Nat):Int) by omega]
   rw [Zmj h5,oB,Z6 (by omega),List.drop_eq_getElem_cons hi,Ya,Yr h5]
   have e:i64.wrap (Int.tdiv 1099511627776 (vals[(ps[i]).toNat].length:Int))=((1099511627776 / vals[(ps[i]).toNat].length:Nat):Int):=by
    rw [Int.tdiv_eq_ediv_of_nonneg (by decide),show (1099511627776:Int)=((1099511627776:Nat):Int) from rfl,← Int.natCast_ediv]
    refine Zs ⟨by have:=Int.natCast_nonneg (1099511627776 / vals[(ps[i]).toNat].length);omega,?_⟩
    have:=Nat.div_le_self 1099511627776 vals[(ps[i]).toNat].length
    omega
   rw [e]
   have cmp:1099511627776 / vals[(ps[i]).toNat].length<k↔1099511627776<k * vals[(ps[i]).toNat].length:=Nat.div_lt_iff_lt_mul h7
   by_cases h9:1099511627776<k * vals[(ps[i]).toNat].length
   ·rw [if_pos (dT (Int.ofNat_lt.2 (cmp.2 h9))),Zgz,Zs (by omega),Nat.min_eq_right (by omega)]
    exact Znh N ps vals hb hne hp hps m (i+1) 1099511627776 (by omega) (by omega) (by omega)
   ·rw [if_neg (by rw [decide_eq_false (fun h=>h9 (cmp.1 (Int.ofNat_lt.1 h)))];decide),Zgz,← Int.natCast_mul,Zs (by omega),Zs (by omega),Nat.min_eq_left (by omega)]
    exact Znh N ps vals hb hne hp hps m (i+1) _ (by omega) (by omega) (by omega)
  ·rw [if_neg (dF (by omega)),List.drop_eq_nil_of_le (by omega),Ya]
theorem Zqc (N:Nat) (ps:List Int) (vals:List R5) (hb:∀ l ∈ vals,l.length≤1048576) (hne:∀ l ∈ vals,l≠[]) (hp:∀ p ∈ ps,0≤p∧p<(vals.length:Int)) (hps:ps.length≤1048576) (hN:1048577<N):∀ (m i:Nat),i≤ps.length→ps.length<m+i→
  Zd2 N ps (vals.map fun l=>(l.length:Int)) m (i:Int)=some (Ya vals ps 1:Int)
 | 0,i,h1,h2=>by omega
 | m+1,i,h1,h2=>by
  rw [Zd2.eq_2]
  by_cases hi:i<ps.length
  ·have h4:=hp _ (List.getElem_mem hi)
   have h5:(ps[i]).toNat<vals.length:=by omega
   have h7:0<vals[(ps[i]).toNat].length:=List.length_pos_iff.2 (hne _ (List.getElem_mem h5))
   rw [if_pos (dT (by omega)),Zv hi,oB]
   conv=>lhs;rw [show ps[i]=(((ps[i]).toNat:Nat):Int) by omega]
   rw [Zmj h5,oB,if_neg (dF (by omega)),Zs (by omega)]
   exact Zqc N ps vals hb hne hp hps hN m (i+1) (by omega) (by omega)
  ·rw [if_neg (dF (by omega))]
   exact Znh N ps vals hb hne hp hps N 0 1 (by omega) (by omega) (by omega)
theorem Zzg {N:Nat} {ps:List Int} {vals:List R5} (hb:∀ l ∈ vals,l.length≤1048576) (hne:∀ l ∈ vals,l≠[]) (hp:∀ p ∈ ps,0≤p∧p<(vals.length:Int)) (hps:ps.length≤1048576) (hN:1048577<N):Zi0 N ps (vals.map fun l=>(l.length:Int))=some (Ya vals ps 1:Int):=by
 rw [Zi0]
 exact Zqc N ps vals hb hne hp hps hN N 0 (by omega) (by omega)
theorem Z1s {r c:Nat} (hc:0<c):Zi2 (r:Int) (c:Int)=some (decide (65536<r * c)):=by
 have e:i64.wrap (Int.tdiv 65536 (c:Int))=((65536 / c:Nat):Int):=by
  rw [Int.tdiv_eq_ediv_of_nonneg (by decide),show (65536:Int)=((65536:Nat):Int) from rfl,← Int.natCast_ediv]
  refine Zs ⟨by have:=Int.natCast_nonneg (65536 / c);omega,?_⟩
  have:=Nat.div_le_self 65536 c
  omega
 rw [Zi2,if_pos (dT (by omega)),Z6 (by omega),e,Zi3]
 congr 1
 refine decide_eq_decide.2 ?_
 rw [Int.ofNat_lt]
 exact Nat.div_lt_iff_lt_mul hc

end Go.Proofs.YtbmjpjhbankpoaaGreat
