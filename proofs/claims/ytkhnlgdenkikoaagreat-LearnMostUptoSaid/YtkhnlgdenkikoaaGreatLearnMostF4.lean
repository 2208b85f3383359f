/-
  What functions of the program compute, as plain Lean functions (m_..), and proofs that they compute it (c_..). Printed by a program of the author; no conditions.
-/
import Derived.Test.YtkhnlgdenkikoaaGreatLearnMostBFloat
import Derived.Test.YtkhnlgdenkikoaaGreatProg
import Derived.Test.YtkhnlgdenkikoaaGreatLearnMostBBrief
import Derived.Test.YtkhnlgdenkikoaaGreatLearnMostBMixD
import Derived.Test.YtkhnlgdenkikoaaGreatLearnMostBThree
import Derived.Test.YtkhnlgdenkikoaaGreatLearnMostBView
import Derived.Test.YtkhnlgdenkikoaaGreatLearnMostF3
set_option linter.unusedVariables false
set_option maxRecDepth 100000
set_option maxHeartbeats 2000000
namespace Go.Proofs.YtkhnlgdenkikoaaGreat
open Go Go.RowKit
open Go.IntKind (i8 i16 i32 i64 u8 u16 u32 u64)
open Go.Proofs.Tryz

/-! which observations may be -/
def Sq (n:Zr):List Int→Nat→Bool
 | [],_=>true
 | x :: l,k=>decide (-1≤x)&&(decide (x<(cnt n k:Int))&&Sq n l (k+1))
def Zac (n:Zr) (r:List R5):Bool:=r.all fun row=>decide (row.length=n.2.1.length)&&Sq n row 0
theorem Zu0 {n:Zr} (kk:Option Int):∀ (l:List Int) (k:Nat),k+l.length≤n.2.2.1.length→Q4 n kk l k=if Sq n l k=true then kk else some 71
 | [],k,_=>by rw [Q4.eq_1,Sq,if_pos rfl]
 | x :: l,k,h=>by
  simp only [nC] at h
  have ih:=Zu0 (n:=n) kk l (k+1) (by omega)
  have hat:Zm n.2.2.1 (k:Int)=some (n.2.2.1.getD k []):=Vs (l:=n.2.2.1) [] (j:=k) (by omega)
  have hc:cnt n k=(n.2.2.1.getD k []).length:=rfl
  rw [Q4.eq_2,Sq]
  by_cases h1:x< -1
  ·rw [if_pos (dT h1),Zfr,if_pos rfl,decide_eq_false (show ¬ -1≤x by omega)];rfl
  ·rw [if_neg (dF h1),hat,oB,decide_eq_true (show -1≤x by omega),Bool.true_and,Zfr]
   by_cases h2:x<(cnt n k:Int)
   ·rw [decide_eq_true h2,decide_eq_false (by omega),if_neg (by decide),Bool.true_and];exact ih
   ·rw [decide_eq_false h2,decide_eq_true (by omega),if_pos rfl];rfl
theorem Zuz {n:Zr} (hv:n.2.2.1.length=n.2.1.length):∀ r:List R5,Q3 n r=some (if Zac n r=true then 0 else 71)
 | []=>by rw [Q3.eq_1];rfl
 | row :: r=>by
  have ih:=Zuz hv r
  rw [Q3.eq_2,Zac,List.all_cons]
  by_cases h:row.length=n.2.1.length
  ·rw [if_neg (by rw [decide_eq_true (by omega)];decide),Zu0 _ row 0 (by omega),decide_eq_true h,Bool.true_and]
   by_cases h2:Sq n row 0=true
   ·rw [if_pos h2,h2,Bool.true_and];exact ih
   ·rw [if_neg h2,Bool.eq_false_iff.2 h2];rfl
  ·rw [if_pos (by rw [decide_eq_false (by omega)];rfl),decide_eq_false h];rfl
theorem Zs7 {n:Zr} (kk:Option Int):∀ (l:List Int) (k:Nat),k+l.length≤n.2.2.1.length→Q1 n kk l k=if Sq n l k=true then kk else some 71
 | [],k,_=>by rw [Q1.eq_1,Sq,if_pos rfl]
 | x :: l,k,h=>by
  simp only [nC] at h
  have ih:=Zs7 (n:=n) kk l (k+1) (by omega)
  have hat:Zm n.2.2.1 (k:Int)=some (n.2.2.1.getD k []):=Vs (l:=n.2.2.1) [] (j:=k) (by omega)
  have hc:cnt n k=(n.2.2.1.getD k []).length:=rfl
  rw [Q1.eq_2,Sq]
  by_cases h1:x< -1
  ·rw [if_pos (dT h1),Zfd,if_pos rfl,decide_eq_false (show ¬ -1≤x by omega)];rfl
  ·rw [if_neg (dF h1),hat,oB,decide_eq_true (show -1≤x by omega),Bool.true_and,Zfd]
   by_cases h2:x<(cnt n k:Int)
   ·rw [decide_eq_true h2,decide_eq_false (by omega),if_neg (by decide),Bool.true_and];exact ih
   ·rw [decide_eq_false h2,decide_eq_true (by omega),if_pos rfl];rfl
theorem Zod {n:Zr} (hv:n.2.2.1.length=n.2.1.length):∀ r:List R5,Q0 n r=some (if Zac n r=true then 0 else 71)
 | []=>by rw [Q0.eq_1];rfl
 | row :: r=>by
  have ih:=Zod hv r
  rw [Q0.eq_2,Zac,List.all_cons]
  by_cases h:row.length=n.2.1.length
  ·rw [if_neg (by rw [decide_eq_true (by omega)];decide),Zs7 _ row 0 (by omega),decide_eq_true h,Bool.true_and]
   by_cases h2:Sq n row 0=true
   ·rw [if_pos h2,h2,Bool.true_and];exact ih
   ·rw [if_neg h2,Bool.eq_false_iff.2 h2];rfl
  ·rw [if_pos (by rw [decide_eq_false (by omega)];rfl),decide_eq_false h];rfl
/-! observations of which all is known -/
def Zty (r:List R5):Bool:=r.all fun row=>row.all fun x=>decide (0≤x)
def W9 (n:Zr) (v:Nat) (row:List Int):Nat:=Wx n row v * cnt n v+(row.getD v 0).toNat
def Yd (n:Zr) (v:Nat) (r:List R5):List Int:=(List.range (n.2.2.2.2.getD v []).length).map fun i=>((r.countP fun row=>decide (W9 n v row=i):Nat):Int)
theorem Zso (n:Zr) (v:Nat):List.replicate (n.2.2.2.2.getD v []).length (0:Int)=Yd n v []:=by
 refine List.ext_getElem (by simp only [Yd,List.length_replicate,List.length_map,List.length_range]) fun i h1 h2=>?_
 simp only [Yd,List.getElem_replicate,List.getElem_map,List.countP_nil];rfl
theorem Zsp (n:Zr) (v:Nat) (pre:List R5) (row:List Int) (h:W9 n v row<(n.2.2.2.2.getD v []).length):(Yd n v pre).set (W9 n v row) (((pre.countP fun q=>decide (W9 n v q=W9 n v row):Nat):Int)+1)=Yd n v (pre++[row]):=by
 refine List.ext_getElem (by simp only [Yd,nS,List.length_map]) fun i h1 h2=>?_
 simp only [Yd,List.getElem_set,List.getElem_map,List.getElem_range,List.countP_append,List.countP_singleton]
 by_cases hi:W9 n v row=i
 ·subst hi;rw [if_pos rfl,if_pos (dT rfl)];rfl
 ·rw [if_neg hi,if_neg (dF hi),Nat.add_zero]
theorem Z2f (n:Zr) (v:Nat) (r:List R5) {i:Nat} (h:i<(n.2.2.2.2.getD v []).length):Zm (Yd n v r) (i:Int)=some ((r.countP fun q=>decide (W9 n v q=i):Nat):Int):=by
 rw [Z5 (by rw [Yd,List.length_map,List.length_range];exact h)]
 simp only [Yd,List.getElem_map,List.getElem_range]
section
variable {N:Nat} {n:Zr} (hf:Yo N n)
include hf
theorem Zqa {v:Nat} (hv:v<n.2.1.length) {row:List Int} (hw:Yp n row):W9 n v row<(n.2.2.2.2.getD v []).length:=by
 have h1:=hf.row hw hv
 have h2:=hw.ok v (by rw [hw.len];exact hv)
 rw [W9];omega
theorem Zwf {v:Nat} (hv:v<n.2.1.length) {row:List Int} (hw:Yp n row) {c:List Int} {x:Int} (hx:Zm c ((W9 n v row:Nat):Int)=some x) (hx2:0≤x∧x≤1048576) (kk:List Int→Option Rh):∀ (ps:List Int) (r k:Nat),(∀ q ∈ ps,0≤q∧q<(n.2.1.length:Int))→r<k→k≤65536→Yg n.2.2.1 ps k≤65536→Ss n row ps r=Wx n row v→
  Zap n c kk row (ps++[(v:Int)]) (r:Int)=kk (c.set (W9 n v row) (x+1))
 | [],r,k,_,_,_,_,e=>by
  rw [Ss] at e
  subst e
  have hrow:=hf.row hw hv
  have hrows:=hf.rows hv
  have hwv:=hw.ok v (by rw [hw.len];exact hv)
  have e3:i64.wrap ((Wx n row v:Int) * ((n.2.2.1.getD v []).length:Int))=((Wx n row v * cnt n v:Nat):Int):=by
   rw [show ((n.2.2.1.getD v []).length:Int)=((cnt n v:Nat):Int) from rfl,← Int.natCast_mul]
   exact Z0 (by omega)
  have e4:i64.wrap (((Wx n row v * cnt n v:Nat):Int)+row.getD v 0)=((W9 n v row:Nat):Int):=by
   rw [W9,Int.natCast_add,show (((row.getD v 0).toNat:Nat):Int)=row.getD v 0 by omega]
   exact Z0 (by omega)
  rw [List.nil_append,Zap.eq_2,Vs 0 (by rw [hw.len];exact hv),oB,if_neg (dF (by omega)),Vs [] (by rw [hf.ev.v];exact hv),oB,e3,e4,Zap.eq_1,hx,oB,oB,Z0 (by omega),Int.toNat_natCast]
 | p :: ps,r,k,hp,hr,hk,hb,e=>by
  obtain ⟨c1,c2,c3⟩:=Zqz hf.ev hw hp hr hk hb
  rw [Ss] at e
  have hpp:=hp p List.mem_cons_self
  have hwp:=hw.ok p.toNat (by rw [hw.len];omega)
  have g5:r * cnt n p.toNat≤k * cnt n p.toNat:=Nat.mul_le_mul_right _ (by omega)
  have q1:Zm n.2.2.1 p=some (n.2.2.1.getD p.toNat []):=by
   have:=Vs (l:=n.2.2.1) [] (j:=p.toNat) (by rw [hf.ev.v];omega)
   rwa [show ((p.toNat:Nat):Int)=p by omega] at this
  have q2:Zm row p=some (row.getD p.toNat 0):=by
   have:=Vs (l:=row) 0 (j:=p.toNat) (by rw [hw.len];omega)
   rwa [show ((p.toNat:Nat):Int)=p by omega] at this
  have e1:i64.wrap ((r:Int) * ((n.2.2.1.getD p.toNat []).length:Int))=((r * cnt n p.toNat:Nat):Int):=by
   rw [show ((n.2.2.1.getD p.toNat []).length:Int)=((cnt n p.toNat:Nat):Int) from rfl,← Int.natCast_mul]
   exact Z0 (by omega)
  have e2:i64.wrap (((r * cnt n p.toNat:Nat):Int)+row.getD p.toNat 0)=((r * cnt n p.toNat+(row.getD p.toNat 0).toNat:Nat):Int):=by
   rw [Int.natCast_add,show (((row.getD p.toNat 0).toNat:Nat):Int)=row.getD p.toNat 0 by omega]
   exact Z0 (by omega)
  rw [List.cons_append,Zap.eq_2,q2,oB,if_neg (dF (by omega)),q1,oB,e1,e2]
  exact Zwf hv hw hx hx2 kk ps _ _ (fun q hq=>hp q (List.mem_cons_of_mem _ hq)) c1 c2 c3 e
theorem Zwe {v:Nat} (hv:v<n.2.1.length) (hps:(n.2.2.2.1.getD v []).length≤1048576):∀ (l pre:List R5),(∀ row ∈ l,Yp n row)→pre.length+l.length≤1048576→Qz n (v:Int) l (Yd n v pre)=some (Yd n v (pre++l),0)
 | [],pre,_,_=>by rw [Qz.eq_1,List.append_nil]
 | row :: l,pre,h,hl=>by
  rw [nC] at hl
  have hw:=h row List.mem_cons_self
  have hpl:=Zqa hf hv hw
  have hle:=List.countP_le_length (p:=fun q=>decide (W9 n v q=W9 n v row)) (l:=pre)
  have ih:=Zwe hv hps l (pre++[row]) (fun q hq=>h q (List.mem_cons_of_mem _ hq)) (by rw [nA,List.length_singleton];omega)
  rw [List.append_assoc,List.singleton_append] at ih
  obtain ⟨h1,h2,h3⟩:=hf.rows hv
  have L2:=Zwf hf hv hw (Z2f n v pre hpl) ⟨by omega,by omega⟩ (Qz n (v:Int) l) (n.2.2.2.1.getD v []) 0 1 (hf.pars hv) (by omega) (by omega) h3 rfl
  rw [Zsp n v pre row hpl] at L2
  rw [Qz.eq_2,Vs [] (by rw [hf.ev.p];exact hv),oB,Zoa (by omega),oB,Z9 (by simp only [List.length_singleton,maxLen];omega)]
  exact L2.trans ih
theorem Z46 {v:Nat} (hv:v<n.2.1.length) (hps:(n.2.2.2.1.getD v []).length≤1048576) {r:List R5} (hC:W8 N n=some 0) (hw:Zac n r=true) (hr:∀ row ∈ r,Yp n row) (hl:r.length≤1048576):Zc6 N n r (v:Int)=some (Yd n v r,0):=by
 have hC':W8 N (n.1,n.2.1,n.2.2.1,n.2.2.2.1,n.2.2.2.2)=some 0:=hC
 have dw:Zbu N (n.1,n.2.1,n.2.2.1,n.2.2.2.1,n.2.2.2.2) r=some 0:=by
  rw [Zbu,hC',oB,if_neg (by decide)]
  have:=Zod (n:=n) hf.ev.v r
  rw [if_pos hw] at this
  exact this
 have hL:=(hf.rows hv).2.1
 rw [Zc6,dw,oB,if_neg (by decide),if_neg (dF (by omega)),decide_eq_false (by omega),Zht,if_neg (by decide),Vs [] (by rw [hf.ev.t];exact hv),oB,Z9 (by simp only [maxLen];omega),Zso]
 have:=Zwe hf hv hps r [] hr (by simpa using hl)
 rwa [List.nil_append] at this
/-! the document -/
end
def Zh9 (N:Nat) (ab:Int):Nat→R5→Int→Option R5
  | 0,_,_=>none
  | ad+1,ac,aa=>if (decide (aa≤ab))=true then ((S7 N (u64.wrap aa)).bind fun ae=>(To N ac ae).bind fun af=>(Zh9 N ab ad) af (i64.wrap (aa+1))) else (some ac)
termination_by structural x=>x
def Zh8 (N:Nat) (aa:Int):Option R5:=
  (S7 N 1).bind fun ab=>Zh9 N aa N ab 2
theorem Zny {N:Nat} {col:Ze} {w0:World} {ah:Int} {r:R5} (c1:Nat) (hm:Zh8 N ah=some r):
    Calls prog 100 #[.int .i64 ah] w0 (fun e w'=>∃ (col':Ze) (ra1:Option Addr) (rc2:Nat),e= .returned ((.slice ra1 r.length rc2))∧Zh col w0 col' w'∧Zb (Za.int .u32) 95 c1 col' w' ra1 rc2 r):=by
 refine Xf 2 (m:=17) func100 rfl rfl rfl rfl rfl ?_;rw [Zh8.eq_1] at hm;have aa:=St.start col w0;refine go ?_;obtain ⟨ay,ao,hm⟩:=bZ hm;refine Zk (Zcx (col:=(Zj col)) 1 ao) ?_;rintro _ az ⟨a0,a1,a2,rfl,ap,aq⟩;refine ⟨_,rfl,go ?_⟩;replace aa:=aa.grow ap;refine Zu [0,1000000] (fun n f ai=>∃ ad aj ak ae al ab,ab=n∧Zh9 N ah ab ae al=some r∧St w0 (Zj col) ad ai∧Zb (Za.int .u32) 95 1 ad ai aj ak ae∧[3,4].map f=[.slice aj ae.length ak,.int .i64 al]) N ⟨_,_,_,_,2,_,rfl,hm,aa,aq,rfl⟩ ?_;clear hm;intro n f ai hI;obtain ⟨ad,aj,ak,ae,al,ab,hn,hm,aa,af,hs⟩:=hI;subst hn;refine .lL [3,4] hs ?_
 cases ab with
 | zero=>rw [Zh9.eq_1] at hm;cases hm
 | succ ab=>
  rw [Zh9.eq_2] at hm;refine go ?_;refine Zo hm (fun hb hm=>go ?_) fun hb hm=>go ?_
  ·obtain ⟨a3,ar,hm⟩:=bZ hm;refine Zk (Zcx (col:=ad) 2 ar) ?_;rintro _ au ⟨am,a4,a5,rfl,an,av⟩;refine ⟨_,rfl,?_⟩;obtain ⟨a6,aw,hm⟩:=bZ hm;replace af:=af.gr an;refine Zk (Zbf 3 aw ((af.toSlF (Zd.int .u32)).froz 2) ((av.froz 1 (by decide)).toSlF (Zd.int .u32))) ?_;rintro _ a7 ⟨ax,a8,a9,rfl,ag,ac⟩;refine ⟨_,rfl,?_⟩;replace ac:=ac.thaw (Z1 .u32) ag (((Fz.refl (col:=am)).froz 1).froz 2) (by decide);replace ag:=ag.thawR (col:=am);generalize Xe au.heap.size am ax=ba at *;refine go ?_;replace ac:=ac.recolSelf 1 (by decide);replace aa:=(aa.grow an).grow ag;replace aa:=aa.recol 3 1 (by decide) (by decide);exact ⟨ab,by omega,rfl,⟨_,_,_,_,_,_,rfl,hm,aa,ac,rfl⟩⟩
  cases hm;exact ⟨rfl,_,_,_,rfl,aa.fin (cm [(1,c1)]),aa.fo af⟩
def Zku:Nat→Nat
 | 0=>1
 | n+1=>(n+1) * Zku n
def Zdj (N:Nat) (ab:Int):Option R4:=
  (Zar N ab 1).bind fun aa=>some ((aa.1.1.1,aa.1.1.2),aa.1.2)
theorem Znz {N:Nat} {col:Ze} {w0:World} {ai:Int} {r:R4} (c1 c2:Nat) (hm:Zdj N ai=some r):
    Calls prog 97 #[.int .i64 ai] w0 (fun e w'=>∃ (col':Ze) (ra1:Option Addr) (rc2:Nat) (ra4:Option Addr) (rc5:Nat),e= .returned ((.agg #[.bool r.1.1,.slice ra1 r.1.2.length rc2,.slice ra4 r.2.length rc5]))∧Zh col w0 col' w'∧Zb (Za.int .u32) 95 c1 col' w' ra1 rc2 r.1.2∧Zb (Za.int .u32) 95 c2 col' w' ra4 rc5 r.2):=by
 refine Y5 (m:=11) func97 rfl rfl rfl ?_;rw [Zdj.eq_1] at hm;have ab:=St.start col w0;refine go ?_;refine Xg (col:=(Zj col)) #[.bool false,.slice none (([]:List Int).length) 0,.slice none (([]:List Int).length) 0] 1 zeroValue39 ?_;intro az a0 ao ap ae;refine go ?_;obtain ⟨aa,aq,hm⟩:=bZ hm;refine Zk (Zkk (col:=ao) 2 3 aq) ?_;rintro _ a1 ⟨ar,aj,ak,al,am,rfl,an,af,ag⟩;refine ⟨_,rfl,?_⟩;refine lM (.tuple #[(.agg #[.bool aa.1.1.1,.slice aj aa.1.1.2.length ak,.slice al aa.1.2.length am]),.int .i64 aa.2])<|lV (.agg #[.bool aa.1.1.1,.slice aj aa.1.1.2.length ak,.slice al aa.1.2.length am]) (Xk rfl rfl)<|lV (.int .i64 aa.2) (Xk rfl rfl)<|Xg (col:=ar) #[.bool false,.slice none (([]:List Int).length) 0,.slice none (([]:List Int).length) 0] 4 zeroValue39 ?_;intro a2 a3 a4 ac au;refine Zz au ?_;intro a5 ad av aw;refine go ?_;refine lV _ (Z2 isAgg39 sizeOf39 aw) ?_;replace ae:=((ae.gr an).gr ac).kp ad;refine Zz ae ?_;intro a6 ah ax ay;refine go ?_;cases hm;replace ab:=((((ab.grow ap).grow an).grow ac).kp ad av).kp ah ax;replace af:=((af.gr ac).kp ad).kp ah;replace ag:=((ag.gr ac).kp ad).kp ah;exact ⟨rfl,_,ra ay.atN,_,_,_,_,_,rfl,ab.fin (cm [(2,c1),(3,c2)]),ab.fo af,ab.fo ag⟩
def Zja (N:Nat) (ab:List Int) (ac:Int):Nat→Int→Option R9
  | 0,_=>none
  | ad+1,aa=>if (decide (aa<(ab.length:Int)))=true then (Zt ((0:Int)≤aa∧aa≤(ab.length:Int)) (Zt ((0:Int)≤aa∧aa≤(i64.wrap (aa+(if ((ab.drop (Int.toNat aa)).length:Int)<ac then ((ab.drop (Int.toNat aa)).length:Int) else ac)))∧(i64.wrap (aa+(if ((ab.drop (Int.toNat aa)).length:Int)<ac then ((ab.drop (Int.toNat aa)).length:Int) else ac)))≤(i64.wrap (aa+(if ((ab.drop (Int.toNat aa)).length:Int)<ac then ((ab.drop (Int.toNat aa)).length:Int) else ac)))∧(i64.wrap (aa+(if ((ab.drop (Int.toNat aa)).length:Int)<ac then ((ab.drop (Int.toNat aa)).length:Int) else ac)))≤(ab.length:Int)) (((Zja N ab ac ad) (i64.wrap (aa+ac))).bind fun ae=>some ((ab.take (Int.toNat (i64.wrap (aa+(if ((ab.drop (Int.toNat aa)).length:Int)<ac then ((ab.drop (Int.toNat aa)).length:Int) else ac))))).drop (Int.toNat aa) :: ae)))) else (some [])
termination_by structural x=>x
def Zpn (N:Nat) (aa:List Int) (ab:Int):Option R9:=
  Zja N aa ab N 0
theorem Z1v (N:Nat) (col:Ze) (w0:World) (g0:Nat) (af0:Option Addr) (capf0:Nat) (ab:List Int) (hf0:Sl (Za.int .i64) col w0 af0 capf0 ab) (hb0:Zf 33 450 col w0 g0 #[.slice af0 ab.length capf0]) (g1:Nat) (ac:Int) (hb1:Zf 3 450 col w0 g1 #[.int .i64 ac]) (r:List R5) (hm:Zpn N ab ac=some r):
    Zhb prog 1 164 [.pointer (some ⟨g0,0,none⟩),.pointer (some ⟨g1,0,none⟩)] (fun (y:List Int) (col:Ze) (w:World) (args:List Value)=>∃ (a0:Option Addr) (ak:Nat),args=[.slice a0 y.length ak]∧Sl (Za.int .i64) col w a0 ak y) r col w0:=by
 intro l J X hjs hxs hy ad;refine Zbh (m:=31) (args:=[.func (.yield l) #[] #[],.pointer (some ⟨g0,0,none⟩),.pointer (some ⟨g1,0,none⟩)]) func164 rfl rfl rfl rfl ?_;rw [Zpn.eq_1] at hm;refine go ?_;refine Zu [0,1,2,1000000] (fun n f ah=>∃ ae r aa af,af=n∧Zja N ab ac af aa=some r∧J r ae ah∧Sl (Za.int .i64) ae ah af0 capf0 ab∧Zf 33 450 ae ah g0 #[.slice af0 ab.length capf0]∧Zf 3 450 ae ah g1 #[.int .i64 ac]∧[4].map f=[.int .i64 aa]) N ⟨_,_,0,_,rfl,hm,ad,hf0,hb0,hb1,rfl⟩ ?_;clear hm;intro n f ah hI;obtain ⟨ae,r,aa,af,hn,hm,ad,hf0,hb0,hb1,hs⟩:=hI;subst hn;refine .lL [4] hs ?_
 cases af with
 | zero=>rw [Zja.eq_1] at hm;cases hm
 | succ af=>
  rw [Zja.eq_2] at hm;refine go ?_;refine lW hb0.at1<|go ?_;refine Zo hm (fun hb hm=>go ?_) fun hb hm=>go ?_
  ·refine Vj (col:=ae) (by kernel_rfl) (by kernel_rfl)<|qW (fun _ hC=>hb1.at1.gr (hC.bl ae)) ?_;refine qW (fun _ hC=>hb0.at1.gr (hC.bl ae)) ?_;refine go ?_;obtain ⟨al,hm⟩:=Z3 hm;have ap:=hf0.drop (sz:=1) rfl (Int.toNat aa);refine qv (v:=.slice (if capf0=(Int.toNat aa) then af0 else af0.map (·.add ((Int.toNat aa) * 1))) (ab.length - (Int.toNat aa)) (capf0 - (Int.toNat aa))) rfl (fun _ hC=>Zxf underlying33 sizeOf3 rfl rfl al.1 al.2) ?_;generalize (if capf0=(Int.toNat aa) then af0 else af0.map (·.add ((Int.toNat aa) * 1)))=am at *;refine .ld (d:=16) (v:=(.slice am ((ab.drop (Int.toNat aa)).length) (capf0 - (Int.toNat aa)))) (congrArg (fun n=>Value.slice am n (capf0 - (Int.toNat aa))) (List.length_drop (i:=(Int.toNat aa)) (l:=ab)).symm) ?_;refine go ?_;refine qv (v:=(.int .i64 (if ((ab.drop (Int.toNat aa)).length:Int)<ac then ((ab.drop (Int.toNat aa)).length:Int) else ac))) rfl (fun _ hC=>Zjt ac ((ab.drop (Int.toNat aa)).length:Int) rfl rfl) ?_;refine go ?_;refine Ws ?_;intro aq hC;replace hC:=hC.bl ae;replace hf0:=hf0.gr hC;replace hb0:=hb0.gr hC;replace hb1:=hb1.gr hC;replace ad:=hjs _ _ _ _ _ ad hC.toP;refine go ?_;refine lM (.func (.yield l) #[] #[])<|lW hb0.at1<|go ?_;obtain ⟨ag,hm⟩:=Z3 hm;have an:=((hf0.take (Int.toNat (i64.wrap (aa+(if ((ab.drop (Int.toNat aa)).length:Int)<ac then ((ab.drop (Int.toNat aa)).length:Int) else ac))))).recap (show (ab.take (Int.toNat (i64.wrap (aa+(if ((ab.drop (Int.toNat aa)).length:Int)<ac then ((ab.drop (Int.toNat aa)).length:Int) else ac))))).length≤(Int.toNat (i64.wrap (aa+(if ((ab.drop (Int.toNat aa)).length:Int)<ac then ((ab.drop (Int.toNat aa)).length:Int) else ac)))) by rw [List.length_take (i:=(Int.toNat (i64.wrap (aa+(if ((ab.drop (Int.toNat aa)).length:Int)<ac then ((ab.drop (Int.toNat aa)).length:Int) else ac))))) (l:=ab)];have:=ag.2;omega)).drop (sz:=1) rfl (Int.toNat aa);refine lv (v:=.slice (if (Int.toNat (i64.wrap (aa+(if ((ab.drop (Int.toNat aa)).length:Int)<ac then ((ab.drop (Int.toNat aa)).length:Int) else ac))))=(Int.toNat aa) then af0 else af0.map (·.add ((Int.toNat aa) * 1))) ((Int.toNat (i64.wrap (aa+(if ((ab.drop (Int.toNat aa)).length:Int)<ac then ((ab.drop (Int.toNat aa)).length:Int) else ac)))) - (Int.toNat aa)) ((Int.toNat (i64.wrap (aa+(if ((ab.drop (Int.toNat aa)).length:Int)<ac then ((ab.drop (Int.toNat aa)).length:Int) else ac)))) - (Int.toNat aa))) rfl rfl (Zxh underlying33 sizeOf3 rfl rfl rfl rfl ag.1 ag.2.1 ag.2.2.1 (by have:=hf0.1.2;have:=ag.2.2.2;omega)) ?_
   generalize (if (Int.toNat (i64.wrap (aa+(if ((ab.drop (Int.toNat aa)).length:Int)<ac then ((ab.drop (Int.toNat aa)).length:Int) else ac))))=(Int.toNat aa) then af0 else af0.map (·.add ((Int.toNat aa) * 1)))=ai at *;refine .ld (d:=28) (v:=(.slice ai (((ab.take (Int.toNat (i64.wrap (aa+(if ((ab.drop (Int.toNat aa)).length:Int)<ac then ((ab.drop (Int.toNat aa)).length:Int) else ac))))).drop (Int.toNat aa)).length) ((Int.toNat (i64.wrap (aa+(if ((ab.drop (Int.toNat aa)).length:Int)<ac then ((ab.drop (Int.toNat aa)).length:Int) else ac)))) - (Int.toNat aa)))) (congrArg (fun n=>Value.slice ai n ((Int.toNat (i64.wrap (aa+(if ((ab.drop (Int.toNat aa)).length:Int)<ac then ((ab.drop (Int.toNat aa)).length:Int) else ac)))) - (Int.toNat aa))) (show (Int.toNat (i64.wrap (aa+(if ((ab.drop (Int.toNat aa)).length:Int)<ac then ((ab.drop (Int.toNat aa)).length:Int) else ac)))) - (Int.toNat aa)=((ab.take (Int.toNat (i64.wrap (aa+(if ((ab.drop (Int.toNat aa)).length:Int)<ac then ((ab.drop (Int.toNat aa)).length:Int) else ac))))).drop (Int.toNat aa)).length by rw [List.length_drop (i:=(Int.toNat aa)) (l:=ab.take (Int.toNat (i64.wrap (aa+(if ((ab.drop (Int.toNat aa)).length:Int)<ac then ((ab.drop (Int.toNat aa)).length:Int) else ac))))),List.length_take (i:=(Int.toNat (i64.wrap (aa+(if ((ab.drop (Int.toNat aa)).length:Int)<ac then ((ab.drop (Int.toNat aa)).length:Int) else ac))))) (l:=ab)];have:=ag.2;omega)) ?_;obtain ⟨ar,hc_14m,ao⟩:=bZ hm;cases ao;have hm:=hc_14m;refine ly1 rfl rfl rfl (hy _ _ _ _ [(.slice ai (((ab.take (Int.toNat (i64.wrap (aa+(if ((ab.drop (Int.toNat aa)).length:Int)<ac then ((ab.drop (Int.toNat aa)).length:Int) else ac))))).drop (Int.toNat aa)).length) ((Int.toNat (i64.wrap (aa+(if ((ab.drop (Int.toNat aa)).length:Int)<ac then ((ab.drop (Int.toNat aa)).length:Int) else ac)))) - (Int.toNat aa)))] ad ⟨ai,((Int.toNat (i64.wrap (aa+(if ((ab.drop (Int.toNat aa)).length:Int)<ac then ((ab.drop (Int.toNat aa)).length:Int) else ac)))) - (Int.toNat aa)),rfl,an⟩) ?_;rintro _ au ⟨av,aj,⟨rfl,hJ⟩ | ⟨rfl,hX⟩⟩
   ·refine ⟨_,rfl,?_⟩;have ad:=hJ;refine go ?_;refine Xs rfl<|go ?_;replace hb1:=hb1.kpp aj;refine lW hb1.at1<|go ?_;replace hf0:=hf0.kpp aj;replace hb0:=hb0.kpp aj;exact ⟨af,by omega,rfl,⟨_,_,_,_,rfl,hm,ad,hf0,hb0,hb1,rfl⟩⟩
   refine ⟨_,rfl,?_⟩;have ad:=hX;refine go ?_;refine Xt rfl<|Vc ?_;exact ⟨rfl,⟨_,rfl⟩,_,.inr ad⟩
  cases hm;exact ⟨rfl,⟨_,rfl⟩,_,.inl ad⟩
def Zpo (N:Nat) (aa:List Int) (ab:Int):Option R9:=
  Zpn N aa ab
def Zpm (N:Nat) (ab:List Int) (aa:Int):Option R9:=
  if (decide (aa<1))=true then none else (Zpo N ab aa)
theorem Z1u {N aa:Nat} {a0:Option Addr} {col:Ze} {w0:World} {ac:R5} {ad:Int} {r:R9} (hm:Zpm N ac ad=some r) (h0:Sl (Za.int .i64) col w0 a0 aa ac):
    Calls prog 99 #[.slice a0 ac.length aa,.int .i64 ad] w0 (fun e w'=>∃ (col':Ze) (rv1:Value),e= .returned (rv1)∧Zh col w0 col' w'∧It prog 1 rv1 (fun (y:List Int) (col:Ze) (w:World) (args:List Value)=>∃ (a0:Option Addr) (aa:Nat),args=[.slice a0 y.length aa]∧Sl (Za.int .i64) col w a0 aa y) r q0 col' w'):=by
 refine Xf 4 (m:=9) func99 rfl rfl rfl rfl rfl ?_;rw [Zpm.eq_1] at hm;have ab:=St.start col w0;refine go ?_;refine Zbo (col:=(Zj col)) (v:=(.slice a0 ac.length aa)) 1 rfl rfl ?_;intro af ap an aq ae;replace ae:Zf 33 1 an ap af #[.slice a0 ac.length aa]:=ae;refine Zbo (col:=an) (v:=(.int .i64 ad)) 2 rfl rfl ?_;intro ag ar au ao ah;replace ah:Zf 3 2 au ar ag #[.int .i64 ad]:=ah;refine lv (v:=_) rfl rfl (Tb rfl)<|Zl<|Zs ?_;replace h0:=h0.keep (Zi.start col w0);replace ab:=(ab.grow aq).grow ao;replace ae:=ae.gr ao;refine Wp.cutK [2,3,1000000] (fun f aj=>∃ ai,Zpo N ac ad=some r∧St w0 (Zj col) ai aj∧Zf 33 1 ai aj af #[.slice a0 ac.length aa]∧Zf 3 2 ai aj ag #[.int .i64 ad]) ?_ ?_
 ·intro f aj hJ;obtain ⟨ai,hm,ab,ae,ah⟩:=hJ;rw [Zpo.eq_1] at hm;refine go ?_;refine lV (.func (.func 164) #[] #[.pointer (some ⟨af,0,none⟩),.pointer (some ⟨ag,0,none⟩)]) (Zql rfl rfl)<|lA (.func (.func 164) #[] #[.pointer (some ⟨af,0,none⟩),.pointer (some ⟨ag,0,none⟩)])<|go ?_;have ak:=ab.finBox (G:=(fun n=>bif Nat.beq n 1 then 450 else bif Nat.beq n 2 then 450 else 0)) ae (by decide) (by decide) (show (fun n=>bif Nat.beq n 1 then 450 else bif Nat.beq n 2 then 450 else 0) 1=450 from rfl);have h0f:=ab.finSl (g:=(fun n=>bif Nat.beq n 1 then 450 else bif Nat.beq n 2 then 450 else 0)) rfl (h0.ks ab);have al:=ab.finBox (G:=(fun n=>bif Nat.beq n 1 then 450 else bif Nat.beq n 2 then 450 else 0)) ah (by decide) (by decide) (show (fun n=>bif Nat.beq n 1 then 450 else bif Nat.beq n 2 then 450 else 0) 2=450 from rfl);refine ⟨rfl,Vf w0.heap.size col ai (fun n=>bif Nat.beq n 1 then 450 else bif Nat.beq n 2 then 450 else 0),_,rfl,ab.fin (fun n=>bif Nat.beq n 1 then 450 else bif Nat.beq n 2 then 450 else 0),164,[.pointer (some ⟨af,0,none⟩),.pointer (some ⟨ag,0,none⟩)],rfl,call164,?_⟩;intro col9 w9 am hk9;replace ak:=ak.itk am hk9 rfl;replace h0f:=h0f.itk am hk9 rfl;replace al:=al.itk am hk9 rfl;exact Z1v N col9 w9 af a0 aa ac h0f ak ag ad al r hm
 refine go ?_;refine lW ah.at1<|go ?_;refine Zo hm (fun hb hm=>?_) fun hb hm=>?_
 ·cases hm
 refine X0 ?_;exact ⟨rfl,_,hm,ab,ae,ah⟩
def Zh1 (N:Nat) (ae:List ByteArray) (af:Bool) (ag:List Int) (ah:List Int) (kk_L3:(Bool→R5→R5→Option (R4×Int))):List Int→Int→R5→Option (R4×Int)
  | [],aa,ab=>(Zh8 N (i64.wrap ((i64.wrap (aa+(ae.length:Int))) - 1))).bind fun aj=>(Zfe N (false,ab) (false,aj)).bind fun ac=>(Q2 N ((af,ag),ah) ((ac.1.1.1,ac.1.1.2),ac.1.2)).bind fun ad=>kk_L3 ad.1.1 ad.1.2 ad.2
  | ai :: ak,aa,ab=>(Zh8 N ai).bind fun al=>(To N ab al).bind fun am=>(Zh1 N ae af ag ah kk_L3 ak) (i64.wrap (aa+ai)) am
termination_by structural x=>x
def Zfn (N:Nat) (ae:Int) (kk_L2:(Int→Bool→R5→R5→Option (R4×Int))) (aa:List ByteArray):List R5→Bool→R5→R5→Option (R4×Int)
  | [],ab,ac,ad=>kk_L2 (i64.wrap (ae+1)) ab ac ad
  | af :: ag,ab,ac,ad=>(Zh8 N (i64.wrap ((aa.length:Int) - 1))).bind fun ah=>Zh1 N aa ab ac ad (Zfn N ae kk_L2 aa ag) af 0 ah
termination_by structural x=>x
def Zdf (N:Nat) (aa:R0) (ac:R9):Nat→Int→Bool→R5→R5→Option (R4×Int)
  | 0,_,_,_,_=>none
  | ah+1,ab,ad,ae,af=>if (decide (ab<(aa.2.1.length:Int)))=true then ((Zc6 N (aa.1,aa.2.1,aa.2.2.1,aa.2.2.2.1,aa.2.2.2.2) ac ab).bind fun ai=>(Zm aa.2.2.1 ab).bind fun ag=>(Zpm N ai.1 (ag.length:Int)).bind fun aj=>Zfn N ab (Zdf N aa ac ah) ag aj ad ae af) else (some (((ad,ae),af),0))
termination_by structural x=>x
def Zh0 (N:Nat) (ab:R0) (ac:R9):List R5→Bool→R5→R5→Option (R4×Int)
  | [],ad,ae,af=>(Zdj N 1).bind fun aa=>Zdf N ab ac N 0 aa.1.1 aa.1.2 aa.2
  | ag :: ah,ad,ae,af=>(Zpp ag (-1)).bind fun ai=>if ai=true then (some (((false,([]:List Int)),([]:List Int)),72)) else ((Zh0 N ab ac ah) ad ae af)
termination_by structural x=>x
def Zou (N:Nat) (aa:R0) (ab:R9):Option (R4×Int):=
  (Zdk N (aa.1,aa.2.1,aa.2.2.1,aa.2.2.2.1,aa.2.2.2.2) ab).bind fun ac=>if (!decide (ac=0))=true then (some (((false,([]:List Int)),([]:List Int)),ac)) else (Zh0 N aa ab ab false ([]:List Int) ([]:List Int))
theorem Z0m {N bj bk bm bn cf:Nat} {bo bp bq br a1:Option Addr} {col:Ze} {w0:World} {aa:R0} {a3:R9} {r:(R4×Int)} (c1 c2:Nat) (hm:Zou N aa a3=some r) (ae:Sl Za.str col w0 bo bj aa.2.1) (ac:Sl (Za.slice Za.str) col w0 bp bk aa.2.2.1) (af:Sl (Za.slice (Za.int .i64)) col w0 bq bm aa.2.2.2.1) (ag:Sl (Za.slice (Za.pair (Za.pair Za.bool (Za.slice (Za.int .u32))) (Za.slice (Za.int .u32)))) col w0 br bn aa.2.2.2.2) (h1:Sl (Za.slice (Za.int .i64)) col w0 a1 cf a3):
    Calls prog 23 #[(.agg #[.string aa.1,.slice bo aa.2.1.length bj,.slice bp aa.2.2.1.length bk,.slice bq aa.2.2.2.1.length bm,.slice br aa.2.2.2.2.length bn]),.slice a1 a3.length cf] w0 (fun e w'=>∃ (col':Ze) (ra1:Option Addr) (rc2:Nat) (ra4:Option Addr) (rc5:Nat),e= .returned (.tuple #[(.agg #[.bool r.1.1.1,.slice ra1 r.1.1.2.length rc2,.slice ra4 r.1.2.length rc5]),.int .i64 r.2])∧Zh col w0 col' w'∧Zb (Za.int .u32) 95 c1 col' w' ra1 rc2 r.1.1.2∧Zb (Za.int .u32) 95 c2 col' w' ra4 rc5 r.1.2):=by
 refine Zsf (m:=96) (args:=[(.agg #[.string aa.1,.slice bo aa.2.1.length bj,.slice bp aa.2.2.1.length bk,.slice bq aa.2.2.2.1.length bm,.slice br aa.2.2.2.2.length bn]),.slice a1 a3.length cf]) func23 rfl rfl rfl ?_;rw [Zou.eq_1] at hm;have ab:=St.start col w0;replace ae:=ae.keep (Zi.start col w0);replace ac:=ac.keep (Zi.start col w0);replace af:=af.keep (Zi.start col w0);replace ag:=ag.keep (Zi.start col w0);replace h1:=h1.keep (Zi.start col w0);have hmk:Yq 499 (Zj col) w0 []:=.nil;refine go ?_;refine Xl (col:=(Zj col)) 1 rfl ?_;intro c6 ga eb cg ad;refine Xg (col:=eb) #[.bool false,.slice none (([]:List Int).length) 0,.slice none (([]:List Int).length) 0] 2 zeroValue39 ?_;intro c7 ec di b7 ah;refine go ?_;replace ad:=ad.gr b7;refine lV _ (Z2 isAgg27 sizeOf27 ad)<|Yk rfl ?_;obtain ⟨gb,ed,hm⟩:=bZ hm;replace ae:=(ae.gr cg).gr b7;replace ac:=(ac.gr cg).gr b7;replace af:=(af.gr cg).gr b7;replace ag:=(ag.gr cg).gr b7;replace h1:=(h1.gr cg).gr b7;refine Zk (Zn0 ed ae ac af ag h1) ?_;rintro _ ee ⟨rfl,bs⟩;refine ⟨_,rfl,?_⟩;replace bs:Zh di ec di ee:=.of_below bs;refine go ?_;replace hmk:=((hmk.gr cg).gr b7).gr bs;replace ab:=((ab.grow cg).grow b7).grow bs;replace h1:=h1.gr bs;replace ae:=ae.gr bs;replace ac:=ac.gr bs;replace af:=af.gr bs;replace ag:=ag.gr bs;replace ad:=ad.gr bs;replace ah:=ah.gr bs;refine Zo hm (fun hb hm=>go ?_) fun hb hm=>go ?_
 ·refine lV (.agg #[.bool false,.slice none (([]:List Int).length) 0,.slice none (([]:List Int).length) 0]) (Wc (l:=[_,_]) (qs:=[(0,2),(2,1)]) underlying39 zeroValue39 ⟨rfl,sizeOf37,rfl,sizeOf35,trivial⟩ rfl)<|Xp rfl<|Zz ah ?_;intro gc dw ef dj;refine go ?_;cases hm;replace hmk:=hmk.kp dw;refine ⟨_,[],rfl,hmk,?_⟩;intro gd dx eg;replace ab:=(ab.kp dw ef).kp dx eg;replace dj:=dj.kp dx;exact ⟨_,Zm4 rfl rfl isAgg39 sizeOf39 rfl rfl dj.atN rfl rfl,Vf w0.heap.size col di (fun n=>0),none,0,none,0,rfl,ab.fin (fun n=>0),Zb.nil,Zb.nil⟩
 refine Zu [1,2,28,29,4,1000000] (fun n f be=>∃ a4 cl cj b1 b2 bu b3 b4 bv cn,n=cn.length∧a3.drop cl=cn∧Zh0 N aa a3 cn cj bu bv=some r∧St w0 (Zj col) a4 be∧Sl (Za.slice (Za.int .i64)) a4 be a1 cf a3∧Sl Za.str a4 be bo bj aa.2.1∧Sl (Za.slice Za.str) a4 be bp bk aa.2.2.1∧Sl (Za.slice (Za.int .i64)) a4 be bq bm aa.2.2.2.1∧Sl (Za.slice (Za.pair (Za.pair Za.bool (Za.slice (Za.int .u32))) (Za.slice (Za.int .u32)))) a4 be br bn aa.2.2.2.2∧Zf 27 1 a4 be c6 #[.string aa.1,.slice bo aa.2.1.length bj,.slice bp aa.2.2.1.length bk,.slice bq aa.2.2.2.1.length bm,.slice br aa.2.2.2.2.length bn]∧Zb (Za.int .u32) 95 3 a4 be b1 b2 bu∧Zb (Za.int .u32) 95 4 a4 be b3 b4 bv∧Zf 39 2 a4 be c7 #[.bool cj,.slice b1 bu.length b2,.slice b3 bv.length b4]∧Yq 499 a4 be []∧[30].map f=[.int .i64 cl]) a3.length ⟨_,0,_,none,0,_,none,0,_,_,rfl,rfl,hm,ab,h1,ae,ac,af,ag,ad,Zb.nil,Zb.nil,ah,hmk,rfl⟩ ?_;clear hm;intro n f be hI;obtain ⟨a4,cl,cj,b1,b2,bu,b3,b4,bv,cn,hn,hl,hm,ab,h1,ae,ac,af,ag,ad,ai,aj,ah,hmk,hs⟩:=hI;subst hn;refine .lL [30] hs ?_
 cases cn with
 | nil=>
  have hk:¬ ((cl:Int)<(a3.length:Int)):=by have:=List.drop_eq_nil_iff.1 hl;omega
  have hkb:=decide_eq_false hk;rw [Zh0.eq_1] at hm;refine go ?_;refine Xs (congrArg Value.bool hkb)<|go ?_;obtain ⟨ge,eh,hm⟩:=bZ hm;refine Zk (Znz (col:=a4) 5 6 eh) ?_;rintro _ gf ⟨ei,gg,gh,gi,gj,rfl,bt,dl,dm⟩;refine ⟨_,rfl,?_⟩;refine Xg (col:=ei) #[.bool false,.slice none (([]:List Int).length) 0,.slice none (([]:List Int).length) 0] 7 zeroValue39 ?_;intro dn gk gl bf ej;refine Zz ej ?_;intro gm bg ek al;refine go ?_;refine Ya ⟨_,_,rfl⟩ ?_;replace ad:=((ad.gr bt).gr bf).kp bg;refine lW ((ad.atN).nth (q:=1) rfl)<|go ?_;replace h1:=((h1.gr bt).gr bf).kp bg;replace ae:=((ae.gr bt).gr bf).kp bg;replace ac:=((ac.gr bt).gr bf).kp bg;replace af:=((af.gr bt).gr bf).kp bg;replace ag:=((ag.gr bt).gr bf).kp bg;replace ai:=((ai.gr bt).gr bf).kp bg;replace aj:=((aj.gr bt).gr bf).kp bg;replace ah:=((ah.gr bt).gr bf).kp bg;replace hmk:=((hmk.gr bt).gr bf).kp bg;replace ab:=((ab.grow bt).grow bf).kp bg ek;replace dl:=(dl.gr bf).kp bg;replace dm:=(dm.gr bf).kp bg;refine Zu [1,2,4,41,9] (fun n f a9=>∃ a5 co c8 cp cq cr cs ct cu c9 b8,b8=n∧Zdf N aa a3 b8 co c8 cr cu=some r∧St w0 (Zj col) a5 a9∧Sl (Za.slice (Za.int .i64)) a5 a9 a1 cf a3∧Sl Za.str a5 a9 bo bj aa.2.1∧Sl (Za.slice Za.str) a5 a9 bp bk aa.2.2.1∧Sl (Za.slice (Za.int .i64)) a5 a9 bq bm aa.2.2.2.1∧Sl (Za.slice (Za.pair (Za.pair Za.bool (Za.slice (Za.int .u32))) (Za.slice (Za.int .u32)))) a5 a9 br bn aa.2.2.2.2∧Zf 27 1 a5 a9 c6 #[.string aa.1,.slice bo aa.2.1.length bj,.slice bp aa.2.2.1.length bk,.slice bq aa.2.2.2.1.length bm,.slice br aa.2.2.2.2.length bn]∧Zb (Za.int .u32) 95 3 a5 a9 b1 b2 bu∧Zb (Za.int .u32) 95 4 a5 a9 b3 b4 bv∧Zf 39 2 a5 a9 c7 #[.bool cj,.slice b1 bu.length b2,.slice b3 bv.length b4]∧Zb (Za.int .u32) 95 5 a5 a9 cp cq cr∧Zb (Za.int .u32) 95 6 a5 a9 cs ct cu∧Zf 39 7 a5 a9 dn #[.bool c8,.slice cp cr.length cq,.slice cs cu.length ct]∧Yq 499 a5 a9 c9∧[42,1000000].map f=[.int .i64 co,enc c9]) N ⟨_,0,_,_,_,_,_,_,_,_,_,rfl,hm,ab,h1,ae,ac,af,ag,ad,ai,aj,ah,dl,dm,al,hmk,rfl⟩ ?_;clear hm;intro n f a9 hI
  obtain ⟨a5,co,c8,cp,cq,cr,cs,ct,cu,c9,b8,hn,hm,ab,h1,ae,ac,af,ag,ad,ai,aj,ah,bw,bx,al,hmk,hs⟩:=hI;subst hn;refine .lL [42,1000000] hs ?_
  cases b8 with
  | zero=>rw [Zdf.eq_1] at hm;cases hm
  | succ b8=>
   rw [Zdf.eq_2] at hm;refine go ?_;refine Zo hm (fun hb hm=>go ?_) fun hb hm=>go ?_
   ·refine lV _ (Z2 isAgg27 sizeOf27 ad)<|go ?_;obtain ⟨da,el,hm⟩:=bZ hm;refine Zk (Zru 8 el ae ac af ag h1) ?_;rintro _ gp ⟨em,dy,dz,rfl,bd,cv⟩;refine ⟨_,rfl,?_⟩;refine lM (.tuple #[.slice dy da.1.length dz,.int .i64 da.2])<|lV (.slice dy da.1.length dz) (Xk rfl rfl)<|lV (.int .i64 da.2) (Xk rfl rfl)<|go ?_;refine Ya ⟨_,_,rfl⟩ ?_;replace ad:=ad.gr bd;refine lW ((ad.atN).nth (q:=2) rfl)<|Xp rfl ?_;obtain ⟨ch,dp,hm⟩:=bZ hm;replace ac:=ac.gr bd;refine lI dp (ac.addr dp) ?_;obtain ⟨_,en,eo⟩:=ac.atN dp;obtain ⟨⟨gs,gt,rfl,gu⟩,_⟩:=en;refine lW eo.one<|go ?_;refine Qq (col:=em) (v:=(.int .i64 0)) 9 rfl zeroValue3 ?_;intro db ep d0 ba dq;replace dq:Zf 3 9 d0 ep db #[.int .i64 0]:=dq;refine Tl (v:=(.int .i64 ch.length)) dq sizeOf3 rfl rfl (by intro u hu;simp only [Value.cells,List.mem_cons,List.not_mem_nil,or_false] at hu;subst hu;rfl) rfl rfl ?_;intro eq bb er ak;replace ak:Zf 3 9 d0 eq db #[.int .i64 ch.length]:=ak;refine go ?_;refine lW ak.at1 ?_;replace h1:=((h1.gr bd).gr ba).kp bb;replace h1:=h1.froz 8;replace ae:=((ae.gr bd).gr ba).kp bb;replace ae:=ae.froz 8;replace ac:=(ac.gr ba).kp bb;replace ac:=ac.froz 8;replace af:=((af.gr bd).gr ba).kp bb;replace af:=af.froz 8;replace ag:=((ag.gr bd).gr ba).kp bb;replace ag:=ag.froz 8;replace ai:=((ai.gr bd).gr ba).kp bb;replace ai:=ai.froz 8 (by decide);replace aj:=((aj.gr bd).gr ba).kp bb;replace aj:=aj.froz 8 (by decide);replace bw:=((bw.gr bd).gr ba).kp bb;replace bw:=bw.froz 8 (by decide);replace bx:=((bx.gr bd).gr ba).kp bb;replace bx:=bx.froz 8 (by decide);replace cv:=(cv.gr ba).kp bb;replace cv:=(cv).toSlF (Zd.int .i64);replace ad:=(ad.gr ba).kp bb;replace ad:=ad.froz 8 (by decide);replace ah:=((ah.gr bd).gr ba).kp bb;replace ah:=ah.froz 8 (by decide);replace al:=((al.gr bd).gr ba).kp bb;replace al:=al.froz 8 (by decide);replace ak:=ak.froz 8 (by decide);replace hmk:=((hmk.gr bd).gr ba).kp bb;replace hmk:=hmk.froz 8 (by decide);replace ab:=((ab.grow bd).grow ba).kp bb er;replace ab:=ab.froz 8 (by decide) (by decide);obtain ⟨es,et,hm⟩:=bZ hm;refine Zk (Z1u et cv) ?_;rintro _ gv ⟨eu,gw,rfl,bc,ew⟩
    refine ⟨_,rfl,go ?_⟩;replace h1:=h1.gr bc;replace ae:=ae.gr bc;replace ac:=ac.gr bc;replace af:=af.gr bc;replace ag:=ag.gr bc;replace ai:=ai.gr bc;replace aj:=aj.gr bc;replace bw:=bw.gr bc;replace bx:=bx.gr bc;replace ad:=ad.gr bc;replace ah:=ah.gr bc;replace al:=al.gr bc;replace ak:=ak.gr bc;replace hmk:=hmk.gr bc;replace ab:=ab.grow bc;refine Znj (psl:=[61]) (arr:=(fun (y:List Int) (col:Ze) (w:World) (args:List Value)=>∃ (a0:Option Addr) (d1:Nat),args=[.slice a0 y.length d1]∧Sl (Za.int .i64) col w a0 d1 y)) (ys:=es) (col:=eu) 498 rfl ew rfl hmk rfl rfl (by rintro _ _ _ _ ⟨_,_,rfl,_⟩;rfl) (fun ys_ ap ar=>∃ (b9:Bool) (ca:Option Addr) (cb:Nat) (bz:List Int) (cc:Option Addr) (cd:Nat) (b0:List Int),Zfn N co (Zdf N aa a3 b8) ch ys_ b9 bz b0=some r∧St w0 (Zj col) ap ar∧Sl (Za.slice (Za.int .i64)) ap ar a1 cf a3∧Zf 3 9 ap ar db #[.int .i64 ch.length]∧Sl Za.str ap ar bo bj aa.2.1∧Sl (Za.slice Za.str) ap ar bp bk aa.2.2.1∧Sl (Za.slice (Za.int .i64)) ap ar bq bm aa.2.2.2.1∧Sl (Za.slice (Za.pair (Za.pair Za.bool (Za.slice (Za.int .u32))) (Za.slice (Za.int .u32)))) ap ar br bn aa.2.2.2.2∧Zf 27 1 ap ar c6 #[.string aa.1,.slice bo aa.2.1.length bj,.slice bp aa.2.2.1.length bk,.slice bq aa.2.2.2.1.length bm,.slice br aa.2.2.2.2.length bn]∧Zb (Za.int .u32) 95 3 ap ar b1 b2 bu∧Zb (Za.int .u32) 95 4 ap ar b3 b4 bv∧Zf 39 2 ap ar c7 #[.bool cj,.slice b1 bu.length b2,.slice b3 bv.length b4]∧Zb (Za.int .u32) 95 5 ap ar ca cb bz∧Zb (Za.int .u32) 95 6 ap ar cc cd b0∧Zf 39 7 ap ar dn #[.bool b9,.slice ca bz.length cb,.slice cc b0.length cd]) (fun _ _ _=>False) ?_ ?_ ⟨c8,cp,cq,cr,cs,ct,cu,hm,ab,h1,ak,ae,ac,af,ag,ad,ai,aj,ah,bw,bx,al⟩ ?_ ?_ ?_
    ·intro ys_ ap ar col2_ w2_ hJ hk;obtain ⟨b9,ca,cb,bz,cc,cd,b0,hm,ab,h1,ak,ae,ac,af,ag,ad,ai,aj,ah,a6,a7,al⟩:=hJ;exact ⟨b9,ca,cb,bz,cc,cd,b0,hm,ab.kpp hk rfl rfl,h1.kpp hk rfl,ak.kpp hk rfl,ae.kpp hk rfl,ac.kpp hk rfl,af.kpp hk rfl,ag.kpp hk rfl,ad.kpp hk rfl,ai.kpp hk rfl rfl,aj.kpp hk rfl rfl,ah.kpp hk rfl,a6.kpp hk rfl rfl,a7.kpp hk rfl rfl,al.kpp hk rfl⟩
    ·intro _ _ _ _ _ h _;exact h
    ·intro ey gx ez cw e0 ap ar args hJ hrec hmk harr;obtain ⟨b9,ca,cb,bz,cc,cd,b0,hm,ab,h1,ak,ae,ac,af,ag,ad,ai,aj,ah,a6,a7,al⟩:=hJ;rw [Zfn.eq_2] at hm;have hki:=Zq.refl (pC 1) ap ar;obtain ⟨e1,e2,rfl,bi⟩:=harr;refine go ?_;refine ⟨_,hrec,?_⟩;intro gy e3 a2 d2 hrec2;have hrec:=hrec2;refine go ?_;replace ak:=ak.kp a2;refine lW ak.at1<|go ?_;obtain ⟨gz,e4,hm⟩:=bZ hm;refine Zk (Zny (col:=ap) 10 e4) ?_;rintro _ g0 ⟨g1,g2,g3,rfl,ay,e5⟩;refine ⟨_,rfl,go ?_⟩;replace h1:=(h1.kp a2).gr ay;replace ae:=(ae.kp a2).gr ay;replace ac:=(ac.kp a2).gr ay;replace af:=(af.kp a2).gr ay;replace ag:=(ag.kp a2).gr ay;replace ai:=(ai.kp a2).gr ay;replace aj:=(aj.kp a2).gr ay;replace a6:=(a6.kp a2).gr ay;replace a7:=(a7.kp a2).gr ay;replace bi:=(bi.kp a2).gr ay;replace ad:=(ad.kp a2).gr ay;replace ah:=(ah.kp a2).gr ay;replace al:=(al.kp a2).gr ay;replace hmk:=(hmk.kp a2).gr ay;replace hki:=(hki.kp a2 d2 rfl).gr ay;replace ab:=(ab.kp a2 d2).grow ay;replace ak:=ak.gr ay;replace hrec:=hrec.gr ay
     refine Zu [1,13,2,4,41,42,65,66,9,1000000] (fun n f aq=>∃ am dr dc dd cx cy cz,n=cz.length∧cw.drop cy=cz∧Zh1 N ch b9 bz b0 (Zfn N co (Zdf N aa a3 b8) ch e0) cz dr cx=some r∧St w0 (Zj col) am aq∧Sl (Za.slice (Za.int .i64)) am aq a1 cf a3∧Zf 3 9 am aq db #[.int .i64 ch.length]∧Zb (Za.int .u32) 95 10 am aq dc dd cx∧Sl Za.str am aq bo bj aa.2.1∧Sl (Za.slice Za.str) am aq bp bk aa.2.2.1∧Sl (Za.slice (Za.int .i64)) am aq bq bm aa.2.2.2.1∧Sl (Za.slice (Za.pair (Za.pair Za.bool (Za.slice (Za.int .u32))) (Za.slice (Za.int .u32)))) am aq br bn aa.2.2.2.2∧Zf 27 1 am aq c6 #[.string aa.1,.slice bo aa.2.1.length bj,.slice bp aa.2.2.1.length bk,.slice bq aa.2.2.2.1.length bm,.slice br aa.2.2.2.2.length bn]∧Zb (Za.int .u32) 95 3 am aq b1 b2 bu∧Zb (Za.int .u32) 95 4 am aq b3 b4 bv∧Zf 39 2 am aq c7 #[.bool cj,.slice b1 bu.length b2,.slice b3 bv.length b4]∧Sl (Za.int .i64) am aq e1 e2 cw∧Zb (Za.int .u32) 95 5 am aq ca cb bz∧Zb (Za.int .u32) 95 6 am aq cc cd b0∧Zf 39 7 am aq dn #[.bool b9,.slice ca bz.length cb,.slice cc b0.length cd]∧Wn 498 am aq ey e3∧Yq 499 am aq ez∧Zq (pC 1) ap ar am aq∧[67,15,16].map f=[.int .i64 cy,.int .i64 dr,.slice dc cx.length dd]) cw.length ⟨_,0,_,_,_,0,_,rfl,rfl,hm,ab,h1,ak,e5,ae,ac,af,ag,ad,ai,aj,ah,bi,a6,a7,al,hrec,hmk,hki,rfl⟩ ?_;clear hm;intro n f aq hI;obtain ⟨am,dr,dc,dd,cx,cy,cz,hn,hl,hm,ab,h1,ak,ck,ae,ac,af,ag,ad,ai,aj,ah,bi,a6,a7,al,hrec,hmk,hki,hs⟩:=hI;subst hn;refine .lL [67,15,16] hs ?_
     cases cz with
     | nil=>
      have hk:¬ ((cy:Int)<(cw.length:Int)):=by have:=List.drop_eq_nil_iff.1 hl;omega
      have hkb:=decide_eq_false hk;rw [Zh1.eq_1] at hm;refine go ?_;refine Xs (congrArg Value.bool hkb)<|go ?_;refine lV (.agg #[.bool false,.slice dc cx.length dd]) (Wc (l:=[_,_]) (qs:=[(0,1),(1,1)]) underlying37 zeroValue37 ⟨rfl,sizeOf4,rfl,sizeOf35,trivial⟩ rfl)<|Xp rfl<|lW ak.at1<|go ?_;obtain ⟨e6,e7,hm⟩:=bZ hm;refine Zk (Zny (col:=am) 11 e7) ?_;rintro _ e8 ⟨de,e9,fa,rfl,az,fb⟩;refine ⟨_,rfl,?_⟩;refine lV (.agg #[.bool false,.slice e9 e6.length fa]) (Wc (l:=[_,_]) (qs:=[(0,1),(1,1)]) underlying37 zeroValue37 ⟨rfl,sizeOf4,rfl,sizeOf35,trivial⟩ rfl) ?_;obtain ⟨ce,fc,hm⟩:=bZ hm;replace ck:=ck.gr az;refine Zk (Zrx 12 13 fc ((ck.toSlF (Zd.int .u32)).froz 11) ((fb.froz 10 (by decide)).toSlF (Zd.int .u32))) ?_;rintro _ g4 ⟨fd,d3,d4,d5,d6,rfl,an,c0,c3⟩;refine ⟨_,rfl,?_⟩;replace c0:=c0.thaw (Z1 .u32) an (((Fz.refl (col:=de)).froz 10).froz 11) (by decide);replace c3:=c3.thaw (Z1 .u32) an (((Fz.refl (col:=de)).froz 10).froz 11) (by decide);replace an:=an.thawR (col:=de);generalize Xe e8.heap.size de fd=fe at *;refine lM (.tuple #[(.agg #[.bool ce.1.1.1,.slice d3 ce.1.1.2.length d4,.slice d5 ce.1.2.length d6]),.int .i64 ce.2])<|lV (.agg #[.bool ce.1.1.1,.slice d3 ce.1.1.2.length d4,.slice d5 ce.1.2.length d6]) (Xk rfl rfl)<|lV (.int .i64 ce.2) (Xk rfl rfl)<|Xg (col:=fe) #[.bool false,.slice none (([]:List Int).length) 0,.slice none (([]:List Int).length) 0] 14 zeroValue39 ?_;intro g5 g6 df au ff;refine Zz ff ?_;intro fg av d7 fh;refine go ?_;replace al:=(((al.gr az).gr an).gr au).kp av;refine lV _ (Z2 isAgg39 sizeOf39 al)<|lV _ (Z2 isAgg39 sizeOf39 fh) ?_;obtain ⟨ds,fi,hm⟩:=bZ hm;replace a6:=(((a6.gr az).gr an).gr au).kp av;replace a7:=(((a7.gr az).gr an).gr au).kp av;replace c0:=(c0.gr au).kp av;replace c3:=(c3.gr au).kp av
      refine Zk (Zkj 15 16 fi ((((a6.toSlF (Zd.int .u32)).froz 6).froz 12).froz 13) ((((a7.froz 5 (by decide)).toSlF (Zd.int .u32)).froz 12).froz 13) ((((c0.froz 5 (by decide)).froz 6 (by decide)).toSlF (Zd.int .u32)).froz 13) ((((c3.froz 5 (by decide)).froz 6 (by decide)).froz 12 (by decide)).toSlF (Zd.int .u32))) ?_;rintro _ g7 ⟨fj,fk,fl,fm,fn,rfl,aw,b5,b6⟩;refine ⟨_,rfl,?_⟩;replace b5:=b5.thaw (Z1 .u32) aw (((((Fz.refl (col:=df)).froz 5).froz 6).froz 12).froz 13) (by decide);replace b6:=b6.thaw (Z1 .u32) aw (((((Fz.refl (col:=df)).froz 5).froz 6).froz 12).froz 13) (by decide);replace aw:=aw.thawR (col:=df);generalize Xe fg.heap.size df fj=g8 at *;replace al:=al.gr aw;refine Zz al ?_;intro g9 a8 d8 c4;refine Zl ?_;replace h1:=(((((h1.gr az).gr an).gr au).kp av).gr aw).kp a8;replace h1:=h1.recol 15 5 (by decide);replace ae:=(((((ae.gr az).gr an).gr au).kp av).gr aw).kp a8;replace ae:=ae.recol 15 5 (by decide);replace ac:=(((((ac.gr az).gr an).gr au).kp av).gr aw).kp a8;replace ac:=ac.recol 15 5 (by decide);replace af:=(((((af.gr az).gr an).gr au).kp av).gr aw).kp a8;replace af:=af.recol 15 5 (by decide);replace ag:=(((((ag.gr az).gr an).gr au).kp av).gr aw).kp a8;replace ag:=ag.recol 15 5 (by decide);replace ai:=(((((ai.gr az).gr an).gr au).kp av).gr aw).kp a8;replace ai:=ai.recol 15 5 (by decide);replace aj:=(((((aj.gr az).gr an).gr au).kp av).gr aw).kp a8;replace aj:=aj.recol 15 5 (by decide);replace b5:=b5.kp a8;replace b5:=b5.recolSelf 5 (by decide);replace b6:=b6.kp a8;replace b6:=b6.recol 15 5 (by decide);replace ak:=(((((ak.gr az).gr an).gr au).kp av).gr aw).kp a8;replace ak:=ak.recol 15 5 (by decide);replace ad:=(((((ad.gr az).gr an).gr au).kp av).gr aw).kp a8;replace ad:=ad.recol 15 5 (by decide);replace ah:=(((((ah.gr az).gr an).gr au).kp av).gr aw).kp a8;replace ah:=ah.recol 15 5 (by decide);replace c4:=c4.recol 15 5 (by decide);replace hrec:=(((((hrec.gr az).gr an).gr au).kp av).gr aw).kp a8;replace hrec:=hrec.recol 15 5 (by decide);replace hmk:=(((((hmk.gr az).gr an).gr au).kp av).gr aw).kp a8;replace hmk:=hmk.recol 15 5 (by decide)
      replace hki:=(((((hki.gr az).gr an).gr au).kp av d7 rfl).gr aw).kp a8 d8 rfl;replace hki:=hki.recol 15 5 rfl;replace ab:=(((((ab.grow az).grow an).grow au).kp av d7).grow aw).kp a8 d8;replace ab:=ab.recol 15 5 (by decide) (by decide);replace h1:=h1.recol 16 6 (by decide);replace ae:=ae.recol 16 6 (by decide);replace ac:=ac.recol 16 6 (by decide);replace af:=af.recol 16 6 (by decide);replace ag:=ag.recol 16 6 (by decide);replace ai:=ai.recol 16 6 (by decide);replace aj:=aj.recol 16 6 (by decide);replace b5:=b5.recol 16 6 (by decide);replace b6:=b6.recolSelf 6 (by decide);replace ak:=ak.recol 16 6 (by decide);replace ad:=ad.recol 16 6 (by decide);replace ah:=ah.recol 16 6 (by decide);replace c4:=c4.recol 16 6 (by decide);replace hrec:=hrec.recol 16 6 (by decide);replace hmk:=hmk.recol 16 6 (by decide);replace hki:=hki.recol 16 6 rfl;replace ab:=ab.recol 16 6 (by decide) (by decide);exact ⟨_,hki,⟨ds.1.1,fk,fl,ds.1.2,fm,fn,ds.2,hm,ab,h1,ak,ae,ac,af,ag,ad,ai,aj,ah,b5,b6,c4⟩,hrec,hmk⟩
     | cons ha fp=>
      obtain ⟨ci,fq,fr⟩:=X3 hl;have hk:(cy:Int)<(cw.length:Int):=by omega
      have hkb:=decide_eq_true hk;rw [Zh1.eq_2] at hm;refine go ?_;refine Xt (congrArg Value.bool hkb)<|go ?_;refine lI ci (bi.addr ci)<|lW (bi.atInt ci) ?_;refine go ?_;obtain ⟨hc,ft,hm⟩:=bZ hm;refine Zk (Zny (col:=am) 17 ft) ?_;rintro _ fu ⟨dt,hd,he,rfl,ax,fv⟩;refine ⟨_,rfl,?_⟩;obtain ⟨hf,fw,hm⟩:=bZ hm;replace ck:=ck.gr ax;refine Zk (Zbf 18 fw ((ck.toSlF (Zd.int .u32)).froz 17) ((fv.froz 10 (by decide)).toSlF (Zd.int .u32))) ?_;rintro _ hg ⟨fx,hh,hi,rfl,ao,c5⟩;refine ⟨_,rfl,?_⟩;replace c5:=c5.thaw (Z1 .u32) ao (((Fz.refl (col:=dt)).froz 10).froz 17) (by decide);replace ao:=ao.thawR (col:=dt);generalize Xe fu.heap.size dt fx=hj at *;refine go ?_;replace h1:=(h1.gr ax).gr ao;replace h1:=h1.recol 18 10 (by decide);replace ae:=(ae.gr ax).gr ao;replace ae:=ae.recol 18 10 (by decide);replace ac:=(ac.gr ax).gr ao;replace ac:=ac.recol 18 10 (by decide);replace af:=(af.gr ax).gr ao;replace af:=af.recol 18 10 (by decide);replace ag:=(ag.gr ax).gr ao;replace ag:=ag.recol 18 10 (by decide);replace ai:=(ai.gr ax).gr ao;replace ai:=ai.recol 18 10 (by decide);replace aj:=(aj.gr ax).gr ao;replace aj:=aj.recol 18 10 (by decide);replace bi:=(bi.gr ax).gr ao;replace bi:=bi.recol 18 10 (by decide);replace a6:=(a6.gr ax).gr ao;replace a6:=a6.recol 18 10 (by decide);replace a7:=(a7.gr ax).gr ao;replace a7:=a7.recol 18 10 (by decide);replace c5:=c5.recolSelf 10 (by decide);replace ak:=(ak.gr ax).gr ao;replace ak:=ak.recol 18 10 (by decide);replace ad:=(ad.gr ax).gr ao;replace ad:=ad.recol 18 10 (by decide);replace ah:=(ah.gr ax).gr ao;replace ah:=ah.recol 18 10 (by decide);replace al:=(al.gr ax).gr ao;replace al:=al.recol 18 10 (by decide);replace hrec:=(hrec.gr ax).gr ao;replace hrec:=hrec.recol 18 10 (by decide);replace hmk:=(hmk.gr ax).gr ao;replace hmk:=hmk.recol 18 10 (by decide);replace hki:=(hki.gr ax).gr ao;replace hki:=hki.recol 18 10 rfl;replace ab:=(ab.grow ax).grow ao;replace ab:=ab.recol 18 10 (by decide) (by decide);exact ⟨fp.length,by simp,rfl,⟨_,_,_,_,_,_,_,rfl,fq,hm,ab,h1,ak,c5,ae,ac,af,ag,ad,ai,aj,ah,bi,a6,a7,al,hrec,hmk,hki,(X5 (congrArg (Value.int .i64) (X2 (Nat.lt_of_lt_of_le fr bi.1.1))) rfl)⟩⟩
    ·intro ho ap ar hJ hmk;obtain ⟨b9,ca,cb,bz,cc,cd,b0,hm,ab,h1,ak,ae,ac,af,ag,ad,ai,aj,ah,a6,a7,al⟩:=hJ;rw [Zfn.eq_1] at hm;refine go ?_;exact ⟨b8,by omega,rfl,⟨_,_,_,_,_,_,_,_,_,_,_,rfl,hm,ab,h1,ae,ac,af,ag,ad,ai,aj,ah,a6,a7,al,hmk,rfl⟩⟩
    intro _ _ _ _ h;exact h.elim
   refine lV _ (Z2 isAgg39 sizeOf39 al)<|Zz ah ?_;intro hp dg fy du;refine go ?_;cases hm;replace hmk:=hmk.kp dg;refine ⟨_,c9,rfl,hmk,?_⟩;intro hq dh fz;replace bw:=(bw.kp dg).kp dh;replace bx:=(bx.kp dg).kp dh;replace ab:=(ab.kp dg fy).kp dh fz;replace du:=du.kp dh;exact ⟨_,Zm4 rfl rfl isAgg39 sizeOf39 rfl rfl du.atN rfl rfl,Vf w0.heap.size col a5 (fun n=>bif Nat.beq n 5 then c1 else bif Nat.beq n 6 then c2 else 0),cp,cq,cs,ct,rfl,ab.fin (fun n=>bif Nat.beq n 5 then c1 else bif Nat.beq n 6 then c2 else 0),ab.finOwn (g:=(fun n=>bif Nat.beq n 5 then c1 else bif Nat.beq n 6 then c2 else 0)) rfl bw (by decide) (by decide) rfl,ab.finOwn (g:=(fun n=>bif Nat.beq n 5 then c1 else bif Nat.beq n 6 then c2 else 0)) rfl bx (by decide) (by decide) rfl⟩
 | cons hr f0=>
  obtain ⟨ci,f1,f2⟩:=X3 hl;have hk:(cl:Int)<(a3.length:Int):=by omega
  have hkb:=decide_eq_true hk;rw [Zh0.eq_2] at hm;refine go ?_;refine Xt (congrArg Value.bool hkb)<|go ?_;refine lI ci (h1.addr ci) ?_;obtain ⟨_,f3,f4⟩:=h1.atN ci;obtain ⟨⟨ht,hv,rfl,f5⟩,_⟩:=f3;refine lW f4.one<|go ?_;obtain ⟨hw,f6,hm⟩:=bZ hm;refine Zk (Z1x f6 f5) ?_;rintro _ f7 ⟨rfl,bh⟩;refine ⟨_,rfl,?_⟩;replace bh:Zh a4 be a4 f7:=.of_below bh;refine Zl ?_;replace h1:=h1.gr bh;replace ae:=ae.gr bh;replace ac:=ac.gr bh;replace af:=af.gr bh;replace ag:=ag.gr bh;replace ai:=ai.gr bh;replace aj:=aj.gr bh;replace ad:=ad.gr bh;replace ah:=ah.gr bh;replace hmk:=hmk.gr bh;replace ab:=ab.grow bh;refine Zo hm (fun hb hm=>go ?_) fun hb hm=>go ?_
  ·refine lV (.agg #[.bool false,.slice none (([]:List Int).length) 0,.slice none (([]:List Int).length) 0]) (Wc (l:=[_,_]) (qs:=[(0,2),(2,1)]) underlying39 zeroValue39 ⟨rfl,sizeOf37,rfl,sizeOf35,trivial⟩ rfl)<|Zz ah ?_;intro hx d9 f8 dv;refine go ?_;cases hm;replace hmk:=hmk.kp d9;refine ⟨_,[],rfl,hmk,?_⟩;intro hy ea f9;replace ab:=(ab.kp d9 f8).kp ea f9;replace dv:=dv.kp ea;exact ⟨_,Zm4 rfl rfl isAgg39 sizeOf39 rfl rfl dv.atN rfl rfl,Vf w0.heap.size col a4 (fun n=>0),none,0,none,0,rfl,ab.fin (fun n=>0),Zb.nil,Zb.nil⟩
  exact ⟨f0.length,by simp,rfl,⟨_,_,_,_,_,_,_,_,_,_,rfl,f1,hm,ab,h1,ae,ac,af,ag,ad,ai,aj,ah,hmk,(X5 (congrArg (Value.int .i64) (X2 (Nat.lt_of_lt_of_le f2 h1.1.1))) rfl)⟩⟩
def Zs9:List Int→Nat
 | []=>1
 | x :: l=>Zku x.toNat * Zs9 l
def X7:List Int→Nat
 | []=>0
 | x :: l=>x.toNat+X7 l
def Vb (n:Zr) (v:Nat):Nat:=Yg n.2.2.1 (n.2.2.2.1.getD v []) 1
theorem Zg3 {c:Nat}:∀ l:List Int,(∀ x ∈ l,x≤(c:Int))→X7 l≤c * l.length
 | [],_=>by simp [X7]
 | x :: l,h=>by
  have hx:=h x List.mem_cons_self
  have h3:=Zg3 l fun y hy=>h y (List.mem_cons_of_mem _ hy)
  rw [X7,nC,Nat.mul_add,Nat.mul_one];omega
section
variable {N:Nat} {n:Zr} (hf:Yo N n) (hr:Xh N 4294967296) {r:List R5} (hR:∀ row ∈ r,Yp n row) (hl:r.length≤12)
include hf hR hl
omit hf hR in
theorem Zhp {v:Nat}:∀ x ∈ Yd n v r,0≤x∧x≤12:=fun x hx=>by
 obtain ⟨i,_,rfl⟩:=List.mem_map.1 hx
 have:=List.countP_le_length (p:=fun q=>decide (W9 n v q=i)) (l:=r)
 omega
include hr
variable (hC:W8 N n=some 0) (hw:Zac n r=true) (hps:∀ v,(n.2.2.2.1.getD v []).length≤1048576)
include hC hw hps
end
def gC (k:Nat):List R5→Nat
 | []=>1
 | q :: l=>Zku (k - 1) * Zs9 q * gC k l
def hC (k:Nat):List R5→Nat
 | []=>1
 | q :: l=>Zku (X7 q+k - 1) * hC k l
def Zp3 (n:Zr) (r:List R5) (row:List Int) (v:Nat):Nat:=(r.countP fun q=>decide (W9 n v q=W9 n v row))+1
section
variable {N:Nat} {n:Zr} (hf:Yo N n) {row:List Int} (hw:Yp n row)
include hf hw
theorem Z2g {v:Nat} (hv:v<n.2.1.length) (r:List R5):(row.getD v 0).toNat<cnt n v∧(Yd n v r)[Wx n row v * cnt n v+(row.getD v 0).toNat]?=some ((Zp3 n r row v - 1:Nat):Int)∧
  Yd n v (r++[row])=(Yd n v r).set (Wx n row v * cnt n v+(row.getD v 0).toNat) (((Zp3 n r row v - 1:Nat):Int)+1):=by
 have h1:=Zqa hf hv hw
 have h2:=hw.ok v (by rw [hw.len];exact hv)
 refine ⟨by omega,?_,?_⟩
 ·rw [List.getElem?_eq_getElem (by rw [Yd,List.length_map,List.length_range];exact h1)]
  simp only [Yd,List.getElem_map,List.getElem_range,Zp3,Nat.add_sub_cancel];rfl
 ·exact (Zsp n v r row h1).symm
end
theorem Z2u:Wd prog 22 1 24:=⟨Tryz.t22,_,rfl,rfl,rfl,rfl,rfl⟩
theorem Z2w:Wd prog 33 1 24:=⟨Tryz.t33,_,rfl,rfl,rfl,rfl,rfl⟩
theorem Z2y:Wd prog 39 3 56:=⟨Tryz.t39,_,rfl,rfl,rfl,rfl,rfl⟩
theorem Z2s:Wd prog 114 1 24:=⟨Tryz.t114,_,rfl,rfl,rfl,rfl,rfl⟩
def Zb3 (N:Nat) (ae:Int) (af:ByteArray) (ag:List ByteArray) (ah:List R6) (ai:List R5) (ac:List R7) (kk_L1:(Int→ByteArray→R6→Re→R9→Rb→Option R0)) (aj:List ByteArray) (ak:List Int):List R4→R7→Option R0
  | [],ab=>Zt ((ac.length+[ab].length) * 24≤140737488355328∧ac.length+[ab].length≤maxLen) (kk_L1 (i64.wrap (ae+1)) af ag (ah++[aj]) (ai++[ak]) (ac++[ab]))
  | ad :: al,ab=>(S4 N ((ad.1.1,ad.1.2),ad.2) ((false,([]:List Int)),([]:List Int))).bind fun aa=>Zt ((ab.length+[((aa.1.1,aa.1.2),aa.2)].length) * 56≤140737488355328∧ab.length+[((aa.1.1,aa.1.2),aa.2)].length≤maxLen) ((Zb3 N ae af ag ah ai ac kk_L1 aj ak al) (ab++[((aa.1.1,aa.1.2),aa.2)]))
termination_by structural x=>x
def Zau (N:Nat) (aa:R0):Nat→Int→ByteArray→R6→Re→R9→Rb→Option R0
  | 0,_,_,_,_,_,_=>none
  | ak+1,ab,ah,ai,ac,ad,aj=>if (decide (ab<(aa.2.1.length:Int)))=true then ((Zm aa.2.2.1 ab).bind fun al=>(Zed al).bind fun ae=>Zt ((ac.length+[ae].length) * 24≤140737488355328∧ac.length+[ae].length≤maxLen) ((Zm aa.2.2.2.1 ab).bind fun am=>(Qc am).bind fun af=>Zt ((ad.length+[af].length) * 24≤140737488355328∧ad.length+[af].length≤maxLen) ((Zm aa.2.2.2.2 ab).bind fun ag=>Zt (ag.length * 56≤281474976710656∧ag.length≤maxLen) (Zb3 N ab ah ai ac ad aj (Zau N aa ak) ae af ag ([]:List R4))))) else (some (ah,ai,ac,ad,aj))
termination_by structural x=>x
def Zdg (N:Nat) (aa:R0):Option R0:=
  (Zed aa.2.1).bind fun ab=>Zau N aa N 0 aa.1 ab ([]:List R6) ([]:List R5) ([]:List R7)
theorem Zry {N bw cg ch ci:Nat} {bx cj ck cl:Option Addr} {col:Ze} {w0:World} {af r:R0} (c1 c2 c3 c4:Nat) (hm:Zdg N af=some r) (c0:Sl Za.str col w0 bx bw af.2.1) (cn:Sl (Za.slice Za.str) col w0 cj cg af.2.2.1) (co:Sl (Za.slice (Za.int .i64)) col w0 ck ch af.2.2.2.1) (bz:Sl (Za.slice (Za.pair (Za.pair Za.bool (Za.slice (Za.int .u32))) (Za.slice (Za.int .u32)))) col w0 cl ci af.2.2.2.2):
    Calls prog 101 #[(.agg #[.string af.1,.slice bx af.2.1.length bw,.slice cj af.2.2.1.length cg,.slice ck af.2.2.2.1.length ch,.slice cl af.2.2.2.2.length ci])] w0 (fun e w'=>∃ (col':Ze) (ra1:Option Addr) (rc2:Nat) (ra4:Option Addr) (rc5:Nat) (ra7:Option Addr) (rc8:Nat) (ra10:Option Addr) (rc11:Nat),e= .returned ((.agg #[.string r.1,.slice ra1 r.2.1.length rc2,.slice ra4 r.2.2.1.length rc5,.slice ra7 r.2.2.2.1.length rc8,.slice ra10 r.2.2.2.2.length rc11]))∧Zh col w0 col' w'∧Zb Za.str 9 c1 col' w' ra1 rc2 r.2.1∧Zb (Za.row 9 Za.str) 22 c2 col' w' ra4 rc5 r.2.2.1∧Zb (Za.row 3 (Za.int .i64)) 33 c3 col' w' ra7 rc8 r.2.2.2.1∧Zb (Za.row 39 (Za.pair (Za.pair Za.bool (Za.row 95 (Za.int .u32))) (Za.row 95 (Za.int .u32)))) 114 c4 col' w' ra10 rc11 r.2.2.2.2):=by
 refine Y5 (m:=74) func101 rfl rfl rfl ?_;rw [Zdg.eq_1] at hm;have aa:=St.start col w0;refine go ?_;refine Xl (col:=(Zj col)) 1 rfl ?_;intro cp f4 d9 ea ab;refine Xg (col:=d9) #[.string (⟨#[]⟩),.slice none (([]:List ByteArray).length) 0,.slice none (([]:List R6).length) 0,.slice none (([]:List R5).length) 0,(.slice none (([]:List R7).length) 0)] 2 zeroValue27 ?_;intro dt cq b6 du ac;refine go ?_;have c5:=Zq.clip (fun _=>false) b6 cq;refine Zzp (col:=b6) [(0,1),(1,0),(2,1),(3,0),(4,3),(5,1),(6,4),(7,2)] (by kernel_rfl) (by kernel_rfl) ⟨fun h=>absurd h (by decide),fun h=>absurd h (by decide),fun h=>absurd h (by decide),fun h=>absurd h (by decide),fun h=>absurd h (by decide),fun h=>absurd h (by decide),fun _=>⟨_,_,_,rfl,Zkx zeroValue27⟩,fun h=>absurd h (by decide),trivial⟩<|Zj5 (v:=(.pointer ((some (⟨cp,0,none⟩:Addr)).map (·.add 0)))) rfl rfl (fun _=>Tc (sz:=1) (off:=0) underlying27 rfl sizeOf9 (by decide) rfl rfl ⟨_,_,rfl⟩) ?_;replace ab:=(ab.gr du).kpp c5;refine Zg7 (v:=(.string af.1)) rfl rfl (fun _ hC=>So isAgg9 rfl (((ab.atN).nth (q:=0) (v:=(.string af.1)) rfl).gr (hC.bl (Z6 cq b6)))) ?_;refine Zj5 (v:=(.pointer ((some (⟨cp,0,none⟩:Addr)).map (·.add 1)))) rfl rfl (fun _=>Tc (sz:=1) (off:=1) underlying27 rfl sizeOf22 (by decide) rfl rfl ⟨_,_,rfl⟩) ?_;refine Zg7 (v:=(.slice bx af.2.1.length bw)) rfl rfl (fun _ hC=>So isAgg22 rfl (((ab.atN).nth (q:=1) (v:=(.slice bx af.2.1.length bw)) rfl).gr (hC.bl (Z6 cq b6)))) ?_;refine Zct rfl rfl ?_;intro f5 hC0;have hC:=hC0.bl (Z6 cq b6);obtain ⟨eb,ec,hm⟩:=bZ hm;replace c0:=c0.keep (Zi.start col w0);replace aa:=(((aa.grow ea).grow du).kpp c5).grow hC;refine Zk (Zsd 3 ec (c0.ks aa)) ?_;rintro _ ak ⟨ao,ed,ee,rfl,b0,b7⟩;refine ⟨_,rfl,?_⟩;refine Zl ?_;refine ⟨fun w'=>Zh (Z6 ak ao) ak (Z6 ak ao) w',fun g=>(Z6 ak ao) g=497,Zh.refl _ _,Zak,fun _=>⟨fun _ h=>T6 hC0 b0 h,fun b hb=>b0.below.block b hb,fun g x1 x2=>Zey b0 g x1 (by first | exact x2 | (simp only [Ys,x2];rfl) | (simp only [Ys,Xm,x2];rfl))⟩,?_⟩;have cr:=Zq.clip (fun _=>false) ao ak
 refine Zj5 (v:=(.agg #[.string af.1,.slice ed eb.length ee,.slice none (([]:List R6).length) 0,.slice none (([]:List R5).length) 0,(.slice none (([]:List R7).length) 0)])) rfl rfl (fun _=>Wc (l:=[_,_,_,_,_]) (qs:=[(0,1),(1,1),(2,1),(3,1),(4,1)]) underlying27 zeroValue27 ⟨rfl,sizeOf9,rfl,sizeOf22,rfl,sizeOf23,rfl,sizeOf24,rfl,sizeOf25,trivial⟩ rfl) ?_;refine xaF rfl rfl (Zkx zeroValue27) ?_;intro ap ef;refine Zct rfl rfl ?_;intro eg ⟨hC0,hZ0⟩;replace ac:=(((ac.kpp c5).gr hC).gr b0).kpp cr;replace ab:=((ab.gr hC).gr b0).kpp cr;have hC:=hC0.bl (Z6 ak ao);replace cn:=cn.keep (Zi.start col w0);replace co:=co.keep (Zi.start col w0);replace bz:=bz.keep (Zi.start col w0);obtain ⟨ct,c6⟩:=Zrr (col:=(Z6 ak ao)) 4 hZ0 ef;replace c6:Zf 27 4 (W5 ap 4 (Z6 ak ao)) eg ap #[.string (⟨#[]⟩),.slice none (([]:List ByteArray).length) 0,.slice none (([]:List R6).length) 0,.slice none (([]:List R5).length) 0,(.slice none (([]:List R7).length) 0)]:=c6;refine Zz c6 ?_;intro bf cu eh aj;refine Zl ?_;refine ⟨fun w'=>Zh (Z6 bf (W5 ap 4 (Z6 ak ao))) bf (Z6 bf (W5 ap 4 (Z6 ak ao))) w',fun g=>(Z6 bf (W5 ap 4 (Z6 ak ao))) g=497,Zh.refl _ _,Zak,fun h=>absurd h (by decide),?_⟩;have b8:=Zq.clip (fun _=>false) (W5 ap 4 (Z6 ak ao)) bf;refine Zzt ?_;replace aa:=(((((aa.grow b0).kpp cr).grow hC).kpp ct).kp cu eh).kpp b8;replace b7:=((((b7.kpp cr).gr hC).kpp ct).kp cu).kpp b8;replace ab:=(((ab.gr hC).kpp ct).kp cu).kpp b8;replace ac:=(((ac.gr hC).kpp ct).kp cu).kpp b8;intro ei hC;replace hC:Zh (Z6 bf (W5 ap 4 (Z6 ak ao))) bf (Z6 bf (W5 ap 4 (Z6 ak ao))) ei:=.of_below hC.below;refine go ?_;refine Ya ⟨_,_,rfl⟩ ?_;replace ab:=ab.gr hC;refine lW ((ab.atN).nth (q:=1) rfl)<|go ?_;replace aj:=(aj.kpp b8).gr hC;replace b7:=b7.gr hC;replace ac:=ac.gr hC;replace aa:=aa.grow hC
 refine Zu [1,16,2,3,1000000] (fun n f a7=>∃ al cv bg bh bi a0 c7 c8 aw cw cx ax bn bo ay bp,bp=n∧Zau N af bp cv bg a0 aw ax ay=some r∧St w0 (Zj col) al a7∧Zf 27 1 al a7 cp #[.string af.1,.slice bx af.2.1.length bw,.slice cj af.2.2.1.length cg,.slice ck af.2.2.2.1.length ch,.slice cl af.2.2.2.2.length ci]∧Zf 27 2 al a7 dt #[.string (⟨#[]⟩),.slice none (([]:List ByteArray).length) 0,.slice none (([]:List R6).length) 0,.slice none (([]:List R5).length) 0,(.slice none (([]:List R7).length) 0)]∧Zb Za.str 9 3 al a7 bh bi a0∧Zb (Za.row 9 Za.str) 22 5 al a7 c7 c8 aw∧Zb (Za.row 3 (Za.int .i64)) 33 6 al a7 cw cx ax∧Zb (Za.row 39 (Za.pair (Za.pair Za.bool (Za.row 95 (Za.int .u32))) (Za.row 95 (Za.int .u32)))) 114 7 al a7 bn bo ay∧Zf 27 4 al a7 ap #[.string bg,.slice bh a0.length bi,.slice c7 aw.length c8,.slice cw ax.length cx,.slice bn ay.length bo]∧[17].map f=[.int .i64 cv]) N ⟨_,0,_,_,_,_,none,0,_,none,0,_,none,0,_,_,rfl,hm,aa,ab,ac,b7,Zb.nil,Zb.nil,Zb.nil,aj,rfl⟩ ?_;clear hm;intro n f a7 hI;obtain ⟨al,cv,bg,bh,bi,a0,c7,c8,aw,cw,cx,ax,bn,bo,ay,bp,hn,hm,aa,ab,ac,ad,a1,ah,ae,aj,hs⟩:=hI;subst hn;refine .lL [17] hs ?_
 cases bp with
 | zero=>rw [Zau.eq_1] at hm;cases hm
 | succ bp=>
  rw [Zau.eq_2] at hm;refine go ?_;refine Zo hm (fun hb hm=>go ?_) fun hb hm=>go ?_
  ·refine Wh (col:=al) [(0,1),(1,0),(2,1),(3,0),(4,1),(5,1),(6,0),(7,3),(8,3),(9,2),(10,1),(11,2)] (by kernel_rfl) (by kernel_rfl)<|xF ⟨_,_,rfl⟩ ?_;refine xW (fun _ hC=>((aj.atN).nth (q:=2) rfl).gr (hC.bl al)) ?_;refine xF ⟨_,_,rfl⟩ ?_;refine xW (fun _ hC=>((ab.atN).nth (q:=2) rfl).gr (hC.bl al)) ?_;refine xu rfl rfl (fun _=>Yh rfl) ?_;obtain ⟨f6,cy,hm⟩:=bZ hm;refine xu rfl rfl (fun _=>Ym underlying23 sizeOf22 rfl rfl (Z4 cy).1 (Z4 cy).2.1 ((cn.ks aa).addr cy)) ?_;obtain ⟨_,ej,ek⟩:=(cn.ks aa).atN cy;obtain ⟨⟨f7,f8,rfl,c9⟩,_⟩:=ej;refine xW (fun _ hC=>ek.one.gr (hC.bl al)) ?_;refine xe rfl rfl ?_;intro f9 hC0;have hC:=hC0.bl al;obtain ⟨a2,el,hm⟩:=bZ hm;replace c9:=c9.gr hC;refine Zk (Zsd 8 el c9) ?_;rintro _ ga ⟨da,dv,dw,rfl,a8,db⟩;refine ⟨_,rfl,?_⟩;refine Zl<|Xo da hC0 a8<|xe rfl rfl ?_;intro gb hC0;replace ad:=(ad.gr hC).gr a8;replace a1:=(a1.gr hC).gr a8;replace ah:=(ah.gr hC).gr a8;replace ae:=(ae.gr hC).gr a8;replace ab:=(ab.gr hC).gr a8;replace ac:=(ac.gr hC).gr a8;replace aj:=(aj.gr hC).gr a8;replace aa:=(aa.grow hC).grow a8;have hC:=hC0.bl da;replace db:=db.gr hC;refine V0 (col:=da) (r:=(Za.row 9 Za.str)) (xs:=[a2]) [.slice dv a2.length dw] 8 (Y1.cons1 (cs:=[.slice dv a2.length dw]) db.has Rows.nil0) ?_;intro gc gd dc a9 dd;refine Zl<|Xo dc hC0 a9<|xe rfl rfl ?_;intro em hC0;replace ad:=(ad.gr hC).gr a9;replace a1:=(a1.gr hC).gr a9;replace ah:=(ah.gr hC).gr a9;replace ae:=(ae.gr hC).gr a9;replace ab:=(ab.gr hC).gr a9;replace ac:=(ac.gr hC).gr a9;replace aj:=(aj.gr hC).gr a9;replace aa:=(aa.grow hC).grow a9;have hC:=hC0.bl dc;obtain ⟨dx,hm⟩:=Z3 hm;replace a1:=a1.gr hC;replace dd:=dd.gr hC;refine Sy (col:=dc) (w:=em) (r:=(Za.row 9 Za.str)) (c:=5) (c2:=8) (a1.ex) (dd.srcC (by decide)) rfl underlying23 Z2u rfl rfl rfl dx.1 dx.2 (by decide) ?_;intro b1 b2 ge a3 bq de;refine Zl<|xk a3<|xF ⟨_,_,rfl⟩ ?_;refine xe rfl rfl ?_;intro gf hC0;replace ad:=(ad.gr hC).kpp bq;replace ah:=(ah.gr hC).kpp bq;replace ae:=(ae.gr hC).kpp bq;replace ab:=(ab.gr hC).kpp bq;replace ac:=(ac.gr hC).kpp bq;replace aj:=(aj.gr hC).kpp bq;replace aa:=(aa.grow hC).kpp bq;have hC:=hC0.bl a3;replace aj:=aj.gr hC
   refine Qr (off:=2) (v:=(.slice b1 ((aw++[a2]).length) b2)) aj sizeOf23 rfl rfl (by intro u hu;simp only [Value.cells,List.mem_cons,List.not_mem_nil,or_false] at hu;subst hu;rfl) rfl rfl ?_;intro en br eo am;replace am:Zf 27 4 a3 en ap #[.string bg,.slice bh a0.length bi,.slice b1 ((aw++[a2]).length) b2,.slice cw ax.length cx,.slice bn ay.length bo]:=am;refine Zl<|xk a3 ?_;replace de:=(de.gr hC).kp br;have ag:=de.new;refine Y2 ?_;replace ad:=(ad.gr hC).kp br;replace ah:=(ah.gr hC).kp br;replace ae:=(ae.gr hC).kp br;replace ab:=(ab.gr hC).kp br;replace ac:=(ac.gr hC).kp br;replace aa:=(aa.grow hC).kp br eo;intro gg hC;replace hC:=hC.bl a3;refine Zs<|Wh (col:=a3) [(0,1),(1,0),(2,1),(3,0),(4,1),(5,1),(6,0),(7,3),(8,3),(9,2),(10,1),(11,2)] (by kernel_rfl) (by kernel_rfl)<|xF ⟨_,_,rfl⟩ ?_;replace am:=am.gr hC;refine xW (fun _ hC=>((am.atN).nth (q:=3) rfl).gr (hC.bl a3)) ?_;refine xF ⟨_,_,rfl⟩ ?_;replace ab:=ab.gr hC;refine xW (fun _ hC=>((ab.atN).nth (q:=3) rfl).gr (hC.bl a3)) ?_;refine xu rfl rfl (fun _=>Yh rfl) ?_;obtain ⟨gh,cz,hm⟩:=bZ hm;replace aa:=aa.grow hC;refine xu rfl rfl (fun _=>Ym underlying24 sizeOf33 rfl rfl (Z4 cz).1 (Z4 cz).2.1 ((co.ks aa).addr cz)) ?_;obtain ⟨_,ep,eq⟩:=(co.ks aa).atN cz;obtain ⟨⟨gi,gj,rfl,df⟩,_⟩:=ep;refine xW (fun _ hC=>eq.one.gr (hC.bl a3)) ?_;refine xe rfl rfl ?_;intro gk hC0;replace ad:=ad.gr hC;replace ag:=ag.gr hC;replace ah:=ah.gr hC;replace ae:=ae.gr hC;replace ac:=ac.gr hC;have hC:=hC0.bl a3;obtain ⟨ba,er,hm⟩:=bZ hm;replace df:=df.gr hC;refine Zk (Zhm 9 er df) ?_;rintro _ gl ⟨dg,dy,dz,rfl,bb,dh⟩;refine ⟨_,rfl,?_⟩;refine Zl<|Xo dg hC0 bb<|xe rfl rfl ?_;intro gm hC0;replace ad:=(ad.gr hC).gr bb;replace ag:=(ag.gr hC).gr bb;replace ah:=(ah.gr hC).gr bb;replace ae:=(ae.gr hC).gr bb;replace ab:=(ab.gr hC).gr bb;replace ac:=(ac.gr hC).gr bb;replace am:=(am.gr hC).gr bb;replace aa:=(aa.grow hC).grow bb;have hC:=hC0.bl dg;replace dh:=dh.gr hC;refine V0 (col:=dg) (r:=(Za.row 3 (Za.int .i64))) (xs:=[ba]) [.slice dy ba.length dz] 9 (Y1.cons1 (cs:=[.slice dy ba.length dz]) dh.has Rows.nil0) ?_;intro gp gs di bc dj;refine Zl<|Xo di hC0 bc<|xe rfl rfl ?_;intro es hC0;replace ad:=(ad.gr hC).gr bc;replace ag:=(ag.gr hC).gr bc;replace ah:=(ah.gr hC).gr bc
   replace ae:=(ae.gr hC).gr bc;replace ab:=(ab.gr hC).gr bc;replace ac:=(ac.gr hC).gr bc;replace am:=(am.gr hC).gr bc;replace aa:=(aa.grow hC).grow bc;have hC:=hC0.bl di;obtain ⟨d0,hm⟩:=Z3 hm;replace ah:=ah.gr hC;replace dj:=dj.gr hC;refine Sy (col:=di) (w:=es) (r:=(Za.row 3 (Za.int .i64))) (c:=6) (c2:=9) (ah.ex) (dj.srcC (by decide)) rfl underlying24 Z2w rfl rfl rfl d0.1 d0.2 (by decide) ?_;intro b9 ca gt b3 bs dl;refine Zl<|xk b3<|xF ⟨_,_,rfl⟩ ?_;refine xe rfl rfl ?_;intro gu hC0;replace ad:=(ad.gr hC).kpp bs;replace ag:=(ag.gr hC).kpp bs;replace ae:=(ae.gr hC).kpp bs;replace ab:=(ab.gr hC).kpp bs;replace ac:=(ac.gr hC).kpp bs;replace am:=(am.gr hC).kpp bs;replace aa:=(aa.grow hC).kpp bs;have hC:=hC0.bl b3;replace am:=am.gr hC;refine Qr (off:=3) (v:=(.slice b9 ((ax++[ba]).length) ca)) am sizeOf24 rfl rfl (by intro u hu;simp only [Value.cells,List.mem_cons,List.not_mem_nil,or_false] at hu;subst hu;rfl) rfl rfl ?_;intro et bt eu ai;replace ai:Zf 27 4 b3 et ap #[.string bg,.slice bh a0.length bi,.slice b1 ((aw++[a2]).length) b2,.slice b9 ((ax++[ba]).length) ca,.slice bn ay.length bo]:=ai;refine Zl<|xk b3 ?_;replace dl:=(dl.gr hC).kp bt;have an:=dl.new;refine Y2 ?_;replace ad:=(ad.gr hC).kp bt;replace ag:=(ag.gr hC).kp bt;replace ae:=(ae.gr hC).kp bt;replace ab:=(ab.gr hC).kp bt;replace ac:=(ac.gr hC).kp bt;replace aa:=(aa.grow hC).kp bt eu;intro ew hC;replace hC:=hC.bl b3;refine go ?_;refine Ya ⟨_,_,rfl⟩ ?_;replace ab:=ab.gr hC;refine lW ((ab.atN).nth (q:=4) rfl)<|Xp rfl ?_;obtain ⟨b4,b5,hm⟩:=bZ hm;replace aa:=aa.grow hC;refine lI b5 ((bz.ks aa).addr b5) ?_;obtain ⟨_,ey,ez⟩:=(bz.ks aa).atN b5;obtain ⟨⟨gv,gw,rfl,gx⟩,_⟩:=ey;refine lW ez.one<|go ?_;obtain ⟨d1,hm⟩:=Z3 hm;refine Zuc (col:=b3) (w:=ew) (r:=(Za.pair (Za.pair Za.bool (Za.row 95 (Za.int .u32))) (Za.row 95 (Za.int .u32)))) (n:=b4.length) 10 rfl underlying114 Z2y rfl rfl rfl d1.1 d1.2 ?_;intro gy gz g0 bj e0;refine go ?_;refine Ya ⟨_,_,rfl⟩ ?_;replace ab:=ab.gr bj;refine lW ((ab.atN).nth (q:=4) rfl)<|Xp rfl ?_;replace aa:=aa.grow bj;refine lI b5 ((bz.ks aa).addr b5) ?_;obtain ⟨_,e1,e2⟩:=(bz.ks aa).atN b5;obtain ⟨⟨e3,e4,rfl,ar⟩,_⟩:=e1;refine lW e2.one<|go ?_;replace ad:=(ad.gr hC).gr bj;replace ag:=(ag.gr hC).gr bj
   replace an:=(an.gr hC).gr bj;replace ae:=(ae.gr hC).gr bj;replace ac:=(ac.gr hC).gr bj;replace ai:=(ai.gr hC).gr bj;refine Zu [1,16,17,2,3,53,54,1000000] (fun n f az=>∃ aq cb cc bd cd ce,n=ce.length∧b4.drop cd=ce∧Zb3 N cv bg a0 aw ax ay (Zau N af bp) a2 ba ce bd=some r∧St w0 (Zj col) aq az∧Zf 27 1 aq az cp #[.string af.1,.slice bx af.2.1.length bw,.slice cj af.2.2.1.length cg,.slice ck af.2.2.2.1.length ch,.slice cl af.2.2.2.2.length ci]∧Zf 27 2 aq az dt #[.string (⟨#[]⟩),.slice none (([]:List ByteArray).length) 0,.slice none (([]:List R6).length) 0,.slice none (([]:List R5).length) 0,(.slice none (([]:List R7).length) 0)]∧Zb Za.str 9 3 aq az bh bi a0∧Zb (Za.row 9 Za.str) 22 5 aq az b1 b2 (aw++[a2])∧Zb (Za.row 3 (Za.int .i64)) 33 6 aq az b9 ca (ax++[ba])∧Zb (Za.row 39 (Za.pair (Za.pair Za.bool (Za.row 95 (Za.int .u32))) (Za.row 95 (Za.int .u32)))) 114 7 aq az bn bo ay∧Zf 27 4 aq az ap #[.string bg,.slice bh a0.length bi,.slice b1 ((aw++[a2]).length) b2,.slice b9 ((ax++[ba]).length) ca,.slice bn ay.length bo]∧Zb (Za.pair (Za.pair Za.bool (Za.row 95 (Za.int .u32))) (Za.row 95 (Za.int .u32))) 39 10 aq az cb cc bd∧Sl (Za.pair (Za.pair Za.bool (Za.slice (Za.int .u32))) (Za.slice (Za.int .u32))) aq az e3 e4 b4∧[55,5].map f=[.int .i64 cd,.slice cb bd.length cc]) b4.length ⟨_,_,_,_,0,_,rfl,rfl,hm,aa,ab,ac,ad,ag,an,ae,ai,e0,ar,rfl⟩ ?_;clear hm;intro n f az hI;obtain ⟨aq,cb,cc,bd,cd,ce,hn,hl,hm,aa,ab,ac,ad,ag,an,ae,ai,bk,ar,hs⟩:=hI;subst hn;refine .lL [55,5] hs ?_
   cases ce with
   | nil=>
    have hk:¬ ((cd:Int)<(b4.length:Int)):=by have:=List.drop_eq_nil_iff.1 hl;omega
    have hkb:=decide_eq_false hk;rw [Zb3.eq_1] at hm;refine go ?_;refine Xs (congrArg Value.bool hkb)<|go ?_;refine Xd ai<|Yk rfl<|V0 (col:=aq) (r:=(Za.row 39 (Za.pair (Za.pair Za.bool (Za.row 95 (Za.int .u32))) (Za.row 95 (Za.int .u32))))) (xs:=[bd]) [.slice cb bd.length cc] 10 (Y1.cons1 (cs:=[.slice cb bd.length cc]) bk.has Rows.nil0) ?_;intro g1 e5 e6 bm e7;obtain ⟨d2,hm⟩:=Z3 hm;replace ae:=ae.gr bm;refine Sy (col:=e6) (w:=e5) (r:=(Za.row 39 (Za.pair (Za.pair Za.bool (Za.row 95 (Za.int .u32))) (Za.row 95 (Za.int .u32))))) (c:=7) (c2:=10) (ae.ex) (e7.srcC (by decide)) rfl underlying25 Z2s rfl rfl rfl d2.1 d2.2 (by decide) ?_;intro d3 d4 g2 e8 bu dm;refine Ya ⟨_,_,rfl⟩ ?_;replace ai:=(ai.gr bm).kpp bu;refine Qr (off:=4) (v:=(.slice d3 ((ay++[bd]).length) d4)) ai sizeOf25 rfl rfl (by intro u hu;simp only [Value.cells,List.mem_cons,List.not_mem_nil,or_false] at hu;subst hu;rfl) rfl rfl ?_;intro e9 bv fa dn;replace dn:Zf 27 4 e8 e9 ap #[.string bg,.slice bh a0.length bi,.slice b1 ((aw++[a2]).length) b2,.slice b9 ((ax++[ba]).length) ca,.slice d3 ((ay++[bd]).length) d4]:=dn;replace dm:=dm.kp bv;have fb:=dm.new;refine go ?_;replace ad:=((ad.gr bm).kpp bu).kp bv;replace ag:=((ag.gr bm).kpp bu).kp bv;replace an:=((an.gr bm).kpp bu).kp bv;replace ab:=((ab.gr bm).kpp bu).kp bv;replace ac:=((ac.gr bm).kpp bu).kp bv;replace aa:=((aa.grow bm).kpp bu).kp bv fa;exact ⟨bp,by omega,rfl,⟨_,_,_,_,_,_,_,_,_,_,_,_,_,_,_,_,rfl,hm,aa,ab,ac,ad,ag,an,fb,dn,rfl⟩⟩
   | cons dp fc=>
    obtain ⟨dq,fd,fe⟩:=X3 hl;have hk:(cd:Int)<(b4.length:Int):=by omega
    have hkb:=decide_eq_true hk;rw [Zb3.eq_2] at hm;refine go ?_;refine Xt (congrArg Value.bool hkb)<|go ?_;refine lI dq (ar.addr dq) ?_;obtain ⟨_,ff,fg⟩:=ar.atN dq;obtain ⟨_,_,rfl,fh,fi⟩:=V4 ff;obtain ⟨_,_,rfl,fj,fk⟩:=V4 fh;obtain ⟨rfl,_⟩:=fj;obtain ⟨⟨fl,fm,rfl,dr⟩,_⟩:=fk;obtain ⟨⟨fn,fp,rfl,ds⟩,_⟩:=fi;refine lV (.agg #[.bool dp.1.1,.slice fl dp.1.2.length fm,.slice fn dp.2.length fp]) (Wj isAgg39 sizeOf39 rfl rfl fg)<|Xg (col:=aq) #[.bool false,.slice none (([]:List Int).length) 0,.slice none (([]:List Int).length) 0] 11 zeroValue39 ?_;intro g3 g4 g5 au fq;refine Zz fq ?_;intro g6 av fr ft;refine go ?_;refine lV _ (Z2 isAgg39 sizeOf39 ft)<|lV (.agg #[.bool false,.slice none (([]:List Int).length) 0,.slice none (([]:List Int).length) 0]) (Wc (l:=[_,_]) (qs:=[(0,2),(2,1)]) underlying39 zeroValue39 ⟨rfl,sizeOf37,rfl,sizeOf35,trivial⟩ rfl) ?_;obtain ⟨a4,fu,hm⟩:=bZ hm;replace dr:=(dr.gr au).kp av;replace ds:=(ds.gr au).kp av;refine Zk (Zhi 12 13 fu dr ds Sl.nil Sl.nil) ?_;rintro _ g7 ⟨fv,d5,d6,d7,d8,rfl,a5,fw,fx⟩;refine ⟨_,rfl,?_⟩;have fy:=Xu.join (Xu.joinL (Zab a4.1.1) fw.has) fx.has (by decide) (by decide);replace ad:=((ad.gr au).kp av).gr a5;replace ad:=ad.recol 13 12 (by decide);replace ag:=((ag.gr au).kp av).gr a5;replace ag:=ag.recol 13 12 (by decide);replace an:=((an.gr au).kp av).gr a5;replace an:=an.recol 13 12 (by decide);replace ae:=((ae.gr au).kp av).gr a5;replace ae:=ae.recol 13 12 (by decide);replace ar:=((ar.gr au).kp av).gr a5;replace ar:=ar.recol 13 12 (by decide);replace bk:=((bk.gr au).kp av).gr a5;replace bk:=bk.recol 13 12 (by decide);replace ab:=((ab.gr au).kp av).gr a5;replace ab:=ab.recol 13 12 (by decide);replace ac:=((ac.gr au).kp av).gr a5;replace ac:=ac.recol 13 12 (by decide);replace ai:=((ai.gr au).kp av).gr a5;replace ai:=ai.recol 13 12 (by decide);replace aa:=((aa.grow au).kp av fr).grow a5;replace aa:=aa.recol 13 12 (by decide) (by decide)
    refine V0 (col:=(Xm 13 12 fv)) (r:=(Za.pair (Za.pair Za.bool (Za.row 95 (Za.int .u32))) (Za.row 95 (Za.int .u32)))) (xs:=[((a4.1.1,a4.1.2),a4.2)]) [(.agg #[.bool a4.1.1,.slice d5 a4.1.2.length d6,.slice d7 a4.2.length d8])] 12 (Y1.cons1 (cs:=[.bool a4.1.1,.slice d5 a4.1.2.length d6,.slice d7 a4.2.length d8]) fy Rows.nil0) ?_;intro g8 g9 ha a6 fz;obtain ⟨f0,hm⟩:=Z3 hm;replace bk:=bk.gr a6;refine W7 (c:=10) (c2:=12) bk (fz.srcC (by decide)) f0 ?_;intro hc hd he hf be f1;refine go ?_;replace ad:=(ad.gr a6).kpp be;replace ag:=(ag.gr a6).kpp be;replace an:=(an.gr a6).kpp be;replace ae:=(ae.gr a6).kpp be;replace ar:=(ar.gr a6).kpp be;replace ab:=(ab.gr a6).kpp be;replace ac:=(ac.gr a6).kpp be;replace ai:=(ai.gr a6).kpp be;replace aa:=(aa.grow a6).kpp be;exact ⟨fc.length,by simp,rfl,⟨_,_,_,_,_,_,rfl,fd,hm,aa,ab,ac,ad,ag,an,ae,ai,f1,ar,(X5 (congrArg (Value.int .i64) (X2 (Nat.lt_of_lt_of_le fe ar.1.1))) rfl)⟩⟩
  refine lV _ (Z2 isAgg27 sizeOf27 aj)<|Zz ac ?_;intro hg cf f2 f3;refine go ?_;cases hm;replace ad:=ad.kp cf;replace a1:=a1.kp cf;replace ah:=ah.kp cf;replace ae:=ae.kp cf;replace aa:=aa.kp cf f2;exact ⟨rfl,_,ra f3.atN,_,_,_,_,_,_,_,_,_,rfl,aa.fin (cm [(3,c1),(5,c2),(6,c3),(7,c4)]),aa.fo ad,aa.fo a1,aa.fo ah,aa.fo ae⟩
theorem Z2z:Wd prog 39 3 56:=⟨Tryz.t39,_,rfl,rfl,rfl,rfl,rfl⟩
def Zb2 (N:Nat) (ag:R0) (ad:R4) (ab:Int) (ah:ByteArray) (ai:List ByteArray) (aj:List R6) (ak:List R5) (ae:List R7) (kk_L1:(Int→ByteArray→R6→Re→R9→Rb→Option (R0×Int))):List Int→R7→Option (R0×Int)
  | [],ac=>(Zm ae ab).bind fun al=>(Zm ag.2.2.1 ab).bind fun am=>(Zdi N al ac (am.length:Int)).bind fun an=>kk_L1 (i64.wrap (ab+1)) ah ai aj ak (ae.set (Int.toNat ab) an)
  | ao :: ap,ac=>(Zdj N ao).bind fun af=>(S4 N ((af.1.1,af.1.2),af.2) ((ad.1.1,ad.1.2),ad.2)).bind fun aa=>Zt ((ac.length+[((aa.1.1,aa.1.2),aa.2)].length) * 56≤140737488355328∧ac.length+[((aa.1.1,aa.1.2),aa.2)].length≤maxLen) ((Zb2 N ag ad ab ah ai aj ak ae kk_L1 ap) (ac++[((aa.1.1,aa.1.2),aa.2)]))
termination_by structural x=>x
def Zat (N:Nat) (aa:R0) (ac:R9) (ad:R4):Nat→Int→ByteArray→R6→Re→R9→Rb→Option (R0×Int)
  | 0,_,_,_,_,_,_=>none
  | aj+1,ab,ae,af,ag,ah,ai=>if (decide (ab<(aa.2.1.length:Int)))=true then ((Zc6 N (aa.1,aa.2.1,aa.2.2.1,aa.2.2.2.1,aa.2.2.2.2) ac ab).bind fun ak=>Zb2 N aa ad ab ae af ag ah ai (Zat N aa ac ad aj) ak.1 ([]:List R4)) else (some ((ae,af,ag,ah,ai),0))
termination_by structural x=>x
def Zas (N:Nat) (aa:R0) (ad:R9) (ac:R4):Option (R0×Int):=
  (Zdk N (aa.1,aa.2.1,aa.2.2.1,aa.2.2.2.1,aa.2.2.2.2) ad).bind fun ae=>if (!decide (ae=0))=true then (some ((⟨#[]⟩,([]:List ByteArray),([]:List R6),([]:List R5),([]:List R7)),ae)) else ((Sb N ((ac.1.1,ac.1.2),ac.2)).bind fun af=>if (decide (af<0))=true then (some ((⟨#[]⟩,([]:List ByteArray),([]:List R6),([]:List R5),([]:List R7)),3)) else ((Zdg N (aa.1,aa.2.1,aa.2.2.1,aa.2.2.2.1,aa.2.2.2.2)).bind fun ab=>Zat N aa ad ac N 0 ab.1 ab.2.1 ab.2.2.1 ab.2.2.2.1 ab.2.2.2.2))
theorem Znx {N b4 b5 b6 b7 df b8 b9:Nat} {ca cb cc cd a1 ce cf:Option Addr} {col:Ze} {w0:World} {ai:R0} {br:R9} {ao:R4} {r:(R0×Int)} (c1 c2 c3 c4:Nat) (hm:Zas N ai br ao=some r) (bs:Sl Za.str col w0 ca b4 ai.2.1) (bd:Sl (Za.slice Za.str) col w0 cb b5 ai.2.2.1) (bt:Sl (Za.slice (Za.int .i64)) col w0 cc b6 ai.2.2.2.1) (bu:Sl (Za.slice (Za.pair (Za.pair Za.bool (Za.slice (Za.int .u32))) (Za.slice (Za.int .u32)))) col w0 cd b7 ai.2.2.2.2) (h1:Sl (Za.slice (Za.int .i64)) col w0 a1 df br) (cg:Sl (Za.int .u32) col w0 ce b8 ao.1.2) (ch:Sl (Za.int .u32) col w0 cf b9 ao.2):
    Calls prog 25 #[(.agg #[.string ai.1,.slice ca ai.2.1.length b4,.slice cb ai.2.2.1.length b5,.slice cc ai.2.2.2.1.length b6,.slice cd ai.2.2.2.2.length b7]),.slice a1 br.length df,(.agg #[.bool ao.1.1,.slice ce ao.1.2.length b8,.slice cf ao.2.length b9])] w0 (fun e w'=>∃ (col':Ze) (ra1:Option Addr) (rc2:Nat) (ra4:Option Addr) (rc5:Nat) (ra7:Option Addr) (rc8:Nat) (ra10:Option Addr) (rc11:Nat),e= .returned (.tuple #[(.agg #[.string r.1.1,.slice ra1 r.1.2.1.length rc2,.slice ra4 r.1.2.2.1.length rc5,.slice ra7 r.1.2.2.2.1.length rc8,.slice ra10 r.1.2.2.2.2.length rc11]),.int .i64 r.2])∧Zh col w0 col' w'∧Zb Za.str 9 c1 col' w' ra1 rc2 r.1.2.1∧Zb (Za.row 9 Za.str) 22 c2 col' w' ra4 rc5 r.1.2.2.1∧Zb (Za.row 3 (Za.int .i64)) 33 c3 col' w' ra7 rc8 r.1.2.2.2.1∧Zb (Za.row 39 (Za.pair (Za.pair Za.bool (Za.row 95 (Za.int .u32))) (Za.row 95 (Za.int .u32)))) 114 c4 col' w' ra10 rc11 r.1.2.2.2.2):=by
 refine Y5 (m:=71) func25 rfl rfl rfl ?_;rw [Zas.eq_1] at hm;have aa:=St.start col w0;refine go ?_;refine Xl (col:=(Zj col)) 1 rfl ?_;intro dg et du dv ab;refine Xl (col:=du) 2 rfl ?_;intro dh eu dw di ad;refine Xg (col:=dw) #[.string (⟨#[]⟩),.slice none (([]:List ByteArray).length) 0,.slice none (([]:List R6).length) 0,.slice none (([]:List R5).length) 0,(.slice none (([]:List R7).length) 0)] 3 zeroValue27 ?_;intro dj dx ci cr ac;refine go ?_;replace ab:=(ab.gr di).gr cr;refine lV _ (Z2 isAgg27 sizeOf27 ab)<|Yk rfl ?_;obtain ⟨ew,dy,hm⟩:=bZ hm;replace bs:=bs.keep (Zi.start col w0);replace bd:=bd.keep (Zi.start col w0);replace bt:=bt.keep (Zi.start col w0);replace bu:=bu.keep (Zi.start col w0);replace h1:=h1.keep (Zi.start col w0);replace aa:=((aa.grow dv).grow di).grow cr;refine Zk (Zn0 dy (bs.ks aa) (bd.ks aa) (bt.ks aa) (bu.ks aa) (h1.ks aa)) ?_;rintro _ dl ⟨rfl,bn⟩;refine ⟨_,rfl,?_⟩;replace bn:Zh ci dx ci dl:=.of_below bn;refine go ?_;replace cg:=cg.keep (Zi.start col w0);replace ch:=ch.keep (Zi.start col w0);replace ad:=(ad.gr cr).gr bn;replace ab:=ab.gr bn;replace ac:=ac.gr bn;replace aa:=aa.grow bn;refine Zo hm (fun hb hm=>go ?_) fun hb hm=>go ?_
 ·refine lV (.agg #[.string (⟨#[]⟩),.slice none (([]:List ByteArray).length) 0,.slice none (([]:List R6).length) 0,.slice none (([]:List R5).length) 0,(.slice none (([]:List R7).length) 0)]) (Wc (l:=[_,_,_,_,_]) (qs:=[(0,1),(1,1),(2,1),(3,1),(4,1)]) underlying27 zeroValue27 ⟨rfl,sizeOf9,rfl,sizeOf22,rfl,sizeOf23,rfl,sizeOf24,rfl,sizeOf25,trivial⟩ rfl)<|Xp rfl<|Zz ac ?_;intro ey dz d0 d1;refine go ?_;cases hm;replace aa:=aa.kp dz d0;exact ⟨rfl,_,Vw d1.atN,_,none,0,none,0,none,0,none,0,rfl,aa.fin (cm []),Zb.nil,Zb.nil,Zb.nil,Zb.nil⟩
 refine lV _ (Z2 isAgg39 sizeOf39 ad) ?_;obtain ⟨ez,d2,hm⟩:=bZ hm;refine Zk (Zhj d2 (cg.ks aa) (ch.ks aa)) ?_;rintro _ d3 ⟨rfl,bo⟩;refine ⟨_,rfl,?_⟩;replace bo:Zh ci dl ci d3:=.of_below bo;refine go ?_;replace ab:=ab.gr bo;replace ad:=ad.gr bo;replace ac:=ac.gr bo;replace aa:=aa.grow bo;refine Zo hm (fun hb hm=>go ?_) fun hb hm=>go ?_
 ·refine lV (.agg #[.string (⟨#[]⟩),.slice none (([]:List ByteArray).length) 0,.slice none (([]:List R6).length) 0,.slice none (([]:List R5).length) 0,(.slice none (([]:List R7).length) 0)]) (Wc (l:=[_,_,_,_,_]) (qs:=[(0,1),(1,1),(2,1),(3,1),(4,1)]) underlying27 zeroValue27 ⟨rfl,sizeOf9,rfl,sizeOf22,rfl,sizeOf23,rfl,sizeOf24,rfl,sizeOf25,trivial⟩ rfl)<|Zz ac ?_;intro e0 d4 d5 d6;refine go ?_;cases hm;replace aa:=aa.kp d4 d5;exact ⟨rfl,_,Vw d6.atN,_,none,0,none,0,none,0,none,0,rfl,aa.fin (cm []),Zb.nil,Zb.nil,Zb.nil,Zb.nil⟩
 refine lV _ (Z2 isAgg27 sizeOf27 ab) ?_;obtain ⟨e1,d7,hm⟩:=bZ hm;refine Zk (Zry 4 5 6 7 d7 (bs.ks aa) (bd.ks aa) (bt.ks aa) (bu.ks aa)) ?_;rintro _ e2 ⟨d8,e3,e4,e5,e6,e7,e8,e9,fa,rfl,cj,ct,cu,cv,cw⟩;refine ⟨_,rfl,?_⟩;refine Xg (col:=d8) #[.string (⟨#[]⟩),.slice none (([]:List ByteArray).length) 0,.slice none (([]:List R6).length) 0,.slice none (([]:List R5).length) 0,(.slice none (([]:List R7).length) 0)] 8 zeroValue27 ?_;intro ck fb fc ba d9;refine Zz d9 ?_;intro fd bb ea ae;refine go ?_;refine Ya ⟨_,_,rfl⟩ ?_;replace ab:=((ab.gr cj).gr ba).kp bb;refine lW ((ab.atN).nth (q:=1) rfl)<|go ?_;replace ad:=((ad.gr cj).gr ba).kp bb;replace ac:=((ac.gr cj).gr ba).kp bb;replace aa:=((aa.grow cj).grow ba).kp bb ea;replace ct:=(ct.gr ba).kp bb;replace cu:=(cu.gr ba).kp bb;replace cv:=(cv.gr ba).kp bb;replace cw:=(cw.gr ba).kp bb;refine Zu [1,3,31,5,6,9,1000000] (fun n f aw=>∃ ax bc be bf bg a0 bh bi a2 bj bk a3 a4 a5 ap bm,bm=n∧Zat N ai br ao bm bc be a0 a2 a3 ap=some r∧St w0 (Zj col) ax aw∧Zf 27 1 ax aw dg #[.string ai.1,.slice ca ai.2.1.length b4,.slice cb ai.2.2.1.length b5,.slice cc ai.2.2.2.1.length b6,.slice cd ai.2.2.2.2.length b7]∧Zf 39 2 ax aw dh #[.bool ao.1.1,.slice ce ao.1.2.length b8,.slice cf ao.2.length b9]∧Zf 27 3 ax aw dj #[.string (⟨#[]⟩),.slice none (([]:List ByteArray).length) 0,.slice none (([]:List R6).length) 0,.slice none (([]:List R5).length) 0,(.slice none (([]:List R7).length) 0)]∧Zb Za.str 9 4 ax aw bf bg a0∧Zb (Za.row 9 Za.str) 22 5 ax aw bh bi a2∧Zb (Za.row 3 (Za.int .i64)) 33 6 ax aw bj bk a3∧Zb (Za.row 39 (Za.pair (Za.pair Za.bool (Za.row 95 (Za.int .u32))) (Za.row 95 (Za.int .u32)))) 114 7 ax aw a4 a5 ap∧Zf 27 8 ax aw ck #[.string be,.slice bf a0.length bg,.slice bh a2.length bi,.slice bj a3.length bk,.slice a4 ap.length a5]∧[32].map f=[.int .i64 bc]) N ⟨_,0,_,_,_,_,_,_,_,_,_,_,_,_,_,_,rfl,hm,aa,ab,ad,ac,ct,cu,cv,cw,ae,rfl⟩ ?_;clear hm;intro n f aw hI
 obtain ⟨ax,bc,be,bf,bg,a0,bh,bi,a2,bj,bk,a3,a4,a5,ap,bm,hn,hm,aa,ab,ad,ac,af,ag,ah,aj,ae,hs⟩:=hI;subst hn;refine .lL [32] hs ?_
 cases bm with
 | zero=>rw [Zat.eq_1] at hm;cases hm
 | succ bm=>
  rw [Zat.eq_2] at hm;refine go ?_;refine Zo hm (fun hb hm=>go ?_) fun hb hm=>go ?_
  ·refine lV _ (Z2 isAgg27 sizeOf27 ab)<|go ?_;obtain ⟨a6,eb,hm⟩:=bZ hm;refine Zk (Zru 9 eb (bs.ks aa) (bd.ks aa) (bt.ks aa) (bu.ks aa) (h1.ks aa)) ?_;rintro _ fe ⟨ff,cx,cy,rfl,a7,ak⟩;refine ⟨_,rfl,?_⟩;refine lM (.tuple #[.slice cx a6.1.length cy,.int .i64 a6.2])<|lV (.slice cx a6.1.length cy) (Xk rfl rfl)<|lV (.int .i64 a6.2) (Xk rfl rfl)<|go ?_;replace af:=af.gr a7;replace ag:=ag.gr a7;replace ah:=ah.gr a7;replace aj:=aj.gr a7;replace ab:=ab.gr a7;replace ad:=ad.gr a7;replace ac:=ac.gr a7;replace ae:=ae.gr a7;replace aa:=aa.grow a7;refine Zu [1,10,3,31,32,42,43,5,6,9,1000000] (fun n f aq=>∃ al cz c0 cl bv bw,n=bw.length∧a6.1.drop bv=bw∧Zb2 N ai ao bc be a0 a2 a3 ap (Zat N ai br ao bm) bw cl=some r∧St w0 (Zj col) al aq∧Zb (Za.pair (Za.pair Za.bool (Za.row 95 (Za.int .u32))) (Za.row 95 (Za.int .u32))) 39 10 al aq cz c0 cl∧Zf 27 1 al aq dg #[.string ai.1,.slice ca ai.2.1.length b4,.slice cb ai.2.2.1.length b5,.slice cc ai.2.2.2.1.length b6,.slice cd ai.2.2.2.2.length b7]∧Zb (Za.int .i64) 3 9 al aq cx cy a6.1∧Zf 39 2 al aq dh #[.bool ao.1.1,.slice ce ao.1.2.length b8,.slice cf ao.2.length b9]∧Zf 27 3 al aq dj #[.string (⟨#[]⟩),.slice none (([]:List ByteArray).length) 0,.slice none (([]:List R6).length) 0,.slice none (([]:List R5).length) 0,(.slice none (([]:List R7).length) 0)]∧Zb Za.str 9 4 al aq bf bg a0∧Zb (Za.row 9 Za.str) 22 5 al aq bh bi a2∧Zb (Za.row 3 (Za.int .i64)) 33 6 al aq bj bk a3∧Zb (Za.row 39 (Za.pair (Za.pair Za.bool (Za.row 95 (Za.int .u32))) (Za.row 95 (Za.int .u32)))) 114 7 al aq a4 a5 ap∧Zf 27 8 al aq ck #[.string be,.slice bf a0.length bg,.slice bh a2.length bi,.slice bj a3.length bk,.slice a4 ap.length a5]∧[44,13].map f=[.int .i64 bv,.slice cz cl.length c0]) a6.1.length ⟨_,none,0,_,0,_,rfl,rfl,hm,aa,Zb.nil,ab,ak,ad,ac,af,ag,ah,aj,ae,rfl⟩ ?_;clear hm;intro n f aq hI;obtain ⟨al,cz,c0,cl,bv,bw,hn,hl,hm,aa,am,ab,ak,ad,ac,af,ag,ah,aj,ae,hs⟩:=hI;subst hn;refine .lL [44,13] hs ?_
   cases bw with
   | nil=>
    have hk:¬ ((bv:Int)<(a6.1.length:Int)):=by have:=List.drop_eq_nil_iff.1 hl;omega
    have hkb:=decide_eq_false hk;rw [Zb2.eq_1] at hm;refine go ?_;refine Xs (congrArg Value.bool hkb)<|go ?_;refine Wh (col:=al) [(0,1),(1,0),(2,1),(3,1),(4,0),(5,1),(6,1),(7,0),(8,1),(9,1),(10,0),(11,1),(12,2)] (by kernel_rfl) (by kernel_rfl)<|xF ⟨_,_,rfl⟩ ?_;refine xW (fun _ hC=>((ae.atN).nth (q:=4) rfl).gr (hC.bl al)) ?_;refine xu rfl rfl (fun _=>Yh rfl) ?_;obtain ⟨c5,cn,hm⟩:=bZ hm;refine xu rfl rfl (fun _=>Ym underlying25 sizeOf114 rfl rfl (Z4 cn).1 (Z4 cn).2.1 (aj.addr cn)) ?_;obtain ⟨_,bx,a8,ar,ec⟩:=aj.open_ 11 (by decide) cn;obtain ⟨co,cp,rfl,bz⟩:=ec.row;replace ar:Yf (Za.row 39 (Za.pair (Za.pair Za.bool (Za.row 95 (Za.int .u32))) (Za.row 95 (Za.int .u32)))) 114 7 bx aq a4 a5 ap (Int.toNat bc) [.slice co c5.length cp]:=ar;refine xW (fun _ hC=>ar.atN.one.gr (hC.bl bx)) ?_;refine xu rfl rfl (fun _=>Uj rfl) ?_;refine xF ⟨_,_,rfl⟩ ?_;replace ab:=ab.kpp a8;refine xW (fun _ hC=>((ab.atN).nth (q:=2) rfl).gr (hC.bl bx)) ?_;refine xu rfl rfl (fun _=>Yh rfl) ?_;obtain ⟨fg,cq,hm⟩:=bZ hm;replace aa:=aa.kpp a8;refine xu rfl rfl (fun _=>Ym underlying23 sizeOf22 rfl rfl (Z4 cq).1 (Z4 cq).2.1 ((bd.ks aa).addr cq)) ?_;obtain ⟨_,ed,ee⟩:=(bd.ks aa).atN cq;obtain ⟨⟨fh,fi,rfl,fj⟩,_⟩:=ed;refine xW (fun _ hC=>ee.one.gr (hC.bl bx)) ?_;refine xu rfl rfl (fun _=>Qg underlying22 rfl) ?_;refine xe rfl rfl ?_;intro fk hC0;have hC:=hC0.bl bx;replace af:=(af.kpp a8).gr hC;replace af:=af.froz 10 (by decide);replace ag:=(ag.kpp a8).gr hC;replace ag:=ag.froz 10 (by decide);replace ah:=(ah.kpp a8).gr hC;replace ah:=ah.froz 10 (by decide);replace ar:=ar.gr hC;replace ar:=ar.froz 10 (by decide);replace bz:=bz.gr hC;replace bz:=bz.froz 10 (by decide);replace am:=(am.kpp a8).gr hC;replace am:=(am).toSlF (Zd.pair (Zd.pair Zd.bool (Zd.row (Zd.int .u32))) (Zd.row (Zd.int .u32)));replace ab:=ab.gr hC;replace ab:=ab.froz 10 (by decide);replace ad:=(ad.kpp a8).gr hC;replace ad:=ad.froz 10 (by decide);replace ac:=(ac.kpp a8).gr hC;replace ac:=ac.froz 10 (by decide);replace ae:=(ae.kpp a8).gr hC;replace ae:=ae.froz 10 (by decide);replace aa:=aa.grow hC;replace aa:=aa.froz 10 (by decide) (by decide);obtain ⟨bp,ef,hm⟩:=bZ hm;refine Zk (Zrz 11 ef rfl bz am) ?_;rintro _ c6 ⟨b0,rfl,a9,eg,dm⟩;refine ⟨_,rfl,?_⟩
    refine .ld (d:=60) (v:=(.slice co bp.length cp)) (congrArg (fun n=>Value.slice co n cp) (show c5.length=bp.length from dm.symm)) ?_;replace ae:=ae.kpp a9;replace ae:Zf 27 8 b0 c6 ck #[.string be,.slice bf a0.length bg,.slice bh a2.length bi,.slice bj a3.length bk,.slice a4 ap.length a5]:=by rw [];exact ae
    replace ar:=ar.kpp a9;replace ar:Yf (Za.row 39 (Za.pair (Za.pair Za.bool (Za.row 95 (Za.int .u32))) (Za.row 95 (Za.int .u32)))) 114 7 b0 c6 a4 a5 ap (Int.toNat bc) [.slice co bp.length cp]:=by rw [← (show c5.length=bp.length from dm.symm)];exact ar
    refine Zl<|xk b0 ?_;have c7:=ar.close eg.has (by decide) (by decide);replace af:=af.kpp a9;replace af:=af.recol 11 7 (by decide);replace ag:=ag.kpp a9;replace ag:=ag.recol 11 7 (by decide);replace ah:=ah.kpp a9;replace ah:=ah.recol 11 7 (by decide);replace ab:=ab.kpp a9;replace ab:=ab.recol 11 7 (by decide);replace ad:=ad.kpp a9;replace ad:=ad.recol 11 7 (by decide);replace ac:=ac.kpp a9;replace ac:=ac.recol 11 7 (by decide);replace ae:=ae.recol 11 7 (by decide);replace aa:=aa.kpp a9;replace aa:=aa.recol 11 7 (by decide) (by decide);replace ae:Zf 27 8 (Xm 11 7 b0) c6 ck #[.string be,.slice bf a0.length bg,.slice bh a2.length bi,.slice bj a3.length bk,.slice a4 ((ap.set (Int.toNat bc) bp).length) a5]:=by rw [← (show ap.length=(ap.set (Int.toNat bc) bp).length by simp only [nS])];exact ae
    refine Y2 ?_;intro fl hC;replace hC:=hC.bl (Xm 11 7 b0);refine go ?_;replace af:=af.gr hC;replace ag:=ag.gr hC;replace ah:=ah.gr hC;replace c7:=c7.gr hC;replace ab:=ab.gr hC;replace ad:=ad.gr hC;replace ac:=ac.gr hC;replace ae:=ae.gr hC;replace aa:=aa.grow hC;exact ⟨bm,by omega,rfl,⟨_,_,_,_,_,_,_,_,_,_,_,_,_,_,_,_,rfl,hm,aa,ab,ad,ac,af,ag,ah,c7,ae,rfl⟩⟩
   | cons fm eh=>
    obtain ⟨c8,ei,ej⟩:=X3 hl;have hk:(bv:Int)<(a6.1.length:Int):=by omega
    have hkb:=decide_eq_true hk;rw [Zb2.eq_2] at hm;refine go ?_;refine Xt (congrArg Value.bool hkb)<|go ?_;refine lI c8 (ak.addr c8)<|lW (ak.atInt c8) ?_;refine go ?_;refine Wh (col:=al) [(0,1),(1,1),(3,0),(2,3),(4,3),(5,3),(6,2),(7,1)] (by kernel_rfl) (by kernel_rfl)<|xu rfl rfl (fun _=>Uj rfl) ?_;refine xu rfl rfl (fun _=>Yh rfl) ?_;refine xv rfl rfl (fun _ hC=>Z2 isAgg39 sizeOf39 (ad.gr (hC.bl al))) ?_;refine xe rfl rfl ?_;intro fn hC0;have hC:=hC0.bl al;obtain ⟨fp,ek,hm⟩:=bZ hm;refine Zk (Znz (col:=al) 12 13 ek) ?_;rintro _ fq ⟨bq,fr,ft,fu,fv,rfl,au,c9,da⟩;refine ⟨_,rfl,?_⟩;refine Zl<|Xo bq hC0 au<|xe rfl rfl ?_;intro el hC0;replace am:=(am.gr hC).gr au;replace ak:=(ak.gr hC).gr au;replace af:=(af.gr hC).gr au;replace ag:=(ag.gr hC).gr au;replace ah:=(ah.gr hC).gr au;replace aj:=(aj.gr hC).gr au;replace ab:=(ab.gr hC).gr au;replace ad:=(ad.gr hC).gr au;replace ac:=(ac.gr hC).gr au;replace ae:=(ae.gr hC).gr au;replace aa:=(aa.grow hC).grow au;have hC:=hC0.bl bq;obtain ⟨ay,em,hm⟩:=bZ hm;replace c9:=c9.gr hC;replace da:=da.gr hC;replace aa:=aa.grow hC;refine Zk (Zhi 14 15 em ((c9.toSlF (Zd.int .u32)).froz 13) ((da.froz 12 (by decide)).toSlF (Zd.int .u32)) (((cg.ks aa).froz 12).froz 13) (((ch.ks aa).froz 12).froz 13)) ?_;rintro _ fw ⟨en,dn,dp,dq,dr,rfl,an,b1,b2⟩;refine ⟨_,rfl,?_⟩;replace b1:=b1.thaw (Z1 .u32) an (((Fz.refl (col:=bq)).froz 12).froz 13) (by decide);replace b2:=b2.thaw (Z1 .u32) an (((Fz.refl (col:=bq)).froz 12).froz 13) (by decide);replace an:=an.thawR (col:=bq);generalize Xe el.heap.size bq en=db at *;refine Zl<|Xo db hC0 an<|xe rfl rfl ?_;intro fx hC0;replace am:=(am.gr hC).gr an;replace ak:=(ak.gr hC).gr an;replace af:=(af.gr hC).gr an;replace ag:=(ag.gr hC).gr an;replace ah:=(ah.gr hC).gr an;replace aj:=(aj.gr hC).gr an;replace ab:=(ab.gr hC).gr an;replace ad:=(ad.gr hC).gr an;replace ac:=(ac.gr hC).gr an;replace ae:=(ae.gr hC).gr an;have hC:=hC0.bl db;replace b1:=b1.gr hC;replace b2:=b2.gr hC;have eo:=Xu.join (Xu.joinL (Zab ay.1.1) b1.has) b2.has (by decide) (by decide);replace am:=am.gr hC;replace am:=am.recol 15 14 (by decide);replace ak:=ak.gr hC
    replace ak:=ak.recol 15 14 (by decide);replace af:=af.gr hC;replace af:=af.recol 15 14 (by decide);replace ag:=ag.gr hC;replace ag:=ag.recol 15 14 (by decide);replace ah:=ah.gr hC;replace ah:=ah.recol 15 14 (by decide);replace aj:=aj.gr hC;replace aj:=aj.recol 15 14 (by decide);replace ab:=ab.gr hC;replace ab:=ab.recol 15 14 (by decide);replace ad:=ad.gr hC;replace ad:=ad.recol 15 14 (by decide);replace ac:=ac.gr hC;replace ac:=ac.recol 15 14 (by decide);replace ae:=ae.gr hC;replace ae:=ae.recol 15 14 (by decide);replace aa:=(aa.grow an).grow hC;replace aa:=aa.recol 15 14 (by decide) (by decide);refine V0 (col:=(Xm 15 14 db)) (r:=(Za.pair (Za.pair Za.bool (Za.row 95 (Za.int .u32))) (Za.row 95 (Za.int .u32)))) (xs:=[((ay.1.1,ay.1.2),ay.2)]) [(.agg #[.bool ay.1.1,.slice dn ay.1.2.length dp,.slice dq ay.2.length dr])] 14 (Y1.cons1 (cs:=[.bool ay.1.1,.slice dn ay.1.2.length dp,.slice dq ay.2.length dr]) eo Rows.nil0) ?_;intro fy fz dc av dd;refine Zl<|Xo dc hC0 av<|xe rfl rfl ?_;intro ep hC0;have hC:=hC0.bl dc;obtain ⟨ds,hm⟩:=Z3 hm;replace am:=(am.gr av).gr hC;replace dd:=dd.gr hC;refine Sy (col:=dc) (w:=ep) (r:=(Za.pair (Za.pair Za.bool (Za.row 95 (Za.int .u32))) (Za.row 95 (Za.int .u32)))) (c:=10) (c2:=14) (am.ex) (dd.srcC (by decide)) rfl underlying114 Z2z rfl rfl rfl ds.1 ds.2 (by decide) ?_;intro f0 f1 f2 dt az eq;refine Zl<|xk dt<|xu rfl rfl (fun _=>Zw4 rfl) ?_;have de:=eq.new;refine Y2 ?_;replace ak:=((ak.gr av).gr hC).kpp az;replace af:=((af.gr av).gr hC).kpp az;replace ag:=((ag.gr av).gr hC).kpp az;replace ah:=((ah.gr av).gr hC).kpp az;replace aj:=((aj.gr av).gr hC).kpp az;replace ab:=((ab.gr av).gr hC).kpp az;replace ad:=((ad.gr av).gr hC).kpp az;replace ac:=((ac.gr av).gr hC).kpp az;replace ae:=((ae.gr av).gr hC).kpp az;replace aa:=((aa.grow av).grow hC).kpp az;intro f3 hC;replace hC:=hC.bl dt;refine go ?_;replace de:=de.gr hC;replace ak:=ak.gr hC;replace af:=af.gr hC;replace ag:=ag.gr hC;replace ah:=ah.gr hC;replace aj:=aj.gr hC;replace ab:=ab.gr hC;replace ad:=ad.gr hC;replace ac:=ac.gr hC;replace ae:=ae.gr hC;replace aa:=aa.grow hC;exact ⟨eh.length,by simp,rfl,⟨_,_,_,_,_,_,rfl,ei,hm,aa,de,ab,ak,ad,ac,af,ag,ah,aj,ae,(X5 (congrArg (Value.int .i64) (X2 (Nat.lt_of_lt_of_le ej ak.len))) rfl)⟩⟩
  refine lV _ (Z2 isAgg27 sizeOf27 ae)<|Zz ac ?_;intro f4 b3 er es;refine go ?_;cases hm;replace af:=af.kp b3;replace ag:=ag.kp b3;replace ah:=ah.kp b3;replace aj:=aj.kp b3;replace aa:=aa.kp b3 er;exact ⟨rfl,_,Vw es.atN,_,_,_,_,_,_,_,_,_,rfl,aa.fin (cm [(4,c1),(5,c2),(6,c3),(7,c4)]),aa.fo af,aa.fo ag,aa.fo ah,aa.fo aj⟩
section
variable {N W K:Nat} {n:Zr} (hf:Yo N n) (hs:Y8 n W) (hr:Xh N (8 * K+40)) (hWK:1025 * (W+2)+4≤K) (hN:2000000<N)
include hf hs hr hWK hN
omit hf hs hN in
theorem Zug (v:Int) (m1:ByteArray) (m2:List ByteArray) (m3:List R6) (m4:List R5) (m5:List (List QV)) (h5:m5.length≤1048576) (kk:Int→ByteArray→List ByteArray→List R6→List R5→List (List QV)→Option Zr) (r1:List ByteArray) (r2:List Int):∀ (l out:List QV),(∀ x ∈ l,Vk x∧max x.1.2.length x.2.length≤W)→out.length+l.length≤1048576→
  Zb3 N v m1 m2 m3 m4 m5 kk r1 r2 l out=kk (i64.wrap (v+1)) m1 m2 (m3++[r1]) (m4++[r2]) (m5++[out++l.map Y9])
 | [],out,_,h2=>by
  rw [Zb3.eq_1,Z9 (by simp only [List.length_singleton,maxLen];omega),List.map_nil,List.append_nil]
 | x :: l,out,h1,h2=>by
  obtain ⟨x1,x2⟩:=h1 x List.mem_cons_self
  have hz:RV 0 ((false,([]:List Int)),([]:List Int)):=⟨by simp [Zn],by simp [Zn],by simp,by simp⟩
  have hz2:Zv ((false,([]:List Int)),([]:List Int))=0:=by rw [Zv];simp [Zy,Zc]
  have ad:S4 N ((x.1.1,x.1.2),x.2) ((false,([]:List Int)),([]:List Int))=some (Y9 x):=by
   have:=Zof ((Zg2 x1.1 x1.2).mono x2) hz (hr.mono (by omega))
   rwa [hz2,Rat.add_zero] at this
  rw [nC] at h2
  rw [Zb3.eq_2,ad,oB,Z9 (by simp only [List.length_singleton,maxLen];omega)]
  have ih:=Zug v m1 m2 m3 m4 m5 h5 kk r1 r2 l (out++[Y9 x]) (fun y hy=>h1 y (List.mem_cons_of_mem _ hy)) (by rw [nA,List.length_singleton];omega)
  rw [List.append_assoc] at ih
  exact ih
omit hN in
theorem Zuf:∀ (f v:Nat),v≤n.2.1.length→n.2.1.length<f+v→Zau N n f (v:Int) n.1 n.2.1 (n.2.2.1.take v) (n.2.2.2.1.take v) ((n.2.2.2.2.take v).map (List.map Y9))=some (cpN n)
 | 0,v,h1,h2=>by omega
 | f+1,v,h1,h2=>by
  have hv:=hf.ev.v;have hp:=hf.ev.p;have ht:=hf.ev.t;have hle:=hf.le
  rw [Zau.eq_2]
  by_cases hk:v<n.2.1.length
  ·have a1:v<n.2.2.1.length:=by omega
   have a2:v<n.2.2.2.1.length:=by omega
   have a3:v<n.2.2.2.2.length:=by omega
   have c1:Zed n.2.2.1[v]=some n.2.2.1[v]:=by
    have:=hs.vl _ (List.getElem_mem a1)
    rw [Zed,Z9 (by simp only [nN,maxLen];omega),List.nil_append]
   have c2:Qc n.2.2.2.1[v]=some n.2.2.2.1[v]:=Zoa (by have:=hs.pn.ls _ (List.getElem_mem a2);omega)
   have hmem:=fun x hx=>Zkt hf hs hk x (by rw [Xx a3];exact hx)
   have l2:=Zug hr hWK (v:Int) n.1 n.2.1 (n.2.2.1.take v) (n.2.2.2.1.take v) ((n.2.2.2.2.take v).map (List.map Y9)) (by rw [List.length_map,nK];omega) (Zau N n f) n.2.2.1[v] n.2.2.2.1[v] n.2.2.2.2[v] [] hmem (by have:=hs.tl _ (List.getElem_mem a3);simpa using this)
   have ih:=Zuf f (v+1) (by omega) (by omega)
   rw [List.take_succ_eq_append_getElem a1,List.take_succ_eq_append_getElem a2,List.take_succ_eq_append_getElem a3,List.map_append,List.map_singleton] at ih
   rw [if_pos (dT (by omega)),Z5 a1,oB,c1,oB,Z9 (by simp only [nK,List.length_singleton,maxLen];omega),Z5 a2,oB,c2,oB,Z9 (by simp only [nK,List.length_singleton,maxLen];omega),Z5 a3,oB,Z9 (by have:=hs.tl _ (List.getElem_mem a3);simp only [maxLen];omega),l2,wS (by omega),List.nil_append]
   exact ih
  ·rw [if_neg (dF (by omega)),List.take_of_length_le (by omega),List.take_of_length_le (by omega),List.take_of_length_le (by omega)];rfl
theorem Z3y:Zdg N n=some (cpN n):=by
 have hle:=hf.le
 have h:=Zuf hf hs hr hWK N 0 (Nat.zero_le _) (by omega)
 rw [List.take_zero,List.take_zero,List.take_zero,List.map_nil] at h
 rw [Zdg,Zed,Z9 (by simp only [nN,maxLen];omega),oB,List.nil_append]
 exact h
end
theorem Zmy {b:Nat}:∀ l:List QV,(∀ x ∈ l,RV b x)→Xn l≤(b+2) * l.length
 | [],_=>by rw [Xn];omega
 | x :: l,h=>by
  have hx:=h x List.mem_cons_self
  have h1:=hx.lm;have h2:=hx.ld
  have ih:=Zmy l fun y hy=>h y (List.mem_cons_of_mem _ hy)
  rw [Xn,nC,Nat.mul_add,Nat.mul_one];omega
def X9 (M:Rat) (c:List Int):List QV:=c.map fun x:Int=>Zw ((x:Rat)+M)
def X4 (n:Zr) (r:List R5) (M:Rat):List (List QV):=(List.range n.2.1.length).map fun v=>Wf (cnt n v) (Vb n v) ((n.2.2.2.2.getD v []).map Y9) (X9 M (Yd n v r))
theorem Zez {n:Zr} {r:List R5} {M:Rat} {v:Nat} (hv:v<n.2.1.length):(X4 n r M).getD v []=Wf (cnt n v) (Vb n v) ((n.2.2.2.2.getD v []).map Y9) (X9 M (Yd n v r)):=by
 rw [Xx (by rw [X4,List.length_map,List.length_range];exact hv)]
 simp only [X4,List.getElem_map,List.getElem_range]
section
variable {N:Nat} (hr:Xh N 4294967296)
include hr
theorem Z6s {x:Int} (h0:0≤x) (h1:x≤1048576):Zdj N x=some (Zw (x:Rat)):=by
 obtain ⟨r1,r2⟩:=hr
 have:=Zkw (N:=N) (a:=x) (b:=1) (by omega) (by omega) ⟨by omega,by omega⟩
 rw [if_neg (by decide)] at this
 have e:((x:Rat) / ((1:Int):Rat))=(x:Rat):=by rw [show ((1:Int):Rat)=1 from rfl];grind
 rw [Zdj,this,oB,e]
omit hr in
theorem Zvp {x:Int} (h0:0≤x) (h1:x≤1048576):qs (x:Rat)≤1:=by
 have e:(x:Rat)=mkRat x 1:=by rw [Rat.mkRat_one]
 rw [e]
 refine Zjo ?_ (by rw [Zam];simp) (Nat.le_refl _)
 rw [Wq];omega
variable {more:QV} {M:Rat} (hm:RV 1 more) (hM:Zv more=M)
include hm hM
theorem Ztf {n:Zr} {v:Nat} (hv:v<n.2.2.1.length) (m1:ByteArray) (m2:List ByteArray) (m3:List R6) (m4:List R5) (m5:List (List QV)) (kk:Int→ByteArray→List ByteArray→List R6→List R5→List (List QV)→Option (Zr×Int)) (h5:v<m5.length):∀ (c:List Int) (out:List QV),(∀ x ∈ c,0≤x∧x≤1048576)→out.length+c.length≤1048576→
  Zb2 N n more (v:Int) m1 m2 m3 m4 m5 kk c out=(Zdi N m5[v] (out++X9 M c) (n.2.2.1[v].length:Int)).bind fun t=>kk (i64.wrap ((v:Int)+1)) m1 m2 m3 m4 (m5.set v t)
 | [],out,_,_=>by
  rw [Zb2.eq_1,Z5 h5,oB,Z5 hv,oB,X9,List.map_nil,List.append_nil,Int.toNat_natCast]
 | x :: c,out,h1,h2=>by
  obtain ⟨x0,x1⟩:=h1 x List.mem_cons_self
  obtain ⟨r1,r2⟩:=id hr
  rw [nC] at h2
  have ad:S4 N (((Zw (x:Rat)).1.1,(Zw (x:Rat)).1.2),(Zw (x:Rat)).2) ((more.1.1,more.1.2),more.2)=some (Zw ((x:Rat)+M)):=by
   have:=Zof (N:=N) (Su (Zvp x0 x1)) hm ⟨by omega,by omega⟩
   rwa [V3,hM] at this
  have ih:=Ztf hv m1 m2 m3 m4 m5 kk h5 c (out++[Zw ((x:Rat)+M)]) (fun y hy=>h1 y (List.mem_cons_of_mem _ hy)) (by rw [nA,List.length_singleton];omega)
  rw [Zb2.eq_2,Z6s hr x0 x1,oB,ad,oB,Z9 (by simp only [List.length_singleton,maxLen];omega)]
  refine ih.trans ?_
  rw [X9,X9,List.map_cons,List.append_assoc];rfl
end
section
variable {N W K:Nat} {n:Zr} (hf:Yo N n) (hs:Y8 n W) (hr:Xh N (8 * K+40)) (hWK:1025 * (W+2)+4≤K) (hK:536870907≤K)
variable {more:QV} {M:Rat} (hm:RV 1 more) (hM:Zv more=M) (hMq:qs M≤1) (hM0:0≤M)
variable {r:List R5} (hR:∀ row ∈ r,Yp n row) (hl:r.length≤12) (hC:W8 N n=some 0) (hw:Zac n r=true)
include hf hs hr hWK hK hm hM hMq hM0 hR hl hC hw
omit hM0 in
theorem Zte:∀ (f v:Nat) (A:List (List QV)),v≤n.2.1.length→n.2.1.length<f+v→A=(X4 n r M).take v→
  Zat N n r more f (v:Int) n.1 n.2.1 n.2.2.1 n.2.2.2.1 (A++((n.2.2.2.2.map (List.map Y9)).drop v))=some (Z7 n (X4 n r M),0)
 | 0,v,A,h1,h2,_=>by omega
 | f+1,v,A,h1,h2,hA=>by
  have hle:=hf.le
  have hv':=hf.ev.v;have ht':=hf.ev.t;have hp':=hf.ev.p
  have hfl:(X4 n r M).length=n.2.1.length:=by rw [X4,List.length_map,List.length_range]
  have hAl:A.length=v:=by rw [hA,nK];omega
  obtain ⟨r1,r2⟩:=id hr
  rw [Zat.eq_2]
  by_cases hv:v<n.2.1.length
  ·have hvv:v<n.2.2.1.length:=by omega
   have hpv:v<n.2.2.2.1.length:=by omega
   have htv:v<n.2.2.2.2.length:=by omega
   have ct:Zc6 N (n.1,n.2.1,n.2.2.1,n.2.2.2.1,n.2.2.2.2) r (v:Int)=some (Yd n v r,0):=Z46 hf hv (by rw [Xx hpv];have:=hs.pn.ls _ (List.getElem_mem hpv);omega) hC hw hR (by omega)
   have hr4:Xh N 4294967296:=hr.mono (by omega)
   obtain ⟨c1,c2,c3⟩:=hf.rows hv
   have hcp:=Zah hf.ev hv
   have hcl:(Yd n v r).length=(n.2.2.2.2.getD v []).length:=by rw [Yd,List.length_map,List.length_range]
   have hc12:∀ x ∈ Yd n v r,0≤x∧x≤1048576:=fun x hx=>by have:=Zhp hl x hx;omega
   have hdl:(A++(n.2.2.2.2.map (List.map Y9)).drop v).length=n.2.1.length:=by
    rw [nA,List.length_drop,List.length_map];omega
   have hget:(A++(n.2.2.2.2.map (List.map Y9)).drop v)[v]'(by omega)=(n.2.2.2.2.getD v []).map Y9:=by
    rw [List.getElem_append_right (by omega)]
    simp only [hAl,Nat.sub_self,List.getElem_drop,Nat.add_zero,List.getElem_map,Xx htv]
   have L2:=Ztf hr4 hm hM hvv n.1 n.2.1 n.2.2.1 n.2.2.2.1 (A++(n.2.2.2.2.map (List.map Y9)).drop v) (Zat N n r more f) (by omega) (Yd n v r) [] hc12 (by rw [nN,hcl];omega)
   have hrv:∀ x ∈ X9 M (Yd n v r),RV 3 x:=fun x hx=>by
    obtain ⟨c,hc,rfl⟩:=List.mem_map.1 hx
    have h3:=Zvp (hc12 c hc).1 (hc12 c hc).2
    have h4:=Zw0 (c:Rat) M
    exact Su (by omega)
   have hnl:(X9 M (Yd n v r)).length=Vb n v * cnt n v:=by rw [X9,List.length_map,hcl];exact c1.symm
   have hc65:cnt n v≤65536:=by
    have hrw:0<Vb n v:=by
     have:=Zg1 hf.ev (n.2.2.2.1.getD v []) 1 (hf.pars hv) (by omega)
     exact this
    have:=Nat.le_mul_of_pos_left (cnt n v) hrw
    have:Vb n v * cnt n v≤65536:=by rw [Vb,c1];exact c2
    omega
   have sh:=Z36 (N:=N) (B:=524288) (hr.mono (by omega)) (k:=cnt n v) (q:=X9 M (Yd n v r)) hcp (fun x hx=>(hrv x hx).mono (by omega)) (by rw [hnl,Vb,c1];omega) (R:=Vb n v) (t:=(n.2.2.2.2.getD v []).map Y9) (by rw [List.length_map];exact c1.symm) hnl (fun j=>by
    have h5:=Zmy (b:=3) (((X9 M (Yd n v r)).drop (j * cnt n v)).take (cnt n v)) fun x hx=>hrv x (List.mem_of_mem_drop (List.mem_of_mem_take hx))
    have h6:(((X9 M (Yd n v r)).drop (j * cnt n v)).take (cnt n v)).length≤65536:=by rw [nK];omega
    omega) (by omega) (by have:Vb n v≤65536:=c3;omega)
   have hcv:(n.2.2.1[v].length:Int)=(cnt n v:Int):=by rw [cnt,Xx hvv]
   rw [if_pos (dT (by omega)),ct,oB]
   refine L2.trans ?_
   rw [hget,List.nil_append,hcv,sh,oB,wS (by omega)]
   have hset:(A++(n.2.2.2.2.map (List.map Y9)).drop v).set v (Wf (cnt n v) (Vb n v) ((n.2.2.2.2.getD v []).map Y9) (X9 M (Yd n v r)))=(A++[Wf (cnt n v) (Vb n v) ((n.2.2.2.2.getD v []).map Y9) (X9 M (Yd n v r))])++(n.2.2.2.2.map (List.map Y9)).drop (v+1):=by
    rw [List.set_append_right _ _ (by omega),hAl,Nat.sub_self,List.drop_eq_getElem_cons (by rw [List.length_map];omega),List.set_cons_zero,List.append_assoc,List.singleton_append]
   have hnx:(X4 n r M).take (v+1)=A++[Wf (cnt n v) (Vb n v) ((n.2.2.2.2.getD v []).map Y9) (X9 M (Yd n v r))]:=by
    rw [List.take_add_one,List.getElem?_eq_getElem (by omega),Option.toList_some,← hA,← Zez hv,Xx (by omega)]
   rw [hset]
   exact Zte f (v+1) _ (by omega) (by omega) hnx.symm
  ·rw [if_neg (dF (by omega)),List.drop_of_length_le (by rw [List.length_map];omega),List.append_nil,hA,List.take_of_length_le (by omega)];rfl
theorem Ztg:Zas N n r more=some (Z7 n (X4 n r M),0):=by
 obtain ⟨r1,r2⟩:=id hr
 have hC':W8 N (n.1,n.2.1,n.2.2.1,n.2.2.2.1,n.2.2.2.2)=some 0:=hC
 have lw:Zdk N (n.1,n.2.1,n.2.2.1,n.2.2.2.1,n.2.2.2.2) r=some 0:=by
  rw [Zdk,hC',oB,if_neg (by decide)]
  have:=Zuz (n:=n) hf.ev.v r
  rw [if_pos hw] at this
  exact this
 have sg:Sb N ((more.1.1,more.1.2),more.2)=some (Zaa M):=by
  have:=Zky (N:=N) hm (hr.mono (by omega))
  rwa [hM] at this
 have cp:Zdg N (n.1,n.2.1,n.2.2.1,n.2.2.2.1,n.2.2.2.2)=some (cpN n):=Z3y hf hs hr hWK (by omega)
 have L1:=Zte hf hs hr hWK hK hm hM hMq hR hl hC hw N 0 [] (Nat.zero_le _) (by have:=hf.le;omega) (by rw [List.take_zero])
 rw [List.nil_append,List.drop_zero] at L1
 rw [Zas,lw,oB,if_neg (by decide),sg,oB,if_neg (by rw [decide_eq_false (fun h=>absurd hM0 (Rat.not_le.2 (Zqh.1 h)))];decide),cp,oB]
 exact L1
end
abbrev Znq:=ByteArray×List ByteArray×List R6×List R5×List (List QV)
structure Zeo (n:Znq):Prop where
 nm:n.2.1.length≤1048576
 vn:n.2.2.1.length≤1048576
 vl:∀ l ∈ n.2.2.1,l.length≤1048576
 pn:n.2.2.2.1.length≤1048576
 pl:∀ l ∈ n.2.2.2.1,l.length≤1048576
 tn:n.2.2.2.2.length≤1048576
 tl:∀ t ∈ n.2.2.2.2,t.length≤1048576
 tm:∀ t ∈ n.2.2.2.2,∀ x ∈ t,x.1.2.length≤1048576∧x.2.length≤1048576
/-! fractions that are the same -/
theorem Z2v:Wd prog 22 1 24:=⟨Tryz.t22,_,rfl,rfl,rfl,rfl,rfl⟩
theorem Z2x:Wd prog 33 1 24:=⟨Tryz.t33,_,rfl,rfl,rfl,rfl,rfl⟩
theorem Z2t:Wd prog 114 1 24:=⟨Tryz.t114,_,rfl,rfl,rfl,rfl,rfl⟩
def Zea (N:Nat) (af:R0) (ag:ByteArray) (ah:List ByteArray) (ai:List R6) (aj:List R5) (ac:List R7) (ad:Int) (kk_L3:(ByteArray→R6→Re→R9→Rb→Int→Option R0)):Nat→Int→R7→Option R0
  | 0,_,_=>none
  | al+1,ae,ab=>(Zm af.2.2.2.2 ad).bind fun ak=>if (decide (ae<(ak.length:Int)))=true then ((Zm ak ae).bind fun aa=>Zt ((([]:List Int).length+aa.1.2.length) * 4≤140737488355328∧([]:List Int).length+aa.1.2.length≤maxLen) (Zt ((([]:List Int).length+aa.2.length) * 4≤140737488355328∧([]:List Int).length+aa.2.length≤maxLen) (Zt ((ab.length+[((aa.1.1,([]:List Int)++aa.1.2),([]:List Int)++aa.2)].length) * 56≤140737488355328∧ab.length+[((aa.1.1,([]:List Int)++aa.1.2),([]:List Int)++aa.2)].length≤maxLen) ((Zea N af ag ah ai aj ac ad kk_L3 al) (i64.wrap (ae+1)) (ab++[((aa.1.1,([]:List Int)++aa.1.2),([]:List Int)++aa.2)]))))) else (Zt ((ac.length+[ab].length) * 24≤140737488355328∧ac.length+[ab].length≤maxLen) (kk_L3 ag ah ai aj (ac++[ab]) (i64.wrap (ad+1))))
termination_by structural x=>x
def Za8 (N:Nat) (aa:R0):Nat→ByteArray→R6→Re→R9→Rb→Int→Option R0
  | 0,_,_,_,_,_,_=>none
  | ah+1,ab,ac,ad,ae,af,ag=>if (decide (ag<(aa.2.2.2.2.length:Int)))=true then (Zea N aa ab ac ad ae af ag (Za8 N aa ah) N 0 ([]:List R4)) else (some (ab,ac,ad,ae,af))
termination_by structural x=>x
def Zd9 (N:Nat) (ab:R0):Nat→ByteArray→R6→Re→R9→Rb→Int→Option R0
  | 0,_,_,_,_,_,_=>none
  | ai+1,ae,af,ag,ac,ah,ad=>if (decide (ad<(ab.2.2.2.1.length:Int)))=true then ((Zm ab.2.2.2.1 ad).bind fun aa=>Zt ((([]:List Int).length+aa.length) * 8≤140737488355328∧([]:List Int).length+aa.length≤maxLen) (Zt ((ac.length+[([]:List Int)++aa].length) * 24≤140737488355328∧ac.length+[([]:List Int)++aa].length≤maxLen) ((Zd9 N ab ai) ae af ag (ac++[([]:List Int)++aa]) ah (i64.wrap (ad+1))))) else (Za8 N ab N ae af ag ac ah 0)
termination_by structural x=>x
def Zd8 (N:Nat) (ab:R0):Nat→ByteArray→R6→Re→R9→Rb→Int→Option R0
  | 0,_,_,_,_,_,_=>none
  | ai+1,ae,af,ac,ag,ah,ad=>if (decide (ad<(ab.2.2.1.length:Int)))=true then ((Zm ab.2.2.1 ad).bind fun aa=>Zt ((([]:List ByteArray).length+aa.length) * 16≤140737488355328∧([]:List ByteArray).length+aa.length≤maxLen) (Zt ((ac.length+[([]:List ByteArray)++aa].length) * 24≤140737488355328∧ac.length+[([]:List ByteArray)++aa].length≤maxLen) ((Zd8 N ab ai) ae af (ac++[([]:List ByteArray)++aa]) ag ah (i64.wrap (ad+1))))) else (Zd9 N ab N ae af ac ag ah 0)
termination_by structural x=>x
def Zcg (N:Nat) (aa:R0):Option R0:=
  Zt ((([]:List ByteArray).length+aa.2.1.length) * 16≤140737488355328∧([]:List ByteArray).length+aa.2.1.length≤maxLen) (Zd8 N aa N aa.1 (([]:List ByteArray)++aa.2.1) ([]:List R6) ([]:List R5) ([]:List R7) 0)
theorem Zsc {N b5 bk bm b6:Nat} {b7 a9 ba b8:Option Addr} {col:Ze} {w0:World} {ae r:R0} (c1 c2 c3 c4:Nat) (hm:Zcg N ae=some r) (eb:Sl Za.str col w0 b7 b5 ae.2.1) (dj:Sl (Za.slice Za.str) col w0 a9 bk ae.2.2.1) (dl:Sl (Za.slice (Za.int .i64)) col w0 ba bm ae.2.2.2.1) (b9:Sl (Za.slice (Za.pair (Za.pair Za.bool (Za.slice (Za.int .u32))) (Za.slice (Za.int .u32)))) col w0 b8 b6 ae.2.2.2.2):
    Calls prog 19 #[(.agg #[.string ae.1,.slice b7 ae.2.1.length b5,.slice a9 ae.2.2.1.length bk,.slice ba ae.2.2.2.1.length bm,.slice b8 ae.2.2.2.2.length b6])] w0 (fun e w'=>∃ (col':Ze) (ra1:Option Addr) (rc2:Nat) (ra4:Option Addr) (rc5:Nat) (ra7:Option Addr) (rc8:Nat) (ra10:Option Addr) (rc11:Nat),e= .returned ((.agg #[.string r.1,.slice ra1 r.2.1.length rc2,.slice ra4 r.2.2.1.length rc5,.slice ra7 r.2.2.2.1.length rc8,.slice ra10 r.2.2.2.2.length rc11]))∧Zh col w0 col' w'∧Zb Za.str 9 c1 col' w' ra1 rc2 r.2.1∧Zb (Za.row 9 Za.str) 22 c2 col' w' ra4 rc5 r.2.2.1∧Zb (Za.row 3 (Za.int .i64)) 33 c3 col' w' ra7 rc8 r.2.2.2.1∧Zb (Za.row 39 (Za.pair (Za.pair Za.bool (Za.row 95 (Za.int .u32))) (Za.row 95 (Za.int .u32)))) 114 c4 col' w' ra10 rc11 r.2.2.2.2):=by
 refine Y5 (m:=109) func19 rfl rfl rfl ?_;rw [Zcg.eq_1] at hm;have aa:=St.start col w0;refine go ?_;refine Xl (col:=(Zj col)) 1 rfl ?_;intro ca hx fz f0 ab;refine Xg (col:=fz) #[.string (⟨#[]⟩),.slice none (([]:List ByteArray).length) 0,.slice none (([]:List R6).length) 0,.slice none (([]:List R5).length) 0,(.slice none (([]:List R7).length) 0)] 2 zeroValue27 ?_;intro dm hy f1 e8 ac;refine go ?_;refine Ya ⟨_,_,rfl⟩ ?_;replace ab:=ab.gr e8;refine lW ((ab.atN).nth (q:=0) rfl)<|lV (.agg #[.string ae.1,.slice none (([]:List ByteArray).length) 0,.slice none (([]:List R6).length) 0,.slice none (([]:List R5).length) 0,(.slice none (([]:List R7).length) 0)]) (Wc (l:=[_,_,_,_,_]) (qs:=[(0,1),(1,1),(2,1),(3,1),(4,1)]) underlying27 zeroValue27 ⟨rfl,sizeOf9,rfl,sizeOf22,rfl,sizeOf23,rfl,sizeOf24,rfl,sizeOf25,trivial⟩ rfl)<|Xg (col:=f1) #[.string (⟨#[]⟩),.slice none (([]:List ByteArray).length) 0,.slice none (([]:List R6).length) 0,.slice none (([]:List R5).length) 0,(.slice none (([]:List R7).length) 0)] 3 zeroValue27 ?_;intro au hz h0 ec f2;refine Zz f2 ?_;intro h1 ed f3 dn;refine go ?_;refine Xd dn<|Ya ⟨_,_,rfl⟩ ?_;replace ab:=(ab.gr ec).kp ed;refine lW ((ab.atN).nth (q:=1) rfl) ?_;obtain ⟨f4,hm⟩:=Z3 hm;replace eb:=eb.keep (Zi.start col w0);replace aa:=(((aa.grow f0).grow e8).grow ec).kp ed f3;refine W7 (c:=4) Zb.nil (eb.ks aa).srcC f4 ?_;intro e9 fa h2 f5 dp ee;refine Ya ⟨_,_,rfl⟩ ?_;replace dn:=dn.kpp dp;refine Qr (off:=1) (v:=(.slice e9 ((([]:List ByteArray)++ae.2.1).length) fa)) dn sizeOf22 rfl rfl (by intro u hu;simp only [Value.cells,List.mem_cons,List.not_mem_nil,or_false] at hu;subst hu;rfl) rfl rfl ?_;intro f6 dq f7 ad;replace ad:Zf 27 3 f5 f6 au #[.string ae.1,.slice e9 ((([]:List ByteArray)++ae.2.1).length) fa,.slice none (([]:List R6).length) 0,.slice none (([]:List R5).length) 0,(.slice none (([]:List R7).length) 0)]:=ad;refine go ?_;replace ac:=(((ac.gr ec).kp ed).kpp dp).kp dq;replace ab:=(ab.kpp dp).kp dq;replace aa:=(aa.kpp dp).kp dq f7;replace ee:=ee.kp dq
 refine Zu [1,2,3,1000000] (fun n f a2=>∃ ag dr ds dt cq cr ct bn du dv cu dw dx cv cw cb,cb=n∧Zd8 N ae cb dr cq bn cu cv cw=some r∧St w0 (Zj col) ag a2∧Zf 27 1 ag a2 ca #[.string ae.1,.slice b7 ae.2.1.length b5,.slice a9 ae.2.2.1.length bk,.slice ba ae.2.2.2.1.length bm,.slice b8 ae.2.2.2.2.length b6]∧Zf 27 2 ag a2 dm #[.string (⟨#[]⟩),.slice none (([]:List ByteArray).length) 0,.slice none (([]:List R6).length) 0,.slice none (([]:List R5).length) 0,(.slice none (([]:List R7).length) 0)]∧Zb Za.str 9 4 ag a2 ds dt cq∧Zb (Za.row 9 Za.str) 22 5 ag a2 cr ct bn∧Zb (Za.row 3 (Za.int .i64)) 33 6 ag a2 du dv cu∧Zb (Za.row 39 (Za.pair (Za.pair Za.bool (Za.row 95 (Za.int .u32))) (Za.row 95 (Za.int .u32)))) 114 7 ag a2 dw dx cv∧Zf 27 3 ag a2 au #[.string dr,.slice ds cq.length dt,.slice cr bn.length ct,.slice du cu.length dv,.slice dw cv.length dx]∧[4].map f=[.int .i64 cw]) N ⟨_,_,_,_,_,none,0,_,none,0,_,none,0,_,0,_,rfl,hm,aa,ab,ac,ee,Zb.nil,Zb.nil,Zb.nil,ad,rfl⟩ ?_;clear hm;intro n f a2 hI;obtain ⟨ag,dr,ds,dt,cq,cr,ct,bn,du,dv,cu,dw,dx,cv,cw,cb,hn,hm,aa,ab,ac,am,a3,an,ao,ad,hs⟩:=hI;subst hn;refine .lL [4] hs ?_;replace dj:=dj.keep (Zi.start col w0);replace dl:=dl.keep (Zi.start col w0);replace b9:=b9.keep (Zi.start col w0)
 cases cb with
 | zero=>rw [Zd8.eq_1] at hm;cases hm
 | succ cb=>
  rw [Zd8.eq_2] at hm;refine go ?_;refine Xd ab ?_;refine go ?_;refine Zo hm (fun hb hm=>go ?_) fun hb hm=>go ?_
  ·refine Zni (col:=ag) (pS [8]) [(0,1),(1,5),(2,1),(3,1),(4,0),(5,1),(6,1),(7,0),(8,4),(9,3),(10,2),(11,1),(12,2)] (by kernel_rfl) (by kernel_rfl)<|Uk (v:=(.pointer ((some (⟨au,0,none⟩:Addr)).map (·.add 2)))) rfl rfl (fun _=>Tc (sz:=1) (off:=2) underlying27 rfl sizeOf23 (by decide) rfl rfl ⟨_,_,rfl⟩) ?_;refine Znm (v:=(.slice cr bn.length ct)) rfl rfl (fun _ hC=>So isAgg23 rfl (((ad.dk hC rfl rfl).atN).nth (q:=2) (v:=(.slice cr bn.length ct)) rfl)) ?_;refine Uk (v:=(.slice none (([]:List ByteArray).length) 0)) rfl rfl (fun _=>Vi rfl) ?_;refine Uk (v:=(.pointer ((some (⟨ca,0,none⟩:Addr)).map (·.add 2)))) rfl rfl (fun _=>Tc (sz:=1) (off:=2) underlying27 rfl sizeOf23 (by decide) rfl rfl ⟨_,_,rfl⟩) ?_;refine Zg6 (v:=(.slice a9 ae.2.2.1.length bk)) rfl rfl (fun _ hC=>So isAgg23 rfl (((ab.atN).nth (q:=2) (v:=(.slice a9 ae.2.2.1.length bk)) rfl).gr (hC.bl ag))) ?_;refine Uk (v:=(.int .i64 cw)) rfl rfl (fun _=>Vi rfl) ?_;obtain ⟨cc,dy,hm⟩:=bZ hm;refine Uk (v:=(X6 a9 (Int.toNat cw * 1))) rfl rfl (fun _=>Ym underlying23 sizeOf22 rfl rfl (Z4 dy).1 (Z4 dy).2.1 ((dj.ks aa).addr dy)) ?_;obtain ⟨_,f8,f9⟩:=(dj.ks aa).atN dy;obtain ⟨⟨ga,gb,rfl,ef⟩,_⟩:=f8;refine Zg6 (v:=(.slice ga cc.length gb)) rfl rfl (fun _ hC=>So isAgg22 rfl (f9.one.gr (hC.bl ag))) ?_;refine U0 rfl rfl ?_;intro gc hC0;have hC:=hC0.bl ag;replace am:=am.gr hC;replace a3:=a3.gr hC;replace an:=an.gr hC;replace ao:=ao.gr hC;replace ef:=ef.gr hC;replace ab:=ab.gr hC;replace ac:=ac.gr hC;replace ad:=ad.gr hC;replace aa:=aa.grow hC;have eg:Zq (pS [8]) ag a2 ag gc:=hC.toP;obtain ⟨gd,hm⟩:=Z3 hm;refine W7 (c:=8) Zb.nil ef.srcC gd ?_;intro fb fc eh bv bb ei;replace am:=am.kpp bb;replace a3:=a3.kpp bb;replace an:=an.kpp bb;replace ao:=ao.kpp bb;replace ab:=ab.kpp bb;replace ac:=ac.kpp bb;replace ad:=ad.kpp bb;replace eg:=eg.trans (bb.mono (by first | exact Zmw rfl | exact pS_p1 rfl | exact Zmx rfl));refine Zl ?_;refine ⟨fun w'=>Zh bv eh bv w',fun w'=>∃ c',Zq (pS [8]) bv eh c' w',Zh.refl _ _,fun _ h=>⟨_,h.toP⟩,fun h=>absurd h (by decide),fun _ _ ⟨c9,h⟩=>⟨c9,eg.trans h⟩,?_⟩;refine U0 rfl rfl ?_;intro ge hC0;have hC:=hC0.bl bv;replace aa:=(aa.kpp bb).grow hC;replace am:=am.gr hC;replace a3:=a3.gr hC;replace an:=an.gr hC;replace ao:=ao.gr hC;replace ei:=ei.gr hC;replace ab:=ab.gr hC;replace ac:=ac.gr hC;replace ad:=ad.gr hC
   have ej:Zq (pS [8]) bv eh bv ge:=hC.toP;refine V0 (col:=bv) (r:=(Za.row 9 Za.str)) (xs:=[([]:List ByteArray)++cc]) [.slice fb ((([]:List ByteArray)++cc).length) fc] 8 (Y1.cons1 (cs:=[.slice fb ((([]:List ByteArray)++cc).length) fc]) ei.has Rows.nil0) ?_;intro h3 fd cx a4 ek;replace ej:=ej.gr a4;refine Zl ?_;refine ⟨fun w'=>Zh cx fd cx w',fun w'=>∃ c',Zq (pS [8]) cx fd c' w',Zh.refl _ _,fun _ h=>⟨_,h.toP⟩,fun _ _ h=>T6 hC0 a4 h,fun _ _ ⟨c9,h⟩=>⟨c9,ej.trans h⟩,?_⟩;refine U0 rfl rfl ?_;intro gf hC0;have hC:=hC0.bl cx;obtain ⟨fe,hm⟩:=Z3 hm;replace a3:=(a3.gr a4).gr hC;replace ek:=ek.gr hC;refine Sy (col:=cx) (w:=gf) (r:=(Za.row 9 Za.str)) (c:=5) (c2:=8) (a3.ex) (ek.srcC (by decide)) rfl underlying23 Z2v rfl rfl rfl fe.1 fe.2 (by decide) ?_;intro ff fg fh bc bw el;refine Zl ?_;refine ⟨fun w'=>Zh bc fh bc w',fun w'=>∃ c',Zq (pS [8]) bc fh c' w',Zh.refl _ _,fun _ h=>⟨_,h.toP⟩,fun h=>absurd h (by decide),fun h=>absurd h (by decide),?_⟩;refine Uk (v:=(.pointer ((some (⟨au,0,none⟩:Addr)).map (·.add 2)))) rfl rfl (fun _=>Tc (sz:=1) (off:=2) underlying27 rfl sizeOf23 (by decide) rfl rfl ⟨_,_,rfl⟩) ?_;refine U0 rfl rfl ?_;intro h4 hC0;replace am:=((am.gr a4).gr hC).kpp bw;replace an:=((an.gr a4).gr hC).kpp bw;replace ao:=((ao.gr a4).gr hC).kpp bw;replace ab:=((ab.gr a4).gr hC).kpp bw;replace ac:=((ac.gr a4).gr hC).kpp bw;replace ad:=((ad.gr a4).gr hC).kpp bw;replace aa:=((aa.grow a4).grow hC).kpp bw;have hC:=hC0.bl bc;replace ad:=ad.gr hC;refine Qr (off:=2) (v:=(.slice ff ((bn++[([]:List ByteArray)++cc]).length) fg)) ad sizeOf23 rfl rfl (by intro u hu;simp only [Value.cells,List.mem_cons,List.not_mem_nil,or_false] at hu;subst hu;rfl) rfl rfl ?_;intro em bx gg cy;replace cy:Zf 27 3 bc em au #[.string dr,.slice ds cq.length dt,.slice ff ((bn++[([]:List ByteArray)++cc]).length) fg,.slice du cu.length dv,.slice dw cv.length dx]:=cy;refine Zl ?_;refine ⟨fun w'=>Zh bc em bc w',fun w'=>∃ c',Zq (pS [8]) bc em c' w',Zh.refl _ _,fun _ h=>⟨_,h.toP⟩,fun h=>absurd h (by decide),fun h=>absurd h (by decide),?_⟩;replace el:=(el.gr hC).kp bx;have en:=el.new;refine Znl ?_;replace am:=(am.gr hC).kp bx;replace an:=(an.gr hC).kp bx;replace ao:=(ao.gr hC).kp bx;replace ab:=(ab.gr hC).kp bx;replace ac:=(ac.gr hC).kp bx;replace aa:=(aa.grow hC).kp bx gg;intro h5 hC;replace hC:=hC.bl bc;refine go ?_
   replace am:=am.gr hC;replace en:=en.gr hC;replace an:=an.gr hC;replace ao:=ao.gr hC;replace ab:=ab.gr hC;replace ac:=ac.gr hC;replace cy:=cy.gr hC;replace aa:=aa.grow hC;exact ⟨cb,by omega,rfl,⟨_,_,_,_,_,_,_,_,_,_,_,_,_,_,_,_,rfl,hm,aa,ab,ac,am,en,an,ao,cy,rfl⟩⟩
  refine Zu [1,2,3,1000000] (fun n f a5=>∃ ah dz d0 d1 cz d2 d3 c0 c5 c6 bo d4 d5 c7 c8 cd,cd=n∧Zd9 N ae cd dz cz c0 bo c7 c8=some r∧St w0 (Zj col) ah a5∧Zf 27 1 ah a5 ca #[.string ae.1,.slice b7 ae.2.1.length b5,.slice a9 ae.2.2.1.length bk,.slice ba ae.2.2.2.1.length bm,.slice b8 ae.2.2.2.2.length b6]∧Zf 27 2 ah a5 dm #[.string (⟨#[]⟩),.slice none (([]:List ByteArray).length) 0,.slice none (([]:List R6).length) 0,.slice none (([]:List R5).length) 0,(.slice none (([]:List R7).length) 0)]∧Zb Za.str 9 4 ah a5 d0 d1 cz∧Zb (Za.row 9 Za.str) 22 5 ah a5 d2 d3 c0∧Zb (Za.row 3 (Za.int .i64)) 33 6 ah a5 c5 c6 bo∧Zb (Za.row 39 (Za.pair (Za.pair Za.bool (Za.row 95 (Za.int .u32))) (Za.row 95 (Za.int .u32)))) 114 7 ah a5 d4 d5 c7∧Zf 27 3 ah a5 au #[.string dz,.slice d0 cz.length d1,.slice d2 c0.length d3,.slice c5 bo.length c6,.slice d4 c7.length d5]∧[6].map f=[.int .i64 c8]) N ⟨_,_,_,_,_,_,_,_,_,_,_,_,_,_,0,_,rfl,hm,aa,ab,ac,am,a3,an,ao,ad,rfl⟩ ?_;clear hm;intro n f a5 hI;obtain ⟨ah,dz,d0,d1,cz,d2,d3,c0,c5,c6,bo,d4,d5,c7,c8,cd,hn,hm,aa,ab,ac,ap,aq,a6,ar,ad,hs⟩:=hI;subst hn;refine .lL [6] hs ?_
  cases cd with
  | zero=>rw [Zd9.eq_1] at hm;cases hm
  | succ cd=>
   rw [Zd9.eq_2] at hm;refine go ?_;refine Xd ab ?_;refine go ?_;refine Zo hm (fun hb hm=>go ?_) fun hb hm=>go ?_
   ·refine Zni (col:=ah) (pS [9]) [(0,1),(1,5),(2,1),(3,1),(4,0),(5,1),(6,1),(7,0),(8,4),(9,3),(10,2),(11,1),(12,2)] (by kernel_rfl) (by kernel_rfl)<|Uk (v:=(.pointer ((some (⟨au,0,none⟩:Addr)).map (·.add 3)))) rfl rfl (fun _=>Tc (sz:=1) (off:=3) underlying27 rfl sizeOf24 (by decide) rfl rfl ⟨_,_,rfl⟩) ?_;refine Znm (v:=(.slice c5 bo.length c6)) rfl rfl (fun _ hC=>So isAgg24 rfl (((ad.dk hC rfl rfl).atN).nth (q:=3) (v:=(.slice c5 bo.length c6)) rfl)) ?_;refine Uk (v:=(.slice none (([]:List Int).length) 0)) rfl rfl (fun _=>Vi rfl) ?_;refine Uk (v:=(.pointer ((some (⟨ca,0,none⟩:Addr)).map (·.add 3)))) rfl rfl (fun _=>Tc (sz:=1) (off:=3) underlying27 rfl sizeOf24 (by decide) rfl rfl ⟨_,_,rfl⟩) ?_;refine Zg6 (v:=(.slice ba ae.2.2.2.1.length bm)) rfl rfl (fun _ hC=>So isAgg24 rfl (((ab.atN).nth (q:=3) (v:=(.slice ba ae.2.2.2.1.length bm)) rfl).gr (hC.bl ah))) ?_;refine Uk (v:=(.int .i64 c8)) rfl rfl (fun _=>Vi rfl) ?_;obtain ⟨ce,d6,hm⟩:=bZ hm;refine Uk (v:=(X6 ba (Int.toNat c8 * 1))) rfl rfl (fun _=>Ym underlying24 sizeOf33 rfl rfl (Z4 d6).1 (Z4 d6).2.1 ((dl.ks aa).addr d6)) ?_;obtain ⟨_,gh,gi⟩:=(dl.ks aa).atN d6;obtain ⟨⟨gj,gk,rfl,eo⟩,_⟩:=gh;refine Zg6 (v:=(.slice gj ce.length gk)) rfl rfl (fun _ hC=>So isAgg33 rfl (gi.one.gr (hC.bl ah))) ?_;refine U0 rfl rfl ?_;intro gl hC0;have hC:=hC0.bl ah;replace ap:=ap.gr hC;replace aq:=aq.gr hC;replace a6:=a6.gr hC;replace ar:=ar.gr hC;replace eo:=eo.gr hC;replace ab:=ab.gr hC;replace ac:=ac.gr hC;replace ad:=ad.gr hC;replace aa:=aa.grow hC;have ep:Zq (pS [9]) ah a5 ah gl:=hC.toP;obtain ⟨gm,hm⟩:=Z3 hm;refine W7 (c:=9) Zb.nil eo.srcC gm ?_;intro fi fj eq bz bd er;replace ap:=ap.kpp bd;replace aq:=aq.kpp bd;replace a6:=a6.kpp bd;replace ar:=ar.kpp bd;replace ab:=ab.kpp bd;replace ac:=ac.kpp bd;replace ad:=ad.kpp bd;replace ep:=ep.trans (bd.mono (by first | exact Zmw rfl | exact pS_p1 rfl | exact Zmx rfl));refine Zl ?_;refine ⟨fun w'=>Zh bz eq bz w',fun w'=>∃ c',Zq (pS [9]) bz eq c' w',Zh.refl _ _,fun _ h=>⟨_,h.toP⟩,fun h=>absurd h (by decide),fun _ _ ⟨c9,h⟩=>⟨c9,ep.trans h⟩,?_⟩;refine U0 rfl rfl ?_;intro gp hC0;have hC:=hC0.bl bz;replace aa:=(aa.kpp bd).grow hC;replace ap:=ap.gr hC;replace aq:=aq.gr hC;replace a6:=a6.gr hC;replace ar:=ar.gr hC;replace er:=er.gr hC;replace ab:=ab.gr hC;replace ac:=ac.gr hC
    replace ad:=ad.gr hC;have es:Zq (pS [9]) bz eq bz gp:=hC.toP;refine V0 (col:=bz) (r:=(Za.row 3 (Za.int .i64))) (xs:=[([]:List Int)++ce]) [.slice fi ((([]:List Int)++ce).length) fj] 9 (Y1.cons1 (cs:=[.slice fi ((([]:List Int)++ce).length) fj]) er.has Rows.nil0) ?_;intro h6 fk da a7 et;replace es:=es.gr a7;refine Zl ?_;refine ⟨fun w'=>Zh da fk da w',fun w'=>∃ c',Zq (pS [9]) da fk c' w',Zh.refl _ _,fun _ h=>⟨_,h.toP⟩,fun _ _ h=>T6 hC0 a7 h,fun _ _ ⟨c9,h⟩=>⟨c9,es.trans h⟩,?_⟩;refine U0 rfl rfl ?_;intro gs hC0;have hC:=hC0.bl da;obtain ⟨fl,hm⟩:=Z3 hm;replace a6:=(a6.gr a7).gr hC;replace et:=et.gr hC;refine Sy (col:=da) (w:=gs) (r:=(Za.row 3 (Za.int .i64))) (c:=6) (c2:=9) (a6.ex) (et.srcC (by decide)) rfl underlying24 Z2x rfl rfl rfl fl.1 fl.2 (by decide) ?_;intro fm fn fp be b0 eu;refine Zl ?_;refine ⟨fun w'=>Zh be fp be w',fun w'=>∃ c',Zq (pS [9]) be fp c' w',Zh.refl _ _,fun _ h=>⟨_,h.toP⟩,fun h=>absurd h (by decide),fun h=>absurd h (by decide),?_⟩;refine Uk (v:=(.pointer ((some (⟨au,0,none⟩:Addr)).map (·.add 3)))) rfl rfl (fun _=>Tc (sz:=1) (off:=3) underlying27 rfl sizeOf24 (by decide) rfl rfl ⟨_,_,rfl⟩) ?_;refine U0 rfl rfl ?_;intro h7 hC0;replace ap:=((ap.gr a7).gr hC).kpp b0;replace aq:=((aq.gr a7).gr hC).kpp b0;replace ar:=((ar.gr a7).gr hC).kpp b0;replace ab:=((ab.gr a7).gr hC).kpp b0;replace ac:=((ac.gr a7).gr hC).kpp b0;replace ad:=((ad.gr a7).gr hC).kpp b0;replace aa:=((aa.grow a7).grow hC).kpp b0;have hC:=hC0.bl be;replace ad:=ad.gr hC;refine Qr (off:=3) (v:=(.slice fm ((bo++[([]:List Int)++ce]).length) fn)) ad sizeOf24 rfl rfl (by intro u hu;simp only [Value.cells,List.mem_cons,List.not_mem_nil,or_false] at hu;subst hu;rfl) rfl rfl ?_;intro ew b1 gt db;replace db:Zf 27 3 be ew au #[.string dz,.slice d0 cz.length d1,.slice d2 c0.length d3,.slice fm ((bo++[([]:List Int)++ce]).length) fn,.slice d4 c7.length d5]:=db;refine Zl ?_;refine ⟨fun w'=>Zh be ew be w',fun w'=>∃ c',Zq (pS [9]) be ew c' w',Zh.refl _ _,fun _ h=>⟨_,h.toP⟩,fun h=>absurd h (by decide),fun h=>absurd h (by decide),?_⟩;replace eu:=(eu.gr hC).kp b1;have ey:=eu.new;refine Znl ?_;replace ap:=(ap.gr hC).kp b1;replace aq:=(aq.gr hC).kp b1;replace ar:=(ar.gr hC).kp b1;replace ab:=(ab.gr hC).kp b1
    replace ac:=(ac.gr hC).kp b1;replace aa:=(aa.grow hC).kp b1 gt;intro h8 hC;replace hC:=hC.bl be;refine go ?_;replace ap:=ap.gr hC;replace aq:=aq.gr hC;replace ey:=ey.gr hC;replace ar:=ar.gr hC;replace ab:=ab.gr hC;replace ac:=ac.gr hC;replace db:=db.gr hC;replace aa:=aa.grow hC;exact ⟨cd,by omega,rfl,⟨_,_,_,_,_,_,_,_,_,_,_,_,_,_,_,_,rfl,hm,aa,ab,ac,ap,aq,ey,ar,db,rfl⟩⟩
   refine Zu [1,2,3,1000000] (fun n f bf=>∃ bg cf cg ch bp ci cj bq ck cl br dc dd bh d7 b2,b2=n∧Za8 N ae b2 cf bp bq br bh d7=some r∧St w0 (Zj col) bg bf∧Zf 27 1 bg bf ca #[.string ae.1,.slice b7 ae.2.1.length b5,.slice a9 ae.2.2.1.length bk,.slice ba ae.2.2.2.1.length bm,.slice b8 ae.2.2.2.2.length b6]∧Zf 27 2 bg bf dm #[.string (⟨#[]⟩),.slice none (([]:List ByteArray).length) 0,.slice none (([]:List R6).length) 0,.slice none (([]:List R5).length) 0,(.slice none (([]:List R7).length) 0)]∧Zb Za.str 9 4 bg bf cg ch bp∧Zb (Za.row 9 Za.str) 22 5 bg bf ci cj bq∧Zb (Za.row 3 (Za.int .i64)) 33 6 bg bf ck cl br∧Zb (Za.row 39 (Za.pair (Za.pair Za.bool (Za.row 95 (Za.int .u32))) (Za.row 95 (Za.int .u32)))) 114 7 bg bf dc dd bh∧Zf 27 3 bg bf au #[.string cf,.slice cg bp.length ch,.slice ci bq.length cj,.slice ck br.length cl,.slice dc bh.length dd]∧[8].map f=[.int .i64 d7]) N ⟨_,_,_,_,_,_,_,_,_,_,_,_,_,_,0,_,rfl,hm,aa,ab,ac,ap,aq,a6,ar,ad,rfl⟩ ?_;clear hm;intro n f bf hI;obtain ⟨bg,cf,cg,ch,bp,ci,cj,bq,ck,cl,br,dc,dd,bh,d7,b2,hn,hm,aa,ab,ac,ai,aj,ak,al,ad,hs⟩:=hI;subst hn;refine .lL [8] hs ?_
   cases b2 with
   | zero=>rw [Za8.eq_1] at hm;cases hm
   | succ b2=>
    rw [Za8.eq_2] at hm;refine go ?_;refine Xd ab ?_;refine go ?_;refine Zo hm (fun hb hm=>go ?_) fun hb hm=>go ?_
    ·refine Zu [1,2,3,8,1000000] (fun n f a8=>∃ av ez de df bi cn,cn=n∧Zea N ae cf bp bq br bh d7 (Za8 N ae b2) cn ez bi=some r∧St w0 (Zj col) av a8∧Zf 27 1 av a8 ca #[.string ae.1,.slice b7 ae.2.1.length b5,.slice a9 ae.2.2.1.length bk,.slice ba ae.2.2.2.1.length bm,.slice b8 ae.2.2.2.2.length b6]∧Zf 27 2 av a8 dm #[.string (⟨#[]⟩),.slice none (([]:List ByteArray).length) 0,.slice none (([]:List R6).length) 0,.slice none (([]:List R5).length) 0,(.slice none (([]:List R7).length) 0)]∧Zb Za.str 9 4 av a8 cg ch bp∧Zb (Za.row 9 Za.str) 22 5 av a8 ci cj bq∧Zb (Za.row 3 (Za.int .i64)) 33 6 av a8 ck cl br∧Zb (Za.row 39 (Za.pair (Za.pair Za.bool (Za.row 95 (Za.int .u32))) (Za.row 95 (Za.int .u32)))) 114 7 av a8 dc dd bh∧Zf 27 3 av a8 au #[.string cf,.slice cg bp.length ch,.slice ci bq.length cj,.slice ck br.length cl,.slice dc bh.length dd]∧Zb (Za.pair (Za.pair Za.bool (Za.row 95 (Za.int .u32))) (Za.row 95 (Za.int .u32))) 39 10 av a8 de df bi∧[10,9].map f=[.int .i64 ez,.slice de bi.length df]) N ⟨_,0,none,0,_,_,rfl,hm,aa,ab,ac,ai,aj,ak,al,ad,Zb.nil,rfl⟩ ?_;clear hm;intro n f a8 hI;obtain ⟨av,ez,de,df,bi,cn,hn,hm,aa,ab,ac,ai,aj,ak,al,ad,bs,hs⟩:=hI;subst hn;refine .lL [10,9] hs ?_
     cases cn with
     | zero=>rw [Zea.eq_1] at hm;cases hm
     | succ cn=>
      rw [Zea.eq_2] at hm;refine go ?_;refine Xd ab<|Xp rfl ?_;obtain ⟨h9,co,hm⟩:=bZ hm;refine lI co ((b9.ks aa).addr co) ?_;obtain ⟨_,gu,gv⟩:=(b9.ks aa).atN co;obtain ⟨⟨ia,ib,rfl,ic⟩,_⟩:=gu;refine lW gv.one<|go ?_;refine Zo hm (fun hb hm=>go ?_) fun hb hm=>go ?_
      ·refine Xd ab<|Xp rfl<|lI co ((b9.ks aa).addr co) ?_;obtain ⟨_,gw,gx⟩:=(b9.ks aa).atN co;obtain ⟨⟨id,ie,rfl,fq⟩,_⟩:=gw;refine lW gx.one<|Xp rfl ?_;obtain ⟨af,e0,hm⟩:=bZ hm;refine lI e0 (fq.addr e0) ?_;obtain ⟨_,gy,gz⟩:=fq.atN e0;obtain ⟨_,_,rfl,g0,g1⟩:=V4 gy;obtain ⟨_,_,rfl,g2,g3⟩:=V4 g0;obtain ⟨rfl,_⟩:=g2;obtain ⟨⟨g4,g5,rfl,e1⟩,_⟩:=g3;obtain ⟨⟨fr,ft,rfl,e2⟩,_⟩:=g1;refine lV (.agg #[.bool af.1.1,.slice g4 af.1.2.length g5,.slice fr af.2.length ft]) (Wj isAgg39 sizeOf39 rfl rfl gz)<|Xg (col:=av) #[.bool false,.slice none (([]:List Int).length) 0,.slice none (([]:List Int).length) 0] 11 zeroValue39 ?_;intro fu ig ih aw g6;refine Zz g6 ?_;intro ii ax g7 d8;refine go ?_;refine Ya ⟨_,_,rfl⟩ ?_;refine Ya (Zad ⟨_,_,rfl⟩) ?_;refine lW ((((d8.atN).part 0 2 _ rfl)).nth (q:=1) rfl) ?_;obtain ⟨g8,hm⟩:=Z3 hm;replace e1:=(e1.gr aw).kp ax;refine W7 (c:=12) Zb.nil e1.srcC g8 ?_;intro dg dh ij g9 ay e3;refine Ya ⟨_,_,rfl⟩ ?_;refine Ya (Zad ⟨_,_,rfl⟩) ?_;replace d8:=d8.kpp ay;refine Qr (off:=1) (v:=(.slice dg ((([]:List Int)++af.1.2).length) dh)) d8 sizeOf35 rfl rfl (by intro u hu;simp only [Value.cells,List.mem_cons,List.not_mem_nil,or_false] at hu;subst hu;rfl) rfl rfl ?_;intro ha az hc cp;replace cp:Zf 39 11 g9 ha fu #[.bool af.1.1,.slice dg ((([]:List Int)++af.1.2).length) dh,.slice fr af.2.length ft]:=cp;refine go ?_;refine Xd cp ?_;obtain ⟨hd,hm⟩:=Z3 hm;replace e2:=(((e2.gr aw).kp ax).kpp ay).kp az;refine W7 (c:=13) Zb.nil e2.srcC hd ?_;intro d9 ea ik fv a0 e4;refine Ya ⟨_,_,rfl⟩ ?_;replace cp:=cp.kpp a0;refine Qr (off:=2) (v:=(.slice d9 ((([]:List Int)++af.2).length) ea)) cp sizeOf35 rfl rfl (by intro u hu;simp only [Value.cells,List.mem_cons,List.not_mem_nil,or_false] at hu;subst hu;rfl) rfl rfl ?_;intro he a1 hf e5;replace e5:Zf 39 11 fv he fu #[.bool af.1.1,.slice dg ((([]:List Int)++af.1.2).length) dh,.slice d9 ((([]:List Int)++af.2).length) ea]:=e5;refine go ?_;refine lV _ (Z2 isAgg39 sizeOf39 e5) ?_;replace e3:=((e3.kp az).kpp a0).kp a1;replace e4:=e4.kp a1;have hg:=Xu.join (Xu.joinL (Zab af.1.1) e3.has) e4.has (by decide) (by decide)
       replace ai:=(((((ai.gr aw).kp ax).kpp ay).kp az).kpp a0).kp a1;replace ai:=ai.recol 13 12 (by decide);replace aj:=(((((aj.gr aw).kp ax).kpp ay).kp az).kpp a0).kp a1;replace aj:=aj.recol 13 12 (by decide);replace ak:=(((((ak.gr aw).kp ax).kpp ay).kp az).kpp a0).kp a1;replace ak:=ak.recol 13 12 (by decide);replace al:=(((((al.gr aw).kp ax).kpp ay).kp az).kpp a0).kp a1;replace al:=al.recol 13 12 (by decide);replace bs:=(((((bs.gr aw).kp ax).kpp ay).kp az).kpp a0).kp a1;replace bs:=bs.recol 13 12 (by decide);replace ab:=(((((ab.gr aw).kp ax).kpp ay).kp az).kpp a0).kp a1;replace ab:=ab.recol 13 12 (by decide);replace ac:=(((((ac.gr aw).kp ax).kpp ay).kp az).kpp a0).kp a1;replace ac:=ac.recol 13 12 (by decide);replace ad:=(((((ad.gr aw).kp ax).kpp ay).kp az).kpp a0).kp a1;replace ad:=ad.recol 13 12 (by decide);replace aa:=(((((aa.grow aw).kp ax g7).kpp ay).kp az hc).kpp a0).kp a1 hf;replace aa:=aa.recol 13 12 (by decide) (by decide);refine V0 (col:=(Xm 13 12 fv)) (r:=(Za.pair (Za.pair Za.bool (Za.row 95 (Za.int .u32))) (Za.row 95 (Za.int .u32)))) (xs:=[((af.1.1,([]:List Int)++af.1.2),([]:List Int)++af.2)]) [(.agg #[.bool af.1.1,.slice dg ((([]:List Int)++af.1.2).length) dh,.slice d9 ((([]:List Int)++af.2).length) ea])] 12 (Y1.cons1 (cs:=[.bool af.1.1,.slice dg ((([]:List Int)++af.1.2).length) dh,.slice d9 ((([]:List Int)++af.2).length) ea]) hg Rows.nil0) ?_;intro il im io bj hh;obtain ⟨hi,hm⟩:=Z3 hm;replace bs:=bs.gr bj;refine W7 (c:=10) (c2:=12) bs (hh.srcC (by decide)) hi ?_;intro ip iq ir it bt hj;refine go ?_;replace ai:=(ai.gr bj).kpp bt;replace aj:=(aj.gr bj).kpp bt;replace ak:=(ak.gr bj).kpp bt;replace al:=(al.gr bj).kpp bt;replace ab:=(ab.gr bj).kpp bt;replace ac:=(ac.gr bj).kpp bt;replace ad:=(ad.gr bj).kpp bt;replace aa:=(aa.grow bj).kpp bt;exact ⟨cn,by omega,rfl,⟨_,_,_,_,_,_,rfl,hm,aa,ab,ac,ai,aj,ak,al,ad,hj,rfl⟩⟩
      refine Xd ad<|Yk rfl<|V0 (col:=av) (r:=(Za.row 39 (Za.pair (Za.pair Za.bool (Za.row 95 (Za.int .u32))) (Za.row 95 (Za.int .u32))))) (xs:=[bi]) [.slice de bi.length df] 10 (Y1.cons1 (cs:=[.slice de bi.length df]) bs.has Rows.nil0) ?_;intro iu hk hl bu ho;obtain ⟨fw,hm⟩:=Z3 hm;replace al:=al.gr bu;refine Sy (col:=hl) (w:=hk) (r:=(Za.row 39 (Za.pair (Za.pair Za.bool (Za.row 95 (Za.int .u32))) (Za.row 95 (Za.int .u32))))) (c:=7) (c2:=10) (al.ex) (ho.srcC (by decide)) rfl underlying25 Z2t rfl rfl rfl fw.1 fw.2 (by decide) ?_;intro fx fy iv hp b3 e6;refine Ya ⟨_,_,rfl⟩ ?_;replace ad:=(ad.gr bu).kpp b3;refine Qr (off:=4) (v:=(.slice fx ((bh++[bi]).length) fy)) ad sizeOf25 rfl rfl (by intro u hu;simp only [Value.cells,List.mem_cons,List.not_mem_nil,or_false] at hu;subst hu;rfl) rfl rfl ?_;intro hq b4 hr e7;replace e7:Zf 27 3 hp hq au #[.string cf,.slice cg bp.length ch,.slice ci bq.length cj,.slice ck br.length cl,.slice fx ((bh++[bi]).length) fy]:=e7;replace e6:=e6.kp b4;have ht:=e6.new;refine go ?_;replace ai:=((ai.gr bu).kpp b3).kp b4;replace aj:=((aj.gr bu).kpp b3).kp b4;replace ak:=((ak.gr bu).kpp b3).kp b4;replace ab:=((ab.gr bu).kpp b3).kp b4;replace ac:=((ac.gr bu).kpp b3).kp b4;replace aa:=((aa.grow bu).kpp b3).kp b4 hr;exact ⟨b2,by omega,rfl,⟨_,_,_,_,_,_,_,_,_,_,_,_,_,_,_,_,rfl,hm,aa,ab,ac,ai,aj,ak,ht,e7,rfl⟩⟩
    refine lV _ (Z2 isAgg27 sizeOf27 ad)<|Zz ac ?_;intro iw di hv hw;refine go ?_;cases hm;replace ai:=ai.kp di;replace aj:=aj.kp di;replace ak:=ak.kp di;replace al:=al.kp di;replace aa:=aa.kp di hv;exact ⟨rfl,_,ra hw.atN,_,_,_,_,_,_,_,_,_,rfl,aa.fin (cm [(4,c1),(5,c2),(6,c3),(7,c4)]),aa.fo ai,aa.fo aj,aa.fo ak,aa.fo al⟩
def Zis (N:Nat) (ab:List ByteArray) (ac:List ByteArray):Nat→Int→Option Bool
  | 0,_=>none
  | ad+1,aa=>if (decide (aa<(ab.length:Int)))=true then ((Zm ab aa).bind fun ae=>(Zm ac aa).bind fun af=>if (!decide (ae=af))=true then (some false) else ((Zis N ab ac ad) (i64.wrap (aa+1)))) else (some true)
termination_by structural x=>x
def Zlz (N:Nat) (aa:List ByteArray) (ab:List ByteArray):Option Bool:=
  if (!decide ((aa.length:Int)=(ab.length:Int)))=true then (some false) else (Zis N aa ab N 0)
theorem Zsa {N ai aj:Nat} {a0 a1:Option Addr} {col:Ze} {w0:World} {ad ae:R6} {r:Bool} (hm:Zlz N ad ae=some r) (h0:Sl Za.str col w0 a0 ai ad) (h1:Sl Za.str col w0 a1 aj ae):
    Calls prog 113 #[.slice a0 ad.length ai,.slice a1 ae.length aj] w0 (fun e w'=>e= .returned ((.bool r))∧Below w0.heap.size w0 w'):=by
 refine Xf 4 (m:=26) func113 rfl rfl rfl rfl rfl ?_;rw [Zlz.eq_1] at hm;have aa:=St.start col w0;refine go ?_;replace h0:=h0.keep (Zi.start col w0);replace h1:=h1.keep (Zi.start col w0);refine Zo hm (fun hb hm=>go ?_) fun hb hm=>go ?_
 ·cases hm;exact ⟨rfl,rfl,aa.below⟩
 refine Zu [0,1,1000000] (fun n f ak=>∃ ab af ac,ac=n∧Zis N ad ae ac af=some r∧St w0 (Zj col) ab ak∧[5].map f=[.int .i64 af]) N ⟨_,0,_,rfl,hm,aa,rfl⟩ ?_;clear hm;intro n f ak hI;obtain ⟨ab,af,ac,hn,hm,aa,hs⟩:=hI;subst hn;refine .lL [5] hs ?_
 cases ac with
 | zero=>rw [Zis.eq_1] at hm;cases hm
 | succ ac=>
  rw [Zis.eq_2] at hm;refine go ?_;refine Zo hm (fun hb hm=>go ?_) fun hb hm=>go ?_
  ·refine Vj (col:=ab) (by kernel_rfl) (by kernel_rfl)<|go ?_;obtain ⟨al,ag,hm⟩:=bZ hm;refine qI ag ((h0.ks aa).addr ag)<|qW (fun _ hC=>((h0.ks aa).gr (hC.bl ab)).atStr ag) ?_;refine go ?_;obtain ⟨am,ah,hm⟩:=bZ hm;refine qI ah ((h1.ks aa).addr ah)<|qW (fun _ hC=>((h1.ks aa).gr (hC.bl ab)).atStr ah) ?_;refine go ?_;refine Ws ?_;intro an hC;replace hC:=hC.bl ab;replace aa:=aa.grow hC;refine Zo hm (fun hb hm=>go ?_) fun hb hm=>go ?_
   ·cases hm;exact ⟨rfl,rfl,aa.below⟩
   exact ⟨ac,by omega,rfl,⟨_,_,_,rfl,hm,aa,rfl⟩⟩
  cases hm;exact ⟨rfl,rfl,aa.below⟩
def Zi5 (N:Nat) (ab:R9) (ac:R9):Nat→Int→Option Bool
  | 0,_=>none
  | ad+1,aa=>if (decide (aa<(ab.length:Int)))=true then ((Zm ab aa).bind fun ae=>(Zm ac aa).bind fun af=>(Zpd N ae af).bind fun ag=>if (!ag)=true then (some false) else ((Zi5 N ab ac ad) (i64.wrap (aa+1)))) else (some true)
termination_by structural x=>x
def Zpf (N:Nat) (aa:R9) (ab:R9):Option Bool:=
  if (!decide ((aa.length:Int)=(ab.length:Int)))=true then (some false) else (Zi5 N aa ab N 0)
theorem Z1l {N ai aj:Nat} {a0 a1:Option Addr} {col:Ze} {w0:World} {ad ae:R9} {r:Bool} (hm:Zpf N ad ae=some r) (h0:Sl (Za.slice (Za.int .i64)) col w0 a0 ai ad) (h1:Sl (Za.slice (Za.int .i64)) col w0 a1 aj ae):
    Calls prog 114 #[.slice a0 ad.length ai,.slice a1 ae.length aj] w0 (fun e w'=>e= .returned ((.bool r))∧Below w0.heap.size w0 w'):=by
 refine Xf 4 (m:=29) func114 rfl rfl rfl rfl rfl ?_;rw [Zpf.eq_1] at hm;have aa:=St.start col w0;refine go ?_;replace h0:=h0.keep (Zi.start col w0);replace h1:=h1.keep (Zi.start col w0);refine Zo hm (fun hb hm=>go ?_) fun hb hm=>go ?_
 ·cases hm;exact ⟨rfl,rfl,aa.below⟩
 refine Zu [0,1,1000000] (fun n f ak=>∃ ab af ac,ac=n∧Zi5 N ad ae ac af=some r∧St w0 (Zj col) ab ak∧[5].map f=[.int .i64 af]) N ⟨_,0,_,rfl,hm,aa,rfl⟩ ?_;clear hm;intro n f ak hI;obtain ⟨ab,af,ac,hn,hm,aa,hs⟩:=hI;subst hn;refine .lL [5] hs ?_
 cases ac with
 | zero=>rw [Zi5.eq_1] at hm;cases hm
 | succ ac=>
  rw [Zi5.eq_2] at hm;refine go ?_;refine Zo hm (fun hb hm=>go ?_) fun hb hm=>go ?_
  ·refine Vj (col:=ab) (by kernel_rfl) (by kernel_rfl)<|go ?_;obtain ⟨av,ag,hm⟩:=bZ hm;refine qI ag ((h0.ks aa).addr ag) ?_;obtain ⟨_,al,am⟩:=(h0.ks aa).atN ag;obtain ⟨⟨aw,ax,rfl,an⟩,_⟩:=al;refine qW (fun _ hC=>am.one.gr (hC.bl ab)) ?_;refine go ?_;obtain ⟨ay,ah,hm⟩:=bZ hm;refine qI ah ((h1.ks aa).addr ah) ?_;obtain ⟨_,ao,ap⟩:=(h1.ks aa).atN ah;obtain ⟨⟨az,a2,rfl,aq⟩,_⟩:=ao;refine qW (fun _ hC=>ap.one.gr (hC.bl ab)) ?_;obtain ⟨ar,au,hm⟩:=bZ hm;refine qc (v:=(.bool ar)) rfl (fun _ hC=>⟨_,_,Zjr call165 rfl rfl,(Z1g au (an.gr (hC.bl ab)) (aq.gr (hC.bl ab)):).mono fun _ _ h=>⟨h.1,hC.trans (.of_below h.2)⟩⟩) ?_;refine go ?_;refine Ws ?_;intro a3 hC;replace hC:=hC.bl ab;refine go ?_;replace aa:=aa.grow hC;refine Zo hm (fun hb hm=>go ?_) fun hb hm=>go ?_
   ·cases hm;exact ⟨rfl,rfl,aa.below⟩
   exact ⟨ac,by omega,rfl,⟨_,_,_,rfl,hm,aa,rfl⟩⟩
  cases hm;exact ⟨rfl,rfl,aa.below⟩
def Zl9 (aa:Int) (kk_L1:(Bool→Int→Option Bool)) (ab:Bool):Option Bool:=
  kk_L1 ab (i64.wrap (aa+1))
def Zpe (aa:Int) (kk_L2:(Bool→Int→Option Bool)) (ab:Bool):Option Bool:=
  kk_L2 ab (i64.wrap (aa+1))
def Zmb (N:Nat) (ae:R0) (af:R0) (aa:Int) (kk_L2:(Bool→Int→Option Bool)) (ag:Bool) (ab:Int) (kk_L3:(Bool→Int→Option Bool)) (ah:Bool):Option Bool:=
  if ah=true then ((Zm ae.2.2.2.2 aa).bind fun ai=>(Zm ai ab).bind fun ac=>(Zm af.2.2.2.2 aa).bind fun aj=>(Zm aj ab).bind fun ad=>(Zpa N ((ac.1.1,ac.1.2),ac.2) ((ad.1.1,ad.1.2),ad.2)).bind fun ak=>kk_L3 (decide (ak=0)) (i64.wrap (ab+1))) else (Zpe aa kk_L2 ag)
def Zd6 (N:Nat) (aa:R0) (ac:R0) (ab:Int) (kk_L2:(Bool→Int→Option Bool)):Nat→Bool→Int→Option Bool
  | 0,_,_=>none
  | af+1,ad,ae=>if ad=true then ((Zm aa.2.2.2.2 ab).bind fun ag=>Zmb N aa ac ab kk_L2 ad ae (Zd6 N aa ac ab kk_L2 af) (decide (ae<(ag.length:Int)))) else (Zmb N aa ac ab kk_L2 ad ae (Zd6 N aa ac ab kk_L2 af) false)
termination_by structural x=>x
def Zma (N:Nat) (aa:R0) (ab:R0) (ac:Int) (kk_L2:(Bool→Int→Option Bool)) (ad:Bool):Option Bool:=
  Zd6 N aa ab ac kk_L2 N ad 0
def Qb (N:Nat) (aa:R0) (ab:R0):Nat→Bool→Int→Option Bool
  | 0,_,_=>none
  | ad+1,ae,ac=>if (decide (ac<(aa.2.2.2.2.length:Int)))=true then (if ae=true then ((Zm aa.2.2.2.2 ac).bind fun af=>(Zm ab.2.2.2.2 ac).bind fun ag=>Zma N aa ab ac (Qb N aa ab ad) (decide ((af.length:Int)=(ag.length:Int)))) else (Zma N aa ab ac (Qb N aa ab ad) false)) else (some ae)
termination_by structural x=>x
def Zd5 (N:Nat) (aa:R0) (ac:R0):Nat→Bool→Int→Option Bool
  | 0,_,_=>none
  | ad+1,ae,ab=>if (decide (ab<(aa.2.2.1.length:Int)))=true then (if ae=true then ((Zm aa.2.2.1 ab).bind fun af=>(Zm ac.2.2.1 ab).bind fun ag=>(Zlz N af ag).bind fun ah=>Zl9 ab (Zd5 N aa ac ad) ah) else (Zl9 ab (Zd5 N aa ac ad) false)) else (Qb N aa ac N ae 0)
termination_by structural x=>x
def Zl8 (N:Nat) (aa:R0) (ab:R0) (ac:Bool):Option Bool:=
  Zd5 N aa ab N ac 0
def Zi2 (N:Nat) (aa:R0) (ab:R0) (ac:Bool):Option Bool:=
  if ac=true then (some false) else ((Zlz N aa.2.1 ab.2.1).bind fun ad=>if ad=true then ((Zpf N aa.2.2.2.1 ab.2.2.2.1).bind fun ae=>Zl8 N aa ab ae) else (Zl8 N aa ab false))
def Zl7 (N:Nat) (aa:R0) (ab:R0):Option Bool:=
  if (!decide (aa.1=ab.1))=true then (Zi2 N aa ab true) else (if (!decide ((aa.2.2.1.length:Int)=(ab.2.2.1.length:Int)))=true then (Zi2 N aa ab true) else (Zi2 N aa ab (!decide ((aa.2.2.2.2.length:Int)=(ab.2.2.2.2.length:Int)))))
theorem Zsb {N ah ai aj ak al am an ao:Nat} {ap aq ar au av aw ax ay:Option Addr} {col:Ze} {w0:World} {aa ab:R0} {r:Bool} (hm:Zl7 N aa ab=some r) (bv:Sl Za.str col w0 ap ah aa.2.1) (bd:Sl (Za.slice Za.str) col w0 aq ai aa.2.2.1) (bw:Sl (Za.slice (Za.int .i64)) col w0 ar aj aa.2.2.2.1) (a3:Sl (Za.slice (Za.pair (Za.pair Za.bool (Za.slice (Za.int .u32))) (Za.slice (Za.int .u32)))) col w0 au ak aa.2.2.2.2) (bx:Sl Za.str col w0 av al ab.2.1) (be:Sl (Za.slice Za.str) col w0 aw am ab.2.2.1) (bz:Sl (Za.slice (Za.int .i64)) col w0 ax an ab.2.2.2.1) (a8:Sl (Za.slice (Za.pair (Za.pair Za.bool (Za.slice (Za.int .u32))) (Za.slice (Za.int .u32)))) col w0 ay ao ab.2.2.2.2):
    Calls prog 32 #[(.agg #[.string aa.1,.slice ap aa.2.1.length ah,.slice aq aa.2.2.1.length ai,.slice ar aa.2.2.2.1.length aj,.slice au aa.2.2.2.2.length ak]),(.agg #[.string ab.1,.slice av ab.2.1.length al,.slice aw ab.2.2.1.length am,.slice ax ab.2.2.2.1.length an,.slice ay ab.2.2.2.2.length ao])] w0 (fun e w'=>e= .returned ((.bool r))∧Below w0.heap.size w0 w'):=by
 refine Xf 4 (m:=120) func32 rfl rfl rfl rfl rfl ?_;rw [Zl7.eq_1] at hm;have ac:=St.start col w0;refine go ?_;refine Xl (col:=(Zj col)) 1 rfl ?_;intro a1 ed cv cw ad;refine Xl (col:=cv) 2 rfl ?_;intro a2 ee ef cq ae;refine Zk1 rfl<|Zl<|Zs<|Zs ?_;replace bv:=bv.keep (Zi.start col w0);replace bd:=bd.keep (Zi.start col w0);replace bw:=bw.keep (Zi.start col w0);replace a3:=a3.keep (Zi.start col w0);replace bx:=bx.keep (Zi.start col w0);replace be:=be.keep (Zi.start col w0);replace bz:=bz.keep (Zi.start col w0);replace a8:=a8.keep (Zi.start col w0);replace ac:=(ac.grow cw).grow cq;replace ad:=ad.gr cq;refine Wp.cutK [2,3,1000000] (fun f a9=>∃ a4 b0,Zi2 N aa ab b0=some r∧St w0 (Zj col) a4 a9∧Zf 27 1 a4 a9 a1 #[.string aa.1,.slice ap aa.2.1.length ah,.slice aq aa.2.2.1.length ai,.slice ar aa.2.2.2.1.length aj,.slice au aa.2.2.2.2.length ak]∧Zf 27 2 a4 a9 a2 #[.string ab.1,.slice av ab.2.1.length al,.slice aw ab.2.2.1.length am,.slice ax ab.2.2.2.1.length an,.slice ay ab.2.2.2.2.length ao]∧[31].map f=[.bool b0]) ?_ ?_
 ·intro f a9 hJ;obtain ⟨a4,b0,hm,ac,ad,ae,hs⟩:=hJ;rw [Zi2.eq_1] at hm;refine .lL [31] hs ?_;refine Zo hm (fun hb hm=>go ?_) fun hb hm=>?_
  ·cases hm;exact ⟨rfl,rfl,ac.below⟩
  refine X0<|Zs ?_;refine Wp.cutK [2,3,1000000] (fun f bf=>∃ bg b1,Zl8 N aa ab b1=some r∧St w0 (Zj col) bg bf∧Zf 27 1 bg bf a1 #[.string aa.1,.slice ap aa.2.1.length ah,.slice aq aa.2.2.1.length ai,.slice ar aa.2.2.2.1.length aj,.slice au aa.2.2.2.2.length ak]∧Zf 27 2 bg bf a2 #[.string ab.1,.slice av ab.2.1.length al,.slice aw ab.2.2.1.length am,.slice ax ab.2.2.2.1.length an,.slice ay ab.2.2.2.2.length ao]∧[5].map f=[.bool b1]) ?_ ?_
  ·intro f bf hJ;obtain ⟨bg,b1,hm,ac,ad,ae,hs⟩:=hJ;rw [Zl8.eq_1] at hm;refine .lL [5] hs<|go ?_;refine Zu [2,3,1000000] (fun n f bh=>∃ ag b2 bi a6,a6=n∧Zd5 N aa ab a6 b2 bi=some r∧St w0 (Zj col) ag bh∧Zf 27 1 ag bh a1 #[.string aa.1,.slice ap aa.2.1.length ah,.slice aq aa.2.2.1.length ai,.slice ar aa.2.2.2.1.length aj,.slice au aa.2.2.2.2.length ak]∧Zf 27 2 ag bh a2 #[.string ab.1,.slice av ab.2.1.length al,.slice aw ab.2.2.1.length am,.slice ax ab.2.2.2.1.length an,.slice ay ab.2.2.2.2.length ao]∧[5,6].map f=[.bool b2,.int .i64 bi]) N ⟨_,_,0,_,rfl,hm,ac,ad,ae,rfl⟩ ?_;clear hm;intro n f bh hI;obtain ⟨ag,b2,bi,a6,hn,hm,ac,ad,ae,hs⟩:=hI;subst hn;refine .lL [5,6] hs ?_
   cases a6 with
   | zero=>rw [Zd5.eq_1] at hm;cases hm
   | succ a6=>
    rw [Zd5.eq_2] at hm;refine go ?_;refine Xd ad ?_;refine go ?_;refine Zo hm (fun hb hm=>?_) fun hb hm=>go ?_
    ·refine X0<|Zs ?_;refine Wp.cutK [2,3,6,1000000] (fun f bj=>∃ bk b3,Zl9 bi (Zd5 N aa ab a6) b3=some r∧St w0 (Zj col) bk bj∧Zf 27 1 bk bj a1 #[.string aa.1,.slice ap aa.2.1.length ah,.slice aq aa.2.2.1.length ai,.slice ar aa.2.2.2.1.length aj,.slice au aa.2.2.2.2.length ak]∧Zf 27 2 bk bj a2 #[.string ab.1,.slice av ab.2.1.length al,.slice aw ab.2.2.1.length am,.slice ax ab.2.2.2.1.length an,.slice ay ab.2.2.2.2.length ao]∧[5].map f=[.bool b3]) ?_ ?_
     ·intro f bj hJ;obtain ⟨bk,b3,hm,ac,ad,ae,hs⟩:=hJ;rw [Zl9.eq_1] at hm;refine .lL [5] hs<|go ?_;exact ⟨a6,by omega,rfl,⟨_,_,_,_,rfl,hm,ac,ad,ae,rfl⟩⟩
     refine Zbd<|Vj (col:=ag) (by kernel_rfl) (by kernel_rfl)<|go ?_;refine Yc hm (fun b4 hm=>go ?_) fun b4 hm=>go ?_
     ·refine qF ⟨_,_,rfl⟩ ?_;refine go ?_;refine qW (fun _ hC=>((ad.atN).nth (q:=2) rfl).gr (hC.bl ag)) ?_;refine go ?_;obtain ⟨eg,b5,hm⟩:=bZ hm;refine qI b5 ((bd.ks ac).addr b5) ?_;refine go ?_;obtain ⟨_,cx,cy⟩:=(bd.ks ac).atN b5;obtain ⟨⟨eh,ei,rfl,cz⟩,_⟩:=cx;refine qW (fun _ hC=>cy.one.gr (hC.bl ag)) ?_;refine go ?_;refine qF ⟨_,_,rfl⟩ ?_;refine go ?_;refine qW (fun _ hC=>((ae.atN).nth (q:=2) rfl).gr (hC.bl ag)) ?_;refine go ?_;obtain ⟨ej,b6,hm⟩:=bZ hm;refine qI b6 ((be.ks ac).addr b6) ?_;refine go ?_;obtain ⟨_,c0,c1⟩:=(be.ks ac).atN b6;obtain ⟨⟨ek,el,rfl,c2⟩,_⟩:=c0;refine qW (fun _ hC=>c1.one.gr (hC.bl ag)) ?_;refine go ?_;obtain ⟨cr,c3,hm⟩:=bZ hm;refine qc (v:=(.bool cr)) rfl (fun _ hC=>⟨_,_,Zjr call113 rfl rfl,(Zsa c3 (cz.gr (hC.bl ag)) (c2.gr (hC.bl ag)):).mono fun _ _ h=>⟨h.1,hC.trans (.of_below h.2)⟩⟩) ?_;refine qv (v:=(.bool cr)) rfl (fun _ hC=>Xr (congrArg Value.bool b4) rfl) ?_;refine go ?_;refine Ws ?_;intro em hC;replace hC:=hC.bl ag;replace ad:=ad.gr hC;replace ae:=ae.gr hC;replace ac:=ac.grow hC;exact ⟨rfl,_,_,hm,ac,ad,ae,rfl⟩
     refine qv (v:=(.bool false)) rfl (fun _ hC=>Xq (congrArg Value.bool b4) rfl) ?_;refine go ?_;refine Ws ?_;intro en hC;replace hC:=hC.bl ag;replace ad:=ad.gr hC;replace ae:=ae.gr hC;replace ac:=ac.grow hC;exact ⟨rfl,_,_,hm,ac,ad,ae,rfl⟩
    refine Zu [2,3,1000000] (fun n f bm=>∃ az b7 a5 a0,a0=n∧Qb N aa ab a0 b7 a5=some r∧St w0 (Zj col) az bm∧Zf 27 1 az bm a1 #[.string aa.1,.slice ap aa.2.1.length ah,.slice aq aa.2.2.1.length ai,.slice ar aa.2.2.2.1.length aj,.slice au aa.2.2.2.2.length ak]∧Zf 27 2 az bm a2 #[.string ab.1,.slice av ab.2.1.length al,.slice aw ab.2.2.1.length am,.slice ax ab.2.2.2.1.length an,.slice ay ab.2.2.2.2.length ao]∧[5,7].map f=[.bool b7,.int .i64 a5]) N ⟨_,_,0,_,rfl,hm,ac,ad,ae,rfl⟩ ?_;clear hm;intro n f bm hI;obtain ⟨az,b7,a5,a0,hn,hm,ac,ad,ae,hs⟩:=hI;subst hn;refine .lL [5,7] hs ?_
    cases a0 with
    | zero=>rw [Qb.eq_1] at hm;cases hm
    | succ a0=>
     rw [Qb.eq_2] at hm;refine go ?_;refine Xd ad ?_;refine go ?_;refine Zo hm (fun hb hm=>?_) fun hb hm=>go ?_
     ·refine X0<|Zs ?_;refine Wp.cutK [2,3,7,1000000] (fun f bn=>∃ bo b8,Zpe a5 (Qb N aa ab a0) b8=some r∧St w0 (Zj col) bo bn∧Zf 27 1 bo bn a1 #[.string aa.1,.slice ap aa.2.1.length ah,.slice aq aa.2.2.1.length ai,.slice ar aa.2.2.2.1.length aj,.slice au aa.2.2.2.2.length ak]∧Zf 27 2 bo bn a2 #[.string ab.1,.slice av ab.2.1.length al,.slice aw ab.2.2.1.length am,.slice ax ab.2.2.2.1.length an,.slice ay ab.2.2.2.2.length ao]∧[5].map f=[.bool b8]) ?_ ?_
      ·intro f bn hJ;obtain ⟨bo,b8,hm,ac,ad,ae,hs⟩:=hJ;rw [Zpe.eq_1] at hm;refine .lL [5] hs<|go ?_;exact ⟨a0,by omega,rfl,⟨_,_,_,_,rfl,hm,ac,ad,ae,rfl⟩⟩
      refine Zbd<|Zs ?_;refine Wp.cutK [2,3,7,1000000] (fun f bp=>∃ bq b9,Zma N aa ab a5 (Qb N aa ab a0) b9=some r∧St w0 (Zj col) bq bp∧Zf 27 1 bq bp a1 #[.string aa.1,.slice ap aa.2.1.length ah,.slice aq aa.2.2.1.length ai,.slice ar aa.2.2.2.1.length aj,.slice au aa.2.2.2.2.length ak]∧Zf 27 2 bq bp a2 #[.string ab.1,.slice av ab.2.1.length al,.slice aw ab.2.2.1.length am,.slice ax ab.2.2.2.1.length an,.slice ay ab.2.2.2.2.length ao]∧[5].map f=[.bool b9]) ?_ ?_
      ·intro f bp hJ;obtain ⟨bq,b9,hm,ac,ad,ae,hs⟩:=hJ;rw [Zma.eq_1] at hm;refine .lL [5] hs<|go ?_;refine Zu [2,3,7,1000000] (fun n f br=>∃ bs bt ba a7,a7=n∧Zd6 N aa ab a5 (Qb N aa ab a0) a7 bt ba=some r∧St w0 (Zj col) bs br∧Zf 27 1 bs br a1 #[.string aa.1,.slice ap aa.2.1.length ah,.slice aq aa.2.2.1.length ai,.slice ar aa.2.2.2.1.length aj,.slice au aa.2.2.2.2.length ak]∧Zf 27 2 bs br a2 #[.string ab.1,.slice av ab.2.1.length al,.slice aw ab.2.2.1.length am,.slice ax ab.2.2.2.1.length an,.slice ay ab.2.2.2.2.length ao]∧[5,8].map f=[.bool bt,.int .i64 ba]) N ⟨_,_,0,_,rfl,hm,ac,ad,ae,rfl⟩ ?_;clear hm;intro n f br hI;obtain ⟨bs,bt,ba,a7,hn,hm,ac,ad,ae,hs⟩:=hI;subst hn;refine .lL [5,8] hs ?_
       cases a7 with
       | zero=>rw [Zd6.eq_1] at hm;cases hm
       | succ a7=>
        rw [Zd6.eq_2] at hm;refine Zs<|Zs ?_;refine Wp.cutK [2,3,5,7,8,1000000] (fun f bu=>∃ af ca,Zmb N aa ab a5 (Qb N aa ab a0) bt ba (Zd6 N aa ab a5 (Qb N aa ab a0) a7) ca=some r∧St w0 (Zj col) af bu∧Zf 27 1 af bu a1 #[.string aa.1,.slice ap aa.2.1.length ah,.slice aq aa.2.2.1.length ai,.slice ar aa.2.2.2.1.length aj,.slice au aa.2.2.2.2.length ak]∧Zf 27 2 af bu a2 #[.string ab.1,.slice av ab.2.1.length al,.slice aw ab.2.2.1.length am,.slice ax ab.2.2.2.1.length an,.slice ay ab.2.2.2.2.length ao]∧[98].map f=[.bool ca]) ?_ ?_
        ·intro f bu hJ;obtain ⟨af,ca,hm,ac,ad,ae,hs⟩:=hJ;rw [Zmb.eq_1] at hm;refine .lL [98] hs ?_;refine Zo hm (fun hb hm=>go ?_) fun hb hm=>go ?_
         ·refine Vj (col:=af) (by kernel_rfl) (by kernel_rfl)<|qF ⟨_,_,rfl⟩ ?_;refine qW (fun _ hC=>((ad.atN).nth (q:=4) rfl).gr (hC.bl af)) ?_;refine go ?_;obtain ⟨eo,cb,hm⟩:=bZ hm;refine qI cb ((a3.ks ac).addr cb) ?_;obtain ⟨_,c4,c5⟩:=(a3.ks ac).atN cb;obtain ⟨⟨ep,eq,rfl,cs⟩,_⟩:=c4;refine qW (fun _ hC=>c5.one.gr (hC.bl af)) ?_;refine go ?_;obtain ⟨cc,cd,hm⟩:=bZ hm;refine qI cd (cs.addr cd) ?_;obtain ⟨_,c6,c7⟩:=cs.atN cd;obtain ⟨_,_,rfl,c8,c9⟩:=V4 c6;obtain ⟨_,_,rfl,da,db⟩:=V4 c8;obtain ⟨rfl,_⟩:=da;obtain ⟨⟨dc,dd,rfl,de⟩,_⟩:=db;obtain ⟨⟨df,dg,rfl,dh⟩,_⟩:=c9;refine qv (v:=(.agg #[.bool cc.1.1,.slice dc cc.1.2.length dd,.slice df cc.2.length dg])) rfl (fun _ hC=>Wj isAgg39 sizeOf39 rfl rfl (c7.gr (hC.bl af))) ?_;refine qF ⟨_,_,rfl⟩ ?_;refine qW (fun _ hC=>((ae.atN).nth (q:=4) rfl).gr (hC.bl af)) ?_;refine go ?_;obtain ⟨er,ce,hm⟩:=bZ hm;refine qI ce ((a8.ks ac).addr ce) ?_;obtain ⟨_,di,dj⟩:=(a8.ks ac).atN ce;obtain ⟨⟨es,et,rfl,ct⟩,_⟩:=di;refine qW (fun _ hC=>dj.one.gr (hC.bl af)) ?_;refine go ?_;obtain ⟨cf,cg,hm⟩:=bZ hm;refine qI cg (ct.addr cg) ?_;obtain ⟨_,dl,dm⟩:=ct.atN cg;obtain ⟨_,_,rfl,dn,dp⟩:=V4 dl;obtain ⟨_,_,rfl,dq,dr⟩:=V4 dn;obtain ⟨rfl,_⟩:=dq;obtain ⟨⟨ds,dt,rfl,du⟩,_⟩:=dr;obtain ⟨⟨dv,dw,rfl,dx⟩,_⟩:=dp;refine qv (v:=(.agg #[.bool cf.1.1,.slice ds cf.1.2.length dt,.slice dv cf.2.length dw])) rfl (fun _ hC=>Wj isAgg39 sizeOf39 rfl rfl (dm.gr (hC.bl af))) ?_;obtain ⟨dy,dz,hm⟩:=bZ hm;refine qc (v:=(.int .i64 dy)) rfl (fun _ hC=>⟨_,_,Zjr call115 rfl rfl,(Z1e dz (de.gr (hC.bl af)) (dh.gr (hC.bl af)) (du.gr (hC.bl af)) (dx.gr (hC.bl af)):).mono fun _ _ h=>⟨h.1,hC.trans (.of_below h.2)⟩⟩) ?_;refine go ?_;refine Ws ?_;intro eu hC;replace hC:=hC.bl af;refine go ?_;replace ad:=ad.gr hC;replace ae:=ae.gr hC;replace ac:=ac.grow hC;exact ⟨a7,by omega,rfl,⟨_,_,_,_,rfl,hm,ac,ad,ae,rfl⟩⟩
         exact ⟨rfl,_,_,hm,ac,ad,ae,rfl⟩
        refine go ?_;refine Yc hm (fun ch hm=>go ?_) fun ch hm=>go ?_
        ·refine Ya ⟨_,_,rfl⟩ ?_;refine go ?_;refine lW ((ad.atN).nth (q:=4) rfl)<|go ?_;obtain ⟨d0,ci,hm⟩:=bZ hm;refine lI ci ((a3.ks ac).addr ci) ?_;refine go ?_;obtain ⟨_,d1,d2⟩:=(a3.ks ac).atN ci;obtain ⟨⟨ew,ey,rfl,ez⟩,_⟩:=d1;refine lW d2.one<|go ?_;refine lV (.bool (decide (ba<(d0.length:Int)))) (Xr (congrArg Value.bool ch) rfl)<|Zl ?_;exact ⟨rfl,_,_,hm,ac,ad,ae,rfl⟩
        refine lV (.bool false) (Xq (congrArg Value.bool ch) rfl)<|Zl ?_;exact ⟨rfl,_,_,hm,ac,ad,ae,rfl⟩
      refine Vj (col:=az) (by kernel_rfl) (by kernel_rfl)<|go ?_;refine Yc hm (fun cj hm=>go ?_) fun cj hm=>go ?_
      ·refine qF ⟨_,_,rfl⟩ ?_;refine go ?_;refine qW (fun _ hC=>((ad.atN).nth (q:=4) rfl).gr (hC.bl az)) ?_;refine go ?_;obtain ⟨d3,ck,hm⟩:=bZ hm;refine qI ck ((a3.ks ac).addr ck) ?_;refine go ?_;obtain ⟨_,d4,d5⟩:=(a3.ks ac).atN ck;obtain ⟨⟨e0,e1,rfl,e2⟩,_⟩:=d4;refine qW (fun _ hC=>d5.one.gr (hC.bl az)) ?_;refine go ?_;refine qF ⟨_,_,rfl⟩ ?_;refine go ?_;refine qW (fun _ hC=>((ae.atN).nth (q:=4) rfl).gr (hC.bl az)) ?_;refine go ?_;obtain ⟨d6,cl,hm⟩:=bZ hm;refine qI cl ((a8.ks ac).addr cl) ?_;refine go ?_;obtain ⟨_,d7,d8⟩:=(a8.ks ac).atN cl;obtain ⟨⟨e3,e4,rfl,e5⟩,_⟩:=d7;refine qW (fun _ hC=>d8.one.gr (hC.bl az)) ?_;refine go ?_;refine qv (v:=(.bool (decide ((d3.length:Int)=(d6.length:Int))))) rfl (fun _ hC=>Xr (congrArg Value.bool cj) rfl) ?_;refine go ?_;refine Ws ?_;intro e6 hC;replace hC:=hC.bl az;replace ad:=ad.gr hC;replace ae:=ae.gr hC;replace ac:=ac.grow hC;exact ⟨rfl,_,_,hm,ac,ad,ae,rfl⟩
      refine qv (v:=(.bool false)) rfl (fun _ hC=>Xq (congrArg Value.bool cj) rfl) ?_;refine go ?_;refine Ws ?_;intro e7 hC;replace hC:=hC.bl az;replace ad:=ad.gr hC;replace ae:=ae.gr hC;replace ac:=ac.grow hC;exact ⟨rfl,_,_,hm,ac,ad,ae,rfl⟩
     cases hm;exact ⟨rfl,rfl,ac.below⟩
  refine Wl<|Xd ad<|Xd ae ?_;obtain ⟨e8,d9,hm⟩:=bZ hm;refine Zk (Zsa d9 (bv.ks ac) (bx.ks ac)) ?_;rintro _ cu ⟨rfl,bb⟩;refine ⟨_,rfl,?_⟩;replace bb:Zh a4 a9 a4 cu:=.of_below bb;refine W2 rfl ?_;replace ad:=ad.gr bb;replace ae:=ae.gr bb;replace ac:=ac.grow bb;refine Yc hm (fun cn hm=>go ?_) fun cn hm=>go ?_
  ·refine Ya ⟨_,_,rfl⟩ ?_;refine go ?_;refine lW ((ad.atN).nth (q:=3) rfl)<|go ?_;refine Ya ⟨_,_,rfl⟩ ?_;refine go ?_;refine lW ((ae.atN).nth (q:=3) rfl)<|go ?_;obtain ⟨ea,eb,hm⟩:=bZ hm;refine Zk (Z1l eb (bw.ks ac) (bz.ks ac)) ?_;rintro _ ec ⟨rfl,bc⟩;refine ⟨_,rfl,?_⟩;replace bc:Zh a4 cu a4 ec:=.of_below bc;refine lV (.bool ea) (Xr (congrArg Value.bool cn) rfl)<|go ?_;replace ad:=ad.gr bc;replace ae:=ae.gr bc;replace ac:=ac.grow bc;exact ⟨rfl,_,_,hm,ac,ad,ae,rfl⟩
  refine lV (.bool false) (Xq (congrArg Value.bool cn) rfl)<|go ?_;exact ⟨rfl,_,_,hm,ac,ad,ae,rfl⟩
 refine Wl<|Xd ad<|Xd ae ?_;refine go ?_;refine Yc hm (fun co hm=>go ?_) fun co hm=>go ?_
 ·refine lV (.bool true) (Xr (congrArg Value.bool co) rfl)<|W2 rfl<|lP 23 rfl rfl<|lP 23 rfl rfl<|lP 23 rfl rfl<|lP 23 rfl rfl<|lP 23 rfl rfl<|lP 23 rfl rfl<|lP 23 rfl rfl<|lV (.bool true) (Xr rfl rfl)<|Zl ?_;exact ⟨rfl,_,_,hm,ac,ad,ae,rfl⟩
 refine Ya ⟨_,_,rfl⟩ ?_;refine go ?_;refine lW ((ad.atN).nth (q:=2) rfl)<|go ?_;refine Ya ⟨_,_,rfl⟩ ?_;refine go ?_;refine lW ((ae.atN).nth (q:=2) rfl)<|go ?_;refine lV (.bool (!decide ((aa.2.2.1.length:Int)=(ab.2.2.1.length:Int)))) (Xq (congrArg Value.bool co) rfl)<|W2 rfl ?_;refine Yc hm (fun cp hm=>go ?_) fun cp hm=>go ?_
 ·refine lV (.bool true) (Xr (congrArg Value.bool cp) rfl)<|Zl ?_;exact ⟨rfl,_,_,hm,ac,ad,ae,rfl⟩
 refine Ya ⟨_,_,rfl⟩ ?_;refine go ?_;refine lW ((ad.atN).nth (q:=4) rfl)<|go ?_;refine Ya ⟨_,_,rfl⟩ ?_;refine go ?_;refine lW ((ae.atN).nth (q:=4) rfl)<|go ?_;refine lV (.bool (!decide ((aa.2.2.2.2.length:Int)=(ab.2.2.2.2.length:Int)))) (Xq (congrArg Value.bool cp) rfl)<|Zl ?_;exact ⟨rfl,_,_,hm,ac,ad,ae,rfl⟩
section
variable {N:Nat} {n:Zr} (hb:Zeo n) (hN:1099511627777<N)
include hb hN
omit hN in
theorem Zzj {i:Nat} (hi:i<n.2.2.2.2.length) (m1:ByteArray) (m2:List ByteArray) (m3:List R6) (m4:List R5) (m5:List (List QV)) (h5:m5.length≤1048576) (kk:ByteArray→List ByteArray→List R6→List R5→List (List QV)→Int→Option Zr):∀ (f k:Nat),k≤n.2.2.2.2[i].length→n.2.2.2.2[i].length<f+k→Zea N n m1 m2 m3 m4 m5 (i:Int) kk f (k:Int) (n.2.2.2.2[i].take k)=kk m1 m2 m3 m4 (m5++[n.2.2.2.2[i]]) ((i+1:Nat):Int)
 | 0,k,h1,h2=>by omega
 | f+1,k,h1,h2=>by
  have htn:=hb.tn
  have htl:=hb.tl _ (List.getElem_mem hi)
  rw [Zea.eq_2,Z5 hi,oB]
  by_cases hk:k<n.2.2.2.2[i].length
  ·have hx:=hb.tm _ (List.getElem_mem hi) _ (List.getElem_mem hk)
   have ih:=Zzj hi m1 m2 m3 m4 m5 h5 kk f (k+1) (by omega) (by omega)
   have hlt:(n.2.2.2.2[i].take k).length≤1048576:=by rw [nK];omega
   rw [List.take_succ_eq_append_getElem hk] at ih
   rw [if_pos (dT (by omega)),Z5 hk,oB,Z9 (by simp only [nN,maxLen];omega),Z9 (by simp only [nN,maxLen];omega),Z9 (by simp only [List.length_singleton,maxLen];omega),List.nil_append,List.nil_append,wS (by omega)]
   exact ih
  ·rw [if_neg (dF (by omega)),List.take_of_length_le (by omega),Z9 (by simp only [List.length_singleton,maxLen];omega),wS (by omega)]
theorem Zzi:∀ (f i:Nat),i≤n.2.2.2.2.length→n.2.2.2.2.length<f+i→Za8 N n f n.1 n.2.1 n.2.2.1 n.2.2.2.1 (n.2.2.2.2.take i) (i:Int)=some n
 | 0,i,h1,h2=>by omega
 | f+1,i,h1,h2=>by
  have htn:=hb.tn
  rw [Za8.eq_2]
  by_cases hi:i<n.2.2.2.2.length
  ·have htl:=hb.tl _ (List.getElem_mem hi)
   have h4:=Zzj (N:=N) hb hi n.1 n.2.1 n.2.2.1 n.2.2.2.1 (n.2.2.2.2.take i) (by rw [nK];omega) (Za8 N n f) N 0 (Nat.zero_le _) (by omega)
   rw [List.take_zero,← List.take_succ_eq_append_getElem hi] at h4
   rw [if_pos (dT (by omega))]
   exact h4.trans (Zzi f (i+1) (by omega) (by omega))
  ·rw [if_neg (dF (by omega)),List.take_of_length_le (by omega)]
theorem Zzh:∀ (f i:Nat),i≤n.2.2.2.1.length→n.2.2.2.1.length<f+i→Zd9 N n f n.1 n.2.1 n.2.2.1 (n.2.2.2.1.take i) [] (i:Int)=some n
 | 0,i,h1,h2=>by omega
 | f+1,i,h1,h2=>by
  have hpn:=hb.pn
  rw [Zd9.eq_2]
  by_cases hi:i<n.2.2.2.1.length
  ·have hpl:=hb.pl _ (List.getElem_mem hi)
   have ih:=Zzh f (i+1) (by omega) (by omega)
   rw [List.take_succ_eq_append_getElem hi] at ih
   rw [if_pos (dT (by omega)),Z5 hi,oB,Z9 (by simp only [nN,maxLen];omega),Z9 (by simp only [nK,List.length_singleton,maxLen];omega),List.nil_append,wS (by omega)]
   exact ih
  ·have htn:=hb.tn
   rw [if_neg (dF (by omega)),List.take_of_length_le (by omega)]
   exact Zzi hb hN N 0 (Nat.zero_le _) (by omega)
theorem Zzg:∀ (f i:Nat),i≤n.2.2.1.length→n.2.2.1.length<f+i→Zd8 N n f n.1 n.2.1 (n.2.2.1.take i) [] [] (i:Int)=some n
 | 0,i,h1,h2=>by omega
 | f+1,i,h1,h2=>by
  have hvn:=hb.vn
  rw [Zd8.eq_2]
  by_cases hi:i<n.2.2.1.length
  ·have hvl:=hb.vl _ (List.getElem_mem hi)
   have ih:=Zzg f (i+1) (by omega) (by omega)
   rw [List.take_succ_eq_append_getElem hi] at ih
   rw [if_pos (dT (by omega)),Z5 hi,oB,Z9 (by simp only [nN,maxLen];omega),Z9 (by simp only [nK,List.length_singleton,maxLen];omega),List.nil_append,wS (by omega)]
   exact ih
  ·have hpn:=hb.pn
   rw [if_neg (dF (by omega)),List.take_of_length_le (by omega)]
   exact Zzh hb hN N 0 (Nat.zero_le _) (by omega)
theorem Zzk:Zcg N n=some n:=by
 have hnm:=hb.nm;have hvn:=hb.vn
 rw [Zcg,Z9 (by simp only [nN,maxLen];omega),List.nil_append]
 exact Zzg hb hN N 0 (Nat.zero_le _) (by omega)
variable (hlim:∀ t ∈ n.2.2.2.2,∀ x ∈ t,Vk x) (hr:Xh N 8388608)
include hlim hr
end
def Zb0 (N:Nat) (ab:Int) (ac:Int):Option R4:=
  (Zar N ab ac).bind fun aa=>some ((aa.1.1.1,aa.1.1.2),aa.1.2)
theorem Zkn {N:Nat} {col:Ze} {w0:World} {ai aj:Int} {r:R4} (c1 c2:Nat) (hm:Zb0 N ai aj=some r):
    Calls prog 24 #[.int .i64 ai,.int .i64 aj] w0 (fun e w'=>∃ (col':Ze) (ra1:Option Addr) (rc2:Nat) (ra4:Option Addr) (rc5:Nat),e= .returned ((.agg #[.bool r.1.1,.slice ra1 r.1.2.length rc2,.slice ra4 r.2.length rc5]))∧Zh col w0 col' w'∧Zb (Za.int .u32) 95 c1 col' w' ra1 rc2 r.1.2∧Zb (Za.int .u32) 95 c2 col' w' ra4 rc5 r.2):=by
 refine Y5 (m:=14) func24 rfl rfl rfl ?_;rw [Zb0.eq_1] at hm;have ab:=St.start col w0;refine go ?_;refine Xg (col:=(Zj col)) #[.bool false,.slice none (([]:List Int).length) 0,.slice none (([]:List Int).length) 0] 1 zeroValue39 ?_;intro a0 a1 ap aq ae;refine go ?_;obtain ⟨aa,ar,hm⟩:=bZ hm;refine Zk (Zkk (col:=ap) 2 3 ar) ?_;rintro _ a2 ⟨au,ak,al,am,an,rfl,ao,af,ag⟩;refine ⟨_,rfl,?_⟩;refine lM (.tuple #[(.agg #[.bool aa.1.1.1,.slice ak aa.1.1.2.length al,.slice am aa.1.2.length an]),.int .i64 aa.2])<|lV (.agg #[.bool aa.1.1.1,.slice ak aa.1.1.2.length al,.slice am aa.1.2.length an]) (Xk rfl rfl)<|lV (.int .i64 aa.2) (Xk rfl rfl)<|Xg (col:=au) #[.bool false,.slice none (([]:List Int).length) 0,.slice none (([]:List Int).length) 0] 4 zeroValue39 ?_;intro a3 a4 a5 ac av;refine Zz av ?_;intro a6 ad aw ax;refine go ?_;refine lV _ (Z2 isAgg39 sizeOf39 ax) ?_;replace ae:=((ae.gr ao).gr ac).kp ad;refine Zz ae ?_;intro a7 ah ay az;refine go ?_;cases hm;replace ab:=((((ab.grow aq).grow ao).grow ac).kp ad aw).kp ah ay;replace af:=((af.gr ac).kp ad).kp ah;replace ag:=((ag.gr ac).kp ad).kp ah;exact ⟨rfl,_,ra az.atN,_,_,_,_,_,rfl,ab.fin (cm [(2,c1),(3,c2)]),ab.fo af,ab.fo ag⟩
def Zla (aa:List ByteArray) (ab:Int) (kk_L2:(ByteArray→R6→Re→R9→Rb→Int→Int→Option R0)) (ac:ByteArray) (ad:List ByteArray) (ae:List R6) (af:List R5) (ag:List R7) (ah:Int):Option R0:=
  kk_L2 ac ad ae af ag ah (i64.wrap (ab+(aa.length:Int)))
def Zlb (aa:Int) (kk_L3:(Int→R5→Int→Int→Option R0)) (ab:Int) (ac:List Int) (ad:Int):Option R0:=
  kk_L3 ab ac (i64.wrap (aa+1)) ad
def Zde (ac:Int) (ab:List Int) (ad:Int) (ae:Int) (kk_L3:(Int→R5→Int→Int→Option R0)) (aa:Int):Option R0:=
  Zt ((ab.length+[aa].length) * 8≤140737488355328∧ab.length+[aa].length≤maxLen) (Zlb ad kk_L3 (i64.wrap (ac+aa)) (ab++[aa]) (i64.wrap (ae+1)))
def Zb1 (N:Nat) (ac:Int) (ad:List ByteArray) (ab:Int) (kk_L2:(ByteArray→R6→Re→R9→Rb→Int→Int→Option R0)) (ag:Int) (ah:Int) (ai:List Int):Nat→Int→ByteArray→R6→Re→R9→Rb→Option R0
  | 0,_,_,_,_,_,_=>none
  | ao+1,aa,aj,ak,al,am,ae=>if (decide (aa<(ad.length:Int)))=true then ((Zm ae ac).bind fun an=>(Zm ai aa).bind fun ap=>(Zb0 N ap ah).bind fun af=>(Zm an (i64.wrap (ab+aa))).bind fun ar=>(some (an.set (Int.toNat (i64.wrap (ab+aa))) ((af.1.1,af.1.2),af.2))).bind fun aq=>(Zb1 N ac ad ab kk_L2 ag ah ai ao) (i64.wrap (aa+1)) aj ak al am (ae.set (Int.toNat ac) aq)) else (Zla ad ab kk_L2 aj ak al am ae ag)
termination_by structural x=>x
def Zfm (N:Nat) (aa:Int) (ab:List ByteArray) (ac:ByteArray) (ad:List ByteArray) (ae:List R6) (af:List R5) (ag:List R7) (ah:Int) (kk_L2:(ByteArray→R6→Re→R9→Rb→Int→Int→Option R0)) (ai:Int) (aj:Int) (ak:List Int):Option R0:=
  Zb1 N aa ab ah kk_L2 ai aj ak N 0 ac ad ae af ag
def Tm (N:Nat) (aa:List Int) (ae:Int) (ab:List ByteArray) (af:ByteArray) (ag:List ByteArray) (ah:List R6) (ai:List R5) (aj:List R7) (ak:Int) (kk_L2:(ByteArray→R6→Re→R9→Rb→Int→Int→Option R0)):Nat→Int→R5→Int→Int→Option R0
  | 0,_,_,_,_=>none
  | an+1,al,ac,am,ad=>if (decide (am<(ab.length:Int)))=true then (if (decide (0<(aa.length:Int)))=true then (Zt ((aa.length:Int)≠0) ((Zm aa (Int.tmod ad (aa.length:Int))).bind fun ao=>if (decide ((Int.tmod ao 20)<0))=true then (Zde al ac am ad (Tm N aa ae ab af ag ah ai aj ak kk_L2 an) (i64.wrap (-(Int.tmod ao 20)))) else (Zde al ac am ad (Tm N aa ae ab af ag ah ai aj ak kk_L2 an) (Int.tmod ao 20)))) else (Zde al ac am ad (Tm N aa ae ab af ag ah ai aj ak kk_L2 an) 1)) else (if (decide (al=0))=true then ((Zm ac 0).bind fun aq=>(some (ac.set (Int.toNat 0) 1)).bind fun ap=>Zfm N ae ab af ag ah ai aj ak kk_L2 ad 1 ap) else (Zfm N ae ab af ag ah ai aj ak kk_L2 ad al ac))
termination_by structural x=>x
def Us (N:Nat) (ac:List Int) (aa:Int) (kk_L1:(ByteArray→R6→Re→R9→Rb→Int→Int→Option R0)) (ad:List ByteArray):Nat→ByteArray→R6→Re→R9→Rb→Int→Int→Option R0
  | 0,_,_,_,_,_,_,_=>none
  | ak+1,ae,af,ag,ah,ab,ai,aj=>(Zm ab aa).bind fun al=>if (decide (aj<(al.length:Int)))=true then (Tm N ac aa ad ae af ag ah ab aj (Us N ac aa kk_L1 ad ak) N 0 ([]:List Int) 0 ai) else (kk_L1 ae af ag ah ab ai (i64.wrap (aa+1)))
termination_by structural x=>x
def Ur (N:Nat) (aa:R0) (ac:List Int):Nat→ByteArray→R6→Re→R9→Rb→Int→Int→Option R0
  | 0,_,_,_,_,_,_,_=>none
  | ai+1,ad,ae,af,ag,ah,aj,ab=>if (decide (ab<(aa.2.1.length:Int)))=true then ((Zm aa.2.2.1 ab).bind fun ak=>Us N ac ab (Ur N aa ac ai) ak N ad ae af ag ah aj 0) else (some (ad,ae,af,ag,ah))
termination_by structural x=>x
def Zfl (N:Nat) (aa:R0) (ac:List Int):Option R0:=
  (Zcg N (aa.1,aa.2.1,aa.2.2.1,aa.2.2.2.1,aa.2.2.2.2)).bind fun ab=>Ur N aa ac N ab.1 ab.2.1 ab.2.2.1 ab.2.2.2.1 ab.2.2.2.2 0 0
theorem Z0l {N bd be bf bg e9:Nat} {bh bi bj bk a1:Option Addr} {col:Ze} {w0:World} {aa:R0} {af:R5} {r:R0} (c1 c2 c3 c4:Nat) (hm:Zfl N aa af=some r) (dz:Sl Za.str col w0 bh bd aa.2.1) (cs:Sl (Za.slice Za.str) col w0 bi be aa.2.2.1) (d0:Sl (Za.slice (Za.int .i64)) col w0 bj bf aa.2.2.2.1) (d1:Sl (Za.slice (Za.pair (Za.pair Za.bool (Za.slice (Za.int .u32))) (Za.slice (Za.int .u32)))) col w0 bk bg aa.2.2.2.2) (h1:Sl (Za.int .i64) col w0 a1 e9 af):
    Calls prog 27 #[(.agg #[.string aa.1,.slice bh aa.2.1.length bd,.slice bi aa.2.2.1.length be,.slice bj aa.2.2.2.1.length bf,.slice bk aa.2.2.2.2.length bg]),.slice a1 af.length e9] w0 (fun e w'=>∃ (col':Ze) (ra1:Option Addr) (rc2:Nat) (ra4:Option Addr) (rc5:Nat) (ra7:Option Addr) (rc8:Nat) (ra10:Option Addr) (rc11:Nat),e= .returned ((.agg #[.string r.1,.slice ra1 r.2.1.length rc2,.slice ra4 r.2.2.1.length rc5,.slice ra7 r.2.2.2.1.length rc8,.slice ra10 r.2.2.2.2.length rc11]))∧Zh col w0 col' w'∧Zb Za.str 9 c1 col' w' ra1 rc2 r.2.1∧Zb (Za.row 9 Za.str) 22 c2 col' w' ra4 rc5 r.2.2.1∧Zb (Za.row 3 (Za.int .i64)) 33 c3 col' w' ra7 rc8 r.2.2.2.1∧Zb (Za.row 39 (Za.pair (Za.pair Za.bool (Za.row 95 (Za.int .u32))) (Za.row 95 (Za.int .u32)))) 114 c4 col' w' ra10 rc11 r.2.2.2.2):=by
 refine Y5 (m:=95) func27 rfl rfl rfl ?_;rw [Zfl.eq_1] at hm;have ab:=St.start col w0;refine go ?_;refine Xl (col:=(Zj col)) 1 rfl ?_;intro b7 gc fh fi ac;refine Xg (col:=fh) #[.string (⟨#[]⟩),.slice none (([]:List ByteArray).length) 0,.slice none (([]:List R6).length) 0,.slice none (([]:List R5).length) 0,(.slice none (([]:List R7).length) 0)] 2 zeroValue27 ?_;intro b8 gd ge fa ae;refine go ?_;replace ac:=ac.gr fa;refine lV _ (Z2 isAgg27 sizeOf27 ac) ?_;obtain ⟨gf,fj,hm⟩:=bZ hm;replace dz:=dz.keep (Zi.start col w0);replace cs:=cs.keep (Zi.start col w0);replace d0:=d0.keep (Zi.start col w0);replace d1:=d1.keep (Zi.start col w0);replace ab:=(ab.grow fi).grow fa;refine Zk (Zsc 3 4 5 6 fj (dz.ks ab) (cs.ks ab) (d0.ks ab) (d1.ks ab)) ?_;rintro _ gg ⟨fk,gh,gi,gj,gk,gl,gm,gp,gs,rfl,d2,d3,d4,d5,d6⟩;refine ⟨_,rfl,?_⟩;refine Xg (col:=fk) #[.string (⟨#[]⟩),.slice none (([]:List ByteArray).length) 0,.slice none (([]:List R6).length) 0,.slice none (([]:List R5).length) 0,(.slice none (([]:List R7).length) 0)] 7 zeroValue27 ?_;intro bm gt gu cg fl;refine Zz fl ?_;intro gv ch fm ad;refine go ?_;replace ac:=((ac.gr d2).gr cg).kp ch;replace ae:=((ae.gr d2).gr cg).kp ch;replace ab:=((ab.grow d2).grow cg).kp ch fm;replace d3:=(d3.gr cg).kp ch;replace d4:=(d4.gr cg).kp ch;replace d5:=(d5.gr cg).kp ch;replace d6:=(d6.gr cg).kp ch
 refine Zu [1,2,4,5,1000000] (fun n f bz=>∃ b0 d7 d8 d9 c9 ea eb da ec ed db ee ef dc eg ah aw,aw=n∧Ur N aa af aw d7 c9 da db dc eg ah=some r∧St w0 (Zj col) b0 bz∧Zf 27 1 b0 bz b7 #[.string aa.1,.slice bh aa.2.1.length bd,.slice bi aa.2.2.1.length be,.slice bj aa.2.2.2.1.length bf,.slice bk aa.2.2.2.2.length bg]∧Zf 27 2 b0 bz b8 #[.string (⟨#[]⟩),.slice none (([]:List ByteArray).length) 0,.slice none (([]:List R6).length) 0,.slice none (([]:List R5).length) 0,(.slice none (([]:List R7).length) 0)]∧Zb Za.str 9 3 b0 bz d8 d9 c9∧Zb (Za.row 9 Za.str) 22 4 b0 bz ea eb da∧Zb (Za.row 3 (Za.int .i64)) 33 5 b0 bz ec ed db∧Zb (Za.row 39 (Za.pair (Za.pair Za.bool (Za.row 95 (Za.int .u32))) (Za.row 95 (Za.int .u32)))) 114 6 b0 bz ee ef dc∧Zf 27 7 b0 bz bm #[.string d7,.slice d8 c9.length d9,.slice ea da.length eb,.slice ec db.length ed,.slice ee dc.length ef]∧[6,7].map f=[.int .i64 eg,.int .i64 ah]) N ⟨_,_,_,_,_,_,_,_,_,_,_,_,_,_,0,0,_,rfl,hm,ab,ac,ae,d3,d4,d5,d6,ad,rfl⟩ ?_;clear hm;intro n f bz hI;obtain ⟨b0,d7,d8,d9,c9,ea,eb,da,ec,ed,db,ee,ef,dc,eg,ah,aw,hn,hm,ab,ac,ae,dd,de,df,dg,ad,hs⟩:=hI;subst hn;refine .lL [6,7] hs ?_;replace h1:=h1.keep (Zi.start col w0)
 cases aw with
 | zero=>rw [Ur.eq_1] at hm;cases hm
 | succ aw=>
  rw [Ur.eq_2] at hm;refine go ?_;refine Xd ac ?_;refine go ?_;refine Zo hm (fun hb hm=>go ?_) fun hb hm=>go ?_
  ·refine Xd ac<|Xp rfl ?_;obtain ⟨ax,eh,hm⟩:=bZ hm;refine lI eh ((cs.ks ab).addr eh) ?_;obtain ⟨_,fn,fp⟩:=(cs.ks ab).atN eh;obtain ⟨⟨gw,gx,rfl,gy⟩,_⟩:=fn;refine lW fp.one<|go ?_;refine Zu [1,2,4,5,7,8,1000000] (fun n f b1=>∃ b2 a0 a2 a3 am a4 a5 an a6 a7 ao a8 a9 ap ei bn ay,ay=n∧Us N af ah (Ur N aa af aw) ax ay a0 am an ao ap ei bn=some r∧St w0 (Zj col) b2 b1∧Zf 27 1 b2 b1 b7 #[.string aa.1,.slice bh aa.2.1.length bd,.slice bi aa.2.2.1.length be,.slice bj aa.2.2.2.1.length bf,.slice bk aa.2.2.2.2.length bg]∧Zf 27 2 b2 b1 b8 #[.string (⟨#[]⟩),.slice none (([]:List ByteArray).length) 0,.slice none (([]:List R6).length) 0,.slice none (([]:List R5).length) 0,(.slice none (([]:List R7).length) 0)]∧Zb Za.str 9 3 b2 b1 a2 a3 am∧Zb (Za.row 9 Za.str) 22 4 b2 b1 a4 a5 an∧Zb (Za.row 3 (Za.int .i64)) 33 5 b2 b1 a6 a7 ao∧Zb (Za.row 39 (Za.pair (Za.pair Za.bool (Za.row 95 (Za.int .u32))) (Za.row 95 (Za.int .u32)))) 114 6 b2 b1 a8 a9 ap∧Zf 27 7 b2 b1 bm #[.string a0,.slice a2 am.length a3,.slice a4 an.length a5,.slice a6 ao.length a7,.slice a8 ap.length a9]∧[6,9].map f=[.int .i64 ei,.int .i64 bn]) N ⟨_,_,_,_,_,_,_,_,_,_,_,_,_,_,_,0,_,rfl,hm,ab,ac,ae,dd,de,df,dg,ad,rfl⟩ ?_;clear hm;intro n f b1 hI;obtain ⟨b2,a0,a2,a3,am,a4,a5,an,a6,a7,ao,a8,a9,ap,ei,bn,ay,hn,hm,ab,ac,ae,aj,ak,al,ag,ad,hs⟩:=hI;subst hn;refine .lL [6,9] hs ?_
   cases ay with
   | zero=>rw [Us.eq_1] at hm;cases hm
   | succ ay=>
    rw [Us.eq_2] at hm;refine go ?_;refine Xd ad<|Xp rfl ?_;obtain ⟨gz,ej,hm⟩:=bZ hm;refine lI ej (ag.addr ej) ?_;obtain ⟨_,fq,fr⟩:=ag.atN ej;obtain ⟨g0,g1,rfl,g2⟩:=fq.row;refine lW fr.one<|go ?_;refine Zo hm (fun hb hm=>?_) fun hb hm=>go ?_
    ·refine X0<|Zs ?_;refine Wp.cutK [1,2,4,5,7,8,9,1000000] (fun f b3=>∃ b4 ek el em dh en eo di ep eq dj er es dl et,Zla ax bn (Us N af ah (Ur N aa af aw) ax ay) ek dh di dj dl et=some r∧St w0 (Zj col) b4 b3∧Zf 27 1 b4 b3 b7 #[.string aa.1,.slice bh aa.2.1.length bd,.slice bi aa.2.2.1.length be,.slice bj aa.2.2.2.1.length bf,.slice bk aa.2.2.2.2.length bg]∧Zf 27 2 b4 b3 b8 #[.string (⟨#[]⟩),.slice none (([]:List ByteArray).length) 0,.slice none (([]:List R6).length) 0,.slice none (([]:List R5).length) 0,(.slice none (([]:List R7).length) 0)]∧Zb Za.str 9 3 b4 b3 el em dh∧Zb (Za.row 9 Za.str) 22 4 b4 b3 en eo di∧Zb (Za.row 3 (Za.int .i64)) 33 5 b4 b3 ep eq dj∧Zb (Za.row 39 (Za.pair (Za.pair Za.bool (Za.row 95 (Za.int .u32))) (Za.row 95 (Za.int .u32)))) 114 6 b4 b3 er es dl∧Zf 27 7 b4 b3 bm #[.string ek,.slice el dh.length em,.slice en di.length eo,.slice ep dj.length eq,.slice er dl.length es]∧[6].map f=[.int .i64 et]) ?_ ?_
     ·intro f b3 hJ;obtain ⟨b4,ek,el,em,dh,en,eo,di,ep,eq,dj,er,es,dl,et,hm,ab,ac,ae,ft,fu,fv,fw,ad,hs⟩:=hJ;rw [Zla.eq_1] at hm;refine .lL [6] hs<|go ?_;exact ⟨ay,by omega,rfl,⟨_,_,_,_,_,_,_,_,_,_,_,_,_,_,_,_,_,rfl,hm,ab,ac,ae,ft,fu,fv,fw,ad,rfl⟩⟩
     refine go ?_;refine Zu [1,2,4,5,7,8,9,1000000] (fun n f bo=>∃ bp dm ck cl b9 ct ca cb,cb=n∧Tm N af ah ax a0 am an ao ap bn (Us N af ah (Ur N aa af aw) ax ay) cb dm b9 ct ca=some r∧St w0 (Zj col) bp bo∧Zb (Za.int .i64) 3 8 bp bo ck cl b9∧Zf 27 1 bp bo b7 #[.string aa.1,.slice bh aa.2.1.length bd,.slice bi aa.2.2.1.length be,.slice bj aa.2.2.2.1.length bf,.slice bk aa.2.2.2.2.length bg]∧Zf 27 2 bp bo b8 #[.string (⟨#[]⟩),.slice none (([]:List ByteArray).length) 0,.slice none (([]:List R6).length) 0,.slice none (([]:List R5).length) 0,(.slice none (([]:List R7).length) 0)]∧Zb Za.str 9 3 bp bo a2 a3 am∧Zb (Za.row 9 Za.str) 22 4 bp bo a4 a5 an∧Zb (Za.row 3 (Za.int .i64)) 33 5 bp bo a6 a7 ao∧Zb (Za.row 39 (Za.pair (Za.pair Za.bool (Za.row 95 (Za.int .u32))) (Za.row 95 (Za.int .u32)))) 114 6 bp bo a8 a9 ap∧Zf 27 7 bp bo bm #[.string a0,.slice a2 am.length a3,.slice a4 an.length a5,.slice a6 ao.length a7,.slice a8 ap.length a9]∧[10,11,12,6].map f=[.int .i64 dm,.slice ck b9.length cl,.int .i64 ct,.int .i64 ca]) N ⟨_,0,none,0,_,0,_,_,rfl,hm,ab,Zb.nil,ac,ae,aj,ak,al,ag,ad,rfl⟩ ?_;clear hm;intro n f bo hI;obtain ⟨bp,dm,ck,cl,b9,ct,ca,cb,hn,hm,ab,bq,ac,ae,aj,ak,al,ag,ad,hs⟩:=hI;subst hn;refine .lL [10,11,12,6] hs ?_
     cases cb with
     | zero=>rw [Tm.eq_1] at hm;cases hm
     | succ cb=>
      rw [Tm.eq_2] at hm;refine go ?_;refine Zo hm (fun hb hm=>?_) fun hb hm=>?_
      ·refine X0<|Zs ?_;refine Wp.cutK [1,12,2,4,5,7,8,9,1000000] (fun f br=>∃ bs eu ew ey dn ez,Zlb ct (Tm N af ah ax a0 am an ao ap bn (Us N af ah (Ur N aa af aw) ax ay) cb) eu dn ez=some r∧St w0 (Zj col) bs br∧Zb (Za.int .i64) 3 8 bs br ew ey dn∧Zf 27 1 bs br b7 #[.string aa.1,.slice bh aa.2.1.length bd,.slice bi aa.2.2.1.length be,.slice bj aa.2.2.2.1.length bf,.slice bk aa.2.2.2.2.length bg]∧Zf 27 2 bs br b8 #[.string (⟨#[]⟩),.slice none (([]:List ByteArray).length) 0,.slice none (([]:List R6).length) 0,.slice none (([]:List R5).length) 0,(.slice none (([]:List R7).length) 0)]∧Zb Za.str 9 3 bs br a2 a3 am∧Zb (Za.row 9 Za.str) 22 4 bs br a4 a5 an∧Zb (Za.row 3 (Za.int .i64)) 33 5 bs br a6 a7 ao∧Zb (Za.row 39 (Za.pair (Za.pair Za.bool (Za.row 95 (Za.int .u32))) (Za.row 95 (Za.int .u32)))) 114 6 bs br a8 a9 ap∧Zf 27 7 bs br bm #[.string a0,.slice a2 am.length a3,.slice a4 an.length a5,.slice a6 ao.length a7,.slice a8 ap.length a9]∧[10,11,6].map f=[.int .i64 eu,.slice ew dn.length ey,.int .i64 ez]) ?_ ?_
       ·intro f br hJ;obtain ⟨bs,eu,ew,ey,dn,ez,hm,ab,fx,ac,ae,aj,ak,al,ag,ad,hs⟩:=hJ;rw [Zlb.eq_1] at hm;refine .lL [10,11,6] hs<|go ?_;exact ⟨cb,by omega,rfl,⟨_,_,_,_,_,_,_,_,rfl,hm,ab,fx,ac,ae,aj,ak,al,ag,ad,rfl⟩⟩
       refine Zbd<|Zs<|Wl<|Yv rfl<|Zl<|Zs ?_;refine Wp.cutK [1,10,11,12,2,4,5,6,7,8,9,1000000] (fun f bt=>∃ ba dp,Zde dm b9 ct ca (Tm N af ah ax a0 am an ao ap bn (Us N af ah (Ur N aa af aw) ax ay) cb) dp=some r∧St w0 (Zj col) ba bt∧Zb (Za.int .i64) 3 8 ba bt ck cl b9∧Zf 27 1 ba bt b7 #[.string aa.1,.slice bh aa.2.1.length bd,.slice bi aa.2.2.1.length be,.slice bj aa.2.2.2.1.length bf,.slice bk aa.2.2.2.2.length bg]∧Zf 27 2 ba bt b8 #[.string (⟨#[]⟩),.slice none (([]:List ByteArray).length) 0,.slice none (([]:List R6).length) 0,.slice none (([]:List R5).length) 0,(.slice none (([]:List R7).length) 0)]∧Zb Za.str 9 3 ba bt a2 a3 am∧Zb (Za.row 9 Za.str) 22 4 ba bt a4 a5 an∧Zb (Za.row 3 (Za.int .i64)) 33 5 ba bt a6 a7 ao∧Zb (Za.row 39 (Za.pair (Za.pair Za.bool (Za.row 95 (Za.int .u32))) (Za.row 95 (Za.int .u32)))) 114 6 ba bt a8 a9 ap∧Zf 27 7 ba bt bm #[.string a0,.slice a2 am.length a3,.slice a4 an.length a5,.slice a6 ao.length a7,.slice a8 ap.length a9]∧[13].map f=[.int .i64 dp]) ?_ ?_
       ·intro f bt hJ;obtain ⟨ba,dp,hm,ab,bq,ac,ae,aj,ak,al,ag,ad,hs⟩:=hJ;rw [Zde.eq_1] at hm;refine .lL [13] hs<|go ?_;refine Vg (col:=ba) [dp] 9 ?_;intro g3 g4 g5 b5 fy;obtain ⟨fz,hm⟩:=Z3 hm;replace bq:=bq.gr b5;refine W7 bq (fy.srcN (NB.int (k:=.i64))) fz ?_;intro g6 g7 g8 g9 cc f0;refine go ?_;replace aj:=(aj.gr b5).kpp cc;replace ak:=(ak.gr b5).kpp cc;replace al:=(al.gr b5).kpp cc;replace ag:=(ag.gr b5).kpp cc;replace ac:=(ac.gr b5).kpp cc;replace ae:=(ae.gr b5).kpp cc;replace ad:=(ad.gr b5).kpp cc;replace ab:=(ab.grow b5).kpp cc;exact ⟨rfl,_,_,_,_,_,_,hm,ab,f0,ac,ae,aj,ak,al,ag,ad,rfl⟩
       refine go ?_;refine Zo hm (fun hb hm=>go ?_) fun hb hm=>?_
       ·obtain ⟨f1,hm⟩:=Z3 hm;refine lV (.int .i64 (Int.tmod ca (af.length:Int))) (Zcn ca (af.length:Int) rfl rfl f1) ?_;obtain ⟨fb,e0,hm⟩:=bZ hm;refine lI e0 ((h1.ks ab).addr e0)<|lW ((h1.ks ab).atInt e0)<|lV (.int .i64 (Int.tmod fb 20)) (Zcn fb 20 rfl rfl (by decide)) ?_;refine go ?_;refine Zo hm (fun hb hm=>go ?_) fun hb hm=>?_
        ·exact ⟨rfl,_,_,hm,ab,bq,ac,ae,aj,ak,al,ag,ad,rfl⟩
        refine X0 ?_;exact ⟨rfl,_,_,hm,ab,bq,ac,ae,aj,ak,al,ag,ad,rfl⟩
       refine X0 ?_;exact ⟨rfl,_,1,hm,ab,bq,ac,ae,aj,ak,al,ag,ad,rfl⟩
      refine Znh (Zk0 ?_);refine Zs ?_;refine Wp.cutK [1,2,4,5,6,7,8,9,1000000] (fun f bu=>∃ bv dq dr ds cn,Zfm N ah ax a0 am an ao ap bn (Us N af ah (Ur N aa af aw) ax ay) ca dq cn=some r∧St w0 (Zj col) bv bu∧Zb (Za.int .i64) 3 8 bv bu dr ds cn∧Zf 27 1 bv bu b7 #[.string aa.1,.slice bh aa.2.1.length bd,.slice bi aa.2.2.1.length be,.slice bj aa.2.2.2.1.length bf,.slice bk aa.2.2.2.2.length bg]∧Zf 27 2 bv bu b8 #[.string (⟨#[]⟩),.slice none (([]:List ByteArray).length) 0,.slice none (([]:List R6).length) 0,.slice none (([]:List R5).length) 0,(.slice none (([]:List R7).length) 0)]∧Zb Za.str 9 3 bv bu a2 a3 am∧Zb (Za.row 9 Za.str) 22 4 bv bu a4 a5 an∧Zb (Za.row 3 (Za.int .i64)) 33 5 bv bu a6 a7 ao∧Zb (Za.row 39 (Za.pair (Za.pair Za.bool (Za.row 95 (Za.int .u32))) (Za.row 95 (Za.int .u32)))) 114 6 bv bu a8 a9 ap∧Zf 27 7 bv bu bm #[.string a0,.slice a2 am.length a3,.slice a4 an.length a5,.slice a6 ao.length a7,.slice a8 ap.length a9]∧[10,11].map f=[.int .i64 dq,.slice dr cn.length ds]) ?_ ?_
      ·intro f bu hJ;obtain ⟨bv,dq,dr,ds,cn,hm,ab,ai,ac,ae,aj,ak,al,ag,ad,hs⟩:=hJ;rw [Zfm.eq_1] at hm;refine .lL [10,11] hs<|go ?_;refine Zu [1,10,11,2,4,5,6,7,8,9,1000000] (fun n f bb=>∃ az dt cu cv cw co cx cy cp cz c0 cq ci cj bw cr,cr=n∧Zb1 N ah ax bn (Us N af ah (Ur N aa af aw) ax ay) ca dq cn cr dt cu co cp cq bw=some r∧St w0 (Zj col) az bb∧Zb (Za.int .i64) 3 8 az bb dr ds cn∧Zf 27 1 az bb b7 #[.string aa.1,.slice bh aa.2.1.length bd,.slice bi aa.2.2.1.length be,.slice bj aa.2.2.2.1.length bf,.slice bk aa.2.2.2.2.length bg]∧Zf 27 2 az bb b8 #[.string (⟨#[]⟩),.slice none (([]:List ByteArray).length) 0,.slice none (([]:List R6).length) 0,.slice none (([]:List R5).length) 0,(.slice none (([]:List R7).length) 0)]∧Zb Za.str 9 3 az bb cv cw co∧Zb (Za.row 9 Za.str) 22 4 az bb cx cy cp∧Zb (Za.row 3 (Za.int .i64)) 33 5 az bb cz c0 cq∧Zb (Za.row 39 (Za.pair (Za.pair Za.bool (Za.row 95 (Za.int .u32))) (Za.row 95 (Za.int .u32)))) 114 6 az bb ci cj bw∧Zf 27 7 az bb bm #[.string cu,.slice cv co.length cw,.slice cx cp.length cy,.slice cz cq.length c0,.slice ci bw.length cj]∧[14].map f=[.int .i64 dt]) N ⟨_,0,_,_,_,_,_,_,_,_,_,_,_,_,_,_,rfl,hm,ab,ai,ac,ae,aj,ak,al,ag,ad,rfl⟩ ?_;clear hm;intro n f bb hI;obtain ⟨az,dt,cu,cv,cw,co,cx,cy,cp,cz,c0,cq,ci,cj,bw,cr,hn,hm,ab,ai,ac,ae,aq,ar,au,e1,ad,hs⟩:=hI;subst hn;refine .lL [14] hs ?_
       cases cr with
       | zero=>rw [Zb1.eq_1] at hm;cases hm
       | succ cr=>
        rw [Zb1.eq_2] at hm;refine go ?_;refine Zo hm (fun hb hm=>go ?_) fun hb hm=>go ?_
        ·refine Wh (col:=az) [(0,1),(1,0),(2,1),(3,1),(4,0),(5,1),(6,1),(7,1),(8,1),(9,1),(10,1),(11,0),(12,1),(13,3),(14,1),(15,2)] (by kernel_rfl) (by kernel_rfl)<|xF ⟨_,_,rfl⟩ ?_;refine xW (fun _ hC=>((ad.atN).nth (q:=4) rfl).gr (hC.bl az)) ?_;refine xu rfl rfl (fun _=>Yh rfl) ?_;obtain ⟨e2,du,hm⟩:=bZ hm;refine xu rfl rfl (fun _=>Ym underlying25 sizeOf114 rfl rfl (Z4 du).1 (Z4 du).2.1 (e1.addr du)) ?_;obtain ⟨_,c5,cd,av,f2⟩:=e1.open_ 10 (by decide) du;obtain ⟨fc,fd,rfl,ce⟩:=f2.row;replace av:Yf (Za.row 39 (Za.pair (Za.pair Za.bool (Za.row 95 (Za.int .u32))) (Za.row 95 (Za.int .u32)))) 114 6 c5 bb ci cj bw (Int.toNat ah) [.slice fc e2.length fd]:=av;refine xW (fun _ hC=>av.atN.one.gr (hC.bl c5)) ?_;refine xu rfl rfl (fun _=>Yh rfl) ?_;refine xu rfl rfl (fun _=>Yh rfl) ?_;refine xu rfl rfl (fun _=>Sn _ _ rfl rfl) ?_;refine xu rfl rfl (fun _=>Uj rfl) ?_;refine xu rfl rfl (fun _=>Yh rfl) ?_;obtain ⟨ha,dv,hm⟩:=bZ hm;replace ai:=ai.kpp cd;refine xu rfl rfl (fun _=>Ym underlying33 sizeOf3 rfl rfl (Z4 dv).1 (Z4 dv).2.1 (ai.addr dv)) ?_;refine xW (fun _ hC=>(ai.gr (hC.bl c5)).atInt dv) ?_;refine xu rfl rfl (fun _=>Yh rfl) ?_;refine xe rfl rfl ?_;intro hc hC0;have hC:=hC0.bl c5;obtain ⟨bx,f3,hm⟩:=bZ hm;refine Zk (Zkn (col:=c5) 11 12 f3) ?_;rintro _ hd ⟨fe,f4,f5,f6,f7,rfl,bc,e3,e4⟩;refine ⟨_,rfl,?_⟩;refine Zl<|Xo fe hC0 bc ?_;obtain ⟨he,dw,hm⟩:=bZ hm;replace ce:=(ce.gr hC).gr bc;refine xu rfl rfl (fun _=>Ym underlying114 sizeOf39 rfl rfl (Z4 dw).1 (Z4 dw).2.1 (ce.addr dw)) ?_;refine xe rfl rfl ?_;intro hf hC0;replace aq:=((aq.kpp cd).gr hC).gr bc;replace ar:=((ar.kpp cd).gr hC).gr bc;replace au:=((au.kpp cd).gr hC).gr bc;replace ac:=((ac.kpp cd).gr hC).gr bc;replace ae:=((ae.kpp cd).gr hC).gr bc;replace ad:=((ad.kpp cd).gr hC).gr bc;replace ab:=((ab.kpp cd).grow hC).grow bc;replace ai:=(ai.gr hC).gr bc;replace av:=(av.gr hC).gr bc;have hC:=hC0.bl fe;replace e3:=e3.gr hC;replace e4:=e4.gr hC;have f8:=Xu.join (Xu.joinL (Zab bx.1.1) e3.has) e4.has (by decide) (by decide);replace ai:=ai.gr hC;replace ai:=ai.recol 12 11 (by decide);replace aq:=aq.gr hC;replace aq:=aq.recol 12 11 (by decide);replace ar:=ar.gr hC;replace ar:=ar.recol 12 11 (by decide);replace au:=au.gr hC
         replace au:=au.recol 12 11 (by decide);replace av:=av.gr hC;replace av:=av.recol 12 11 (by decide);replace ce:=ce.gr hC;replace ce:=ce.recol 12 11 (by decide);replace ac:=ac.gr hC;replace ac:=ac.recol 12 11 (by decide);replace ae:=ae.gr hC;replace ae:=ae.recol 12 11 (by decide);replace ad:=ad.gr hC;replace ad:=ad.recol 12 11 (by decide);replace ab:=ab.grow hC;replace ab:=ab.recol 12 11 (by decide) (by decide);obtain ⟨c6,dx,hm⟩:=bZ hm;have dx:c6=e2.set (Int.toNat (i64.wrap (bn+dt))) ((bx.1.1,bx.1.2),bx.2):=(Option.some.inj dx).symm;refine Zop (x1:=((bx.1.1,bx.1.2),bx.2)) (v:=(.agg #[.bool bx.1.1,.slice f4 bx.1.2.length f5,.slice f6 bx.2.length f7])) ce dw rfl sizeOf39 f8 rfl rfl (by decide) ?_;intro e5 c7 b6 ff;rw [← dx] at ff;replace ad:=ad.kpp b6;replace ad:Zf 27 7 c7 e5 bm #[.string cu,.slice cv co.length cw,.slice cx cp.length cy,.slice cz cq.length c0,.slice ci bw.length cj]:=by rw [];exact ad
         replace av:=av.kpp b6;replace av:Yf (Za.row 39 (Za.pair (Za.pair Za.bool (Za.row 95 (Za.int .u32))) (Za.row 95 (Za.int .u32)))) 114 6 c7 e5 ci cj bw (Int.toNat ah) [.slice fc c6.length fd]:=by rw [← (show e2.length=c6.length by rw [dx,nS])];exact av
         refine Zl<|xk c7 ?_;have e6:=av.close ff.has (by decide) (by decide);replace ai:=ai.kpp b6;replace ai:=ai.recol 10 6 (by decide);replace aq:=aq.kpp b6;replace aq:=aq.recol 10 6 (by decide);replace ar:=ar.kpp b6;replace ar:=ar.recol 10 6 (by decide);replace au:=au.kpp b6;replace au:=au.recol 10 6 (by decide);replace ac:=ac.kpp b6;replace ac:=ac.recol 10 6 (by decide);replace ae:=ae.kpp b6;replace ae:=ae.recol 10 6 (by decide);replace ad:=ad.recol 10 6 (by decide);replace ab:=ab.kpp b6;replace ab:=ab.recol 10 6 (by decide) (by decide);replace ad:Zf 27 7 (Xm 10 6 c7) e5 bm #[.string cu,.slice cv co.length cw,.slice cx cp.length cy,.slice cz cq.length c0,.slice ci ((bw.set (Int.toNat ah) c6).length) cj]:=by rw [← (show bw.length=(bw.set (Int.toNat ah) c6).length by simp only [nS])];exact ad
         refine Y2 ?_;intro hg hC;replace hC:=hC.bl (Xm 10 6 c7);refine go ?_;replace ai:=ai.gr hC;replace aq:=aq.gr hC;replace ar:=ar.gr hC;replace au:=au.gr hC;replace e6:=e6.gr hC;replace ac:=ac.gr hC;replace ae:=ae.gr hC;replace ad:=ad.gr hC;replace ab:=ab.grow hC;exact ⟨cr,by omega,rfl,⟨_,_,_,_,_,_,_,_,_,_,_,_,_,_,_,_,rfl,hm,ab,ai,ac,ae,aq,ar,au,e6,ad,rfl⟩⟩
        exact ⟨rfl,_,_,_,_,_,_,_,_,_,_,_,_,_,_,_,hm,ab,ac,ae,aq,ar,au,e1,ad,rfl⟩
      refine go ?_;refine Zo hm (fun hb hm=>go ?_) fun hb hm=>?_
      ·obtain ⟨hh,e7,hm⟩:=bZ hm;refine lI e7 (bq.addr e7) ?_;obtain ⟨e8,dy,hm⟩:=bZ hm;have dy:e8=b9.set (Int.toNat 0) 1:=(Option.some.inj dy).symm;refine Y6 (x1:=1) bq e7 ?_;intro hi cf f9 fg;rw [← dy] at fg;refine .ld (d:=11) (v:=(.slice ck e8.length cl)) (congrArg (fun n=>Value.slice ck n cl) (show b9.length=e8.length by rw [dy,nS])) ?_;refine go ?_;replace aj:=aj.kp cf;replace ak:=ak.kp cf;replace al:=al.kp cf;replace ag:=ag.kp cf;replace ac:=ac.kp cf;replace ae:=ae.kp cf;replace ad:=ad.kp cf;replace ab:=ab.kp cf f9;exact ⟨rfl,_,1,_,_,_,hm,ab,fg,ac,ae,aj,ak,al,ag,ad,rfl⟩
      refine X0 ?_;exact ⟨rfl,_,_,_,_,_,hm,ab,bq,ac,ae,aj,ak,al,ag,ad,rfl⟩
    exact ⟨aw,by omega,rfl,⟨_,_,_,_,_,_,_,_,_,_,_,_,_,_,_,_,_,rfl,hm,ab,ac,ae,aj,ak,al,ag,ad,rfl⟩⟩
  refine lV _ (Z2 isAgg27 sizeOf27 ad)<|Zz ae ?_;intro hj c8 ga gb;refine go ?_;cases hm;replace dd:=dd.kp c8;replace de:=de.kp c8;replace df:=df.kp c8;replace dg:=dg.kp c8;replace ab:=ab.kp c8 ga;exact ⟨rfl,_,ra gb.atN,_,_,_,_,_,_,_,_,_,rfl,ab.fin (cm [(3,c1),(4,c2),(5,c3),(6,c4)]),ab.fo dd,ab.fo de,ab.fo df,ab.fo dg⟩
theorem Zjq (a:QV) (l:List QV):Yu (a :: l)=Zv a+Yu l:=by rw [Yu,List.map_cons,List.sum_cons,Yu]
def Wy (s:Int) (l:List Int):List QV:=l.map fun w:Int=>Zw ((w:Rat) / (s:Rat))
theorem Zx4 (s:Int):∀ l:List Int,(∀ x ∈ l,0≤x)→Yu (Wy s l)=((X7 l:Nat):Rat) / (s:Rat)
 | [],_=>by rw [X7,Rat.div_def];show (0:Rat)=0 * _;rw [Rat.zero_mul]
 | x :: l,h=>by
  have hx:=h x List.mem_cons_self
  have ih:=Zx4 s l fun y hy=>h y (List.mem_cons_of_mem _ hy)
  obtain ⟨d,rfl⟩:∃ d:Nat,x=(d:Int):=⟨x.toNat,by omega⟩
  rw [Wy] at ih
  rw [Wy,List.map_cons,Zjq,V3,ih,X7,Int.toNat_natCast,Rat.natCast_add,Rat.div_def,Rat.div_def,Rat.div_def,Rat.add_mul]
  rfl
theorem Zyo:∀ a b:List Int,X7 (a++b)=X7 a+X7 b
 | [],b=>by rw [List.nil_append,X7,Nat.zero_add]
 | x :: a,b=>by rw [List.cons_append,X7,X7,Zyo a b,Nat.add_assoc]
theorem Zyp:∀ {l:List Int} {x:Int},x ∈ l→x.toNat≤X7 l
 | y :: l,x,h=>by
  rw [X7]
  rcases List.mem_cons.1 h with rfl | h
  ·omega
  ·have:=Zyp h;omega
structure Zhc (l:List QV):Prop where
 ent:∀ x ∈ l,0≤Zv x∧Zv x≤1∧RV 1 x
 sum:Yu l=1
theorem Zqy {s:Int} {l:List Int} (hl:∀ x ∈ l,0≤x) (hs:(X7 l:Int)=s) (h1:1≤s) (h2:s≤4294967295):Zhc (Wy s l) where
 ent:=fun x hx=>by
  obtain ⟨w,hw,rfl⟩:=List.mem_map.1 hx
  have h3:=hl w hw
  have h4:=Zyp hw
  obtain ⟨d,rfl⟩:∃ d:Nat,w=(d:Int):=⟨w.toNat,by omega⟩
  obtain ⟨t,rfl⟩:∃ t:Nat,s=(t:Int):=⟨s.toNat,by omega⟩
  have e:(((d:Int):Rat) / ((t:Int):Rat))=mkRat (d:Int) t:=(Rat.mkRat_eq_div _ _).symm
  rw [e,V3]
  refine ⟨?_,?_,Su (Zjo (Wq.2 (by simp;omega)) (Wq.2 (by simp;omega)) (Nat.le_refl _))⟩
  ·rw [← Rat.not_lt,show (0:Rat)=mkRat 0 1 from rfl,Zml (by omega) (by decide)];omega
  ·rw [← Rat.not_lt,show (1:Rat)=mkRat 1 1 from rfl,Zml (by decide) (by omega)];omega
 sum:=by
  rw [Zx4 s l hl]
  have e:((X7 l:Nat):Rat)=(s:Rat):=by rw [← hs];rfl
  rw [e,Rat.div_def]
  exact Rat.mul_inv_cancel _ (by intro h;have:=Rat.intCast_inj.1 (show ((s:Int):Rat)=((0:Int):Rat) from h);omega)
section
variable {N:Nat} (hr:Xh N 4) {vals:List ByteArray} {k:Nat} (hk:vals.length=k) (hk1:1≤k) (hkb:k≤65536) {v:Nat} {M:List (List QV)} (hv:v<M.length) (m1:ByteArray) (m2:List ByteArray) (m3:List R6) (m4:List R5)
variable (kk:ByteArray→List ByteArray→List R6→List R5→List (List QV)→Int→Int→Option Zr) {from0:Nat} (hfr:from0≤65536) {A t:List QV} (hA:A.length=from0) (ht:k≤t.length)
include hr hk hkb hv hfr hA ht
theorem Zv4 {at0 s:Int} {l:List Int} (hl:l.length=k) (hl0:∀ x ∈ l,0≤x∧x≤1048576) (hs:1≤s) (hs2:s≤4294967295):∀ (m u f:Nat),u+m=k→m<f→
  Zb1 N (v:Int) vals (from0:Int) kk at0 s l f (u:Int) m1 m2 m3 m4 (M.set v (A++(Wy s (l.take u)++t.drop u)))=kk m1 m2 m3 m4 (M.set v (A++(Wy s l++t.drop k))) at0 ((from0+k:Nat):Int)
 | m,u,0,_,h=>by omega
 | 0,u,f+1,hu,_=>by
  obtain rfl:u=k:=by omega
  rw [Zb1.eq_2,if_neg (dF (by omega)),Zla,hk,Z0 (by omega),List.take_of_length_le (by omega),Int.natCast_add]
 | m+1,u,f+1,hu,hf=>by
  have hul:u<l.length:=by omega
  obtain ⟨x0,x1⟩:=hl0 _ (List.getElem_mem hul)
  have few:Zb0 N l[u] s=some (Zw ((l[u]:Rat) / (s:Rat))):=by
   have:=Zkw (N:=N) (a:=l[u]) (b:=s) (by omega) (by omega) hr
   rw [if_neg (by omega)] at this
   rw [Zb0,this,oB]
  have hat:Zm (M.set v (A++(Wy s (l.take u)++t.drop u))) (v:Int)=some (A++(Wy s (l.take u)++t.drop u)):=by
   rw [Z5 (by rw [nS];exact hv),List.getElem_set_self]
  have hrl:(Wy s (l.take u)).length=u:=by rw [Wy,List.length_map,nK];omega
  have hat2:Zm (A++(Wy s (l.take u)++t.drop u)) ((from0+u:Nat):Int)=some (t[u]'(by omega)):=by
   rw [Z5 (by simp only [nA,hrl,List.length_drop];omega),List.getElem_append_right (by omega)]
   simp only [hA,Nat.add_sub_cancel_left]
   rw [List.getElem_append_right (by omega)]
   simp only [hrl,Nat.sub_self,List.getElem_drop,Nat.add_zero]
  have hset:(A++(Wy s (l.take u)++t.drop u)).set (from0+u) (Zw ((l[u]:Rat) / (s:Rat)))=A++(Wy s (l.take (u+1))++t.drop (u+1)):=by
   rw [List.set_append_right _ _ (by omega),hA,Nat.add_sub_cancel_left,List.set_append_right _ _ (by omega),hrl,Nat.sub_self,List.drop_eq_getElem_cons (l:=t) (i:=u) (by omega),List.set_cons_zero,List.take_add_one,List.getElem?_eq_getElem (by omega),Option.toList_some,Wy,Wy,List.map_append,List.map_singleton,List.append_assoc]
   rfl
  have ew:i64.wrap ((from0:Int)+(u:Int))=((from0+u:Nat):Int):=by rw [Z0 (by omega),Int.natCast_add]
  rw [Zb1.eq_2,if_pos (dT (by omega)),hat,oB,Z5 hul,oB,few,oB,ew,hat2,oB,oB,Int.toNat_natCast,Int.toNat_natCast,List.set_set,show (((Zw ((l[u]:Rat) / (s:Rat))).1.1,(Zw ((l[u]:Rat) / (s:Rat))).1.2),(Zw ((l[u]:Rat) / (s:Rat))).2)=Zw ((l[u]:Rat) / (s:Rat)) from rfl,hset,wS (by omega)]
  exact Zv4 hl hl0 hs hs2 m (u+1) f (by omega) (by omega)
include hk1 in
theorem Zv3 (hkN:k<N) (ws:List Int):∀ (m i f:Nat) (l:List Int) (a:Nat),i+m=k→m<f→l.length=i→(∀ x ∈ l,0≤x∧x≤19)→a+m≤1099511627776→
  ∃ R,Zhc R∧R.length=k∧Tm N ws (v:Int) vals m1 m2 m3 m4 (M.set v (A++t)) (from0:Int) kk f ((X7 l:Nat):Int) l (i:Int) (a:Int)=kk m1 m2 m3 m4 (M.set v (A++(R++t.drop k))) ((a+m:Nat):Int) ((from0+k:Nat):Int)
 | m,i,0,_,_,_,h,_,_,_=>by omega
 | 0,i,f+1,l,a,hi,_,hl,hl0,ha=>by
  have hsl:=Zg3 (c:=19) l fun x hx=>(hl0 x hx).2
  have fin:∀ (s:Int) (q:List Int),q.length=k→(∀ x ∈ q,0≤x∧x≤19)→(X7 q:Int)=s→1≤s→∃ R,Zhc R∧R.length=k∧Zfm N (v:Int) vals m1 m2 m3 m4 (M.set v (A++t)) (from0:Int) kk (a:Int) s q=kk m1 m2 m3 m4 (M.set v (A++(R++t.drop k))) ((a+0:Nat):Int) ((from0+k:Nat):Int):=fun s q q1 q2 q3 q4=>by
   have hsq:=Zg3 (c:=19) q fun x hx=>(q2 x hx).2
   refine ⟨Wy s q,Zqy (fun x hx=>(q2 x hx).1) q3 q4 (by omega),by rw [Wy,List.length_map,q1],?_⟩
   have L4:=Zv4 hr hk hkb hv m1 m2 m3 m4 kk hfr hA ht (at0:=(a:Int)) q1 (fun x hx=>by have:=q2 x hx;omega) q4 (by omega) k 0 N (by omega) hkN
   rw [List.take_zero,List.drop_zero,show Wy s []=[] from rfl,List.nil_append] at L4
   rw [Zfm]
   exact L4
  rw [Tm.eq_2,if_neg (dF (by omega))]
  by_cases h0:X7 l=0
  ·rw [if_pos (dT (by omega)),show (0:Int)=((0:Nat):Int) from rfl,Z5 (by omega),oB,oB,Int.toNat_natCast]
   refine fin 1 (l.set 0 1) (by rw [nS];omega) (fun x hx=>?_) ?_ (by decide)
   ·rcases List.mem_or_eq_of_mem_set hx with h | h
    ·exact hl0 x h
    ·subst h;decide
   ·cases l with
    | nil=>simp at hl;omega
    | cons y l=>
     rw [List.set_cons_zero,X7]
     rw [X7] at h0
     omega
  ·rw [if_neg (dF (by omega))]
   exact fin _ l (by omega) hl0 rfl (by omega)
 | m+1,i,f+1,l,a,hi,hf,hl,hl0,ha=>by
  have hsl:=Zg3 (c:=19) l fun x hx=>(hl0 x hx).2
  have step:∀ w:Int,0≤w→w≤19→∃ R,Zhc R∧R.length=k∧Zde ((X7 l:Nat):Int) l (i:Int) (a:Int) (Tm N ws (v:Int) vals m1 m2 m3 m4 (M.set v (A++t)) (from0:Int) kk f) w=kk m1 m2 m3 m4 (M.set v (A++(R++t.drop k))) ((a+(m+1):Nat):Int) ((from0+k:Nat):Int):=fun w w0 w1=>by
   obtain ⟨R,R1,R2,R3⟩:=Zv3 hkN ws m (i+1) f (l++[w]) (a+1) (by omega) (by omega) (by rw [nA,List.length_singleton,hl]) (fun x hx=>by
    rcases List.mem_append.1 hx with h | h
    ·exact hl0 x h
    ·rw [List.mem_singleton] at h;subst h;exact ⟨w0,w1⟩) (by omega)
   refine ⟨R,R1,R2,?_⟩
   have e:((X7 (l++[w]):Nat):Int)=(X7 l:Int)+w:=by
    rw [Zyo,X7,X7];omega
   rw [e,show a+1+m=a+(m+1) by omega] at R3
   rw [Zde,Z9 (by simp only [List.length_singleton,maxLen];omega),Zlb,Z0 (x:=(X7 l:Int)+w) (by omega),wS (by omega),wS (by omega)]
   exact R3
  rw [Tm.eq_2,if_pos (dT (by omega))]
  by_cases hw:0<ws.length
  ·have t1:0≤Int.tmod (a:Int) (ws.length:Int):=Int.tmod_nonneg _ (by omega)
   have t2:Int.tmod (a:Int) (ws.length:Int)<(ws.length:Int):=Int.tmod_lt_of_pos _ (by omega)
   obtain ⟨j,hj⟩:∃ j:Nat,Int.tmod (a:Int) (ws.length:Int)=(j:Int):=⟨(Int.tmod (a:Int) (ws.length:Int)).toNat,by omega⟩
   have hjl:j<ws.length:=by omega
   rw [if_pos (dT (by omega)),Z9 (by omega),hj,Z5 hjl,oB]
   have b1:=Int.tmod_lt_of_pos ws[j] (show (0:Int)<20 by decide)
   have b2:-20<Int.tmod ws[j] 20:=by
    have:=Int.tmod_lt_of_pos (-ws[j]) (show (0:Int)<20 by decide)
    rw [Int.neg_tmod] at this;omega
   by_cases hn:Int.tmod ws[j] 20<0
   ·rw [if_pos (dT hn),Z0 (by omega)]
    exact step _ (by omega) (by omega)
   ·rw [if_neg (dF hn)]
    exact step _ (by omega) (by omega)
  ·rw [if_neg (dF (by omega))]
   exact step 1 (by decide) (by decide)
end
structure Zep (k m:Nat) (l:List QV):Prop where
 len:l.length=m * k
 ent:∀ x ∈ l,0≤Zv x∧Zv x≤1∧RV 1 x
 row:∀ j,j<m→Yu ((l.drop (j * k)).take k)=1
theorem Zep.cons {k m:Nat} {R l:List QV} (hR:Zhc R) (hl:R.length=k) (h:Zep k m l):Zep k (m+1) (R++l) where
 len:=by rw [nA,hl,h.len,Nat.add_mul,Nat.one_mul,Nat.add_comm]
 ent:=fun x hx=>(List.mem_append.1 hx).elim (hR.ent x) (h.ent x)
 row:=fun j hj=>by
  cases j with
  | zero=>rw [Nat.zero_mul,List.drop_zero,List.take_append_of_le_length (by omega),List.take_of_length_le (by omega)];exact hR.sum
  | succ j=>
   have:=h.row j (by omega)
   rw [show (j+1) * k=k+j * k by rw [Nat.add_mul,Nat.one_mul,Nat.add_comm],← List.drop_drop,List.drop_left' hl]
   exact this
section
variable {N:Nat} (hr:Xh N 4) {vals:List ByteArray} {k:Nat} (hk:vals.length=k) (hk1:1≤k) (hkb:k≤65536) {v:Nat} {M:List (List QV)} (hv:v<M.length) (hv2:v≤1048576) (m1:ByteArray) (m2:List ByteArray) (m3:List R6) (m4:List R5) (hkN:k<N) (ws:List Int)
variable (kk:ByteArray→List ByteArray→List R6→List R5→List (List QV)→Int→Int→Option Zr)
include hr hk hk1 hkb hv hv2 hkN
theorem Zv2:∀ (m j f:Nat) (A t:List QV) (a:Nat),A.length=j * k→t.length=m * k→j * k+m * k≤65536→m<f→a+m * k≤1099511627776→
  ∃ T,Zep k m T∧Us N ws (v:Int) kk vals f m1 m2 m3 m4 (M.set v (A++t)) (a:Int) ((j * k:Nat):Int)=kk m1 m2 m3 m4 (M.set v (A++T)) ((a+m * k:Nat):Int) ((v+1:Nat):Int)
 | m,j,0,_,_,_,_,_,_,h,_=>by omega
 | 0,j,f+1,A,t,a,hA,ht,hb,_,ha=>by
  rw [Nat.zero_mul] at ht
  have hat:Zm (M.set v (A++t)) (v:Int)=some (A++t):=by
   rw [Z5 (by rw [nS];exact hv),List.getElem_set_self]
  have ht0:t=[]:=List.length_eq_zero_iff.1 ht
  refine ⟨[],⟨by rw [Nat.zero_mul];rfl,fun x hx=>(by cases hx),fun j hj=>(by omega)⟩,?_⟩
  rw [Us.eq_2,hat,oB,if_neg (dF (by rw [nA];omega)),wS (by omega),ht0,Nat.zero_mul];rfl
 | m+1,j,f+1,A,t,a,hA,ht,hb,hf,ha=>by
  have e1:(m+1) * k=m * k+k:=by rw [Nat.add_mul,Nat.one_mul]
  have e2:(j+1) * k=j * k+k:=by rw [Nat.add_mul,Nat.one_mul]
  rw [e1] at ht hb ha
  have hat:Zm (M.set v (A++t)) (v:Int)=some (A++t):=by
   rw [Z5 (by rw [nS];exact hv),List.getElem_set_self]
  obtain ⟨R,R1,R2,R3⟩:=Zv3 hr hk hk1 hkb hv m1 m2 m3 m4 (Us N ws (v:Int) kk vals f) (from0:=j * k) (by omega) hA (t:=t) (by omega) hkN ws k 0 N [] a (by omega) hkN rfl (fun x hx=>by cases hx) (by omega)
  obtain ⟨T,T1,T2⟩:=Zv2 m (j+1) f (A++R) (t.drop k) (a+k) (by rw [nA];omega) (by rw [List.length_drop];omega) (by omega) (by omega) (by omega)
  refine ⟨R++T,T1.cons R1 R2,?_⟩
  rw [Us.eq_2,hat,oB,if_pos (dT (by rw [nA];omega))]
  refine R3.trans ?_
  rw [← List.append_assoc,← List.append_assoc,← e2,e1,show a+(m * k+k)=a+k+m * k by omega]
  exact T2
end
section
variable {N W:Nat} {n:Zr} (hf:Yo N n) (hr:Xh N 65536)
include hf hr
theorem Zv1 (ws:List Int):∀ (f v:Nat) (M:List (List QV)) (a:Nat),v≤n.2.1.length→n.2.1.length<f+v→M.length=n.2.1.length→(∀ i,v≤i→i<n.2.1.length→M.getD i []=n.2.2.2.2.getD i [])→(∀ i,i<v→Zep (cnt n i) (Yg n.2.2.1 (n.2.2.2.1.getD i []) 1) (M.getD i []))→a+65536 * (n.2.1.length - v)≤1099511627776→
  ∃ T,Ur N n ws f n.1 n.2.1 n.2.2.1 n.2.2.2.1 M (a:Int) (v:Int)=some (Z7 n T)∧T.length=n.2.1.length∧∀ i,i<n.2.1.length→Zep (cnt n i) (Yg n.2.2.1 (n.2.2.2.1.getD i []) 1) (T.getD i [])
 | 0,v,M,a,h1,h2,_,_,_,_=>by omega
 | f+1,v,M,a,h1,h2,h3,h4,h5,h6=>by
  have hle:=hf.le
  obtain ⟨r1,r2⟩:=id hr
  rw [Ur.eq_2]
  by_cases hv:v<n.2.1.length
  ·have hvv:v<n.2.2.1.length:=by rw [hf.ev.v];exact hv
   obtain ⟨c1,c2,c3⟩:=hf.rows hv
   have hcp:=Zah hf.ev hv
   have hk:n.2.2.1[v].length=cnt n v:=by rw [cnt,Xx hvv]
   have hrw:0<Yg n.2.2.1 (n.2.2.2.1.getD v []) 1:=Zg1 hf.ev (n.2.2.2.1.getD v []) 1 (hf.pars hv) (by omega)
   have hkb:cnt n v≤65536:=by
    have:=Nat.le_mul_of_pos_left (cnt n v) hrw
    omega
   have hMv:M[v]'(by omega)=n.2.2.2.2.getD v []:=by
    have:=h4 v (Nat.le_refl _) hv
    rwa [Xx (by omega)] at this
   have hMs:M.set v ([]++n.2.2.2.2.getD v [])=M:=by rw [List.nil_append,← hMv,List.set_getElem_self]
   obtain ⟨T,T1,T2⟩:=Zv2 (hr.mono (by decide)) hk (by omega) hkb (M:=M) (v:=v) (by omega) (by omega) n.1 n.2.1 n.2.2.1 n.2.2.2.1 (by omega) ws (Ur N n ws f) (Yg n.2.2.1 (n.2.2.2.1.getD v []) 1) 0 N [] (n.2.2.2.2.getD v []) a (by rw [Nat.zero_mul];rfl) c1.symm (by omega) (by omega) (by omega)
   rw [hMs,List.nil_append,Nat.zero_mul] at T2
   obtain ⟨U,U1,U2,U3⟩:=Zv1 ws f (v+1) (M.set v T) (a+Yg n.2.2.1 (n.2.2.2.1.getD v []) 1 * cnt n v) (by omega) (by omega) (by rw [nS];exact h3) (fun i i1 i2=>by
    rw [T8 _ _ _ _ _ (by omega),if_neg (by omega)];exact h4 i (by omega) i2) (fun i hi=>by
    rw [T8 _ _ _ _ _ (by omega)]
    by_cases e:i=v
    ·subst e;rw [if_pos rfl];exact T1
    ·rw [if_neg e];exact h5 i (by omega)) (by omega)
   refine ⟨U,?_,U2,U3⟩
   rw [if_pos (dT (by omega)),Z5 hvv,oB]
   exact T2.trans U1
  ·refine ⟨M,?_,h3,fun i hi=>h5 i (by omega)⟩
   rw [if_neg (dF (by omega))];rfl
theorem Z4y (hb:Zeo n) (hN:1099511627777<N) (ws:List Int):∃ T,Zfl N n ws=some (Z7 n T)∧Zag n T∧∀ t ∈ T,t.length≤65536∧∀ x ∈ t,RV 1 x:=by
 have hle:=hf.le
 have tw:Zcg N (n.1,n.2.1,n.2.2.1,n.2.2.2.1,n.2.2.2.2)=some n:=Zzk hb hN
 obtain ⟨T,T1,T2,T3⟩:=Zv1 hf hr ws N 0 n.2.2.2.2 0 (Nat.zero_le _) (by omega) hf.ev.t (fun _ _ _=>rfl) (fun i hi=>by omega) (by omega)
 refine ⟨T,by rw [Zfl,tw,oB];exact T1,⟨T2,fun v hv=>(T3 v hv).len.trans (hf.rows hv).1,fun v hv x hx=>⟨((T3 v hv).ent x hx).1,((T3 v hv).ent x hx).2.1⟩,fun v hv=>(T3 v hv).row⟩,fun t ht=>?_⟩
 obtain ⟨v,hv,rfl⟩:=List.getElem_of_mem ht
 have hv2:v<n.2.1.length:=by omega
 have h:=T3 v hv2
 rw [Xx hv] at h
 have h1:=h.len
 obtain ⟨c1,c2,_⟩:=hf.rows hv2
 exact ⟨by omega,fun x hx=>(h.ent x hx).2.2⟩
end
def Zp5 (c:List Int):List Int:=c.map (· +1)
theorem Z6i:∀ c:List Int,(∀ x ∈ c,0≤x)→X7 (Zp5 c)=X7 c+c.length
 | [],_=>rfl
 | x :: c,h=>by
  have hx:=h x List.mem_cons_self
  have ih:=Z6i c fun y hy=>h y (List.mem_cons_of_mem _ hy)
  rw [Zp5] at ih
  rw [Zp5,List.map_cons,X7,X7,ih,nC];omega
theorem Zw3:∀ l:List Int,(∀ x ∈ l,0≤x)→Yu (l.map fun y:Int=>Zw (y:Rat))=((X7 l:Nat):Rat)
 | [],_=>rfl
 | x :: l,h=>by
  have hx:=h x List.mem_cons_self
  have ih:=Zw3 l fun y hy=>h y (List.mem_cons_of_mem _ hy)
  obtain ⟨d,rfl⟩:∃ d:Nat,x=(d:Int):=⟨x.toNat,by omega⟩
  rw [List.map_cons,Zjq,V3,ih,X7,Int.toNat_natCast,Rat.natCast_add];rfl
theorem Zmn (M:Rat) (c:List Int) (k:Nat):(X9 M c).take k=X9 M (c.take k):=by rw [X9,X9,List.map_take]
theorem Zmm (M:Rat) (c:List Int) (k:Nat):(X9 M c).drop k=X9 M (c.drop k):=by rw [X9,X9,List.map_drop]
def Y4:List Rat→Rat
 | []=>1
 | x :: l=>x * Y4 l
def Yn:List Rat→Rat
 | []=>0
 | x :: l=>x+Yn l
theorem Zwp {l r:List Rat} (h:l.Perm r):Y4 l=Y4 r:=by
 induction h with
 | nil=>rfl
 | cons x _ ih=>rw [Y4,Y4,ih]
 | swap x y l=>simp only [Y4];grind
 | trans _ _ a b=>exact a.trans b
theorem Zys {l r:List Rat} (h:l.Perm r):Yn l=Yn r:=by
 induction h with
 | nil=>rfl
 | cons x _ ih=>rw [Yn,Yn,ih]
 | swap x y l=>simp only [Yn];grind
 | trans _ _ a b=>exact a.trans b
theorem Zwo:∀ l:List Rat,(∀ x ∈ l,0≤x)→0≤Y4 l
 | [],_=>by rw [Y4];decide
 | x :: l,h=>Rat.mul_nonneg (h x List.mem_cons_self) (Zwo l fun y hy=>h y (List.mem_cons_of_mem _ hy))
theorem Zex (n:Nat):((n+1:Nat):Rat)=(n:Rat)+1:=by rw [Rat.natCast_add];rfl
theorem Zrl:∀ l:List Rat,(∀ x ∈ l,1<x)→(l.length:Rat)≤Yn l
 | [],_=>by simp only [Yn,nN];decide
 | x :: l,h=>by
  have h1:=h x List.mem_cons_self
  have h2:=Zrl l fun y hy=>h y (List.mem_cons_of_mem _ hy)
  rw [nC,Zex,Yn]
  grind
theorem Zrm:∀ l:List Rat,(∀ x ∈ l,x<1)→Yn l≤(l.length:Rat)
 | [],_=>by simp only [Yn,nN];decide
 | x :: l,h=>by
  have h1:=h x List.mem_cons_self
  have h2:=Zrm l fun y hy=>h y (List.mem_cons_of_mem _ hy)
  rw [nC,Zex,Yn]
  grind
theorem Zrn:∀ (n:Nat) (l:List Rat),l.length=n→(∀ x ∈ l,0≤x)→Yn l=(n:Rat)→Y4 l≤1
 | 0,[],_,_,_=>by rw [Y4];exact Rat.le_refl
 | 1,[x],_,_,hs=>by
  have:x=1:=by
   simp only [Yn] at hs
   rw [Rat.add_zero] at hs
   exact hs
  rw [this,Y4,Y4,Rat.mul_one];exact Rat.le_refl
 | n+2,l,hl,h0,hs=>by
  -- one of at most 1
  have hx:∃ x ∈ l,x≤1:=by
   by_cases h:∃ x ∈ l,x≤1
   ·exact h
   ·exfalso
    have hb:∀ x ∈ l,1<x:=fun x hx=>Rat.not_le.1 fun hle=>h ⟨x,hx,hle⟩
    cases l with
    | nil=>simp at hl
    | cons y t=>
     have h1:=hb y List.mem_cons_self
     have h2:=Zrl t fun z hz=>hb z (List.mem_cons_of_mem _ hz)
     rw [nC] at hl
     have hl':t.length=n+1:=by omega
     rw [hl'] at h2
     rw [Yn,show ((n+2:Nat):Rat)=((n+1:Nat):Rat)+1 from Zex (n+1)] at hs
     grind
  obtain ⟨x,hxm,hx1⟩:=hx
  have hp:=List.perm_cons_erase hxm
  have hl1:(l.erase x).length=n+1:=by rw [List.length_erase_of_mem hxm,hl];rfl
  have hs1:=Zys hp
  have hx0:=h0 x hxm
  have h01:∀ z ∈ l.erase x,0≤z:=fun z hz=>h0 z (List.mem_of_mem_erase hz)
  have hpr:=Zwp hp
  rw [hpr,Y4]
  rw [hs1,Yn,show ((n+2:Nat):Rat)=((n+1:Nat):Rat)+1 from Zex (n+1)] at hs
  generalize l.erase x=t at *
  -- one of at least 1
  have hy:∃ y ∈ t,1≤y:=by
   by_cases h:∃ y ∈ t,1≤y
   ·exact h
   ·exfalso
    have hb:∀ y ∈ t,y<1:=fun y hy=>Rat.not_le.1 fun hle=>h ⟨y,hy,hle⟩
    cases t with
    | nil=>simp at hl1
    | cons y t=>
     have h1:=hb y List.mem_cons_self
     have h2:=Zrm t fun z hz=>hb z (List.mem_cons_of_mem _ hz)
     rw [nC] at hl1
     have hl':t.length=n:=by omega
     rw [hl'] at h2
     rw [Yn,Zex] at hs
     grind
  obtain ⟨y,hym,hy1⟩:=hy
  have hq:=List.perm_cons_erase hym
  have hl2:(t.erase y).length=n:=by rw [List.length_erase_of_mem hym,hl1];rfl
  have hs2:=Zys hq
  have hq2:=Zwp hq
  have h02:∀ z ∈ t.erase y,0≤z:=fun z hz=>h01 z (List.mem_of_mem_erase hz)
  rw [hq2,Y4]
  rw [hs2,Yn] at hs
  generalize t.erase y=u at *
  have hxy:0≤x+y - 1:=by grind
  have ih:=Zrn (n+1) ((x+y - 1) :: u) (by rw [nC,hl2]) (fun z hz=>by
   rcases List.mem_cons.1 hz with rfl | hz
   ·exact hxy
   ·exact h02 z hz) (by rw [Yn];grind)
  rw [Y4] at ih
  have hu:=Zwo u h02
  have hk:0≤(1 - x) * (y - 1):=Rat.mul_nonneg (by grind) (by grind)
  have hk2:x * y≤x+y - 1:=by grind
  have hk3:=Rat.mul_le_mul_of_nonneg_right hk2 hu
  have e:x * (y * Y4 u)=x * y * Y4 u:=(Rat.mul_assoc _ _ _).symm
  rw [e]
  exact Rat.le_trans hk3 ih
theorem Zt7 {a:Rat} (h:0≤a):0≤a⁻¹:=by
 by_cases h0:a=0
 ·rw [h0,Rat.inv_zero];exact Rat.le_refl
 ·by_cases hn:a⁻¹<0
  ·exfalso
   have h1:=Rat.mul_le_mul_of_nonneg_left (Rat.le_of_lt hn) h
   rw [Rat.mul_inv_cancel _ h0,Rat.mul_zero] at h1
   exact absurd h1 (by decide)
  ·exact Rat.not_lt.1 hn
/-! powers -/
def Xw (q:Rat):Nat→Rat
 | 0=>1
 | n+1=>Xw q n * q
theorem Zgt {q:Rat} (h:0≤q):∀ n,0≤Xw q n
 | 0=>by rw [Xw];decide
 | n+1=>Rat.mul_nonneg (Zgt h n) h
theorem Zwj {q:Rat} (h:0<q):∀ n,0<Xw q n
 | 0=>by rw [Xw];decide
 | n+1=>Rat.mul_pos (Zwj h n) h
theorem Zjn (a b:Rat):∀ n,Xw (a * b) n=Xw a n * Xw b n
 | 0=>by rw [Xw,Xw,Xw,Rat.mul_one]
 | n+1=>by rw [Xw,Xw,Xw,Zjn a b n];grind
theorem Zqb:∀ n,Xw 1 n=1
 | 0=>rfl
 | n+1=>by rw [Xw,Zqb n,Rat.mul_one]
theorem Zwh (q:Rat) (m:Nat):∀ n,Xw q (m+n)=Xw q m * Xw q n
 | 0=>by rw [Xw,Nat.add_zero,Rat.mul_one]
 | n+1=>by rw [← Nat.add_assoc,Xw,Zwh q m n,Xw,Rat.mul_assoc]
theorem Zwi {a b:Rat} (ha:0≤a) (h:a≤b):∀ n,Xw a n≤Xw b n
 | 0=>Rat.le_refl
 | n+1=>by
  rw [Xw,Xw]
  exact Rat.le_trans (Rat.mul_le_mul_of_nonneg_right (Zwi ha h n) ha) (Rat.mul_le_mul_of_nonneg_left h (Zgt (Rat.le_trans ha h) n))
theorem Zwn (k:Rat):∀ l:List Rat,Y4 (l.map (· * k))=Y4 l * Xw k l.length
 | []=>by rw [List.map_nil,Y4,nN,Xw,Rat.mul_one]
 | x :: l=>by rw [List.map_cons,Y4,Zwn k l,Y4,nC,Xw];grind
theorem Zyr (k:Rat):∀ l:List Rat,Yn (l.map (· * k))=Yn l * k
 | []=>by rw [List.map_nil,Yn,Rat.zero_mul]
 | x :: l=>by rw [List.map_cons,Yn,Zyr k l,Yn,Rat.add_mul]
theorem Zq6:∀ l:List Rat,(∀ x ∈ l,0≤x)→0≤Yn l
 | [],_=>by rw [Yn];decide
 | x :: l,h=>Rat.add_nonneg (h x List.mem_cons_self) (Zq6 l fun y hy=>h y (List.mem_cons_of_mem _ hy))
theorem Zyu:∀ l:List Rat,(∀ x ∈ l,0≤x)→Yn l=0→∀ x ∈ l,x=0
 | y :: l,h,hs,x,hx=>by
  have h1:=h y List.mem_cons_self
  have h2:=Zq6 l fun z hz=>h z (List.mem_cons_of_mem _ hz)
  rw [Yn] at hs
  rcases List.mem_cons.1 hx with rfl | hx
  ·grind
  ·exact Zyu l (fun z hz=>h z (List.mem_cons_of_mem _ hz)) (by grind) x hx
theorem amgm (l:List Rat) (h:∀ x ∈ l,0≤x):Y4 l * Xw (l.length:Rat) l.length≤Xw (Yn l) l.length:=by
 by_cases hs:Yn l=0
 ·cases l with
  | nil=>simp only [Y4,nN,Xw,Rat.mul_one];exact Rat.le_refl
  | cons x t=>
   have hx:=Zyu _ h hs x List.mem_cons_self
   rw [Y4,hs,hx,Rat.zero_mul,Rat.zero_mul]
   exact Zgt (Rat.le_refl (a:=0)) _
 ·have h0:=Zq6 l h
  have hpos:0<Yn l:=by
   rcases Rat.le_iff_lt_or_eq.1 h0 with h | h
   ·exact h
   ·exact absurd h.symm hs
  have hinv:0≤(Yn l)⁻¹:=Zt7 h0
  have hlen:(0:Rat)≤(l.length:Rat):=by
   have:((0:Nat):Rat)≤(l.length:Rat):=Rat.natCast_le_natCast.2 (Nat.zero_le _)
   exact this
  have hk:0≤(l.length:Rat) * (Yn l)⁻¹:=Rat.mul_nonneg hlen hinv
  have h1:=Zrn l.length (l.map (· * ((l.length:Rat) * (Yn l)⁻¹))) (List.length_map ..) (fun z hz=>by
   obtain ⟨x,hx,rfl⟩:=List.mem_map.1 hz
   exact Rat.mul_nonneg (h x hx) hk) (by
   rw [Zyr,Rat.mul_comm (l.length:Rat),← Rat.mul_assoc,Rat.mul_inv_cancel _ hs,Rat.one_mul])
  rw [Zwn,Zjn,← Rat.mul_assoc] at h1
  have h2:=Rat.mul_le_mul_of_nonneg_right h1 (Zgt h0 l.length)
  rw [Rat.one_mul,Rat.mul_assoc,← Zjn,Rat.inv_mul_cancel _ hs,Zqb,Rat.mul_one] at h2
  exact h2
/-! weights -/
def Wk:List (Nat×Rat)→Nat
 | []=>0
 | p :: l=>p.1+Wk l
def Zbb:List (Nat×Rat)→Rat
 | []=>0
 | p :: l=>(p.1:Rat) * p.2+Zbb l
def Vo:List (Nat×Rat)→Rat
 | []=>1
 | p :: l=>Xw p.2 p.1 * Vo l
def Qp:List (Nat×Rat)→List Rat
 | []=>[]
 | p :: l=>List.replicate p.1 p.2++Qp l
theorem Ztp:∀ l,(Qp l).length=Wk l
 | []=>rfl
 | p :: l=>by rw [Qp,Wk,nA,List.length_replicate,Ztp l]
theorem Zwm:∀ a b:List Rat,Y4 (a++b)=Y4 a * Y4 b
 | [],b=>by rw [List.nil_append,Y4,Rat.one_mul]
 | x :: a,b=>by rw [List.cons_append,Y4,Y4,Zwm a b,Rat.mul_assoc]
theorem Zyq:∀ a b:List Rat,Yn (a++b)=Yn a+Yn b
 | [],b=>by rw [List.nil_append,Yn,Rat.zero_add]
 | x :: a,b=>by rw [List.cons_append,Yn,Yn,Zyq a b,Rat.add_assoc]
theorem Zwq (x:Rat):∀ n,Y4 (List.replicate n x)=Xw x n
 | 0=>rfl
 | n+1=>by rw [List.replicate_succ,Y4,Zwq x n,Xw,Rat.mul_comm]
theorem Zyt (x:Rat):∀ n:Nat,Yn (List.replicate n x)=(n:Rat) * x
 | 0=>by rw [List.replicate_zero,Yn];exact (Rat.zero_mul x).symm
 | n+1=>by rw [List.replicate_succ,Yn,Zyt x n,Zex,Rat.add_mul,Rat.one_mul,Rat.add_comm]
theorem Ztr:∀ l,Y4 (Qp l)=Vo l
 | []=>rfl
 | p :: l=>by rw [Qp,Vo,Zwm,Zwq,Ztr l]
theorem Zts:∀ l,Yn (Qp l)=Zbb l
 | []=>rfl
 | p :: l=>by rw [Qp,Zbb,Zyq,Zyt,Zts l]
theorem Ztq:∀ l:List (Nat×Rat),(∀ p ∈ l,0≤p.2)→∀ x ∈ Qp l,0≤x
 | p :: l,h,x,hx=>by
  rw [Qp,List.mem_append] at hx
  rcases hx with hx | hx
  ·rw [(List.mem_replicate.1 hx).2];exact h p List.mem_cons_self
  ·exact Ztq l (fun q hq=>h q (List.mem_cons_of_mem _ hq)) x hx
theorem Zz0 (l:List (Nat×Rat)) (h:∀ p ∈ l,0≤p.2):Vo l * Xw (Wk l:Rat) (Wk l)≤Xw (Zbb l) (Wk l):=by
 have:=amgm (Qp l) (Ztq l h)
 rwa [Ztp,Ztr,Zts] at this
/-! shares -/
def Qf:List (Nat×Rat)→Rat
 | []=>1
 | p :: l=>Xw (p.1:Rat) p.1 * Qf l
def Zel:List (Nat×Rat)→Rat
 | []=>0
 | p :: l=>p.2+Zel l
theorem Z48 {c:Nat} (x:Rat):Xw (x / (c:Rat)) c * Xw (c:Rat) c=Xw x c:=by
 rw [← Zjn]
 by_cases h:c=0
 ·subst h;rfl
 ·have hc:((c:Nat):Rat)≠0:=fun e=>h (by
   have:((c:Nat):Rat)=((0:Nat):Rat):=e
   exact Rat.natCast_inj.1 this)
  rw [Rat.div_def,Rat.mul_assoc,Rat.inv_mul_cancel _ hc,Rat.mul_one]
theorem Zwr:∀ l:List (Nat×Rat),Vo (l.map fun p=>(p.1,p.2 / (p.1:Rat))) * Qf l=Vo l
 | []=>by rw [List.map_nil,Vo,Qf,Rat.mul_one]
 | p :: l=>by
  have ih:=Zwr l
  have h:=Z48 (c:=p.1) p.2
  rw [List.map_cons,Vo,Qf,Vo,← ih,← h]
  generalize Xw (p.2 / (p.1:Rat)) p.1=A
  generalize Xw (p.1:Rat) p.1=B
  generalize Vo (l.map fun p=>(p.1,p.2 / (p.1:Rat)))=C
  generalize Qf l=D
  grind
theorem Zyw:∀ l:List (Nat×Rat),(∀ p ∈ l,0≤p.2)→Zbb (l.map fun p=>(p.1,p.2 / (p.1:Rat)))≤Zel l∧0≤Zbb (l.map fun p=>(p.1,p.2 / (p.1:Rat)))
 | [],_=>by rw [List.map_nil,Zbb,Zel];exact ⟨Rat.le_refl,Rat.le_refl⟩
 | p :: l,h=>by
  obtain ⟨ih,ih0⟩:=Zyw l fun q hq=>h q (List.mem_cons_of_mem _ hq)
  have h0:=h p List.mem_cons_self
  have h1:(p.1:Rat) * (p.2 / (p.1:Rat))≤p.2∧0≤(p.1:Rat) * (p.2 / (p.1:Rat)):=by
   by_cases hc:p.1=0
   ·have e:((p.1:Nat):Rat)=0:=by rw [hc];rfl
    rw [e,Rat.zero_mul];exact ⟨h0,Rat.le_refl⟩
   ·have hc':((p.1:Nat):Rat)≠0:=fun e=>hc (by
     have:((p.1:Nat):Rat)=((0:Nat):Rat):=e
     exact Rat.natCast_inj.1 this)
    have e:(p.1:Rat) * (p.2 / (p.1:Rat))=p.2:=by rw [Rat.div_def,Rat.mul_comm p.2,← Rat.mul_assoc,Rat.mul_inv_cancel _ hc',Rat.one_mul]
    rw [e];exact ⟨Rat.le_refl,h0⟩
  rw [List.map_cons,Zbb,Zel]
  exact ⟨by grind,Rat.add_nonneg h1.2 ih0⟩
theorem Zza:∀ l:List (Nat×Rat),Wk (l.map fun p=>(p.1,p.2 / (p.1:Rat)))=Wk l
 | []=>rfl
 | p :: l=>by rw [List.map_cons,Wk,Wk,Zza l]
theorem Zv9 (n:Rat) (hn:n≠0):∀ l:List (Nat×Rat),Vo (l.map fun p=>(p.1,(p.1:Rat) / n)) * Xw n (Wk l)=Qf l
 | []=>by rw [List.map_nil,Vo,Wk,Xw,Qf,Rat.mul_one]
 | p :: l=>by
  have ih:=Zv9 n hn l
  have h:Xw ((p.1:Rat) / n) p.1 * Xw n p.1=Xw (p.1:Rat) p.1:=by
   rw [← Zjn,Rat.div_def,Rat.mul_assoc,Rat.inv_mul_cancel _ hn,Rat.mul_one]
  rw [List.map_cons,Vo,Wk,Zwh,Qf,← ih,← h]
  generalize Xw ((p.1:Rat) / n) p.1=A
  generalize Xw n p.1=B
  generalize Vo (l.map fun p=>(p.1,(p.1:Rat) / n))=C
  generalize Xw n (Wk l)=D
  grind
theorem Z3n (l:List (Nat×Rat)) (h:∀ p ∈ l,0≤p.2) (hs:Zel l≤1) (hn:Wk l≠0):Vo l≤Vo (l.map fun p=>(p.1,(p.1:Rat) / (Wk l:Rat))):=by
 have hn':((Wk l:Nat):Rat)≠0:=fun e=>hn (by
  have:((Wk l:Nat):Rat)=((0:Nat):Rat):=e
  exact Rat.natCast_inj.1 this)
 have hn0:(0:Rat)<(Wk l:Rat):=by
  have:((0:Nat):Rat)<((Wk l:Nat):Rat):=Rat.natCast_lt_natCast.2 (by omega)
  exact this
 have hw:∀ p ∈ l.map (fun p=>(p.1,p.2 / (p.1:Rat))),0≤p.2:=fun p hp=>by
  obtain ⟨q,hq,rfl⟩:=List.mem_map.1 hp
  have h1:=h q hq
  have h2:(0:Rat)≤((q.1:Nat):Rat):=by
   have:((0:Nat):Rat)≤(q.1:Rat):=Rat.natCast_le_natCast.2 (Nat.zero_le _)
   exact this
  show 0≤q.2 / (q.1:Rat)
  rw [Rat.div_def]
  exact Rat.mul_nonneg h1 (Zt7 h2)
 have hA:=Zz0 _ hw
 rw [Zza] at hA
 obtain ⟨s1,s0⟩:=Zyw l h
 have hB:Xw (Zbb (l.map fun p=>(p.1,p.2 / (p.1:Rat)))) (Wk l)≤1:=by
  have:=Zwi s0 (Rat.le_trans s1 hs) (Wk l)
  rwa [Zqb] at this
 have hC:=Rat.le_trans hA hB
 have hD:=Zwr l
 have hE:=Zv9 (Wk l:Rat) hn' l
 have hP:=Zwj hn0 (Wk l)
 have hO:∀ l:List (Nat×Rat),0≤Qf l:=fun l=>by
  induction l with
  | nil=>rw [Qf];decide
  | cons p l ih=>
   refine Rat.mul_nonneg (Zgt ?_ _) ih
   have:((0:Nat):Rat)≤(p.1:Rat):=Rat.natCast_le_natCast.2 (Nat.zero_le _)
   exact this
 have hF:=Rat.mul_le_mul_of_nonneg_right hC (hO l)
 rw [Rat.one_mul] at hF
 generalize Vo (l.map fun p=>(p.1,p.2 / (p.1:Rat)))=A at *
 generalize Vo (l.map fun p=>(p.1,(p.1:Rat) / (Wk l:Rat)))=B at *
 generalize Xw (Wk l:Rat) (Wk l)=Pn at *
 generalize Qf l=Ow at *
 rw [← hD]
 have hG:A * Ow * Pn≤B * Pn:=by rw [hE];grind
 exact Rat.le_of_mul_le_mul_right hG hP

end Go.Proofs.YtkhnlgdenkikoaaGreat
