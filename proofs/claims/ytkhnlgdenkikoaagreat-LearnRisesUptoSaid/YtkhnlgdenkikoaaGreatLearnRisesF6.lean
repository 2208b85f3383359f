/-
  What functions of the program compute, as plain Lean functions (m_..), and proofs that they compute it (c_..). Printed by a program of the author; no conditions.
-/
import Derived.Test.YtkhnlgdenkikoaaGreatLearnRisesBFloat
import Derived.Test.YtkhnlgdenkikoaaGreatProg
import Derived.Test.YtkhnlgdenkikoaaGreatLearnRisesBBrief
import Derived.Test.YtkhnlgdenkikoaaGreatLearnRisesBBulk
import Derived.Test.YtkhnlgdenkikoaaGreatLearnRisesF5
set_option linter.unusedVariables false
set_option maxRecDepth 100000
set_option maxHeartbeats 2000000
namespace Go.Proofs.YtkhnlgdenkikoaaGreat
open Go Go.RowKit
open List renaming mem_cons_self→aC,mem_cons→aP,mem_cons_of_mem→aB,drop_zero→aT,flatMap_cons→dG,getElem_mem→aG,length_singleton→aL,getD_eq_getElem?_getD→aE,getElem?_append_right→eN,getElem?_append_left→eP,mem_append→bE,mem_singleton→bT,length_map→aI,mem_of_mem_drop→cM,nil_append→aV,mem_map→bO,map_nil→bN,singleton_append→dS,length_range→bW,getElem_map→cC,map_cons→aQ,map_map→iJ,map_congr_left→eQ,sum_cons→gF
open Nat renaming le_trans→aU,mul_le_mul_right→bC,zero_mul→cT,sub_self→fO,zero_le→bK,min_eq_right→dI,min_eq_left→bB,mul_le_mul_left→aR
open Int renaming tmod→cG,natCast_mul→bU,toNat_natCast→aD,mul_nonneg→jI,natCast_nonneg→eJ
open Rat renaming mul_assoc→bH
open Go.IntKind (i8 i16 i32 i64 u8 u16 u32 u64)
open Go.Proofs.Tryz

theorem Zx4 {N:Nat} {n:Zp} (hf:Xu N n):∀ r:List R2,(∀ w ∈ r,PV n w)→Yx n r≠0→∀ w ∈ r,0<Zz n (Zy n n.2.1.length 0 w)
 | u :: r,h,hne,w,a=>by
  rw [Yx] at hne
  have b:=Zsr hf _ (Zem (h u aC))
  have c:Zz n (Zy n n.2.1.length 0 u)≠0:=fun e=>hne (by rw [e,Rat.zero_mul])
  have d:Yx n r≠0:=fun e=>hne (by rw [e,Rat.mul_zero])
  rcases aP.1 a with rfl | a
  ·rcases Rat.le_iff_lt_or_eq.1 b with h | h
   ·exact h
   ·exact absurd h.symm c
  ·exact Zx4 hf r (fun x f=>h x (aB _ f)) d w a
section
variable {N:Nat} {n:Zp} (hf:Xu N n) (hs:Ve n 1048576) (hqt:(n.2.2.2.2.map X6).sum≤1048576) (hC:W1 N n=some 0) (hp:Xw (W6 n)≤300) (hr:Z9 N 800000000000)
include hf hs hqt hC hp hr
theorem Xae {r:List R2} (hw:Ti n r=true) (hl:r.length≤12):
    ∃ x,Tv N n r=some (Zo x,0)∧qs x≤3787372801∧
      ((x=0∧∃ m,Qh N n r=some (m,52))∨
       (x≠0∧∃ D y,D≠0∧Qh N n r=some (Xp n (Yo n (Yc D n r)),0)∧Zap n (Yo n (Yc D n r))∧W1 N (Xp n (Yo n (Yc D n r)))=some 0∧Tv N (Xp n (Yo n (Yc D n r))) r=some (Zo y,0)∧qs y≤362894572801∧x≤y∧
        (∀ w ∈ r,0<Zz n (Zy n n.2.1.length 0 w))∧(∀ w ∈ r,∀ x ∈ Zy n n.2.1.length 0 w,∃ z:Nat,(D:Rat) * Zx n x n.2.1.length 0 / Zz n (Zy n n.2.1.length 0 w)=(z:Rat)))):=by
  have b3:=hf.le
  have c:2000000<N:=by obtain ⟨r1,r2⟩:=hr;omega
  have d:=Zsk hw
  have I:Z9 N (8 * 1074792460+40):=hr.mono (by decide)
  have J:1025 * (1048576+2)+4≤1074792460:=by decide
  have i:=fun w (h:Xn n w)=>Z8l hf hs I J c hC h
  obtain ⟨B,k⟩:∃ B:Nat→Nat,B=fun v=>X6 (n.2.2.2.2.getD v [])+1:=⟨_,rfl⟩
  have b4:W5 B n.2.1.length 0≤1049600:=by
    rw [k,Z1r,Z1q X6 n.2.2.2.2 n.2.1.length 0 (by rw [hf.ev.t];omega),aT];omega
  have O:W5 B n.2.1.length 0+1≤1050000:=by omega
  have P:Zan n B:=fun v b x o=>by rw [k];exact Zvh hf hs b x o
  have Y:∀ v,v<n.2.1.length→cnt n v≤300:=fun v b=>aU (Z5q hf.ev b) hp
  have p:∀ w ∈ r,Xo n w n.2.1.length 0≤300:=fun w h=>by
    have:=Zyf hf.ev w n.2.1.length 0 (by omega)
    rw [aT] at this;omega
  have Z:=Zoi hf P O
  have R:300 * (1050000+2048)≤315614400:=by decide
  have q:Z9 N (26 * 315614400+60):=hr.mono (by decide)
  obtain ⟨d1,d2⟩:=Zjl hf c hC i Z (show 300≤65536 by decide) R q hw p hl
  refine ⟨Yx n r,d1,d2,?_⟩
  by_cases hne:Yx n r=0
  · exact .inl ⟨hne,Xaj hf c hC i P O (show 300≤65536 by decide) R q hw p hl hne⟩
  · refine .inr ⟨hne,?_⟩
    have a:=Zx4 hf r d hne
    obtain ⟨D,s⟩:∃ D,D=S9 n r:=⟨_,rfl⟩
    have T:D≠0:=by rw [s];exact Zto hf r fun w h=>⟨d w h,a w h⟩
    have A:∀ w ∈ r,∀ x ∈ Zy n n.2.1.length 0 w,∃ z:Nat,(D:Rat) * Zx n x n.2.1.length 0 / Zz n (Zy n n.2.1.length 0 w)=(z:Rat):=fun w h=>by
      obtain ⟨E,e⟩:=Ztm (n:=n) r w h
      exact Z65 hf (Zem (d w h)) (a w h) (s.trans e)
    have lA:=Zuz (n:=n) (fun v b x o=>(Zeq hf hs b x o).1) n.2.1.length 0 (by omega)
    rw [← k] at lA
    have lD:=Ztn hf (G:=1049602) (by omega) r fun w h=>⟨d w h,by have:=p w h;omega⟩
    rw [← s] at lD
    have K:(Zg (12 * D)).length≤12600000:=by
      have U:=U3 12 D
      have h2:(Zg 12).length≤1:=W0.2 (by decide)
      have h3:r.length * 1049602≤12 * 1049602:=bC _ hl
      omega
    have st:=Xag hf hs I J c hC i P O (show 300≤65536 by decide) R q Y hw p hl (G:=12600000) (hr.mono (by decide)) (hr.mono (by decide)) a hne T K A
    have wt:Y8 (Yc D n r)≤12 * D:=by
      have:∀ l:List R2,(∀ w ∈ l,w ∈ r)→Y8 (Yc D n l)=l.length * D:=fun l=>by
        induction l with
        | nil=>intro _;rw [Yc,List.flatMap_nil,Y8,nN,cT]
        | cons w l F=>
          intro h
          have F:=F fun x o=>h x (aB _ o)
          rw [Yc] at F
          have L:=h w aC
          rw [Yc,dG,Zo5,F,Zo6 (a w L) (A w L),nC,Nat.add_mul,Nat.one_mul,Nat.add_comm]
      rw [this r fun _ h=>h];exact bC _ hl
    have H:(Zg (Y8 (Yc D n r))).length≤12600000:=aU (Wx wt) K
    have f:∀ v,v<n.2.1.length→X6 (n.2.2.2.2.getD v [])+1≤12600000:=fun v b=>by
      have U:v<n.2.2.2.2.length:=by rw [hf.ev.t];exact b
      have h2:=hs.tq _ (aG U)
      rw [Xi U];omega
    have V:=Xak hf hs H f
    have g:=Zsi hf V
    have a0:=Xam hf hs H f c hp
    have u:=Z5h g a0 (hr.mono (by decide)) c
    have B2:=Xaf hf hs H f
    obtain ⟨j,j1,j2⟩:=Z1s hf.ev 12600000 n.2.1.length 0 (by omega)
    rw [aT] at j2
    have hj:j≤8:=by
      refine Nat.not_lt.1 fun h=>?_
      have:2 ^ 9≤2 ^ j:=Nat.pow_le_pow_right (by decide) h
      omega
    have M:W5 (fun v=>if cnt n v=1 then 1 else 12600000) n.2.1.length 0+1≤100802000:=by
      have:j * 12600000≤8 * 12600000:=bC _ hj
      omega
    have a2:∀ v,v<(Xp n (Yo n (Yc D n r))).2.1.length→∀ y ∈ (Xp n (Yo n (Yc D n r))).2.2.2.2.getD v [],RV 12600000 y:=fun v b y hy=>((Zco hf hs H f (v:=v) b).ent y hy).2.2
    have W:=Z8m g a2 B2 (Q:=100802000) (hr.mono (by decide)) M u
    have X:=Zoi g B2 M
    have a3:Ti (Xp n (Yo n (Yc D n r))) r=true:=Zpe fun w h=>⟨(d w h).len,(d w h).ok⟩
    obtain ⟨y1,y2⟩:=Zjl g c u W X (C:=300) (S:=30241214400) (by decide) (by decide) (hr.mono (by decide)) a3 (fun w h=>by
      have:=p w h
      show Xo (Xp n (Yo n (Yc D n r))) w n.2.1.length 0≤300
      rw [Zyg];exact this) hl
    exact ⟨D,_,T,st,V,u,y1,y2,Xal hf T d a A V,a,A⟩
end
def Zjs (aa:Int) (kk_L2:(Int→R2→Option R6)) (ab:List Int):Option R6:=
  kk_L2 (i64.wrap (aa+1)) ab
def Zg7 (ac:Int) (aa:List Int) (kk_L2:(Int→R2→Option R6)) (ab:Int):Option R6:=
  Z2 ((aa.length+[ab].length) * 8≤140737488355328∧aa.length+[ab].length≤maxLen) (Zjs ac kk_L2 (aa++[ab]))
def Zde (ae:R0) (aa:Int) (ab:List Int) (kk_L2:(Int→R2→Option R6)) (ac:Int):Option R6:=
  if (decide (0≤ac))=true then ((Zm ae.2.2.1 aa).bind fun ad=>Z2 ((ad.length:Int)≠0) (Zg7 aa ab kk_L2 (cG ac (ad.length:Int)))) else (Zg7 aa ab kk_L2 (-1))
def Zdf (aa:R0) (ab:Int) (ac:List Int) (kk_L2:(Int→R2→Option R6)) (ad:Int) (ae:Bool):Option R6:=
  if ae=true then (Zde aa ab ac kk_L2 (i64.wrap (-(i64.wrap (ad+1))))) else (Zde aa ab ac kk_L2 ad)
def Q6 (ab:R0) (ae:Bool) (ac:Int) (ad:List Int) (kk_L2:(Int→R2→Option R6)) (aa:Int):Option R6:=
  if (decide (aa<0))=true then (Zdf ab ac ad kk_L2 aa ae) else (Zdf ab ac ad kk_L2 aa false)
def Uf (N:Nat) (aa:R0) (ag:R6) (ae:Bool) (ab:List R2) (af:Int) (kk_L1:(R6→Int→Option R6)):Nat→Int→R2→Option R6
  | 0,_,_=>none
  | ah+1,ac,ad=>if (decide (ac<(aa.2.1.length:Int)))=true then ((Zm ag af).bind fun ai=>if (decide (ac<(ai.length:Int)))=true then ((Zm ai ac).bind fun aj=>Q6 aa ae ac ad (Uf N aa ag ae ab af kk_L1 ah) aj) else (Q6 aa ae ac ad (Uf N aa ag ae ab af kk_L1 ah) 0)) else (Z2 ((ab.length+[ad].length) * 24≤140737488355328∧ab.length+[ad].length≤maxLen) (kk_L1 (ab++[ad]) (i64.wrap (af+1))))
termination_by structural x=>x
def Zdd (N:Nat) (ab:R0) (ac:R6) (ad:Bool) (aa:List R2) (ae:Int) (kk_L1:(R6→Int→Option R6)) (af:Bool):Option R6:=
  if af=true then (Uf N ab ac ad aa ae kk_L1 N 0 ([]:List Int)) else (some aa)
def Ue (N:Nat) (ab:R0) (aa:R6) (ac:Bool):Nat→R6→Int→Option R6
  | 0,_,_=>none
  | ae+1,af,ad=>if (decide (ad<(aa.length:Int)))=true then (Zdd N ab aa ac af ad (Ue N ab aa ac ae) (decide (ad<8))) else (Zdd N ab aa ac af ad (Ue N ab aa ac ae) false)
termination_by structural x=>x
def Zbu (N:Nat) (aa:R0) (ab:R6) (ac:Bool):Option R6:=
  Ue N aa ab ac N ([]:List R2) 0
theorem Z3s {N ap aq ar au a3:Nat} {av aw ax ay a1:Option Addr} {col:Ze} {w0:World} {aa:R0} {af:R6} {ae:Bool} {r:R6} (c1:Nat) (hm:Zbu N aa af ae=some r) (cl:Sl Za.str col w0 av ap aa.2.1) (bi:Sl (Za.slice Za.str) col w0 aw aq aa.2.2.1) (cn:Sl (Za.slice (Za.int .i64)) col w0 ax ar aa.2.2.2.1) (co:Sl (Za.slice (Za.pair (Za.pair Za.bool (Za.slice (Za.int .u32))) (Za.slice (Za.int .u32)))) col w0 ay au aa.2.2.2.2) (h1:Sl (Za.slice (Za.int .i64)) col w0 a1 a3 af):
    Calls prog 22 #[(.agg #[.string aa.1,.slice av aa.2.1.length ap,.slice aw aa.2.2.1.length aq,.slice ax aa.2.2.2.1.length ar,.slice ay aa.2.2.2.2.length au]),.slice a1 af.length a3,.bool ae] w0 (fun e w'=>∃ (col':Ze) (ra1:Option Addr) (rc2:Nat),e= .returned ((.slice ra1 r.length rc2))∧Zh col w0 col' w'∧Zb (Za.row 3 (Za.int .i64)) 33 c1 col' w' ra1 rc2 r):=by
 refine Xl 6 (m:=70) func22 rfl rfl rfl rfl rfl ?_;rw [Zbu.eq_1] at hm;have ab:=St.start col w0;refine go ?_;refine Xs (col:=(Zk col)) 1 rfl ?_;intro an cp cq b6 ac;refine go ?_;replace ab:=ab.grow b6;refine Z4 [] (fun n f bj=>∃ bk ak al ag aj am,am=n∧Ue N aa af ae am ag aj=some r∧St w0 (Zk col) bk bj∧Zf 27 1 bk bj an #[.string aa.1,.slice av aa.2.1.length ap,.slice aw aa.2.2.1.length aq,.slice ax aa.2.2.2.1.length ar,.slice ay aa.2.2.2.2.length au]∧Zb (Za.row 3 (Za.int .i64)) 33 2 bk bj ak al ag∧[1,2,3,7,8,1000000].map f=[.slice a1 af.length a3,.bool ae,.pointer (some ⟨an,0,none⟩),.slice ak ag.length al,.int .i64 aj,enc []]) N ⟨_,none,0,_,0,_,rfl,hm,ab,ac,Zb.nil,rfl⟩ ?_;clear hm;intro n f bj hI;obtain ⟨bk,ak,al,ag,aj,am,hn,hm,ab,ac,ad,hs⟩:=hI;subst hn;refine .lL [1,2,3,7,8,1000000] hs ?_;replace bi:=bi.keep (Zi.start col w0);replace h1:=h1.keep (Zi.start col w0)
 cases am with
 | zero=>rw [Ue.eq_1] at hm;cases hm
 | succ am=>
  rw [Ue.eq_2] at hm;refine Z0<|Z0 ?_;refine Wp.cutK [] (fun f bm=>∃ bn bs,Zdd N aa af ae ag aj (Ue N aa af ae am) bs=some r∧St w0 (Zk col) bn bm∧Zf 27 1 bn bm an #[.string aa.1,.slice av aa.2.1.length ap,.slice aw aa.2.2.1.length aq,.slice ax aa.2.2.2.1.length ar,.slice ay aa.2.2.2.2.length au]∧Zb (Za.row 3 (Za.int .i64)) 33 2 bn bm ak al ag∧[1,19,2,3,7,8,1000000].map f=[.slice a1 af.length a3,.bool bs,.bool ae,.pointer (some ⟨an,0,none⟩),.slice ak ag.length al,.int .i64 aj,enc []]) ?_ ?_
  ·intro f bm hJ;obtain ⟨bn,bs,hm,ab,ac,ad,hs⟩:=hJ;rw [Zdd.eq_1] at hm;refine .lL [1,19,2,3,7,8,1000000] hs ?_;refine Zq hm (fun hb hm=>go ?_) fun hb hm=>go ?_
   ·refine Z4 [] (fun n f a7=>∃ a4 az a0 a2 ai ao,ao=n∧Uf N aa af ae ag aj (Ue N aa af ae am) ao az ai=some r∧St w0 (Zk col) a4 a7∧Zf 27 1 a4 a7 an #[.string aa.1,.slice av aa.2.1.length ap,.slice aw aa.2.2.1.length aq,.slice ax aa.2.2.2.1.length ar,.slice ay aa.2.2.2.2.length au]∧Zb (Za.row 3 (Za.int .i64)) 33 2 a4 a7 ak al ag∧Zb (Za.int .i64) 3 3 a4 a7 a0 a2 ai∧[1,10,2,3,7,8,9,1000000].map f=[.slice a1 af.length a3,.int .i64 az,.bool ae,.pointer (some ⟨an,0,none⟩),.slice ak ag.length al,.int .i64 aj,.slice a0 ai.length a2,enc []]) N ⟨_,0,none,0,_,_,rfl,hm,ab,ac,ad,Zb.nil,rfl⟩ ?_;clear hm;intro n f a7 hI;obtain ⟨a4,az,a0,a2,ai,ao,hn,hm,ab,ac,ad,ah,hs⟩:=hI;subst hn;refine .lL [1,10,2,3,7,8,9,1000000] hs ?_
    cases ao with
    | zero=>rw [Uf.eq_1] at hm;cases hm
    | succ ao=>
     rw [Uf.eq_2] at hm;refine go ?_;refine Xk ac ?_;refine go ?_;refine Zq hm (fun hb hm=>?_) fun hb hm=>go ?_
     ·refine Yl<|Z0 ?_;refine Wp.cutK [] (fun f a8=>∃ a9 bt bu bo,Zjs az (Uf N aa af ae ag aj (Ue N aa af ae am) ao) bo=some r∧St w0 (Zk col) a9 a8∧Zf 27 1 a9 a8 an #[.string aa.1,.slice av aa.2.1.length ap,.slice aw aa.2.2.1.length aq,.slice ax aa.2.2.2.1.length ar,.slice ay aa.2.2.2.2.length au]∧Zb (Za.row 3 (Za.int .i64)) 33 2 a9 a8 ak al ag∧Zb (Za.int .i64) 3 3 a9 a8 bt bu bo∧[1,10,2,3,7,8,9,1000000].map f=[.slice a1 af.length a3,.int .i64 az,.bool ae,.pointer (some ⟨an,0,none⟩),.slice ak ag.length al,.int .i64 aj,.slice bt bo.length bu,enc []]) ?_ ?_
      ·intro f a8 hJ;obtain ⟨a9,bt,bu,bo,hm,ab,ac,ad,b7,hs⟩:=hJ;rw [Zjs.eq_1] at hm;refine .lL [1,10,2,3,7,8,9,1000000] hs<|go ?_;exact ⟨ao,by omega,rfl,⟨_,_,_,_,_,_,rfl,hm,ab,ac,ad,b7,rfl⟩⟩
      refine Zef<|Z0<|Vd<|Y7 rfl<|Zl<|Z0 ?_;refine Wp.cutK [1,10,2,3,7,8,9,1000000] (fun f ba=>∃ bb bp,Q6 aa ae az ai (Uf N aa af ae ag aj (Ue N aa af ae am) ao) bp=some r∧St w0 (Zk col) bb ba∧Zf 27 1 bb ba an #[.string aa.1,.slice av aa.2.1.length ap,.slice aw aa.2.2.1.length aq,.slice ax aa.2.2.2.1.length ar,.slice ay aa.2.2.2.2.length au]∧Zb (Za.row 3 (Za.int .i64)) 33 2 bb ba ak al ag∧Zb (Za.int .i64) 3 3 bb ba a0 a2 ai∧[11].map f=[.int .i64 bp]) ?_ ?_
      ·intro f ba hJ;obtain ⟨bb,bp,hm,ab,ac,ad,ah,hs⟩:=hJ;rw [Q6.eq_1] at hm;refine .lL [11] hs<|Z0 ?_;refine Wp.cutK [1,10,2,3,7,8,9,1000000] (fun f bc=>∃ bd be,Zde aa az ai (Uf N aa af ae ag aj (Ue N aa af ae am) ao) be=some r∧St w0 (Zk col) bd bc∧Zf 27 1 bd bc an #[.string aa.1,.slice av aa.2.1.length ap,.slice aw aa.2.2.1.length aq,.slice ax aa.2.2.2.1.length ar,.slice ay aa.2.2.2.2.length au]∧Zb (Za.row 3 (Za.int .i64)) 33 2 bd bc ak al ag∧Zb (Za.int .i64) 3 3 bd bc a0 a2 ai∧[11].map f=[.int .i64 be]) ?_ ?_
       ·intro f bc hJ;obtain ⟨bd,be,hm,ab,ac,ad,ah,hs⟩:=hJ;rw [Zde.eq_1] at hm;refine .lL [11] hs<|Z0 ?_;refine Wp.cutK [1,10,2,3,7,8,9,1000000] (fun f bf=>∃ a5 bq,Zg7 az ai (Uf N aa af ae ag aj (Ue N aa af ae am) ao) bq=some r∧St w0 (Zk col) a5 bf∧Zf 27 1 a5 bf an #[.string aa.1,.slice av aa.2.1.length ap,.slice aw aa.2.2.1.length aq,.slice ax aa.2.2.2.1.length ar,.slice ay aa.2.2.2.2.length au]∧Zb (Za.row 3 (Za.int .i64)) 33 2 a5 bf ak al ag∧Zb (Za.int .i64) 3 3 a5 bf a0 a2 ai∧[11].map f=[.int .i64 bq]) ?_ ?_
        ·intro f bf hJ;obtain ⟨a5,bq,hm,ab,ac,ad,ah,hs⟩:=hJ;rw [Zg7.eq_1] at hm;refine .lL [11] hs<|go ?_;refine V7 (col:=a5) [bq] 4 ?_;intro cr ct cu br b8;obtain ⟨b9,hm⟩:=Z8 hm;replace ah:=ah.gr br;refine V1 ah (b8.srcN (NB.int (k:=.i64))) b9 ?_;intro cv cw cx cy bv ca;refine go ?_;replace ad:=(ad.gr br).kpp bv;replace ac:=(ac.gr br).kpp bv;replace ab:=(ab.grow br).kpp bv;exact ⟨rfl,_,_,_,_,hm,ab,ac,ad,ca,rfl⟩
        refine go ?_;refine Zq hm (fun hb hm=>go ?_) fun hb hm=>go ?_
        ·refine Xk ac<|X1 rfl ?_;obtain ⟨b3,bw,hm⟩:=bZ hm;refine lI bw ((bi.ks ab).addr bw) ?_;obtain ⟨_,cb,cc⟩:=(bi.ks ab).atN bw;obtain ⟨⟨cz,c0,rfl,c3⟩,_⟩:=cb;refine lW cc.one<|go ?_;obtain ⟨cd,hm⟩:=Z8 hm;refine lV (.int .i64 (cG be (b3.length:Int))) (Ziu be (b3.length:Int) rfl rfl cd)<|go ?_;exact ⟨rfl,_,_,hm,ab,ac,ad,ah,rfl⟩
        exact ⟨rfl,_,_,hm,ab,ac,ad,ah,rfl⟩
       refine Z0 ?_;refine Wp.cutK [1,10,11,2,3,7,8,9,1000000] (fun f bg=>∃ bh bx,Zdf aa az ai (Uf N aa af ae ag aj (Ue N aa af ae am) ao) bp bx=some r∧St w0 (Zk col) bh bg∧Zf 27 1 bh bg an #[.string aa.1,.slice av aa.2.1.length ap,.slice aw aa.2.2.1.length aq,.slice ax aa.2.2.2.1.length ar,.slice ay aa.2.2.2.2.length au]∧Zb (Za.row 3 (Za.int .i64)) 33 2 bh bg ak al ag∧Zb (Za.int .i64) 3 3 bh bg a0 a2 ai∧[47].map f=[.bool bx]) ?_ ?_
       ·intro f bg hJ;obtain ⟨bh,bx,hm,ab,ac,ad,ah,hs⟩:=hJ;rw [Zdf.eq_1] at hm;refine .lL [47] hs ?_;refine Zq hm (fun hb hm=>go ?_) fun hb hm=>?_
        ·exact ⟨rfl,_,_,hm,ab,ac,ad,ah,rfl⟩
        refine Yl ?_;exact ⟨rfl,_,_,hm,ab,ac,ad,ah,rfl⟩
       refine go ?_;refine Yt hm (fun bz hm=>go ?_) fun bz hm=>go ?_
       ·refine lV (.bool ae) (Yf (congrArg Value.bool bz) rfl)<|Zl ?_;exact ⟨rfl,_,_,hm,ab,ac,ad,ah,rfl⟩
       refine lV (.bool false) (X8 (congrArg Value.bool bz) rfl)<|Zl ?_;exact ⟨rfl,_,_,hm,ab,ac,ad,ah,rfl⟩
      refine go ?_;obtain ⟨c4,a6,hm⟩:=bZ hm;refine lI a6 ((h1.ks ab).addr a6) ?_;obtain ⟨_,ce,cf⟩:=(h1.ks ab).atN a6;obtain ⟨⟨c5,c6,rfl,c7⟩,_⟩:=ce;refine lW cf.one<|go ?_;refine Zq hm (fun hb hm=>go ?_) fun hb hm=>?_
      ·refine lI a6 ((h1.ks ab).addr a6) ?_;obtain ⟨_,cg,ch⟩:=(h1.ks ab).atN a6;obtain ⟨⟨c8,c9,rfl,b4⟩,_⟩:=cg;refine lW ch.one<|X1 rfl ?_;obtain ⟨da,b0,hm⟩:=bZ hm;refine lI b0 (b4.addr b0)<|lW (b4.atInt b0) ?_;refine go ?_;exact ⟨rfl,_,_,hm,ab,ac,ad,ah,rfl⟩
      refine Yl ?_;exact ⟨rfl,_,0,hm,ab,ac,ad,ah,rfl⟩
     refine Ur (col:=a4) (r:=(Za.row 3 (Za.int .i64))) (xs:=[ai]) [.slice a0 ai.length a2] 3 (Wa.cons1 (cs:=[.slice a0 ai.length a2]) ah.has Rows.nil0) ?_;intro db dc dd b1 ci;obtain ⟨cj,hm⟩:=Z8 hm;replace ad:=ad.gr b1;refine V1 (c:=2) (c2:=3) ad (ci.srcC (by decide)) cj ?_;intro de df dg dh b5 ck;refine go ?_;replace ac:=(ac.gr b1).kpp b5;replace ab:=(ab.grow b1).kpp b5;exact ⟨am,by omega,rfl,⟨_,_,_,_,_,_,rfl,hm,ab,ac,ck,rfl⟩⟩
   cases hm;exact ⟨rfl,_,_,_,rfl,ab.fin (cm [(2,c1)]),ab.fo ad⟩
  refine go ?_;refine Yt hm (fun b2 hm=>go ?_) fun b2 hm=>go ?_
  ·refine lV (.bool (decide (aj<8))) (Yf (congrArg Value.bool b2) rfl)<|Zl ?_;exact ⟨rfl,_,_,hm,ab,ac,ad,rfl⟩
  refine lV (.bool false) (X8 (congrArg Value.bool b2) rfl)<|Zl ?_;exact ⟨rfl,_,_,hm,ab,ac,ad,rfl⟩
section
variable {N:Nat} {n:Zp} (hf:Xu N n) (hN:2000000<N)
include hf
theorem Zrk {v:Nat} (hv:v<n.2.1.length) {row:List Int} (hrow:row.length=v) (kk:Int→List Int→Option R6) {x:Int} (hx:0≤x):∃ z:Int,0≤z∧z<(cnt n v:Int)∧Zde n (v:Int) row kk x=kk ((v+1:Nat):Int) (row++[z]):=by
 have c:=hf.le
 have a:v<n.2.2.1.length:=by rw [hf.ev.v];exact hv
 have b:=Uo hf.ev hv
 have e:cnt n v=n.2.2.1[v].length:=by rw [cnt,Xi a]
 rw [e] at b ⊢
 refine ⟨cG x (n.2.2.1[v].length:Int),Int.tmod_nonneg _ hx,Int.tmod_lt_of_pos _ (by omega),?_⟩
 rw [Zde,if_pos (dT hx),Z1 a,oB,Z6 (by omega),Zg7,Z6 (by simp only [aL,maxLen];omega),Zjs,wS (by omega)]
theorem Z79 {v:Nat} (hv:v<n.2.1.length) {row:List Int} (hrow:row.length=v) (kk:Int→List Int→Option R6) {x:Int} (h1:-9223372036854775808≤x) (h2:x≤9223372036854775807):∃ z:Int,0≤z∧z<(cnt n v:Int)∧Q6 n true (v:Int) row kk x=kk ((v+1:Nat):Int) (row++[z]):=by
 rw [Q6]
 by_cases h:x<0
 ·rw [if_pos (dT h),Zdf,if_pos rfl,Zv (x:=x+1) (by omega),Zv (by omega)]
  exact Zrk hf hv hrow kk (by omega)
 ·rw [if_neg (dF h),Zdf,if_neg (by decide)]
  exact Zrk hf hv hrow kk (by omega)
theorem Zx6 {r:List R2} {i:Nat} (hi:i<r.length) (hq:∀ x ∈ r[i],-9223372036854775808≤x∧x≤9223372036854775807) {out:List R2} (hout:out.length≤8) (hi8:i≤8) (kk:List R2→Int→Option R6):∀ (f v:Nat) (row:List Int),v≤n.2.1.length→n.2.1.length<f+v→row.length=v→(∀ j,j<v→0≤row.getD j 0∧row.getD j 0<(cnt n j:Int))→
  ∃ R,Xn n R∧Uf N n r true out (i:Int) kk f (v:Int) row=kk (out++[R]) ((i+1:Nat):Int)
 | 0,v,row,c,d,_,_=>by omega
 | f+1,v,row,c,d,a,b=>by
  rw [Uf.eq_2]
  by_cases hv:v<n.2.1.length
  ·have fin:∀ x:Int,-9223372036854775808≤x→x≤9223372036854775807→∃ R,Xn n R∧Q6 n true (v:Int) row (Uf N n r true out (i:Int) kk f) x=kk (out++[R]) ((i+1:Nat):Int):=fun x g k=>by
    obtain ⟨z,l,m,o⟩:=Z79 hf hv a (Uf N n r true out (i:Int) kk f) g k
    obtain ⟨R,p,q⟩:=Zx6 hi hq hout hi8 kk f (v+1) (row++[z]) (by omega) (by omega) (by rw [nA,aL,a]) fun j s=>by
     rw [aE]
     by_cases e:j=v
     ·subst e
      rw [eN (by omega),a,fO]
      exact ⟨l,m⟩
     ·rw [eP (by omega),← aE]
      exact b j (by omega)
    exact ⟨R,p,o.trans q⟩
   rw [if_pos (dT (by omega)),Z1 hi,oB]
   by_cases hx:v<r[i].length
   ·have:=hq _ (aG hx)
    rw [if_pos (dT (by omega)),Z1 hx,oB]
    exact fin _ this.1 this.2
   ·rw [if_neg (dF (by omega))]
    exact fin 0 (by decide) (by decide)
  ·refine ⟨row,⟨by omega,fun j s=>b j (by omega)⟩,?_⟩
   rw [if_neg (dF (by omega)),Z6 (by simp only [aL,maxLen];omega),wS (by omega)]
include hN
theorem Zx5 {r:List R2} (hq:∀ l ∈ r,∀ x ∈ l,-9223372036854775808≤x∧x≤9223372036854775807):∀ (m f i:Nat) (out:List R2),i+m=8→m<f→out.length=i→(∀ q ∈ out,Xn n q)→
  ∃ o,Ue N n r true f out (i:Int)=some o∧(∀ q ∈ o,Xn n q)∧o.length≤8
 | m,0,i,out,_,b,_,_=>by omega
 | m,f+1,i,out,t,b,c,a=>by
  rw [Ue.eq_2]
  by_cases hi:i<r.length
  ·rw [if_pos (dT (by omega)),Zdd]
   cases m with
   | zero=>rw [if_neg (dF (by omega))];exact ⟨out,rfl,a,by omega⟩
   | succ m=>
    have s:=hf.le
    obtain ⟨R,d,e⟩:=Zx6 hf hi (hq _ (aG hi)) (out:=out) (by omega) (by omega) (Ue N n r true f) N 0 [] (bK _) (by omega) rfl fun j u=>by omega
    obtain ⟨o,g,k,p⟩:=Zx5 hq m f (i+1) (out++[R]) (by omega) (by omega) (by rw [nA,aL,c]) fun q hq=>by
     rcases bE.1 hq with h | h
     ·exact a q h
     ·rw [bT] at h;subst h;exact d
    rw [if_pos (dT (by omega))]
    exact ⟨o,e.trans g,k,p⟩
  ·rw [if_neg (dF (by omega)),Zdd,if_neg (by decide)]
   exact ⟨out,rfl,a,by omega⟩
theorem Z8a {r:List R2} (hq:∀ l ∈ r,∀ x ∈ l,-9223372036854775808≤x∧x≤9223372036854775807):∃ o,Zbu N n r true=some o∧(∀ q ∈ o,Xn n q)∧o.length≤8:=by
 rw [Zbu]
 exact Zx5 hf hN hq 8 N 0 [] (by omega) (by omega) rfl fun q hq=>by cases hq
end
theorem Xn.pv {n:Zp} {w:List Int} (h:Xn n w):PV n w:=⟨h.len,fun i a=>by have:=h.ok i a;omega⟩
section
variable {N:Nat} {n:Zp} (hf:Xu N n) (hN:2000000<N)
include hf
theorem Z77 {v:Nat} (hv:v<n.2.1.length) {row:List Int} (hrow:row.length=v) (kk:Int→List Int→Option R6) {x:Int}:∃ z:Int,-1≤z∧z<(cnt n v:Int)∧Q6 n false (v:Int) row kk x=kk ((v+1:Nat):Int) (row++[z]):=by
 have c:=hf.le
 have d:=Uo hf.ev hv
 have e:Q6 n false (v:Int) row kk x=Zde n (v:Int) row kk x:=by
  rw [Q6]
  by_cases h:x<0
  ·rw [if_pos (dT h),Zdf,if_neg (by decide)]
  ·rw [if_neg (dF h),Zdf,if_neg (by decide)]
 rw [e]
 by_cases h:0≤x
 ·obtain ⟨z,f,a,b⟩:=Zrk hf hv hrow kk h
  exact ⟨z,by omega,a,b⟩
 ·refine ⟨-1,by omega,by omega,?_⟩
  rw [Zde,if_neg (dF h),Zg7,Z6 (by simp only [aL,maxLen];omega),Zjs,wS (by omega)]
theorem Zx3 {r:List R2} {i:Nat} (hi:i<r.length) {out:List R2} (hout:out.length≤8) (hi8:i≤8) (kk:List R2→Int→Option R6):∀ (f v:Nat) (row:List Int),v≤n.2.1.length→n.2.1.length<f+v→row.length=v→(∀ j,j<v→ -1≤row.getD j 0∧row.getD j 0<(cnt n j:Int))→
  ∃ R,PV n R∧Uf N n r false out (i:Int) kk f (v:Int) row=kk (out++[R]) ((i+1:Nat):Int)
 | 0,v,row,c,d,_,_=>by omega
 | f+1,v,row,c,d,a,b=>by
  rw [Uf.eq_2]
  by_cases hv:v<n.2.1.length
  ·have fin:∀ x:Int,∃ R,PV n R∧Q6 n false (v:Int) row (Uf N n r false out (i:Int) kk f) x=kk (out++[R]) ((i+1:Nat):Int):=fun x=>by
    obtain ⟨z,g,k,l⟩:=Z77 hf hv a (Uf N n r false out (i:Int) kk f) (x:=x)
    obtain ⟨R,m,o⟩:=Zx3 hi hout hi8 kk f (v+1) (row++[z]) (by omega) (by omega) (by rw [nA,aL,a]) fun j p=>by
     rw [aE]
     by_cases e:j=v
     ·subst e
      rw [eN (by omega),a,fO]
      exact ⟨g,k⟩
     ·rw [eP (by omega),← aE]
      exact b j (by omega)
    exact ⟨R,m,l.trans o⟩
   rw [if_pos (dT (by omega)),Z1 hi,oB]
   by_cases hx:v<r[i].length
   ·rw [if_pos (dT (by omega)),Z1 hx,oB]
    exact fin _
   ·rw [if_neg (dF (by omega))]
    exact fin 0
  ·refine ⟨row,⟨by omega,fun j p=>b j (by omega)⟩,?_⟩
   rw [if_neg (dF (by omega)),Z6 (by simp only [aL,maxLen];omega),wS (by omega)]
include hN
theorem Zx2 {r:List R2}:∀ (m f i:Nat) (out:List R2),i+m=8→m<f→out.length=i→(∀ q ∈ out,PV n q)→
  ∃ o,Ue N n r false f out (i:Int)=some o∧(∀ q ∈ o,PV n q)∧o.length≤8
 | m,0,i,out,_,b,_,_=>by omega
 | m,f+1,i,out,t,b,c,a=>by
  rw [Ue.eq_2]
  by_cases hi:i<r.length
  ·rw [if_pos (dT (by omega)),Zdd]
   cases m with
   | zero=>rw [if_neg (dF (by omega))];exact ⟨out,rfl,a,by omega⟩
   | succ m=>
    have s:=hf.le
    obtain ⟨R,d,e⟩:=Zx3 hf hi (out:=out) (by omega) (by omega) (Ue N n r false f) N 0 [] (bK _) (by omega) rfl fun j u=>by omega
    obtain ⟨o,g,k,l⟩:=Zx2 m f (i+1) (out++[R]) (by omega) (by omega) (by rw [nA,aL,c]) fun q p=>by
     rcases bE.1 p with h | h
     ·exact a q h
     ·rw [bT] at h;subst h;exact d
    rw [if_pos (dT (by omega))]
    exact ⟨o,e.trans g,k,l⟩
  ·rw [if_neg (dF (by omega)),Zdd,if_neg (by decide)]
   exact ⟨out,rfl,a,by omega⟩
theorem Z78 (r:List R2):∃ o,Zbu N n r false=some o∧(∀ q ∈ o,PV n q)∧o.length≤8:=by
 rw [Zbu]
 exact Zx2 hf hN 8 N 0 [] (by omega) (by omega) rfl fun q a=>by cases a
end
def Zkv (aa:Int) (kk_L2:(Int→Option Bool)) (ab:Bool):Option Bool:=
  if ab=true then (some false) else (kk_L2 (i64.wrap (aa+1)))
def Zcd (N:Nat) (aa:R0) (ab:Int) (kk_L1:(Int→Option Bool)):Nat→Int→Option Bool
  | 0,_=>none
  | ad+1,ac=>(Zm aa.2.2.2.1 ab).bind fun ae=>if (decide (ac<(ae.length:Int)))=true then ((Zm ae ac).bind fun af=>if (decide (af<0))=true then (Zkv ac (Zcd N aa ab kk_L1 ad) true) else (Zkv ac (Zcd N aa ab kk_L1 ad) (decide ((aa.2.1.length:Int)≤af)))) else ((Zm aa.2.2.1 ab).bind fun ag=>if (decide ((ag.length:Int)=0))=true then (some false) else (kk_L1 (i64.wrap (ab+1))))
termination_by structural x=>x
def Zkw (aa:Int) (kk_L3:(Int→Option Bool)) (ab:Bool):Option Bool:=
  if ab=true then (some false) else (kk_L3 (i64.wrap (aa+1)))
def Zce (N:Nat) (ab:R0) (ac:List Int):Nat→Int→Option Bool
  | 0,_=>none
  | ad+1,aa=>if (decide (aa<(ab.2.1.length:Int)))=true then ((Zm ab.2.2.2.1 aa).bind fun ag=>(Zkp N ag ac).bind fun ae=>(Zm ac aa).bind fun af=>(Zkq ae af).bind fun ah=>if ah=true then (Zkw aa (Zce N ab ac ad) true) else ((Zm ab.2.2.2.2 aa).bind fun ai=>Zkw aa (Zce N ab ac ad) (!decide ((ai.length:Int)=(i64.wrap (ae * af)))))) else (some true)
termination_by structural x=>x
def Zbg (N:Nat) (aa:R0):Nat→Int→Option Bool
  | 0,_=>none
  | ac+1,ab=>if (decide (ab<(aa.2.1.length:Int)))=true then (Zcd N aa ab (Zbg N aa ac) N 0) else ((Zih N (aa.1,aa.2.1,aa.2.2.1,aa.2.2.2.1,aa.2.2.2.2)).bind fun ad=>Zce N aa ad N 0)
termination_by structural x=>x
def Zig (N:Nat) (aa:R0) (ab:Bool):Option Bool:=
  if ab=true then (some false) else (Zbg N aa N 0)
def Zif (N:Nat) (aa:R0):Option Bool:=
  if (!decide ((aa.2.2.1.length:Int)=(aa.2.1.length:Int)))=true then (Zig N aa true) else (if (!decide ((aa.2.2.2.1.length:Int)=(aa.2.1.length:Int)))=true then (Zig N aa true) else (Zig N aa (!decide ((aa.2.2.2.2.length:Int)=(aa.2.1.length:Int)))))
theorem Z4p {N ah ai aj ak:Nat} {al am an ao:Option Addr} {col:Ze} {w0:World} {aa:R0} {r:Bool} (hm:Zif N aa=some r) (a8:Sl Za.str col w0 al ah aa.2.1) (ax:Sl (Za.slice Za.str) col w0 am ai aa.2.2.1) (af:Sl (Za.slice (Za.int .i64)) col w0 an aj aa.2.2.2.1) (ay:Sl (Za.slice (Za.pair (Za.pair Za.bool (Za.slice (Za.int .u32))) (Za.slice (Za.int .u32)))) col w0 ao ak aa.2.2.2.2):
    Calls prog 21 #[(.agg #[.string aa.1,.slice al aa.2.1.length ah,.slice am aa.2.2.1.length ai,.slice an aa.2.2.2.1.length aj,.slice ao aa.2.2.2.2.length ak])] w0 (fun e w'=>e= .returned ((.bool r))∧Below w0.heap.size w0 w'):=by
 refine Xl 2 (m:=111) func21 rfl rfl rfl rfl rfl ?_;rw [Zif.eq_1] at hm;have ab:=St.start col w0;refine go ?_;refine Xs (col:=(Zk col)) 1 rfl ?_;intro au cl cn bz ac;refine go ?_;refine Xk ac<|lV _ (Zaj underlying22 rfl)<|Y7 rfl<|Zl<|Z0<|Z0 ?_;replace a8:=a8.keep (Zi.start col w0);replace ax:=ax.keep (Zi.start col w0);replace af:=af.keep (Zi.start col w0);replace ay:=ay.keep (Zi.start col w0);replace ab:=ab.grow bz;refine Wp.cutK [1,3,1000000] (fun f a9=>∃ ba bb,Zig N aa bb=some r∧St w0 (Zk col) ba a9∧Zf 27 1 ba a9 au #[.string aa.1,.slice al aa.2.1.length ah,.slice am aa.2.2.1.length ai,.slice an aa.2.2.2.1.length aj,.slice ao aa.2.2.2.2.length ak]∧[31].map f=[.bool bb]) ?_ ?_
 ·intro f a9 hJ;obtain ⟨ba,bb,hm,ab,ac,hs⟩:=hJ;rw [Zig.eq_1] at hm;refine .lL [31] hs ?_;refine Zq hm (fun hb hm=>go ?_) fun hb hm=>go ?_
  ·cases hm;exact ⟨rfl,rfl,ab.below⟩
  refine Z4 [1,3,1000000] (fun n f bc=>∃ bd az ap,ap=n∧Zbg N aa ap az=some r∧St w0 (Zk col) bd bc∧Zf 27 1 bd bc au #[.string aa.1,.slice al aa.2.1.length ah,.slice am aa.2.2.1.length ai,.slice an aa.2.2.2.1.length aj,.slice ao aa.2.2.2.2.length ak]∧[4].map f=[.int .i64 az]) N ⟨_,0,_,rfl,hm,ab,ac,rfl⟩ ?_;clear hm;intro n f bc hI;obtain ⟨bd,az,ap,hn,hm,ab,ac,hs⟩:=hI;subst hn;refine .lL [4] hs ?_
  cases ap with
  | zero=>rw [Zbg.eq_1] at hm;cases hm
  | succ ap=>
   rw [Zbg.eq_2] at hm;refine go ?_;refine Zq hm (fun hb hm=>go ?_) fun hb hm=>go ?_
   ·refine Z4 [1,3,4,1000000] (fun n f be=>∃ bf a3 aq,aq=n∧Zcd N aa az (Zbg N aa ap) aq a3=some r∧St w0 (Zk col) bf be∧Zf 27 1 bf be au #[.string aa.1,.slice al aa.2.1.length ah,.slice am aa.2.2.1.length ai,.slice an aa.2.2.2.1.length aj,.slice ao aa.2.2.2.2.length ak]∧[5].map f=[.int .i64 a3]) N ⟨_,0,_,rfl,hm,ab,ac,rfl⟩ ?_;clear hm;intro n f be hI;obtain ⟨bf,a3,aq,hn,hm,ab,ac,hs⟩:=hI;subst hn;refine .lL [5] hs ?_
    cases aq with
    | zero=>rw [Zcd.eq_1] at hm;cases hm
    | succ aq=>
     rw [Zcd.eq_2] at hm;refine go ?_;refine Xk ac<|X1 rfl ?_;obtain ⟨co,ag,hm⟩:=bZ hm;refine lI ag ((af.ks ab).addr ag) ?_;obtain ⟨_,b0,b1⟩:=(af.ks ab).atN ag;obtain ⟨⟨cp,cq,rfl,cr⟩,_⟩:=b0;refine lW b1.one<|go ?_;refine Zq hm (fun hb hm=>?_) fun hb hm=>go ?_
     ·refine Yl<|Z0<|Zef<|Z0 ?_;refine Wp.cutK [1,3,4,5,1000000] (fun f bg=>∃ bh bi,Zkv a3 (Zcd N aa az (Zbg N aa ap) aq) bi=some r∧St w0 (Zk col) bh bg∧Zf 27 1 bh bg au #[.string aa.1,.slice al aa.2.1.length ah,.slice am aa.2.2.1.length ai,.slice an aa.2.2.2.1.length aj,.slice ao aa.2.2.2.2.length ak]∧[67].map f=[.bool bi]) ?_ ?_
      ·intro f bg hJ;obtain ⟨bh,bi,hm,ab,ac,hs⟩:=hJ;rw [Zkv.eq_1] at hm;refine .lL [67] hs ?_;refine Zq hm (fun hb hm=>go ?_) fun hb hm=>go ?_
       ·cases hm;exact ⟨rfl,rfl,ab.below⟩
       exact ⟨aq,by omega,rfl,⟨_,_,_,rfl,hm,ab,ac,rfl⟩⟩
      refine Vd<|Xk ac<|X1 rfl<|lI ag ((af.ks ab).addr ag) ?_;obtain ⟨_,b2,b3⟩:=(af.ks ab).atN ag;obtain ⟨⟨cs,ct,rfl,bs⟩,_⟩:=b2;refine lW b3.one<|X1 rfl ?_;obtain ⟨b4,av,hm⟩:=bZ hm;refine lI av (bs.addr av)<|lW (bs.atInt av) ?_;refine go ?_;refine Yt hm (fun bj hm=>go ?_) fun bj hm=>go ?_
      ·refine lV (.bool true) (Yf (congrArg Value.bool bj) rfl)<|Zl ?_;exact ⟨rfl,_,_,hm,ab,ac,rfl⟩
      refine Yk ⟨_,_,rfl⟩ ?_;refine go ?_;refine lW ((ac.atN).nth (q:=3) rfl)<|go ?_;refine lI ag ((af.ks ab).addr ag) ?_;refine go ?_;obtain ⟨_,b5,b6⟩:=(af.ks ab).atN ag;obtain ⟨⟨cu,cv,rfl,bt⟩,_⟩:=b5;refine lW b6.one<|go ?_;refine lI av (bt.addr av) ?_;refine go ?_;refine lW (bt.atInt av)<|go ?_;refine lV (.bool (decide ((aa.2.1.length:Int)≤b4))) (X8 (congrArg Value.bool bj) rfl)<|Zl ?_;exact ⟨rfl,_,_,hm,ab,ac,rfl⟩
     refine Xk ac<|X1 rfl ?_;obtain ⟨cw,bk,hm⟩:=bZ hm;refine lI bk ((ax.ks ab).addr bk) ?_;obtain ⟨_,b7,b8⟩:=(ax.ks ab).atN bk;obtain ⟨⟨cx,cy,rfl,cz⟩,_⟩:=b7;refine lW b8.one<|go ?_;refine Zq hm (fun hb hm=>go ?_) fun hb hm=>go ?_
     ·cases hm;exact ⟨rfl,rfl,ab.below⟩
     exact ⟨ap,by omega,rfl,⟨_,_,_,rfl,hm,ab,ac,rfl⟩⟩
   refine lV _ (Xd isAgg27 sizeOf27 ac) ?_;obtain ⟨a4,b9,hm⟩:=bZ hm;refine Zj (Z4q 2 b9 (a8.ks ab) (ax.ks ab) (af.ks ab) (ay.ks ab)) ?_;rintro _ c0 ⟨c1,bu,bv,rfl,bw,ad⟩;refine ⟨_,rfl,go ?_⟩;replace ac:=ac.gr bw;replace ab:=ab.grow bw;refine Z4 [1,3,6,1000000] (fun n f a0=>∃ ae a5 ar,ar=n∧Zce N aa a4 ar a5=some r∧St w0 (Zk col) ae a0∧Zf 27 1 ae a0 au #[.string aa.1,.slice al aa.2.1.length ah,.slice am aa.2.2.1.length ai,.slice an aa.2.2.2.1.length aj,.slice ao aa.2.2.2.2.length ak]∧Zb (Za.int .i64) 3 2 ae a0 bu bv a4∧[7].map f=[.int .i64 a5]) N ⟨_,0,_,rfl,hm,ab,ac,ad,rfl⟩ ?_;clear hm;intro n f a0 hI;obtain ⟨ae,a5,ar,hn,hm,ab,ac,ad,hs⟩:=hI;subst hn;refine .lL [7] hs ?_
   cases ar with
   | zero=>rw [Zce.eq_1] at hm;cases hm
   | succ ar=>
    rw [Zce.eq_2] at hm;refine go ?_;refine Zq hm (fun hb hm=>go ?_) fun hb hm=>go ?_
    ·refine Xk ac<|X1 rfl ?_;obtain ⟨c2,bm,hm⟩:=bZ hm;refine lI bm ((af.ks ab).addr bm) ?_;obtain ⟨_,ca,cb⟩:=(af.ks ab).atN bm;obtain ⟨⟨c3,c4,rfl,cc⟩,_⟩:=ca;refine lW cb.one<|Y2 rfl ?_;obtain ⟨cd,ce,hm⟩:=bZ hm;refine Zj (Z4n ce (cc.froz 2) (ad.toSlF (Zd.int .i64))) ?_;rintro _ bx ⟨rfl,a1⟩;refine ⟨_,rfl,?_⟩;replace a1:Zh ae a0 ae bx:=.of_below a1;refine go ?_;obtain ⟨cf,aw,hm⟩:=bZ hm;replace ad:=ad.gr a1;refine lI aw (ad.addr aw)<|lW (ad.atInt aw) ?_;obtain ⟨c5,cg,hm⟩:=bZ hm;refine Zj (Z4o (col:=ae) cg) ?_;rintro _ ch ⟨rfl,a2⟩;refine ⟨_,rfl,?_⟩;replace a2:Zh ae bx ae ch:=.of_below a2;refine Zmm rfl<|Zl<|Z0 ?_;replace ac:=(ac.gr a1).gr a2;replace ab:=(ab.grow a1).grow a2;replace ad:=ad.gr a2;refine Wp.cutK [1,3,6,7,1000000] (fun f a6=>∃ a7 bn,Zkw a5 (Zce N aa a4 ar) bn=some r∧St w0 (Zk col) a7 a6∧Zf 27 1 a7 a6 au #[.string aa.1,.slice al aa.2.1.length ah,.slice am aa.2.2.1.length ai,.slice an aa.2.2.2.1.length aj,.slice ao aa.2.2.2.2.length ak]∧Zb (Za.int .i64) 3 2 a7 a6 bu bv a4∧[110].map f=[.bool bn]) ?_ ?_
     ·intro f a6 hJ;obtain ⟨a7,bn,hm,ab,ac,ad,hs⟩:=hJ;rw [Zkw.eq_1] at hm;refine .lL [110] hs ?_;refine Zq hm (fun hb hm=>go ?_) fun hb hm=>go ?_
      ·cases hm;exact ⟨rfl,rfl,ab.below⟩
      exact ⟨ar,by omega,rfl,⟨_,_,_,rfl,hm,ab,ac,ad,rfl⟩⟩
     refine V4 (col:=ae) (by kernel_rfl) (by kernel_rfl)<|go ?_;refine Yt hm (fun bo hm=>go ?_) fun bo hm=>go ?_
     ·refine qv (v:=(.bool true)) rfl (fun _ hC=>Yf (congrArg Value.bool bo) rfl) ?_;refine Vc ?_;intro c6 hC;replace hC:=hC.bl ae;replace ad:=ad.gr hC;replace ac:=ac.gr hC;replace ab:=ab.grow hC;exact ⟨rfl,_,_,hm,ab,ac,ad,rfl⟩
     refine qF ⟨_,_,rfl⟩ ?_;refine go ?_;refine qW (fun _ hC=>((ac.atN).nth (q:=4) rfl).gr (hC.bl ae)) ?_;refine go ?_;obtain ⟨ci,bp,hm⟩:=bZ hm;refine qI bp ((ay.ks ab).addr bp) ?_;refine go ?_;obtain ⟨_,cj,ck⟩:=(ay.ks ab).atN bp;obtain ⟨⟨c7,c8,rfl,c9⟩,_⟩:=cj;refine qW (fun _ hC=>ck.one.gr (hC.bl ae)) ?_;refine go ?_;refine qI aw (ad.addr aw) ?_;refine go ?_;refine qW (fun _ hC=>(ad.gr (hC.bl ae)).atInt aw) ?_;refine go ?_;refine qv (v:=(.bool (!decide ((ci.length:Int)=(i64.wrap (cd * cf)))))) rfl (fun _ hC=>X8 (congrArg Value.bool bo) rfl) ?_;refine Vc ?_;intro da hC;replace hC:=hC.bl ae;replace ad:=ad.gr hC;replace ac:=ac.gr hC;replace ab:=ab.grow hC;exact ⟨rfl,_,_,hm,ab,ac,ad,rfl⟩
    cases hm;exact ⟨rfl,rfl,ab.below⟩
 refine Vd<|Xk ac ?_;refine go ?_;refine Yt hm (fun bq hm=>go ?_) fun bq hm=>go ?_
 ·refine lV (.bool true) (Yf (congrArg Value.bool bq) rfl)<|Ts rfl<|lP 25 rfl rfl<|lP 25 rfl rfl<|lP 25 rfl rfl<|lP 25 rfl rfl<|lP 25 rfl rfl<|lV (.bool true) (Yf rfl rfl)<|Zl ?_;exact ⟨rfl,_,_,hm,ab,ac,rfl⟩
 refine Yk ⟨_,_,rfl⟩ ?_;refine go ?_;refine lW ((ac.atN).nth (q:=3) rfl)<|go ?_;refine lV (.bool (!decide ((aa.2.2.2.1.length:Int)=(aa.2.1.length:Int)))) (X8 (congrArg Value.bool bq) rfl)<|Ts rfl ?_;refine Yt hm (fun br hm=>go ?_) fun br hm=>go ?_
 ·refine lV (.bool true) (Yf (congrArg Value.bool br) rfl)<|Zl ?_;exact ⟨rfl,_,_,hm,ab,ac,rfl⟩
 refine Yk ⟨_,_,rfl⟩ ?_;refine go ?_;refine lW ((ac.atN).nth (q:=4) rfl)<|go ?_;refine lV (.bool (!decide ((aa.2.2.2.2.length:Int)=(aa.2.1.length:Int)))) (X8 (congrArg Value.bool br) rfl)<|Zl ?_;exact ⟨rfl,_,_,hm,ab,ac,rfl⟩
section
variable {N W:Nat} {n:Zp} (hf:Xu N n) (hs:Ve n W) (hN:2000000<N)
include hf hs hN
theorem Z1f:∀ (f v:Nat),v≤n.2.1.length→n.2.1.length<f+v→Zce N n (n.2.2.1.map fun l=>(l.length:Int)) f (v:Int)=some true
 | 0,v,g,i=>by omega
 | f+1,v,g,i=>by
  have q:=hf.le
  rw [Zce.eq_2]
  by_cases hv:v<n.2.1.length
  ·have d:v<n.2.2.1.length:=by rw [hf.ev.v];exact hv
   have a:v<n.2.2.2.1.length:=by rw [hf.ev.p];exact hv
   have b:v<n.2.2.2.2.length:=by rw [hf.ev.t];exact hv
   obtain ⟨e,j,u⟩:=hf.rows hv
   have s:=Uo hf.ev hv
   have k:n.2.2.1[v].length=cnt n v:=by rw [cnt,Xi d]
   have m:=Z5k (N:=N) (ps:=n.2.2.2.1[v]) (vals:=n.2.2.1) hs.vl hf.ev.ne (hf.ev.par (aG a)) (by have:=hs.pn.ls _ (aG a);omega) (by omega)
   have o:=Z8h (r:=Yn n.2.2.1 n.2.2.2.1[v] 1) (c:=n.2.2.1[v].length) (by omega)
   rw [Xi a,Xi b,← k] at e
   rw [Xi b] at j
   rw [if_pos (dT (by omega)),Z1 a,oB,m,oB,Zsn d,oB,o,oB,if_neg (dF (by omega)),Z1 b,oB,← bU,e,Zv (by omega),decide_eq_true rfl,Zkw,if_neg (by decide),wS (by omega)]
   exact Z1f f (v+1) (by omega) (by omega)
  ·rw [if_neg (dF (by omega))]
omit hN in
theorem Z1e {v:Nat} (hv:v<n.2.1.length) (kk:Int→Option Bool):∀ (f i:Nat),i≤(n.2.2.2.1.getD v []).length→(n.2.2.2.1.getD v []).length<f+i→Zcd N n (v:Int) kk f (i:Int)=kk ((v+1:Nat):Int)
 | 0,i,c,d=>by omega
 | f+1,i,c,d=>by
  have g:=hf.le
  have b:v<n.2.2.1.length:=by rw [hf.ev.v];exact hv
  have a:v<n.2.2.2.1.length:=by rw [hf.ev.p];exact hv
  have j:=Uo hf.ev hv
  have l:n.2.2.1[v].length=cnt n v:=by rw [cnt,Xi b]
  have e:=Z1e hv kk f (i+1)
  rw [Xi a] at c d e
  have k:=hs.pn.ls _ (aG a)
  rw [Zcd.eq_2,Z1 a,oB]
  by_cases hi:i<n.2.2.2.1[v].length
  ·have m:=hf.pars hv n.2.2.2.1[v][i] (by rw [Xi a];exact aG hi)
   rw [if_pos (dT (by omega)),Z1 hi,oB,if_neg (dF (by omega)),decide_eq_false (show ¬ (n.2.1.length:Int)≤n.2.2.2.1[v][i] by omega),Zkv,if_neg (by decide),wS (by omega)]
   exact e (by omega) (by omega)
  ·rw [if_neg (dF (by omega)),Z1 b,oB,if_neg (dF (by omega)),wS (by omega)]
theorem Z1d:∀ (f v:Nat),v≤n.2.1.length→n.2.1.length<f+v→Zbg N n f (v:Int)=some true
 | 0,v,b,c=>by omega
 | f+1,v,b,c=>by
  have e:=hf.le
  have g:=hf.ev.v
  rw [Zbg.eq_2]
  by_cases hv:v<n.2.1.length
  ·have a:v<n.2.2.2.1.length:=by rw [hf.ev.p];exact hv
   have i:=hs.pn.ls _ (aG a)
   rw [if_pos (dT (by omega))]
   exact (Z1e hf hs hv (Zbg N n f) N 0 (bK _) (by rw [Xi a];omega)).trans (Z1d f (v+1) (by omega) (by omega))
  ·have d:Zih N (n.1,n.2.1,n.2.2.1,n.2.2.2.1,n.2.2.2.2)=some (n.2.2.1.map fun l=>(l.length:Int)):=Z98 (n:=n) (by omega) (by omega)
   rw [if_neg (dF (by omega)),d,oB]
   exact Z1f hf hs hN N 0 (bK _) (by omega)
theorem Z93:Zif N n=some true:=by
 have a:=hf.le
 have b:=hf.ev.v;have c:=hf.ev.p;have d:=hf.ev.t
 rw [Zif,if_neg (by rw [decide_eq_true (by omega)];decide),if_neg (by rw [decide_eq_true (by omega)];decide),decide_eq_true (show (n.2.2.2.2.length:Int)=(n.2.1.length:Int) by omega),Zig,if_neg (by decide)]
 exact Z1d hf hs hN N 0 (bK _) (by omega)
end
theorem Z5i {N W:Nat} {n:Zp} (hs:Ve n W) (hr:Z9 N (8 * W+40)) (hN:2000000<N):∃ e,W1 N n=some e∧(e=0→Xu N n):=by
 have w:=hs.nm
 rw [W1]
 by_cases hv:n.2.2.1.length=n.2.1.length
 ·by_cases hp:n.2.2.2.1.length=n.2.1.length
  ·by_cases ht:n.2.2.2.2.length=n.2.1.length
   ·rw [if_neg (by rw [decide_eq_true (by omega)];decide),if_neg (by rw [decide_eq_true (by omega)];decide),show (!decide ((n.2.2.2.2.length:Int)=(n.2.1.length:Int)))=false by rw [decide_eq_true (by omega)];rfl,Zbd,if_neg (show ¬ (false=true) by decide)]
    by_cases hk:1024<n.2.1.length
    ·rw [if_pos (dT (by omega))]
     exact ⟨4,rfl,fun h=>by cases h⟩
    ·rw [if_neg (dF (by omega))]
     have g:Ze5 (n.1,n.2.1,n.2.2.1,n.2.2.2.1,n.2.2.2.2)=some (Zbi n.2.1 n.2.2.1 n.2.1.length 0):=Zxw n hv
     rw [g,oB]
     by_cases hnms:Zbi n.2.1 n.2.2.1 n.2.1.length 0=0
     ·rw [if_neg (by rw [decide_eq_true hnms];decide)]
      have c:∀ l ∈ n.2.2.1,l≠[]:=fun l j=>by
       obtain ⟨i,k,rfl⟩:=List.mem_iff_getElem.1 j
       have:=(Zxx _ 0 hnms i (by omega) (by omega)).1
       rw [Xi k] at this;exact this
      have fin:∀ e,Q5 N n.2.2.2.1=some e→e≠0→∃ e,((Q5 N n.2.2.2.1).bind fun r_17=>if (!decide (r_17=0))=true then some r_17 else Zb0 N n n.2.2.2.2 0)=some e∧(e=0→Xu N n):=fun e m a=>by
       rw [m,oB,if_pos (by rw [decide_eq_false a];decide)]
       exact ⟨e,rfl,fun h=>absurd h a⟩
      rcases Z07 hs.pn hN with ⟨e,D,R,a⟩ | ⟨_,_,l,_,_,_,_,D,R⟩ | ⟨o,p,l,q,d,x,f,D,R⟩
      ·exact fin e (by rw [Q5,D];rfl) (by rcases a with h | h <;> omega)
      ·exact fin 42 (by rw [Q5,D];rfl) (by decide)
      ·have r:Q5 N n.2.2.2.1=some 0:=by rw [Q5,D];rfl
       have b:Um n:=⟨hv,hp,ht,o,c⟩
       have s:=Zrb (N:=N) hs b n.2.2.2.2 0 (by simp) (by omega)
       rw [r,oB,if_neg (by decide),s,ht]
       by_cases hsh:S3 n.2.2.1 n.2.2.2.1 n.2.2.2.2 n.2.1.length 0=0
       ·have u:=Zq8 (N:=N) (n:=n) (W:=W) (hr.mono (by omega)) n.2.2.2.2 (fun t h=>⟨hs.tl t h,hs.tq t h,hs.lim t h⟩)
        rw [if_pos hsh,u]
        by_cases hen:Zep n.2.2.2.2=true
        ·rw [if_pos hen]
         exact ⟨45,rfl,fun h=>by cases h⟩
        ·have v:=Zrc (N:=N) hs b hsh hr (by omega) n.2.2.2.2 0 (by simp) (by omega)
         rw [if_neg hen,v,ht]
         exact ⟨_,rfl,fun h=>⟨b,by omega,hnms,hsh,Bool.eq_false_iff.2 hen,h,p,l,D,q,R,d,f⟩⟩
       ·rw [if_neg hsh]
        exact ⟨_,rfl,fun h=>absurd h hsh⟩
     ·rw [if_pos (by rw [decide_eq_false hnms];decide)]
      exact ⟨_,rfl,fun h=>absurd h hnms⟩
   ·rw [if_neg (by rw [decide_eq_true (by omega)];decide),if_neg (by rw [decide_eq_true (by omega)];decide),decide_eq_false (by omega),Zbd,if_pos (by decide)]
    exact ⟨60,rfl,fun h=>by cases h⟩
  ·rw [if_neg (by rw [decide_eq_true (by omega)];decide),if_pos (by rw [decide_eq_false (by omega)];decide),Zbd,if_pos rfl]
   exact ⟨60,rfl,fun h=>by cases h⟩
 ·rw [if_pos (by rw [decide_eq_false (by omega)];decide),Zbd,if_pos rfl]
  exact ⟨60,rfl,fun h=>by cases h⟩
def Zey (N:Nat) (aa:Int) (ab:Int):Option R0:=
  (Zjr N aa (i64.wrap (aa+ab))).bind fun ac=>(Zjr N ab (i64.wrap (aa+ab))).bind fun ad=>some (⟨#[110]⟩,([⟨#[97]⟩]:List ByteArray),([([⟨#[120]⟩,⟨#[121]⟩]:List ByteArray)]:List R3),[([]:List Int)],[[((ac.1.1,ac.1.2),ac.2),((ad.1.1,ad.1.2),ad.2)]])
theorem Zjb {N:Nat} {col:Ze} {w0:World} {a6 a7:Int} {r:R0} (c1 c2 c3 c4:Nat) (hm:Zey N a6 a7=some r):
    Calls prog 84 #[.int .i64 a6,.int .i64 a7] w0 (fun e w'=>∃ (col':Ze) (ra1:Option Addr) (rc2:Nat) (ra4:Option Addr) (rc5:Nat) (ra7:Option Addr) (rc8:Nat) (ra10:Option Addr) (rc11:Nat),e= .returned ((.agg #[.string r.1,.slice ra1 r.2.1.length rc2,.slice ra4 r.2.2.1.length rc5,.slice ra7 r.2.2.2.1.length rc8,.slice ra10 r.2.2.2.2.length rc11]))∧Zh col w0 col' w'∧Zb Za.str 9 c1 col' w' ra1 rc2 r.2.1∧Zb (Za.row 9 Za.str) 22 c2 col' w' ra4 rc5 r.2.2.1∧Zb (Za.row 3 (Za.int .i64)) 33 c3 col' w' ra7 rc8 r.2.2.2.1∧Zb (Za.row 39 (Za.pair (Za.pair Za.bool (Za.row 95 (Za.int .u32))) (Za.row 95 (Za.int .u32)))) 114 c4 col' w' ra10 rc11 r.2.2.2.2):=by
 refine Wq (m:=22) func84 rfl rfl rfl ?_;rw [Zey.eq_1] at hm;have ac:=St.start col w0;refine go ?_;refine Xr (col:=(Zk col)) #[.string (⟨#[]⟩),.slice none (([]:List ByteArray).length) 0,.slice none (([]:List R3).length) 0,.slice none (([]:List R2).length) 0,(.slice none (([]:List R4).length) 0)] 1 zeroValue27 ?_;intro b0 b1 bc bd ad;refine go ?_;refine Zwk (col:=bc) ([⟨#[97]⟩]:List ByteArray) 2 ?_;intro be b2 bf a8 ae;refine Zwk (col:=bf) ([⟨#[120]⟩,⟨#[121]⟩]:List ByteArray) 3 ?_;intro a9 b3 bg an bh;refine Ur (col:=bg) (r:=(Za.row 9 Za.str)) (xs:=([([⟨#[120]⟩,⟨#[121]⟩]:List ByteArray)]:List R3)) [.slice a9 (([⟨#[120]⟩,⟨#[121]⟩]:List ByteArray).length) 2] 3 (Wa.cons1 (cs:=[.slice a9 (([⟨#[120]⟩,⟨#[121]⟩]:List ByteArray).length) 2]) bh.has Rows.nil0) ?_;intro bi b4 bj ao af;refine Ur (col:=bj) (r:=(Za.row 3 (Za.int .i64))) (xs:=[([]:List Int)]) [.slice none (([]:List Int).length) 0] 4 (Wa.ofF (Rows.consF (r:=(Za.row 3 (Za.int .i64))) (x:=([]:List Int)) (cs:=[.slice none (([]:List Int).length) 0]) Zsf Rows.nil0)) ?_;intro bk b5 bm am ag;refine go ?_;obtain ⟨aa,bn,hm⟩:=bZ hm;refine Zj (Zpn (col:=bm) 5 6 bn) ?_;rintro _ b6 ⟨bo,ap,aq,ar,au,rfl,ai,av,aw⟩;refine ⟨_,rfl,go ?_⟩;obtain ⟨ab,bp,hm⟩:=bZ hm;refine Zj (Zpn (col:=bo) 7 8 bp) ?_;rintro _ ba ⟨ax,ay,az,a0,a1,rfl,ah,a2,a3⟩;refine ⟨_,rfl,?_⟩;replace av:=av.gr ah;replace aw:=aw.gr ah;have bq:=X7.join (X7.joinL (Zcl aa.1.1) av.has) aw.has (by decide) (by decide);replace ae:=((((ae.gr an).gr ao).gr am).gr ai).gr ah;replace ae:=ae.recol 6 5 (by decide);replace af:=((af.gr am).gr ai).gr ah;replace af:=af.recol 6 5 (by decide);replace ag:=(ag.gr ai).gr ah;replace ag:=ag.recol 6 5 (by decide);replace a2:=a2.recol 6 5 (by decide);replace a3:=a3.recol 6 5 (by decide);replace ad:=(((((ad.gr a8).gr an).gr ao).gr am).gr ai).gr ah;replace ad:=ad.recol 6 5 (by decide);replace ac:=((((((ac.grow bd).grow a8).grow an).grow ao).grow am).grow ai).grow ah;replace ac:=ac.recol 6 5 (by decide) (by decide);have a4:X7 (Za.pair (Za.pair Za.bool (Za.row 95 (Za.int .u32))) (Za.row 95 (Za.int .u32))) 5 (Xy 6 5 ax) ba [.bool aa.1.1,.slice ap aa.1.2.length aq,.slice ar aa.2.length au] ((aa.1.1,aa.1.2),aa.2):=bq
 have br:=X7.join (X7.joinL (Zcl ab.1.1) a2.has) a3.has (by decide) (by decide);replace ae:=ae.recol 8 7 (by decide);replace af:=af.recol 8 7 (by decide);replace ag:=ag.recol 8 7 (by decide);replace ad:=ad.recol 8 7 (by decide);replace ac:=ac.recol 8 7 (by decide) (by decide);replace a4:=a4.recol 8 7 (by decide);have bs:X7 (Za.pair (Za.pair Za.bool (Za.row 95 (Za.int .u32))) (Za.row 95 (Za.int .u32))) 7 (Xy 8 7 (Xy 6 5 ax)) ba [.bool ab.1.1,.slice ay ab.1.2.length az,.slice a0 ab.2.length a1] ((ab.1.1,ab.1.2),ab.2):=br;have bt:=Wa.cons (cs:=[.bool aa.1.1,.slice ap aa.1.2.length aq,.slice ar aa.2.length au]) a4 (Wa.cons1 (cs:=[.bool ab.1.1,.slice ay ab.1.2.length az,.slice a0 ab.2.length a1]) bs Rows.nil0) (by decide) (by decide);replace ae:=ae.recol 5 7 (by decide);replace af:=af.recol 5 7 (by decide);replace ag:=ag.recol 5 7 (by decide);replace ad:=ad.recol 5 7 (by decide);replace ac:=ac.recol 5 7 (by decide) (by decide);refine Ur (col:=(Xy 5 7 (Xy 8 7 (Xy 6 5 ax)))) (r:=(Za.pair (Za.pair Za.bool (Za.row 95 (Za.int .u32))) (Za.row 95 (Za.int .u32)))) (xs:=[((aa.1.1,aa.1.2),aa.2),((ab.1.1,ab.1.2),ab.2)]) [(.agg #[.bool aa.1.1,.slice ap aa.1.2.length aq,.slice ar aa.2.length au]),(.agg #[.bool ab.1.1,.slice ay ab.1.2.length az,.slice a0 ab.2.length a1])] 7 bt ?_;intro bb b7 bu aj bv;refine Ur (col:=bu) (r:=(Za.row 39 (Za.pair (Za.pair Za.bool (Za.row 95 (Za.int .u32))) (Za.row 95 (Za.int .u32))))) (xs:=[[((aa.1.1,aa.1.2),aa.2),((ab.1.1,ab.1.2),ab.2)]]) [.slice bb ([((aa.1.1,aa.1.2),aa.2),((ab.1.1,ab.1.2),ab.2)].length) 2] 7 (Wa.cons1 (cs:=[.slice bb ([((aa.1.1,aa.1.2),aa.2),((ab.1.1,ab.1.2),ab.2)].length) 2]) bv.has Rows.nil0) ?_;intro bw b8 b9 ak a5;refine lV (.agg #[.string (⟨#[110]⟩),.slice be (([⟨#[97]⟩]:List ByteArray).length) 1,.slice bi (([([⟨#[120]⟩,⟨#[121]⟩]:List ByteArray)]:List R3).length) 1,.slice bk ([([]:List Int)].length) 1,.slice bw ([[((aa.1.1,aa.1.2),aa.2),((ab.1.1,ab.1.2),ab.2)]].length) 1]) (Wy (l:=[_,_,_,_,_]) (qs:=[(0,1),(1,1),(2,1),(3,1),(4,1)]) underlying27 zeroValue27 ⟨rfl,sizeOf9,rfl,sizeOf22,rfl,sizeOf23,rfl,sizeOf24,rfl,sizeOf25,trivial⟩ rfl) ?_;replace ad:=(ad.gr aj).gr ak;refine Z5 ad ?_;intro ca al bx bz;refine go ?_;cases hm;replace ae:=((ae.gr aj).gr ak).kp al;replace af:=((af.gr aj).gr ak).kp al;replace ag:=((ag.gr aj).gr ak).kp al;replace ac:=((ac.grow aj).grow ak).kp al bx
 replace a5:=a5.kp al;exact ⟨rfl,_,ra bz.atN,_,_,1,_,1,_,1,_,1,rfl,ac.fin (cm [(2,c1),(3,c2),(4,c3),(7,c4)]),ac.fo ae,ac.fo af,ac.fo ag,ac.fo a5⟩
def Zdc (aa:Bool):Option Bool:=
  some aa
def Zqs (N:Nat):Option Bool:=
  (Zey N 1 1).bind fun ac=>(Ze0 N (ac.1,ac.2.1,ac.2.2.1,ac.2.2.2.1,ac.2.2.2.2) [[0],[1],[1]] ((false,([]:List Int)),([]:List Int))).bind fun aa=>(Zey N 1 1).bind fun ad=>(Zqt N (ad.1,ad.2.1,ad.2.2.1,ad.2.2.2.1,ad.2.2.2.2) [[0],[1],[1]]).bind fun ah=>(Zey N 1 1).bind fun ae=>(Qh N (ae.1,ae.2.1,ae.2.2.1,ae.2.2.2.1,ae.2.2.2.2) [[0],[(-1)]]).bind fun ab=>if (decide (aa.2=0))=true then ((Zey N 1 2).bind fun af=>(Zdy N (aa.1.1,aa.1.2.1,aa.1.2.2.1,aa.1.2.2.2.1,aa.1.2.2.2.2) (af.1,af.2.1,af.2.2.1,af.2.2.2.1,af.2.2.2.2)).bind fun aj=>if aj=true then (if (decide (ah.2=0))=true then ((Zjr N 1 12).bind fun ai=>(Zbr N ((ah.1.1.1,ah.1.1.2),ah.1.2) ((ai.1.1,ai.1.2),ai.2)).bind fun ak=>if (decide (ak=0))=true then (if (decide (ab.2=0))=true then ((Zey N 3 1).bind fun ag=>(Zdy N (ab.1.1,ab.1.2.1,ab.1.2.2.1,ab.1.2.2.2.1,ab.1.2.2.2.2) (ag.1,ag.2.1,ag.2.2.1,ag.2.2.2.1,ag.2.2.2.2)).bind fun al=>Zdc al) else (Zdc false)) else (Zdc false)) else (Zdc false)) else (Zdc false)) else (Zdc false)
theorem Z3q (N:Nat) (col:Ze) (w0:World) (r:Bool) (hm:Zqs N=some r):
    Calls prog 18 #[] w0 (fun e w'=>e= .returned ((.bool r))∧Below w0.heap.size w0 w'):=by
 refine Xl 0 (m:=59) func18 rfl rfl rfl rfl rfl ?_;rw [Zqs.eq_1] at hm;have aa:=St.start col w0;refine go ?_;refine V7 (col:=(Zk col)) [0] 1 ?_;intro bz e6 dd de b0;refine V7 (col:=dd) [1] 2 ?_;intro b1 e7 df c8 b2;refine V7 (col:=df) [1] 3 ?_;intro b3 b4 bv b5 dg;replace b0:=(b0.gr c8).gr b5;have b6:X7 (Za.row 3 (Za.int .i64)) 1 bv b4 [.slice bz ([0].length) 1] [0]:=b0.has;replace b2:=b2.gr b5;have dh:X7 (Za.row 3 (Za.int .i64)) 2 bv b4 [.slice b1 ([1].length) 1] [1]:=b2.has;have di:X7 (Za.row 3 (Za.int .i64)) 3 bv b4 [.slice b3 ([1].length) 1] [1]:=dg.has;have dj:=Wa.cons (cs:=[.slice b1 ([1].length) 1]) dh (Wa.cons1 (cs:=[.slice b3 ([1].length) 1]) di Rows.nil0) (by decide) (by decide);replace b6:=b6.recol 2 3 (by decide);replace aa:=((aa.grow de).grow c8).grow b5;replace aa:=aa.recol 2 3 (by decide) (by decide);have dl:=Wa.cons (cs:=[.slice bz ([0].length) 1]) b6 dj (by decide) (by decide);replace aa:=aa.recol 1 3 (by decide) (by decide);refine Ur (col:=(Xy 1 3 (Xy 2 3 bv))) (r:=(Za.row 3 (Za.int .i64))) (xs:=[[0],[1],[1]]) [.slice bz ([0].length) 1,.slice b1 ([1].length) 1,.slice b3 ([1].length) 1] 3 dl ?_;intro e8 e9 dm dn bm;refine go ?_;obtain ⟨fa,dp,hm⟩:=bZ hm;refine Zj (Zjb (col:=dm) 4 5 6 7 dp) ?_;rintro _ dq ⟨bn,fb,fc,fd,fe,ff,fg,fh,fi,rfl,c9,dr,ds,dt,du⟩;refine ⟨_,rfl,?_⟩;refine Y2 rfl<|lV (.agg #[.bool false,.slice none (([]:List Int).length) 0,.slice none (([]:List Int).length) 0]) (Wy (l:=[_,_]) (qs:=[(0,2),(2,1)]) underlying39 zeroValue39 ⟨rfl,sizeOf37,rfl,sizeOf35,trivial⟩ rfl) ?_;obtain ⟨ac,dv,hm⟩:=bZ hm;replace bm:=bm.gr c9;refine Zj (Zt0 8 9 10 11 dv (((((dr.toSlF Zd.str).froz 5).froz 6).froz 7).froz 3) (((((ds.froz 4 (by decide)).toSlF (Zd.row Zd.str)).froz 6).froz 7).froz 3) (((((dt.froz 4 (by decide)).froz 5 (by decide)).toSlF (Zd.row (Zd.int .i64))).froz 7).froz 3) (((((du.froz 4 (by decide)).froz 5 (by decide)).froz 6 (by decide)).toSlF (Zd.row (Zd.pair (Zd.pair Zd.bool (Zd.row (Zd.int .u32))) (Zd.row (Zd.int .u32))))).froz 3) (((((bm.froz 4 (by decide)).froz 5 (by decide)).froz 6 (by decide)).froz 7 (by decide)).toSlF (Zd.row (Zd.int .i64))) Sl.nil Sl.nil) ?_
 rintro _ fj ⟨dw,b7,b8,b9,ca,cb,cc,cd,ce,rfl,a7,an,ao,ap,aq⟩;refine ⟨_,rfl,?_⟩;replace an:=an.thaw Zcx a7 ((((((Fz.refl (col:=bn)).froz 4).froz 5).froz 6).froz 7).froz 3) (by decide);replace ao:=ao.thaw (V6 Zcx) a7 ((((((Fz.refl (col:=bn)).froz 4).froz 5).froz 6).froz 7).froz 3) (by decide);replace ap:=ap.thaw (V6 (Z7 .i64)) a7 ((((((Fz.refl (col:=bn)).froz 4).froz 5).froz 6).froz 7).froz 3) (by decide);replace aq:=aq.thaw (V6 (Zcw (Zcw Zmh (V6 (Z7 .u32))) (V6 (Z7 .u32)))) a7 ((((((Fz.refl (col:=bn)).froz 4).froz 5).froz 6).froz 7).froz 3) (by decide);replace a7:=a7.thawR (col:=bn);generalize Xj dq.heap.size bn dw=dx at *;refine lM (.tuple #[(.agg #[.string ac.1.1,.slice b7 ac.1.2.1.length b8,.slice b9 ac.1.2.2.1.length ca,.slice cb ac.1.2.2.2.1.length cc,.slice cd ac.1.2.2.2.2.length ce]),.int .i64 ac.2])<|lV (.agg #[.string ac.1.1,.slice b7 ac.1.2.1.length b8,.slice b9 ac.1.2.2.1.length ca,.slice cb ac.1.2.2.2.1.length cc,.slice cd ac.1.2.2.2.2.length ce]) (Xx rfl rfl)<|lV (.int .i64 ac.2) (Xx rfl rfl)<|Xr (col:=dx) #[.string (⟨#[]⟩),.slice none (([]:List ByteArray).length) 0,.slice none (([]:List R3).length) 0,.slice none (([]:List R2).length) 0,(.slice none (([]:List R4).length) 0)] 12 zeroValue27 ?_;intro fk fl dy bo dz;refine Z5 dz ?_;intro fm bp d0 ba;refine go ?_;obtain ⟨fn,d1,hm⟩:=bZ hm;refine Zj (Zjb (col:=dy) 13 14 15 16 d1) ?_;rintro _ d2 ⟨bw,fp,fq,fr,ft,fu,fv,fw,fx,rfl,bb,d3,d4,d5,d6⟩;refine ⟨_,rfl,?_⟩;refine Y2 rfl ?_;obtain ⟨ad,d7,hm⟩:=bZ hm;replace bm:=(((bm.gr a7).gr bo).kp bp).gr bb;refine Zj (Z3t 17 18 d7 (((((d3.toSlF Zd.str).froz 14).froz 15).froz 16).froz 3) (((((d4.froz 13 (by decide)).toSlF (Zd.row Zd.str)).froz 15).froz 16).froz 3) (((((d5.froz 13 (by decide)).froz 14 (by decide)).toSlF (Zd.row (Zd.int .i64))).froz 16).froz 3) (((((d6.froz 13 (by decide)).froz 14 (by decide)).froz 15 (by decide)).toSlF (Zd.row (Zd.pair (Zd.pair Zd.bool (Zd.row (Zd.int .u32))) (Zd.row (Zd.int .u32))))).froz 3) (((((bm.froz 13 (by decide)).froz 14 (by decide)).froz 15 (by decide)).froz 16 (by decide)).toSlF (Zd.row (Zd.int .i64)))) ?_
 rintro _ fy ⟨d8,cf,cg,ch,ci,rfl,az,ae,af⟩;refine ⟨_,rfl,?_⟩;replace ae:=ae.thaw (Z7 .u32) az ((((((Fz.refl (col:=bw)).froz 13).froz 14).froz 15).froz 16).froz 3) (by decide);replace af:=af.thaw (Z7 .u32) az ((((((Fz.refl (col:=bw)).froz 13).froz 14).froz 15).froz 16).froz 3) (by decide);replace az:=az.thawR (col:=bw);generalize Xj d2.heap.size bw d8=d9 at *;refine lM (.tuple #[(.agg #[.bool ad.1.1.1,.slice cf ad.1.1.2.length cg,.slice ch ad.1.2.length ci]),.int .i64 ad.2])<|lV (.agg #[.bool ad.1.1.1,.slice cf ad.1.1.2.length cg,.slice ch ad.1.2.length ci]) (Xx rfl rfl)<|lV (.int .i64 ad.2) (Xx rfl rfl)<|Xr (col:=d9) #[.bool false,.slice none (([]:List Int).length) 0,.slice none (([]:List Int).length) 0] 19 zeroValue39 ?_;intro fz f0 ea a8 eb;refine Z5 eb ?_;intro f1 a9 ec ay;refine go ?_;obtain ⟨f2,ed,hm⟩:=bZ hm;refine Zj (Zjb (col:=ea) 20 21 22 23 ed) ?_;rintro _ f3 ⟨ee,f4,f5,f6,f7,f8,f9,ga,gb,rfl,a2,bc,bd,be,bf⟩;refine ⟨_,rfl,?_⟩;refine V7 (col:=ee) [0] 24 ?_;intro cj gc ef ar ck;refine V7 (col:=ef) [(-1)] 25 ?_;intro cl da cn al eg;replace ck:=ck.gr al;have eh:X7 (Za.row 3 (Za.int .i64)) 24 cn da [.slice cj ([0].length) 1] [0]:=ck.has;have ei:X7 (Za.row 3 (Za.int .i64)) 25 cn da [.slice cl ([(-1)].length) 1] [(-1)]:=eg.has;have ej:=Wa.cons (cs:=[.slice cj ([0].length) 1]) eh (Wa.cons1 (cs:=[.slice cl ([(-1)].length) 1]) ei Rows.nil0) (by decide) (by decide);replace an:=((((((((an.gr bo).kp bp).gr bb).gr az).gr a8).kp a9).gr a2).gr ar).gr al;replace an:=an.recol 24 25 (by decide);replace ao:=((((((((ao.gr bo).kp bp).gr bb).gr az).gr a8).kp a9).gr a2).gr ar).gr al;replace ao:=ao.recol 24 25 (by decide);replace ap:=((((((((ap.gr bo).kp bp).gr bb).gr az).gr a8).kp a9).gr a2).gr ar).gr al;replace ap:=ap.recol 24 25 (by decide);replace aq:=((((((((aq.gr bo).kp bp).gr bb).gr az).gr a8).kp a9).gr a2).gr ar).gr al;replace aq:=aq.recol 24 25 (by decide);replace ae:=((((ae.gr a8).kp a9).gr a2).gr ar).gr al;replace ae:=ae.recol 24 25 (by decide);replace af:=((((af.gr a8).kp a9).gr a2).gr ar).gr al;replace af:=af.recol 24 25 (by decide);replace bc:=(bc.gr ar).gr al;replace bc:=bc.recol 24 25 (by decide)
 replace bd:=(bd.gr ar).gr al;replace bd:=bd.recol 24 25 (by decide);replace be:=(be.gr ar).gr al;replace be:=be.recol 24 25 (by decide);replace bf:=(bf.gr ar).gr al;replace bf:=bf.recol 24 25 (by decide);replace ba:=((((((ba.gr bb).gr az).gr a8).kp a9).gr a2).gr ar).gr al;replace ba:=ba.recol 24 25 (by decide);replace ay:=((ay.gr a2).gr ar).gr al;replace ay:=ay.recol 24 25 (by decide);replace aa:=(((((((((((aa.grow dn).grow c9).grow a7).grow bo).kp bp d0).grow bb).grow az).grow a8).kp a9 ec).grow a2).grow ar).grow al;replace aa:=aa.recol 24 25 (by decide) (by decide);refine Ur (col:=(Xy 24 25 cn)) (r:=(Za.row 3 (Za.int .i64))) (xs:=[[0],[(-1)]]) [.slice cj ([0].length) 1,.slice cl ([(-1)].length) 1] 25 ej ?_;intro gd ek bq au el;obtain ⟨ab,em,hm⟩:=bZ hm;replace bc:=bc.gr au;replace bd:=bd.gr au;replace be:=be.gr au;replace bf:=bf.gr au;refine Zj (Zt1 26 27 28 29 em (((((bc.toSlF Zd.str).froz 21).froz 22).froz 23).froz 25) (((((bd.froz 20 (by decide)).toSlF (Zd.row Zd.str)).froz 22).froz 23).froz 25) (((((be.froz 20 (by decide)).froz 21 (by decide)).toSlF (Zd.row (Zd.int .i64))).froz 23).froz 25) (((((bf.froz 20 (by decide)).froz 21 (by decide)).froz 22 (by decide)).toSlF (Zd.row (Zd.pair (Zd.pair Zd.bool (Zd.row (Zd.int .u32))) (Zd.row (Zd.int .u32))))).froz 25) (((((el.froz 20 (by decide)).froz 21 (by decide)).froz 22 (by decide)).froz 23 (by decide)).toSlF (Zd.row (Zd.int .i64)))) ?_;rintro _ ge ⟨en,co,cp,cq,cr,ct,cu,cv,cw,rfl,ak,ag,ah,ai,aj⟩;refine ⟨_,rfl,?_⟩;replace ag:=ag.thaw Zcx ak ((((((Fz.refl (col:=bq)).froz 20).froz 21).froz 22).froz 23).froz 25) (by decide);replace ah:=ah.thaw (V6 Zcx) ak ((((((Fz.refl (col:=bq)).froz 20).froz 21).froz 22).froz 23).froz 25) (by decide);replace ai:=ai.thaw (V6 (Z7 .i64)) ak ((((((Fz.refl (col:=bq)).froz 20).froz 21).froz 22).froz 23).froz 25) (by decide);replace aj:=aj.thaw (V6 (Zcw (Zcw Zmh (V6 (Z7 .u32))) (V6 (Z7 .u32)))) ak ((((((Fz.refl (col:=bq)).froz 20).froz 21).froz 22).froz 23).froz 25) (by decide);replace ak:=ak.thawR (col:=bq);generalize Xj ek.heap.size bq en=eo at *
 refine lM (.tuple #[(.agg #[.string ab.1.1,.slice co ab.1.2.1.length cp,.slice cq ab.1.2.2.1.length cr,.slice ct ab.1.2.2.2.1.length cu,.slice cv ab.1.2.2.2.2.length cw]),.int .i64 ab.2])<|lV (.agg #[.string ab.1.1,.slice co ab.1.2.1.length cp,.slice cq ab.1.2.2.1.length cr,.slice ct ab.1.2.2.2.1.length cu,.slice cv ab.1.2.2.2.2.length cw]) (Xx rfl rfl)<|lV (.int .i64 ab.2) (Xx rfl rfl)<|Xr (col:=eo) #[.string (⟨#[]⟩),.slice none (([]:List ByteArray).length) 0,.slice none (([]:List R3).length) 0,.slice none (([]:List R2).length) 0,(.slice none (([]:List R4).length) 0)] 30 zeroValue27 ?_;intro gf gg bt av ep;refine Z5 ep ?_;intro gh aw eq a3;refine Y7 rfl<|Zl<|Z0 ?_;replace an:=(((an.gr au).gr ak).gr av).kp aw;replace ao:=(((ao.gr au).gr ak).gr av).kp aw;replace ap:=(((ap.gr au).gr ak).gr av).kp aw;replace aq:=(((aq.gr au).gr ak).gr av).kp aw;replace ae:=(((ae.gr au).gr ak).gr av).kp aw;replace af:=(((af.gr au).gr ak).gr av).kp aw;replace ba:=(((ba.gr au).gr ak).gr av).kp aw;replace ay:=(((ay.gr au).gr ak).gr av).kp aw;replace aa:=(((aa.grow au).grow ak).grow av).kp aw eq;replace ag:=(ag.gr av).kp aw;replace ah:=(ah.gr av).kp aw;replace ai:=(ai.gr av).kp aw;replace aj:=(aj.gr av).kp aw;refine Wp.cutK [1000000] (fun f db=>∃ dc cx,Zdc cx=some r∧St w0 (Zk col) dc db∧[0].map f=[.bool cx]) ?_ ?_
 ·intro f db hJ;obtain ⟨dc,cx,hm,aa,hs⟩:=hJ;rw [Zdc.eq_1] at hm;refine .lL [0] hs<|Vv ?_;cases hm;exact ⟨rfl,rfl,aa.below⟩
 refine W7 (col:=bt) [(0,1),(1,1),(2,1),(3,0),(4,3),(5,3),(6,1),(7,1),(8,1),(9,1),(10,1),(11,1),(12,0),(13,3),(14,3),(15,1),(16,1),(17,1),(18,1),(19,1),(20,1),(21,1),(22,0),(23,3),(24,3),(25,1),(26,1)] (by kernel_rfl) (by kernel_rfl)<|xu rfl rfl (fun _=>Y4 rfl) ?_;refine xu rfl rfl (fun _=>Ziq _ _ rfl rfl) ?_;refine xu rfl rfl (fun _=>Tg rfl) ?_;refine Yt hm (fun bg hm=>?_) fun bg hm=>?_
 ·refine Zo9 (v:=(.agg #[.string ac.1.1,.slice b7 ac.1.2.1.length b8,.slice b9 ac.1.2.2.1.length ca,.slice cb ac.1.2.2.2.1.length cc,.slice cd ac.1.2.2.2.2.length ce])) (b:=decide (ac.2=0)) 35 rfl rfl rfl rfl rfl (by rw [bg];rfl) (fun _ hC=>W4 isAgg27 sizeOf27 rfl rfl (ba.atN.gr (hC.bl bt))) ?_;refine xe rfl rfl ?_;intro gi hC0;have hC:=hC0.bl bt;refine go ?_;obtain ⟨gj,er,hm⟩:=bZ hm;refine Zj (Zjb (col:=bt) 51 52 53 54 er) ?_;rintro _ gk ⟨a0,gl,gm,gp,gs,gt,gu,gv,gw,rfl,am,cy,cz,c0,c1⟩;refine ⟨_,rfl,?_⟩;refine Zl<|Xz a0 hC0 am<|xe rfl rfl ?_;intro es hC0;replace ae:=(ae.gr hC).gr am;replace af:=(af.gr hC).gr am;replace ag:=(ag.gr hC).gr am;replace ah:=(ah.gr hC).gr am;replace ai:=(ai.gr hC).gr am;replace aj:=(aj.gr hC).gr am;replace an:=(an.gr hC).gr am;replace ao:=(ao.gr hC).gr am;replace ap:=(ap.gr hC).gr am;replace aq:=(aq.gr hC).gr am;replace ay:=(ay.gr hC).gr am;replace a3:=(a3.gr hC).gr am;replace aa:=(aa.grow hC).grow am;have hC:=hC0.bl a0;refine go ?_;obtain ⟨bu,et,hm⟩:=bZ hm;replace an:=an.gr hC;replace ao:=ao.gr hC;replace ap:=ap.gr hC;replace aq:=aq.gr hC;replace cy:=cy.gr hC;replace cz:=cz.gr hC;replace c0:=c0.gr hC;replace c1:=c1.gr hC
  refine Zj (Zpv et ((((((((an.toSlF Zd.str).froz 9).froz 10).froz 11).froz 51).froz 52).froz 53).froz 54) ((((((((ao.froz 8 (by decide)).toSlF (Zd.row Zd.str)).froz 10).froz 11).froz 51).froz 52).froz 53).froz 54) ((((((((ap.froz 8 (by decide)).froz 9 (by decide)).toSlF (Zd.row (Zd.int .i64))).froz 11).froz 51).froz 52).froz 53).froz 54) ((((((((aq.froz 8 (by decide)).froz 9 (by decide)).froz 10 (by decide)).toSlF (Zd.row (Zd.pair (Zd.pair Zd.bool (Zd.row (Zd.int .u32))) (Zd.row (Zd.int .u32))))).froz 51).froz 52).froz 53).froz 54) ((((((((cy.froz 8 (by decide)).froz 9 (by decide)).froz 10 (by decide)).froz 11 (by decide)).toSlF Zd.str).froz 52).froz 53).froz 54) ((((((((cz.froz 8 (by decide)).froz 9 (by decide)).froz 10 (by decide)).froz 11 (by decide)).froz 51 (by decide)).toSlF (Zd.row Zd.str)).froz 53).froz 54) ((((((((c0.froz 8 (by decide)).froz 9 (by decide)).froz 10 (by decide)).froz 11 (by decide)).froz 51 (by decide)).froz 52 (by decide)).toSlF (Zd.row (Zd.int .i64))).froz 54) ((((((((c1.froz 8 (by decide)).froz 9 (by decide)).froz 10 (by decide)).froz 11 (by decide)).froz 51 (by decide)).froz 52 (by decide)).froz 53 (by decide)).toSlF (Zd.row (Zd.pair (Zd.pair Zd.bool (Zd.row (Zd.int .u32))) (Zd.row (Zd.int .u32)))))) ?_;rintro _ eu ⟨rfl,ax⟩;refine ⟨_,rfl,?_⟩;replace ax:Zh a0 es a0 eu:=.of_below ax;refine Zl<|Xz a0 hC0 ax<|xu (v:=(.bool bu)) rfl rfl (fun _=>Yf (congrArg Value.bool bg) rfl) ?_;refine xu rfl rfl (fun _=>Tg rfl) ?_;replace ae:=(ae.gr hC).gr ax;replace af:=(af.gr hC).gr ax;replace ag:=(ag.gr hC).gr ax;replace ah:=(ah.gr hC).gr ax;replace ai:=(ai.gr hC).gr ax;replace aj:=(aj.gr hC).gr ax;replace ay:=(ay.gr hC).gr ax;replace a3:=(a3.gr hC).gr ax;replace aa:=(aa.grow hC).grow ax;refine Yt hm (fun bh hm=>?_) fun bh hm=>?_
  ·refine Ziy (v:=(.int .i64 ad.2)) (b:=bu) 40 rfl rfl rfl rfl rfl (by rw [bh];rfl) (fun _=>V3 rfl) ?_;refine Ziy (v:=(.bool (decide (ad.2=0)))) (b:=bu) 40 rfl rfl rfl rfl rfl (by rw [bh];rfl) (fun _=>Ziq ad.2 0 rfl rfl) ?_;refine xu (v:=(.bool (decide (ad.2=0)))) rfl rfl (fun _=>Yf (congrArg Value.bool bh) rfl) ?_;refine xu rfl rfl (fun _=>Tg rfl) ?_;refine Yt hm (fun a4 hm=>?_) fun a4 hm=>?_
   ·refine Zo9 (v:=(.agg #[.bool ad.1.1.1,.slice cf ad.1.1.2.length cg,.slice ch ad.1.2.length ci])) (b:=decide (ad.2=0)) 44 rfl rfl rfl rfl rfl (by rw [a4];rfl) (fun _ hC=>W4 isAgg39 sizeOf39 rfl rfl (ay.atN.gr (hC.bl a0))) ?_;refine xe rfl rfl ?_;intro gx hC0;have hC:=hC0.bl a0;refine go ?_;obtain ⟨gy,ew,hm⟩:=bZ hm;refine Zj (Zpn (col:=a0) 55 56 ew) ?_;rintro _ gz ⟨a1,g0,g1,g2,g3,rfl,a5,c2,c3⟩;refine ⟨_,rfl,?_⟩;refine Zl<|Xz a1 hC0 a5<|xe rfl rfl ?_;intro ey hC0;replace ag:=(ag.gr hC).gr a5;replace ah:=(ah.gr hC).gr a5;replace ai:=(ai.gr hC).gr a5;replace aj:=(aj.gr hC).gr a5;replace ae:=(ae.gr hC).gr a5;replace af:=(af.gr hC).gr a5;replace a3:=(a3.gr hC).gr a5;replace aa:=(aa.grow hC).grow a5;have hC:=hC0.bl a1;refine go ?_;obtain ⟨bi,ez,hm⟩:=bZ hm;replace ae:=ae.gr hC;replace af:=af.gr hC;replace c2:=c2.gr hC;replace c3:=c3.gr hC;refine Zj (Zl6 ez ((((ae.toSlF (Zd.int .u32)).froz 18).froz 55).froz 56) ((((af.froz 17 (by decide)).toSlF (Zd.int .u32)).froz 55).froz 56) ((((c2.froz 17 (by decide)).froz 18 (by decide)).toSlF (Zd.int .u32)).froz 56) ((((c3.froz 17 (by decide)).froz 18 (by decide)).froz 55 (by decide)).toSlF (Zd.int .u32))) ?_;rintro _ e0 ⟨rfl,a6⟩;refine ⟨_,rfl,?_⟩;replace a6:Zh a1 ey a1 e0:=.of_below a6;refine Zl<|Xz a1 hC0 a6<|Ziy (v:=(.bool (decide (bi=0)))) (b:=decide (ad.2=0)) 44 rfl rfl rfl rfl rfl (by rw [a4];rfl) (fun _=>Ziq bi 0 rfl rfl) ?_;refine xu (v:=(.bool (decide (bi=0)))) rfl rfl (fun _=>Yf (congrArg Value.bool a4) rfl) ?_;refine xu rfl rfl (fun _=>Tg rfl) ?_;replace ag:=(ag.gr hC).gr a6;replace ah:=(ah.gr hC).gr a6;replace ai:=(ai.gr hC).gr a6;replace aj:=(aj.gr hC).gr a6;replace a3:=(a3.gr hC).gr a6;replace aa:=(aa.grow hC).grow a6;refine Yt hm (fun bj hm=>?_) fun bj hm=>?_
    ·refine Ziy (v:=(.int .i64 ab.2)) (b:=decide (bi=0)) 50 rfl rfl rfl rfl rfl (by rw [bj];rfl) (fun _=>V3 rfl) ?_;refine Ziy (v:=(.bool (decide (ab.2=0)))) (b:=decide (bi=0)) 50 rfl rfl rfl rfl rfl (by rw [bj];rfl) (fun _=>Ziq ab.2 0 rfl rfl) ?_;refine xu (v:=(.bool (decide (ab.2=0)))) rfl rfl (fun _=>Yf (congrArg Value.bool bj) rfl) ?_;refine xu rfl rfl (fun _=>Tg rfl) ?_;refine Yt hm (fun bk hm=>?_) fun bk hm=>?_
     ·refine Zo9 (v:=(.agg #[.string ab.1.1,.slice co ab.1.2.1.length cp,.slice cq ab.1.2.2.1.length cr,.slice ct ab.1.2.2.2.1.length cu,.slice cv ab.1.2.2.2.2.length cw])) (b:=decide (ab.2=0)) 54 rfl rfl rfl rfl rfl (by rw [bk];rfl) (fun _ hC=>W4 isAgg27 sizeOf27 rfl rfl (a3.atN.gr (hC.bl a1))) ?_;refine xe rfl rfl ?_;intro g4 hC0;have hC:=hC0.bl a1;refine go ?_;obtain ⟨g5,e1,hm⟩:=bZ hm;refine Zj (Zjb (col:=a1) 57 58 59 60 e1) ?_;rintro _ g6 ⟨br,g7,g8,g9,ha,hb,hc,hd,he,rfl,bs,c4,c5,c6,c7⟩;refine ⟨_,rfl,?_⟩;refine Zl<|Xz br hC0 bs<|xe rfl rfl ?_;intro e2 hC0;replace ag:=(ag.gr hC).gr bs;replace ah:=(ah.gr hC).gr bs;replace ai:=(ai.gr hC).gr bs;replace aj:=(aj.gr hC).gr bs;replace aa:=(aa.grow hC).grow bs;have hC:=hC0.bl br;refine go ?_;obtain ⟨e3,e4,hm⟩:=bZ hm;replace ag:=ag.gr hC;replace ah:=ah.gr hC;replace ai:=ai.gr hC;replace aj:=aj.gr hC;replace c4:=c4.gr hC;replace c5:=c5.gr hC;replace c6:=c6.gr hC;replace c7:=c7.gr hC
      refine Zj (Zpv e4 ((((((((ag.toSlF Zd.str).froz 27).froz 28).froz 29).froz 57).froz 58).froz 59).froz 60) ((((((((ah.froz 26 (by decide)).toSlF (Zd.row Zd.str)).froz 28).froz 29).froz 57).froz 58).froz 59).froz 60) ((((((((ai.froz 26 (by decide)).froz 27 (by decide)).toSlF (Zd.row (Zd.int .i64))).froz 29).froz 57).froz 58).froz 59).froz 60) ((((((((aj.froz 26 (by decide)).froz 27 (by decide)).froz 28 (by decide)).toSlF (Zd.row (Zd.pair (Zd.pair Zd.bool (Zd.row (Zd.int .u32))) (Zd.row (Zd.int .u32))))).froz 57).froz 58).froz 59).froz 60) ((((((((c4.froz 26 (by decide)).froz 27 (by decide)).froz 28 (by decide)).froz 29 (by decide)).toSlF Zd.str).froz 58).froz 59).froz 60) ((((((((c5.froz 26 (by decide)).froz 27 (by decide)).froz 28 (by decide)).froz 29 (by decide)).froz 57 (by decide)).toSlF (Zd.row Zd.str)).froz 59).froz 60) ((((((((c6.froz 26 (by decide)).froz 27 (by decide)).froz 28 (by decide)).froz 29 (by decide)).froz 57 (by decide)).froz 58 (by decide)).toSlF (Zd.row (Zd.int .i64))).froz 60) ((((((((c7.froz 26 (by decide)).froz 27 (by decide)).froz 28 (by decide)).froz 29 (by decide)).froz 57 (by decide)).froz 58 (by decide)).froz 59 (by decide)).toSlF (Zd.row (Zd.pair (Zd.pair Zd.bool (Zd.row (Zd.int .u32))) (Zd.row (Zd.int .u32)))))) ?_;rintro _ e5 ⟨rfl,bx⟩;refine ⟨_,rfl,?_⟩;replace bx:Zh br e2 br e5:=.of_below bx;refine Zl<|Xz br hC0 bx<|xu (v:=(.bool e3)) rfl rfl (fun _=>Yf (congrArg Value.bool bk) rfl) ?_;refine xu rfl rfl (fun _=>Zd8 rfl) ?_;refine Wi ?_;replace aa:=(aa.grow hC).grow bx;intro hf hC;replace hC:=hC.bl br;replace aa:=aa.grow hC;exact ⟨rfl,_,_,hm,aa,rfl⟩
     refine Yr (b:=decide (ab.2=0)) 54 rfl rfl rfl rfl rfl (by rw [bk];rfl)<|Yr (b:=decide (ab.2=0)) 54 rfl rfl rfl rfl rfl (by rw [bk];rfl)<|Yr (b:=decide (ab.2=0)) 54 rfl rfl rfl rfl rfl (by rw [bk];rfl)<|xu (v:=(.bool false)) rfl rfl (fun _=>X8 (congrArg Value.bool bk) rfl) ?_;refine xu rfl rfl (fun _=>Zd8 rfl) ?_;refine Wi ?_;intro hg hC;replace hC:=hC.bl a1;replace aa:=aa.grow hC;exact ⟨rfl,_,_,hm,aa,rfl⟩
    refine Yr (b:=decide (bi=0)) 50 rfl rfl rfl rfl rfl (by rw [bj];rfl)<|Yr (b:=decide (bi=0)) 50 rfl rfl rfl rfl rfl (by rw [bj];rfl)<|xu (v:=(.bool false)) rfl rfl (fun _=>X8 (congrArg Value.bool bj) rfl) ?_;refine xu rfl rfl (fun _=>Tg rfl) ?_;refine Yr (b:=false) 54 rfl rfl rfl rfl rfl rfl<|Yr (b:=false) 54 rfl rfl rfl rfl rfl rfl<|Yr (b:=false) 54 rfl rfl rfl rfl rfl rfl<|xu (v:=(.bool false)) rfl rfl (fun _=>X8 rfl rfl) ?_;refine xu rfl rfl (fun _=>Zd8 rfl) ?_;refine Wi ?_;intro hh hC;replace hC:=hC.bl a1;replace aa:=aa.grow hC;exact ⟨rfl,_,_,hm,aa,rfl⟩
   refine Yr (b:=decide (ad.2=0)) 44 rfl rfl rfl rfl rfl (by rw [a4];rfl)<|Yr (b:=decide (ad.2=0)) 44 rfl rfl rfl rfl rfl (by rw [a4];rfl)<|Yr (b:=decide (ad.2=0)) 44 rfl rfl rfl rfl rfl (by rw [a4];rfl)<|Yr (b:=decide (ad.2=0)) 44 rfl rfl rfl rfl rfl (by rw [a4];rfl)<|xu (v:=(.bool false)) rfl rfl (fun _=>X8 (congrArg Value.bool a4) rfl) ?_;refine xu rfl rfl (fun _=>Tg rfl) ?_;refine Yr (b:=false) 50 rfl rfl rfl rfl rfl rfl<|Yr (b:=false) 50 rfl rfl rfl rfl rfl rfl<|xu (v:=(.bool false)) rfl rfl (fun _=>X8 rfl rfl) ?_;refine xu rfl rfl (fun _=>Tg rfl) ?_;refine Yr (b:=false) 54 rfl rfl rfl rfl rfl rfl<|Yr (b:=false) 54 rfl rfl rfl rfl rfl rfl<|Yr (b:=false) 54 rfl rfl rfl rfl rfl rfl<|xu (v:=(.bool false)) rfl rfl (fun _=>X8 rfl rfl) ?_;refine xu rfl rfl (fun _=>Zd8 rfl) ?_;refine Wi ?_;intro hi hC;replace hC:=hC.bl a0;replace aa:=aa.grow hC;exact ⟨rfl,_,_,hm,aa,rfl⟩
  refine Yr (b:=bu) 40 rfl rfl rfl rfl rfl (by rw [bh];rfl)<|Yr (b:=bu) 40 rfl rfl rfl rfl rfl (by rw [bh];rfl)<|xu (v:=(.bool false)) rfl rfl (fun _=>X8 (congrArg Value.bool bh) rfl) ?_;refine xu rfl rfl (fun _=>Tg rfl) ?_;refine Yr (b:=false) 44 rfl rfl rfl rfl rfl rfl<|Yr (b:=false) 44 rfl rfl rfl rfl rfl rfl<|Yr (b:=false) 44 rfl rfl rfl rfl rfl rfl<|Yr (b:=false) 44 rfl rfl rfl rfl rfl rfl<|xu (v:=(.bool false)) rfl rfl (fun _=>X8 rfl rfl) ?_;refine xu rfl rfl (fun _=>Tg rfl) ?_;refine Yr (b:=false) 50 rfl rfl rfl rfl rfl rfl<|Yr (b:=false) 50 rfl rfl rfl rfl rfl rfl<|xu (v:=(.bool false)) rfl rfl (fun _=>X8 rfl rfl) ?_;refine xu rfl rfl (fun _=>Tg rfl) ?_;refine Yr (b:=false) 54 rfl rfl rfl rfl rfl rfl<|Yr (b:=false) 54 rfl rfl rfl rfl rfl rfl<|Yr (b:=false) 54 rfl rfl rfl rfl rfl rfl<|xu (v:=(.bool false)) rfl rfl (fun _=>X8 rfl rfl) ?_;refine xu rfl rfl (fun _=>Zd8 rfl) ?_;refine Wi ?_;intro hj hC;replace hC:=hC.bl a0;replace aa:=aa.grow hC;exact ⟨rfl,_,_,hm,aa,rfl⟩
 refine Yr (b:=decide (ac.2=0)) 35 rfl rfl rfl rfl rfl (by rw [bg];rfl)<|Yr (b:=decide (ac.2=0)) 35 rfl rfl rfl rfl rfl (by rw [bg];rfl)<|Yr (b:=decide (ac.2=0)) 35 rfl rfl rfl rfl rfl (by rw [bg];rfl)<|xu (v:=(.bool false)) rfl rfl (fun _=>X8 (congrArg Value.bool bg) rfl) ?_;refine xu rfl rfl (fun _=>Tg rfl) ?_;refine Yr (b:=false) 40 rfl rfl rfl rfl rfl rfl<|Yr (b:=false) 40 rfl rfl rfl rfl rfl rfl<|xu (v:=(.bool false)) rfl rfl (fun _=>X8 rfl rfl) ?_;refine xu rfl rfl (fun _=>Tg rfl) ?_;refine Yr (b:=false) 44 rfl rfl rfl rfl rfl rfl<|Yr (b:=false) 44 rfl rfl rfl rfl rfl rfl<|Yr (b:=false) 44 rfl rfl rfl rfl rfl rfl<|Yr (b:=false) 44 rfl rfl rfl rfl rfl rfl<|xu (v:=(.bool false)) rfl rfl (fun _=>X8 rfl rfl) ?_;refine xu rfl rfl (fun _=>Tg rfl) ?_;refine Yr (b:=false) 50 rfl rfl rfl rfl rfl rfl<|Yr (b:=false) 50 rfl rfl rfl rfl rfl rfl<|xu (v:=(.bool false)) rfl rfl (fun _=>X8 rfl rfl) ?_;refine xu rfl rfl (fun _=>Tg rfl) ?_;refine Yr (b:=false) 54 rfl rfl rfl rfl rfl rfl<|Yr (b:=false) 54 rfl rfl rfl rfl rfl rfl<|Yr (b:=false) 54 rfl rfl rfl rfl rfl rfl<|xu (v:=(.bool false)) rfl rfl (fun _=>X8 rfl rfl) ?_;refine xu rfl rfl (fun _=>Zd8 rfl) ?_;refine Wi ?_;intro hk hC;replace hC:=hC.bl bt;replace aa:=aa.grow hC;exact ⟨rfl,_,_,hm,aa,rfl⟩
theorem Xa1:Zqs 3000000=some true:=by decide+kernel
def Zs6:Option Bool:=some true
theorem Z66 (col:Ze) (w0:World) (r:Bool) (hm:Zs6=some r):Calls prog 18 #[] w0 (fun e w'=>e= .returned ((.bool r))∧Below w0.heap.size w0 w'):=by
 cases hm;exact Z3q 3000000 col w0 true Xa1
def Zez (N:Nat) (aa:List Int):Nat→Int→Int→Option Int
  | 0,_,_=>none
  | ae+1,ab,ac=>if (decide (ac<(aa.length:Int)))=true then ((Zm aa ac).bind fun ad=>(Zez N aa ae) (if 1000<(i64.wrap (ab * ad)) then 1000 else (i64.wrap (ab * ad))) (i64.wrap (ac+1))) else (some ab)
termination_by structural x=>x
def Zg6 (N:Nat) (aa:R0):Option Int:=
  (Zjz (aa.1,aa.2.1,aa.2.2.1,aa.2.2.2.1,aa.2.2.2.2)).bind fun ab=>Zez N ab N 1 0
theorem Z3r {N ao ap aq ar:Nat} {au av aw ax:Option Addr} {col:Ze} {w0:World} {ab:R0} {r:Int} (hm:Zg6 N ab=some r) (af:Sl Za.str col w0 au ao ab.2.1) (ag:Sl (Za.slice Za.str) col w0 av ap ab.2.2.1) (ah:Sl (Za.slice (Za.int .i64)) col w0 aw aq ab.2.2.2.1) (ai:Sl (Za.slice (Za.pair (Za.pair Za.bool (Za.slice (Za.int .u32))) (Za.slice (Za.int .u32)))) col w0 ax ar ab.2.2.2.2):
    Calls prog 29 #[(.agg #[.string ab.1,.slice au ab.2.1.length ao,.slice av ab.2.2.1.length ap,.slice aw ab.2.2.2.1.length aq,.slice ax ab.2.2.2.2.length ar])] w0 (fun e w'=>e= .returned ((.int .i64 r))∧Below w0.heap.size w0 w'):=by
 refine Xl 2 (m:=22) func29 rfl rfl rfl rfl rfl ?_;rw [Zg6.eq_1] at hm;have aa:=St.start col w0;refine go ?_;refine Xs (col:=(Zk col)) 1 rfl ?_;intro a5 a6 a7 az a0;refine go ?_;refine lV _ (Xd isAgg27 sizeOf27 a0) ?_;obtain ⟨ay,a1,hm⟩:=bZ hm;replace af:=af.keep (Zi.start col w0);replace ag:=ag.keep (Zi.start col w0);replace ah:=ah.keep (Zi.start col w0);replace ai:=ai.keep (Zi.start col w0);replace aa:=aa.grow az;refine Zj (Z3z 2 a1 (af.ks aa) (ag.ks aa) (ah.ks aa) (ai.ks aa)) ?_;rintro _ a8 ⟨a9,a2,a3,rfl,a4,ae⟩;refine ⟨_,rfl,go ?_⟩;replace aa:=aa.grow a4;refine Z4 [3,1000000] (fun n f aj=>∃ ak ac al ad,ad=n∧Zez N ay ad ac al=some r∧St w0 (Zk col) ak aj∧Zb (Za.int .i64) 3 2 ak aj a2 a3 ay∧[4,5].map f=[.int .i64 ac,.int .i64 al]) N ⟨_,1,0,_,rfl,hm,aa,ae,rfl⟩ ?_;clear hm;intro n f aj hI;obtain ⟨ak,ac,al,ad,hn,hm,aa,ae,hs⟩:=hI;subst hn;refine .lL [4,5] hs ?_
 cases ad with
 | zero=>rw [Zez.eq_1] at hm;cases hm
 | succ ad=>
  rw [Zez.eq_2] at hm;refine go ?_;refine Zq hm (fun hb hm=>go ?_) fun hb hm=>go ?_
  ·obtain ⟨am,an,hm⟩:=bZ hm;refine lI an (ae.addr an)<|lW (ae.atInt an) ?_;refine go ?_;refine lV (.int .i64 (if 1000<(i64.wrap (ac * am)) then 1000 else (i64.wrap (ac * am)))) (Zlj (i64.wrap (ac * am)) 1000 rfl rfl)<|go ?_;exact ⟨ad,by omega,rfl,⟨_,_,_,_,rfl,hm,aa,ae,rfl⟩⟩
  cases hm;exact ⟨rfl,rfl,aa.below⟩
def Zmv (aa:Bool):Option Bool:=
  some aa
def Zex (N:Nat) (ad:Bool) (ab:R0) (ae:R6) (ac:(R0×Int)) (af:Bool):Option Bool:=
  if af=true then (some false) else (if (!ad)=true then (some true) else ((Ze0 N (ab.1,ab.2.1,ab.2.2.1,ab.2.2.2.1,ab.2.2.2.2) ae ((false,([]:List Int)),([]:List Int))).bind fun aa=>if (decide (aa.2=0))=true then ((Zdy N (aa.1.1,aa.1.2.1,aa.1.2.2.1,aa.1.2.2.2.1,aa.1.2.2.2.2) (ac.1.1,ac.1.2.1,ac.1.2.2.1,ac.1.2.2.2.1,ac.1.2.2.2.2)).bind fun ag=>Zmv ag) else (Zmv false)))
def Zg5 (N:Nat) (ad:Bool) (ae:R0) (ac:R6) (ab:(R1×Int)) (aa:(R0×Int)) (ag:Bool):Option Bool:=
  if ag=true then (some false) else ((Ta N ((ab.1.1.1,ab.1.1.2),ab.1.2)).bind fun ah=>if (decide (ah=0))=true then (some (decide (aa.2=52))) else ((Tv N (aa.1.1,aa.1.2.1,aa.1.2.2.1,aa.1.2.2.2.1,aa.1.2.2.2.2) ac).bind fun af=>if (!decide (aa.2=0))=true then (Zex N ad ae ac aa true) else (if (!decide (af.2=0))=true then (Zex N ad ae ac aa true) else ((W1 N (aa.1.1,aa.1.2.1,aa.1.2.2.1,aa.1.2.2.2.1,aa.1.2.2.2.2)).bind fun ai=>if (!decide (ai=0))=true then (Zex N ad ae ac aa true) else ((Zbr N ((af.1.1.1,af.1.1.2),af.1.2) ((ab.1.1.1,ab.1.1.2),ab.1.2)).bind fun aj=>Zex N ad ae ac aa (decide (aj<0)))))))
def Zjq (N:Nat) (ab:R0) (ah:R6) (ad:Bool) (af:Bool) (aa:R0) (ai:Bool):Option Bool:=
  if ai=true then (some af) else ((Zif N (ab.1,ab.2.1,ab.2.2.1,ab.2.2.2.1,ab.2.2.2.2)).bind fun aj=>if (!aj)=true then (some false) else ((Zbu N (ab.1,ab.2.1,ab.2.2.1,ab.2.2.2.1,ab.2.2.2.2) ah ad).bind fun ac=>(Tv N (aa.1,aa.2.1,aa.2.2.1,aa.2.2.2.1,aa.2.2.2.2) ac).bind fun ae=>(Qh N (aa.1,aa.2.1,aa.2.2.1,aa.2.2.2.1,aa.2.2.2.2) ac).bind fun ag=>if (!af)=true then (Zg5 N ad aa ac ae ag true) else (Zg5 N ad aa ac ae ag (!decide (ae.2=0)))))
def Zmu (N:Nat) (ab:R0) (ac:R6) (ad:Bool):Option Bool:=
  (Zs6).bind fun ae=>(Zii N (ab.1,ab.2.1,ab.2.2.1,ab.2.2.2.1,ab.2.2.2.2)).bind fun aa=>(W1 N (aa.1,aa.2.1,aa.2.2.1,aa.2.2.2.1,aa.2.2.2.2)).bind fun af=>if (!decide (af=0))=true then (Zjq N ab ac ad ae aa true) else ((Zg6 N (aa.1,aa.2.1,aa.2.2.1,aa.2.2.2.1,aa.2.2.2.2)).bind fun ag=>Zjq N ab ac ad ae aa (decide (100<ag)))
theorem Z3p (N:Nat) (col:Ze) (w0:World) (cv:Option Addr) (cw:Nat) (cx:Option Addr) (cy:Nat) (cz:Option Addr) (c0:Nat) (c1:Option Addr) (c2:Nat) (ay:R0) (a1:Option Addr) (dh:Nat) (ck:R6) (cb:Bool) (cc:Sl Za.str col w0 cv cw ay.2.1) (cd:Sl (Za.slice Za.str) col w0 cx cy ay.2.2.1) (ce:Sl (Za.slice (Za.int .i64)) col w0 cz c0 ay.2.2.2.1) (cf:Sl (Za.slice (Za.pair (Za.pair Za.bool (Za.slice (Za.int .u32))) (Za.slice (Za.int .u32)))) col w0 c1 c2 ay.2.2.2.2) (h1:Sl (Za.slice (Za.int .i64)) col w0 a1 dh ck) (r:Bool) (hm:Zmu N ay ck cb=some r):
    Calls prog 6 #[(.agg #[.string ay.1,.slice cv ay.2.1.length cw,.slice cx ay.2.2.1.length cy,.slice cz ay.2.2.2.1.length c0,.slice c1 ay.2.2.2.2.length c2]),.slice a1 ck.length dh,.bool cb] w0 (fun e w'=>e= .returned ((.bool r))∧Below w0.heap.size w0 w'):=by
 refine Xl 6 (m:=99) func6 rfl rfl rfl rfl rfl ?_;rw [Zmu.eq_1] at hm;have aa:=St.start col w0;refine go ?_;refine Xs (col:=(Zk col)) 1 rfl ?_;intro d7 d8 c3 d9 az;refine go ?_;obtain ⟨di,ea,hm⟩:=bZ hm;refine lc rfl rfl (Zip call18) (Z66 c3 _ di ea) ?_;rintro _ eb ⟨rfl,cl⟩;refine ⟨_,rfl,?_⟩;replace cl:Zh c3 d8 c3 eb:=.of_below cl;refine go ?_;replace az:=az.gr cl;refine lV _ (Xd isAgg27 sizeOf27 az) ?_;obtain ⟨ah,ec,hm⟩:=bZ hm;replace cc:=cc.keep (Zi.start col w0);replace cd:=cd.keep (Zi.start col w0);replace ce:=ce.keep (Zi.start col w0);replace cf:=cf.keep (Zi.start col w0);replace aa:=(aa.grow d9).grow cl;refine Zj (Z4r 2 3 4 5 ec (cc.ks aa) (cd.ks aa) (ce.ks aa) (cf.ks aa)) ?_;rintro _ fq ⟨ed,bq,br,bs,bt,bu,bv,bw,bx,rfl,dj,ab,ac,ad,ae⟩;refine ⟨_,rfl,?_⟩;refine Xr (col:=ed) #[.string (⟨#[]⟩),.slice none (([]:List ByteArray).length) 0,.slice none (([]:List R3).length) 0,.slice none (([]:List R2).length) 0,(.slice none (([]:List R4).length) 0)] 6 zeroValue27 ?_;intro c4 fr cn bz ee;refine Z5 ee ?_;intro ef b0 eg af;refine Zl<|Z0<|Z0 ?_;replace h1:=h1.keep (Zi.start col w0);replace az:=((az.gr dj).gr bz).kp b0;replace aa:=((aa.grow dj).grow bz).kp b0 eg;replace ab:=(ab.gr bz).kp b0;replace ac:=(ac.gr bz).kp b0;replace ad:=(ad.gr bz).kp b0;replace ae:=(ae.gr bz).kp b0;refine Wp.cutK [1,2,3,7,8,1000000] (fun f bg=>∃ bd c5,Zjq N ay ck cb di ah c5=some r∧St w0 (Zk col) bd bg∧Zf 27 1 bd bg d7 #[.string ay.1,.slice cv ay.2.1.length cw,.slice cx ay.2.2.1.length cy,.slice cz ay.2.2.2.1.length c0,.slice c1 ay.2.2.2.2.length c2]∧Zb Za.str 9 2 bd bg bq br ah.2.1∧Zb (Za.row 9 Za.str) 22 3 bd bg bs bt ah.2.2.1∧Zb (Za.row 3 (Za.int .i64)) 33 4 bd bg bu bv ah.2.2.2.1∧Zb (Za.row 39 (Za.pair (Za.pair Za.bool (Za.row 95 (Za.int .u32))) (Za.row 95 (Za.int .u32)))) 114 5 bd bg bw bx ah.2.2.2.2∧Zf 27 6 bd bg c4 #[.string ah.1,.slice bq ah.2.1.length br,.slice bs ah.2.2.1.length bt,.slice bu ah.2.2.2.1.length bv,.slice bw ah.2.2.2.2.length bx]∧[28].map f=[.bool c5]) ?_ ?_
 ·intro f bg hJ;obtain ⟨bd,c5,hm,aa,az,ab,ac,ad,ae,af,hs⟩:=hJ;rw [Zjq.eq_1] at hm;refine .lL [28] hs ?_;refine Zq hm (fun hb hm=>go ?_) fun hb hm=>go ?_
  ·cases hm;exact ⟨rfl,rfl,aa.below⟩
  refine lV _ (Xd isAgg27 sizeOf27 az) ?_;obtain ⟨ft,eh,hm⟩:=bZ hm;refine Zj (Z4p eh (cc.ks aa) (cd.ks aa) (ce.ks aa) (cf.ks aa)) ?_;rintro _ ei ⟨rfl,bh⟩;refine ⟨_,rfl,?_⟩;replace bh:Zh bd bg bd ei:=.of_below bh;refine go ?_;replace ab:=ab.gr bh;replace ac:=ac.gr bh;replace ad:=ad.gr bh;replace ae:=ae.gr bh;replace az:=az.gr bh;replace af:=af.gr bh;replace aa:=aa.grow bh;refine Zq hm (fun hb hm=>go ?_) fun hb hm=>go ?_
  ·cases hm;exact ⟨rfl,rfl,aa.below⟩
  refine lV _ (Xd isAgg27 sizeOf27 az)<|go ?_;obtain ⟨co,ej,hm⟩:=bZ hm;refine Zj (Z3s 7 ej (cc.ks aa) (cd.ks aa) (ce.ks aa) (cf.ks aa) (h1.ks aa)) ?_;rintro _ ek ⟨cp,dl,dm,rfl,b1,am⟩;refine ⟨_,rfl,go ?_⟩;replace af:=af.gr b1;refine lV _ (Xd isAgg27 sizeOf27 af)<|Y2 rfl ?_;obtain ⟨a2,el,hm⟩:=bZ hm;replace ab:=ab.gr b1;replace ac:=ac.gr b1;replace ad:=ad.gr b1;replace ae:=ae.gr b1;refine Zj (Zl5 8 9 el (((((ab.toSlF Zd.str).froz 3).froz 4).froz 5).froz 7) (((((ac.froz 2 (by decide)).toSlF (Zd.row Zd.str)).froz 4).froz 5).froz 7) (((((ad.froz 2 (by decide)).froz 3 (by decide)).toSlF (Zd.row (Zd.int .i64))).froz 5).froz 7) (((((ae.froz 2 (by decide)).froz 3 (by decide)).froz 4 (by decide)).toSlF (Zd.row (Zd.pair (Zd.pair Zd.bool (Zd.row (Zd.int .u32))) (Zd.row (Zd.int .u32))))).froz 7) (((((am.froz 2 (by decide)).froz 3 (by decide)).froz 4 (by decide)).froz 5 (by decide)).toSlF (Zd.row (Zd.int .i64)))) ?_;rintro _ fu ⟨em,cq,cr,cs,ct,rfl,bc,a3,a4⟩;refine ⟨_,rfl,?_⟩;replace a3:=a3.thaw (Z7 .u32) bc ((((((Fz.refl (col:=cp)).froz 2).froz 3).froz 4).froz 5).froz 7) (by decide);replace a4:=a4.thaw (Z7 .u32) bc ((((((Fz.refl (col:=cp)).froz 2).froz 3).froz 4).froz 5).froz 7) (by decide);replace bc:=bc.thawR (col:=cp);generalize Xj ek.heap.size cp em=en at *;refine lM (.tuple #[(.agg #[.bool a2.1.1.1,.slice cq a2.1.1.2.length cr,.slice cs a2.1.2.length ct]),.int .i64 a2.2])<|lV (.agg #[.bool a2.1.1.1,.slice cq a2.1.1.2.length cr,.slice cs a2.1.2.length ct]) (Xx rfl rfl)<|lV (.int .i64 a2.2) (Xx rfl rfl)<|Xr (col:=en) #[.bool false,.slice none (([]:List Int).length) 0,.slice none (([]:List Int).length) 0] 10 zeroValue39 ?_;intro eo fv b2 bi ep;refine Z5 ep ?_;intro eq bj er a9;refine go ?_;replace af:=((af.gr bc).gr bi).kp bj;refine lV _ (Xd isAgg27 sizeOf27 af)<|Y2 rfl ?_;obtain ⟨ag,es,hm⟩:=bZ hm;replace ab:=((ab.gr bc).gr bi).kp bj;replace ac:=((ac.gr bc).gr bi).kp bj;replace ad:=((ad.gr bc).gr bi).kp bj;replace ae:=((ae.gr bc).gr bi).kp bj;replace am:=((am.gr bc).gr bi).kp bj
  refine Zj (Zt1 11 12 13 14 es (((((ab.toSlF Zd.str).froz 3).froz 4).froz 5).froz 7) (((((ac.froz 2 (by decide)).toSlF (Zd.row Zd.str)).froz 4).froz 5).froz 7) (((((ad.froz 2 (by decide)).froz 3 (by decide)).toSlF (Zd.row (Zd.int .i64))).froz 5).froz 7) (((((ae.froz 2 (by decide)).froz 3 (by decide)).froz 4 (by decide)).toSlF (Zd.row (Zd.pair (Zd.pair Zd.bool (Zd.row (Zd.int .u32))) (Zd.row (Zd.int .u32))))).froz 7) (((((am.froz 2 (by decide)).froz 3 (by decide)).froz 4 (by decide)).froz 5 (by decide)).toSlF (Zd.row (Zd.int .i64)))) ?_;rintro _ fw ⟨et,b3,b4,b5,b6,b7,b8,b9,ca,rfl,a0,ai,aj,ak,al⟩;refine ⟨_,rfl,?_⟩;replace ai:=ai.thaw Zcx a0 ((((((Fz.refl (col:=b2)).froz 2).froz 3).froz 4).froz 5).froz 7) (by decide);replace aj:=aj.thaw (V6 Zcx) a0 ((((((Fz.refl (col:=b2)).froz 2).froz 3).froz 4).froz 5).froz 7) (by decide);replace ak:=ak.thaw (V6 (Z7 .i64)) a0 ((((((Fz.refl (col:=b2)).froz 2).froz 3).froz 4).froz 5).froz 7) (by decide);replace al:=al.thaw (V6 (Zcw (Zcw Zmh (V6 (Z7 .u32))) (V6 (Z7 .u32)))) a0 ((((((Fz.refl (col:=b2)).froz 2).froz 3).froz 4).froz 5).froz 7) (by decide);replace a0:=a0.thawR (col:=b2);generalize Xj eq.heap.size b2 et=eu at *;refine lM (.tuple #[(.agg #[.string ag.1.1,.slice b3 ag.1.2.1.length b4,.slice b5 ag.1.2.2.1.length b6,.slice b7 ag.1.2.2.2.1.length b8,.slice b9 ag.1.2.2.2.2.length ca]),.int .i64 ag.2])<|lV (.agg #[.string ag.1.1,.slice b3 ag.1.2.1.length b4,.slice b5 ag.1.2.2.1.length b6,.slice b7 ag.1.2.2.2.1.length b8,.slice b9 ag.1.2.2.2.2.length ca]) (Xx rfl rfl)<|lV (.int .i64 ag.2) (Xx rfl rfl)<|Xr (col:=eu) #[.string (⟨#[]⟩),.slice none (([]:List ByteArray).length) 0,.slice none (([]:List R3).length) 0,.slice none (([]:List R2).length) 0,(.slice none (([]:List R4).length) 0)] 15 zeroValue27 ?_;intro dn fx fy a5 ew;refine Z5 ew ?_;intro fz a6 ey ao;refine Y7 rfl<|Zl<|Z0<|Z0 ?_;replace aa:=((((((aa.grow b1).grow bc).grow bi).kp bj er).grow a0).grow a5).kp a6 ey;replace a3:=((((a3.gr bi).kp bj).gr a0).gr a5).kp a6;replace a4:=((((a4.gr bi).kp bj).gr a0).gr a5).kp a6;replace ab:=((ab.gr a0).gr a5).kp a6
  replace ac:=((ac.gr a0).gr a5).kp a6;replace ad:=((ad.gr a0).gr a5).kp a6;replace ae:=((ae.gr a0).gr a5).kp a6;replace am:=((am.gr a0).gr a5).kp a6;replace af:=((af.gr a0).gr a5).kp a6;replace a9:=((a9.gr a0).gr a5).kp a6;replace ai:=(ai.gr a5).kp a6;replace aj:=(aj.gr a5).kp a6;replace ak:=(ak.gr a5).kp a6;replace al:=(al.gr a5).kp a6;refine Wp.cutK [10,12,13,2,8,9,1000000] (fun f au=>∃ an c6,Zg5 N cb ah co a2 ag c6=some r∧St w0 (Zk col) an au∧Zb (Za.int .u32) 95 8 an au cq cr a2.1.1.2∧Zb (Za.int .u32) 95 9 an au cs ct a2.1.2∧Zf 39 10 an au eo #[.bool a2.1.1.1,.slice cq a2.1.1.2.length cr,.slice cs a2.1.2.length ct]∧Zb Za.str 9 11 an au b3 b4 ag.1.2.1∧Zb (Za.row 9 Za.str) 22 12 an au b5 b6 ag.1.2.2.1∧Zb (Za.row 3 (Za.int .i64)) 33 13 an au b7 b8 ag.1.2.2.2.1∧Zb (Za.row 39 (Za.pair (Za.pair Za.bool (Za.row 95 (Za.int .u32))) (Za.row 95 (Za.int .u32)))) 114 14 an au b9 ca ag.1.2.2.2.2∧Zf 27 15 an au dn #[.string ag.1.1,.slice b3 ag.1.2.1.length b4,.slice b5 ag.1.2.2.1.length b6,.slice b7 ag.1.2.2.2.1.length b8,.slice b9 ag.1.2.2.2.2.length ca]∧Zb Za.str 9 2 an au bq br ah.2.1∧Zb (Za.row 9 Za.str) 22 3 an au bs bt ah.2.2.1∧Zb (Za.row 3 (Za.int .i64)) 33 4 an au bu bv ah.2.2.2.1∧Zb (Za.row 39 (Za.pair (Za.pair Za.bool (Za.row 95 (Za.int .u32))) (Za.row 95 (Za.int .u32)))) 114 5 an au bw bx ah.2.2.2.2∧Zf 27 6 an au c4 #[.string ah.1,.slice bq ah.2.1.length br,.slice bs ah.2.2.1.length bt,.slice bu ah.2.2.2.1.length bv,.slice bw ah.2.2.2.2.length bx]∧Zb (Za.row 3 (Za.int .i64)) 33 7 an au dl dm co∧[54].map f=[.bool c6]) ?_ ?_
  ·intro f au hJ;obtain ⟨an,c6,hm,aa,a3,a4,a9,ai,aj,ak,al,ao,ab,ac,ad,ae,af,am,hs⟩:=hJ;rw [Zg5.eq_1] at hm;refine .lL [54] hs ?_;refine Zq hm (fun hb hm=>go ?_) fun hb hm=>go ?_
   ·cases hm;exact ⟨rfl,rfl,aa.below⟩
   refine lV _ (Xd isAgg39 sizeOf39 a9) ?_;obtain ⟨f0,ez,hm⟩:=bZ hm;refine Zj (Zgg ez ((a3.toSlF (Zd.int .u32)).froz 9) ((a4.froz 8 (by decide)).toSlF (Zd.int .u32))) ?_;rintro _ dp ⟨rfl,av⟩;refine ⟨_,rfl,?_⟩;replace av:Zh an au an dp:=.of_below av;refine go ?_;replace a3:=a3.gr av;replace a4:=a4.gr av;replace ai:=ai.gr av;replace aj:=aj.gr av;replace ak:=ak.gr av;replace al:=al.gr av;replace ab:=ab.gr av;replace ac:=ac.gr av;replace ad:=ad.gr av;replace ae:=ae.gr av;replace am:=am.gr av;replace a9:=a9.gr av;replace ao:=ao.gr av;replace af:=af.gr av;replace aa:=aa.grow av;refine Zq hm (fun hb hm=>go ?_) fun hb hm=>go ?_
   ·cases hm;exact ⟨rfl,rfl,aa.below⟩
   refine lV _ (Xd isAgg27 sizeOf27 ao)<|Y2 rfl ?_;obtain ⟨bk,e0,hm⟩:=bZ hm;refine Zj (Zl5 16 17 e0 (((((ai.toSlF Zd.str).froz 12).froz 13).froz 14).froz 7) (((((aj.froz 11 (by decide)).toSlF (Zd.row Zd.str)).froz 13).froz 14).froz 7) (((((ak.froz 11 (by decide)).froz 12 (by decide)).toSlF (Zd.row (Zd.int .i64))).froz 14).froz 7) (((((al.froz 11 (by decide)).froz 12 (by decide)).froz 13 (by decide)).toSlF (Zd.row (Zd.pair (Zd.pair Zd.bool (Zd.row (Zd.int .u32))) (Zd.row (Zd.int .u32))))).froz 7) (((((am.froz 11 (by decide)).froz 12 (by decide)).froz 13 (by decide)).froz 14 (by decide)).toSlF (Zd.row (Zd.int .i64)))) ?_;rintro _ f1 ⟨e1,dq,dr,ds,dt,rfl,aq,bo,bp⟩;refine ⟨_,rfl,?_⟩;replace bo:=bo.thaw (Z7 .u32) aq ((((((Fz.refl (col:=an)).froz 11).froz 12).froz 13).froz 14).froz 7) (by decide);replace bp:=bp.thaw (Z7 .u32) aq ((((((Fz.refl (col:=an)).froz 11).froz 12).froz 13).froz 14).froz 7) (by decide);replace aq:=aq.thawR (col:=an);generalize Xj dp.heap.size an e1=e2 at *;refine lM (.tuple #[(.agg #[.bool bk.1.1.1,.slice dq bk.1.1.2.length dr,.slice ds bk.1.2.length dt]),.int .i64 bk.2])<|lV (.agg #[.bool bk.1.1.1,.slice dq bk.1.1.2.length dr,.slice ds bk.1.2.length dt]) (Xx rfl rfl)<|lV (.int .i64 bk.2) (Xx rfl rfl)<|Xr (col:=e2) #[.bool false,.slice none (([]:List Int).length) 0,.slice none (([]:List Int).length) 0] 18 zeroValue39 ?_;intro f2 f3 cu aw e3;refine Z5 e3 ?_;intro e4 ax e5 c7;refine Y7 rfl<|Zl<|Z0<|Z0 ?_;replace a3:=((a3.gr aq).gr aw).kp ax;replace a4:=((a4.gr aq).gr aw).kp ax;replace ai:=((ai.gr aq).gr aw).kp ax;replace aj:=((aj.gr aq).gr aw).kp ax;replace ak:=((ak.gr aq).gr aw).kp ax;replace al:=((al.gr aq).gr aw).kp ax;replace ab:=((ab.gr aq).gr aw).kp ax;replace ac:=((ac.gr aq).gr aw).kp ax;replace ad:=((ad.gr aq).gr aw).kp ax;replace ae:=((ae.gr aq).gr aw).kp ax;replace am:=((am.gr aq).gr aw).kp ax;replace a9:=((a9.gr aq).gr aw).kp ax;replace ao:=((ao.gr aq).gr aw).kp ax;replace af:=((af.gr aq).gr aw).kp ax;replace aa:=((aa.grow aq).grow aw).kp ax e5;replace bo:=(bo.gr aw).kp ax
   replace bp:=(bp.gr aw).kp ax;refine Wp.cutK [12,2,8,9,1000000] (fun f a7=>∃ ar c8,Zex N cb ah co ag c8=some r∧St w0 (Zk col) ar a7∧Zb Za.str 9 11 ar a7 b3 b4 ag.1.2.1∧Zb (Za.row 9 Za.str) 22 12 ar a7 b5 b6 ag.1.2.2.1∧Zb (Za.row 3 (Za.int .i64)) 33 13 ar a7 b7 b8 ag.1.2.2.2.1∧Zb (Za.row 39 (Za.pair (Za.pair Za.bool (Za.row 95 (Za.int .u32))) (Za.row 95 (Za.int .u32)))) 114 14 ar a7 b9 ca ag.1.2.2.2.2∧Zf 27 15 ar a7 dn #[.string ag.1.1,.slice b3 ag.1.2.1.length b4,.slice b5 ag.1.2.2.1.length b6,.slice b7 ag.1.2.2.2.1.length b8,.slice b9 ag.1.2.2.2.2.length ca]∧Zb Za.str 9 2 ar a7 bq br ah.2.1∧Zb (Za.row 9 Za.str) 22 3 ar a7 bs bt ah.2.2.1∧Zb (Za.row 3 (Za.int .i64)) 33 4 ar a7 bu bv ah.2.2.2.1∧Zb (Za.row 39 (Za.pair (Za.pair Za.bool (Za.row 95 (Za.int .u32))) (Za.row 95 (Za.int .u32)))) 114 5 ar a7 bw bx ah.2.2.2.2∧Zf 27 6 ar a7 c4 #[.string ah.1,.slice bq ah.2.1.length br,.slice bs ah.2.2.1.length bt,.slice bu ah.2.2.2.1.length bv,.slice bw ah.2.2.2.2.length bx]∧Zb (Za.row 3 (Za.int .i64)) 33 7 ar a7 dl dm co∧[82].map f=[.bool c8]) ?_ ?_
   ·intro f a7 hJ;obtain ⟨ar,c8,hm,aa,ai,aj,ak,al,ao,ab,ac,ad,ae,af,am,hs⟩:=hJ;rw [Zex.eq_1] at hm;refine .lL [82] hs ?_;refine Zq hm (fun hb hm=>go ?_) fun hb hm=>go ?_
    ·cases hm;exact ⟨rfl,rfl,aa.below⟩
    refine Zq hm (fun hb hm=>go ?_) fun hb hm=>go ?_
    ·cases hm;exact ⟨rfl,rfl,aa.below⟩
    refine lV _ (Xd isAgg27 sizeOf27 af)<|Y2 rfl<|lV (.agg #[.bool false,.slice none (([]:List Int).length) 0,.slice none (([]:List Int).length) 0]) (Wy (l:=[_,_]) (qs:=[(0,2),(2,1)]) underlying39 zeroValue39 ⟨rfl,sizeOf37,rfl,sizeOf35,trivial⟩ rfl) ?_;obtain ⟨ba,e6,hm⟩:=bZ hm;refine Zj (Zt0 19 20 21 22 e6 (((((ab.toSlF Zd.str).froz 3).froz 4).froz 5).froz 7) (((((ac.froz 2 (by decide)).toSlF (Zd.row Zd.str)).froz 4).froz 5).froz 7) (((((ad.froz 2 (by decide)).froz 3 (by decide)).toSlF (Zd.row (Zd.int .i64))).froz 5).froz 7) (((((ae.froz 2 (by decide)).froz 3 (by decide)).froz 4 (by decide)).toSlF (Zd.row (Zd.pair (Zd.pair Zd.bool (Zd.row (Zd.int .u32))) (Zd.row (Zd.int .u32))))).froz 7) (((((am.froz 2 (by decide)).froz 3 (by decide)).froz 4 (by decide)).froz 5 (by decide)).toSlF (Zd.row (Zd.int .i64))) Sl.nil Sl.nil) ?_;rintro _ f4 ⟨e7,du,dv,dw,dx,dy,dz,d0,d1,rfl,bb,cg,ch,ci,cj⟩;refine ⟨_,rfl,?_⟩;replace cg:=cg.thaw Zcx bb ((((((Fz.refl (col:=ar)).froz 2).froz 3).froz 4).froz 5).froz 7) (by decide);replace ch:=ch.thaw (V6 Zcx) bb ((((((Fz.refl (col:=ar)).froz 2).froz 3).froz 4).froz 5).froz 7) (by decide);replace ci:=ci.thaw (V6 (Z7 .i64)) bb ((((((Fz.refl (col:=ar)).froz 2).froz 3).froz 4).froz 5).froz 7) (by decide);replace cj:=cj.thaw (V6 (Zcw (Zcw Zmh (V6 (Z7 .u32))) (V6 (Z7 .u32)))) bb ((((((Fz.refl (col:=ar)).froz 2).froz 3).froz 4).froz 5).froz 7) (by decide);replace bb:=bb.thawR (col:=ar);generalize Xj a7.heap.size ar e7=e8 at *;refine lM (.tuple #[(.agg #[.string ba.1.1,.slice du ba.1.2.1.length dv,.slice dw ba.1.2.2.1.length dx,.slice dy ba.1.2.2.2.1.length dz,.slice d0 ba.1.2.2.2.2.length d1]),.int .i64 ba.2])<|lV (.agg #[.string ba.1.1,.slice du ba.1.2.1.length dv,.slice dw ba.1.2.2.1.length dx,.slice dy ba.1.2.2.2.1.length dz,.slice d0 ba.1.2.2.2.2.length d1]) (Xx rfl rfl)<|lV (.int .i64 ba.2) (Xx rfl rfl)<|Xr (col:=e8) #[.string (⟨#[]⟩),.slice none (([]:List ByteArray).length) 0,.slice none (([]:List R3).length) 0,.slice none (([]:List R2).length) 0,(.slice none (([]:List R4).length) 0)] 23 zeroValue27 ?_
    intro f5 f6 d2 be e9;refine Z5 e9 ?_;intro fa bf fb fc;refine Y7 rfl<|Zl<|Z0 ?_;replace ai:=((ai.gr bb).gr be).kp bf;replace aj:=((aj.gr bb).gr be).kp bf;replace ak:=((ak.gr bb).gr be).kp bf;replace al:=((al.gr bb).gr be).kp bf;replace ao:=((ao.gr bb).gr be).kp bf;replace aa:=((aa.grow bb).grow be).kp bf fb;replace cg:=(cg.gr be).kp bf;replace ch:=(ch.gr be).kp bf;replace ci:=(ci.gr be).kp bf;replace cj:=(cj.gr be).kp bf;refine Wp.cutK [1000000] (fun f d3=>∃ d4 c9,Zmv c9=some r∧St w0 (Zk col) d4 d3∧[6].map f=[.bool c9]) ?_ ?_
    ·intro f d3 hJ;obtain ⟨d4,c9,hm,aa,hs⟩:=hJ;rw [Zmv.eq_1] at hm;refine .lL [6] hs<|Vv ?_;cases hm;exact ⟨rfl,rfl,aa.below⟩
    refine go ?_;refine Yt hm (fun da hm=>go ?_) fun da hm=>go ?_
    ·refine lV _ (Xd isAgg27 sizeOf27 fc)<|go ?_;refine lV _ (Xd isAgg27 sizeOf27 ao)<|go ?_;obtain ⟨fd,fe,hm⟩:=bZ hm;refine Zj (Zpv fe ((((((((cg.toSlF Zd.str).froz 20).froz 21).froz 22).froz 11).froz 12).froz 13).froz 14) ((((((((ch.froz 19 (by decide)).toSlF (Zd.row Zd.str)).froz 21).froz 22).froz 11).froz 12).froz 13).froz 14) ((((((((ci.froz 19 (by decide)).froz 20 (by decide)).toSlF (Zd.row (Zd.int .i64))).froz 22).froz 11).froz 12).froz 13).froz 14) ((((((((cj.froz 19 (by decide)).froz 20 (by decide)).froz 21 (by decide)).toSlF (Zd.row (Zd.pair (Zd.pair Zd.bool (Zd.row (Zd.int .u32))) (Zd.row (Zd.int .u32))))).froz 11).froz 12).froz 13).froz 14) ((((((((ai.froz 19 (by decide)).froz 20 (by decide)).froz 21 (by decide)).froz 22 (by decide)).toSlF Zd.str).froz 12).froz 13).froz 14) ((((((((aj.froz 19 (by decide)).froz 20 (by decide)).froz 21 (by decide)).froz 22 (by decide)).froz 11 (by decide)).toSlF (Zd.row Zd.str)).froz 13).froz 14) ((((((((ak.froz 19 (by decide)).froz 20 (by decide)).froz 21 (by decide)).froz 22 (by decide)).froz 11 (by decide)).froz 12 (by decide)).toSlF (Zd.row (Zd.int .i64))).froz 14) ((((((((al.froz 19 (by decide)).froz 20 (by decide)).froz 21 (by decide)).froz 22 (by decide)).froz 11 (by decide)).froz 12 (by decide)).froz 13 (by decide)).toSlF (Zd.row (Zd.pair (Zd.pair Zd.bool (Zd.row (Zd.int .u32))) (Zd.row (Zd.int .u32)))))) ?_;rintro _ ff ⟨rfl,db⟩;refine ⟨_,rfl,?_⟩;replace db:Zh d2 fa d2 ff:=.of_below db;refine lV (.bool fd) (Yf (congrArg Value.bool da) rfl)<|go ?_;replace aa:=aa.grow db;exact ⟨rfl,_,_,hm,aa,rfl⟩
    refine lV (.bool false) (X8 (congrArg Value.bool da) rfl)<|go ?_;exact ⟨rfl,_,_,hm,aa,rfl⟩
   refine go ?_;refine Yt hm (fun dc hm=>go ?_) fun dc hm=>go ?_
   ·refine lV (.bool true) (Yf (congrArg Value.bool dc) rfl)<|Ts rfl<|lP 72 rfl rfl<|lP 72 rfl rfl<|lP 72 rfl rfl<|lV (.bool true) (Yf rfl rfl)<|Ts rfl<|lP 77 rfl rfl<|lP 77 rfl rfl<|lP 77 rfl rfl<|lP 77 rfl rfl<|lV (.bool true) (Yf rfl rfl)<|Zl ?_;exact ⟨rfl,_,_,hm,aa,ai,aj,ak,al,ao,ab,ac,ad,ae,af,am,rfl⟩
   refine lV (.bool (!decide (bk.2=0))) (X8 (congrArg Value.bool dc) rfl)<|Ts rfl ?_;refine Yt hm (fun dd hm=>go ?_) fun dd hm=>go ?_
   ·refine lV (.bool true) (Yf (congrArg Value.bool dd) rfl)<|Ts rfl<|lP 77 rfl rfl<|lP 77 rfl rfl<|lP 77 rfl rfl<|lP 77 rfl rfl<|lV (.bool true) (Yf rfl rfl)<|Zl ?_;exact ⟨rfl,_,_,hm,aa,ai,aj,ak,al,ao,ab,ac,ad,ae,af,am,rfl⟩
   refine lV _ (Xd isAgg27 sizeOf27 ao)<|go ?_;obtain ⟨fg,fh,hm⟩:=bZ hm;refine Zj (Zjc fh ((((ai.toSlF Zd.str).froz 12).froz 13).froz 14) ((((aj.froz 11 (by decide)).toSlF (Zd.row Zd.str)).froz 13).froz 14) ((((ak.froz 11 (by decide)).froz 12 (by decide)).toSlF (Zd.row (Zd.int .i64))).froz 14) ((((al.froz 11 (by decide)).froz 12 (by decide)).froz 13 (by decide)).toSlF (Zd.row (Zd.pair (Zd.pair Zd.bool (Zd.row (Zd.int .u32))) (Zd.row (Zd.int .u32)))))) ?_;rintro _ d5 ⟨rfl,ap⟩;refine ⟨_,rfl,?_⟩;replace ap:Zh cu e4 cu d5:=.of_below ap;refine go ?_;refine lV (.bool (!decide (fg=0))) (X8 (congrArg Value.bool dd) rfl)<|Ts rfl ?_;replace a3:=a3.gr ap;replace a4:=a4.gr ap;replace ai:=ai.gr ap;replace aj:=aj.gr ap;replace ak:=ak.gr ap;replace al:=al.gr ap;replace ab:=ab.gr ap;replace ac:=ac.gr ap;replace ad:=ad.gr ap;replace ae:=ae.gr ap;replace am:=am.gr ap;replace bo:=bo.gr ap;replace bp:=bp.gr ap;replace a9:=a9.gr ap;replace ao:=ao.gr ap;replace af:=af.gr ap;replace c7:=c7.gr ap;replace aa:=aa.grow ap;refine Yt hm (fun de hm=>go ?_) fun de hm=>go ?_
   ·refine lV (.bool true) (Yf (congrArg Value.bool de) rfl)<|Zl ?_;exact ⟨rfl,_,_,hm,aa,ai,aj,ak,al,ao,ab,ac,ad,ae,af,am,rfl⟩
   refine lV _ (Xd isAgg39 sizeOf39 c7)<|go ?_;refine lV _ (Xd isAgg39 sizeOf39 a9)<|go ?_;obtain ⟨fi,fj,hm⟩:=bZ hm;refine Zj (Zl6 fj ((((bo.toSlF (Zd.int .u32)).froz 17).froz 8).froz 9) ((((bp.froz 16 (by decide)).toSlF (Zd.int .u32)).froz 8).froz 9) ((((a3.froz 16 (by decide)).froz 17 (by decide)).toSlF (Zd.int .u32)).froz 9) ((((a4.froz 16 (by decide)).froz 17 (by decide)).froz 8 (by decide)).toSlF (Zd.int .u32))) ?_;rintro _ fk ⟨rfl,a8⟩;refine ⟨_,rfl,?_⟩;replace a8:Zh cu d5 cu fk:=.of_below a8;refine go ?_;refine lV (.bool (decide (fi<0))) (X8 (congrArg Value.bool de) rfl)<|Zl ?_;replace ai:=ai.gr a8;replace aj:=aj.gr a8;replace ak:=ak.gr a8;replace al:=al.gr a8;replace ab:=ab.gr a8;replace ac:=ac.gr a8;replace ad:=ad.gr a8;replace ae:=ae.gr a8;replace am:=am.gr a8;replace ao:=ao.gr a8;replace af:=af.gr a8;replace aa:=aa.grow a8;exact ⟨rfl,_,_,hm,aa,ai,aj,ak,al,ao,ab,ac,ad,ae,af,am,rfl⟩
  refine go ?_;refine Yt hm (fun df hm=>go ?_) fun df hm=>go ?_
  ·refine lV (.bool true) (Yf (congrArg Value.bool df) rfl)<|Zl ?_;exact ⟨rfl,_,_,hm,aa,a3,a4,a9,ai,aj,ak,al,ao,ab,ac,ad,ae,af,am,rfl⟩
  refine lV (.bool (!decide (a2.2=0))) (X8 (congrArg Value.bool df) rfl)<|Zl ?_;exact ⟨rfl,_,_,hm,aa,a3,a4,a9,ai,aj,ak,al,ao,ab,ac,ad,ae,af,am,rfl⟩
 refine Vd<|lV _ (Xd isAgg27 sizeOf27 af) ?_;obtain ⟨f7,fl,hm⟩:=bZ hm;refine Zj (Zjc fl ((((ab.toSlF Zd.str).froz 3).froz 4).froz 5) ((((ac.froz 2 (by decide)).toSlF (Zd.row Zd.str)).froz 4).froz 5) ((((ad.froz 2 (by decide)).froz 3 (by decide)).toSlF (Zd.row (Zd.int .i64))).froz 5) ((((ae.froz 2 (by decide)).froz 3 (by decide)).froz 4 (by decide)).toSlF (Zd.row (Zd.pair (Zd.pair Zd.bool (Zd.row (Zd.int .u32))) (Zd.row (Zd.int .u32)))))) ?_;rintro _ d6 ⟨rfl,bm⟩;refine ⟨_,rfl,?_⟩;replace bm:Zh cn ef cn d6:=.of_below bm;refine go ?_;replace ab:=ab.gr bm;replace ac:=ac.gr bm;replace ad:=ad.gr bm;replace ae:=ae.gr bm;replace az:=az.gr bm;replace af:=af.gr bm;replace aa:=aa.grow bm;refine Yt hm (fun dg hm=>go ?_) fun dg hm=>go ?_
 ·refine lV (.bool true) (Yf (congrArg Value.bool dg) rfl)<|Zl ?_;exact ⟨rfl,_,_,hm,aa,az,ab,ac,ad,ae,af,rfl⟩
 refine lV _ (Xd isAgg27 sizeOf27 af)<|go ?_;obtain ⟨fm,fn,hm⟩:=bZ hm;refine Zj (Z3r fn ((((ab.toSlF Zd.str).froz 3).froz 4).froz 5) ((((ac.froz 2 (by decide)).toSlF (Zd.row Zd.str)).froz 4).froz 5) ((((ad.froz 2 (by decide)).froz 3 (by decide)).toSlF (Zd.row (Zd.int .i64))).froz 5) ((((ae.froz 2 (by decide)).froz 3 (by decide)).froz 4 (by decide)).toSlF (Zd.row (Zd.pair (Zd.pair Zd.bool (Zd.row (Zd.int .u32))) (Zd.row (Zd.int .u32)))))) ?_;rintro _ fp ⟨rfl,bn⟩;refine ⟨_,rfl,?_⟩;replace bn:Zh cn d6 cn fp:=.of_below bn;refine go ?_;refine lV (.bool (decide (100<fm))) (X8 (congrArg Value.bool dg) rfl)<|Zl ?_;replace ab:=ab.gr bn;replace ac:=ac.gr bn;replace ad:=ad.gr bn;replace ae:=ae.gr bn;replace az:=az.gr bn;replace af:=af.gr bn;replace aa:=aa.grow bn;exact ⟨rfl,_,_,hm,aa,az,ab,ac,ad,ae,af,rfl⟩
theorem Zwt (N:Nat) {ss:List Nat} (hl:ss.length≤1048576) (hs:∀ s ∈ ss,0<s∧s≤1048576):∀ (f i k:Nat),i≤ss.length→ss.length<f+i→1≤k→k≤1000→Zez N (W2 ss) f (k:Int) (i:Int)=some ((min (k * Xw (ss.drop i)) 1000:Nat):Int)
 | 0,i,k,c,d,_,_=>by omega
 | f+1,i,k,c,d,e,a=>by
  have g:(W2 ss).length=ss.length:=by rw [W2,aI]
  rw [Zez.eq_2]
  by_cases hi:i<ss.length
  ·obtain ⟨j,l⟩:=hs _ (aG hi)
   have r:k * ss[i]≤1000 * 1048576:=Nat.mul_le_mul a l
   have m:1≤k * ss[i]:=Nat.mul_pos e j
   have b:=Zrw (ss.drop (i+1)) fun x o=>(hs x (cM o)).1
   have p:i64.wrap ((k:Int) * ((ss.getD i 0:Nat):Int))=((k * ss[i]:Nat):Int):=by
    rw [Xi hi,← bU];exact Zv (by omega)
   have q:(if (1000:Int)<((k * ss[i]:Nat):Int) then (1000:Int) else ((k * ss[i]:Nat):Int))=((min (k * ss[i]) 1000:Nat):Int):=by
    by_cases h:1000<k * ss[i]
    ·rw [if_pos (by omega),dI (by omega)];rfl
    ·rw [if_neg (by omega),bB (by omega)]
   rw [if_pos (dT (by omega)),Z17 hi,oB,p,q,wS (by omega),Zwt N hl hs f (i+1) _ (by omega) (by omega) (by omega) (by omega),List.drop_eq_getElem_cons hi,Xw,← Nat.mul_assoc]
   congr 2
   by_cases h:1000<k * ss[i]
   ·have t:1000 * 1≤1000 * Xw (ss.drop (i+1)):=aR _ b
    have u:k * ss[i] * 1≤k * ss[i] * Xw (ss.drop (i+1)):=aR _ b
    rw [dI (by omega:1000≤k * ss[i]),dI (by omega),dI (by omega)]
   ·rw [bB (by omega:k * ss[i]≤1000)]
  ·rw [if_neg (dF (by omega)),List.drop_of_length_le (by omega),Xw,Nat.mul_one,bB a]
theorem Z7c {N:Nat} {n:Zp} (hf:Xu N n) (hN:2000000<N) (hv:∀ l ∈ n.2.2.1,l.length≤1048576):Zg6 N n=some ((min (Xw (W6 n)) 1000:Nat):Int):=by
 have e:=hf.le
 have a:=hf.ev.v
 have c:Zjz (n.1,n.2.1,n.2.2.1,n.2.2.2.1,n.2.2.2.2)=some (W2 (W6 n)):=by
  have:=Zwh n.2.2.1 [] (by simp only [nN];omega)
  rw [aV] at this
  rw [Zjz];exact this
 have d:(W6 n).length=n.2.1.length:=by rw [W6,aI,a]
 have:=Zwt N (ss:=W6 n) (by omega) (fun s hs=>by
  obtain ⟨l,b,rfl⟩:=bO.1 hs
  exact ⟨List.length_pos_iff.2 (hf.ev.ne l b),hv l b⟩) N 0 1 (bK _) (by omega) (by omega) (by omega)
 rw [aT,Nat.one_mul] at this
 rw [Zg6,c,oB]
 exact this
/-! of complete observations it is what is learnt -/
theorem Zuv {n:Zp}:∀ (m k:Nat) (w:List Int),(∀ i,k≤i→i<k+m→0≤w.getD i 0)→Zy n m k w=[w]
 | 0,k,w,_=>rfl
 | m+1,k,w,h=>by
  rw [Zy,if_pos (h k (Nat.le_refl _) (by omega))]
  exact Zuv m (k+1) w fun i a b=>h i (by omega) (by omega)
theorem Zuw {n:Zp} {w:List Int} (hw:Xn n w):Zy n n.2.1.length 0 w=[w]:=Zuv _ _ _ fun i _ h=>(hw.ok i (by have:=hw.len;omega)).1
theorem Zuu {N:Nat} {n:Zp} (hf:Xu N n) (D:Nat) {v:Nat} (hv:v<n.2.1.length):∀ (l pre:List R2),(∀ w ∈ l,Xn n w)→(l.map fun w=>(D,w)).foldl (Ui n v) ((Y5 n v pre).map (· * (D:Int)))=(Y5 n v (pre++l)).map (· * (D:Int))
 | [],pre,_=>by rw [bN,List.foldl_nil,List.append_nil]
 | w :: l,pre,h=>by
  have d:=h w aC
  have a:=Zd6 hf hv d
  have b:=Zuu hf D hv l (pre++[w]) fun x f=>h x (aB _ f)
  rw [List.append_assoc,dS,← Zur n v pre w a] at b
  have c:Xt n v w<(Y5 n v pre).length:=by rw [Y5,aI,bW];exact a
  have e:(Y5 n v pre)[Xt n v w]=((pre.countP fun q=>decide (Xt n v q=Xt n v w):Nat):Int):=by
   simp only [Y5,cC,List.getElem_range]
  have g:Ui n v ((Y5 n v pre).map (· * (D:Int))) (D,w)=((Y5 n v pre).set (Xt n v w) (((pre.countP fun q=>decide (Xt n v q=Xt n v w):Nat):Int)+1)).map (· * (D:Int)):=by
   rw [Ui,List.map_set,Xi (by rw [aI];exact c),cC,e,Int.add_mul,Int.one_mul]
  rw [aQ,List.foldl_cons,g]
  exact b
theorem Z1u (D:Nat):∀ c:List Int,(∀ x ∈ c,0≤x)→Xa (c.map (· * (D:Int)))=Xa c * D
 | [],_=>by rw [bN,Xa,cT]
 | x :: c,h=>by
  have b:=h x aC
  obtain ⟨d,rfl⟩:∃ d:Nat,x=(d:Int):=⟨x.toNat,by omega⟩
  rw [aQ,Xa,Xa,Z1u D c fun y a=>h y (aB _ a),← bU,aD,aD,Nat.add_mul]
theorem Z97 {D:Nat} (hD:D≠0) {t:List QV} {c:List Int} (h0:∀ x ∈ c,0≤x):U5 t (Yj 0 (c.map (· * (D:Int))))=U5 t (Yj 0 c):=by
 refine Z1i (D:=1) (by decide) (t:=t) (q:=Yj 0 (c.map (· * (D:Int)))) (c:=c.map (· * (D:Int))) (fun x b=>?_) ?_ |>.trans ?_
 ·obtain ⟨y,d,rfl⟩:=bO.1 b
  exact jI (h0 y d) (eJ D)
 ·rw [Zxz,iJ]
  refine eQ fun x _=>?_
  show Zr (Zo (x:Rat))=(x:Rat) / ((1:Nat):Rat)
  rw [Wt]
  exact (div_one _).symm
 ·have j:∀ x ∈ c.map (· * (D:Int)),0≤x:=fun x b=>by
   obtain ⟨y,d,rfl⟩:=bO.1 b
   exact jI (h0 y d) (eJ D)
  rw [Zix j,Zix h0,Z1u D c h0]
  by_cases h:Xa c=0
  ·rw [if_pos h,if_pos (by rw [h,cT])]
  ·have g:=Zcj hD
   rw [if_neg h,if_neg (Nat.mul_ne_zero h hD),Sj,Sj,iJ]
   refine eQ fun x _=>?_
   show Zo (((x * (D:Int):Int):Rat) / (((Xa c * D:Nat):Int):Rat))=Zo ((x:Rat) / (((Xa c:Nat):Int):Rat))
   congr 1
   have k:((x * (D:Int):Int):Rat)=(x:Rat) * (D:Rat):=by rw [Rat.intCast_mul];rfl
   have l:(((Xa c * D:Nat):Int):Rat)=((Xa c:Nat):Rat) * (D:Rat):=by
    have:(((Xa c * D:Nat):Int):Rat)=((Xa c * D:Nat):Rat):=rfl
    rw [this,Rat.natCast_mul]
   have i:=Zcj h
   rw [k,l]
   have a:((Xa c:Nat):Rat) * (D:Rat)≠0:=fun e=>(Rat.mul_eq_zero.1 e).elim i g
   have m:(x:Rat) * (D:Rat) / (((Xa c:Nat):Rat) * (D:Rat)) * (((Xa c:Nat):Rat) * (D:Rat))=(x:Rat) / ((Xa c:Nat):Rat) * (((Xa c:Nat):Rat) * (D:Rat)):=by
    rw [Sp a,← bH,Sp i]
   have f:=congrArg (· * (((Xa c:Nat):Rat) * (D:Rat))⁻¹) m
   simp only [bH,] at f
   have o:((Xa c:Nat):Rat) * ((D:Rat) * (((Xa c:Nat):Rat) * (D:Rat))⁻¹)=1:=by
    rw [← bH];exact Rat.mul_inv_cancel _ a
   rw [o,Rat.mul_one,Rat.mul_one] at f
   exact f
theorem Z1g {D k:Nat} (hD:D≠0):∀ (m:Nat) (t:List QV) (c:List Int),(∀ x ∈ c,0≤x)→Wb k m t (Yj 0 (c.map (· * (D:Int))))=Wb k m t (Yj 0 c)
 | 0,t,c,_=>rfl
 | m+1,t,c,h=>by
  rw [Wb,Wb,Zio,Zin,Zio,Zin,← List.map_take,← List.map_drop,Z97 hD fun x a=>h x (List.mem_of_mem_take a),Z1g hD m _ _ fun x a=>h x (cM a)]
theorem Xah {N:Nat} {n:Zp} (hf:Xu N n) {D:Nat} (hD:D≠0) {r:List R2} (hr:∀ w ∈ r,Xn n w) (hpos:∀ w ∈ r,0<Zz n (Zy n n.2.1.length 0 w))
  (hI:∀ w ∈ r,∀ x ∈ Zy n n.2.1.length 0 w,∃ z:Nat,(D:Rat) * Zx n x n.2.1.length 0 / Zz n (Zy n n.2.1.length 0 w)=(z:Rat)):Yo n (Yc D n r)=Wn n r 0:=by
 have e:Yc D n r=r.map fun w=>(D,w):=by
  have:∀ l:List R2,(∀ w ∈ l,w ∈ r)→Yc D n l=l.map fun w=>(D,w):=fun l=>by
   induction l with
   | nil=>intro _;rfl
   | cons w l b=>
    intro h
    have b:=b fun x c=>h x (aB _ c)
    have a:=h w aC
    have g:=hpos w a
    have d:=Zo6 g (hI w a)
    rw [Yc] at b
    rw [Zuw (hr w a),Tk,aQ,bN,Y8,Y8,Nat.add_zero] at d
    have j:aW D n (Zz n [w]) w=D:=d
    rw [Yc,dG,b,Zuw (hr w a),Tk,aQ,bN,j,dS,aQ]
  exact this r fun _ h=>h
 rw [Yo,Wn]
 refine eQ fun v k=>?_
 have f:=List.mem_range.1 k
 have m:Wj n v (Yc D n r)=(Y5 n v r).map (· * (D:Int)):=by
  have:=Zuu hf D f r [] hr
  rw [aV,← Zuq,List.map_replicate,Int.zero_mul] at this
  rw [Wj,e];exact this
 rw [m]
 exact Z1g hD _ _ _ fun x c=>by
  obtain ⟨i,_,rfl⟩:=bO.1 c
  exact eJ _
theorem Z8u {a b:Rat} (h:b≤a):¬ Tf a b<0:=by
 rw [Tf,if_neg (Rat.not_lt.2 h)]
 split <;> decide
section
variable {N:Nat} {n:Zp} (hs:Ve n 1048576) (hb:Zf9 n) (hqt:(n.2.2.2.2.map X6).sum≤1048576) (hr:Z9 N 800000000000)
include hs hb hqt hr
theorem Z24 {r:List R2} {complete:Bool} (hq:∀ l ∈ r,∀ x ∈ l,-9223372036854775808≤x∧x≤9223372036854775807):Zmu N n r complete=some true:=by
 have G:1099511627777<N:=by obtain ⟨r1,r2⟩:=hr;omega
 obtain ⟨e,u,fine⟩:=Z5i (N:=N) hs (hr.mono (by decide)) (by omega)
 have H:W1 N (n.1,n.2.1,n.2.2.1,n.2.2.2.1,n.2.2.2.2)=some e:=u
 have tw:Zii N (n.1,n.2.1,n.2.2.1,n.2.2.2.1,n.2.2.2.2)=some n:=Xa0 hb G
 rw [Zmu,Zs6,oB,tw,oB,H,oB]
 by_cases he:e=0
 ·subst he
  have f:=fine rfl
  have b5:=f.le
  have c0:Zg6 N (n.1,n.2.1,n.2.2.1,n.2.2.2.1,n.2.2.2.2)=_:=Z7c f (by omega) hs.vl
  rw [if_neg (by decide),c0,oB,Zjq]
  by_cases hc:100<((min (Xw (W6 n)) 1000:Nat):Int)
  ·rw [if_pos (dT hc)]
  rw [if_neg (dF hc)]
  have hp:Xw (W6 n)≤300:=by omega
  have sh:Zif N (n.1,n.2.1,n.2.2.1,n.2.2.2.1,n.2.2.2.2)=some true:=Z93 f hs (by omega)
  obtain ⟨o,o1,I,o3,o4⟩:∃ o,Zbu N n r complete=some o∧(∀ q ∈ o,PV n q)∧o.length≤8∧(complete=true→∀ q ∈ o,Xn n q):=by
   cases complete with
   | true=>
    obtain ⟨o,a,b,c⟩:=Z8a f (by omega) hq
    exact ⟨o,a,fun q hq=>(b q hq).pv,c,fun _=>b⟩
   | false=>
    obtain ⟨o,a,b,c⟩:=Z78 f (by omega) r
    exact ⟨o,a,b,c,fun h=>by cases h⟩
  have J:Zbu N (n.1,n.2.1,n.2.2.1,n.2.2.2.1,n.2.2.2.2) r complete=some o:=o1
  obtain ⟨x,x1,L,x3⟩:=Xae f hs hqt u hp hr (Zpe I) (by omega)
  have O:Tv N (n.1,n.2.1,n.2.2.1,n.2.2.2.1,n.2.2.2.2) o=_:=x1
  have P:Ta N (((Zo x).1.1,(Zo x).1.2),(Zo x).2)=some (S1 x):=by
   have:=Zer (N:=N) (Vo L) (hr.mono (by decide))
   rwa [Wt] at this
  rw [sh,oB,if_neg (by decide),J,oB,O,oB]
  rcases x3 with ⟨rfl,m,st⟩ | ⟨Q,D,y,hD,st,ok,R,y1,y2,S,w,hI⟩
  ·have p:Qh N (n.1,n.2.1,n.2.2.1,n.2.2.2.1,n.2.2.2.2) o=_:=st
   rw [p,oB,if_neg (by decide)]
   dsimp only
   rw [decide_eq_true rfl,Bool.not_true,Zg5,if_neg (by decide),P,oB,if_pos (dT (Zf1.2 rfl)),decide_eq_true rfl]
  ·have p:Qh N (n.1,n.2.1,n.2.2.1,n.2.2.2.1,n.2.2.2.2) o=_:=st
   have T:Tv N ((Xp n (Yo n (Yc D n o))).1,(Xp n (Yo n (Yc D n o))).2.1,(Xp n (Yo n (Yc D n o))).2.2.1,(Xp n (Yo n (Yc D n o))).2.2.2.1,(Xp n (Yo n (Yc D n o))).2.2.2.2) o=_:=y1
   have A:W1 N ((Xp n (Yo n (Yc D n o))).1,(Xp n (Yo n (Yc D n o))).2.1,(Xp n (Yo n (Yc D n o))).2.2.1,(Xp n (Yo n (Yc D n o))).2.2.2.1,(Xp n (Yo n (Yc D n o))).2.2.2.2)=_:=R
   have U:Zbr N (((Zo y).1.1,(Zo y).1.2),(Zo y).2) (((Zo x).1.1,(Zo x).1.2),(Zo x).2)=some (Tf y x):=by
    have:=Zqc (N:=N) (Vo y2) (Vo L) (hr.mono (by decide))
    rwa [Wt,Wt] at this
   rw [p,oB,if_neg (by decide)]
   dsimp only
   rw [decide_eq_true rfl,Bool.not_true,Zg5,if_neg (by decide),P,oB,if_neg (by rw [decide_eq_false fun e=>Q (Zf1.1 e)];decide)]
   dsimp only
   rw [T,oB,if_neg (by rw [decide_eq_true rfl];decide),if_neg (by rw [decide_eq_true rfl];decide),A,oB,if_neg (by decide),U,oB,decide_eq_false (Z8u S),Zex,if_neg (by decide)]
   cases complete with
   | false=>rfl
   | true=>
    have V:=o4 rfl
    have eq:=Xah f hD V w hI
    have j:RV 1 ((false,([]:List Int)),([]:List Int)):=⟨by simp [Zn],by simp [Zn],by simp,by simp⟩
    have W:Zr ((false,([]:List Int)),([]:List Int))=0:=by rw [Zr];simp [Zt,Zc]
    have X:=Z6q (K:=1074792460) (M:=0) f hs (hr.mono (by decide)) (by decide) (by decide) j W (by rw [Zol];omega) (by decide) V (by omega) u (Zpe I)
    have B:Ze0 N (n.1,n.2.1,n.2.2.1,n.2.2.2.1,n.2.2.2.2) o ((false,([]:List Int)),([]:List Int))=some (Xp n (Wn n o 0),0):=X
    have get:∀ t ∈ Wn n o 0,∃ v,v<n.2.1.length∧t=(Wn n o 0).getD v []:=fun t i=>by
     have b3:(Wn n o 0).length=n.2.1.length:=by rw [Wn,aI,bW]
     obtain ⟨v,g,rfl⟩:=List.getElem_of_mem i
     exact ⟨v,by omega,(Xi g).symm⟩
    have C:∀ v,v<n.2.1.length→S8 1048576 (cnt n v) (Wu n v) ((Wn n o 0).getD v []):=fun v g=>Z6p f (by omega) g (by decide) fun z j=>by
     have k:=(Zeq f hs g z j).2
     have Y:=(Zeq f hs g z j).1
     have h3:=Zok (Zcm Y.1 Y.2)
     exact Vo (by omega)
    have tl:∀ t ∈ Wn n o 0,t.length≤65536:=fun t i=>by
     obtain ⟨v,g,rfl⟩:=get t i
     have k:=(C v g).len
     obtain ⟨c1,c2,_⟩:=f.rows g
     rw [Wu] at k;omega
    have Z:Zf9 (Xp n (Wn n o 0)):=⟨hb.nm,hb.vn,hb.vl,hb.pn,hb.pl,by show (Wn n o 0).length≤1048576;rw [Wn,aI,bW];omega,fun t i=>by have:=tl t i;omega,fun t i z j=>by
     obtain ⟨v,g,rfl⟩:=get t i
     have k:=((C v g).ent z j).2.2
     exact ⟨k.lm,k.ld⟩⟩
    have E:∀ t ∈ (Xp n (Wn n o 0)).2.2.2.2,∀ z ∈ t,Vx z:=fun t i z j=>by
     obtain ⟨v,g,rfl⟩:=get t i
     have k:=((C v g).ent z j).2.2
     exact ⟨k.m,k.d⟩
    have F:=Z92 Z G E (hr.mono (by decide))
    have s:Zdy N ((Xp n (Wn n o 0)).1,(Xp n (Wn n o 0)).2.1,(Xp n (Wn n o 0)).2.2.1,(Xp n (Wn n o 0)).2.2.2.1,(Xp n (Wn n o 0)).2.2.2.2) ((Xp n (Wn n o 0)).1,(Xp n (Wn n o 0)).2.1,(Xp n (Wn n o 0)).2.2.1,(Xp n (Wn n o 0)).2.2.2.1,(Xp n (Wn n o 0)).2.2.2.2)=some true:=F
    rw [if_neg (by decide),B,oB]
    dsimp only
    rw [if_pos (dT rfl),eq,s,oB]
    rfl
 ·rw [if_pos (by rw [decide_eq_false he];rfl)];rfl
end
theorem Zbn {α:Type} {b:α→Nat} (hb:∀ x,1≤b x):∀ (l:List α),l.length+1≤X0 b l
 | []=>by simp [X0]
 | x :: l=>by
  have h:=Zbn hb l
  have:=hb x
  simp only [X0,aQ,gF,nC] at h ⊢
  omega
theorem Zny {α:Type} {b:α→Nat} {x:α}:∀ {l:List α},x ∈ l→b x+1≤X0 b l
 | y :: l,h=>by
  simp only [X0,aQ,gF]
  rcases aP.1 h with rfl | h
  ·omega
  ·have:=Zny (b:=b) h
   simp only [X0] at this
   omega
theorem Zpk {α:Type} {b:α→Nat} (l:List α):1≤X0 b l:=by simp only [X0];omega
theorem Zpl (s:ByteArray):1≤U0 s:=by simp only [U0];omega
theorem Zpj {α:Type} (s:α):1≤Vg s:=by simp only [Vg];omega
theorem Z3e {α:Type} {b:α→Nat} (s:α):1≤U9 b s:=by simp only [U9];omega
abbrev Zbl:QV→Nat:=U9 (Vp (U9 (Vp Vg (X0 Vg))) (X0 Vg))
abbrev qQ:QV→Prop:=S0 (S0 (fun _=>True) (Vk (Qz .u32))) (Vk (Qz .u32))
abbrev Zgc:Zp→Nat:=U9 (Vp U0 (Vp (X0 U0) (Vp (X0 (X0 U0)) (Vp (X0 (X0 Vg)) (X0 (X0 Zbl))))))
abbrev Zy6:Zp→Prop:=S0 (fun _=>True) (S0 (Vk (fun _=>True)) (S0 (Vk (Vk (fun _=>True))) (S0 (Vk (Vk (Qz .i64))) (Vk (Vk qQ)))))
theorem Zw4 {l:List Int} (h:Vk (Qz .u32) l):Zn l:=by
 intro d a
 have b:=h d a
 simp [Qz,Lit.wf,IntKind.min,IntKind.max,IntKind.signed,IntKind.bits] at b
 omega
theorem Z7i {x:QV} (h:qQ x):Vx x:=⟨Zw4 h.1.2,Zw4 h.2⟩
theorem Ztp (x:QV):x.1.2.length+x.2.length+4≤Zbl x:=by
 have a:=Zbn (b:=Vg) Zpj x.1.2
 have c:=Zbn (b:=Vg) Zpj x.2
 simp only [U9,Vp]
 have d:Vg x.1.1=1:=rfl
 omega
theorem Zr0:∀ t:List QV,X6 t≤X0 Zbl t
 | []=>by rw [X6];omega
 | x :: t=>by
  have a:=Zr0 t
  have b:=Ztp x
  rw [X6]
  simp only [X0,aQ,gF] at a ⊢
  omega
theorem Z2f:∀ P:List R2,T4 P+P.length≤X0 (X0 Vg) P
 | []=>by simp [T4,X0]
 | l :: P=>by
  have a:=Z2f P
  have c:=Zbn (b:=Vg) Zpj l
  rw [Zlq,nC]
  simp only [X0,aQ,gF] at a c ⊢
  omega
theorem Z70 {n:Zp} (hb:Zgc n≤1048576) (hq:Zy6 n):Ve n 1048576∧Zf9 n:=by
 have m:=Zpl n.1
 have o:=Zbn (b:=U0) Zpl n.2.1
 have p:=Zbn (b:=X0 U0) Zpk n.2.2.1
 have q:=Z2f n.2.2.2.1
 have r:=Zbn (b:=X0 Zbl) Zpk n.2.2.2.2
 have s:=Zpk (b:=X0 Vg) n.2.2.2.1
 simp only [Zgc,U9,Vp] at hb
 have g:∀ l ∈ n.2.2.1,l.length≤1048576:=fun l d=>by
  have c:=Zny (b:=X0 U0) d
  have i:=Zbn (b:=U0) Zpl l
  omega
 have k:∀ l ∈ n.2.2.2.1,l.length≤1048576:=fun l d=>by
  have c:=Zox d
  omega
 have e:∀ t ∈ n.2.2.2.2,X0 Zbl t≤1048576:=fun t a=>by
  have c:=Zny (b:=X0 Zbl) a
  omega
 have j:∀ t ∈ n.2.2.2.2,t.length≤1048576:=fun t a=>by
  have c:=e t a
  have i:=Zbn (b:=Zbl) Z3e t
  omega
 refine ⟨⟨by omega,g,⟨by omega,by omega⟩,j,fun t a=>aU (Zr0 t) (e t a),fun t a x f=>Z7i (hq.2.2.2.2 t a x f)⟩,⟨by omega,by omega,g,by omega,k,by omega,j,fun t a x f=>?_⟩⟩
 have c:=e t a
 have i:=Zny (b:=Zbl) f
 have u:=Ztp x
 omega
theorem Zza:∀ T:List (List QV),(T.map X6).sum≤X0 (X0 Zbl) T
 | []=>by simp [X0]
 | t :: T=>by
  have a:=Zza T
  have b:=Zr0 t
  simp only [X0,aQ,gF] at a b ⊢
  omega
theorem Z7z {n:Zp} (hb:Zgc n≤1048576):(n.2.2.2.2.map X6).sum≤1048576:=by
 have a:=Zza n.2.2.2.2
 simp only [Zgc,U9,Vp] at hb
 omega

end Go.Proofs.YtkhnlgdenkikoaaGreat
