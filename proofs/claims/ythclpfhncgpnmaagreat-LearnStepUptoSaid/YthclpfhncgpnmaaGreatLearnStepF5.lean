/-
  What functions of the program compute, as plain Lean functions (m_..), and proofs that they compute it (c_..). Printed by a program of the author; no conditions.
-/
import Derived.Test.YthclpfhncgpnmaaGreatLearnStepBFloat
import Derived.Test.YthclpfhncgpnmaaGreatProg
import Derived.Test.YthclpfhncgpnmaaGreatLearnStepBBrief
import Derived.Test.YthclpfhncgpnmaaGreatLearnStepBMixD
import Derived.Test.YthclpfhncgpnmaaGreatLearnStepF4
set_option linter.unusedVariables false
set_option maxRecDepth 100000
set_option maxHeartbeats 2000000
namespace Go.Proofs.YthclpfhncgpnmaaGreat
open Go Go.RowKit
open List renaming getElem_mem→aB,take_succ_eq_append_getElem→cB,length_singleton→aK,nil_append→bF,take_of_length_le→bA,map_cons→bJ,sum_cons→eY,mem_cons_self→aO,mem_cons_of_mem→aN,cons_append→cK,mem_cons→bL,map_congr_left→fC,map_map→gJ,drop_zero→aM,replicate→aD,foldl_cons→eP,mem_or_eq_of_mem_set→eK,getD_eq_getElem?_getD→aE,getElem?_eq_none→cG,eq_of_mem_replicate→cR,length_map→aH,length_range→dR,getElem_map→cA,getElem_range→gS,map_nil→dD,drop_eq_nil_iff→aJ,drop_of_length_le→dB,drop_eq_getElem_cons→aF,range'→cE,getElem?_set_ne→eW,range'_succ→eR,flatMap_cons→eG,mem_range'_1→gW,map_append→dI,map_singleton→eO,getElem?_set_self'→iS,getElem?_eq_getElem→aL,append_nil→cV,mem_map→cY,append_assoc→bC,singleton_append→gK
open Nat renaming zero_le→aQ,zero_add→cC,add_assoc→dZ,add_mul→bB,one_mul→aV,add_comm→fO,zero_mul→dP,lt_or_ge→bU,lt_of_lt_of_le→aI,le_refl→aX,mul_pos→gT,le_mul_of_pos_left→fZ,mul_le_mul_right→bD,mul_add→dW,mul_one→fU,mul_comm→bS,mul_le_mul_left→aY,mul_le_mul→gX,le_trans→aT,mul_ne_zero→eD,beq→aP,add_zero→bR
open Rat renaming lt_irrefl→cZ,div_def→bQ,zero_mul→eN,natCast_add→iA,add_mul→jE,one_mul→gN,mul_assoc→bP,zero_add→kS,add_assoc→kN,add_zero→iY,natCast_inj→iB,mul_one→dL,zero_mkRat→kJ,mkRat_eq_div→cM,natCast_mul→kD,mul_inv_cancel→cW,mul_comm→jJ
open Int renaming toNat_natCast→aC,toNat→aA,natCast_add→dS,natCast_mul→bN,natAbs_natCast→eH
open Go.IntKind (i8 i16 i32 i64 u8 u16 u32 u64)
open Go.Proofs.Tryz

def Zhy (N:Nat) (b:R6) (c:R6):Nat→Int→Option Bool
  | 0,_=>none
  | d+1,a=>if (decide (a<(b.length:Int)))=true then ((Zk b a).bind fun e=>(Zk c a).bind fun f=>(Zkm N e f).bind fun g=>if (!g)=true then (some false) else ((Zhy N b c d) (i64.wrap (a+1)))) else (some true)
def Zm7 (N:Nat) (a:R6) (b:R6):Option Bool:=
  if (!decide ((a.length:Int)=(b.length:Int)))=true then (some false) else (Zhy N a b N 0)
theorem Z6m {N l o:Nat} {m n:Option Addr} {col:Ze} {e:World} {d g:R6} {r:Bool} (a:Zm7 N d g=some r) (i:Sl rP col e m l d) (j:Sl rP col e n o g):
    Calls prog 125 #[.slice m d.length l,.slice n g.length o] e (Vk e r):=by
 refine Xc 4 (m:=29) func125 rfl rfl rfl rfl rfl ?_;rw [Zm7.eq_1] at a;have c:=St.start col e;refine go ?_;replace i:=i.k0;replace j:=j.k0;refine Zm a (fun f a=>go ?_) fun f a=>go ?_
 ·cases a;exact ⟨rfl,rfl,c.below⟩
 refine Zt [0,1,1000000] (fun w x y=>∃ h s k,k=w∧Zhy N d g k s=some r∧St e (Zh col) h y∧[5].map x=[.int .i64 s]) N ⟨_,0,_,rfl,a,c,rfl⟩ ?_;clear a;intro w x y z;obtain ⟨h,s,k,t,a,c,u⟩:=z;subst t;refine .lL [5] u ?_
 cases k with
 | zero=>rw [Zhy.eq_1] at a;cases a
 | succ k=>
  rw [Zhy.eq_2] at a;refine go ?_;refine Zm a (fun f a=>go ?_) fun f a=>go ?_
  ·refine Wg (col:=h) (by kernel_rfl) (by kernel_rfl)<|go ?_;obtain ⟨_,p,a⟩:=bZ a;refine qI p ((i.ks c).addr p) ?_;obtain ⟨_,B,D⟩:=(i.ks c).atN p;obtain ⟨⟨_,_,rfl,H⟩,_⟩:=B;refine qW (fun _ b=>D.one.gr (b.bl h)) ?_;refine go ?_;obtain ⟨_,q,a⟩:=bZ a;refine qI q ((j.ks c).addr q) ?_;obtain ⟨_,C,E⟩:=(j.ks c).atN q;obtain ⟨⟨_,_,rfl,G⟩,_⟩:=C;refine qW (fun _ b=>E.one.gr (b.bl h)) ?_;obtain ⟨A,F,a⟩:=bZ a;refine qc (v:=(.bool A)) rfl (fun _ b=>⟨_,_,Tj call76 rfl rfl,(Zvv F (H.gr (b.bl h)) (G.gr (b.bl h)):).mono fun _ _ v=>⟨v.1,b.trans (.of_below v.2)⟩⟩) ?_;refine go ?_;refine Y1 fun _ b=>go ?_;replace c:=c.grow (b.bl h);refine Zm a (fun f a=>go ?_) fun f a=>go ?_
   ·cases a;exact ⟨rfl,rfl,c.below⟩
   exact ⟨k,by omega,rfl,⟨_,_,_,rfl,a,c,rfl⟩⟩
  cases a;exact ⟨rfl,rfl,c.below⟩
def Zky (a:Int) (kk_L1:(Bool→Int→Option Bool)) (b:Bool):Option Bool:=
  kk_L1 b (i64.wrap (a+1))
def Zm6 (a:Int) (kk_L2:(Bool→Int→Option Bool)) (b:Bool):Option Bool:=
  kk_L2 b (i64.wrap (a+1))
def Zfe (N:Nat) (e:R0) (f:R0) (a:Int) (kk_L2:(Bool→Int→Option Bool)) (g:Bool) (b:Int) (kk_L3:(Bool→Int→Option Bool)) (i:Bool):Option Bool:=
  if i=true then ((Zk e.2.2.2.2 a).bind fun j=>(Zk j b).bind fun c=>(Zk f.2.2.2.2 a).bind fun k=>(Zk k b).bind fun d=>(Zc7 N ((c.1.1,c.1.2),c.2) ((d.1.1,d.1.2),d.2)).bind fun l=>kk_L3 (decide (l=0)) (i64.wrap (b+1))) else (Zm6 a kk_L2 g)
def Zaz (N:Nat) (a:R0) (c:R0) (b:Int) (kk_L2:(Bool→Int→Option Bool)):Nat→Bool→Int→Option Bool
  | 0,_,_=>none
  | f+1,d,e=>if d=true then ((Zk a.2.2.2.2 b).bind fun g=>Zfe N a c b kk_L2 d e (Zaz N a c b kk_L2 f) (decide (e<(g.length:Int)))) else (Zfe N a c b kk_L2 d e (Zaz N a c b kk_L2 f) false)
def Zkz (N:Nat) (a:R0) (b:R0) (c:Int) (kk_L2:(Bool→Int→Option Bool)) (d:Bool):Option Bool:=
  Zaz N a b c kk_L2 N d 0
def U9 (N:Nat) (a:R0) (b:R0):Nat→Bool→Int→Option Bool
  | 0,_,_=>none
  | d+1,e,c=>if (decide (c<(a.2.2.2.2.length:Int)))=true then (if e=true then ((Zk a.2.2.2.2 c).bind fun f=>(Zk b.2.2.2.2 c).bind fun g=>Zkz N a b c (U9 N a b d) (decide ((f.length:Int)=(g.length:Int)))) else (Zkz N a b c (U9 N a b d) false)) else (some e)
def Zay (N:Nat) (a:R0) (c:R0):Nat→Bool→Int→Option Bool
  | 0,_,_=>none
  | d+1,e,b=>if (decide (b<(a.2.2.1.length:Int)))=true then (if e=true then ((Zk a.2.2.1 b).bind fun f=>(Zk c.2.2.1 b).bind fun g=>(Zkl N f g).bind fun i=>Zky b (Zay N a c d) i) else (Zky b (Zay N a c d) false)) else (U9 N a c N e 0)
def Zkx (N:Nat) (a:R0) (b:R0) (c:Bool):Option Bool:=
  Zay N a b N c 0
def Zht (N:Nat) (a:R0) (b:R0) (c:Bool):Option Bool:=
  if c=true then (some false) else ((Zkl N a.2.1 b.2.1).bind fun d=>if d=true then ((Zm7 N a.2.2.2.1 b.2.2.2.1).bind fun e=>Zkx N a b e) else (Zkx N a b false))
def Zdk (N:Nat) (a:R0) (b:R0):Option Bool:=
  if (!decide (a.1=b.1))=true then (Zht N a b true) else (if (!decide ((a.2.2.1.length:Int)=(b.2.2.1.length:Int)))=true then (Zht N a b true) else (Zht N a b (!decide ((a.2.2.2.2.length:Int)=(b.2.2.2.2.length:Int)))))
theorem Z6k {N k l o p s t u w:Nat} {x y D B C E F G:Option Addr} {col:Ze} {h:World} {a b:R0} {r:Bool} (c:Zdk N a b=some r) (ao:Sl Za.str col h x k a.2.1) (X:Sl rV col h y l a.2.2.1) (ap:Sl rP col h D o a.2.2.2.1) (L:Sl (Za.slice rQ) col h B p a.2.2.2.2) (aq:Sl Za.str col h C s b.2.1) (bl:Sl rV col h E t b.2.2.1) (ar:Sl rP col h F u b.2.2.2.1) (R:Sl (Za.slice rQ) col h G w b.2.2.2.2):
    Calls prog 74 #[(.agg (Rq a x k y l D o B p)),(.agg (Rq b C s E t F u G w))] h (Vk h r):=by
 refine Xc 4 (m:=120) func74 rfl rfl rfl rfl rfl ?_;rw [Zdk.eq_1] at c;have e:=St.start col h;refine go ?_;refine Xg (col:=(Zh col)) 1 rfl fun I _ U W f=>Xg (col:=U) 2 rfl fun J _ _ O g=>Zd9 rfl<|Zl<|Zx<|Zx ?_;replace X:=X.k0;replace L:=L.k0;replace bl:=bl.k0;replace R:=R.k0;replace e:=(e.grow W).grow O;replace f:=f.gr O;refine Wp.cutK [2,3,1000000] (fun j Q=>∃ bo T,Zht N a b T=some r∧St h (Zh col) bo Q∧Zd 27 1 bo Q I (Rq a x k y l D o B p)∧Zd 27 2 bo Q J (Rq b C s E t F u G w)∧[31].map j=[.bool T]) ?_ ?_
 ·intro j Q z;obtain ⟨bo,T,c,e,f,g,i⟩:=z;rw [Zht.eq_1] at c;refine .lL [31] i ?_;refine Zm c (fun q c=>go ?_) fun q c=>?_
  ·cases c;exact ⟨rfl,rfl,e.below⟩
  refine Xz<|Zx ?_;refine Wp.cutK [2,3,1000000] (fun j T=>∃ O U,Zkx N a b U=some r∧St h (Zh col) O T∧Zd 27 1 O T I (Rq a x k y l D o B p)∧Zd 27 2 O T J (Rq b C s E t F u G w)∧[5].map j=[.bool U]) ?_ ?_
  ·intro j T z;obtain ⟨O,U,c,e,f,g,i⟩:=z;rw [Zkx.eq_1] at c;refine .lL [5] i<|go ?_;refine Zt [2,3,1000000] (fun M j Y=>∃ n Z P S,S=M∧Zay N a b S Z P=some r∧St h (Zh col) n Y∧Zd 27 1 n Y I (Rq a x k y l D o B p)∧Zd 27 2 n Y J (Rq b C s E t F u G w)∧[5,6].map j=[.bool Z,.int .i64 P]) N ⟨_,_,0,_,rfl,c,e,f,g,rfl⟩ ?_;clear c;intro M j Y c6;obtain ⟨n,Z,P,S,H,c,e,f,g,i⟩:=c6;subst H;refine .lL [5,6] i ?_
   cases S with
   | zero=>rw [Zay.eq_1] at c;cases c
   | succ S=>
    rw [Zay.eq_2] at c;refine go ?_;refine Z9 f ?_;refine go ?_;refine Zm c (fun q c=>?_) fun q c=>go ?_
    ·refine Xz<|Zx ?_;refine Wp.cutK [2,3,6,1000000] (fun j Q=>∃ U W,Zky P (Zay N a b S) W=some r∧St h (Zh col) U Q∧Zd 27 1 U Q I (Rq a x k y l D o B p)∧Zd 27 2 U Q J (Rq b C s E t F u G w)∧[5].map j=[.bool W]) ?_ ?_
     ·intro j Q z;obtain ⟨U,W,c,e,f,g,i⟩:=z;rw [Zky.eq_1] at c;refine .lL [5] i<|go ?_;exact ⟨S,by omega,rfl,⟨_,_,_,_,rfl,c,e,f,g,rfl⟩⟩
     refine Zf1<|Wg (col:=n) (by kernel_rfl) (by kernel_rfl)<|go ?_;refine Ye c (fun V c=>go ?_) fun V c=>go ?_
     ·refine qF ⟨_,_,rfl⟩ ?_;refine go ?_;refine qW (fun _ d=>((f.atN).nth (q:=2) rfl).gr (d.bl n)) ?_;refine go ?_;obtain ⟨_,O,c⟩:=bZ c;refine qI O ((X.ks e).addr O) ?_;refine go ?_;obtain ⟨_,br,bs⟩:=(X.ks e).atN O;obtain ⟨⟨_,_,rfl,bt⟩,_⟩:=br;refine qW (fun _ d=>bs.one.gr (d.bl n)) ?_;refine go ?_;refine qF ⟨_,_,rfl⟩ ?_;refine go ?_;refine qW (fun _ d=>((g.atN).nth (q:=2) rfl).gr (d.bl n)) ?_;refine go ?_;obtain ⟨_,Q,c⟩:=bZ c;refine qI Q ((bl.ks e).addr Q) ?_;refine go ?_;obtain ⟨_,bu,bv⟩:=(bl.ks e).atN Q;obtain ⟨⟨_,_,rfl,bw⟩,_⟩:=bu;refine qW (fun _ d=>bv.one.gr (d.bl n)) ?_;refine go ?_;obtain ⟨P,S,c⟩:=bZ c;refine qc (v:=(.bool P)) rfl (fun _ d=>⟨_,_,Tj call124 rfl rfl,(Zvu S (bt.gr (d.bl n)) (bw.gr (d.bl n)):).mono fun _ _ c7=>⟨c7.1,d.trans (.of_below c7.2)⟩⟩) ?_;refine qv (v:=(.bool P)) rfl (fun _ d=>X0 (congrArg Value.bool V) rfl) ?_;refine go ?_;refine Y1 ?_;intro _ d;replace d:=d.bl n;replace f:=f.gr d;replace g:=g.gr d;replace e:=e.grow d;exact ⟨rfl,_,_,c,e,f,g,rfl⟩
     refine qv (v:=(.bool false)) rfl (fun _ d=>X7 (congrArg Value.bool V) rfl) ?_;refine go ?_;refine Y1 ?_;intro _ d;replace d:=d.bl n;replace f:=f.gr d;replace g:=g.gr d;replace e:=e.grow d;exact ⟨rfl,_,_,c,e,f,g,rfl⟩
    refine Zt [2,3,1000000] (fun M j X=>∃ A Y K v,v=M∧U9 N a b v Y K=some r∧St h (Zh col) A X∧Zd 27 1 A X I (Rq a x k y l D o B p)∧Zd 27 2 A X J (Rq b C s E t F u G w)∧[5,7].map j=[.bool Y,.int .i64 K]) N ⟨_,_,0,_,rfl,c,e,f,g,rfl⟩ ?_;clear c;intro M j X c6;obtain ⟨A,Y,K,v,H,c,e,f,g,i⟩:=c6;subst H;refine .lL [5,7] i ?_
    cases v with
    | zero=>rw [U9.eq_1] at c;cases c
    | succ v=>
     rw [U9.eq_2] at c;refine go ?_;refine Z9 f ?_;refine go ?_;refine Zm c (fun q c=>?_) fun q c=>go ?_
     ·refine Xz<|Zx ?_;refine Wp.cutK [2,3,7,1000000] (fun j P=>∃ T V,Zm6 K (U9 N a b v) V=some r∧St h (Zh col) T P∧Zd 27 1 T P I (Rq a x k y l D o B p)∧Zd 27 2 T P J (Rq b C s E t F u G w)∧[5].map j=[.bool V]) ?_ ?_
      ·intro j P z;obtain ⟨T,V,c,e,f,g,i⟩:=z;rw [Zm6.eq_1] at c;refine .lL [5] i<|go ?_;exact ⟨v,by omega,rfl,⟨_,_,_,_,rfl,c,e,f,g,rfl⟩⟩
      refine Zf1<|Zx ?_;refine Wp.cutK [2,3,7,1000000] (fun j S=>∃ V X,Zkz N a b K (U9 N a b v) X=some r∧St h (Zh col) V S∧Zd 27 1 V S I (Rq a x k y l D o B p)∧Zd 27 2 V S J (Rq b C s E t F u G w)∧[5].map j=[.bool X]) ?_ ?_
      ·intro j S z;obtain ⟨V,X,c,e,f,g,i⟩:=z;rw [Zkz.eq_1] at c;refine .lL [5] i<|go ?_;refine Zt [2,3,7,1000000] (fun M j Z=>∃ n am c8 c9,c9=M∧Zaz N a b K (U9 N a b v) c9 am c8=some r∧St h (Zh col) n Z∧Zd 27 1 n Z I (Rq a x k y l D o B p)∧Zd 27 2 n Z J (Rq b C s E t F u G w)∧[5,8].map j=[.bool am,.int .i64 c8]) N ⟨_,_,0,_,rfl,c,e,f,g,rfl⟩ ?_;clear c;intro M j Z c6;obtain ⟨n,am,c8,c9,H,c,e,f,g,i⟩:=c6;subst H;refine .lL [5,8] i ?_
       cases c9 with
       | zero=>rw [Zaz.eq_1] at c;cases c
       | succ c9=>
        rw [Zaz.eq_2] at c;refine Zx<|Zx ?_;refine Wp.cutK [2,3,5,7,8,1000000] (fun j W=>∃ m H,Zfe N a b K (U9 N a b v) am c8 (Zaz N a b K (U9 N a b v) c9) H=some r∧St h (Zh col) m W∧Zd 27 1 m W I (Rq a x k y l D o B p)∧Zd 27 2 m W J (Rq b C s E t F u G w)∧[98].map j=[.bool H]) ?_ ?_
        ·intro j W z;obtain ⟨m,H,c,e,f,g,i⟩:=z;rw [Zfe.eq_1] at c;refine .lL [98] i ?_;refine Zm c (fun q c=>go ?_) fun q c=>go ?_
         ·refine Wg (col:=m) (by kernel_rfl) (by kernel_rfl)<|qF ⟨_,_,rfl⟩ ?_;refine qW (fun _ d=>((f.atN).nth (q:=4) rfl).gr (d.bl m)) ?_;refine go ?_;obtain ⟨_,j,c⟩:=bZ c;refine qI j ((L.ks e).addr j) ?_;obtain ⟨_,bz,b0⟩:=(L.ks e).atN j;obtain ⟨⟨_,_,rfl,bm⟩,_⟩:=bz;refine qW (fun _ d=>b0.one.gr (d.bl m)) ?_;refine go ?_;obtain ⟨a6,h,c⟩:=bZ c;refine qI h (bm.addr h) ?_;obtain ⟨_,b1,b2⟩:=bm.atN h;obtain ⟨_,_,rfl,b3,b4⟩:=Wq b1;obtain ⟨_,_,rfl,b5,b6⟩:=Wq b3;obtain ⟨rfl,_⟩:=b5;obtain ⟨⟨b7,b8,rfl,b9⟩,_⟩:=b6;obtain ⟨⟨ca,cb,rfl,cc⟩,_⟩:=b4;refine qv (v:=(.agg #[.bool a6.1.1,.slice b7 a6.1.2.length b8,.slice ca a6.2.length cb])) rfl (fun _ d=>Yl isAgg42 sizeOf42 rfl rfl (b2.gr (d.bl m))) ?_;refine qF ⟨_,_,rfl⟩ ?_;refine qW (fun _ d=>((g.atN).nth (q:=4) rfl).gr (d.bl m)) ?_;refine go ?_;obtain ⟨_,q,c⟩:=bZ c;refine qI q ((R.ks e).addr q) ?_;obtain ⟨_,cd,ce⟩:=(R.ks e).atN q;obtain ⟨⟨_,_,rfl,bn⟩,_⟩:=cd;refine qW (fun _ d=>ce.one.gr (d.bl m)) ?_;refine go ?_;obtain ⟨a9,i,c⟩:=bZ c;refine qI i (bn.addr i) ?_;obtain ⟨_,cf,cg⟩:=bn.atN i;obtain ⟨_,_,rfl,ch,ci⟩:=Wq cf;obtain ⟨_,_,rfl,cj,ck⟩:=Wq ch;obtain ⟨rfl,_⟩:=cj;obtain ⟨⟨cl,cn,rfl,co⟩,_⟩:=ck;obtain ⟨⟨cp,cq,rfl,cr⟩,_⟩:=ci;refine qv (v:=(.agg #[.bool a9.1.1,.slice cl a9.1.2.length cn,.slice cp a9.2.length cq])) rfl (fun _ d=>Yl isAgg42 sizeOf42 rfl rfl (cg.gr (d.bl m))) ?_;obtain ⟨K,M,c⟩:=bZ c;refine qc (v:=(.int .i64 K)) rfl (fun _ d=>⟨_,_,Tj call126 rfl rfl,(Zr5 M (b9.gr (d.bl m)) (cc.gr (d.bl m)) (co.gr (d.bl m)) (cr.gr (d.bl m)):).mono fun _ _ c7=>⟨c7.1,d.trans (.of_below c7.2)⟩⟩) ?_;refine go ?_;refine Y1 ?_;intro _ d;replace d:=d.bl m;refine go ?_;replace f:=f.gr d;replace g:=g.gr d;replace e:=e.grow d;exact ⟨c9,by omega,rfl,⟨_,_,_,_,rfl,c,e,f,g,rfl⟩⟩
         exact ⟨rfl,_,_,c,e,f,g,rfl⟩
        refine go ?_;refine Ye c (fun bb c=>go ?_) fun bb c=>go ?_
        ·refine Xy ⟨_,_,rfl⟩ ?_;refine go ?_;refine lW ((f.atN).nth (q:=4) rfl)<|go ?_;obtain ⟨cu,m,c⟩:=bZ c;refine lI m ((L.ks e).addr m) ?_;refine go ?_;obtain ⟨_,cv,cw⟩:=(L.ks e).atN m;obtain ⟨⟨_,_,rfl,_⟩,_⟩:=cv;refine lW cw.one<|go ?_;refine lV (.bool (decide (c8<(cu.length:Int)))) (X0 (congrArg Value.bool bb) rfl)<|Zl ?_;exact ⟨rfl,_,_,c,e,f,g,rfl⟩
        refine lV (.bool false) (X7 (congrArg Value.bool bb) rfl)<|Zl ?_;exact ⟨rfl,_,_,c,e,f,g,rfl⟩
      refine Wg (col:=A) (by kernel_rfl) (by kernel_rfl)<|go ?_;refine Ye c (fun bd c=>go ?_) fun bd c=>go ?_
      ·refine qF ⟨_,_,rfl⟩ ?_;refine go ?_;refine qW (fun _ d=>((f.atN).nth (q:=4) rfl).gr (d.bl A)) ?_;refine go ?_;obtain ⟨cx,v,c⟩:=bZ c;refine qI v ((L.ks e).addr v) ?_;refine go ?_;obtain ⟨_,cy,cz⟩:=(L.ks e).atN v;obtain ⟨⟨_,_,rfl,_⟩,_⟩:=cy;refine qW (fun _ d=>cz.one.gr (d.bl A)) ?_;refine go ?_;refine qF ⟨_,_,rfl⟩ ?_;refine go ?_;refine qW (fun _ d=>((g.atN).nth (q:=4) rfl).gr (d.bl A)) ?_;refine go ?_;obtain ⟨c0,z,c⟩:=bZ c;refine qI z ((R.ks e).addr z) ?_;refine go ?_;obtain ⟨_,c1,c2⟩:=(R.ks e).atN z;obtain ⟨⟨_,_,rfl,_⟩,_⟩:=c1;refine qW (fun _ d=>c2.one.gr (d.bl A)) ?_;refine go ?_;refine qv (v:=(.bool (decide ((cx.length:Int)=(c0.length:Int))))) rfl (fun _ d=>X0 (congrArg Value.bool bd) rfl) ?_;refine go ?_;refine Y1 ?_;intro _ d;replace d:=d.bl A;replace f:=f.gr d;replace g:=g.gr d;replace e:=e.grow d;exact ⟨rfl,_,_,c,e,f,g,rfl⟩
      refine qv (v:=(.bool false)) rfl (fun _ d=>X7 (congrArg Value.bool bd) rfl) ?_;refine go ?_;refine Y1 ?_;intro _ d;replace d:=d.bl A;replace f:=f.gr d;replace g:=g.gr d;replace e:=e.grow d;exact ⟨rfl,_,_,c,e,f,g,rfl⟩
     cases c;exact ⟨rfl,rfl,e.below⟩
  refine W0<|Z9 f<|Z9 g ?_;obtain ⟨_,I,c⟩:=bZ c;refine Zi (Zvu I (ao.k0.ks e) (aq.k0.ks e)) fun _ _ ⟨A,F⟩=>⟨_,A,?_⟩;replace F:=Rr bo F;refine Vb rfl ?_;replace f:=f.gr F;replace g:=g.gr F;replace e:=e.grow F;refine Ye c (fun D c=>go ?_) fun D c=>go ?_
  ·refine Xy ⟨_,_,rfl⟩ ?_;refine go ?_;refine lW ((f.atN).nth (q:=3) rfl)<|go ?_;refine Xy ⟨_,_,rfl⟩ ?_;refine go ?_;refine lW ((g.atN).nth (q:=3) rfl)<|go ?_;obtain ⟨d,J,c⟩:=bZ c;refine Zi (Z6m J (ap.k0.ks e) (ar.k0.ks e)) fun _ _ ⟨A,G⟩=>⟨_,A,?_⟩;replace G:=Rr bo G;refine lV (.bool d) (X0 (congrArg Value.bool D) rfl)<|go ?_;replace f:=f.gr G;replace g:=g.gr G;replace e:=e.grow G;exact ⟨rfl,_,_,c,e,f,g,rfl⟩
  refine lV (.bool false) (X7 (congrArg Value.bool D) rfl)<|go ?_;exact ⟨rfl,_,_,c,e,f,g,rfl⟩
 refine W0<|Z9 f<|Z9 g ?_;refine go ?_;refine Ye c (fun E c=>go ?_) fun E c=>go ?_
 ·refine lV (.bool true) (X0 (congrArg Value.bool E) rfl)<|Vb rfl<|lP 23 rfl rfl<|lP 23 rfl rfl<|lP 23 rfl rfl<|lP 23 rfl rfl<|lP 23 rfl rfl<|lP 23 rfl rfl<|lP 23 rfl rfl<|lV (.bool true) (X0 rfl rfl)<|Zl ?_;exact ⟨rfl,_,_,c,e,f,g,rfl⟩
 refine Xy ⟨_,_,rfl⟩ ?_;refine go ?_;refine lW ((f.atN).nth (q:=2) rfl)<|go ?_;refine Xy ⟨_,_,rfl⟩ ?_;refine go ?_;refine lW ((g.atN).nth (q:=2) rfl)<|go ?_;refine lV (.bool (!decide ((a.2.2.1.length:Int)=(b.2.2.1.length:Int)))) (X7 (congrArg Value.bool E) rfl)<|Vb rfl ?_;refine Ye c (fun d c=>go ?_) fun d c=>go ?_
 ·refine lV (.bool true) (X0 (congrArg Value.bool d) rfl)<|Zl ?_;exact ⟨rfl,_,_,c,e,f,g,rfl⟩
 refine Xy ⟨_,_,rfl⟩ ?_;refine go ?_;refine lW ((f.atN).nth (q:=4) rfl)<|go ?_;refine Xy ⟨_,_,rfl⟩ ?_;refine go ?_;refine lW ((g.atN).nth (q:=4) rfl)<|go ?_;refine lV (.bool (!decide ((a.2.2.2.2.length:Int)=(b.2.2.2.2.length:Int)))) (X7 (congrArg Value.bool d) rfl)<|Zl ?_;exact ⟨rfl,_,_,c,e,f,g,rfl⟩
def Zc8 (N:Nat) (b:R4) (e:R4):Nat→Int→Option Bool
  | 0,_=>none
  | f+1,a=>if (decide (a<(b.length:Int)))=true then ((Zk b a).bind fun c=>(Zk e a).bind fun d=>(Zmx N ((c.1.1,c.1.2),c.2) ((d.1.1,d.1.2),d.2)).bind fun g=>if (!g)=true then (some false) else ((Zc8 N b e f) (i64.wrap (a+1)))) else (some true)
def Zhh (N:Nat) (a:R4) (b:R4):Option Bool:=
  if (!decide ((a.length:Int)=(b.length:Int)))=true then (some false) else (Zc8 N a b N 0)
theorem Z59 {N p q:Nat} {l m:Option Addr} {col:Ze} {e:World} {d g:R4} {r:Bool} (a:Zhh N d g=some r) (i:Sl rQ col e l p d) (j:Sl rQ col e m q g):
    Calls prog 75 #[.slice l d.length p,.slice m g.length q] e (Vk e r):=by
 refine Xc 4 (m:=29) func75 rfl rfl rfl rfl rfl ?_;rw [Zhh.eq_1] at a;have c:=St.start col e;refine go ?_;replace i:=i.k0;replace j:=j.k0;refine Zm a (fun h a=>go ?_) fun h a=>go ?_
 ·cases a;exact ⟨rfl,rfl,c.below⟩
 refine Zt [0,1,1000000] (fun y z A=>∃ f s k,k=y∧Zc8 N d g k s=some r∧St e (Zh col) f A∧[5].map z=[.int .i64 s]) N ⟨_,0,_,rfl,a,c,rfl⟩ ?_;clear a;intro y z A D;obtain ⟨f,s,k,v,a,c,w⟩:=D;subst v;refine .lL [5] w ?_
 cases k with
 | zero=>rw [Zc8.eq_1] at a;cases a
 | succ k=>
  rw [Zc8.eq_2] at a;refine go ?_;refine Zm a (fun h a=>go ?_) fun h a=>go ?_
  ·refine Wg (col:=f) (by kernel_rfl) (by kernel_rfl)<|go ?_;obtain ⟨t,n,a⟩:=bZ a;refine qI n ((i.ks c).addr n) ?_;obtain ⟨_,H,X⟩:=(i.ks c).atN n;obtain ⟨_,_,rfl,E,V⟩:=Wq H;obtain ⟨_,_,rfl,B,J⟩:=Wq E;obtain ⟨rfl,_⟩:=B;obtain ⟨⟨P,T,rfl,aa⟩,_⟩:=J;obtain ⟨⟨M,R,rfl,ab⟩,_⟩:=V;refine qv (v:=(.agg #[.bool t.1.1,.slice P t.1.2.length T,.slice M t.2.length R])) rfl (fun _ b=>Yl isAgg42 sizeOf42 rfl rfl (X.gr (b.bl f))) ?_;refine go ?_;obtain ⟨u,o,a⟩:=bZ a;refine qI o ((j.ks c).addr o) ?_;obtain ⟨_,I,Y⟩:=(j.ks c).atN o;obtain ⟨_,_,rfl,F,W⟩:=Wq I;obtain ⟨_,_,rfl,C,K⟩:=Wq F;obtain ⟨rfl,_⟩:=C;obtain ⟨⟨Q,U,rfl,x⟩,_⟩:=K;obtain ⟨⟨O,S,rfl,Z⟩,_⟩:=W;refine qv (v:=(.agg #[.bool u.1.1,.slice Q u.1.2.length U,.slice O u.2.length S])) rfl (fun _ b=>Yl isAgg42 sizeOf42 rfl rfl (Y.gr (b.bl f))) ?_;obtain ⟨G,L,a⟩:=bZ a;refine qc (v:=(.bool G)) rfl (fun _ b=>⟨_,_,Tj call11 rfl rfl,(Z58 L (aa.gr (b.bl f)) (ab.gr (b.bl f)) (x.gr (b.bl f)) (Z.gr (b.bl f)):).mono fun _ _ x=>⟨x.1,b.trans (.of_below x.2)⟩⟩) ?_;refine go ?_;refine Y1 fun _ b=>go ?_;replace c:=c.grow (b.bl f);refine Zm a (fun h a=>go ?_) fun h a=>go ?_
   ·cases a;exact ⟨rfl,rfl,c.below⟩
   exact ⟨k,by omega,rfl,⟨_,_,_,rfl,a,c,rfl⟩⟩
  cases a;exact ⟨rfl,rfl,c.below⟩
def Zfc (N:Nat) (b:R0) (c:R0) (d:Bool) (a:Int) (kk_L1:(Bool→Int→Option Bool)) (e:Bool):Option Bool:=
  if e=true then ((Zk b.2.2.2.2 a).bind fun f=>(Zk c.2.2.2.2 a).bind fun g=>(Zhh N f g).bind fun i=>kk_L1 i (i64.wrap (a+1))) else (some d)
def Zax (N:Nat) (a:R0) (b:R0):Nat→Bool→Int→Option Bool
  | 0,_,_=>none
  | e+1,c,d=>if c=true then (Zfc N a b c d (Zax N a b e) (decide (d<(a.2.2.2.2.length:Int)))) else (Zfc N a b c d (Zax N a b e) false)
def Q2 (N:Nat) (a:R0) (b:R0):Option Bool:=
  (Zdk N (a.1,a.2.1,a.2.2.1,a.2.2.2.1,a.2.2.2.2) (b.1,b.2.1,b.2.2.1,b.2.2.2.1,b.2.2.2.2)).bind fun c=>Zax N a b N c 0
theorem Zor {N s t u w x y M B:Nat} {C F H I G J K L:Option Addr} {col:Ze} {f:World} {b c:R0} {r:Bool} (a:Q2 N b c=some r) (P:Sl Za.str col f C s b.2.1) (Q:Sl rV col f F t b.2.2.1) (R:Sl rP col f H u b.2.2.2.1) (k:Sl (Za.slice rQ) col f I w b.2.2.2.2) (S:Sl Za.str col f G x c.2.1) (T:Sl rV col f J y c.2.2.1) (X:Sl rP col f K M c.2.2.2.1) (l:Sl (Za.slice rQ) col f L B c.2.2.2.2):
    Calls prog 21 #[(.agg (Rq b C s F t H u I w)),(.agg (Rq c G x J y K M L B))] f (Vk f r):=by
 refine Xc 4 (m:=32) func21 rfl rfl rfl rfl rfl ?_;rw [Q2.eq_1] at a;have e:=St.start col f;refine go ?_;refine Xg (col:=(Zh col)) 1 rfl fun Z _ Y A g=>Xg (col:=Y) 2 rfl fun E _ O v i=>go ?_;replace g:=g.gr v;refine lV _ (Z5 isAgg27 sizeOf27 g)<|lV _ (Z5 isAgg27 sizeOf27 i) ?_;obtain ⟨_,z,a⟩:=bZ a;replace k:=k.k0;replace l:=l.k0;replace e:=(e.grow A).grow v;refine Zi (Z6k z (P.k0.ks e) (Q.k0.ks e) (R.k0.ks e) (k.ks e) (S.k0.ks e) (T.k0.ks e) (X.k0.ks e) (l.ks e)) fun _ _ ⟨X,n⟩=>⟨_,X,?_⟩;replace n:=Rr O n;refine go ?_;replace g:=g.gr n;replace i:=i.gr n;replace e:=e.grow n;refine Zt [2,3,1000000] (fun V o z=>∃ A D p j,j=V∧Zax N b c j D p=some r∧St f (Zh col) A z∧Zd 27 1 A z Z (Rq b C s F t H u I w)∧Zd 27 2 A z E (Rq c G x J y K M L B)∧[5,6].map o=[.bool D,.int .i64 p]) N ⟨_,_,0,_,rfl,a,e,g,i,rfl⟩ ?_;clear a;intro V o z n;obtain ⟨A,D,p,j,q,a,e,g,i,m⟩:=n;subst q;refine .lL [5,6] m ?_
 cases j with
 | zero=>rw [Zax.eq_1] at a;cases a
 | succ j=>
  rw [Zax.eq_2] at a;refine Zx<|Zx ?_;refine Wp.cutK [2,3,5,6,1000000] (fun o q=>∃ h V,Zfc N b c D p (Zax N b c j) V=some r∧St f (Zh col) h q∧Zd 27 1 h q Z (Rq b C s F t H u I w)∧Zd 27 2 h q E (Rq c G x J y K M L B)∧[17].map o=[.bool V]) ?_ ?_
  ·intro o q f;obtain ⟨h,V,a,e,g,i,m⟩:=f;rw [Zfc.eq_1] at a;refine .lL [17] m ?_;refine Zm a (fun Z a=>go ?_) fun Z a=>go ?_
   ·refine Wg (col:=h) (by kernel_rfl) (by kernel_rfl)<|qF ⟨_,_,rfl⟩ ?_;refine qW (fun _ d=>((g.atN).nth (q:=4) rfl).gr (d.bl h)) ?_;refine go ?_;obtain ⟨_,O,a⟩:=bZ a;refine qI O ((k.ks e).addr O) ?_;obtain ⟨_,U,aj⟩:=(k.ks e).atN O;obtain ⟨⟨_,_,rfl,ak⟩,_⟩:=U;refine qW (fun _ d=>aj.one.gr (d.bl h)) ?_;refine qF ⟨_,_,rfl⟩ ?_;refine qW (fun _ d=>((i.atN).nth (q:=4) rfl).gr (d.bl h)) ?_;refine go ?_;obtain ⟨_,U,a⟩:=bZ a;refine qI U ((l.ks e).addr U) ?_;obtain ⟨_,W,am⟩:=(l.ks e).atN U;obtain ⟨⟨_,_,rfl,an⟩,_⟩:=W;refine qW (fun _ d=>am.one.gr (d.bl h)) ?_;obtain ⟨m,o,a⟩:=bZ a;refine qc (v:=(.bool m)) rfl (fun _ d=>⟨_,_,Tj call75 rfl rfl,(Z59 o (ak.gr (d.bl h)) (an.gr (d.bl h)):).mono fun _ _ v=>⟨v.1,d.trans (.of_below v.2)⟩⟩) ?_;refine go ?_;refine Y1 ?_;intro _ d;replace d:=d.bl h;refine go ?_;replace g:=g.gr d;replace i:=i.gr d;replace e:=e.grow d;exact ⟨j,by omega,rfl,⟨_,_,_,_,rfl,a,e,g,i,rfl⟩⟩
   cases a;exact ⟨rfl,rfl,e.below⟩
  refine go ?_;refine Ye a (fun W a=>go ?_) fun W a=>go ?_
  ·refine Xy ⟨_,_,rfl⟩ ?_;refine go ?_;refine lW ((g.atN).nth (q:=4) rfl)<|go ?_;refine lV (.bool (decide (p<(b.2.2.2.2.length:Int)))) (X0 (congrArg Value.bool W) rfl)<|Zl ?_;exact ⟨rfl,_,_,a,e,g,i,rfl⟩
  refine lV (.bool false) (X7 (congrArg Value.bool W) rfl)<|Zl ?_;exact ⟨rfl,_,_,a,e,g,i,rfl⟩
section
variable {N:Nat} {n:Zq} (hb:Zln n) (hN:1099511627777<N)
include hb hN
omit hN in
theorem Z4b {i:Nat} (hi:i<n.2.2.2.2.length) (m1:ByteArray) (m2:List ByteArray) (m3:List R3) (m4:List R2) (m5:List (List QV)) (h5:m5.length≤1048576) (kk:ByteArray→List ByteArray→List R3→List R2→List (List QV)→Int→Option Zq):∀ (f k:Nat),k≤n.2.2.2.2[i].length→n.2.2.2.2[i].length<f+k→Zhx N n m1 m2 m3 m4 m5 (i:Int) kk f (k:Int) (n.2.2.2.2[i].take k)=kk m1 m2 m3 m4 (m5++[n.2.2.2.2[i]]) ((i+1:Nat):Int)
 | 0,k,b,c=>by omega
 | f+1,k,b,c=>by
  have d:=hb.tn
  have e:=hb.tl _ (aB hi)
  rw [Zhx.eq_2,Zs hi,oB]
  by_cases hk:k<n.2.2.2.2[i].length
  ·have j:=hb.tm _ (aB hi) _ (aB hk)
   have a:=Z4b hi m1 m2 m3 m4 m5 h5 kk f (k+1) (by omega) (by omega)
   have g:(n.2.2.2.2[i].take k).length≤1048576:=by rw [nK];omega
   rw [cB hk] at a
   rw [if_pos (dT (by omega)),Zs hk,oB,Z7 (by simp only [nN,maxLen];omega),Z7 (by simp only [nN,maxLen];omega),Z7 (by simp only [aK,maxLen];omega),bF,bF,wS (by omega)]
   exact a
  ·rw [if_neg (dF (by omega)),bA (by omega),Z7 (by simp only [aK,maxLen];omega),wS (by omega)]
theorem Z4a:∀ (f i:Nat),i≤n.2.2.2.2.length→n.2.2.2.2.length<f+i→Zdm N n f n.1 n.2.1 n.2.2.1 n.2.2.2.1 (n.2.2.2.2.take i) (i:Int)=some n
 | 0,i,b,c=>by omega
 | f+1,i,b,c=>by
  have d:=hb.tn
  rw [Zdm.eq_2]
  by_cases hi:i<n.2.2.2.2.length
  ·have e:=hb.tl _ (aB hi)
   have a:=Z4b (N:=N) hb hi n.1 n.2.1 n.2.2.1 n.2.2.2.1 (n.2.2.2.2.take i) (by rw [nK];omega) (Zdm N n f) N 0 (aQ _) (by omega)
   rw [List.take_zero,← cB hi] at a
   rw [if_pos (dT (by omega))]
   exact a.trans (Z4a f (i+1) (by omega) (by omega))
  ·rw [if_neg (dF (by omega)),bA (by omega)]
theorem Z39:∀ (f i:Nat),i≤n.2.2.2.1.length→n.2.2.2.1.length<f+i→Zhw N n f n.1 n.2.1 n.2.2.1 (n.2.2.2.1.take i) [] (i:Int)=some n
 | 0,i,b,c=>by omega
 | f+1,i,b,c=>by
  have d:=hb.pn
  rw [Zhw.eq_2]
  by_cases hi:i<n.2.2.2.1.length
  ·have e:=hb.pl _ (aB hi)
   have a:=Z39 f (i+1) (by omega) (by omega)
   rw [cB hi] at a
   rw [if_pos (dT (by omega)),Zs hi,oB,Z7 (by simp only [nN,maxLen];omega),Z7 (by simp only [nK,aK,maxLen];omega),bF,wS (by omega)]
   exact a
  ·have g:=hb.tn
   rw [if_neg (dF (by omega)),bA (by omega)]
   exact Z4a hb hN N 0 (aQ _) (by omega)
theorem Z38:∀ (f i:Nat),i≤n.2.2.1.length→n.2.2.1.length<f+i→Zhv N n f n.1 n.2.1 (n.2.2.1.take i) [] [] (i:Int)=some n
 | 0,i,b,c=>by omega
 | f+1,i,b,c=>by
  have d:=hb.vn
  rw [Zhv.eq_2]
  by_cases hi:i<n.2.2.1.length
  ·have e:=hb.vl _ (aB hi)
   have a:=Z38 f (i+1) (by omega) (by omega)
   rw [cB hi] at a
   rw [if_pos (dT (by omega)),Zs hi,oB,Z7 (by simp only [nN,maxLen];omega),Z7 (by simp only [nK,aK,maxLen];omega),bF,wS (by omega)]
   exact a
  ·have g:=hb.pn
   rw [if_neg (dF (by omega)),bA (by omega)]
   exact Z39 hb hN N 0 (aQ _) (by omega)
theorem Z4c:Zb4 N n=some n:=by
 have a:=hb.nm;have b:=hb.vn
 rw [Zb4,Z7 (by simp only [nN,maxLen];omega),bF]
 exact Z38 hb hN N 0 (aQ _) (by omega)
omit hb in
theorem Zq9 {l:List ByteArray} (hl:l.length≤1048576):Zkl N l l=some true:=by
 have L:∀ (f i:Nat),i≤l.length→l.length<f+i→Zhi N l l f (i:Int)=some true:=by
  intro f
  induction f with
  | zero=>intro i a b;omega
  | succ f c=>
   intro i a b
   rw [Zhi.eq_2]
   by_cases hi:i<l.length
   ·rw [if_pos (dT (by omega)),Zs hi,oB,oB,if_neg (by rw [decide_eq_true rfl];decide),wS (by omega)]
    exact c (i+1) (by omega) (by omega)
   ·rw [if_neg (dF (by omega))]
 rw [Zkl,if_neg (by rw [decide_eq_true rfl];decide)]
 exact L N 0 (aQ _) (by omega)
omit hb in
theorem Z2l {l:List Int} (hl:l.length≤1048576):Zkm N l l=some true:=by
 have L:∀ (f i:Nat),i≤l.length→l.length<f+i→Zhl N l l f (i:Int)=some true:=by
  intro f
  induction f with
  | zero=>intro i a b;omega
  | succ f c=>
   intro i a b
   rw [Zhl.eq_2]
   by_cases hi:i<l.length
   ·rw [if_pos (dT (by omega)),Zs hi,oB,oB,if_neg (by rw [decide_eq_true rfl];decide),wS (by omega)]
    exact c (i+1) (by omega) (by omega)
   ·rw [if_neg (dF (by omega))]
 rw [Zkm,if_neg (by rw [decide_eq_true rfl];decide)]
 exact L N 0 (aQ _) (by omega)
omit hb in
theorem Zyj {P:List R2} (hP:P.length≤1048576) (hl:∀ l ∈ P,l.length≤1048576):Zm7 N P P=some true:=by
 have L:∀ (f i:Nat),i≤P.length→P.length<f+i→Zhy N P P f (i:Int)=some true:=by
  intro f
  induction f with
  | zero=>intro i a b;omega
  | succ f c=>
   intro i a b
   rw [Zhy.eq_2]
   by_cases hi:i<P.length
   ·rw [if_pos (dT (by omega)),Zs hi,oB,oB,Z2l hN (hl _ (aB hi)),oB,if_neg (by decide),wS (by omega)]
    exact c (i+1) (by omega) (by omega)
   ·rw [if_neg (dF (by omega))]
 rw [Zm7,if_neg (by rw [decide_eq_true rfl];decide)]
 exact L N 0 (aQ _) (by omega)
variable (hlim:∀ t ∈ n.2.2.2.2,∀ x ∈ t,W2 x) (hr:Z3 N 8388608)
include hlim hr
omit hN in
theorem Z2q {i:Nat} (hi:i<n.2.2.2.2.length) (kk:Bool→Int→Option Bool):∀ (f k:Nat),k≤n.2.2.2.2[i].length→n.2.2.2.2[i].length<f+k→Zaz N n n (i:Int) kk f true (k:Int)=kk true ((i+1:Nat):Int)
 | 0,k,c,d=>by omega
 | f+1,k,c,d=>by
  have g:=hb.tn
  have j:=hb.tl _ (aB hi)
  rw [Zaz.eq_2,if_pos rfl,Zs hi,oB]
  by_cases hk:k<n.2.2.2.2[i].length
  ·have l:=hb.tm _ (aB hi) _ (aB hk)
   have a:=hlim _ (aB hi) _ (aB hk)
   have e:=Z2q hi kk f (k+1) (by omega) (by omega)
   have cm:=Zqx (N:=N) (Zab a.1 a.2) (Zab a.1 a.2) (hr.mono (by omega))
   have z:Ty (Zr n.2.2.2.2[i][k]) (Zr n.2.2.2.2[i][k])=0:=by rw [Ty,if_neg cZ,if_neg cZ]
   rw [z] at cm
   have b:Zc7 N ((n.2.2.2.2[i][k].1.1,n.2.2.2.2[i][k].1.2),n.2.2.2.2[i][k].2) ((n.2.2.2.2[i][k].1.1,n.2.2.2.2[i][k].1.2),n.2.2.2.2[i][k].2)=some 0:=cm
   rw [decide_eq_true (by omega),Zfe,if_pos rfl,Zs hi,oB,Zs hk,oB,oB,Zs hk,oB,b,oB,wS (by omega)]
   exact e
  ·rw [decide_eq_false (by omega),Zfe,if_neg (by decide),Zm6,wS (by omega)]
theorem Z2o:∀ (f i:Nat),i≤n.2.2.2.2.length→n.2.2.2.2.length<f+i→U9 N n n f true (i:Int)=some true
 | 0,i,a,b=>by omega
 | f+1,i,a,b=>by
  have c:=hb.tn
  rw [U9.eq_2]
  by_cases hi:i<n.2.2.2.2.length
  ·have d:=hb.tl _ (aB hi)
   rw [if_pos (dT (by omega)),if_pos rfl,Zs hi,oB,oB,decide_eq_true rfl,Zkz]
   exact (Z2q hb hlim hr hi (U9 N n n f) N 0 (aQ _) (by omega)).trans (Z2o f (i+1) (by omega) (by omega))
  ·rw [if_neg (dF (by omega))]
theorem Z2m:∀ (f i:Nat),i≤n.2.2.1.length→n.2.2.1.length<f+i→Zay N n n f true (i:Int)=some true
 | 0,i,b,c=>by omega
 | f+1,i,b,c=>by
  have d:=hb.vn
  rw [Zay.eq_2]
  by_cases hi:i<n.2.2.1.length
  ·have a:=hb.vl _ (aB hi)
   rw [if_pos (dT (by omega)),if_pos rfl,Zs hi,oB,oB,Zq9 hN a,oB,Zky,wS (by omega)]
   exact Z2m f (i+1) (by omega) (by omega)
  ·have e:=hb.tn
   rw [if_neg (dF (by omega))]
   exact Z2o hb hN hlim hr N 0 (aQ _) (by omega)
theorem Xbv:Zdk N n n=some true:=by
 have d:=hb.vn
 have a:=Zq9 (N:=N) hN hb.nm
 have b:=Zyj (N:=N) hN hb.pn hb.pl
 have c:=Z2m hb hN hlim hr N 0 (aQ _) (by omega)
 rw [Zdk,if_neg (by rw [decide_eq_true rfl];decide),if_neg (by rw [decide_eq_true rfl];decide),decide_eq_true rfl,Zht,if_neg (by decide),a,oB,if_pos rfl,b,oB,Zkx]
 exact c
omit hb hlim hr in
theorem Xb2 {t:List QV} (ht:t.length≤1048576) (hx:∀ x ∈ t,x.1.2.length≤1048576∧x.2.length≤1048576):Zhh N t t=some true:=by
 have L:∀ (f i:Nat),i≤t.length→t.length<f+i→Zc8 N t t f (i:Int)=some true:=by
  intro f
  induction f with
  | zero=>intro i a b;omega
  | succ f c=>
   intro i a b
   rw [Zc8.eq_2]
   by_cases hi:i<t.length
   ·have d:=hx _ (aB hi)
    rw [if_pos (dT (by omega)),Zs hi,oB,oB,Z2k ⟨by omega,by omega⟩ hN,oB,if_neg (by decide),wS (by omega)]
    exact c (i+1) (by omega) (by omega)
   ·rw [if_neg (dF (by omega))]
 rw [Zhh,if_neg (by rw [decide_eq_true rfl];decide)]
 exact L N 0 (aQ _) (by omega)
theorem Z8g:Q2 N n n=some true:=by
 have e:=hb.tn
 have L:∀ (f i:Nat),i≤n.2.2.2.2.length→n.2.2.2.2.length<f+i→Zax N n n f true (i:Int)=some true:=by
  intro f
  induction f with
  | zero=>intro i a b;omega
  | succ f c=>
   intro i a b
   rw [Zax.eq_2,if_pos rfl]
   by_cases hi:i<n.2.2.2.2.length
   ·rw [decide_eq_true (by omega),Zfc,if_pos rfl,Zs hi,oB,oB,Xb2 hN (hb.tl _ (aB hi)) (hb.tm _ (aB hi)),oB,wS (by omega)]
    exact c (i+1) (by omega) (by omega)
   ·rw [decide_eq_false (by omega),Zfc,if_neg (by decide)]
 have s:=Xbv hb hN hlim hr
 have d:Zdk N (n.1,n.2.1,n.2.2.1,n.2.2.2.1,n.2.2.2.2) (n.1,n.2.1,n.2.2.1,n.2.2.2.1,n.2.2.2.2)=some true:=s
 rw [Q2,d,oB]
 exact L N 0 (aQ _) (by omega)
end
theorem Znr (a:QV) (l:List QV):Xj (a :: l)=Zr a+Xj l:=by rw [Xj,bJ,eY,Xj]
def Zdt (s:Int) (l:List Int):List QV:=l.map fun w:Int=>Zn ((w:Rat) / (s:Rat))
theorem Z1z (s:Int):∀ l:List Int,(∀ x ∈ l,0≤x)→Xj (Zdt s l)=((Xq l:Nat):Rat) / (s:Rat)
 | [],_=>by rw [Xq,bQ];show (0:Rat)=0 * _;rw [eN]
 | x :: l,h=>by
  have c:=h x aO
  have a:=Z1z s l fun y b=>h y (aN _ b)
  obtain ⟨d,rfl⟩:∃ d:Nat,x=(d:Int):=⟨x.toNat,by omega⟩
  rw [Zdt] at a
  rw [Zdt,bJ,Znr,Y5,a,Xq,aC,iA,bQ,bQ,bQ,jE]
  rfl
theorem Znx:∀ a b:List Int,Xq (a++b)=Xq a+Xq b
 | [],b=>by rw [bF,Xq,cC]
 | x :: a,b=>by rw [cK,Xq,Xq,Znx a b,dZ]
theorem Z3q:∀ {l:List Int} {x:Int},x ∈ l→x.toNat≤Xq l
 | y :: l,x,h=>by
  rw [Xq]
  rcases bL.1 h with rfl | h
  ·omega
  ·have:=Z3q h;omega
def Zs9 (c:List Int):List Int:=c.map (· +1)
theorem Xci:∀ c:List Int,(∀ x ∈ c,0≤x)→Xq (Zs9 c)=Xq c+c.length
 | [],_=>rfl
 | x :: c,h=>by
  have d:=h x aO
  have a:=Xci c fun y b=>h y (aN _ b)
  rw [Zs9] at a
  rw [Zs9,bJ,Xq,Xq,a,nC];omega
theorem Z0b:∀ l:List Int,(∀ x ∈ l,0≤x)→Xj (l.map fun y:Int=>Zn (y:Rat))=((Xq l:Nat):Rat)
 | [],_=>rfl
 | x :: l,h=>by
  have c:=h x aO
  have a:=Z0b l fun y b=>h y (aN _ b)
  obtain ⟨d,rfl⟩:∃ d:Nat,x=(d:Int):=⟨x.toNat,by omega⟩
  rw [bJ,Znr,Y5,a,Xq,aC,iA];rfl
theorem Zzd (M:Rat) (c:List Int) (k:Nat):(Ua M c).take k=Ua M (c.take k):=by rw [Ua,Ua,List.map_take]
theorem Zzc (M:Rat) (c:List Int) (k:Nat):(Ua M c).drop k=Ua M (c.drop k):=by rw [Ua,Ua,List.map_drop]
def Zib:List Rat→Rat
 | []=>1
 | x :: l=>x * Zib l
def Vv:List Rat→Rat
 | []=>0
 | x :: l=>x+Vv l
def Zlf:List (Nat×Rat)→Nat
 | []=>0
 | p :: l=>p.1+Zlf l
theorem Xal:∀ a b:List Rat,Zib (a++b)=Zib a * Zib b
 | [],b=>by rw [bF,Zib,gN]
 | x :: a,b=>by rw [cK,Zib,Zib,Xal a b,bP]
theorem Z3v:∀ a b:List Rat,Vv (a++b)=Vv a+Vv b
 | [],b=>by rw [bF,Vv,kS]
 | x :: a,b=>by rw [cK,Vv,Vv,Z3v a b,kN]
theorem Z96 (c:List Int):Ua 0 c=c.map fun y:Int=>Zn (y:Rat):=by
 rw [Ua]
 refine fC fun x _=>?_
 rw [iY]
theorem Z2z {t:List QV} {c:List Int} (h0:∀ x ∈ c,0≤x):Sp t (Ua 0 c)=if Xq c=0 then t else Zdt ((Xq c:Nat):Int) c:=by
 have e:=Z0b c h0
 rw [Sp,Z96,e]
 by_cases h:Xq c=0
 ·rw [if_pos h,if_pos (by rw [h];rfl)]
 ·have a:¬ ((Xq c:Nat):Rat)=0:=fun b=>h (iB.1 b)
  rw [if_neg h,if_neg a,Zdt,gJ]
  refine fC fun x _=>?_
  show Zn (Zr (Zn (x:Rat)) / _)=_
  rw [Y5];rfl
def Xp (n:Zq) (w:List Int):Nat→Nat→Rat
 | 0,_=>1
 | m+1,k=>ent n w k * Xp n w m (k+1)
theorem Zqi (n:Zq) (w:List Int):∀ m k q,Ti n w m k q=q * Xp n w m k
 | 0,k,q=>by rw [Ti,Xp,dL]
 | m+1,k,q=>by rw [Ti,Zqi n w m,Xp,bP]
structure Zf4 (b k m:Nat) (l:List QV):Prop where
 len:l.length=m * k
 ent:∀ x ∈ l,0≤Zr x∧Zr x≤1∧RV b x
 row:∀ j,j<m→Xj ((l.drop (j * k)).take k)=1
theorem Zf4.cons {b k m:Nat} {R l:List QV} (hR:∀ x ∈ R,0≤Zr x∧Zr x≤1∧RV b x) (hs:Xj R=1) (hl:R.length=k) (h:Zf4 b k m l):Zf4 b k (m+1) (R++l) where
 len:=by rw [nA,hl,h.len,bB,aV,fO]
 ent:=fun x hx=>(List.mem_append.1 hx).elim (hR x) (h.ent x)
 row:=fun j hj=>by
  cases j with
  | zero=>rw [dP,aM,List.take_append_of_le_length (by omega),bA (by omega)];exact hs
  | succ j=>
   have:=h.row j (by omega)
   rw [show (j+1) * k=k+j * k by rw [bB,aV,fO],← List.drop_drop,List.drop_left' hl]
   exact this
theorem Z0a:∀ l:List QV,Xj (l.map Yy)=Xj l
 | []=>rfl
 | x :: l=>by rw [bJ,Znr,Znr,Zwg,Z0a l]
section
variable {N W:Nat} {n:Zq} (hf:X2 N n) (hs:W8 n W) {r:List R2} (hl:r.length≤12)
include hf hs hl
omit hl in
theorem Zwz {v:Nat} (hv:v<n.2.1.length):∀ x ∈ n.2.2.2.2.getD v [],qs (Zr x)≤X6 (n.2.2.2.2.getD v [])+1:=fun x a=>by
 have b:=(Ziv hf hs hv x a).1
 have c:=Zz8 (Zab b.1 b.2)
 have d:=Ztl a
 omega
end
/-! other tables:what is learnt is as likely -/
/-! assignments with weights -/
def V7 (n:Zq) (v:Nat) (c:List Int) (p:Nat×List Int):List Int:=c.set (X3 n v p.2) (c.getD (X3 n v p.2) 0+(p.1:Int))
def Wj (n:Zq) (v:Nat) (L:List R7):List Int:=L.foldl (V7 n v) (aD (n.2.2.2.2.getD v []).length 0)
theorem Z7h (n:Zq) (v:Nat) (L:List R7) (p:Nat×List Int):Wj n v (L++[p])=V7 n v (Wj n v L) p:=by
 rw [Wj,List.foldl_append];rfl
theorem Xam (n:Zq) (v:Nat) (c:List Int) (p:Nat×List Int):(V7 n v c p).length=c.length:=by rw [V7,nS]
theorem Zxf (n:Zq) (v:Nat):∀ (L:List R7) (c:List Int),(L.foldl (V7 n v) c).length=c.length
 | [],c=>rfl
 | p :: L,c=>by rw [eP,Zxf n v L,Xam]
theorem Zow (n:Zq) (v:Nat) (L:List R7):(Wj n v L).length=(n.2.2.2.2.getD v []).length:=by rw [Wj,Zxf,List.length_replicate]
theorem Zsq (n:Zq) (v:Nat):∀ (L:List R7) (c:List Int),(∀ x ∈ c,0≤x)→∀ x ∈ L.foldl (V7 n v) c,0≤x
 | [],c,h=>h
 | p :: L,c,h=>by
  rw [eP]
  refine Zsq n v L _ fun x d=>?_
  rw [V7] at d
  rcases eK d with e | rfl
  ·exact h x e
  ·have:0≤c.getD (X3 n v p.2) 0:=by
    rcases bU (X3 n v p.2) c.length with b | b
    ·rw [Xl b];exact h _ (aB b)
    ·rw [aE,cG b];exact Int.le_refl _
   omega
theorem Zlv (n:Zq) (v:Nat) (L:List R7):∀ x ∈ Wj n v L,0≤x:=
 Zsq n v L _ fun x b=>by rw [cR b];exact Int.le_refl _
def Ud (n:Zq) (L:List R7):List (List QV):=(List.range n.2.1.length).map fun v=>Wv (cnt n v) (U1 n v) ((n.2.2.2.2.getD v []).map Yy) (Ua 0 (Wj n v L))
theorem Zui {n:Zq} {L:List R7} {v:Nat} (hv:v<n.2.1.length):(Ud n L).getD v []=Wv (cnt n v) (U1 n v) ((n.2.2.2.2.getD v []).map Yy) (Ua 0 (Wj n v L)):=by
 rw [Xl (by rw [Ud,aH,dR];exact hv)]
 simp only [Ud,cA,gS]
def Zz (n:Zq) (C:List R2):Rat:=Vv (C.map fun x=>Xp n x n.2.1.length 0)
def aW (D:Nat) (n:Zq) (p:Rat) (x:List Int):Nat:=((D:Rat) * Xp n x n.2.1.length 0 / p).num.toNat
def Vo (D:Nat) (n:Zq) (C:List R2):List R7:=C.map fun x=>(aW D n (Zz n C) x,x)
theorem Zh7 {n:Nat} (h:n≠0):(n:Rat)≠0:=fun e=>h (by
 have:((n:Nat):Rat)=((0:Nat):Rat):=e
 exact iB.1 this)
theorem Zd4 {a b:Rat} (h:b≠0):a / b * b=a:=by rw [bQ,bP,Rat.inv_mul_cancel _ h,dL]
section
variable {D:Nat} {p:Rat} (hp:0<p) (a:List Int→Nat)
variable (P P':List Int→Rat)
theorem Zwx:∀ C:List R2,(∀ x ∈ C,(a x:Rat) * p=(D:Rat) * P x)→((Zlf (C.map fun x=>(a x,P' x / P x)):Nat):Rat) * p=(D:Rat) * Vv (C.map P)
 | [],_=>by rw [dD,Zlf,dD,Vv,Rat.mul_zero];exact eN p
 | x :: C,h=>by
  rw [bJ,Zlf,bJ,Vv,iA,jE,Zwx C fun y b=>h y (aN _ b),h x aO,Rat.mul_add]
end
def Zeg (N:Nat) (rc:(R0→R2→Int→Option Rd)) (a:R0) (b:Int) (g:List ByteArray):Nat→R2→Int→Bool→R2→R2→Option Rd
  | 0,_,_,_,_,_=>none
  | l+1,c,e,i,j,k=>if (decide (e<(g.length:Int)))=true then ((Zk c b).bind fun o=>(some (c.set (aA b) e)).bind fun m=>(rc (a.1,a.2.1,a.2.2.1,a.2.2.2.1,a.2.2.2.2) m (i64.wrap (b+1))).bind fun d=>(Qo N ((i,j),k) ((d.1.1.1,d.1.1.2),d.1.2)).bind fun f=>(Zeg N rc a b g l) d.2 (i64.wrap (e+1)) f.1.1 f.1.2 f.2) else ((Zk c b).bind fun p=>(some (c.set (aA b) (-1))).bind fun n=>some (((i,j),k),n))
def Zef (N:Nat) (rc:(R0→R2→Int→Option Rd)) (a:R0):Nat→R2→Bool→R2→R2→Int→Option Rd
  | 0,_,_,_,_,_=>none
  | f+1,b,g,i,j,c=>if (decide (c<(b.length:Int)))=true then ((Zk b c).bind fun k=>if (decide (0≤k))=true then ((Zef N rc a f) b g i j (i64.wrap (c+1))) else ((Qq N ([]:List R1)).bind fun d=>(Zk a.2.2.1 c).bind fun l=>Zeg N rc a c l N b 0 d.1.1 d.1.2 d.2)) else ((Zan N (a.1,a.2.1,a.2.2.1,a.2.2.2.1,a.2.2.2.2) b).bind fun e=>some (((e.1.1.1,e.1.1.2),e.1.2),b))
def Zpc (N:Nat) (rc:(R0→R2→Int→Option Rd)) (a:R0) (b:List Int) (c:Int):Option Rd:=
  Zef N rc a N b false ([]:List Int) ([]:List Int) c
theorem Z43 (N:Nat) (rc:(R0→R2→Int→Option Rd)) (IH:∀ (c1:Nat) (c2:Nat) (col:Ze) (g:World) (d:Nat) (F:Up [d]=true) (bl:Option Addr) (c6:Nat) (c7:Option Addr) (c8:Nat) (L:Option Addr) (M:Nat) (X:Option Addr) (P:Nat) (b:R0) (i:Option Addr) (k:Nat) (p:List Int) (Z:Int) (ak:Sl Za.str col g bl c6 b.2.1) (da:Sl rV col g c7 c8 b.2.2.1) (al:Sl rP col g L M b.2.2.2.1) (am:Sl (Za.slice rQ) col g X P b.2.2.2.2) (Q:Zb rI 3 d col g i k p) (r:Rd) (c:rc b p Z=some r),Calls prog 117 #[(.agg (Rq b bl c6 c7 c8 L M X P)),.slice i p.length k,.int .i64 Z] g (fun e h=>∃ (col':Ze) (q:Option Addr) (n:Nat) (s:Option Addr) (o:Nat),e= .returned ((.agg #[.bool r.1.1.1,.slice q r.1.1.2.length n,.slice s r.1.2.length o]))∧Zu (pS [d]) col g col' h∧Zb rU 45 c1 col' h q n r.1.1.2∧Zb rU 45 c2 col' h s o r.1.2∧Zb rI 3 d col' h i k r.2∧r.2.length=p.length)) (c1 c2:Nat) (col:Ze) (g:World) (d:Nat) (F:Up [d]=true) (bl:Option Addr) (c6:Nat) (c7:Option Addr) (c8:Nat) (L:Option Addr) (M:Nat) (X:Option Addr) (P:Nat) (b:R0) (i:Option Addr) (k:Nat) (p:List Int) (Z:Int) (ak:Sl Za.str col g bl c6 b.2.1) (da:Sl rV col g c7 c8 b.2.2.1) (al:Sl rP col g L M b.2.2.2.1) (am:Sl (Za.slice rQ) col g X P b.2.2.2.2) (Q:Zb rI 3 d col g i k p) (r:Rd) (c:Zpc N rc b p Z=some r):
    Calls prog 117 #[(.agg (Rq b bl c6 c7 c8 L M X P)),.slice i p.length k,.int .i64 Z] g (fun e h=>∃ (col':Ze) (q:Option Addr) (n:Nat) (s:Option Addr) (o:Nat),e= .returned ((.agg #[.bool r.1.1.1,.slice q r.1.1.2.length n,.slice s r.1.2.length o]))∧Zu (pS [d]) col g col' h∧Zb rU 45 c1 col' h q n r.1.1.2∧Zb rU 45 c2 col' h s o r.1.2∧Zb rI 3 d col' h i k r.2∧r.2.length=p.length):=by
 refine Yx (m:=57) func117 rfl rfl rfl ?_;rw [Zpc.eq_1] at c;have f:=St.startL (l:=[d]) rfl col g;replace ak:=ak.keep (X5.startL [d] col g);replace da:=da.keep (X5.startL [d] col g);replace al:=al.keep (X5.startL [d] col g);replace am:=am.keep (X5.startL [d] col g);replace Q:=Q.startL (Ur F 0 rfl) (Uq F 0 rfl);refine go ?_;refine Xg (col:=(Xe [d] col)) 1 rfl fun bv _ Z q j=>Xr (col:=Z) #[.bool false,(nI),(nI)] 2 zeroValue42 fun bx _ _ n l=>go ?_;replace f:=(f.grow q).grow n;replace j:=j.gr n;refine Zt [3,6,1000000] (fun D db dc=>∃ B F a3 y C J H R K S I,I=D∧Zef N rc b I F a3 J K S=some r∧St g (Xe [d] col) B dc∧Zb rI 3 440 B dc i k F∧F.length=p.length∧Zd 27 1 B dc bv (Rq b bl c6 c7 c8 L M X P)∧Zb rU 45 3 B dc y C J∧Zb rU 45 4 B dc H R K∧Zd 42 2 B dc bx #[.bool a3,.slice y J.length C,.slice H K.length R]∧F.length=p.length∧[1,7].map db=[.slice i F.length k,.int .i64 S]) N ⟨_,_,_,none,0,_,none,0,_,_,_,rfl,c,f,(Q.gr q).gr n,rfl,j,Zb.nil,Zb.nil,l,rfl,rfl⟩ ?_;clear c;intro D db dc hI;obtain ⟨B,F,a3,y,C,J,H,R,K,S,I,hn,c,f,dd,bz,j,t,u,l,bg,hs⟩:=hI;subst hn;refine .lL [1,7] hs ?_
 cases I with
 | zero=>rw [Zef.eq_1] at c;cases c
 | succ I=>
  rw [Zef.eq_2] at c;refine go ?_;refine Zm c (fun v c=>go ?_) fun v c=>go ?_
  ·obtain ⟨_,Z,c⟩:=bZ c;refine lI Z (dd.addr Z)<|lW (dd.atInt Z) ?_;refine go ?_;refine Zm c (fun v c=>go ?_) fun v c=>go ?_
   ·exact ⟨I,by omega,rfl,⟨_,_,_,_,_,_,_,_,_,_,_,rfl,c,f,dd,bz,j,t,u,l,bg,rfl⟩⟩
   obtain ⟨_,Q,c⟩:=bZ c;refine Zi (Zrw (col:=B) 5 6 Q Sl.nil) fun _ _ ⟨n,_,_,_,_,A,G,bi,bj⟩=>⟨_,A,?_⟩;refine Xr (col:=n) #[.bool false,(nI),(nI)] 7 zeroValue42 fun cb _ _ de I=>Z6 I fun _ T o x=>go ?_;refine Xy ⟨_,_,rfl⟩ ?_;replace j:=((j.gr G).gr de).kp T;refine lW ((j.atN).nth (q:=2) rfl)<|Xk rfl ?_;obtain ⟨ce,I,c⟩:=bZ c;replace f:=((f.grow G).grow de).kp T o;refine lI I ((da.ks f).addr I) ?_;obtain ⟨_,cf,cg⟩:=(da.ks f).atN I;obtain ⟨⟨_,_,rfl,_⟩,_⟩:=cf;refine lW cg.one<|go ?_;replace dd:=((dd.gr G).gr de).kp T;replace t:=((t.gr G).gr de).kp T;replace u:=((u.gr G).gr de).kp T;replace l:=((l.gr G).gr de).kp T;refine Zt [3,30,6,7,8,1000000] (fun D db Q=>∃ w E Y a4 a5 a6 a a7 a8 m O,O=D∧Zeg N rc b S ce O E Y a4 a m=some r∧St g (Xe [d] col) w Q∧Zb rI 3 440 w Q i k E∧E.length=p.length∧Zd 27 1 w Q bv (Rq b bl c6 c7 c8 L M X P)∧Zb rU 45 3 w Q y C J∧Zb rU 45 4 w Q H R K∧Zd 42 2 w Q bx #[.bool a3,.slice y J.length C,.slice H K.length R]∧Zb rU 45 5 w Q a5 a6 a∧Zb rU 45 6 w Q a7 a8 m∧Zd 42 7 w Q cb #[.bool a4,.slice a5 a.length a6,.slice a7 m.length a8]∧E.length=p.length∧[1,31].map db=[.slice i E.length k,.int .i64 Y]) N ⟨_,_,0,_,_,_,_,_,_,_,_,rfl,c,f,dd,bz,j,t,u,l,(bi.gr de).kp T,(bj.gr de).kp T,x,bg,rfl⟩ ?_;clear c;intro D db Q hI;obtain ⟨w,E,Y,a4,a5,a6,a,a7,a8,m,O,hn,c,f,a9,ch,j,t,u,l,df,dg,x,ci,hs⟩:=hI;subst hn;refine .lL [1,31] hs ?_
   cases O with
   | zero=>rw [Zeg.eq_1] at c;cases c
   | succ O=>
    rw [Zeg.eq_2] at c;refine go ?_;refine Zm c (fun v c=>go ?_) fun v c=>go ?_
    ·obtain ⟨_,G,c⟩:=bZ c;refine lI G (a9.addr G) ?_;obtain ⟨o,T,c⟩:=bZ c;have T:o=E.set (aA S) Y:=(Option.some.inj T).symm;refine Wb (x1:=Y) a9 G ?_;intro R F K v;rw [← T] at v;have g:o.length=p.length:=(show E.length=o.length by rw [T,nS]).symm.trans ch;refine .ld (d:=1) (v:=(.slice i o.length k)) (congrArg (fun D=>Value.slice i D k) (show E.length=o.length by rw [T,nS])) ?_;refine Zl<|Zrf (col:=w) (pS [440]) [(0,5),(1,0),(2,1),(3,1),(4,1),(5,4),(6,3),(7,2)] (by kernel_rfl) (by kernel_rfl) ?_;replace x:=x.kp F;refine Zri (v:=(.agg #[.bool a4,.slice a5 a.length a6,.slice a7 m.length a8])) rfl rfl (fun _ a=>Yl isAgg42 sizeOf42 rfl rfl (x.dk a rfl rfl).atN) ?_;replace j:=j.kp F;refine Zlh (v:=(.agg (Rq b bl c6 c7 c8 L M X P))) rfl rfl (fun _ a=>Yl isAgg27 sizeOf27 rfl rfl (j.atN.gr (a.bl w))) ?_;refine Tm (v:=(.slice i o.length k)) rfl rfl (fun _=>Vl rfl) ?_;refine Tm (v:=(.int .i64 S)) rfl rfl (fun _=>Vl rfl) ?_;refine Tm (v:=(.int .i64 (i64.wrap (S+1)))) rfl rfl (fun _=>S8 S 1 rfl rfl) ?_;refine T7 rfl rfl ?_;intro C m;have a:=m.bl w;replace t:=(t.kp F).gr a;replace u:=(u.kp F).gr a;replace df:=(df.kp F).gr a;replace dg:=(dg.kp F).gr a;replace l:=(l.kp F).gr a;replace f:=(f.kp F K).grow a;replace j:=j.gr a;replace x:=x.gr a;have K:Zu (pS [440]) w R w C:=a.toP;obtain ⟨H,y,c⟩:=bZ c;refine lc rfl rfl (Zqp call117 rfl rfl rfl) (IH 8 9 w _ 440 rfl bl c6 c7 c8 L M X P (b.1,b.2.1,b.2.2.1,b.2.2.2.1,b.2.2.2.2) i k o (i64.wrap (S+1)) (ak.ks f) (da.ks f) (al.ks f) (am.ks f) (v.gr a) H y) fun _ Y ⟨R,_,_,_,_,A,X,T,y,q,J⟩=>⟨_,A,?_⟩;replace t:=t.kpp X;replace u:=u.kpp X;replace df:=df.kpp X;replace dg:=dg.kpp X;replace j:=j.kpp X;replace l:=l.kpp X;replace x:=x.kpp X;replace K:=K.trans (X.mono (by first | exact Zqg rfl | exact pS_p1 rfl | exact Zqh rfl));have G:H.2.length=p.length:=J.trans g
     refine .ld (d:=1) (v:=(.slice i H.2.length k)) (congrArg (fun D=>Value.slice i D k) (show o.length=H.2.length from J.symm)) ?_;refine .ld (d:=40) (v:=(.slice i H.2.length k)) (congrArg (fun D=>Value.slice i D k) (show o.length=H.2.length from J.symm)) ?_;refine Zl ?_;refine ⟨fun h=>Zj R Y R h,fun h=>∃ i,Zu (pS [440]) R Y i h,Zj.refl _ _,fun _ v=>⟨_,v.toP⟩,fun v=>absurd v (by decide),fun _ _ ⟨g,v⟩=>⟨g,K.trans v⟩,?_⟩;refine T7 rfl rfl ?_;intro s m;have a:=m.bl R;replace f:=(f.kpp X).grow a;replace q:=q.gr a;replace t:=t.gr a;replace u:=u.gr a;replace df:=df.gr a;replace dg:=dg.gr a;replace j:=j.gr a;replace l:=l.gr a;replace x:=x.gr a;have J:Zu (pS [440]) R Y R s:=a.toP;obtain ⟨_,w,c⟩:=bZ c;refine Zi (Zoh 10 11 w ((((df.toSlF (Zg.int .u32)).froz 6).froz 8).froz 9) ((((dg.froz 5).toSlF (Zg.int .u32)).froz 8).froz 9) (((((T.gr a).froz 5).froz 6).toSlF (Zg.int .u32)).froz 9) (((((y.gr a).froz 5).froz 6).froz 8).toSlF (Zg.int .u32))) fun _ o ⟨D,_,_,_,_,A,y,n,C⟩=>⟨_,A,?_⟩;replace n:=n.thaw (Z1 .u32) y (((((Fz.refl (col:=R)).froz 5).froz 6).froz 8).froz 9) (by decide);replace C:=C.thaw (Z1 .u32) y (((((Fz.refl (col:=R)).froz 5).froz 6).froz 8).froz 9) (by decide);replace y:=y.thawR (col:=R);generalize Xa s.heap.size R D=w at *;refine Zl ?_;refine ⟨fun h=>Zj w o w h,fun h=>∃ i,Zu (pS [440]) w o i h,Zj.refl _ _,fun _ v=>⟨_,v.toP⟩,fun _ _ v=>V4 m y v,fun _ _ ⟨g,v⟩=>⟨g,(J.gr y).trans v⟩,?_⟩;refine T7 rfl rfl ?_;intro _ m;have a:=m.bl w;replace x:=(x.gr y).gr a;refine Z6 x fun m s H g=>Zl ?_;refine ⟨fun h=>Zj w m w h,fun h=>∃ i,Zu (pS [440]) w m i h,Zj.refl _ _,fun _ v=>⟨_,v.toP⟩,fun v=>absurd v (by decide),fun v=>absurd v (by decide),?_⟩;refine Zrh ?_;replace q:=((q.gr y).gr a).kp s;replace t:=((t.gr y).gr a).kp s;replace u:=((u.gr y).gr a).kp s;replace j:=((j.gr y).gr a).kp s;replace l:=((l.gr y).gr a).kp s;replace f:=((f.grow y).grow a).kp s H
     replace n:=(n.gr a).kp s;replace C:=(C.gr a).kp s;intro _ a;replace a:=a.bl w;refine go ?_;replace q:=q.gr a;replace q:=q.recol 10 5;replace t:=t.gr a;replace t:=t.recol 10 5;replace u:=u.gr a;replace u:=u.recol 10 5;replace n:=n.gr a;replace n:=n.recolSelf 5 (by decide);replace C:=C.gr a;replace C:=C.recol 10 5;replace j:=j.gr a;replace j:=j.recol 10 5;replace l:=l.gr a;replace l:=l.recol 10 5;replace g:=g.gr a;replace g:=g.recol 10 5;replace f:=f.grow a;replace f:=f.recol 10 5 (by decide) (by decide);replace C:=C.recolSelf 6 (by decide);replace j:=j.recol 11 6;replace l:=l.recol 11 6;replace f:=f.recol 11 6 (by decide) (by decide);exact ⟨O,by omega,rfl,⟨_,_,_,_,_,_,_,_,_,_,_,rfl,c,f,q.recol 11 6,G,j,t.recol 11 6,u.recol 11 6,l,n.recol 11 6,C,g.recol 11 6,G,rfl⟩⟩
    obtain ⟨_,u,c⟩:=bZ c;refine lI u (a9.addr u) ?_;obtain ⟨D,t,c⟩:=bZ c;have t:D=E.set (aA S) (-1):=(Option.some.inj t).symm;refine Wb (x1:=(-1)) a9 u ?_;intro _ W cs bc;rw [← t] at bc;have ct:D.length=p.length:=(show E.length=D.length by rw [t,nS]).symm.trans ci;refine go ?_;refine lV _ (Z5 isAgg42 sizeOf42 (x.kp W)) ?_;replace l:=l.kp W;refine Z6 l fun _ bd cu cv=>go ?_;cases c;replace f:=(f.kp W cs).kp bd cu;exact ⟨rfl,_,ra cv.atN,_,_,_,_,_,rfl,f.finL rfl (cm [(5,c1),(6,c2),(440,d)]),f.foL ((df.kp W).kp bd),f.foL ((dg.kp W).kp bd),f.foL (bc.kp bd),ct⟩
  refine lV _ (Z5 isAgg27 sizeOf27 j)<|Y3 rfl ?_;obtain ⟨h,S,c⟩:=bZ c;refine Zi (Z5m 12 13 S ((ak.ks f).froz 440) ((da.ks f).froz 440) ((al.ks f).froz 440) ((am.ks f).froz 440) (dd.toSlF (Zg.int .i64))) fun _ _ ⟨W,j,x,E,O,A,z,ay,az⟩=>⟨_,A,?_⟩;replace ay:=ay.thaw (Z1 .u32) z ((Fz.refl (col:=B)).froz 440);replace az:=az.thaw (Z1 .u32) z ((Fz.refl (col:=B)).froz 440);replace z:=z.thawR (col:=B);generalize Xa dc.heap.size B W=a at *;refine lM (.tuple #[(.agg #[.bool h.1.1.1,.slice j h.1.1.2.length x,.slice E h.1.2.length O]),.int .i64 h.2])<|lV (.agg #[.bool h.1.1.1,.slice j h.1.1.2.length x,.slice E h.1.2.length O]) (Xt rfl rfl)<|lV (.int .i64 h.2) (Xt rfl rfl)<|Xr (col:=a) #[.bool false,(nI),(nI)] 14 zeroValue42 ?_;intro _ _ _ V A;refine Z6 A fun _ U c0 B=>go ?_;refine lV _ (Z5 isAgg42 sizeOf42 B) ?_;refine Z6 (((l.gr z).gr V).kp U) fun _ be c4 c5=>go ?_;cases c;replace f:=(((f.grow z).grow V).kp U c0).kp be c4;exact ⟨rfl,_,ra c5.atN,_,_,_,_,_,rfl,f.finL rfl (cm [(12,c1),(13,c2),(440,d)]),f.foL (((ay.gr V).kp U).kp be),f.foL (((az.gr V).kp U).kp be),f.foL ((((dd.gr z).gr V).kp U).kp be),bg⟩
def Zbo (N:Nat):Nat→R0→R2→Int→Option Rd
  | 0,_,_,_=>none
  | n+1,a,b,c=>Zpc N (Zbo N n) a b c
theorem Z44 (N:Nat):∀ (n:Nat) (B:Nat) (c2:Nat) (col:Ze) (u:World) (h:Nat) (D:Up [h]=true) (d:Option Addr) (f:Nat) (g:Option Addr) (i:Nat) (j:Option Addr) (k:Nat) (l:Option Addr) (m:Nat) (a:R0) (w:Option Addr) (c:Nat) (b:List Int) (o:Int) (p:Sl Za.str col u d f a.2.1) (q:Sl rV col u g i a.2.2.1) (s:Sl rP col u j k a.2.2.2.1) (t:Sl (Za.slice rQ) col u l m a.2.2.2.2) (C:Zb rI 3 h col u w c b) (r:Rd) (v:Zbo N n a b o=some r),Calls prog 117 #[(.agg (Rq a d f g i j k l m)),.slice w b.length c,.int .i64 o] u (fun e w'=>∃ (col':Ze) (z:Option Addr) (x:Nat) (A:Option Addr) (y:Nat),e= .returned ((.agg #[.bool r.1.1.1,.slice z r.1.1.2.length x,.slice A r.1.2.length y]))∧Zu (pS [h]) col u col' w'∧Zb rU 45 B col' w' z x r.1.1.2∧Zb rU 45 c2 col' w' A y r.1.2∧Zb rI 3 h col' w' w c r.2∧r.2.length=b.length):=by
 intro n;induction n with
 | zero=>intro B c2 col u h D d f g i j k l m a w c b o p q s t C r v;rw [Zbo.eq_1] at v;cases v;| succ n ih=>intro B c2 col u h D d f g i j k l m a w c b o p q s t C r v;rw [Zbo.eq_2] at v;exact Z43 N (Zbo N n) ih B c2 col u h D d f g i j k l m a w c b o p q s t C r v
def Zl3 (N:Nat) (a:R0) (b:List Int) (c:Int):Option Rd:=Zbo N N a b c
theorem Z42 (N z c2:Nat) (col:Ze) (t:World) (h:Nat) (C:Up [h]=true) (d:Option Addr) (f:Nat) (g:Option Addr) (i:Nat) (j:Option Addr) (k:Nat) (l:Option Addr) (m:Nat) (a:R0) (y:Option Addr) (c:Nat) (b:List Int) (n:Int) (o:Sl Za.str col t d f a.2.1) (p:Sl rV col t g i a.2.2.1) (q:Sl rP col t j k a.2.2.2.1) (s:Sl (Za.slice rQ) col t l m a.2.2.2.2) (B:Zb rI 3 h col t y c b) (r:Rd) (A:Zl3 N a b n=some r):
    Calls prog 117 #[(.agg (Rq a d f g i j k l m)),.slice y b.length c,.int .i64 n] t (fun e w'=>∃ (col':Ze) (w:Option Addr) (u:Nat) (x:Option Addr) (v:Nat),e= .returned ((.agg #[.bool r.1.1.1,.slice w r.1.1.2.length u,.slice x r.1.2.length v]))∧Zu (pS [h]) col t col' w'∧Zb rU 45 z col' w' w u r.1.1.2∧Zb rU 45 c2 col' w' x v r.1.2∧Zb rI 3 h col' w' y c r.2∧r.2.length=b.length):=Z44 N N z c2 col t h C d f g i j k l m a y c b n o p q s B r A
def Zee (a:Nat) (kk_L1:(Nat→Int→Option Int)) (b:Int):Option Int:=
  kk_L1 (a+1) b
def Sz (c:R0):List Int→Nat→Int→Option Int
  | [],b,a=>some a
  | f :: d,b,a=>if (decide (f<0))=true then ((Zk c.2.2.1 (b:Int)).bind fun e=>Zee b (Sz c d) (if 65537<(i64.wrap (a * (e.length:Int))) then 65537 else (i64.wrap (a * (e.length:Int))))) else (Zee b (Sz c d) a)
def Zjb (a:R0) (b:List Int):Option Int:=
  Sz a b 0 1
theorem Z41 {k l o p L:Nat} {q s t u y:Option Addr} {col:Ze} {d:World} {a:R0} {c:R2} {r:Int} (b:Zjb a c=some r) (P:Sl Za.str col d q k a.2.1) (v:Sl rV col d s l a.2.2.1) (Q:Sl rP col d t o a.2.2.2.1) (R:Sl (Za.slice rQ) col d u p a.2.2.2.2) (g:Sl rI col d y L c):
    Calls prog 115 #[(.agg (Rq a q k s l t o u p)),.slice y c.length L] d (Wn d r):=by
 refine Xc 4 (m:=28) func115 rfl rfl rfl rfl rfl ?_;rw [Zjb.eq_1] at b;have e:=St.start col d;refine go ?_;refine Xg (col:=(Zh col)) 1 rfl fun N _ _ S i=>go ?_;replace e:=e.grow S;refine Zt [2,8,9,1000000] (fun K x E=>∃ F h j w,K=w.length∧c.drop h=w∧Sz a w h j=some r∧St d (Zh col) F E∧Zd 27 1 F E N (Rq a q k s l t o u p)∧[10,5].map x=[.int .i64 h,.int .i64 j]) c.length ⟨_,0,1,_,rfl,rfl,b,e,i,rfl⟩ ?_;clear b;intro K x E T;obtain ⟨F,h,j,w,J,z,b,e,i,n⟩:=T;subst J;refine .lL [10,5] n ?_;replace v:=v.k0;replace g:=g.k0
 cases w with
 | nil=>
  have m:¬ ((h:Int)<(c.length:Int)):=by have:=aJ.1 z;omega
  have f:=decide_eq_false m;rw [Sz.eq_1] at b;refine go ?_;refine Ym (congrArg Value.bool f)<|go ?_;cases b;exact ⟨rfl,rfl,e.below⟩
 | cons Y M=>
  obtain ⟨H,W,X⟩:=Yt z;have m:(h:Int)<(c.length:Int):=by omega
  have f:=decide_eq_true m;rw [Sz.eq_2] at b;refine go ?_;refine Yn (congrArg Value.bool f)<|Xz<|Zx ?_;refine Wp.cutK [10,2,8,9,1000000] (fun x B=>∃ C D,Zee h (Sz a M) D=some r∧St d (Zh col) C B∧Zd 27 1 C B N (Rq a q k s l t o u p)∧[5].map x=[.int .i64 D]) ?_ ?_
  ·intro x B O;obtain ⟨C,D,b,e,i,n⟩:=O;rw [Zee.eq_1] at b;refine .lL [5] n<|go ?_;exact ⟨M.length,by simp,rfl,⟨_,_,_,_,rfl,W,b,e,i,(Yz (congrArg (Value.int .i64) (Yv (aI X (g.ks e).1.1))) rfl)⟩⟩
  refine go ?_;refine lI H ((g.ks e).addr H)<|lW ((g.ks e).atInt H) ?_;refine go ?_;refine Zm b (fun I b=>go ?_) fun I b=>?_
  ·refine Z9 i<|Xk rfl ?_;obtain ⟨G,A,b⟩:=bZ b;refine lI A ((v.ks e).addr A) ?_;obtain ⟨_,U,V⟩:=(v.ks e).atN A;obtain ⟨⟨_,_,rfl,_⟩,_⟩:=U;refine lW V.one<|go ?_;refine lV (.int .i64 (if 65537<(i64.wrap (j * (G.length:Int))) then 65537 else (i64.wrap (j * (G.length:Int))))) (Zqt (i64.wrap (j * (G.length:Int))) 65537 rfl rfl)<|go ?_;exact ⟨rfl,_,_,b,e,i,rfl⟩
  refine Xz ?_;exact ⟨rfl,_,_,b,e,i,rfl⟩
def Zgf (N:Nat) (a:R0):List R2→Bool→R2→R2→Option (R1×Int)
  | [],b,c,d=>some (((b,c),d),0)
  | g :: i,b,c,d=>(Za5 g).bind fun j=>(Zl3 N (a.1,a.2.1,a.2.2.1,a.2.2.2.1,a.2.2.2.2) j 0).bind fun e=>(Zbr N ((b,c),d) ((e.1.1.1,e.1.1.2),e.1.2)).bind fun f=>(Zgf N a i) f.1.1 f.1.2 f.2
def Zbn (N:Nat) (a:R0) (c:R6):List R2→Bool→R2→R2→Option (R1×Int)
  | [],d,e,f=>(Zeh N 1 1).bind fun b=>Zgf N a c b.1.1.1 b.1.1.2 b.1.2
  | g :: i,d,e,f=>(Zjb (a.1,a.2.1,a.2.2.1,a.2.2.2.1,a.2.2.2.2) g).bind fun j=>if (decide (65536<j))=true then (some (((false,([]:List Int)),([]:List Int)),4)) else ((Zbn N a c i) d e f)
def Zaj (N:Nat) (a:R0) (b:R6):Option (R1×Int):=
  (Zgg N (a.1,a.2.1,a.2.2.1,a.2.2.2.1,a.2.2.2.2) b).bind fun c=>if (!decide (c=0))=true then (some (((false,([]:List Int)),([]:List Int)),c)) else (Zbn N a b b false ([]:List Int) ([]:List Int))
theorem Zu9 {N bl P Q R a:Nat} {S T bs V E:Option Addr} {col:Ze} {n:World} {c:R0} {p:R6} {r:(R1×Int)} (c1 c2:Nat) (d:Zaj N c p=some r) (bu:Sl Za.str col n S bl c.2.1) (cu:Sl rV col n T P c.2.2.1) (aa:Sl rP col n bs Q c.2.2.2.1) (Z:Sl (Za.slice rQ) col n V R c.2.2.2.2) (o:Sl rP col n E a p):
    Calls prog 63 #[(.agg (Rq c S bl T P bs Q V R)),.slice E p.length a] n (Zfr 45 c1 c2 col n r):=by
 refine Yx (m:=50) func63 rfl rfl rfl ?_;rw [Zaj.eq_1] at d;have b:=St.start col n;refine go ?_;refine Xg (col:=(Zh col)) 1 rfl fun bd _ C br g=>Xr (col:=C) #[.bool false,(nI),(nI)] 2 zeroValue42 fun be _ bf a f=>go ?_;replace g:=g.gr a;refine lV _ (Z5 isAgg27 sizeOf27 g)<|Y3 rfl ?_;obtain ⟨_,E,d⟩:=bZ d;replace bu:=bu.k0;replace cu:=cu.k0;replace aa:=aa.k0;replace Z:=Z.k0;replace o:=o.k0;replace b:=(b.grow br).grow a;refine Zi (Z45 E (bu.ks b) (cu.ks b) (aa.ks b) (Z.ks b) (o.ks b)) fun _ _ ⟨m,C⟩=>⟨_,m,?_⟩;replace C:=Rr bf C;refine go ?_;replace g:=g.gr C;replace f:=f.gr C;replace b:=b.grow C;refine Zm d (fun hb d=>go ?_) fun hb d=>go ?_
 ·refine lV (.agg #[.bool false,(nI),(nI)]) (Wo (l:=[_,_]) (qs:=[(0,2),(2,1)]) underlying42 zeroValue42 ⟨rfl,sizeOf40,rfl,sizeOf38,trivial⟩ rfl)<|Xk rfl<|Z6 f ?_;intro _ x bw bx;refine go ?_;cases d;replace b:=b.kp x bw;exact ⟨rfl,_,Vm bx.atN,_,none,0,none,0,rfl,b.fin (cm []),Zb.nil,Zb.nil⟩
 refine Zt [1,2,20,21,4,1000000] (fun U cy E=>∃ cz Y w K L G M O W D,U=D.length∧p.drop Y=D∧Zbn N c p D w G W=some r∧St n (Zh col) cz E∧Zd 27 1 cz E bd (Rq c S bl T P bs Q V R)∧Zb rU 45 3 cz E K L G∧Zb rU 45 4 cz E M O W∧Zd 42 2 cz E be #[.bool w,.slice K G.length L,.slice M W.length O]∧[22].map cy=[.int .i64 Y]) p.length ⟨_,0,_,none,0,_,none,0,_,_,rfl,rfl,d,b,g,Zb.nil,Zb.nil,f,rfl⟩ ?_;clear d;intro U cy E hI;obtain ⟨cz,Y,w,K,L,G,M,O,W,D,hn,X,d,b,g,k,l,f,hs⟩:=hI;subst hn;refine .lL [22] hs ?_
 cases D with
 | nil=>
  have u:¬ ((Y:Int)<(p.length:Int)):=by have:=aJ.1 X;omega
  have i:=decide_eq_false u;rw [Zbn.eq_1] at d;refine go ?_;refine Ym (congrArg Value.bool i)<|go ?_;obtain ⟨a,D,d⟩:=bZ d;refine Zi (Zrv (col:=cz) 5 6 D) fun _ _ ⟨b0,x,C,D,bk,m,E,aw,ax⟩=>⟨_,m,?_⟩;refine lM (.tuple #[(.agg #[.bool a.1.1.1,.slice x a.1.1.2.length C,.slice D a.1.2.length bk]),.int .i64 a.2])<|lV (.agg #[.bool a.1.1.1,.slice x a.1.1.2.length C,.slice D a.1.2.length bk]) (Xt rfl rfl)<|lV (.int .i64 a.2) (Xt rfl rfl)<|Xr (col:=b0) #[.bool false,(nI),(nI)] 7 zeroValue42 ?_;intro D _ _ C x;refine Z6 x fun _ x a s=>go ?_;replace k:=((k.gr E).gr C).kp x;replace l:=((l.gr E).gr C).kp x;replace g:=((g.gr E).gr C).kp x;replace f:=((f.gr E).gr C).kp x;replace b:=((b.grow E).grow C).kp x a;refine Zt [2,36,37,4,9,1000000] (fun U cy z=>∃ q H e h j I t v J F,U=F.length∧p.drop H=F∧Zgf N c F e I J=some r∧St n (Zh col) q z∧Zd 27 1 q z bd (Rq c S bl T P bs Q V R)∧Zb rU 45 3 q z K L G∧Zb rU 45 4 q z M O W∧Zd 42 2 q z be #[.bool w,.slice K G.length L,.slice M W.length O]∧Zb rU 45 5 q z h j I∧Zb rU 45 6 q z t v J∧Zd 42 7 q z D #[.bool e,.slice h I.length j,.slice t J.length v]∧[38].map cy=[.int .i64 H]) p.length ⟨_,0,_,_,_,_,_,_,_,_,rfl,rfl,d,b,g,k,l,f,(aw.gr C).kp x,(ax.gr C).kp x,s,rfl⟩ ?_;clear d;intro U cy z hI;obtain ⟨q,H,e,h,j,I,t,v,J,F,hn,X,d,b,g,k,l,f,A,B,s,hs⟩:=hI;subst hn;refine .lL [38] hs ?_
  cases F with
  | nil=>
   have u:¬ ((H:Int)<(p.length:Int)):=by have:=aJ.1 X;omega
   have i:=decide_eq_false u;rw [Zgf.eq_1] at d;refine go ?_;refine Ym (congrArg Value.bool i)<|go ?_;refine lV _ (Z5 isAgg42 sizeOf42 s)<|Z6 f ?_;intro _ y b4 b5;refine go ?_;cases d;replace A:=A.kp y;replace B:=B.kp y;replace b:=b.kp y b4;exact ⟨rfl,_,Vm b5.atN,_,_,_,_,_,rfl,b.fin (cm [(5,c1),(6,c2)]),b.fo A,b.fo B⟩
  | cons b6 b7=>
   obtain ⟨c0,b8,b9⟩:=Yt X;have u:(H:Int)<(p.length:Int):=by omega
   have i:=decide_eq_true u;rw [Zgf.eq_2] at d;refine go ?_;refine Yn (congrArg Value.bool i)<|go ?_;refine lI c0 ((o.ks b).addr c0) ?_;obtain ⟨_,ca,cb⟩:=(o.ks b).atN c0;obtain ⟨⟨cc,cd,rfl,az⟩,_⟩:=ca;refine lW cb.one<|go ?_;refine Zrf (col:=q) (pS [8]) [(0,5),(1,0),(2,1),(3,3),(4,4),(5,3),(6,2)] (by kernel_rfl) (by kernel_rfl)<|Zri (v:=(.agg #[.bool e,.slice h I.length j,.slice t J.length v])) rfl rfl (fun _ a=>Yl isAgg42 sizeOf42 rfl rfl (s.dk a rfl rfl).atN) ?_;refine Zlh (v:=(.agg (Rq c S bl T P bs Q V R))) rfl rfl (fun _ a=>Yl isAgg27 sizeOf27 rfl rfl (g.atN.gr (a.bl q))) ?_;refine Tm (v:=(.slice cc b6.length cd)) rfl rfl (fun _=>Vl rfl) ?_;refine T7 rfl rfl ?_;intro h e;have a:=e.bl q;replace k:=k.gr a;replace l:=l.gr a;replace A:=A.gr a;replace B:=B.gr a;replace g:=g.gr a;replace f:=f.gr a;replace s:=s.gr a;replace b:=b.grow a;have v:Zu (pS [8]) q z q h:=a.toP;obtain ⟨L,M,d⟩:=bZ d;refine Zi (Zos 8 M (az.gr a)) fun _ z ⟨y,I,J,m,x,F⟩=>⟨_,m,?_⟩;refine Zl ?_;refine ⟨fun h=>Zj y z y h,fun h=>∃ t,Zu (pS [8]) y z t h,Zj.refl _ _,fun _ j=>⟨_,j.toP⟩,fun _ _ j=>V4 e x j,fun _ _ ⟨W,j⟩=>⟨W,(v.gr x).trans j⟩,?_⟩;refine T7 rfl rfl ?_;intro q e;have a:=e.bl y;replace k:=(k.gr x).gr a;replace l:=(l.gr x).gr a;replace A:=(A.gr x).gr a;replace B:=(B.gr x).gr a;replace g:=(g.gr x).gr a;replace f:=(f.gr x).gr a;replace s:=(s.gr x).gr a;replace b:=(b.grow x).grow a;have H:Zu (pS [8]) y z y q:=a.toP;obtain ⟨D,n,d⟩:=bZ d;refine Zi (Z42 N 9 10 y _ 8 rfl S bl T P bs Q V R (c.1,c.2.1,c.2.2.1,c.2.2.2.1,c.2.2.2.2) I J L 0 (bu.ks b) (cu.ks b) (aa.ks b) (Z.ks b) (F.gr a) D n) fun _ F ⟨y,_,_,_,_,m,G,M,n,_,w⟩=>⟨_,m,?_⟩;replace k:=k.kpp G;replace l:=l.kpp G;replace A:=A.kpp G;replace B:=B.kpp G;replace g:=g.kpp G;replace f:=f.kpp G;replace s:=s.kpp G
   replace H:=H.trans (G.mono (by first | exact Zqg rfl | exact pS_p1 rfl | exact Zqh rfl));refine .ld (d:=45) (v:=(.slice I D.2.length J)) (congrArg (fun U=>Value.slice I U J) (show L.length=D.2.length from w.symm)) ?_;refine Zl ?_;refine ⟨fun h=>Zj y F y h,fun h=>∃ t,Zu (pS [8]) y F t h,Zj.refl _ _,fun _ j=>⟨_,j.toP⟩,fun j=>absurd j (by decide),fun _ _ ⟨W,j⟩=>⟨W,H.trans j⟩,?_⟩;refine T7 rfl rfl ?_;intro K e;have a:=e.bl y;replace b:=(b.kpp G).grow a;replace k:=k.gr a;replace l:=l.gr a;replace g:=g.gr a;replace f:=f.gr a;replace s:=s.gr a;have G:Zu (pS [8]) y F y K:=a.toP;obtain ⟨_,O,d⟩:=bZ d;refine Zi (Zru 11 12 O (((((A.gr a).toSlF (Zg.int .u32)).froz 6).froz 9).froz 10) (((((B.gr a).froz 5).toSlF (Zg.int .u32)).froz 9).froz 10) (((((M.gr a).froz 5).froz 6).toSlF (Zg.int .u32)).froz 10) (((((n.gr a).froz 5).froz 6).froz 9).toSlF (Zg.int .u32))) fun _ B ⟨z,_,_,_,_,m,v,U,w⟩=>⟨_,m,?_⟩;replace U:=U.thaw (Z1 .u32) v (((((Fz.refl (col:=y)).froz 5).froz 6).froz 9).froz 10) (by decide);replace w:=w.thaw (Z1 .u32) v (((((Fz.refl (col:=y)).froz 5).froz 6).froz 9).froz 10) (by decide);replace v:=v.thawR (col:=y);generalize Xa K.heap.size y z=n at *;refine Zl ?_;refine ⟨fun h=>Zj n B n h,fun h=>∃ t,Zu (pS [8]) n B t h,Zj.refl _ _,fun _ j=>⟨_,j.toP⟩,fun _ _ j=>V4 e v j,fun _ _ ⟨W,j⟩=>⟨W,(G.gr v).trans j⟩,?_⟩;refine T7 rfl rfl ?_;intro _ e;have a:=e.bl n;refine Z6 ((s.gr v).gr a) fun A q e s=>Zl ?_;refine ⟨fun h=>Zj n A n h,fun h=>∃ t,Zu (pS [8]) n A t h,Zj.refl _ _,fun _ j=>⟨_,j.toP⟩,fun j=>absurd j (by decide),fun j=>absurd j (by decide),?_⟩;refine Zrh ?_;replace k:=((k.gr v).gr a).kp q;replace l:=((l.gr v).gr a).kp q;replace g:=((g.gr v).gr a).kp q;replace f:=((f.gr v).gr a).kp q;replace b:=((b.grow v).grow a).kp q e;replace U:=(U.gr a).kp q;replace w:=(w.gr a).kp q;intro _ a
   replace a:=a.bl n;refine go ?_;replace k:=k.gr a;replace k:=k.recol 11 5;replace l:=l.gr a;replace l:=l.recol 11 5;replace U:=U.gr a;replace U:=U.recolSelf 5 (by decide);replace w:=w.gr a;replace w:=w.recol 11 5;replace g:=g.gr a;replace g:=g.recol 11 5;replace f:=f.gr a;replace f:=f.recol 11 5;replace s:=s.gr a;replace s:=s.recol 11 5;replace b:=b.grow a;replace b:=b.recol 11 5 (by decide) (by decide);replace k:=k.recol 12 6;replace l:=l.recol 12 6;replace w:=w.recolSelf 6 (by decide);replace g:=g.recol 12 6;replace f:=f.recol 12 6;replace b:=b.recol 12 6 (by decide) (by decide);exact ⟨b7.length,by simp,rfl,⟨_,_,_,_,_,_,_,_,_,_,rfl,b8,d,b,g,k,l,f,U.recol 12 6,w,s.recol 12 6,(Yz (congrArg (Value.int .i64) (Yv (aI b9 (o.ks b).1.1))) rfl)⟩⟩
 | cons j cn=>
  obtain ⟨c0,co,cp⟩:=Yt X;have u:(Y:Int)<(p.length:Int):=by omega
  have i:=decide_eq_true u;rw [Zbn.eq_2] at d;refine go ?_;refine Yn (congrArg Value.bool i)<|go ?_;refine lI c0 ((o.ks b).addr c0) ?_;obtain ⟨_,cq,cr⟩:=(o.ks b).atN c0;obtain ⟨⟨_,_,rfl,cs⟩,_⟩:=cq;refine lW cr.one<|go ?_;refine lV _ (Z5 isAgg27 sizeOf27 g)<|Y3 rfl ?_;obtain ⟨_,i,d⟩:=bZ d;refine Zi (Z41 i (bu.ks b) (cu.ks b) (aa.ks b) (Z.ks b) cs) fun _ _ ⟨m,c3⟩=>⟨_,m,?_⟩;replace c3:=Rr cz c3;refine go ?_;replace f:=f.gr c3;replace b:=b.grow c3;refine Zm d (fun hb d=>go ?_) fun hb d=>go ?_
  ·refine lV (.agg #[.bool false,(nI),(nI)]) (Wo (l:=[_,_]) (qs:=[(0,2),(2,1)]) underlying42 zeroValue42 ⟨rfl,sizeOf40,rfl,sizeOf38,trivial⟩ rfl)<|Z6 f ?_;intro _ cv cw cx;refine go ?_;cases d;replace b:=b.kp cv cw;exact ⟨rfl,_,Vm cx.atN,_,none,0,none,0,rfl,b.fin (cm []),Zb.nil,Zb.nil⟩
  exact ⟨cn.length,by simp,rfl,⟨_,_,_,_,_,_,_,_,_,_,rfl,co,d,b,g.gr c3,k.gr c3,l.gr c3,f,(Yz (congrArg (Value.int .i64) (Yv (aI cp (o.ks b).1.1))) rfl)⟩⟩
/-! how long products are:bounds variable by variable -/
def Vn (B:Nat→Nat):Nat→Nat→Nat
 | 0,_=>0
 | m+1,k=>B k+Vn B m (k+1)
theorem Z3o {α:Type} (f:List α→Nat) (T:List (List α)):∀ m k,k+m=T.length→Vn (fun v=>f (T.getD v [])) m k=((T.drop k).map f).sum
 | 0,k,h=>by rw [Vn,dB (by omega)];rfl
 | m+1,k,h=>by
  rw [Vn,Z3o f T m (k+1) (by omega),aF (i:=k) (by omega),bJ,eY,Xl (by omega)]
theorem Z3p (B:Nat→Nat):∀ m k,Vn (fun v=>B v+1) m k=Vn B m k+m
 | 0,k=>rfl
 | m+1,k=>by rw [Vn,Vn,Z3p B m (k+1)];omega
def Zad (n:Zq) (B:Nat→Nat):Prop:=∀ v,v<n.2.1.length→∀ x ∈ n.2.2.2.2.getD v [],qs (Zr x)≤B v
theorem Zwy {N:Nat} {n:Zq} {B:Nat→Nat} (hf:X2 N n) (hB:Zad n B) {w:List Int} (hw:Yk n w) {k:Nat} (hk:k<n.2.1.length):qs (ent n w k)≤B k:=by
 have b:=hw.ok k (by rw [hw.len];exact hk)
 have a:(w.getD k 0).toNat<(T4 n w k).length:=by rw [hf.rowT_len hw hk];omega
 rw [ent,Xl a]
 exact hB k hk _ (Zp3 (aB a))
theorem Ztf {N:Nat} {n:Zq} {B:Nat→Nat} (hf:X2 N n) (hB:Zad n B) {w:List Int} (hw:Yk n w):∀ (m k:Nat) (q:Rat),k+m≤n.2.1.length→qs (Ti n w m k q)≤qs q+Vn B m k
 | 0,k,q,h=>by rw [Ti,Vn];omega
 | m+1,k,q,h=>by
  have a:=Zwy hf hB hw (k:=k) (by omega)
  have b:=Znp q (ent n w k)
  have c:=Ztf hf hB hw m (k+1) (q * ent n w k) (by omega)
  rw [Ti,Vn];omega
section
variable {N W K:Nat} {n:Zq} (hf:X2 N n) (hs:W8 n W) (hr:Z3 N (8 * K+40)) (hWK:1025 * (W+2)+4≤K) (hN:2000000<N) (hC:Vx N n=some 0)
include hf hs hr hWK hN hC
theorem Xah {w:List Int} (hw:Yk n w):Zan N n w=some (Zn (Ti n w n.2.1.length 0 1),0):=by
 obtain ⟨p,e,a,b⟩:=Z7b hf hs hr hWK hN hC w
 have c:=Z81 hw
 rcases b with ⟨_,h⟩ | ⟨rfl,_,rfl⟩
 ·rw [c] at h;cases h
 ·exact a
variable {B:Nat→Nat} {S:Nat} (hB:Zad n B) (hS:Vn B n.2.1.length 0+1≤S) (hSK:12 * S+10≤K)
include hB hS hSK
end
structure PV (n:Zq) (w:List Int):Prop where
 len:w.length=n.2.1.length
 ok:∀ i,i<w.length→ -1≤w.getD i 0∧w.getD i 0<(cnt n i:Int)
theorem Zq3 {n:Zq} {r:List R2} (h:Ul n r=true):∀ row ∈ r,PV n row:=fun row c=>by
 have a:=List.all_eq_true.1 h row c
 rw [Bool.and_eq_true,decide_eq_true_eq] at a
 refine ⟨a.1,fun i b=>⟨?_,?_⟩⟩
 ·rw [Xl b];exact Z1t a.2 _ (aB b)
 ·have:=Z1u a.2 i b
  rwa [cC] at this
theorem PV.set {n:Zq} {w:List Int} (h:PV n w) {v:Nat} {k:Int} (hk:-1≤k∧k<(cnt n v:Int)):PV n (w.set v k):=by
 refine ⟨by rw [nS];exact h.len,fun i a=>?_⟩
 rw [nS] at a
 by_cases hv:v<w.length
 ·rw [Wc w 0 v i k hv]
  split
  ·rename_i e;rw [e];exact hk
  ·exact h.ok i a
 ·rw [List.set_eq_of_length_le (by omega)];exact h.ok i a
def Xf (n:Zq):Nat→Nat→List Int→List R2
 | 0,_,w=>[w]
 | m+1,k,w=>if 0≤w.getD k 0 then Xf n m (k+1) w else (cE 0 (cnt n k)).flatMap fun x:Nat=>Xf n m (k+1) (w.set k (x:Int))
def Xh (n:Zq) (w:List Int):Nat→Nat→Nat
 | 0,_=>1
 | m+1,k=>(if 0≤w.getD k 0 then 1 else cnt n k) * Xh n w m (k+1)
theorem Zqc {n:Zq} {w:List Int} {v:Nat} {x:Int}:∀ m k,v<k→Xh n (w.set v x) m k=Xh n w m k
 | 0,k,_=>rfl
 | m+1,k,h=>by
  have e:(w.set v x).getD k 0=w.getD k 0:=by
   rw [aE,aE,eW (by omega)]
  rw [Xh,Xh,e,Zqc m (k+1) (by omega)]
theorem Zsn {α:Type} (f:Nat→List α) (c:Nat):∀ m j,(∀ x,(f x).length=c)→((cE j m).flatMap f).length=m * c
 | 0,j,_=>by simp
 | m+1,j,h=>by
  rw [eR,eG,nA,Zsn f c m (j+1) h,h,bB,aV,fO]
theorem Zch (n:Zq):∀ m k w,(Xf n m k w).length=Xh n w m k
 | 0,k,w=>rfl
 | m+1,k,w=>by
  rw [Xf,Xh]
  split
  ·rw [Zch n m,aV]
  ·rw [Zsn _ (Xh n w m (k+1)) _ _ fun x=>by rw [Zch n m,Zqc _ _ (by omega)]]
theorem Zit {n:Zq}:∀ m k w,PV n w→k+m=n.2.1.length→(∀ i,i<k→0≤w.getD i 0)→∀ x ∈ Xf n m k w,Yk n x
 | 0,k,w,a,j,c,x,b=>by
  rw [Xf,List.mem_singleton] at b
  subst b
  exact ⟨a.len,fun i d=>⟨c i (by have:=a.len;omega),(a.ok i d).2⟩⟩
 | m+1,k,w,a,j,c,x,b=>by
  rw [Xf] at b
  have f:k<w.length:=by rw [a.len];omega
  split at b
  ·rename_i l
   refine Zit m (k+1) w a (by omega) (fun i d=>?_) x b
   by_cases e:i=k
   ·subst e;exact l
   ·exact c i (by omega)
  ·obtain ⟨y,o,g⟩:=List.mem_flatMap.1 b
   have p:=gW.1 o
   refine Zit m (k+1) _ (a.set (v:=k) (k:=(y:Int)) (by omega)) (by omega) (fun i d=>?_) x g
   rw [Wc w 0 k i _ f]
   split
   ·omega
   ·exact c i (by omega)
theorem Zla {n:Zq} (he:Uo n) (w:List Int):∀ m k,k+m≤n.2.1.length→1≤Xh n w m k
 | 0,k,_=>aX _
 | m+1,k,h=>by
  have a:=Zla he w m (k+1) (by omega)
  have b:=Zae he (v:=k) (by omega)
  rw [Xh]
  split
  ·omega
  ·exact gT b a
theorem Xce (n:Zq) (a b:List R2):Zz n (a++b)=Zz n a+Zz n b:=by rw [Zz,dI,Z3v,Zz,Zz]
theorem Xcf (n:Zq) (x:List Int):Zz n [x]=Xp n x n.2.1.length 0:=by rw [Zz,bJ,dD,Vv,Vv,iY]
theorem set_set {w:List Int} {k:Nat} {a b:Int}:(w.set k a).set k b=w.set k b:=by rw [List.set_set]
theorem Z2w {w:List Int} {k:Nat} (hk:k<w.length) {a:Int} (h:w.getD k 0=a):w.set k a=w:=by
 rw [Xl hk] at h
 rw [← h,List.set_getElem_self]
/-! the program -/
section
variable {N W K:Nat} {n:Zq} (hf:X2 N n) (hN:2000000<N) {Q:Nat}
variable (hch:∀ w,Yk n w→Zan N n w=some (Zn (Ti n w n.2.1.length 0 1),0)) (hQ:∀ w,Yk n w→qs (Xp n w n.2.1.length 0)≤Q)
include hf hN hch hQ
omit hN hch hQ in
theorem Zxp {m k:Nat} (hkm:k+(m+1)=n.2.1.length) {w:List Int} (hw:PV n w) (h0:∀ i,i<k→0≤w.getD i 0) (hk0:w.getD k 0= -1) (rc:Zq→List Int→Int→Option (QV×List Int))
  (hrc:∀ u,PV n u→(∀ i,i<k+1→0≤u.getD i 0)→Xh n u m (k+1)=Xh n w m (k+1)→rc n u ((k+1:Nat):Int)=some (Zn (Zz n (Xf n m (k+1) u)),u)∧qs (Zz n (Xf n m (k+1) u))≤(Xf n m (k+1) u).length * (Q+2 * m))
  (hr:Z3 N (2 * (Xh n w (m+1) k * (Q+2 * (m+1))+(Q+2 * m) * Xh n w m (k+1)+10))):
  ∀ (j x f:Nat) (acc:Rat),x+j=cnt n k→j<f→qs acc≤1+x * Xh n w m (k+1) * (Q+2 * m+1)→
  Zeg N rc n (k:Int) (n.2.2.1.getD k []) f (w.set k ((x:Int) - 1)) (x:Int) (Zn acc).1.1 (Zn acc).1.2 (Zn acc).2=some (Zn (acc+Zz n ((cE x j).flatMap fun y:Nat=>Xf n m (k+1) (w.set k (y:Int)))),w)∧
   qs (acc+Zz n ((cE x j).flatMap fun y:Nat=>Xf n m (k+1) (w.set k (y:Int))))≤1+cnt n k * Xh n w m (k+1) * (Q+2 * m+1)
 | j,x,0,acc,_,h,_=>by omega
 | 0,x,f+1,acc,F,_,c=>by
  have p:=hf.le
  have a:k<w.length:=by rw [hw.len];omega
  have q:(n.2.2.1.getD k []).length=cnt n k:=rfl
  have d:k<(w.set k ((x:Int) - 1)).length:=by rw [nS];exact a
  obtain rfl:x=cnt n k:=by omega
  rw [Zeg.eq_2,if_neg (dF (by omega)),Zs d,oB,oB,aC,set_set,Z2w a hk0]
  have e:Zz n ((cE (cnt n k) 0).flatMap fun y:Nat=>Xf n m (k+1) (w.set k (y:Int)))=0:=rfl
  rw [e,iY]
  exact ⟨rfl,c⟩
 | j+1,x,f+1,acc,F,J,c=>by
  have p:=hf.le
  have a:k<w.length:=by rw [hw.len];omega
  have q:(n.2.2.1.getD k []).length=cnt n k:=rfl
  have L:cnt n k≤65536:=by
   have r:k<n.2.1.length:=by omega
   obtain ⟨P,R,S⟩:=hf.rows r
   have s:0<U1 n k:=Zq4 hf.ev (n.2.2.2.1.getD k []) 1 (hf.pars r) (by omega)
   have:=fZ (cnt n k) s
   rw [U1] at this;omega
  have d:k<(w.set k ((x:Int) - 1)).length:=by rw [nS];exact a
  have G:PV n (w.set k (x:Int)):=hw.set (by omega)
  have o:Xh n (w.set k (x:Int)) m (k+1)=Xh n w m (k+1):=Zqc _ _ (by omega)
  obtain ⟨H,l⟩:=hrc (w.set k (x:Int)) G (fun i T=>by
   rw [Wc w 0 k i _ a]
   split
   ·omega
   ·exact h0 i (by omega)) o
  rw [Zch,o] at l
  have t:Xh n w (m+1) k=cnt n k * Xh n w m (k+1):=by rw [Xh,if_neg (by rw [hk0];decide)]
  rw [t] at hr
  obtain ⟨O,b⟩:∃ O,O=Xh n w m (k+1):=⟨_,rfl⟩
  have M:1≤O:=by rw [b];exact Zla hf.ev w m (k+1) (by omega)
  rw [← b] at hr l c ⊢
  obtain ⟨B,g⟩:∃ B,B=Q+2 * m:=⟨_,rfl⟩
  rw [show Q+2 * (m+1)=B+2 by omega,← g] at hr
  rw [← g] at l c ⊢
  -- sizes
  have U:(x+1) * O * (B+1)≤cnt n k * O * (B+1):=bD _ (bD _ (by omega))
  have V:(x+1) * O * (B+1)=x * O * (B+1)+O * (B+1):=by rw [bB,aV,bB]
  have X:O * (B+1)=O * B+O:=by rw [dW,fU]
  have v:cnt n k * O * (B+2)=cnt n k * O * (B+1)+cnt n k * O:=by rw [show B+2=(B+1)+1 by omega,dW _ (B+1) 1,fU]
  have A:B * O=O * B:=bS _ _
  rw [v,A] at hr
  have I:Qo N (((Zn acc).1.1,(Zn acc).1.2),(Zn acc).2) (((Zn (Zz n (Xf n m (k+1) (w.set k (x:Int))))).1.1,(Zn (Zz n (Xf n m (k+1) (w.set k (x:Int))))).1.2),(Zn (Zz n (Xf n m (k+1) (w.set k (x:Int))))).2)=some (Zn (acc+Zz n (Xf n m (k+1) (w.set k (x:Int))))):=by
   have:=Zlx (N:=N) (W7 c) (W7 l) (hr.mono (by omega))
   rwa [Y5,Y5] at this
  have Y:=Ztn acc (Zz n (Xf n m (k+1) (w.set k (x:Int))))
  obtain ⟨C,D⟩:=Zxp hkm hw h0 hk0 rc hrc (by rw [t,← b,show Q+2 * (m+1)=B+2 by omega,← g,v,A];exact hr) j (x+1) f (acc+Zz n (Xf n m (k+1) (w.set k (x:Int)))) (by omega) (by omega) (by rw [← b,← g];omega)
  rw [← b,← g] at D
  have E:rc (n.1,n.2.1,n.2.2.1,n.2.2.2.1,n.2.2.2.2) (w.set k (x:Int)) ((k:Int)+1)=some (Zn (Zz n (Xf n m (k+1) (w.set k (x:Int)))),w.set k (x:Int)):=H
  rw [Zeg.eq_2,if_pos (dT (by omega)),Zs d,oB,oB,aC,set_set,Zv (x:=(k:Int)+1) (by omega),E,oB,I,oB,wS (by omega),eR,eG,Xce,← kN]
  rw [show (((x+1:Nat):Int) - 1)=(x:Int) by omega] at C
  exact ⟨C,D⟩
theorem Zxq:∀ (F m k:Nat) (w:List Int),m<F→k+m=n.2.1.length→PV n w→(∀ i,i<k→0≤w.getD i 0)→Z3 N (4 * (Xh n w m k * (Q+2 * m)+10))→
  Zbo N F n w (k:Int)=some (Zn (Zz n (Xf n m k w)),w)∧qs (Zz n (Xf n m k w))≤(Xf n m k w).length * (Q+2 * m)
 | 0,m,k,w,h,_,_,_,_=>by omega
 | F+1,m,k,w,hF,A,p,j,d=>by
  have Z:=hf.le
  have B:=p.len
  rw [Zbo,Zpc]
  have P:∀ (m k f:Nat) (a:Bool) (b c:List Int),m≤F→m<f→k+m=n.2.1.length→(∀ i,i<k→0≤w.getD i 0)→Z3 N (4 * (Xh n w m k * (Q+2 * m)+10))→
    Zef N (Zbo N F) n f w a b c (k:Int)=some (Zn (Zz n (Xf n m k w)),w)∧qs (Zz n (Xf n m k w))≤(Xf n m k w).length * (Q+2 * m):=by
   intro m
   induction m with
   | zero=>
    intro k f a b c _ C D j _
    obtain ⟨g,rfl⟩:∃ g,f=g+1:=⟨f - 1,by omega⟩
    have q:Yk n w:=⟨B,fun i E=>⟨j i (by omega),(p.ok i E).2⟩⟩
    have R:Zan N (n.1,n.2.1,n.2.2.1,n.2.2.2.1,n.2.2.2.2) w=some (Zn (Ti n w n.2.1.length 0 1),0):=hch w q
    have hq:=hQ w q
    rw [Zef.eq_2,if_neg (dF (by omega)),R,Xf,Xcf,aK,Zqi,gN]
    exact ⟨rfl,by omega⟩
   | succ m S=>
    intro k f a b c a0 C D j d
    obtain ⟨g,rfl⟩:∃ g,f=g+1:=⟨f - 1,by omega⟩
    have o:k<w.length:=by omega
    rw [Zef.eq_2,if_pos (dT (by omega)),Yo 0 o,oB]
    by_cases hc:0≤w.getD k 0
    ·have t:Xh n w (m+1) k=Xh n w m (k+1):=by rw [Xh,if_pos hc,aV]
     rw [t] at d
     have T:Xh n w m (k+1) * (Q+2 * m)≤Xh n w m (k+1) * (Q+2 * (m+1)):=aY _ (by omega)
     obtain ⟨U,i2⟩:=S (k+1) g a b c (by omega) (by omega) (by omega) (fun i E=>by
      by_cases e:i=k
      ·subst e;exact hc
      ·exact j i (by omega)) (d.mono (by omega))
     rw [if_pos (dT hc),wS (by omega),Xf,if_pos hc]
     have O:(Xf n m (k+1) w).length * (Q+2 * m)≤(Xf n m (k+1) w).length * (Q+2 * (m+1)):=aY _ (by omega)
     exact ⟨U,by omega⟩
    ·have r:w.getD k 0= -1:=by have:=(p.ok k o).1;omega
     have t:Xh n w (m+1) k=cnt n k * Xh n w m (k+1):=by rw [Xh,if_neg hc]
     have s:=Zae hf.ev (v:=k) (by omega)
     have G:=Zla hf.ev w m (k+1) (by omega)
     have H:Xh n w m (k+1)≤Xh n w (m+1) k:=by rw [t];exact fZ _ s
     have a1:Xh n w m (k+1) * (Q+2 * m)≤Xh n w (m+1) k * (Q+2 * (m+1)):=gX H (by omega)
     have V:Qq N ([]:List QV)=some (Zn 0):=by
      have:=(Zo4 (N:=N) (l:=[]) (fun a X=>by cases X) (d.mono (by rw [X6];omega))).1
      rw [this];rfl
     have I:k<n.2.2.1.length:=by rw [hf.ev.v];omega
     have y:=Zxp hf D p j r (Zbo N F) (fun u Y J L=>Zxq F m (k+1) u (by omega) (by omega) Y J (by rw [L];exact d.mono (by omega))) (d.mono (by rw [bS (Q+2 * m)];omega)) (cnt n k) 0 N 0 (cC _) (by
      obtain ⟨c1,c2,c3⟩:=hf.rows (v:=k) (by omega)
      have M:0<U1 n k:=Zq4 hf.ev (n.2.2.2.1.getD k []) 1 (hf.pars (by omega)) (by omega)
      have:=fZ (cnt n k) M
      rw [U1] at this;omega) (by rw [Znq];omega)
     rw [show w.set k (((0:Nat):Int) - 1)=w from Z2w o r,kS] at y
     rw [if_neg (dF hc),V,oB,Yo [] I,oB,Xf,if_neg hc]
     refine ⟨y.1,aT y.2 ?_⟩
     rw [Zsn _ (Xh n w m (k+1)) _ _ fun x=>by rw [Zch,Zqc _ _ (by omega)]]
     have a2:1≤cnt n k * Xh n w m (k+1):=gT s G
     have:cnt n k * Xh n w m (k+1) * (Q+2 * (m+1))=cnt n k * Xh n w m (k+1) * (Q+2 * m+1)+cnt n k * Xh n w m (k+1):=by
      rw [show Q+2 * (m+1)=(Q+2 * m+1)+1 by omega,dW _ (Q+2 * m+1) 1,fU]
     omega
  exact P m k N _ _ _ (by omega) (by omega) A j d
end
def Vj (n:Zq):Nat→Nat→Nat
 | 0,_=>1
 | m+1,k=>Sx (n.2.2.2.2.getD k []) * Vj n m (k+1)
theorem Zf9 (n:Zq):∀ m k,Vj n m k≠0
 | 0,k=>by rw [Vj];decide
 | m+1,k=>eD (Zsi _) (Zf9 n m (k+1))
theorem Zwr:∀ {t:List QV} {x:QV},x ∈ t→∃ E,E≠0∧Sx t=Xx x.2 * E
 | y :: t,x,h=>by
  rcases bL.1 h with rfl | h
  ·exact ⟨Sx t,Zsi t,rfl⟩
  ·obtain ⟨E,a,b⟩:=Zwr h
   exact ⟨Xx y.2 * E,eD (Us _) a,by rw [Sx,b];grind⟩
section
variable {N W:Nat} {n:Zq} (hf:X2 N n) (hs:W8 n W)
include hf
theorem Z8e {w:List Int} (hw:Yk n w) {v:Nat} (hv:v<n.2.1.length):Bd (Sx (n.2.2.2.2.getD v [])) 1 (ent n w v)∧0≤ent n w v:=by
 have f:=hw.ok v (by rw [hw.len];exact hv)
 have b:(w.getD v 0).toNat<(T4 n w v).length:=by rw [hf.rowT_len hw hv];omega
 have c:=Zp3 (aB b)
 have a:=hf.ent hv _ c
 obtain ⟨E,d,e⟩:=Zwr c
 rw [ent,Xl b,e]
 exact ⟨(Z4r a.1 a.2).lift E (Us _) d,a.1⟩
theorem Zte {w:List Int} (hw:Yk n w):∀ m k,k+m≤n.2.1.length→Bd (Vj n m k) 1 (Xp n w m k)∧0≤Xp n w m k
 | 0,k,_=>by rw [Vj,Xp];exact ⟨Bd.one,by decide⟩
 | m+1,k,h=>by
  obtain ⟨a,b⟩:=Z8e hf hw (v:=k) (by omega)
  obtain ⟨c,d⟩:=Zte hw m (k+1) (by omega)
  rw [Vj,Xp]
  exact ⟨a.mul c,Rat.mul_nonneg b d⟩
omit hf in
theorem Z4q {D:Nat} (hD:D≠0) {q:Rat} (h:Bd D 1 q) (h0:0≤q):∃ z:Nat,q=mkRat (z:Int) D∧z≤D:=by
 obtain ⟨z,e,b⟩:=h
 have a:¬ z<0:=fun c=>by
  have:q<0:=by rw [e,show (0:Rat)=mkRat 0 1 from rfl,Zh6 hD (by decide)];omega
  exact absurd h0 (Rat.not_le.2 this)
 exact ⟨z.toNat,by rw [e];congr 1;omega,by omega⟩
theorem Zzx {w:List Int} (hw:Yk n w):∃ z:Nat,Xp n w n.2.1.length 0=mkRat (z:Int) (Vj n n.2.1.length 0)∧z≤Vj n n.2.1.length 0:=by
 obtain ⟨a,b⟩:=Zte hf hw n.2.1.length 0 (by omega)
 exact Z4q (Zf9 _ _ _) a b
theorem Z3n:∀ C:List R2,(∀ w ∈ C,Yk n w)→∃ A:Nat,Zz n C=mkRat (A:Int) (Vj n n.2.1.length 0)∧A≤C.length * Vj n n.2.1.length 0
 | [],_=>⟨0,by rw [Zz,dD,Vv];exact (kJ _).symm,aQ _⟩
 | w :: C,h=>by
  obtain ⟨z,a,d⟩:=Zzx hf (h w aO)
  obtain ⟨A,b,f⟩:=Z3n C fun x c=>h x (aN _ c)
  have e:Zz n (w :: C)=Xp n w n.2.1.length 0+Zz n C:=by rw [Zz,bJ,Vv];rfl
  refine ⟨z+A,?_,?_⟩
  ·rw [e,a,b,Z9t _ _ (Zf9 _ _ _),dS]
  ·rw [nC,bB,aV];omega
def Tq (n:Zq) (C:List R2):Nat:=(Zz n C * (Vj n n.2.1.length 0:Rat)).num.toNat
omit hf in
theorem Zs3 {A D:Nat} (hD:D≠0):mkRat (A:Int) D * (D:Rat)=(A:Rat):=by
 rw [cM]
 exact Zd4 (Zh7 hD)
theorem Zrp {C:List R2} (h:∀ w ∈ C,Yk n w):Zz n C=mkRat (Tq n C:Int) (Vj n n.2.1.length 0)∧Tq n C≤C.length * Vj n n.2.1.length 0:=by
 obtain ⟨A,a,b⟩:=Z3n hf C h
 have:Tq n C=A:=by rw [Tq,a,Zs3 (Zf9 _ _ _)];simp
 rw [this];exact ⟨a,b⟩
theorem Z83 {C:List R2} (h:∀ w ∈ C,Yk n w) (hp:0<Zz n C) {D E:Nat} (hD:D=Tq n C * E):∀ x ∈ C,∃ z:Nat,(D:Rat) * Xp n x n.2.1.length 0 / Zz n C=(z:Rat):=fun x c=>by
 obtain ⟨z,d,_⟩:=Zzx hf (h x c)
 obtain ⟨a,_⟩:=Zrp hf h
 have f:=Zh7 (Zf9 n n.2.1.length 0)
 have m:((Tq n C:Nat):Rat)≠0:=fun e=>by
  have:Zz n C=0:=by rw [a,cM];show ((Tq n C:Nat):Rat) / _=0;rw [e,bQ,eN]
  rw [this] at hp;exact absurd hp cZ
 have b:Zz n C≠0:=fun e=>by rw [e] at hp;exact absurd hp cZ
 refine ⟨E * z,?_⟩
 have g:Zz n C * (Vj n n.2.1.length 0:Rat)=((Tq n C:Nat):Rat):=by rw [a];exact Zs3 (Zf9 _ _ _)
 have i:Xp n x n.2.1.length 0 * (Vj n n.2.1.length 0:Rat)=((z:Nat):Rat):=by rw [d];exact Zs3 (Zf9 _ _ _)
 have j:(D:Rat)=((Tq n C:Nat):Rat) * (E:Rat):=by rw [hD,kD]
 have k:(D:Rat) * Xp n x n.2.1.length 0=((E * z:Nat):Rat) * Zz n C:=by
  have l:((D:Rat) * Xp n x n.2.1.length 0) * (Vj n n.2.1.length 0:Rat)=((E * z:Nat):Rat) * Zz n C * (Vj n n.2.1.length 0:Rat):=by
   rw [kD,bP,i,bP _ (Zz n C),g,j]
   generalize ((Tq n C:Nat):Rat)=A
   generalize (E:Rat)=B
   generalize (z:Rat)=Z
   grind
  have:=congrArg (· * (Vj n n.2.1.length 0:Rat)⁻¹) l
  simp only [bP,cW _ f,dL] at this
  exact this
 rw [k,bQ,bP,cW _ b,dL]
def Qg (n:Zq):List R2→Nat
 | []=>1
 | w :: r=>Tq n (Xf n n.2.1.length 0 w) * Qg n r
omit hf in
theorem Zu0:∀ (r:List R2) (w:List Int),w ∈ r→∃ E,Qg n r=Tq n (Xf n n.2.1.length 0 w) * E
 | u :: r,w,h=>by
  rcases bL.1 h with rfl | h
  ·exact ⟨Qg n r,rfl⟩
  ·obtain ⟨E,e⟩:=Zu0 r w h
   exact ⟨Tq n (Xf n n.2.1.length 0 u) * E,by rw [Qg,e];grind⟩
omit hf in
theorem Zwh (hlim:∀ v,v<n.2.1.length→∀ x ∈ n.2.2.2.2.getD v [],W2 x):∀ m k,k+m≤n.2.1.length→(Zf (Vj n m k)).length≤Vn (fun v=>X6 (n.2.2.2.2.getD v [])+1) m k+1
 | 0,k,_=>by rw [Vj,Sd,Vn];simp
 | m+1,k,h=>by
  have a:=Zwq (n.2.2.2.2.getD k []) (hlim k (by omega))
  have b:=Zwh hlim m (k+1) (by omega)
  have c:=Uu (Sx (n.2.2.2.2.getD k [])) (Vj n m (k+1))
  rw [Vj,Vn];omega
theorem Zu2:∀ r:List R2,(∀ w ∈ r,PV n w∧0<Zz n (Xf n n.2.1.length 0 w))→Qg n r≠0
 | [],_=>by rw [Qg];decide
 | w :: r,h=>by
  obtain ⟨c,a⟩:=h w aO
  have d:=Zit n.2.1.length 0 w c (by omega) fun i g=>by omega
  obtain ⟨b,_⟩:=Zrp hf d
  rw [Qg]
  refine eD (fun e=>?_) (Zu2 r fun x f=>h x (aN _ f))
  rw [e] at b
  rw [b] at a
  rw [show (((0:Nat):Int))=0 from rfl,kJ] at a
  exact absurd a cZ
theorem Zu1 {G:Nat} (hG:(Zf (Vj n n.2.1.length 0)).length+1≤G):∀ r:List R2,(∀ w ∈ r,PV n w∧Xh n w n.2.1.length 0≤65536)→(Zf (Qg n r)).length≤r.length * G+1
 | [],_=>by rw [Qg,Sd];simp
 | w :: r,h=>by
  obtain ⟨b,c⟩:=h w aO
  have d:=Zit n.2.1.length 0 w b (by omega) fun i g=>by omega
  obtain ⟨_,a⟩:=Zrp hf d
  rw [Zch] at a
  have e:Tq n (Xf n n.2.1.length 0 w)≤65536 * Vj n n.2.1.length 0:=aT a (bD _ c)
  have j:=Y7 e
  have k:=Uu 65536 (Vj n n.2.1.length 0)
  have l:(Zf 65536).length≤1:=Vc.2 (by decide)
  have m:=Uu (Tq n (Xf n n.2.1.length 0 w)) (Qg n r)
  have o:=Zu1 hG r fun x f=>h x (aN _ f)
  rw [Qg,nC,bB,aV];omega
end
theorem Z79:Wt prog 3 1 8:=⟨Tryz.t3,_,rfl,rfl,rfl,rfl,rfl⟩
def Zep (d:R0) (e:List Int) (b:Int) (c:List Int) (kk_L1:(Int→R2→Option R2)):List Int→Int→Option R2
  | [],a=>(Zk d.2.2.1 b).bind fun f=>(Zk e b).bind fun g=>Z2 ((c.length+[i64.wrap ((i64.wrap (a * (f.length:Int)))+g)].length) * 8≤140737488355328∧c.length+[i64.wrap ((i64.wrap (a * (f.length:Int)))+g)].length≤maxLen) (kk_L1 (i64.wrap (b+1)) (c++[i64.wrap ((i64.wrap (a * (f.length:Int)))+g)]))
  | i :: j,a=>(Zk d.2.2.1 i).bind fun k=>(Zk e i).bind fun l=>(Zep d e b c kk_L1 j) (i64.wrap ((i64.wrap (a * (k.length:Int)))+l))
def Zbv (N:Nat) (a:R0) (c:List Int):Nat→Int→R2→Option R2
  | 0,_,_=>none
  | e+1,b,d=>if (decide (b<(a.2.1.length:Int)))=true then ((Zk a.2.2.2.1 b).bind fun f=>Zep a c b d (Zbv N a c e) f 0) else (some d)
def Zl8 (N:Nat) (a:R0) (b:List Int):Option R2:=
  Zbv N a b N 0 ([]:List Int)
theorem Z5h {N y X B C O:Nat} {U V W G M:Option Addr} {col:Ze} {e:World} {b:R0} {o r:R2} (c1:Nat) (c:Zl8 N b o=some r) (K:Sl Za.str col e U y b.2.1) (p:Sl rV col e V X b.2.2.1) (T:Sl rP col e W B b.2.2.2.1) (L:Sl (Za.slice rQ) col e G C b.2.2.2.2) (k:Sl rI col e M O o):
    Calls prog 68 #[(.agg (Rq b U y V X W B G C)),.slice M o.length O] e (Vr .i64 3 c1 col e r):=by
 refine Xc 4 (m:=58) func68 rfl rfl rfl rfl rfl ?_;rw [Zl8.eq_1] at c;have d:=St.start col e;refine go ?_;refine Xg (col:=(Zh col)) 1 rfl fun S _ _ H g=>go ?_;refine Z9 g ?_;refine go ?_;replace d:=d.grow H;refine Zt [1,12,2,1000000] (fun w x K=>∃ L P Q R n m,m=w∧Zbv N b o m P n=some r∧St e (Zh col) L K∧Zd 27 1 L K S (Rq b U y V X W B G C)∧Zb rI 3 2 L K Q R n∧[13,5].map x=[.int .i64 P,.slice Q n.length R]) N ⟨_,0,none,0,_,_,rfl,c,d,g,Zb.nil,rfl⟩ ?_;clear c;intro w x K D;obtain ⟨L,P,Q,R,n,m,q,c,d,g,j,s⟩:=D;subst q;refine .lL [13,5] s ?_;replace p:=p.k0;replace T:=T.k0;replace k:=k.k0
 cases m with
 | zero=>rw [Zbv.eq_1] at c;cases c
 | succ m=>
  rw [Zbv.eq_2] at c;refine go ?_;refine Zm c (fun u c=>go ?_) fun u c=>go ?_
  ·refine Z9 g<|Xk rfl ?_;obtain ⟨A,h,c⟩:=bZ c;refine lI h ((T.ks d).addr h) ?_;obtain ⟨_,F,I⟩:=(T.ks d).atN h;obtain ⟨⟨ai,aj,rfl,l⟩,_⟩:=F;refine lW I.one<|go ?_;refine Zt [1,12,13,2,20,21,5,6,1000000] (fun w x u=>∃ f z Y v,w=v.length∧A.drop z=v∧Zep b o P n (Zbv N b o m) v Y=some r∧St e (Zh col) f u∧Zd 27 1 f u S (Rq b U y V X W B G C)∧Sl rI f u ai aj A∧Zb rI 3 2 f u Q R n∧[22,7].map x=[.int .i64 z,.int .i64 Y]) A.length ⟨_,0,0,_,rfl,rfl,c,d,g,l,j,rfl⟩ ?_;clear c;intro w x u D;obtain ⟨f,z,Y,v,q,Z,c,d,g,l,j,s⟩:=D;subst q;refine .lL [22,7] s ?_
   cases v with
   | nil=>
    have t:¬ ((z:Int)<(A.length:Int)):=by have:=aJ.1 Z;omega
    have i:=decide_eq_false t;rw [Zep.eq_1] at c;refine go ?_;refine Ym (congrArg Value.bool i)<|go ?_;refine Y8 (col:=f) [(0,1),(1,1),(2,1),(3,0),(4,1),(5,1),(6,0),(7,1),(8,1),(9,1),(10,1),(11,1),(12,0),(13,1),(14,3),(15,2),(16,1)] (by kernel_rfl) (by kernel_rfl)<|xu rfl rfl (fun _=>Vd rfl) ?_;refine xu rfl rfl (fun _=>Yd rfl) ?_;refine xF ⟨_,_,rfl⟩ ?_;refine xW (fun _ a=>((g.atN).nth (q:=2) rfl).gr (a.bl f)) ?_;refine xu rfl rfl (fun _=>Yd rfl) ?_;obtain ⟨ak,F,c⟩:=bZ c;refine xu rfl rfl (fun _=>X8 underlying23 sizeOf22 rfl rfl (Z0 F).1 (Z0 F).2.1 ((p.ks d).addr F)) ?_;obtain ⟨_,E,J⟩:=(p.ks d).atN F;obtain ⟨⟨_,_,rfl,_⟩,_⟩:=E;refine xW (fun _ a=>J.one.gr (a.bl f)) ?_;refine xu rfl rfl (fun _=>Q8 underlying22 rfl) ?_;refine xu rfl rfl (fun _=>Zic _ _ rfl rfl) ?_;refine xu rfl rfl (fun _=>Vd rfl) ?_;refine xu rfl rfl (fun _=>Yd rfl) ?_;obtain ⟨v,I,c⟩:=bZ c;refine xu rfl rfl (fun _=>X8 underlying36 sizeOf3 rfl rfl (Z0 I).1 (Z0 I).2.1 ((k.ks d).addr I)) ?_;refine xW (fun _ a=>((k.ks d).gr (a.bl f)).atInt I) ?_;refine xu rfl rfl (fun _=>S8 _ _ rfl rfl) ?_;refine xe rfl rfl ?_;intro _ h;have a:=h.bl f;refine V5 (col:=f) [i64.wrap ((i64.wrap (Y * (ak.length:Int)))+v)] 3 fun _ _ n D x=>Zl<|Xo n h D<|xe rfl rfl ?_;intro s h;replace j:=(j.gr a).gr D;replace g:=(g.gr a).gr D;replace d:=(d.grow a).grow D;have a:=h.bl n;obtain ⟨H,c⟩:=Z4 c;replace j:=j.gr a;refine Sy (col:=n) (w:=s) (r:=rI) (c:=2) (c2:=2) (j.ex) ((x.gr a).srcN (NB.int (k:=.i64))) rfl underlying36 Z79 rfl rfl rfl H.1 H.2 (by decide) fun _ _ _ J E q=>Zl<|xk J<|xu rfl rfl (fun _=>Zqn rfl) ?_;have w:=q.new;refine Y4 ?_;replace g:=(g.gr a).kpp E;replace d:=(d.grow a).kpp E;intro _ a;replace a:=a.bl J;refine go ?_;replace g:=g.gr a;replace d:=d.grow a;exact ⟨m,by omega,rfl,⟨_,_,_,_,_,_,rfl,c,d,g,w.gr a,rfl⟩⟩
   | cons M aq=>
    obtain ⟨m,ar,au⟩:=Yt Z;have t:(z:Int)<(A.length:Int):=by omega
    have i:=decide_eq_true t;rw [Zep.eq_2] at c;refine go ?_;refine Yn (congrArg Value.bool i)<|go ?_;refine lI m (l.addr m)<|lW (l.atInt m) ?_;refine go ?_;refine Wg (col:=f) (by kernel_rfl) (by kernel_rfl)<|go ?_;refine qF ⟨_,_,rfl⟩ ?_;refine qW (fun _ a=>((g.atN).nth (q:=2) rfl).gr (a.bl f)) ?_;refine go ?_;obtain ⟨_,e,c⟩:=bZ c;refine qI e ((p.ks d).addr e) ?_;obtain ⟨_,av,aw⟩:=(p.ks d).atN e;obtain ⟨⟨_,_,rfl,_⟩,_⟩:=av;refine qW (fun _ a=>aw.one.gr (a.bl f)) ?_;refine go ?_;obtain ⟨_,i,c⟩:=bZ c;refine qI i ((k.ks d).addr i)<|qW (fun _ a=>((k.ks d).gr (a.bl f)).atInt i) ?_;refine go ?_;refine Y1 ?_;intro _ a;replace a:=a.bl f;refine go ?_;replace l:=l.gr a;replace j:=j.gr a;replace d:=d.grow a;exact ⟨aq.length,by simp,rfl,⟨_,_,_,_,rfl,ar,c,d,g.gr a,l,j,(Yz (congrArg (Value.int .i64) (Yv (aI au l.1.1))) rfl)⟩⟩
  cases c;exact ⟨rfl,_,_,_,rfl,d.fin (cm [(2,c1)]),d.fo j⟩
def Zcq (N:Nat) (a:(R1×Int)):List Int→Nat→R9→Option R9
  | [],b,c=>some c
  | f :: i,b,c=>(Zk c (b:Int)).bind fun g=>(Zk g f).bind fun d=>(Qo N ((d.1.1,d.1.2),d.2) ((a.1.1.1,a.1.1.2),a.1.2)).bind fun e=>(some (g.set (aA f) ((e.1.1,e.1.2),e.2))).bind fun j=>(Zcq N a i) (b+1) (c.set (aA (b:Int)) j)
def Zel (N:Nat) (i:R0) (a:R1) (j:R9) (k:List Int):List Int→Nat→Bool→R2→R2→Option R9
  | [],b,c,d,e=>(Zcn N ((c,d),e) ((a.1.1,a.1.2),a.2)).bind fun l=>Zcq N l k 0 j
  | m :: n,b,c,d,e=>(Zk i.2.2.2.2 (b:Int)).bind fun o=>(Zk o m).bind fun f=>(Zbr N ((c,d),e) ((f.1.1,f.1.2),f.2)).bind fun g=>(Zel N i a j k n) (b+1) g.1.1 g.1.2 g.2
def Zjg (N:Nat) (d:List Int) (a:R0) (e:R0) (f:R1) (g:R9):Option R9:=
  (Zl8 N (a.1,a.2.1,a.2.2.1,a.2.2.2.1,a.2.2.2.2) d).bind fun c=>(Zma N 1).bind fun b=>Zel N e f g c c 0 b.1.1 b.1.2 b.2
theorem Z5e (N:Nat) (col:Ze) (n:World) (H O S X W bw bx U bz b0 l s:Nat) (hd:Up [l,s]=true) (G:H≠0∧pS [l,s] H=false) (D:O≠0∧pS [l,s] O=false) (E:S≠0∧pS [l,s] S=false) (cn:X≠0∧pS [l,s] X=false) (co:W≠0∧pS [l,s] W=false) (cp:bw≠0∧pS [l,s] bw=false) (cq:bx≠0∧pS [l,s] bx=false) (F:U≠0∧pS [l,s] U=false) (cr:bz≠0∧pS [l,s] bz=false) (cs:b0≠0∧pS [l,s] b0=false) (a0:Option Addr) (b1:Nat) (Y:List Int) (g1:Nat) (y:R0) (a6:Option Addr) (a7:Nat) (a8:Option Addr) (a9:Nat) (ba:Option Addr) (bb:Nat) (bc:Option Addr) (bd g2:Nat) (t:R0) (ak:Option Addr) (al:Nat) (am:Option Addr) (an:Nat) (ao:Option Addr) (ap:Nat) (aq:Option Addr) (ar g3:Nat) (R:R1) (au:Option Addr) (av:Nat) (aw:Option Addr) (ax g4:Nat) (x:R9) (be:Option Addr) (bf:Nat) (h0:Zb rI 3 H col n a0 b1 Y) (H:Sl Za.str col n a6 a7 y.2.1) (b3:Sl rV col n a8 a9 y.2.2.1) (b4:Sl rP col n ba bb y.2.2.2.1) (b5:Sl (Za.slice rQ) col n bc bd y.2.2.2.2) (f:Zd 27 O col n g1 (Rq y a6 a7 a8 a9 ba bb bc bd)) (j:Zb Za.str 9 X col n ak al t.2.1) (k:Zb (Za.row 9 Za.str) 22 W col n am an t.2.2.1) (o:Zb (Za.row 3 rI) 36 bw col n ao ap t.2.2.2.1) (c:Zb (Za.row 42 (rO 45)) 29 bx col n aq ar t.2.2.2.2) (h:Zd 27 S col n g2 (Rq t ak al am an ao ap aq ar)) (d:Zb rU 45 bz col n au av R.1.2) (i:Zb rU 45 b0 col n aw ax R.2) (g:Zd 42 U col n g3 #[.bool R.1.1,.slice au R.1.2.length av,.slice aw R.2.length ax]) (M:Zb (Za.row 42 rQ) 29 s col n be bf x) (b:Zd 25 l col n g4 #[.slice be x.length bf]) (r:R9) (m:Zjg N Y y t R x=some r):
    Calls prog 67 #[.slice a0 Y.length b1,.pointer (some ⟨g1,0,none⟩),.pointer (some ⟨g2,0,none⟩),.pointer (some ⟨g3,0,none⟩),.pointer (some ⟨g4,0,none⟩)] n (fun e w'=>∃ (col':Ze) (X:Option Addr) (W:Nat),e= .returned (.tuple #[])∧Zu (pS [l,s]) col n col' w'∧Zb (Za.row 42 rQ) 29 s col' w' X W r∧Zd 25 l col' w' g4 #[.slice X r.length W]):=by
 refine Zf8 (m:=63) (args:=[.slice a0 Y.length b1,.pointer (some ⟨g1,0,none⟩),.pointer (some ⟨g2,0,none⟩),.pointer (some ⟨g3,0,none⟩),.pointer (some ⟨g4,0,none⟩)]) func67 rfl rfl rfl rfl ?_;rw [Zjg.eq_1] at m;have q:=St.startL (l:=[l,s]) rfl col n;replace f:=f.startB D.1 D.2;replace h:=h.startB E.1 E.2;replace j:=j.startB cn.1 cn.2;replace k:=k.startB co.1 co.2;replace o:=o.startB cp.1 cp.2;replace c:=c.startB cq.1 cq.2;replace g:=g.startB F.1 F.2;replace d:=d.startB cr.1 cr.2;replace i:=i.startB cs.1 cs.2;replace b:=b.startL (Ur hd 0 rfl) (Uq hd 0 rfl);replace M:=M.startL (Ur hd 1 rfl) (Uq hd 1 rfl);refine go ?_;refine lV _ (Z5 isAgg27 sizeOf27 f)<|Y3 rfl ?_;obtain ⟨bl,D,m⟩:=bZ m;refine Zi (Z5h 1 D (((H.keep (X5.startL [l,s] col n)).ks q).froz 999) (((b3.keep (X5.startL [l,s] col n)).ks q).froz 999) (((b4.keep (X5.startL [l,s] col n)).ks q).froz 999) (((b5.keep (X5.startL [l,s] col n)).ks q).froz 999) ((h0.startB G.1 G.2).toSlF (Zg.int .i64))) fun _ _ ⟨U,ct,cu,T,W,p⟩=>⟨_,T,?_⟩;replace p:=p.thaw (Z1 .i64) W ((Fz.refl (col:=(Xe [l,s] col))).froz 999);replace W:=W.thawR (col:=(Xe [l,s] col));generalize Xa n.heap.size (Xe [l,s] col) U=S at *;refine go ?_;obtain ⟨_,H,m⟩:=bZ m;refine Zi (Z5j (col:=S) 2 3 H) fun _ _ ⟨O,_,_,_,_,T,D,G,b7⟩=>⟨_,T,?_⟩;refine Xr (col:=O) #[.bool false,(nI),(nI)] 4 zeroValue42 fun cv _ _ Y E=>Z6 E fun _ X E dk=>go ?_;replace j:=(((j.gr W).gr D).gr Y).kp X;replace k:=(((k.gr W).gr D).gr Y).kp X;replace o:=(((o.gr W).gr D).gr Y).kp X;replace c:=(((c.gr W).gr D).gr Y).kp X;replace d:=(((d.gr W).gr D).gr Y).kp X;replace i:=(((i.gr W).gr D).gr Y).kp X;replace M:=(((M.gr W).gr D).gr Y).kp X;replace f:=(((f.gr W).gr D).gr Y).kp X;replace h:=(((h.gr W).gr D).gr Y).kp X;replace g:=(((g.gr W).gr D).gr Y).kp X
 replace b:=(((b.gr W).gr D).gr Y).kp X;replace q:=(((q.grow W).grow D).grow Y).kp X E;replace p:=((p.gr D).gr Y).kp X;refine Zt [16,17,2,3,4,6,7,1000000] (fun Q ei I=>∃ v az H S U D W F E a2,Q=a2.length∧bl.drop az=a2∧Zel N t R x bl a2 az H D E=some r∧St n (Xe [l,s] col) v I∧Zb rI 3 1 v I ct cu bl∧Zb Za.str 9 999 v I ak al t.2.1∧Zb (Za.row 9 Za.str) 22 999 v I am an t.2.2.1∧Zb (Za.row 3 rI) 36 999 v I ao ap t.2.2.2.1∧Zb (Za.row 42 (rO 45)) 29 999 v I aq ar t.2.2.2.2∧Zd 27 999 v I g2 (Rq t ak al am an ao ap aq ar)∧Zb rU 45 999 v I au av R.1.2∧Zb rU 45 999 v I aw ax R.2∧Zd 42 999 v I g3 #[.bool R.1.1,.slice au R.1.2.length av,.slice aw R.2.length ax]∧Zb (Za.row 42 rQ) 29 441 v I be bf x∧Zd 25 440 v I g4 #[.slice be x.length bf]∧Zb rU 45 2 v I S U D∧Zb rU 45 3 v I W F E∧Zd 42 4 v I cv #[.bool H,.slice S D.length U,.slice W E.length F]∧Zd 27 999 v I g1 (Rq y a6 a7 a8 a9 ba bb bc bd)∧[18].map ei=[.int .i64 az]) bl.length ⟨_,0,_,_,_,_,_,_,_,_,rfl,rfl,m,q,p,j,k,o,c,h,d,i,g,M,b,(G.gr Y).kp X,(b7.gr Y).kp X,dk,f,rfl⟩ ?_;clear m;intro Q ei I hI;obtain ⟨v,az,H,S,U,D,W,F,E,a2,hn,hl,m,q,p,j,k,o,c,h,d,i,g,M,b,bi,bj,dk,f,hs⟩:=hI;subst hn;refine .lL [18] hs ?_
 cases a2 with
 | nil=>
  have hk:¬ ((az:Int)<(bl.length:Int)):=by have:=aJ.1 hl;omega
  have w:=decide_eq_false hk;rw [Zel.eq_1] at m;refine go ?_;refine Ym (congrArg Value.bool w)<|go ?_;refine lV _ (Z5 isAgg42 sizeOf42 dk)<|lV _ (Z5 isAgg42 sizeOf42 g) ?_;obtain ⟨x,G,m⟩:=bZ m;refine Zi (Zvb 5 6 G (((bi.toSlF (Zg.int .u32)).froz 3).froz 999) (((bj.froz 2).toSlF (Zg.int .u32)).froz 999) (((d.froz 2).froz 3).toSlF (Zg.int .u32)) (((i.froz 2).froz 3).toSlF (Zg.int .u32))) fun _ _ ⟨X,Y,F,G,O,T,H,A,B⟩=>⟨_,T,?_⟩;replace A:=A.thaw (Z1 .u32) H ((((Fz.refl (col:=v)).froz 2).froz 3).froz 999);replace B:=B.thaw (Z1 .u32) H ((((Fz.refl (col:=v)).froz 2).froz 3).froz 999);replace H:=H.thawR (col:=v);generalize Xa I.heap.size v X=D at *;refine lM (.tuple #[(.agg #[.bool x.1.1.1,.slice Y x.1.1.2.length F,.slice G x.1.2.length O]),.int .i64 x.2])<|lV (.agg #[.bool x.1.1.1,.slice Y x.1.1.2.length F,.slice G x.1.2.length O]) (Xt rfl rfl)<|lV (.int .i64 x.2) (Xt rfl rfl) ?_;replace dk:=dk.gr H;refine Z6 dk fun _ U I L=>go ?_;replace M:=(M.gr H).kp U;replace p:=(p.gr H).kp U;replace d:=(d.gr H).kp U;replace i:=(i.gr H).kp U;replace j:=(j.gr H).kp U;replace k:=(k.gr H).kp U;replace o:=(o.gr H).kp U;replace c:=(c.gr H).kp U;replace h:=(h.gr H).kp U;replace g:=(g.gr H).kp U;replace b:=(b.gr H).kp U;replace f:=(f.gr H).kp U;replace q:=(q.grow H).kp U I;replace A:=A.kp U;replace B:=B.kp U
  refine Zt [4,40,41,7,1000000] (fun Q ei J=>∃ z V af ej P a3,Q=a3.length∧bl.drop P=a3∧Zcq N x a3 P ej=some r∧St n (Xe [l,s] col) z J∧Zb (Za.row 42 rQ) 29 441 z J V af ej∧Zd 25 440 z J g4 #[.slice V ej.length af]∧Zb rI 3 1 z J ct cu bl∧Zb rU 45 5 z J Y F x.1.1.2∧Zb rU 45 6 z J G O x.1.2∧Zd 42 4 z J cv #[.bool x.1.1.1,.slice Y x.1.1.2.length F,.slice G x.1.2.length O]∧Zb Za.str 9 999 z J ak al t.2.1∧Zb (Za.row 9 Za.str) 22 999 z J am an t.2.2.1∧Zb (Za.row 3 rI) 36 999 z J ao ap t.2.2.2.1∧Zb (Za.row 42 (rO 45)) 29 999 z J aq ar t.2.2.2.2∧Zd 27 999 z J g2 (Rq t ak al am an ao ap aq ar)∧Zb rU 45 999 z J au av R.1.2∧Zb rU 45 999 z J aw ax R.2∧Zd 42 999 z J g3 #[.bool R.1.1,.slice au R.1.2.length av,.slice aw R.2.length ax]∧Zd 27 999 z J g1 (Rq y a6 a7 a8 a9 ba bb bc bd)∧[42].map ei=[.int .i64 P]) bl.length ⟨_,_,_,_,0,_,rfl,rfl,m,q,M,b,p,A,B,L,j,k,o,c,h,d,i,g,f,rfl⟩ ?_;clear m;intro Q ei J hI;obtain ⟨z,V,af,ej,P,a3,hn,hl,m,q,cd,b,p,A,B,L,j,k,o,c,h,d,i,g,f,hs⟩:=hI;subst hn;refine .lL [42] hs ?_
  cases a3 with
  | nil=>
   have hk:¬ ((P:Int)<(bl.length:Int)):=by have:=aJ.1 hl;omega
   have w:=decide_eq_false hk;rw [Zcq.eq_1] at m;refine go ?_;refine Ym (congrArg Value.bool w)<|go ?_;cases m;exact ⟨rfl,Sw n.heap.size [l,s] col z (fun Q=>bif aP Q 441 then s else bif aP Q 440 then l else 0),V,af,rfl,q.finL rfl (fun Q=>bif aP Q 441 then s else bif aP Q 440 then l else 0),q.finOwnL (g:=(fun Q=>bif aP Q 441 then s else bif aP Q 440 then l else 0)) rfl cd (by decide) (by decide) rfl,q.finBoxL (g:=(fun Q=>bif aP Q 441 then s else bif aP Q 440 then l else 0)) b (by decide) (by decide) rfl⟩
  | cons da db=>
   obtain ⟨ai,dc,dd⟩:=Yt hl;have hk:(P:Int)<(bl.length:Int):=by omega
   have w:=decide_eq_true hk;rw [Zcq.eq_2] at m;refine go ?_;refine Yn (congrArg Value.bool w)<|go ?_;refine lI ai (p.addr ai)<|lW (p.atInt ai) ?_;refine go ?_;refine Y8 (col:=z) [(0,0),(1,1),(2,1),(3,0),(4,1),(5,0),(6,1),(7,1),(8,0),(9,1),(10,1),(11,0),(12,0),(13,3),(14,1),(15,2)] (by kernel_rfl) (by kernel_rfl)<|xW (fun _ a=>b.at1.gr (a.bl z)) ?_;refine xu rfl rfl (fun _=>Yd rfl) ?_;obtain ⟨ce,a1,m⟩:=bZ m;refine xu rfl rfl (fun _=>X8 underlying25 sizeOf29 rfl rfl (Z0 a1).1 (Z0 a1).2.1 (cd.addr a1)) ?_;obtain ⟨_,ek,Z,K,de⟩:=cd.open_ 7 (by decide) a1;obtain ⟨cw,cx,rfl,el⟩:=de.row;replace K:X4 (Za.row 42 rQ) 29 441 ek J V af ej (aA (P:Int)) [.slice cw ce.length cx]:=K;refine xW (fun _ a=>K.atN.one.gr (a.bl ek)) ?_;refine xu rfl rfl (fun _=>Yd rfl) ?_;replace b:=b.kpp Z;refine xW (fun _ a=>b.at1.gr (a.bl ek)) ?_;refine xu rfl rfl (fun _=>Yd rfl) ?_;refine xu rfl rfl (fun _=>X8 underlying25 sizeOf29 rfl rfl (Z0 a1).1 (Z0 a1).2.1 (K.addr)) ?_;refine xW (fun _ a=>K.atN.one.gr (a.bl ek)) ?_;refine xu rfl rfl (fun _=>Yd rfl) ?_;obtain ⟨cf,C,m⟩:=bZ m;refine xu rfl rfl (fun _=>X8 underlying29 sizeOf42 rfl rfl (Z0 C).1 (Z0 C).2.1 (el.addr C)) ?_;obtain ⟨_,df,dg⟩:=el.atN C;obtain ⟨_,_,rfl,dh,di⟩:=df.parts;obtain ⟨_,_,rfl,dj,dl⟩:=dh.parts;obtain rfl:=dj.bool;obtain ⟨dm,dn,rfl,cg⟩:=dl.slice;obtain ⟨dp,dq,rfl,ch⟩:=di.slice;refine xv (v:=(.agg #[.bool cf.1.1,.slice dm cf.1.2.length dn,.slice dp cf.2.length dq])) rfl rfl (fun _ a=>Yl isAgg42 sizeOf42 rfl rfl (dg.gr (a.bl ek))) ?_;replace L:=L.kpp Z;refine xv rfl rfl (fun _ a=>Z5 isAgg42 sizeOf42 (L.gr (a.bl ek))) ?_;refine xe rfl rfl ?_;intro l u;have a:=u.bl ek;obtain ⟨O,Q,m⟩:=bZ m;replace A:=(A.kpp Z).gr a;replace B:=(B.kpp Z).gr a;refine Zi (Zoh 8 9 Q (((cg.gr a).froz 5).froz 6) (((ch.gr a).froz 5).froz 6) ((A.toSlF (Zg.int .u32)).froz 6) ((B.froz 5).toSlF (Zg.int .u32))) fun _ _ ⟨R,J,Q,I,Y,T,x,n,z⟩=>⟨_,T,?_⟩
   replace n:=n.thaw (Z1 .u32) x (((Fz.refl (col:=ek)).froz 5).froz 6);replace z:=z.thaw (Z1 .u32) x (((Fz.refl (col:=ek)).froz 5).froz 6);replace x:=x.thawR (col:=ek);generalize Xa l.heap.size ek R=l at *;refine Zl<|Xo l u x ?_;replace el:=(el.gr a).gr x;refine xu rfl rfl (fun _=>X8 underlying29 sizeOf42 rfl rfl (Z0 C).1 (Z0 C).2.1 (el.addr C)) ?_;refine xe rfl rfl ?_;intro _ u;replace p:=((p.kpp Z).gr a).gr x;replace j:=((j.kpp Z).gr a).gr x;replace k:=((k.kpp Z).gr a).gr x;replace o:=((o.kpp Z).gr a).gr x;replace c:=((c.kpp Z).gr a).gr x;replace d:=((d.kpp Z).gr a).gr x;replace i:=((i.kpp Z).gr a).gr x;replace h:=((h.kpp Z).gr a).gr x;replace g:=((g.kpp Z).gr a).gr x;replace f:=((f.kpp Z).gr a).gr x;replace q:=((q.kpp Z).grow a).grow x;replace K:=(K.gr a).gr x;replace b:=(b.gr a).gr x;replace L:=(L.gr a).gr x;have a:=u.bl l;replace K:=K.gr a;replace K:=K.froz 9;replace el:=el.gr a;replace el:=el.froz 9;replace p:=p.gr a;replace p:=p.froz 9;replace A:=(A.gr x).gr a;replace A:=A.froz 9;replace B:=(B.gr x).gr a;replace B:=B.froz 9;replace n:=n.gr a;replace n:=n.froz 9;replace z:=z.gr a;replace z:=(z).toSlF (Zg.int .u32);replace j:=j.gr a;replace j:=j.froz 9;replace k:=k.gr a;replace k:=k.froz 9;replace o:=o.gr a;replace o:=o.froz 9;replace c:=c.gr a;replace c:=c.froz 9;replace d:=d.gr a;replace d:=d.froz 9;replace i:=i.gr a;replace i:=i.froz 9;replace b:=b.gr a;replace b:=b.froz 9;replace L:=L.gr a;replace L:=L.froz 9;replace h:=h.gr a;replace h:=h.froz 9;replace g:=g.gr a;replace g:=g.froz 9;replace f:=f.gr a;replace f:=f.froz 9;replace q:=q.grow a;replace q:=q.froz 9 (by decide) (by decide);replace K:=K.froz 8;replace p:=p.froz 8;replace A:=A.froz 8;replace B:=B.froz 8;replace j:=j.froz 8;replace k:=k.froz 8
   replace o:=o.froz 8;replace c:=c.froz 8;replace d:=d.froz 8;replace i:=i.froz 8;replace b:=b.froz 8;replace L:=L.froz 8;replace h:=h.froz 8;replace g:=g.froz 8;replace f:=f.froz 8;replace q:=q.froz 8 (by decide) (by decide);obtain ⟨E,G,m⟩:=bZ m;have G:E=ce.set (aA da) ((O.1.1,O.1.2),O.2):=(Option.some.inj G).symm;refine Zo8 (x1:=((O.1.1,O.1.2),O.2)) (v:=(.agg #[.bool O.1.1,.slice J O.1.2.length Q,.slice I O.2.length Y])) (el.froz 8) C rfl sizeOf42 (Zld (Zld (Zaa O.1.1) (Znt ((n).toSlF (Zg.int .u32)))) (Znt (z.froz 8))) rfl rfl (by decide) ?_;intro I S n J;rw [← G] at J;replace b:=b.kp S;replace b:Zd 25 440 (Ya 8 (Ya 9 l)) I g4 #[.slice V ej.length af]:=by rw [];exact b
   replace K:=K.kp S;replace K:X4 (Za.row 42 rQ) 29 441 (Ya 8 (Ya 9 l)) I V af ej (aA (P:Int)) [.slice cw E.length cx]:=by rw [← (show ce.length=E.length by rw [G,nS])];exact K
   refine Zl ?_;refine ⟨fun w'=>Zj (Ya 8 (Ya 9 l)) I (Ya 8 (Ya 9 l)) w',Zj.refl _ _,fun C=>absurd C (by decide),?_⟩;have z:=K.close J.has (by decide) (by decide);replace p:=p.kp S;replace p:=p.recol 7 441;replace A:=A.kp S;replace A:=A.recol 7 441;replace B:=B.kp S;replace B:=B.recol 7 441;replace j:=j.kp S;replace j:=j.recol 7 441;replace k:=k.kp S;replace k:=k.recol 7 441;replace o:=o.kp S;replace o:=o.recol 7 441;replace c:=c.kp S;replace c:=c.recol 7 441;replace d:=d.kp S;replace d:=d.recol 7 441;replace i:=i.kp S;replace i:=i.recol 7 441;replace b:=b.recol 7 441;replace L:=L.kp S;replace L:=L.recol 7 441;replace h:=h.kp S;replace h:=h.recol 7 441;replace g:=g.kp S;replace g:=g.recol 7 441;replace f:=f.kp S;replace f:=f.recol 7 441;replace q:=q.kp S n;replace q:=q.recol 7 441 (by decide) (by decide);replace b:Zd 25 440 (Xv 7 441 (Ya 8 (Ya 9 l))) I g4 #[(.slice V ((ej.set (aA (P:Int)) E).length) af)]:=by rw [← (show ej.length=(ej.set (aA (P:Int)) E).length by simp only [nS])];exact b
   refine Y4 ?_;intro _ a;replace a:=a.bl (Xv 7 441 (Ya 8 (Ya 9 l)));refine go ?_;replace p:=p.gr a;replace j:=j.gr a;replace k:=k.gr a;replace o:=o.gr a;replace c:=c.gr a;replace d:=d.gr a;replace i:=i.gr a;replace b:=b.gr a;replace h:=h.gr a;replace g:=g.gr a;replace f:=f.gr a;replace q:=q.grow a;exact ⟨db.length,by simp,rfl,⟨_,_,_,_,_,_,rfl,dc,m,q,z.gr a,b,p,A.gr a,B.gr a,L.gr a,j,k,o,c,h,d,i,g,f,(Yz (congrArg (Value.int .i64) (Yv (aI dd p.len))) rfl)⟩⟩
 | cons A dz=>
  obtain ⟨ai,d0,d1⟩:=Yt hl;have hk:(az:Int)<(bl.length:Int):=by omega
  have w:=decide_eq_true hk;rw [Zel.eq_2] at m;refine go ?_;refine Yn (congrArg Value.bool w)<|go ?_;refine lI ai (p.addr ai)<|lW (p.atInt ai) ?_;refine go ?_;refine Y8 (col:=v) [(0,0),(1,1),(2,0),(3,1),(4,1),(5,0),(6,1),(7,1),(8,0),(9,3),(10,2)] (by kernel_rfl) (by kernel_rfl)<|xv rfl rfl (fun _ a=>Z5 isAgg42 sizeOf42 (dk.gr (a.bl v))) ?_;refine xF ⟨_,_,rfl⟩ ?_;refine xW (fun _ a=>((h.atN).nth (q:=4) rfl).gr (a.bl v)) ?_;refine xu rfl rfl (fun _=>Yd rfl) ?_;obtain ⟨_,B,m⟩:=bZ m;refine xu rfl rfl (fun _=>X8 underlying25 sizeOf29 rfl rfl (Z0 B).1 (Z0 B).2.1 (c.addr B)) ?_;obtain ⟨_,d2,d3⟩:=c.atN B;obtain ⟨_,_,rfl,cz⟩:=d2.row;refine xW (fun _ a=>d3.one.gr (a.bl v)) ?_;refine xu rfl rfl (fun _=>Yd rfl) ?_;obtain ⟨cj,F,m⟩:=bZ m;refine xu rfl rfl (fun _=>X8 underlying29 sizeOf42 rfl rfl (Z0 F).1 (Z0 F).2.1 (cz.addr F)) ?_;obtain ⟨_,d4,d5⟩:=cz.atN F;obtain ⟨_,_,rfl,d6,d7⟩:=d4.parts;obtain ⟨_,_,rfl,d8,d9⟩:=d6.parts;obtain rfl:=d8.bool;obtain ⟨ea,eb,rfl,ck⟩:=d9.row;obtain ⟨ec,ed,rfl,cl⟩:=d7.row;refine xv (v:=(.agg #[.bool cj.1.1,.slice ea cj.1.2.length eb,.slice ec cj.2.length ed])) rfl rfl (fun _ a=>Yl isAgg42 sizeOf42 rfl rfl (d5.gr (a.bl v))) ?_;refine xe rfl rfl ?_;intro Z u;have a:=u.bl v;obtain ⟨_,K,m⟩:=bZ m;refine Zi (Zru 10 11 K ((((bi.gr a).toSlF (Zg.int .u32)).froz 3).froz 999) ((((bj.gr a).froz 2).toSlF (Zg.int .u32)).froz 999) ((((ck.gr a).froz 2).froz 3).toSlF (Zg.int .u32)) ((((cl.gr a).froz 2).froz 3).toSlF (Zg.int .u32))) fun _ _ ⟨L,_,_,_,_,T,C,A,w⟩=>⟨_,T,?_⟩;replace A:=A.thaw (Z1 .u32) C ((((Fz.refl (col:=v)).froz 2).froz 3).froz 999);replace w:=w.thaw (Z1 .u32) C ((((Fz.refl (col:=v)).froz 2).froz 3).froz 999);replace C:=C.thawR (col:=v);generalize Xa Z.heap.size v L=v at *;refine Zl<|Xo v u C<|xe rfl rfl ?_;intro _ u;replace p:=(p.gr a).gr C;replace j:=(j.gr a).gr C;replace k:=(k.gr a).gr C;replace o:=(o.gr a).gr C
  replace c:=(c.gr a).gr C;replace d:=(d.gr a).gr C;replace i:=(i.gr a).gr C;replace M:=(M.gr a).gr C;replace h:=(h.gr a).gr C;replace g:=(g.gr a).gr C;replace b:=(b.gr a).gr C;replace dk:=(dk.gr a).gr C;replace f:=(f.gr a).gr C;replace q:=(q.grow a).grow C;have a:=u.bl v;refine Z6 (dk.gr a) fun _ V P u=>Zl<|xk v<|Y4 ?_;replace p:=(p.gr a).kp V;replace j:=(j.gr a).kp V;replace k:=(k.gr a).kp V;replace o:=(o.gr a).kp V;replace c:=(c.gr a).kp V;replace d:=(d.gr a).kp V;replace i:=(i.gr a).kp V;replace M:=(M.gr a).kp V;replace A:=(A.gr a).kp V;replace w:=(w.gr a).kp V;replace h:=(h.gr a).kp V;replace g:=(g.gr a).kp V;replace b:=(b.gr a).kp V;replace f:=(f.gr a).kp V;replace q:=(q.grow a).kp V P;intro _ a;replace a:=a.bl v;refine go ?_;replace p:=p.gr a;replace p:=p.recol 10 2;replace j:=j.gr a;replace j:=j.recol 10 2;replace k:=k.gr a;replace k:=k.recol 10 2;replace o:=o.gr a;replace o:=o.recol 10 2;replace c:=c.gr a;replace c:=c.recol 10 2;replace d:=d.gr a;replace d:=d.recol 10 2;replace i:=i.gr a;replace i:=i.recol 10 2;replace M:=M.gr a;replace M:=M.recol 10 2;replace A:=A.gr a;replace A:=A.recolSelf 2 (by decide);replace w:=w.gr a;replace w:=w.recol 10 2;replace h:=h.gr a;replace h:=h.recol 10 2;replace g:=g.gr a;replace g:=g.recol 10 2;replace b:=b.gr a;replace b:=b.recol 10 2;replace u:=u.gr a;replace u:=u.recol 10 2;replace f:=f.gr a;replace f:=f.recol 10 2;replace q:=q.grow a;replace q:=q.recol 10 2 (by decide) (by decide);replace p:=p.recol 11 3;replace w:=w.recolSelf 3 (by decide);replace f:=f.recol 11 3
  replace q:=q.recol 11 3 (by decide) (by decide);exact ⟨dz.length,by simp,rfl,⟨_,_,_,_,_,_,_,_,_,_,rfl,d0,m,q,p,j.recol 11 3,k.recol 11 3,o.recol 11 3,c.recol 11 3,h.recol 11 3,d.recol 11 3,i.recol 11 3,g.recol 11 3,M.recol 11 3,b.recol 11 3,A.recol 11 3,w,u.recol 11 3,f,(Yz (congrArg (Value.int .i64) (Yv (aI d1 p.len))) rfl)⟩⟩
theorem Z78:Wt prog 3 1 8:=⟨Tryz.t3,_,rfl,rfl,rfl,rfl,rfl⟩
def Zeo (N:Nat) (b:ByteArray) (c:List ByteArray) (d:List R3) (e:List R2) (f:List R4) (g:ByteArray) (i:List ByteArray) (j:List R3) (k:List R2) (l:List R4) (m:Bool) (n o:List Int) (q:List R4) (kk_L2:(List Int→ByteArray→R3→Rb→R6→R9→ByteArray→R3→Rb→R6→R9→Bool→R2→R2→R9→Option R9)) (r:Int×List Int):List Int→Nat→R2→Option R9
  | [],p,a=>(Zjg N a (b,c,d,e,f) (g,i,j,k,l) ((m,n),o) q).bind fun t=>kk_L2 a b c d e f g i j k l m n o t
  | s :: u,p,a=>(Zk r.2 (p:Int)).bind fun v=>(Zk a s).bind fun y=>(some (a.set (aA s) v)).bind fun w=>(Zeo N b c d e f g i j k l m n o q kk_L2 r u) (p+1) w
def Zbu (N:Nat) (b:List Int):List R8→R2→ByteArray→R3→Rb→R6→R9→ByteArray→R3→Rb→R6→R9→Bool→R2→R2→R9→Option R9
  | [],c,d,e,f,g,i,j,k,l,m,n,o,p,q,a=>some a
  | r :: s,c,d,e,f,g,i,j,k,l,m,n,o,p,q,a=>Zeo N d e f g i j k l m n o p q a (Zbu N b s) r b 0 c
def Zjj (a:Nat) (kk_L1:(Nat→R2→R2→Option R9)) (b c:List Int):Option R9:=
  kk_L1 (a+1) b c
def Zam (N:Nat) (g:R0) (i:List Int) (a:R0) (b:R0) (f:R1) (j:R9):List Int→Nat→R2→R2→Option R9
  | [],c,d,e=>(Za5 i).bind fun m=>(Zm9 N e).bind fun n=>Zbu N d n m a.1 a.2.1 a.2.2.1 a.2.2.2.1 a.2.2.2.2 b.1 b.2.1 b.2.2.1 b.2.2.2.1 b.2.2.2.2 f.1.1 f.1.2 f.2 j
  | o :: l,c,d,e=>if (decide (o<0))=true then (Z2 ((d.length+[(c:Int)].length) * 8≤140737488355328∧d.length+[(c:Int)].length≤maxLen) ((Zk g.2.2.1 (c:Int)).bind fun k=>Z2 ((e.length+[(k.length:Int)].length) * 8≤140737488355328∧e.length+[(k.length:Int)].length≤maxLen) (Zjj c (Zam N g i a b f j l) (d++[(c:Int)]) (e++[(k.length:Int)])))) else (Zjj c (Zam N g i a b f j l) d e)
def Zji (N:Nat) (b:R0) (a:List Int) (c:R0) (d:R0) (e:R1) (f:R9):Option R9:=
  Zam N b a c d e f a 0 ([]:List Int) ([]:List Int)
theorem Z5g {N cv cw cx cy cn X cz c0 c1 c3 Y b3 b4 b5 b6 Z b7 b8 J b9:Nat} {c4 c5 c6 c7 a1 c8 c9 da db ca cb cc cd ce cf cg:Option Addr} {col:Ze} {l:World} {p:R0} {a7:R2} {s b:R0} {G:R1} {a8 r:R9} (F qc4 ds dt du dv qc5 dw dx g j:Nat) (k:Zji N p a7 s b G a8=some r) (hd:Up [g,j]=true) (U:F≠0∧pS [g,j] F=false) (V:qc4≠0∧pS [g,j] qc4=false) (ej:ds≠0∧pS [g,j] ds=false) (ek:dt≠0∧pS [g,j] dt=false) (el:du≠0∧pS [g,j] du=false) (em:dv≠0∧pS [g,j] dv=false) (h:qc5≠0∧pS [g,j] qc5=false) (en:dw≠0∧pS [g,j] dw=false) (eo:dx≠0∧pS [g,j] dx=false) (gf:Sl Za.str col l c4 cv p.2.1) (di:Sl rV col l c5 cw p.2.2.1) (gg:Sl rP col l c6 cx p.2.2.2.1) (gh:Sl (Za.slice rQ) col l c7 cy p.2.2.2.2) (h1:Sl rI col l a1 cn a7) (dy:Sl Za.str col l c8 cz s.2.1) (dz:Sl rV col l c9 c0 s.2.2.1) (d0:Sl rP col l da c1 s.2.2.2.1) (d1:Sl (Za.slice rQ) col l db c3 s.2.2.2.2) (f:Zd 27 F col l X (Rq s c8 cz c9 c0 da c1 db c3)) (R:Zb Za.str 9 ds col l ca b3 b.2.1) (Q:Zb (Za.row 9 Za.str) 22 dt col l cb b4 b.2.2.1) (P:Zb (Za.row 3 rI) 36 du col l cc b5 b.2.2.2.1) (O:Zb (Za.row 42 (rO 45)) 29 dv col l cd b6 b.2.2.2.2) (d:Zd 27 qc4 col l Y (Rq b ca b3 cb b4 cc b5 cd b6)) (M:Zb rU 45 dw col l ce b7 G.1.2) (L:Zb rU 45 dx col l cf b8 G.2) (c:Zd 42 qc5 col l Z #[.bool G.1.1,.slice ce G.1.2.length b7,.slice cf G.2.length b8]) (K:Zb (Za.row 42 rQ) 29 j col l cg b9 a8) (a:Zd 25 g col l J #[.slice cg a8.length b9]):
    Calls prog 66 #[(.agg (Rq p c4 cv c5 cw c6 cx c7 cy)),.slice a1 a7.length cn,(.func (.func 67) #[] #[.pointer (some ⟨X,0,none⟩),.pointer (some ⟨Y,0,none⟩),.pointer (some ⟨Z,0,none⟩),.pointer (some ⟨J,0,none⟩)])] l (fun e w'=>∃ (col':Ze) (oa1:Option Addr) (F:Nat),e= .returned (.tuple #[])∧Zu (pS [g,j]) col l col' w'∧Zb (Za.row 42 rQ) 29 j col' w' oa1 F r∧Zd 25 g col' w' J #[.slice oa1 r.length F]):=by
 refine Z68 (mc:=499) (m:=62) (args:=[(.agg (Rq p c4 cv c5 cw c6 cx c7 cy)),.slice a1 a7.length cn,(.func (.func 67) #[] #[.pointer (some ⟨X,0,none⟩),.pointer (some ⟨Y,0,none⟩),.pointer (some ⟨Z,0,none⟩),.pointer (some ⟨J,0,none⟩)])]) func66 rfl rfl rfl rfl ?_;rw [Zji.eq_1] at k;have o:=St.startL (l:=[g,j]) rfl col l;replace f:=f.startB U.1 U.2;replace d:=d.startB V.1 V.2;replace R:=R.startB ej.1 ej.2;replace Q:=Q.startB ek.1 ek.2;replace P:=P.startB el.1 el.2;replace O:=O.startB em.1 em.2;replace c:=c.startB h.1 h.2;replace M:=M.startB en.1 en.2;replace L:=L.startB eo.1 eo.2;replace di:=di.keep (X5.startL [g,j] col l);replace h1:=h1.keep (X5.startL [g,j] col l);replace dy:=dy.keep (X5.startL [g,j] col l);replace dz:=dz.keep (X5.startL [g,j] col l);replace d0:=d0.keep (X5.startL [g,j] col l);replace d1:=d1.keep (X5.startL [g,j] col l);replace a:=a.startL (Ur hd 0 rfl) (Uq hd 0 rfl);replace K:=K.startL (Ur hd 1 rfl) (Uq hd 1 rfl);have i:Wh 499 (Xe [g,j] col) l []:=.nil;refine go ?_;refine Xg (col:=(Xe [g,j] col)) 1 rfl fun ep _ U h ar=>Ziz (col:=U) (v:=(.func (.func 67) #[] #[.pointer (some ⟨X,0,none⟩),.pointer (some ⟨Y,0,none⟩),.pointer (some ⟨Z,0,none⟩),.pointer (some ⟨J,0,none⟩)])) 2 rfl rfl ?_;intro dc V F U u;replace u:Zd 104 2 F V dc #[(.func (.func 67) #[] #[.pointer (some ⟨X,0,none⟩),.pointer (some ⟨Y,0,none⟩),.pointer (some ⟨Z,0,none⟩),.pointer (some ⟨J,0,none⟩)])]:=u;refine go ?_;refine Zcj (col:=F) (v:=(nI)) 3 rfl zeroValue36 ?_;intro co e6 V F v;replace v:Zd 36 3 V e6 co #[(nI)]:=v;refine go ?_;replace R:=((R.gr h).gr U).gr F;replace Q:=((Q.gr h).gr U).gr F;replace P:=((P.gr h).gr U).gr F;replace O:=((O.gr h).gr U).gr F;replace M:=((M.gr h).gr U).gr F;replace L:=((L.gr h).gr U).gr F;replace K:=((K.gr h).gr U).gr F;replace f:=((f.gr h).gr U).gr F;replace d:=((d.gr h).gr U).gr F;replace c:=((c.gr h).gr U).gr F;replace a:=((a.gr h).gr U).gr F;replace i:=((i.gr h).gr U).gr F;replace o:=((o.grow h).grow U).grow F
 replace ar:=(ar.gr U).gr F;replace u:=u.gr F;refine Zt [1,15,16,3,5,6,1000000] (fun bl dk F=>∃ ex a9 ch ci fo V h U dd,bl=dd.length∧a7.drop a9=dd∧Zam N p a7 s b G a8 dd a9 fo U=some r∧St l (Xe [g,j] col) ex F∧Zd 27 1 ex F ep (Rq p c4 cv c5 cw c6 cx c7 cy)∧Zd 27 999 ex F X (Rq s c8 cz c9 c0 da c1 db c3)∧Zb Za.str 9 999 ex F ca b3 b.2.1∧Zb (Za.row 9 Za.str) 22 999 ex F cb b4 b.2.2.1∧Zb (Za.row 3 rI) 36 999 ex F cc b5 b.2.2.2.1∧Zb (Za.row 42 (rO 45)) 29 999 ex F cd b6 b.2.2.2.2∧Zd 27 999 ex F Y (Rq b ca b3 cb b4 cc b5 cd b6)∧Zb rU 45 999 ex F ce b7 G.1.2∧Zb rU 45 999 ex F cf b8 G.2∧Zd 42 999 ex F Z #[.bool G.1.1,.slice ce G.1.2.length b7,.slice cf G.2.length b8]∧Zb (Za.row 42 rQ) 29 441 ex F cg b9 a8∧Zd 25 440 ex F J #[.slice cg a8.length b9]∧Zd 104 2 ex F dc #[(.func (.func 67) #[] #[.pointer (some ⟨X,0,none⟩),.pointer (some ⟨Y,0,none⟩),.pointer (some ⟨Z,0,none⟩),.pointer (some ⟨J,0,none⟩)])]∧Zb rI 3 4 ex F ch ci fo∧Zd 36 3 ex F co #[.slice ch fo.length ci]∧Zb rI 3 5 ex F V h U∧Wh 499 ex F []∧[17,7].map dk=[.int .i64 a9,.slice V U.length h]) a7.length ⟨_,0,none,0,_,none,0,_,_,rfl,rfl,k,o,ar,f,R,Q,P,O,d,M,L,c,K,a,u,Zb.nil,v,Zb.nil,i,rfl⟩ ?_;clear k;intro bl dk F hI;obtain ⟨ex,a9,ch,ci,fo,V,h,U,dd,hn,hl,k,o,ar,f,R,Q,P,O,d,M,L,c,K,a,u,H,v,cj,i,hs⟩:=hI;subst hn;refine .lL [17,7] hs ?_
 cases dd with
 | nil=>
  have n:¬ ((a9:Int)<(a7.length:Int)):=by have:=aJ.1 hl;omega
  have I:=decide_eq_false n;rw [Zam.eq_1] at k;refine go ?_;refine Ym (congrArg Value.bool I)<|go ?_;obtain ⟨d4,h,k⟩:=bZ k;refine Zi (Zos 6 h (h1.ks o)) fun _ _ ⟨h,d5,d6,e',F,d7⟩=>⟨_,e',?_⟩;refine Zcj (col:=h) (v:=(nI)) 7 rfl zeroValue36 ?_;intro de U V fs h;replace h:Zd 36 7 V U de #[(nI)]:=h;refine Ql (v:=(.slice d5 d4.length d6)) h sizeOf36 rfl rfl (Rs rfl rfl) rfl rfl ?_;intro U D fb S;replace S:Zd 36 7 V U de #[.slice d5 d4.length d6]:=S;refine go ?_;obtain ⟨fc,h,k⟩:=bZ k;replace cj:=((cj.gr F).gr fs).kp D;refine Zi (Z6s 8 h (cj.toSlF (Zg.int .i64))) fun _ _ ⟨fe,_,e',T,h⟩=>⟨_,e',?_⟩;replace h:=h.thaw T ((Fz.refl (col:=V)).froz 5);replace T:=T.thawR (col:=V);generalize Xa U.heap.size V fe=U at *;refine go ?_;replace R:=(((R.gr F).gr fs).kp D).gr T;replace Q:=(((Q.gr F).gr fs).kp D).gr T;replace P:=(((P.gr F).gr fs).kp D).gr T;replace O:=(((O.gr F).gr fs).kp D).gr T;replace M:=(((M.gr F).gr fs).kp D).gr T;replace L:=(((L.gr F).gr fs).kp D).gr T;replace K:=(((K.gr F).gr fs).kp D).gr T;replace H:=(((H.gr F).gr fs).kp D).gr T;replace u:=(((u.gr F).gr fs).kp D).gr T;replace f:=(((f.gr F).gr fs).kp D).gr T;replace d:=(((d.gr F).gr fs).kp D).gr T;replace c:=(((c.gr F).gr fs).kp D).gr T;replace a:=(((a.gr F).gr fs).kp D).gr T;replace v:=(((v.gr F).gr fs).kp D).gr T;replace i:=(((i.gr F).gr fs).kp D).gr T;replace o:=(((o.grow F).grow fs).kp D fb).grow T;replace S:=S.gr T
  refine Zut (psl:=[42,43]) (arr:=(fun (V:Int×List Int) (col:Ze) (F:World) (args:List Value)=>∃ a1 cn,args=[.int .i64 V.1,.slice a1 V.2.length cn]∧Zb rI 3 8 col F a1 cn V.2)) (ys:=fc) (col:=U) 498 rfl h rfl i rfl rfl (by rintro _ _ _ _ ⟨_,_,rfl,_⟩;rfl) (fun h C E=>∃ (cp:Option Addr) (cq:Nat) (ck:List Int) (ba:ByteArray) (bb:Option Addr) (bc:Nat) (au:List ByteArray) (bd:Option Addr) (be:Nat) (av:List R3) (bf:Option Addr) (bg:Nat) (aw:List R2) (bh:Option Addr) (bi:Nat) (ax:List R4) (bj:ByteArray) (bk:Option Addr) (bm:Nat) (ay:List ByteArray) (bn:Option Addr) (bo:Nat) (az:List R3) (bp:Option Addr) (bq:Nat) (a0:List R2) (br:Option Addr) (bs:Nat) (a2:List R4) (bt:Bool) (bu:Option Addr) (bv:Nat) (a3:List Int) (bw:Option Addr) (bx:Nat) (a4:List Int) (bz:Option Addr) (b0:Nat) (a5:List R4),Zbu N fo h ck ba au av aw ax bj ay az a0 a2 bt a3 a4 a5=some r∧St l (Xe [g,j] col) C E∧Zb rI 3 6 C E cp cq ck∧Zd 36 7 C E de #[.slice cp ck.length cq]∧Sl Za.str C E bb bc au∧Sl rV C E bd be av∧Sl rP C E bf bg aw∧Sl (Za.slice rQ) C E bh bi ax∧Zd 27 999 C E X #[.string ba,.slice bb au.length bc,.slice bd av.length be,.slice bf aw.length bg,.slice bh ax.length bi]∧Zb Za.str 9 999 C E bk bm ay∧Zb (Za.row 9 Za.str) 22 999 C E bn bo az∧Zb (Za.row 3 rI) 36 999 C E bp bq a0∧Zb (Za.row 42 (rO 45)) 29 999 C E br bs a2∧Zd 27 999 C E Y #[.string bj,.slice bk ay.length bm,.slice bn az.length bo,.slice bp a0.length bq,.slice br a2.length bs]∧Zb rU 45 999 C E bu bv a3∧Zb rU 45 999 C E bw bx a4∧Zd 42 999 C E Z #[.bool bt,.slice bu a3.length bv,.slice bw a4.length bx]∧Zb (Za.row 42 rQ) 29 441 C E bz b0 a5∧Zd 25 440 C E J #[.slice bz a5.length b0]∧Zd 104 2 C E dc #[(.func (.func 67) #[] #[.pointer (some ⟨X,0,none⟩),.pointer (some ⟨Y,0,none⟩),.pointer (some ⟨Z,0,none⟩),.pointer (some ⟨J,0,none⟩)])]∧Zb rI 3 4 C E ch ci fo∧Zd 36 3 C E co #[.slice ch fo.length ci]) (fun _ _ _=>False) ?_ ?_ ⟨d5,d6,d4,s.1,c8,cz,s.2.1,c9,c0,s.2.2.1,da,c1,s.2.2.2.1,db,c3,s.2.2.2.2,b.1,ca,b3,b.2.1,cb,b4,b.2.2.1,cc,b5,b.2.2.2.1,cd,b6,b.2.2.2.2,G.1.1,ce,b7,G.1.2,cf,b8,G.2,cg,b9,a8,k,o,((d7.gr fs).kp D).gr T,S,(dy.ks o),(dz.ks o),(d0.ks o),(d1.ks o),f,R,Q,P,O,d,M,L,c,K,a,u,H,v⟩ ?_ ?_ ?_
  ·intro h C E _ _ hJ n;obtain ⟨cp,cq,ck,ba,bb,bc,au,bd,be,av,bf,bg,aw,bh,bi,ax,bj,bk,bm,ay,bn,bo,az,bp,bq,a0,br,bs,a2,bt,bu,bv,a3,bw,bx,a4,bz,b0,a5,k,o,cr,S,gi,gj,gk,gl,f,w,x,y,z,d,A,B,c,W,a,u,H,v⟩:=hJ;exact ⟨cp,cq,ck,ba,bb,bc,au,bd,be,av,bf,bg,aw,bh,bi,ax,bj,bk,bm,ay,bn,bo,az,bp,bq,a0,br,bs,a2,bt,bu,bv,a3,bw,bx,a4,bz,b0,a5,k,o.kpp n rfl rfl,cr.kpp n rfl rfl,S.kpp n rfl,gi.kpp n rfl,gj.kpp n rfl,gk.kpp n rfl,gl.kpp n rfl,f.kpp n rfl,w.kpp n rfl rfl,x.kpp n rfl rfl,y.kpp n rfl rfl,z.kpp n rfl rfl,d.kpp n rfl,A.kpp n rfl rfl,B.kpp n rfl rfl,c.kpp n rfl,W.kpp n rfl rfl,a.kpp n rfl,u.kpp n rfl,H.kpp n rfl rfl,v.kpp n rfl⟩
  ·intro _ _ _ _ _ gm _;exact gm
  ·intro fg _ fh es fi C E args hJ m i harr;obtain ⟨cp,cq,ck,ba,bb,bc,au,bd,be,av,bf,bg,aw,bh,bi,ax,bj,bk,bm,ay,bn,bo,az,bp,bq,a0,br,bs,a2,bt,bu,bv,a3,bw,bx,a4,bz,b0,a5,k,o,cr,S,gi,gj,gk,gl,f,w,x,y,z,d,A,B,c,W,a,u,H,v⟩:=hJ;rw [Zbu.eq_2] at k;have q:=Zu.refl (pC 1) C E;obtain ⟨fj,fk,rfl,a6⟩:=harr;refine go ?_;refine ⟨_,m,?_⟩;intro _ F T D U;have m:=U;refine go ?_;replace v:=v.kp T;refine lW v.at1<|go ?_;replace cr:=cr.kp T;replace gi:=gi.kp T;replace gj:=gj.kp T;replace gk:=gk.kp T;replace gl:=gl.kp T;replace w:=w.kp T;replace x:=x.kp T;replace y:=y.kp T;replace z:=z.kp T;replace A:=A.kp T;replace B:=B.kp T;replace W:=W.kp T;replace H:=H.kp T;replace a6:=a6.kp T;replace S:=S.kp T;replace u:=u.kp T;replace f:=f.kp T;replace d:=d.kp T;replace c:=c.kp T;replace a:=a.kp T;replace i:=i.kp T;replace q:=q.kp T D rfl;replace o:=o.kp T D
   refine Zt [10,12,44,45,5,6,1000000] (fun bl dk D=>∃ t cs ct b1 cu dg,bl=dg.length∧fo.drop cu=dg∧Zeo N ba au av aw ax bj ay az a0 a2 bt a3 a4 a5 (Zbu N fo fi) es dg cu b1=some r∧St l (Xe [g,j] col) t D∧Zb rI 3 6 t D cs ct b1∧Zd 36 7 t D de #[.slice cs b1.length ct]∧Zb rI 3 8 t D fj fk es.2∧Zb rI 3 4 t D ch ci fo∧Sl Za.str t D bb bc au∧Sl rV t D bd be av∧Sl rP t D bf bg aw∧Sl (Za.slice rQ) t D bh bi ax∧Zd 27 999 t D X #[.string ba,.slice bb au.length bc,.slice bd av.length be,.slice bf aw.length bg,.slice bh ax.length bi]∧Zb Za.str 9 999 t D bk bm ay∧Zb (Za.row 9 Za.str) 22 999 t D bn bo az∧Zb (Za.row 3 rI) 36 999 t D bp bq a0∧Zb (Za.row 42 (rO 45)) 29 999 t D br bs a2∧Zd 27 999 t D Y #[.string bj,.slice bk ay.length bm,.slice bn az.length bo,.slice bp a0.length bq,.slice br a2.length bs]∧Zb rU 45 999 t D bu bv a3∧Zb rU 45 999 t D bw bx a4∧Zd 42 999 t D Z #[.bool bt,.slice bu a3.length bv,.slice bw a4.length bx]∧Zb (Za.row 42 rQ) 29 441 t D bz b0 a5∧Zd 25 440 t D J #[.slice bz a5.length b0]∧Zd 104 2 t D dc #[(.func (.func 67) #[] #[.pointer (some ⟨X,0,none⟩),.pointer (some ⟨Y,0,none⟩),.pointer (some ⟨Z,0,none⟩),.pointer (some ⟨J,0,none⟩)])]∧Zd 36 3 t D co #[.slice ch fo.length ci]∧Vp 498 t D fg F∧Wh 499 t D fh∧Zu (pC 1) C E t D∧[46].map dk=[.int .i64 cu]) fo.length ⟨_,_,_,_,0,_,rfl,rfl,k,o,cr,S,a6,H,gi,gj,gk,gl,f,w,x,y,z,d,A,B,c,W,a,u,v,m,i,q,rfl⟩ ?_;clear k;intro bl dk D hI
   obtain ⟨t,cs,ct,b1,cu,dg,hn,hl,k,o,b2,S,a6,H,gi,gj,gk,gl,f,w,x,y,z,d,A,B,c,W,a,u,v,m,i,q,hs⟩:=hI;subst hn;refine .lL [46] hs ?_
   cases dg with
   | nil=>
    have n:¬ ((cu:Int)<(fo.length:Int)):=by have:=aJ.1 hl;omega
    have I:=decide_eq_false n;rw [Zeo.eq_1] at k;refine go ?_;refine Ym (congrArg Value.bool I)<|go ?_;refine lW u.at1<|lW S.at1 ?_;obtain ⟨T,D,k⟩:=bZ k;refine lc rfl rfl (Z0i call67 rfl rfl) (Z5e N t _ 6 999 999 999 999 999 999 999 999 999 440 441 rfl ⟨by decide,rfl⟩ ⟨by decide,rfl⟩ ⟨by decide,rfl⟩ ⟨by decide,rfl⟩ ⟨by decide,rfl⟩ ⟨by decide,rfl⟩ ⟨by decide,rfl⟩ ⟨by decide,rfl⟩ ⟨by decide,rfl⟩ ⟨by decide,rfl⟩ cs ct b1 X (ba,au,av,aw,ax) bb bc bd be bf bg bh bi Y (bj,ay,az,a0,a2) bk bm bn bo bp bq br bs Z ((bt,a3),a4) bu bv bw bx J a5 bz b0 b2 gi gj gk gl f w x y z d A B c W a T D) fun _ _ ⟨_,F,U,e',D,V,h⟩=>⟨_,e',?_⟩;replace b2:=b2.kpp D;replace gi:=gi.kpp D;replace gj:=gj.kpp D;replace gk:=gk.kpp D;replace gl:=gl.kpp D;replace w:=w.kpp D;replace x:=x.kpp D;replace y:=y.kpp D;replace z:=z.kpp D;replace A:=A.kpp D;replace B:=B.kpp D;replace H:=H.kpp D;replace S:=S.kpp D;replace u:=u.kpp D;replace f:=f.kpp D;replace d:=d.kpp D;replace c:=c.kpp D;replace v:=v.kpp D;replace m:=m.kpp D;replace i:=i.kpp D;replace q:=q.trans (D.mono (by first | exact pCo_p2 rfl | exact pCo_p1 rfl | exact Xag rfl | exact fun _=>Xaf | exact fun _ gm=>gm | exact fun _ _=>rfl));refine Zl ?_;replace o:=o.kpp D;exact ⟨_,q,⟨cs,ct,b1,ba,bb,bc,au,bd,be,av,bf,bg,aw,bh,bi,ax,bj,bk,bm,ay,bn,bo,az,bp,bq,a0,br,bs,a2,bt,bu,bv,a3,bw,bx,a4,F,U,T,k,o,b2,S,gi,gj,gk,gl,f,w,x,y,z,d,A,B,c,V,h,u,H,v⟩,m,i⟩
   | cons ft fu=>
    obtain ⟨cl,fv,fw⟩:=Yt hl;have n:(cu:Int)<(fo.length:Int):=by omega
    have I:=decide_eq_true n;rw [Zeo.eq_2] at k;refine go ?_;refine Yn (congrArg Value.bool I)<|go ?_;refine lI cl (H.addr cl)<|lW (H.atInt cl) ?_;refine go ?_;refine Y8 (col:=t) [(0,0),(1,1),(2,1),(3,1),(4,1),(5,0),(6,1),(7,2)] (by kernel_rfl) (by kernel_rfl)<|xW (fun _ h=>S.at1.gr (h.bl t)) ?_;refine xu rfl rfl (fun _=>Yd rfl) ?_;refine xu rfl rfl (fun _=>Vd rfl) ?_;refine xu rfl rfl (fun _=>Yd rfl) ?_;obtain ⟨F,T,k⟩:=bZ k;refine xu rfl rfl (fun _=>X8 underlying36 sizeOf3 rfl rfl (Z0 T).1 (Z0 T).2.1 (a6.addr T)) ?_;refine xW (fun _ h=>(a6.gr (h.bl t)).atInt T) ?_;obtain ⟨_,T,k⟩:=bZ k;refine xu rfl rfl (fun _=>X8 underlying36 sizeOf3 rfl rfl (Z0 T).1 (Z0 T).2.1 (b2.addr T)) ?_;refine xe rfl rfl ?_;intro _ V;have h:=V.bl t;obtain ⟨U,D,k⟩:=bZ k;have D:U=b1.set (aA ft) F:=(Option.some.inj D).symm;refine Wb (x1:=F) (b2.gr h) T ?_;intro fx V T F;rw [← D] at F;replace S:=(S.gr h).kp V;replace S:Zd 36 7 t fx de #[.slice cs U.length ct]:=by rw [← (show b1.length=U.length by rw [D,nS])];exact S
    refine Zl<|xk t<|Y4 ?_;replace a6:=(a6.gr h).kp V;replace H:=(H.gr h).kp V;replace gi:=(gi.gr h).kp V;replace gj:=(gj.gr h).kp V;replace gk:=(gk.gr h).kp V;replace gl:=(gl.gr h).kp V;replace w:=(w.gr h).kp V;replace x:=(x.gr h).kp V;replace y:=(y.gr h).kp V;replace z:=(z.gr h).kp V;replace A:=(A.gr h).kp V;replace B:=(B.gr h).kp V;replace W:=(W.gr h).kp V;replace u:=(u.gr h).kp V;replace f:=(f.gr h).kp V;replace d:=(d.gr h).kp V;replace c:=(c.gr h).kp V;replace a:=(a.gr h).kp V;replace v:=(v.gr h).kp V;replace m:=(m.gr h).kp V;replace i:=(i.gr h).kp V;replace q:=(q.gr h).kp V T rfl;replace o:=(o.grow h).kp V T;intro _ h;replace h:=h.bl t;refine go ?_;replace H:=H.gr h;replace gi:=gi.gr h;replace gj:=gj.gr h;replace gk:=gk.gr h;replace gl:=gl.gr h;replace w:=w.gr h;replace x:=x.gr h;replace y:=y.gr h;replace z:=z.gr h;replace A:=A.gr h;replace B:=B.gr h;replace W:=W.gr h;replace S:=S.gr h;replace u:=u.gr h;replace f:=f.gr h;replace d:=d.gr h;replace c:=c.gr h;replace a:=a.gr h;replace v:=v.gr h;replace i:=i.gr h;replace o:=o.grow h;exact ⟨fu.length,by simp,rfl,⟨_,_,_,_,_,_,rfl,fv,k,o,F.gr h,S,a6.gr h,H,gi,gj,gk,gl,f,w,x,y,z,d,A,B,c,W,a,u,v,m.gr h,i,q.gr h,(Yz (congrArg (Value.int .i64) (Yv (aI fw H.len))) rfl)⟩⟩
  ·intro fy C E hJ i;obtain ⟨cp,cq,ck,ba,bb,bc,au,bd,be,av,bf,bg,aw,bh,bi,ax,bj,bk,bm,ay,bn,bo,az,bp,bq,a0,br,bs,a2,bt,bu,bv,a3,bw,bx,a4,bz,b0,a5,k,o,cr,S,gi,gj,gk,gl,f,w,x,y,z,d,A,B,c,W,a,u,H,v⟩:=hJ;rw [Zbu.eq_1] at k;cases k;refine ⟨_,(fy :: []),rfl,i,?_⟩;intro _ x m;replace a:=a.kp x;replace o:=o.kp x m;exact ⟨Sw l.heap.size [g,j] col C (fun bl=>bif aP bl 441 then j else bif aP bl 440 then g else 0),bz,b0,rfl,o.finL rfl (fun bl=>bif aP bl 441 then j else bif aP bl 440 then g else 0),o.finOwnL (g:=(fun bl=>bif aP bl 441 then j else bif aP bl 440 then g else 0)) rfl (W.kp x) (by decide) (by decide) rfl,o.finBoxL (g:=(fun bl=>bif aP bl 441 then j else bif aP bl 440 then g else 0)) a (by decide) (by decide) rfl⟩
  intro _ _ _ _ gm;exact gm.elim
 | cons y S=>
  obtain ⟨cl,C,E⟩:=Yt hl;have n:(a9:Int)<(a7.length:Int):=by omega
  have I:=decide_eq_true n;rw [Zam.eq_2] at k;refine go ?_;refine Yn (congrArg Value.bool I)<|Xz<|Zx ?_;refine Wp.cutK [1,15,16,17,3,5,6,1000000] (fun dk m=>∃ n y z q A B t,Zjj a9 (Zam N p a7 s b G a8 S) q t=some r∧St l (Xe [g,j] col) n m∧Zd 27 1 n m ep (Rq p c4 cv c5 cw c6 cx c7 cy)∧Zd 27 999 n m X (Rq s c8 cz c9 c0 da c1 db c3)∧Zb Za.str 9 999 n m ca b3 b.2.1∧Zb (Za.row 9 Za.str) 22 999 n m cb b4 b.2.2.1∧Zb (Za.row 3 rI) 36 999 n m cc b5 b.2.2.2.1∧Zb (Za.row 42 (rO 45)) 29 999 n m cd b6 b.2.2.2.2∧Zd 27 999 n m Y (Rq b ca b3 cb b4 cc b5 cd b6)∧Zb rU 45 999 n m ce b7 G.1.2∧Zb rU 45 999 n m cf b8 G.2∧Zd 42 999 n m Z #[.bool G.1.1,.slice ce G.1.2.length b7,.slice cf G.2.length b8]∧Zb (Za.row 42 rQ) 29 441 n m cg b9 a8∧Zd 25 440 n m J #[.slice cg a8.length b9]∧Zd 104 2 n m dc #[(.func (.func 67) #[] #[.pointer (some ⟨X,0,none⟩),.pointer (some ⟨Y,0,none⟩),.pointer (some ⟨Z,0,none⟩),.pointer (some ⟨J,0,none⟩)])]∧Zb rI 3 4 n m y z q∧Zd 36 3 n m co #[.slice y q.length z]∧Zb rI 3 5 n m A B t∧Wh 499 n m []∧[7].map dk=[.slice A t.length B]) ?_ ?_
  ·intro dk m hJ;obtain ⟨n,y,z,q,A,B,t,k,o,ar,f,R,Q,P,O,d,M,L,c,K,a,u,n,v,q,i,hs⟩:=hJ;rw [Zjj.eq_1] at k;refine .lL [7] hs<|go ?_;exact ⟨S.length,by simp,rfl,⟨_,_,_,_,_,_,_,_,_,rfl,C,k,o,ar,f,R,Q,P,O,d,M,L,c,K,a,u,n,v,q,i,(Yz (congrArg (Value.int .i64) (Yv (aI E (h1.ks o).1.1))) rfl)⟩⟩
  refine go ?_;refine lI cl ((h1.ks o).addr cl)<|lW ((h1.ks o).atInt cl) ?_;refine go ?_;refine Zm k (fun J k=>go ?_) fun J k=>?_
  ·refine lW v.at1<|Xk rfl<|V5 (col:=ex) [(a9:Int)] 9 ?_;intro _ Y X gn g;obtain ⟨C,k⟩:=Z4 k;replace H:=H.gr gn;refine Sy (col:=X) (w:=Y) (r:=rI) (c:=4) (c2:=4) (H.ex) (g.srcN (NB.int (k:=.i64))) rfl underlying36 Z78 rfl rfl rfl C.1 C.2 (by decide) ?_;intro E I _ e3 gp t;replace v:=(v.gr gn).kpp gp;refine Ql (v:=(.slice E ((fo++[(a9:Int)]).length) I)) v sizeOf36 rfl rfl (Rs rfl rfl) rfl rfl ?_;intro W gr x dh;replace dh:Zd 36 3 e3 W co #[.slice E ((fo++[(a9:Int)]).length) I]:=dh;have eh:=(t.kp gr).new;refine go ?_;refine Xy ⟨_,_,rfl⟩ ?_;replace ar:=((ar.gr gn).kpp gp).kp gr;refine lW ((ar.atN).nth (q:=2) rfl)<|Xk rfl ?_;obtain ⟨f9,w,k⟩:=bZ k;replace o:=((o.grow gn).kpp gp).kp gr x;refine lI w ((di.ks o).addr w) ?_;obtain ⟨_,ga,gb⟩:=(di.ks o).atN w;obtain ⟨⟨_,_,rfl,_⟩,_⟩:=ga;refine lW gb.one<|go ?_;refine V5 (col:=e3) [(f9.length:Int)] 10 ?_;intro _ _ _ g Z;obtain ⟨l,k⟩:=Z4 k;replace cj:=(((cj.gr gn).kpp gp).kp gr).gr g;refine Wy cj (Z.srcN (NB.int (k:=.i64))) l fun _ _ _ _ l w=>go ?_;replace R:=((((R.gr gn).kpp gp).kp gr).gr g).kpp l;replace Q:=((((Q.gr gn).kpp gp).kp gr).gr g).kpp l;replace P:=((((P.gr gn).kpp gp).kp gr).gr g).kpp l;replace O:=((((O.gr gn).kpp gp).kp gr).gr g).kpp l;replace M:=((((M.gr gn).kpp gp).kp gr).gr g).kpp l;replace L:=((((L.gr gn).kpp gp).kp gr).gr g).kpp l;replace K:=((((K.gr gn).kpp gp).kp gr).gr g).kpp l;replace u:=((((u.gr gn).kpp gp).kp gr).gr g).kpp l;replace f:=((((f.gr gn).kpp gp).kp gr).gr g).kpp l;replace d:=((((d.gr gn).kpp gp).kp gr).gr g).kpp l;replace c:=((((c.gr gn).kpp gp).kp gr).gr g).kpp l;replace a:=((((a.gr gn).kpp gp).kp gr).gr g).kpp l;replace i:=((((i.gr gn).kpp gp).kp gr).gr g).kpp l;replace ar:=(ar.gr g).kpp l;replace o:=(o.grow g).kpp l
   exact ⟨rfl,_,_,_,_,_,_,_,k,o,ar,f,R,Q,P,O,d,M,L,c,K,a,u,(eh.gr g).kpp l,(dh.gr g).kpp l,w,i,rfl⟩
  refine Xz ?_;exact ⟨rfl,_,_,_,_,_,_,_,k,o,ar,f,R,Q,P,O,d,M,L,c,K,a,u,H,v,cj,i,rfl⟩
def Zgs (N:Nat) (b:R0) (d:List R4):Nat→Int→ByteArray→R3→Rb→R6→R9→Option (R0×Int)
  | 0,_,_,_,_,_,_=>none
  | j+1,a,e,f,g,i,c=>if (decide (a<(b.2.1.length:Int)))=true then ((Zk c a).bind fun k=>(Zk d a).bind fun l=>(Zk b.2.2.1 a).bind fun m=>(Zl9 N k l (m.length:Int)).bind fun n=>(Zgs N b d j) (i64.wrap (a+1)) e f g i (c.set (aA a) n)) else (some ((e,f,g,i,c),0))
def Zcr (N:Nat) (a:R0) (b:R0):List R2→R9→Option (R0×Int)
  | [],c=>Zgs N a c N 0 b.1 b.2.1 b.2.2.1 b.2.2.2.1 b.2.2.2.2
  | e :: f,c=>(Zaj N (a.1,a.2.1,a.2.2.1,a.2.2.2.1,a.2.2.2.2) [e]).bind fun d=>(Zji N (a.1,a.2.1,a.2.2.1,a.2.2.2.1,a.2.2.2.2) e (a.1,a.2.1,a.2.2.1,a.2.2.2.1,a.2.2.2.2) (b.1,b.2.1,b.2.2.1,b.2.2.2.1,b.2.2.2.2) ((d.1.1.1,d.1.1.2),d.1.2) c).bind fun g=>(Zcr N a b f) g
def Zem (N:Nat) (b:R0) (e:R6) (f:R0):Nat→R9→Int→Option (R0×Int)
  | 0,_,_=>none
  | g+1,c,a=>if (decide (a<(b.2.1.length:Int)))=true then ((Zk b.2.2.2.2 a).bind fun d=>Z2 (d.length * 56≤281474976710656∧d.length≤maxLen) ((Zk c a).bind fun j=>(some (c.set (aA a) (aD d.length (((false,([]:List Int)),([]:List Int)):R1)))).bind fun i=>(Zem N b e f g) i (i64.wrap (a+1)))) else (Zcr N b f e c)
def Sg (N:Nat) (a:R0) (c:R6):Option (R0×Int):=
  (Qu N (a.1,a.2.1,a.2.2.1,a.2.2.2.1,a.2.2.2.2) c).bind fun d=>if (!decide (d=0))=true then (some ((⟨#[]⟩,([]:List ByteArray),([]:List R3),([]:List R2),([]:List R4)),d)) else ((Zaj N (a.1,a.2.1,a.2.2.1,a.2.2.2.1,a.2.2.2.2) c).bind fun b=>if (!decide (b.2=0))=true then (some ((⟨#[]⟩,([]:List ByteArray),([]:List R3),([]:List R2),([]:List R4)),b.2)) else ((Qp N ((b.1.1.1,b.1.1.2),b.1.2)).bind fun e=>if (decide (e=0))=true then (some ((⟨#[]⟩,([]:List ByteArray),([]:List R3),([]:List R2),([]:List R4)),52)) else ((Zjh N (a.1,a.2.1,a.2.2.1,a.2.2.2.1,a.2.2.2.2)).bind fun f=>Z2 (a.2.1.length * 24≤281474976710656∧a.2.1.length≤maxLen) (Zem N a c f N (aD a.2.1.length (([]:List R1):R4)) 0))))
theorem Zvc {N ay az a0 a2 Z:Nat} {a3 a4 a5 a6 W:Option Addr} {col:Ze} {o:World} {i:R0} {bl:R6} {r:(R0×Int)} (c1 c2 c3 c4:Nat) (b:Sg N i bl=some r) (dk:Sl Za.str col o a3 ay i.2.1) (L:Sl rV col o a4 az i.2.2.1) (ds:Sl rP col o a5 a0 i.2.2.2.1) (M:Sl (Za.slice rQ) col o a6 a2 i.2.2.2.2) (R:Sl rP col o W Z bl):
    Calls prog 20 #[(.agg (Rq i a3 ay a4 az a5 a0 a6 a2)),.slice W bl.length Z] o (fun e w'=>∃ (col':Ze) (F:Option Addr) (z:Nat) (V:Option Addr) (G:Nat) (Z:Option Addr) (W:Nat) (x:Option Addr) (w:Nat),e= .returned (.tuple #[(.agg #[.string r.1.1,.slice F r.1.2.1.length z,.slice V r.1.2.2.1.length G,.slice Z r.1.2.2.2.1.length W,.slice x r.1.2.2.2.2.length w]),.int .i64 r.2])∧Zj col o col' w'∧Zb Za.str 9 c1 col' w' F z r.1.2.1∧Zb (Za.row 9 Za.str) 22 c2 col' w' V G r.1.2.2.1∧Zb (Za.row 3 rI) 36 c3 col' w' Z W r.1.2.2.2.1∧Zb (Za.row 42 (rO 45)) 29 c4 col' w' x w r.1.2.2.2.2):=by
 refine Yx (m:=105) func20 rfl rfl rfl ?_;rw [Sg.eq_1] at b;have c:=St.start col o;refine go ?_;refine Xg (col:=(Zh col)) 1 rfl fun bt _ G v d=>Xr (col:=G) #[.string (⟨#[]⟩),.slice none (([]:List ByteArray).length) 0,.slice none (([]:List R3).length) 0,.slice none (([]:List R2).length) 0,(.slice none (([]:List R4).length) 0)] 2 zeroValue27 fun ci _ x F f=>go ?_;replace d:=d.gr F;refine lV _ (Z5 isAgg27 sizeOf27 d)<|Y3 rfl ?_;obtain ⟨_,Z,b⟩:=bZ b;replace dk:=dk.k0;replace L:=L.k0;replace ds:=ds.k0;replace M:=M.k0;replace R:=R.k0;replace c:=(c.grow v).grow F;refine Zi (Z5k Z (dk.ks c) (L.ks c) (ds.ks c) (M.ks c) (R.ks c)) fun _ _ ⟨p,v⟩=>⟨_,p,?_⟩;replace v:=Rr x v;refine go ?_;replace d:=d.gr v;replace f:=f.gr v;replace c:=c.grow v;refine Zm b (fun t b=>go ?_) fun t b=>go ?_
 ·refine lV (.agg #[.string (⟨#[]⟩),.slice none (([]:List ByteArray).length) 0,.slice none (([]:List R3).length) 0,.slice none (([]:List R2).length) 0,(.slice none (([]:List R4).length) 0)]) (Wo (l:=[_,_,_,_,_]) (qs:=[(0,1),(1,1),(2,1),(3,1),(4,1)]) underlying27 zeroValue27 ⟨rfl,sizeOf9,rfl,sizeOf22,rfl,sizeOf23,rfl,sizeOf24,rfl,sizeOf25,trivial⟩ rfl)<|Xk rfl<|Z6 f ?_;intro _ dv dw dx;refine go ?_;cases b;replace c:=c.kp dv dw;exact ⟨rfl,_,Vm dx.atN,_,none,0,none,0,none,0,none,0,rfl,c.fin (cm []),Zb.nil,Zb.nil,Zb.nil,Zb.nil⟩
 refine lV _ (Z5 isAgg27 sizeOf27 d)<|Y3 rfl ?_;obtain ⟨v,Z,b⟩:=bZ b;refine Zi (Zu9 3 4 Z (dk.ks c) (L.ks c) (ds.ks c) (M.ks c) (R.ks c)) fun _ _ ⟨W,x,z,G,V,p,F,ck,cl⟩=>⟨_,p,?_⟩;refine lM (.tuple #[(.agg #[.bool v.1.1.1,.slice x v.1.1.2.length z,.slice G v.1.2.length V]),.int .i64 v.2])<|lV (.agg #[.bool v.1.1.1,.slice x v.1.1.2.length z,.slice G v.1.2.length V]) (Xt rfl rfl)<|lV (.int .i64 v.2) (Xt rfl rfl)<|Xr (col:=W) #[.bool false,(nI),(nI)] 5 zeroValue42 ?_;intro _ _ db a8 z;refine Z6 z fun _ a9 G d3=>go ?_;replace d:=((d.gr F).gr a8).kp a9;replace f:=((f.gr F).gr a8).kp a9;replace c:=((c.grow F).grow a8).kp a9 G;refine Zm b (fun t b=>go ?_) fun t b=>go ?_
 ·refine lV (.agg #[.string (⟨#[]⟩),.slice none (([]:List ByteArray).length) 0,.slice none (([]:List R3).length) 0,.slice none (([]:List R2).length) 0,(.slice none (([]:List R4).length) 0)]) (Wo (l:=[_,_,_,_,_]) (qs:=[(0,1),(1,1),(2,1),(3,1),(4,1)]) underlying27 zeroValue27 ⟨rfl,sizeOf9,rfl,sizeOf22,rfl,sizeOf23,rfl,sizeOf24,rfl,sizeOf25,trivial⟩ rfl)<|Xk rfl<|Z6 f ?_;intro _ d4 d5 d6;refine go ?_;cases b;replace c:=c.kp d4 d5;exact ⟨rfl,_,Vm d6.atN,_,none,0,none,0,none,0,none,0,rfl,c.fin (cm []),Zb.nil,Zb.nil,Zb.nil,Zb.nil⟩
 refine lV _ (Z5 isAgg42 sizeOf42 d3) ?_;obtain ⟨_,W,b⟩:=bZ b;refine Zi (Zoi W ((((ck.gr a8).kp a9).toSlF (Zg.int .u32)).froz 4) ((((cl.gr a8).kp a9).froz 3).toSlF (Zg.int .u32))) fun _ _ ⟨p,w⟩=>⟨_,p,?_⟩;replace w:=Rr db w;refine go ?_;replace d:=d.gr w;replace f:=f.gr w;replace c:=c.grow w;refine Zm b (fun t b=>go ?_) fun t b=>go ?_
 ·refine lV (.agg #[.string (⟨#[]⟩),.slice none (([]:List ByteArray).length) 0,.slice none (([]:List R3).length) 0,.slice none (([]:List R2).length) 0,(.slice none (([]:List R4).length) 0)]) (Wo (l:=[_,_,_,_,_]) (qs:=[(0,1),(1,1),(2,1),(3,1),(4,1)]) underlying27 zeroValue27 ⟨rfl,sizeOf9,rfl,sizeOf22,rfl,sizeOf23,rfl,sizeOf24,rfl,sizeOf25,trivial⟩ rfl)<|Z6 f ?_;intro _ d9 ea eb;refine go ?_;cases b;replace c:=c.kp d9 ea;exact ⟨rfl,_,Vm eb.atN,_,none,0,none,0,none,0,none,0,rfl,c.fin (cm []),Zb.nil,Zb.nil,Zb.nil,Zb.nil⟩
 refine lV _ (Z5 isAgg27 sizeOf27 d) ?_;obtain ⟨T,v,b⟩:=bZ b;refine Zi (Z5f 6 7 8 9 v (dk.ks c) (L.ks c) (ds.ks c) (M.ks c)) fun _ _ ⟨w,bu,bv,bw,bx,bz,b0,b1,b2,p,W,k,l,m,n⟩=>⟨_,p,?_⟩;refine Xr (col:=w) #[.string (⟨#[]⟩),.slice none (([]:List ByteArray).length) 0,.slice none (([]:List R3).length) 0,.slice none (([]:List R2).length) 0,(.slice none (([]:List R4).length) 0)] 10 zeroValue27 fun ao _ z G x=>Z6 x fun w F eh g=>go ?_;refine Xy ⟨_,_,rfl⟩ ?_;replace d:=((d.gr W).gr G).kp F;refine lW ((d.atN).nth (q:=1) rfl)<|go ?_;obtain ⟨v,b⟩:=Z4 b;refine Sc (col:=z) (w:=w) (r:=(Za.row 42 rQ)) (n:=i.2.1.length) (x0:=([]:List R1)) 11 rfl underlying25 Tryz.t29 rfl rfl rfl rfl rfl rfl rfl v.1 v.2 Ztz fun dd _ V z Z=>Zcj (col:=V) (v:=(.slice none (([]:List R4).length) 0)) 12 rfl zeroValue25 ?_;intro Q x w v V;replace V:Zd 25 12 w x Q #[(.slice none (([]:List R4).length) 0)]:=V;refine Ql (v:=(.slice dd ((aD i.2.1.length (([]:List R1):R4)).length) i.2.1.length)) V sizeOf25 rfl rfl (Rs rfl rfl) rfl rfl ?_;intro V x el h;replace h:Zd 25 12 w V Q #[(.slice dd ((aD i.2.1.length (([]:List R1):R4)).length) i.2.1.length)]:=h;refine go ?_;refine Xy ⟨_,_,rfl⟩ ?_;replace d:=((d.gr z).gr v).kp x;refine lW ((d.atN).nth (q:=1) rfl)<|go ?_;replace f:=(((((f.gr W).gr G).kp F).gr z).gr v).kp x;replace c:=(((((c.grow W).grow G).kp F eh).grow z).grow v).kp x el;replace k:=((((k.gr G).kp F).gr z).gr v).kp x;replace l:=((((l.gr G).kp F).gr z).gr v).kp x;replace m:=((((m.gr G).kp F).gr z).gr v).kp x;replace n:=((((n.gr G).kp F).gr z).gr v).kp x;replace g:=((g.gr z).gr v).kp x;replace Z:=(Z.gr v).kp x
 refine Zt [1,10,2,4,48,9,1000000] (fun du d1 W=>∃ q b3 b4 y b5 X,X=du∧Zem N i bl T X y b5=some r∧St o (Zh col) q W∧Zb (Za.row 42 rQ) 29 11 q W b3 b4 y∧Zd 25 12 q W Q #[.slice b3 y.length b4]∧Zd 27 1 q W bt (Rq i a3 ay a4 az a5 a0 a6 a2)∧Zd 27 2 q W ci #[.string (⟨#[]⟩),.slice none (([]:List ByteArray).length) 0,.slice none (([]:List R3).length) 0,.slice none (([]:List R2).length) 0,(.slice none (([]:List R4).length) 0)]∧Zb Za.str 9 6 q W bu bv T.2.1∧Zb (Za.row 9 Za.str) 22 7 q W bw bx T.2.2.1∧Zb (Za.row 3 rI) 36 8 q W bz b0 T.2.2.2.1∧Zb (Za.row 42 (rO 45)) 29 9 q W b1 b2 T.2.2.2.2∧Zd 27 10 q W ao (Rq T bu bv bw bx bz b0 b1 b2)∧[49].map d1=[.int .i64 b5]) N ⟨_,_,_,_,0,_,rfl,b,c,Z,h,d,f,k,l,m,n,g,rfl⟩ ?_;clear b;intro du d1 W hI;obtain ⟨q,b3,b4,y,b5,X,hn,b,c,I,h,d,f,k,l,m,n,g,hs⟩:=hI;subst hn;refine .lL [49] hs ?_
 cases X with
 | zero=>rw [Zem.eq_1] at b;cases b
 | succ X=>
  rw [Zem.eq_2] at b;refine go ?_;refine Zm b (fun t b=>go ?_) fun t b=>go ?_
  ·refine Y8 (col:=q) [(0,0),(1,1),(2,1),(3,0),(4,1),(5,1),(6,0),(7,1),(8,3),(9,1),(10,2)] (by kernel_rfl) (by kernel_rfl)<|xW (fun _ a=>h.at1.gr (a.bl q)) ?_;refine xu rfl rfl (fun _=>Yd rfl) ?_;refine xF ⟨_,_,rfl⟩ ?_;refine xW (fun _ a=>((d.atN).nth (q:=4) rfl).gr (a.bl q)) ?_;refine xu rfl rfl (fun _=>Yd rfl) ?_;obtain ⟨bb,w,b⟩:=bZ b;refine xu rfl rfl (fun _=>X8 underlying25 sizeOf29 rfl rfl (Z0 w).1 (Z0 w).2.1 ((M.ks c).addr w)) ?_;obtain ⟨_,em,en⟩:=(M.ks c).atN w;obtain ⟨⟨_,_,rfl,_⟩,_⟩:=em;refine xW (fun _ a=>en.one.gr (a.bl q)) ?_;refine xu rfl rfl (fun _=>Q8 underlying29 rfl) ?_;refine xe rfl rfl ?_;intro z j;have a:=j.bl q;obtain ⟨w,b⟩:=Z4 b;refine Sc (col:=q) (w:=z) (r:=rQ) (n:=bb.length) (x0:=((false,([]:List Int)),([]:List Int))) 13 rfl underlying29 Tryz.t42 rfl rfl rfl rfl rfl rfl rfl w.1 w.2 (Zld (Zld (Zaa false) Z01) Z01) fun F _ v V Z=>Zl<|Xo v j V ?_;obtain ⟨_,q,b⟩:=bZ b;replace I:=(I.gr a).gr V;refine xu rfl rfl (fun _=>X8 underlying25 sizeOf29 rfl rfl (Z0 q).1 (Z0 q).2.1 (I.addr q)) ?_;refine xe rfl rfl ?_;intro _ j;replace k:=(k.gr a).gr V;replace l:=(l.gr a).gr V;replace m:=(m.gr a).gr V;replace n:=(n.gr a).gr V;replace h:=(h.gr a).gr V;replace d:=(d.gr a).gr V;replace f:=(f.gr a).gr V;replace g:=(g.gr a).gr V;replace c:=(c.grow a).grow V;have a:=j.bl v;obtain ⟨G,x,b⟩:=bZ b;have x:G=y.set (aA b5) (aD bb.length (((false,([]:List Int)),([]:List Int)):R1)):=(Option.some.inj x).symm;replace I:=I.gr a;refine Zsy (x1:=aD bb.length (((false,([]:List Int)),([]:List Int)):R1)) (v:=(.slice F ((aD bb.length (((false,([]:List Int)),([]:List Int)):R1)).length) bb.length)) I q rfl sizeOf29 (Z.gr a).has rfl rfl (by decide) ?_;intro W z q F;rw [← x] at F;replace h:=(h.gr a).kpp q;replace h:Zd 25 12 z W Q #[.slice b3 G.length b4]:=by rw [← (show y.length=G.length by rw [x,nS])];exact h
   refine Zl<|xk z<|Y4 ?_;replace k:=(k.gr a).kpp q;replace l:=(l.gr a).kpp q;replace m:=(m.gr a).kpp q;replace n:=(n.gr a).kpp q;replace d:=(d.gr a).kpp q;replace f:=(f.gr a).kpp q;replace g:=(g.gr a).kpp q;replace c:=(c.grow a).kpp q;intro _ a;replace a:=a.bl z;refine go ?_;replace k:=k.gr a;replace l:=l.gr a;replace m:=m.gr a;replace n:=n.gr a;replace h:=h.gr a;replace d:=d.gr a;replace f:=f.gr a;replace g:=g.gr a;replace c:=c.grow a;exact ⟨X,by omega,rfl,⟨_,_,_,_,_,_,rfl,b,c,F.gr a,h,d,f,k,l,m,n,g,rfl⟩⟩
  refine Zt [10,2,4,63,64,9,1000000] (fun du d1 X=>∃ U bc bd H be bf,du=bf.length∧bl.drop be=bf∧Zcr N i T bf H=some r∧St o (Zh col) U X∧Zb (Za.row 42 rQ) 29 11 U X bc bd H∧Zd 25 12 U X Q #[.slice bc H.length bd]∧Zd 27 1 U X bt (Rq i a3 ay a4 az a5 a0 a6 a2)∧Zd 27 2 U X ci #[.string (⟨#[]⟩),.slice none (([]:List ByteArray).length) 0,.slice none (([]:List R3).length) 0,.slice none (([]:List R2).length) 0,(.slice none (([]:List R4).length) 0)]∧Zb Za.str 9 6 U X bu bv T.2.1∧Zb (Za.row 9 Za.str) 22 7 U X bw bx T.2.2.1∧Zb (Za.row 3 rI) 36 8 U X bz b0 T.2.2.2.1∧Zb (Za.row 42 (rO 45)) 29 9 U X b1 b2 T.2.2.2.2∧Zd 27 10 U X ao (Rq T bu bv bw bx bz b0 b1 b2)∧[65].map d1=[.int .i64 be]) bl.length ⟨_,_,_,_,0,_,rfl,rfl,b,c,I,h,d,f,k,l,m,n,g,rfl⟩ ?_;clear b;intro du d1 X hI;obtain ⟨U,bc,bd,H,be,bf,hn,hl,b,c,s,h,d,f,k,l,m,n,g,hs⟩:=hI;subst hn;refine .lL [65] hs ?_
  cases bf with
  | nil=>
   have hk:¬ ((be:Int)<(bl.length:Int)):=by have:=aJ.1 hl;omega
   have P:=decide_eq_false hk;rw [Zcr.eq_1] at b;refine go ?_;refine Ym (congrArg Value.bool P)<|go ?_;refine Z9 d ?_;refine go ?_;replace s:=(s).toSlF (Zg.row (Zg.pair (Zg.pair Zg.bool Zg.slice) Zg.slice));replace k:=k.froz 11;replace l:=l.froz 11;replace m:=m.froz 11;replace n:=n.froz 11;replace h:=h.froz 11;replace d:=d.froz 11;replace f:=f.froz 11;replace g:=g.froz 11;replace c:=c.froz 11 (by decide) (by decide);refine Zt [10,2,4,83,9,1000000] (fun du d1 S=>∃ E O bg bh bi ar bj bk au bm bn av J K d8 aw,aw=du∧Zgs N i H aw O bg ar au av d8=some r∧St o (Zh col) E S∧Sl (Za.slice rQ) E S bc bd H∧Zd 25 12 E S Q #[.slice bc H.length bd]∧Zd 27 1 E S bt (Rq i a3 ay a4 az a5 a0 a6 a2)∧Zd 27 2 E S ci #[.string (⟨#[]⟩),.slice none (([]:List ByteArray).length) 0,.slice none (([]:List R3).length) 0,.slice none (([]:List R2).length) 0,(.slice none (([]:List R4).length) 0)]∧Zb Za.str 9 6 E S bh bi ar∧Zb (Za.row 9 Za.str) 22 7 E S bj bk au∧Zb (Za.row 3 rI) 36 8 E S bm bn av∧Zb (Za.row 42 (rO 45)) 29 9 E S J K d8∧Zd 27 10 E S ao #[.string bg,.slice bh ar.length bi,.slice bj au.length bk,.slice bm av.length bn,.slice J d8.length K]∧[84].map d1=[.int .i64 O]) N ⟨_,0,_,_,_,_,_,_,_,_,_,_,_,_,_,_,rfl,b,c,s,h,d,f,k,l,m,n,g,rfl⟩ ?_;clear b;intro du d1 S hI;obtain ⟨E,O,bg,bh,bi,ar,bj,bk,au,bm,bn,av,J,K,d8,aw,hn,b,c,s,h,d,f,ex,fj,fk,bo,g,hs⟩:=hI;subst hn;refine .lL [84] hs ?_
   cases aw with
   | zero=>rw [Zgs.eq_1] at b;cases b
   | succ aw=>
    rw [Zgs.eq_2] at b;refine go ?_;refine Zm b (fun t b=>go ?_) fun t b=>go ?_
    ·refine Y8 (col:=E) [(0,1),(1,0),(2,1),(3,1),(4,0),(5,0),(6,1),(7,1),(8,0),(9,1),(10,0),(11,1),(12,1),(13,0),(14,1),(15,2)] (by kernel_rfl) (by kernel_rfl)<|xF ⟨_,_,rfl⟩ ?_;refine xW (fun _ a=>((g.atN).nth (q:=4) rfl).gr (a.bl E)) ?_;refine xu rfl rfl (fun _=>Yd rfl) ?_;obtain ⟨cu,E,b⟩:=bZ b;refine xu rfl rfl (fun _=>X8 underlying25 sizeOf29 rfl rfl (Z0 E).1 (Z0 E).2.1 (bo.addr E)) ?_;obtain ⟨_,B,fl,A,er⟩:=bo.open_ 14 (by decide) E;obtain ⟨cb,cc,rfl,cv⟩:=er.row;replace A:X4 (Za.row 42 (rO 45)) 29 9 B S J K d8 (aA O) [.slice cb cu.length cc]:=A;refine xW (fun _ a=>A.atN.one.gr (a.bl B)) ?_;replace h:=h.kpp fl;refine xW (fun _ a=>h.at1.gr (a.bl B)) ?_;refine xu rfl rfl (fun _=>Yd rfl) ?_;obtain ⟨_,t,b⟩:=bZ b;replace s:=s.kpp fl;refine xu rfl rfl (fun _=>X8 underlying25 sizeOf29 rfl rfl (Z0 t).1 (Z0 t).2.1 (s.addr t)) ?_;obtain ⟨_,es,et⟩:=s.atN t;obtain ⟨⟨_,_,rfl,cw⟩,_⟩:=es;refine xW (fun _ a=>et.one.gr (a.bl B)) ?_;refine xF ⟨_,_,rfl⟩ ?_;replace d:=d.kpp fl;refine xW (fun _ a=>((d.atN).nth (q:=2) rfl).gr (a.bl B)) ?_;refine xu rfl rfl (fun _=>Yd rfl) ?_;obtain ⟨_,H,b⟩:=bZ b;replace c:=c.kpp fl;refine xu rfl rfl (fun _=>X8 underlying23 sizeOf22 rfl rfl (Z0 H).1 (Z0 H).2.1 ((L.ks c).addr H)) ?_;obtain ⟨_,eu,ew⟩:=(L.ks c).atN H;obtain ⟨⟨_,_,rfl,_⟩,_⟩:=eu;refine xW (fun _ a=>ew.one.gr (a.bl B)) ?_;refine xu rfl rfl (fun _=>Q8 underlying22 rfl) ?_;refine xe rfl rfl ?_;intro _ j;have a:=j.bl B;obtain ⟨Z,j,b⟩:=bZ b;refine Zi (Z5i 14 j rfl (cv.gr a) (cw.gr a)) fun _ I ⟨o,p,j,H,t⟩=>⟨_,p,?_⟩;refine .ld (d:=91) (v:=(.slice cb Z.length cc)) (congrArg (fun du=>Value.slice cb du cc) (show cu.length=Z.length from t.symm)) ?_;replace g:=((g.kpp fl).gr a).kpp j;replace g:Zd 27 10 o I ao #[.string bg,.slice bh ar.length bi,.slice bj au.length bk,.slice bm av.length bn,.slice J d8.length K]:=by rw [];exact g
     replace A:=(A.gr a).kpp j;replace A:X4 (Za.row 42 (rO 45)) 29 9 o I J K d8 (aA O) [.slice cb Z.length cc]:=by rw [← (show cu.length=Z.length from t.symm)];exact A
     refine Zl<|xk o ?_;have S:=A.close H.has (by decide) (by decide);replace s:=(s.gr a).kpp j;replace s:=s.recol 14 9;replace ex:=((ex.kpp fl).gr a).kpp j;replace ex:=ex.recol 14 9;replace fj:=((fj.kpp fl).gr a).kpp j;replace fj:=fj.recol 14 9;replace fk:=((fk.kpp fl).gr a).kpp j;replace fk:=fk.recol 14 9;replace h:=(h.gr a).kpp j;replace h:=h.recol 14 9;replace d:=(d.gr a).kpp j;replace d:=d.recol 14 9;replace f:=((f.kpp fl).gr a).kpp j;replace f:=f.recol 14 9;replace g:=g.recol 14 9;replace c:=(c.grow a).kpp j;replace c:=c.recol 14 9 (by decide) (by decide);replace g:Zd 27 10 (Xv 14 9 o) I ao #[.string bg,.slice bh ar.length bi,.slice bj au.length bk,.slice bm av.length bn,.slice J ((d8.set (aA O) Z).length) K]:=by rw [← (show d8.length=(d8.set (aA O) Z).length by simp only [nS])];exact g
     refine Y4 ?_;intro _ a;replace a:=a.bl (Xv 14 9 o);refine go ?_;replace s:=s.gr a;replace ex:=ex.gr a;replace fj:=fj.gr a;replace fk:=fk.gr a;replace h:=h.gr a;replace d:=d.gr a;replace f:=f.gr a;replace g:=g.gr a;replace c:=c.grow a;exact ⟨aw,by omega,rfl,⟨_,_,_,_,_,_,_,_,_,_,_,_,_,_,_,_,rfl,b,c,s,h,d,f,ex,fj,fk,S.gr a,g,rfl⟩⟩
    refine lV _ (Z5 isAgg27 sizeOf27 g)<|Z6 f ?_;intro _ bq e0 e1;refine go ?_;cases b;replace c:=c.kp bq e0;exact ⟨rfl,_,Vm e1.atN,_,_,_,_,_,_,_,_,_,rfl,c.fin (cm [(6,c1),(7,c2),(8,c3),(9,c4)]),c.fo (ex.kp bq),c.fo (fj.kp bq),c.fo (fk.kp bq),c.fo (bo.kp bq)⟩
  | cons cf e2=>
   obtain ⟨A,e3,e4⟩:=Yt hl;have hk:(be:Int)<(bl.length:Int):=by omega
   have P:=decide_eq_true hk;rw [Zcr.eq_2] at b;refine go ?_;refine Yn (congrArg Value.bool P)<|go ?_;refine lI A ((R.ks c).addr A) ?_;obtain ⟨_,e5,e6⟩:=(R.ks c).atN A;obtain ⟨⟨di,dj,rfl,cg⟩,_⟩:=e5;refine lW e6.one<|go ?_;refine lV _ (Z5 isAgg27 sizeOf27 d)<|Y3 rfl<|U6 (col:=U) (r:=rP) (xs:=[cf]) [.slice di cf.length dj] 15 (W5.ofF (Rows.consF (r:=rP) (x:=cf) (cs:=[.slice di cf.length dj]) (Znt cg) Rows.nil0)) ?_;intro _ E a Y o;obtain ⟨y,U,b⟩:=bZ b;replace c:=c.grow Y;refine Zi (Zu9 16 17 U ((dk.ks c).froz 15) ((L.ks c).froz 15) ((ds.ks c).froz 15) ((M.ks c).froz 15) (o.toSlF Zg.slice)) fun _ _ ⟨A,O,P,S,T,p,u,J,K⟩=>⟨_,p,?_⟩;replace J:=J.thaw (Z1 .u32) u ((Fz.refl (col:=a)).froz 15);replace K:=K.thaw (Z1 .u32) u ((Fz.refl (col:=a)).froz 15);replace u:=u.thawR (col:=a);generalize Xa E.heap.size a A=p at *;refine lM (.tuple #[(.agg #[.bool y.1.1.1,.slice O y.1.1.2.length P,.slice S y.1.2.length T]),.int .i64 y.2])<|lV (.agg #[.bool y.1.1.1,.slice O y.1.1.2.length P,.slice S y.1.2.length T]) (Xt rfl rfl)<|lV (.int .i64 y.2) (Xt rfl rfl)<|Xr (col:=p) #[.bool false,(nI),(nI)] 18 zeroValue42 ?_;intro a _ _ D p;refine Z6 p fun _ C y I=>go ?_;replace d:=(((d.gr Y).gr u).gr D).kp C;refine lV _ (Z5 isAgg27 sizeOf27 d)<|Y3 rfl<|lV (.func (.func 67) #[] #[.pointer (some ⟨bt,0,none⟩),.pointer (some ⟨ao,0,none⟩),.pointer (some ⟨a,0,none⟩),.pointer (some ⟨Q,0,none⟩)]) (Xaw rfl rfl rfl rfl) ?_;obtain ⟨_,Q,b⟩:=bZ b;replace k:=(((k.gr Y).gr u).gr D).kp C;replace l:=(((l.gr Y).gr u).gr D).kp C;replace m:=(((m.gr Y).gr u).gr D).kp C;replace n:=(((n.gr Y).gr u).gr D).kp C;replace g:=(((g.gr Y).gr u).gr D).kp C
   replace c:=((c.grow u).grow D).kp C y;refine Zi (Z5g 1 10 6 7 8 9 18 16 17 12 11 Q rfl ⟨by decide,rfl⟩ ⟨by decide,rfl⟩ ⟨by decide,rfl⟩ ⟨by decide,rfl⟩ ⟨by decide,rfl⟩ ⟨by decide,rfl⟩ ⟨by decide,rfl⟩ ⟨by decide,rfl⟩ ⟨by decide,rfl⟩ (dk.ks c) (L.ks c) (ds.ks c) (M.ks c) ((((cg.gr Y).gr u).gr D).kp C) (dk.ks c) (L.ks c) (ds.ks c) (M.ks c) d k l m n g ((J.gr D).kp C) ((K.gr D).kp C) I ((((s.gr Y).gr u).gr D).kp C) ((((h.gr Y).gr u).gr D).kp C)) ?_;rintro _ gk ⟨gl,gm,gp,rfl,ae,fh,fi⟩;refine ⟨_,rfl,go ?_⟩;replace c:=c.kpp ae;exact ⟨e2.length,by simp,rfl,⟨_,_,_,_,_,_,rfl,e3,b,c,fh,fi,d.kpp ae,((((f.gr Y).gr u).gr D).kp C).kpp ae,k.kpp ae,l.kpp ae,m.kpp ae,n.kpp ae,g.kpp ae,(Yz (congrArg (Value.int .i64) (Yv (aI e4 (R.ks c).1.1))) rfl)⟩⟩
/-! the places of B assignment -/
section
variable {N:Nat} {n:Zq} (hf:X2 N n) {x:List Int} (hw:Yk n x)
include hf hw
theorem Zzv {v:Nat} (hv:v<n.2.1.length) {out:List Int} (ho:out.length≤1024) (kk:Int→List Int→Option R2):∀ (ps:List Int) (r k:Nat),(∀ q ∈ ps,0≤q∧q<(n.2.1.length:Int))→r<k→k≤65536→Yu n.2.2.1 ps k≤65536→T3 n x ps r=Wr n x v→
  Zep n x (v:Int) out kk ps (r:Int)=kk ((v+1:Nat):Int) (out++[((X3 n v x:Nat):Int)])
 | [],r,k,_,_,_,_,e=>by
  rw [T3] at e
  subst e
  have B:=hf.le
  have c:=hf.row hw hv
  have b:=hf.rows hv
  have C:=hw.ok v (by rw [hw.len];exact hv)
  have d:i64.wrap ((Wr n x v:Int) * ((n.2.2.1.getD v []).length:Int))=((Wr n x v * cnt n v:Nat):Int):=by
   rw [show ((n.2.2.1.getD v []).length:Int)=((cnt n v:Nat):Int) from rfl,← bN]
   exact Zv (by omega)
  have f:i64.wrap (((Wr n x v * cnt n v:Nat):Int)+x.getD v 0)=((X3 n v x:Nat):Int):=by
   rw [X3,dS,show (((x.getD v 0).toNat:Nat):Int)=x.getD v 0 by omega]
   exact Zv (by omega)
  rw [Zep.eq_1,Yo [] (by rw [hf.ev.v];exact hv),oB,Yo 0 (by rw [hw.len];exact hv),oB,d,f,Z7 (by simp only [aK,maxLen];omega),wS (by omega)]
 | p :: ps,r,k,a,g,i,m,e=>by
  obtain ⟨o,s,t⟩:=Zq2 hf.ev hw a g i m
  rw [T3] at e
  have E:=a p aO
  have F:=hw.ok p.toNat (by rw [hw.len];omega)
  have H:r * cnt n p.toNat≤k * cnt n p.toNat:=bD _ (by omega)
  have q1:Zk n.2.2.1 p=some (n.2.2.1.getD p.toNat []):=by
   have:=Yo (l:=n.2.2.1) [] (j:=p.toNat) (by rw [hf.ev.v];omega)
   rwa [show ((p.toNat:Nat):Int)=p by omega] at this
  have u:Zk x p=some (x.getD p.toNat 0):=by
   have:=Yo (l:=x) 0 (j:=p.toNat) (by rw [hw.len];omega)
   rwa [show ((p.toNat:Nat):Int)=p by omega] at this
  have w:i64.wrap ((r:Int) * ((n.2.2.1.getD p.toNat []).length:Int))=((r * cnt n p.toNat:Nat):Int):=by
   rw [show ((n.2.2.1.getD p.toNat []).length:Int)=((cnt n p.toNat:Nat):Int) from rfl,← bN]
   exact Zv (by omega)
  have y:i64.wrap (((r * cnt n p.toNat:Nat):Int)+x.getD p.toNat 0)=((r * cnt n p.toNat+(x.getD p.toNat 0).toNat:Nat):Int):=by
   rw [dS,show (((x.getD p.toNat 0).toNat:Nat):Int)=x.getD p.toNat 0 by omega]
   exact Zv (by omega)
  rw [Zep.eq_2,q1,oB,u,oB,w,y]
  exact Zzv hv ho kk ps _ _ (fun q A=>a q (aN _ A)) o s t e
def Vq (n:Zq) (x:List Int) (m:Nat):List Int:=(List.range m).map fun v=>((X3 n v x:Nat):Int)
theorem Xai (hN:2000000<N):Zl8 N n x=some (Vq n x n.2.1.length):=by
 have k:=hf.le
 have c:∀ (m v f:Nat),v+m=n.2.1.length→m<f→Zbv N n x f (v:Int) (Vq n x v)=some (Vq n x n.2.1.length):=by
  intro m
  induction m with
  | zero=>
   intro v f d b
   obtain ⟨g,rfl⟩:∃ g,f=g+1:=⟨f - 1,by omega⟩
   rw [Zbv.eq_2,if_neg (dF (by omega)),show v=n.2.1.length by omega]
  | succ m i=>
   intro v f d b
   obtain ⟨g,rfl⟩:∃ g,f=g+1:=⟨f - 1,by omega⟩
   have a:v<n.2.1.length:=by omega
   have j:=Zzv hf hw a (out:=Vq n x v) (by rw [Vq,aH,dR];omega) (Zbv N n x g) (n.2.2.2.1.getD v []) 0 1 (hf.pars a) (by omega) (by omega) (hf.rows a).2.2 rfl
   rw [Zbv.eq_2,if_pos (dT (by omega)),Yo [] (by rw [hf.ev.p];exact a),oB]
   refine j.trans ?_
   have e:Vq n x v++[((X3 n v x:Nat):Int)]=Vq n x (v+1):=by rw [Vq,Vq,List.range_succ,dI,eO]
   rw [e]
   exact i (v+1) g (by omega) (by omega)
 exact c n.2.1.length 0 N (by omega) (by omega)
end
structure Vg (n:Zq) (D G:Nat) (L:List R7) (E:List (List QV)):Prop where
 len:E.length=n.2.1.length
 sz:∀ v,v<n.2.1.length→(E.getD v []).length=(n.2.2.2.2.getD v []).length
 val:∀ v,v<n.2.1.length→∀ i,i<(n.2.2.2.2.getD v []).length→Zr ((E.getD v []).getD i ((false,[]),[]))=((Wj n v L).getD i 0:Rat) / (D:Rat)
 rv:∀ v,v<n.2.1.length→∀ y ∈ E.getD v [],RV G y
def Yp:List R7→Nat
 | []=>0
 | p :: l=>p.1+Yp l
theorem Zij:∀ a b:List R7,Yp (a++b)=Yp a+Yp b
 | [],b=>by rw [bF,Yp,cC]
 | p :: a,b=>by rw [cK,Yp,Yp,Zij a b,dZ]
theorem Zxe (n:Zq) (v:Nat):∀ (L:List R7) (c:List Int) (b:Nat),(∀ x ∈ c,x≤(b:Int))→∀ x ∈ L.foldl (V7 n v) c,x≤((b+Yp L:Nat):Int)
 | [],c,b,h=>by rw [Yp,bR];exact h
 | p :: L,c,b,h=>by
  rw [eP,Yp,← dZ]
  refine Zxe n v L _ _ fun x d=>?_
  rw [V7] at d
  rcases eK d with e | rfl
  ·have:=h x e;omega
  ·have:c.getD (X3 n v p.2) 0≤(b:Int):=by
    rcases bU (X3 n v p.2) c.length with a | a
    ·rw [Xl a];exact h _ (aB a)
    ·rw [aE,cG a];exact Int.natCast_nonneg b
   omega
theorem Z7i (n:Zq) (v:Nat) (L:List R7):∀ x ∈ Wj n v L,x≤((Yp L:Nat):Int):=by
 have:=Zxe n v L (aD (n.2.2.2.2.getD v []).length 0) 0 fun x a=>by rw [cR a];decide
 rw [cC] at this
 exact this
section
variable {N:Nat} {n:Zq} (hf:X2 N n) {D G:Nat} (hD:D≠0)
include hf hD
theorem Vg.put {L:List R7} {E E':List (List QV)} (h:Vg n D G L E) {p:Nat×List Int} (hw:Yk n p.2) {q:Rat} (hq:q=(p.1:Rat) / (D:Rat)) (hG1:(Zf (Yp L+p.1)).length≤G) (hG2:(Zf D).length≤G)
  (hl:E'.length=n.2.1.length) (hE:∀ v,v<n.2.1.length→E'.getD v []=(E.getD v []).set (X3 n v p.2) (Zn (Zr ((E.getD v []).getD (X3 n v p.2) ((false,[]),[]))+q))):Vg n D G (L++[p]) E':=by
 have d:∀ v,v<n.2.1.length→Zr ((E.getD v []).getD (X3 n v p.2) ((false,[]),[]))+q=(((Wj n v L).getD (X3 n v p.2) 0+(p.1:Int):Int):Rat) / (D:Rat):=fun v a=>by
  rw [h.val v a _ (Zia hf a hw),hq,Rat.intCast_add,bQ,bQ,bQ,jE];rfl
 refine ⟨hl,fun v a=>?_,fun v a i k=>?_,fun v a y f=>?_⟩
 ·rw [hE v a,nS];exact h.sz v a
 ·have g:=Zia hf a hw
  have b:X3 n v p.2<(Wj n v L).length:=by rw [Zow];exact g
  have j:X3 n v p.2<(E.getD v []).length:=by rw [h.sz v a];exact g
  rw [hE v a,Z7h,V7,Wc _ _ _ _ _ j,Wc _ _ _ _ _ b]
  by_cases e:i=X3 n v p.2
  ·rw [if_pos e,if_pos e,Y5,d v a]
  ·rw [if_neg e,if_neg e];exact h.val v a i k
 ·rw [hE v a] at f
  rcases eK f with l | rfl
  ·exact h.rv v a y l
  ·have b:X3 n v p.2<(Wj n v L).length:=by rw [Zow];exact Zia hf a hw
   have r:=Zlv n v L _ (aB b)
   have m:=Z7i n v L _ (aB b)
   rw [d v a]
   refine W7 ?_
   rw [Xl b]
   obtain ⟨c,o⟩:∃ c:Nat,(Wj n v L)[X3 n v p.2]=(c:Int):=⟨((Wj n v L)[X3 n v p.2]).toNat,by omega⟩
   rw [o] at m ⊢
   have e:(((c:Int)+(p.1:Int):Int):Rat) / (D:Rat)=mkRat ((c+p.1:Nat):Int) D:=by rw [cM,dS]
   rw [e]
   have s:=Y7 (show c+p.1≤Yp L+p.1 by omega)
   exact Zfs (by rw [eH];omega) hG2 (aT (U8 hD) hG2)
omit hD in
theorem Z2f {x:List Int} (hw:Yk n x) {q:Rat} {V0:List (List QV)} (hr:Z3 N (4 * G+20)) (hqG:qs q≤G) (e45:Int):∀ (m k:Nat) (V:List (List QV)),k+m=n.2.1.length→V.length=n.2.1.length→(∀ v,v<n.2.1.length→(V.getD v []).length=(n.2.2.2.2.getD v []).length)→(∀ v,k≤v→v<n.2.1.length→∀ y ∈ V.getD v [],RV G y)→
  ∃ V',Zcq N (Zn q,e45) ((Vq n x n.2.1.length).drop k) k V=some V'∧V'.length=n.2.1.length∧(∀ j,j<k→V'.getD j []=V.getD j [])∧∀ j,k≤j→j<n.2.1.length→V'.getD j []=(V.getD j []).set (X3 n j x) (Zn (Zr ((V.getD j []).getD (X3 n j x) ((false,[]),[]))+q))
 | 0,k,V,s,c,_,_=>by
  rw [dB (by rw [Vq,aH,dR];omega),Zcq.eq_1]
  exact ⟨V,rfl,c,fun _ _=>rfl,fun j t g=>by omega⟩
 | m+1,k,V,s,c,d,i=>by
  have l:k<(Vq n x n.2.1.length).length:=by rw [Vq,aH,dR];omega
  have a:k<V.length:=by omega
  have e:(Vq n x n.2.1.length)[k]=((X3 n k x:Nat):Int):=by simp only [Vq,cA,gS]
  have f:X3 n k x<(V.getD k []).length:=by rw [d k (by omega)];exact Zia hf (by omega) hw
  have b:=i k (aX _) (by omega) _ (aB f)
  have u:Qo N (((V.getD k [])[X3 n k x].1.1,(V.getD k [])[X3 n k x].1.2),(V.getD k [])[X3 n k x].2) (((Zn q).1.1,(Zn q).1.2),(Zn q).2)=some (Zn (Zr (V.getD k [])[X3 n k x]+q)):=by
   have:=Zlx (N:=N) b (W7 hqG) (hr.mono (by omega))
   rwa [Y5] at this
  obtain ⟨V',w,A,o,B⟩:=Z2f hw (V0:=V0) hr hqG e45 m (k+1) (V.set k ((V.getD k []).set (X3 n k x) (Zn (Zr (V.getD k [])[X3 n k x]+q)))) (by omega) (by rw [nS];exact c) (fun v p=>by
    rw [Wc V [] k v _ a]
    split
    ·rename_i h;subst h;rw [nS];exact d v p
    ·exact d v p) (fun v C r y b=>by
    rw [Wc V [] k v _ a,if_neg (by omega)] at b
    exact i v (by omega) r y b)
  refine ⟨V',?_,A,fun j E=>?_,fun j t g=>?_⟩
  ·rw [aF l,Zcq.eq_2,e,Yo [] a,oB,Zs f,oB,u,oB,oB,aC,aC]
   exact w
  ·rw [o j (by omega),Wc V [] k j _ a,if_neg (by omega)]
  ·by_cases e2:j=k
   ·subst e2
    rw [o j (by omega),Wc V [] j j _ a,if_pos rfl,Xl f]
   ·rw [B j (by omega) g,Wc V [] k j _ a,if_neg e2]
omit hD in
theorem Z2e {x:List Int} (hw:Yk n x) {B:Nat→Nat} (hB:Zad n B) {Q:Nat} (hr:Z3 N (4 * Q+20)) (p:QV) (E:List (List QV)):∀ (m k:Nat) (q:Rat),k+m=n.2.1.length→qs q+Vn B m k≤Q→
  Zel N (Wk n) p E (Vq n x n.2.1.length) ((Vq n x n.2.1.length).drop k) k (Zn q).1.1 (Zn q).1.2 (Zn q).2=(Zcn N (Zn (q * Xp n x m k)) ((p.1.1,p.1.2),p.2)).bind fun r=>Zcq N r (Vq n x n.2.1.length) 0 E
 | 0,k,q,f,_=>by
  rw [dB (by rw [Vq,aH,dR];omega),Zel.eq_1,Xp,dL]
 | m+1,k,q,f,g=>by
  rw [Vn] at g
  have a:k<n.2.1.length:=by omega
  have b:k<(Vq n x n.2.1.length).length:=by rw [Vq,aH,dR];omega
  have e:(Vq n x n.2.1.length)[k]=((X3 n k x:Nat):Int):=by simp only [Vq,cA,gS]
  have c:=Zia hf a hw
  have i:(x.getD k 0).toNat<cnt n k:=by
   have:=hw.ok k (by rw [hw.len];exact a)
   omega
  have d:ent n x k=Zr ((n.2.2.2.2.getD k []).getD (X3 n k x) ((false,[]),[])):=Z09 (n:=n) (T:=n.2.2.2.2) i
  rw [Xl c] at d
  have j:Yy (n.2.2.2.2.getD k [])[X3 n k x]=Zn (ent n x k):=by rw [Yy,d]
  have l:=Zwy hf hB hw a
  have w:=Znp q (ent n x k)
  have o:Zbr N (((Zn q).1.1,(Zn q).1.2),(Zn q).2) (((Zn (ent n x k)).1.1,(Zn (ent n x k)).1.2),(Zn (ent n x k)).2)=some (Zn (q * ent n x k)):=by
   have:=Zso (N:=N) (Zle q) (W7 l) (hr.mono (by omega))
   rwa [Y5,Y5] at this
  have s:=Z2e hw hB hr p E m (k+1) (q * ent n x k) (by omega) (by omega)
  have u:Zk (Wk n).2.2.2.2 (k:Int)=some ((n.2.2.2.2.getD k []).map Yy):=by
   rw [Yo [] (by show k<(n.2.2.2.2.map (List.map Yy)).length;rw [aH,hf.ev.t];exact a)]
   exact congrArg some (Z7o n.2.2.2.2 k)
  have v:Zk ((n.2.2.2.2.getD k []).map Yy) ((X3 n k x:Nat):Int)=some (Zn (ent n x k)):=by
   rw [Zs (by rw [aH];exact c),cA,j]
  rw [aF b,Zel.eq_2,e,u,oB,v,oB,o,oB,Xp,← bP]
  exact s
theorem Xb8 {L:List R7} {E:List (List QV)} (h:Vg n D G L E) {x:List Int} (hw:Yk n x) {p:Rat} {a Q P:Nat} (hr:Z3 N (4 * (G+Q+P)+60)) (hN:2000000<N) {B:Nat→Nat} (hB:Zad n B) (hQ:Vn B n.2.1.length 0+1≤Q) (hp0:p≠0) (hpP:qs p≤P)
  (ha:Xp n x n.2.1.length 0 / p=(a:Rat) / (D:Rat)) (hqG:qs (Xp n x n.2.1.length 0 / p)≤G) (hG1:(Zf (Yp L+a)).length≤G) (hG2:(Zf D).length≤G):
  ∃ E',Zjg N x n (Wk n) (Zn p) E=some E'∧Vg n D G (L++[(a,x)]) E':=by
 have g:Zl8 N (n.1,n.2.1,n.2.2.1,n.2.2.2.1,n.2.2.2.2) x=some (Vq n x n.2.1.length):=Xai hf hw hN
 have i:Zma N 1=some (Zn 1):=by
  have:=Zsp (N:=N) (a:=1) (b:=1) (by omega) (by omega) (hr.mono (by omega))
  rw [if_neg (by decide)] at this
  have e:(((1:Int):Rat) / ((1:Int):Rat))=1:=div_one _
  rw [Zma,this,oB,e]
 have d:=Z2e hf hw hB (Q:=Q) (hr.mono (by omega)) (Zn p) E n.2.1.length 0 1 (by omega) (by rw [Zft];omega)
 rw [aM,gN] at d
 have qP:qs (Xp n x n.2.1.length 0)≤Q:=by
  have:=Ztf hf hB hw n.2.1.length 0 1 (by omega)
  rw [Zqi,gN,Zft] at this
  omega
 have j:Zcn N (Zn (Xp n x n.2.1.length 0)) (((Zn p).1.1,(Zn p).1.2),(Zn p).2)=some (Zn (Xp n x n.2.1.length 0 / p),0):=by
  have:=Zw2 (N:=N) (W7 qP) (W7 hpP) (hr.mono (by omega))
  rwa [Y5,Y5,if_neg hp0] at this
 obtain ⟨k,f,l,_,m⟩:=Z2f hf hw (V0:=E) (G:=G) (hr.mono (by omega)) hqG 0 n.2.1.length 0 E (by omega) h.len h.sz (fun v _ c=>h.rv v c)
 rw [aM] at f
 refine ⟨k,?_,h.put hf hD hw (p:=(a,x)) ha hG1 hG2 l fun v c=>m v (aQ _) c⟩
 rw [Zjg,g,oB,i,oB]
 refine d.trans ?_
 rw [j,oB]
 exact f
end
/-! all assignments of what is not known,in the order of their digits -/
def Ws:List Int→List Nat→List Int→List Int
 | w,[],_=>w
 | w,_ :: _,[]=>w
 | w,o :: os,d :: ds=>Ws (w.set o d) os ds
def Xw:List Int→Nat→List Nat
 | [],_=>[]
 | x :: l,k=>if x<0 then k :: Xw l (k+1) else Xw l (k+1)
theorem Znn:∀ (l:List Int) (k:Nat),∀ o ∈ Xw l k,k≤o∧o<k+l.length
 | [],k,o,h=>by rw [Xw] at h;cases h
 | x :: l,k,o,h=>by
  rw [Xw] at h
  rw [nC]
  split at h
  ·rcases bL.1 h with rfl | h
   ·omega
   ·have:=Znn l (k+1) o h;omega
  ·have:=Znn l (k+1) o h;omega
theorem Zta:∀ (l:List Int) (k:Nat),(Xw l k).length≤l.length
 | [],k=>by rw [Xw];exact aX _
 | x :: l,k=>by
  have:=Zta l (k+1)
  rw [Xw,nC]
  split
  ·rw [nC];omega
  ·omega
theorem Z2v:∀ (os:List Nat) (w ds:List Int) (i:Nat),i ∉ os→(Ws w os ds)[i]?=w[i]?
 | [],w,ds,i,_=>by rw [Ws]
 | _ :: _,w,[],i,_=>by rw [Ws]
 | o :: os,w,d :: ds,i,h=>by
  rw [bL,not_or] at h
  rw [Ws,Z2v os _ ds i h.2,eW (Ne.symm h.1)]
theorem Z2u:∀ (os:List Nat) (w ds:List Int),(Ws w os ds).length=w.length
 | [],w,ds=>by rw [Ws]
 | _ :: _,w,[]=>by rw [Ws]
 | o :: os,w,d :: ds=>by rw [Ws,Z2u os,nS]
theorem Z2t:∀ (os:List Nat) (V w ds:List Int),V.length=w.length→os.length=ds.length→(∀ i,i ∉ os→V[i]?=w[i]?)→Ws V os ds=Ws w os ds
 | [],V,w,[],b,_,h=>List.ext_getElem? fun i=>h i (by simp)
 | o :: os,V,w,d :: ds,b,c,h=>by
  rw [Ws,Ws]
  refine Z2t os _ _ ds (by rw [nS,nS,b]) (by simpa using c) fun i f=>?_
  by_cases e:i=o
  ·subst e
   rw [iS,iS]
   rcases bU i V.length with a | a
   ·rw [aL a,aL (by omega)];rfl
   ·rw [cG a,cG (by omega)]
  ·rw [eW (Ne.symm e),eW (Ne.symm e)]
   exact h i (by rw [bL,not_or];exact ⟨e,f⟩)
theorem Zxd {α β:Type} {f g:α→List β}:∀ {l:List α},(∀ x ∈ l,f x=g x)→l.flatMap f=l.flatMap g
 | [],_=>rfl
 | x :: l,h=>by rw [eG,eG,h x aO,Zxd fun y a=>h y (aN _ a)]
theorem Z0z {α:Type} (g:Nat→α) (P:Nat):∀ c j,(cE (j * P) (c * P)).map g=(cE j c).flatMap fun x=>(cE 0 P).map fun a=>g (x * P+a)
 | 0,j=>by rw [dP];rfl
 | c+1,j=>by
  have b:cE (j * P) ((c+1) * P)=cE (j * P) P++cE ((j+1) * P) (c * P):=by
   rw [bB c,aV,bB j,aV,fO (c * P) P,List.range'_append_1]
  have d:cE (j * P) P=(cE 0 P).map (j * P+·):=by rw [List.map_add_range',bR]
  rw [b,dI,Z0z g P c (j+1),eR,eG,d,gJ];rfl
theorem Ziu {n:Zq}:∀ (m k:Nat) (w:List Int),k+m=w.length→w.length=n.2.1.length→Xf n m k w=(cE 0 (Xi ((Xw (w.drop k) k).map (cnt n)))).map fun a=>Ws w (Xw (w.drop k) k) (Wa ((Xw (w.drop k) k).map (cnt n)) a)
 | 0,k,w,d,_=>by
  rw [dB (by omega),Xw,dD,Xi,Xf];rfl
 | m+1,k,w,d,c=>by
  have b:k<w.length:=by omega
  rw [aF b,Xw,Xf,Xl b]
  by_cases hc:0≤w[k]
  ·rw [if_pos hc,if_neg (by omega)]
   exact Ziu m (k+1) w (by omega) c
  ·rw [if_neg hc,if_pos (by omega),bJ,Xi]
   have R:=Z0z (fun a=>Ws w (k :: Xw (w.drop (k+1)) (k+1)) (Wa (cnt n k :: (Xw (w.drop (k+1)) (k+1)).map (cnt n)) a)) (Xi ((Xw (w.drop (k+1)) (k+1)).map (cnt n))) (cnt n k) 0
   rw [dP] at R
   rw [R]
   refine Zxd fun y o=>?_
   have e:(w.set k (y:Int)).drop (k+1)=w.drop (k+1):=List.drop_set_of_lt (by omega)
   rw [Ziu m (k+1) (w.set k (y:Int)) (by rw [nS];omega) (by rw [nS];exact c),e]
   refine fC fun a f=>?_
   have l:=gW.1 f
   have g:0<Xi ((Xw (w.drop (k+1)) (k+1)).map (cnt n)):=by omega
   have i:(y * Xi ((Xw (w.drop (k+1)) (k+1)).map (cnt n))+a) / Xi ((Xw (w.drop (k+1)) (k+1)).map (cnt n))=y:=by
    rw [bS,Nat.mul_add_div g,Nat.div_eq_of_lt (by omega),bR]
   have j:(y * Xi ((Xw (w.drop (k+1)) (k+1)).map (cnt n))+a) % Xi ((Xw (w.drop (k+1)) (k+1)).map (cnt n))=a:=by
    rw [bS,Nat.mul_add_mod,Nat.mod_eq_of_lt (by omega)]
   rw [Wa,Ws,i,j]
def Wx (n:Zq):List R2→Rat
 | []=>1
 | w :: r=>Zz n (Xf n n.2.1.length 0 w) * Wx n r
theorem Zsu {n:Zq} (he:Uo n) {w:List Int} (hw:PV n w):∀ (m k c:Nat),k+m=n.2.1.length→1≤c→c * Xh n w m k≤65536→Sz n (w.drop k) k (c:Int)=some ((c * Xh n w m k:Nat):Int)
 | 0,k,c,i,_,_=>by
  rw [dB (by rw [hw.len];omega),Sz.eq_1,Xh,fU]
 | m+1,k,c,i,f,a=>by
  have b:k<w.length:=by rw [hw.len];omega
  have j:=Zla he w m (k+1) (by omega)
  have g:=Zae he (v:=k) (by omega)
  have l:k<n.2.2.1.length:=by rw [he.v];omega
  rw [aF b,Sz.eq_2,← Xl (d:=0) b,Xh]
  rw [Xh] at a
  by_cases h:0≤w.getD k 0
  ·rw [if_pos h,aV] at a ⊢
   rw [if_neg (dF (by omega)),Zee]
   exact Zsu he hw m (k+1) c (by omega) f a
  ·rw [if_neg h,← Nat.mul_assoc] at a ⊢
   have o:c * cnt n k≤c * cnt n k * Xh n w m (k+1):=Nat.le_mul_of_pos_right _ j
   have e:i64.wrap ((c:Int) * ((n.2.2.1.getD k []).length:Int))=((c * cnt n k:Nat):Int):=by
    rw [show ((n.2.2.1.getD k []).length:Int)=((cnt n k:Nat):Int) from rfl,← bN]
    exact Zv (by omega)
   rw [if_pos (dT (by omega)),Yo [] l,oB,e,if_neg (by omega),Zee]
   exact Zsu he hw m (k+1) (c * cnt n k) (by omega) (gT f g) a
section
variable {N W:Nat} {n:Zq} (hf:X2 N n) (hN:2000000<N) {Q C S:Nat} (hC:Vx N n=some 0)
variable (hch:∀ w,Yk n w→Zan N n w=some (Zn (Ti n w n.2.1.length 0 1),0)) (hQ:∀ w,Yk n w→qs (Xp n w n.2.1.length 0)≤Q) (hC6:C≤65536) (hS:C * (Q+2048)≤S) (hr:Z3 N (26 * S+60))
include hf hN hC hch hQ hC6 hS hr
omit hC hC6 in
theorem Z8x {w:List Int} (hw:PV n w) (ho:Xh n w n.2.1.length 0≤C):Zl3 N n w 0=some (Zn (Zz n (Xf n n.2.1.length 0 w)),w)∧qs (Zz n (Xf n n.2.1.length 0 w))≤S:=by
 have d:=hf.le
 have c:Xh n w n.2.1.length 0 * (Q+2 * n.2.1.length)≤S:=aT (gX ho (by omega)) hS
 obtain ⟨a,b⟩:=Zxq hf hN hch hQ N n.2.1.length 0 w (by omega) (by omega) hw (fun i e=>by omega) (hr.mono (by omega))
 rw [Zch] at b
 exact ⟨by rw [Zl3];exact a,aT b c⟩
omit hC hC6 in
theorem Zxo:∀ (l:List R2) (q:Rat),(∀ w ∈ l,PV n w∧Xh n w n.2.1.length 0≤C)→qs q+l.length * S≤1+12 * S→Zgf N n l (Zn q).1.1 (Zn q).1.2 (Zn q).2=some (Zn (q * Wx n l),0)∧qs (q * Wx n l)≤qs q+l.length * S
 | [],q,_,_=>by
  rw [Wx,dL,nN,dP]
  exact ⟨rfl,aX _⟩
 | w :: l,q,a,d=>by
  rw [nC,bB,aV] at d
  obtain ⟨b,e⟩:=a w aO
  have p:w.length≤1024:=by rw [b.len];exact hf.le
  obtain ⟨f,g⟩:=Z8x hf hN hch hQ hS hr b e
  have r:=Znp q (Zz n (Xf n n.2.1.length 0 w))
  have i:Za5 w=some w:=Zou (by omega)
  have j:Zl3 N (n.1,n.2.1,n.2.2.1,n.2.2.2.1,n.2.2.2.2) w 0=_:=f
  have k:Zbr N (((Zn q).1.1,(Zn q).1.2),(Zn q).2) (((Zn (Zz n (Xf n n.2.1.length 0 w))).1.1,(Zn (Zz n (Xf n n.2.1.length 0 w))).1.2),(Zn (Zz n (Xf n n.2.1.length 0 w))).2)=some (Zn (q * Zz n (Xf n n.2.1.length 0 w))):=by
   have:=Zso (N:=N) (Zle q) (W7 g) (hr.mono (by omega))
   rwa [Y5,Y5] at this
  obtain ⟨c,m⟩:=Zxo l (q * Zz n (Xf n n.2.1.length 0 w)) (fun x o=>a x (aN _ o)) (by omega)
  rw [bP] at c m
  rw [Zgf.eq_2,i,oB,j,oB,k,oB,Wx,nC,bB,aV]
  exact ⟨c,by omega⟩
theorem Zst {r:List R2} (hw:Ul n r=true) (ho:∀ w ∈ r,Xh n w n.2.1.length 0≤C) (hl:r.length≤12):Zaj N n r=some (Zn (Wx n r),0)∧qs (Wx n r)≤1+12 * S:=by
 have d:=Zq3 hw
 have f:Vx N (n.1,n.2.1,n.2.2.1,n.2.2.2.1,n.2.2.2.2)=some 0:=hC
 have m:Zgg N (n.1,n.2.1,n.2.2.1,n.2.2.2.1,n.2.2.2.2) r=some 0:=by
  rw [Zgg,f,oB,if_neg (by decide)]
  have:=Zsj (n:=n) hf.ev.v r
  rw [if_pos hw] at this
  exact this
 have one:Zeh N 1 1=some (Zn 1,0):=by
  have:=Zsp (N:=N) (a:=1) (b:=1) (by omega) (by omega) (hr.mono (by omega))
  rw [if_neg (by decide)] at this
  have e:(((1:Int):Rat) / ((1:Int):Rat))=1:=div_one _
  rw [this,e]
 have t:r.length * S≤12 * S:=bD _ hl
 obtain ⟨g,i⟩:=Zxo hf hN hch hQ hS hr r 1 (fun w h=>⟨d w h,ho w h⟩) (by rw [Zft];omega)
 rw [gN] at g i
 rw [Zft] at i
 have o:∀ (l:List R2) (a:Bool) (b c:List Int),(∀ w ∈ l,PV n w∧Xh n w n.2.1.length 0≤C)→Zbn N n r l a b c=some (Zn (Wx n r),0):=fun l=>by
  induction l with
  | nil=>
   intro a b c _
   rw [Zbn.eq_1,one,oB]
   exact g
  | cons w l p=>
   intro a b c h
   obtain ⟨q,u⟩:=h w aO
   have j:=Zsu hf.ev q n.2.1.length 0 1 (by omega) (by omega) (by omega)
   rw [aM,aV] at j
   have k:Zjb (n.1,n.2.1,n.2.2.1,n.2.2.2.1,n.2.2.2.2) w=some ((Xh n w n.2.1.length 0:Nat):Int):=j
   rw [Zbn.eq_2,k,oB,if_neg (dF (by omega))]
   exact p a b c fun x s=>h x (aN _ s)
 refine ⟨?_,by omega⟩
 rw [Zaj,m,oB,if_neg (by decide)]
 exact o r _ _ _ fun w h=>⟨d w h,ho w h⟩
end
theorem Z4h (a:List Int→Nat) (g:List Int→Rat):∀ C:List R2,Yp (C.map fun x=>(a x,x))=Zlf (C.map fun x=>(a x,g x))
 | []=>rfl
 | x :: C=>by rw [bJ,Yp,bJ,Zlf,Z4h a g C]
theorem Zrq {n:Zq} {D:Nat} {C:List R2} (hp:0<Zz n C) (hI:∀ x ∈ C,∃ z:Nat,(D:Rat) * Xp n x n.2.1.length 0 / Zz n C=(z:Rat)):∀ x ∈ C,(aW D n (Zz n C) x:Rat) * Zz n C=(D:Rat) * Xp n x n.2.1.length 0:=fun x c=>by
 have a:Zz n C≠0:=fun e=>by rw [e] at hp;exact absurd hp cZ
 obtain ⟨z,b⟩:=hI x c
 have:aW D n (Zz n C) x=z:=by rw [aW,b];simp
 rw [this,← b,Zd4 a]
theorem Zuu {n:Zq} {D:Nat} {C:List R2} (hp:0<Zz n C) (hI:∀ x ∈ C,∃ z:Nat,(D:Rat) * Xp n x n.2.1.length 0 / Zz n C=(z:Rat)):Yp (Vo D n C)=D:=by
 have b:Zz n C≠0:=fun e=>by rw [e] at hp;exact absurd hp cZ
 have a:=Zwx (aW D n (Zz n C)) (fun x=>Xp n x n.2.1.length 0) (fun _=>0) C (Zrq hp hI)
 have d:Vv (C.map fun x=>Xp n x n.2.1.length 0)=Zz n C:=rfl
 rw [d] at a
 have c:=congrArg (· * (Zz n C)⁻¹) a
 simp only [bP,cW _ b,dL] at c
 rw [Vo,Z4h _ fun x=>(fun _=>(0:Rat)) x / Xp n x n.2.1.length 0]
 exact iB.1 c
def Qf (D:Nat) (n:Zq) (r:List R2):List R7:=r.flatMap fun w=>Vo D n (Xf n n.2.1.length 0 w)
section
variable {N:Nat} {n:Zq} (hf:X2 N n) {D G:Nat} (hD:D≠0)
variable {Q P:Nat} (hr:Z3 N (4 * (G+Q+P)+60)) (hN:2000000<N) {B:Nat→Nat} (hB:Zad n B) (hQ:Vn B n.2.1.length 0+1≤Q)
include hf hD hr hN hB hQ
omit hf hD hr hN hB hQ in
theorem Zwv (p:QV) (E:List (List QV)) (kk:List Int→ByteArray→R3→Rb→R6→(List (List QV))→ByteArray→R3→Rb→R6→(List (List QV))→Bool→R2→R2→(List (List QV))→Option (List (List QV))) (y:Int×List Int):∀ (os:List Nat) (k:Nat) (V ds:List Int),y.2.drop k=ds→ds.length=os.length→(∀ o ∈ os,o<V.length)→
  Zeo N n.1 n.2.1 n.2.2.1 n.2.2.2.1 n.2.2.2.2 (Wk n).1 (Wk n).2.1 (Wk n).2.2.1 (Wk n).2.2.2.1 (Wk n).2.2.2.2 p.1.1 p.1.2 p.2 E kk y (os.map fun o:Nat=>(o:Int)) k V=
   (Zjg N (Ws V os ds) n (Wk n) p E).bind fun r=>kk (Ws V os ds) n.1 n.2.1 n.2.2.1 n.2.2.2.1 n.2.2.2.2 (Wk n).1 (Wk n).2.1 (Wk n).2.2.1 (Wk n).2.2.2.1 (Wk n).2.2.2.2 p.1.1 p.1.2 p.2 r
 | [],k,V,ds,_,_,_=>by
  rw [dD,Zeo.eq_1,Ws]
 | o :: os,k,V,[],_,h,_=>by simp at h
 | o :: os,k,V,d :: ds,a,f,b=>by
  have c:k<y.2.length:=by
   rcases bU k y.2.length with h | h
   ·exact h
   ·rw [List.drop_eq_nil_of_le h] at a;cases a
  rw [aF c] at a
  obtain ⟨g,i⟩:=List.cons.inj a
  have e:=b o aO
  rw [bJ,Zeo.eq_2,Zs c,oB,Zs e,oB,oB,aC,g,Ws]
  exact Zwv p E kk y os (k+1) (V.set o d) ds i (by simpa using f) fun q j=>by rw [nS];exact b q (aN _ j)
theorem Zwu {w:List Int} (hw:PV n w) {p:Rat} (hp:0<p) (hpP:qs p≤P) {M:Nat} (hM:(Zf M).length≤G) (hG2:(Zf D).length≤G)
  (hI:∀ x ∈ Xf n n.2.1.length 0 w,(aW D n p x:Rat) * p=(D:Rat) * Xp n x n.2.1.length 0):∀ (m k:Nat) (V:List Int) (E:List (List QV)) (L:List R7),k+m=Xi ((Xw w 0).map (cnt n))→V.length=w.length→(∀ i,i ∉ Xw w 0→V[i]?=w[i]?)→Vg n D G L E→
  Yp L+Yp (((cE k m).map fun a=>Ws w (Xw w 0) (Wa ((Xw w 0).map (cnt n)) a)).map fun x=>(aW D n p x,x))≤M→
  ∃ E',Zbu N ((Xw w 0).map fun o:Nat=>(o:Int)) (Zd8 ((Xw w 0).map (cnt n)) k m) V n.1 n.2.1 n.2.2.1 n.2.2.2.1 n.2.2.2.2 (Wk n).1 (Wk n).2.1 (Wk n).2.2.1 (Wk n).2.2.2.1 (Wk n).2.2.2.2 (Zn p).1.1 (Zn p).1.2 (Zn p).2 E=some E'∧
   Vg n D G (L++((cE k m).map fun a=>Ws w (Xw w 0) (Wa ((Xw w 0).map (cnt n)) a)).map fun x=>(aW D n p x,x)) E'
 | 0,k,V,E,L,_,_,_,l,_=>by
  rw [Zd8,Zbu.eq_1]
  refine ⟨E,rfl,?_⟩
  have:((cE k 0).map fun a=>Ws w (Xw w 0) (Wa ((Xw w 0).map (cnt n)) a)).map (fun x=>(aW D n p x,x))=[]:=rfl
  rw [this,cV];exact l
 | m+1,k,V,E,L,U,F,r,l,c=>by
  rw [eR,bJ,bJ,Yp] at c
  have s:=hw.len
  have t:Ws w (Xw w 0) (Wa ((Xw w 0).map (cnt n)) k) ∈ Xf n n.2.1.length 0 w:=by
   rw [Ziu n.2.1.length 0 w (by omega) s,aM]
   exact cY.2 ⟨k,gW.2 (by omega),rfl⟩
  obtain ⟨x,b⟩:∃ x,x=Ws w (Xw w 0) (Wa ((Xw w 0).map (cnt n)) k):=⟨_,rfl⟩
  have d:=Zit n.2.1.length 0 w hw (by omega) (fun i u=>by omega) _ t
  have f:=hI _ t
  have q:Ws V (Xw w 0) (Wa ((Xw w 0).map (cnt n)) k)=x:=by
   rw [b]
   exact Z2t _ _ _ _ F (by rw [Zoz,aH]) r
  rw [← b] at d f c
  have g:p≠0:=fun e=>by rw [e] at hp;exact absurd hp cZ
  have v:=Zh7 hD
  have j:Xp n x n.2.1.length 0 / p=(aW D n p x:Rat) / (D:Rat):=by
   have H:Xp n x n.2.1.length 0 * (D:Rat)=(aW D n p x:Rat) * p:=by rw [f,jJ]
   have I:Xp n x n.2.1.length 0=(aW D n p x:Rat) * p / (D:Rat):=by
    rw [← H,bQ,bP,cW _ v,dL]
   rw [I,bQ,bQ,bQ,bP _ p,jJ p,← bP,bP _ p,cW _ g,dL]
  have J:aW D n p x≤M:=by omega
  have y:qs (Xp n x n.2.1.length 0 / p)≤G:=by
   have e:(aW D n p x:Rat) / (D:Rat)=mkRat ((aW D n p x:Nat):Int) D:=by rw [cM];rfl
   rw [j,e]
   have:=Y7 J
   exact Zfs (by rw [eH];omega) hG2 (aT (U8 hD) hG2)
  obtain ⟨K,O,R⟩:=Xb8 hf hD l d hr hN hB hQ g hpP j y (aT (Y7 (show Yp L+aW D n p x≤M by omega)) hM) hG2
  obtain ⟨E',S,A⟩:=Zwu hw hp hpP hM hG2 hI m (k+1) x K (L++[(aW D n p x,x)]) (by omega) (by rw [b,Z2u]) (fun i u=>by rw [b];exact Z2v _ _ _ i u) R (by rw [Zij,Yp,Yp];omega)
  have C:=Zwv (N:=N) (n:=n) (Zn p) E (Zbu N ((Xw w 0).map fun o:Nat=>(o:Int)) (Zd8 ((Xw w 0).map (cnt n)) (k+1) m)) ((k:Int),Wa ((Xw w 0).map (cnt n)) k) (Xw w 0) 0 V (Wa ((Xw w 0).map (cnt n)) k) (aM) (by rw [Zoz,aH]) fun o T=>by
   have:=Znn w 0 o T;omega
  rw [q,O,oB] at C
  refine ⟨E',?_,?_⟩
  ·rw [Zd8,Zbu.eq_2]
   exact C.trans S
  ·rw [bC,gK] at A
   rw [eR,bJ,bJ,← b]
   exact A
theorem Z7w {w:List Int} (hw:PV n w) (ho:Xh n w n.2.1.length 0≤65536) (hp:0<Zz n (Xf n n.2.1.length 0 w)) (hpP:qs (Zz n (Xf n n.2.1.length 0 w))≤P) {M:Nat} (hM:(Zf M).length≤G) (hG2:(Zf D).length≤G)
  (hI:∀ x ∈ Xf n n.2.1.length 0 w,∃ z:Nat,(D:Rat) * Xp n x n.2.1.length 0 / Zz n (Xf n n.2.1.length 0 w)=(z:Rat)) {L:List R7} {E:List (List QV)} (hE:Vg n D G L E) (hM2:Yp L+D≤M):
  ∃ E',Zji N n w n (Wk n) (Zn (Zz n (Xf n n.2.1.length 0 w))) E=some E'∧Vg n D G (L++Vo D n (Xf n n.2.1.length 0 w)) E':=by
 have d:=hw.len
 have H:=hf.le
 have g:Xi ((Xw w 0).map (cnt n))=Xh n w n.2.1.length 0:=by
  have c:=Zch n n.2.1.length 0 w
  rw [Ziu n.2.1.length 0 w (by omega) d,aM,aH,List.length_range'] at c
  exact c
 have I:=Zta w 0
 have f:∀ s ∈ (Xw w 0).map (cnt n),0<s:=fun s r=>by
  obtain ⟨o,c,rfl⟩:=cY.1 r
  have:=Znn w 0 o c
  exact Zae hf.ev (by omega)
 have i:=Xa6 (N:=N) f (by rw [aH];omega) (by omega) (by rw [g];exact ho)
 have t:Za5 w=some w:=Zou (by omega)
 have e:Xf n n.2.1.length 0 w=(cE 0 (Xi ((Xw w 0).map (cnt n)))).map fun a=>Ws w (Xw w 0) (Wa ((Xw w 0).map (cnt n)) a):=by
  have:=Ziu n.2.1.length 0 w (by omega) d
  rwa [aM] at this
 have J:=Zuu hp hI
 obtain ⟨E',u,j⟩:=Zwu hf hD hr hN hB hQ hw hp hpP hM hG2 (Zrq hp hI) (Xi ((Xw w 0).map (cnt n))) 0 w E L (by omega) rfl (fun _ _=>rfl) hE (by
  rw [← e]
  show Yp L+Yp (Vo D n (Xf n n.2.1.length 0 w))≤M
  omega)
 refine ⟨E',?_,?_⟩
 ·have y:∀ (m k:Nat) (b:List Nat),k+m=n.2.1.length→b.length≤k→Zam N n w n (Wk n) (Zn (Zz n (Xf n n.2.1.length 0 w))) E (w.drop k) k (b.map fun o:Nat=>(o:Int)) (Yc (b.map (cnt n)))=
    Zam N n w n (Wk n) (Zn (Zz n (Xf n n.2.1.length 0 w))) E [] n.2.1.length ((b++Xw (w.drop k) k).map fun o:Nat=>(o:Int)) (Yc ((b++Xw (w.drop k) k).map (cnt n))):=by
   intro m
   induction m with
   | zero=>
    intro k b A _
    rw [dB (by omega),Xw,cV,show k=n.2.1.length by omega]
   | succ m l=>
    intro k b A K
    have p:k<w.length:=by omega
    have C:k<n.2.2.1.length:=by rw [hf.ev.v];omega
    rw [aF p,Zam.eq_2,Xw]
    by_cases hc:w[k]<0
    ·have q:=l (k+1) (b++[k]) (by omega) (by rw [nA,aK];omega)
     have q1:((b++[k]).map fun o:Nat=>(o:Int))=(b.map fun o:Nat=>(o:Int))++[(k:Int)]:=by rw [dI,eO]
     have F:Yc ((b++[k]).map (cnt n))=Yc (b.map (cnt n))++[((n.2.2.1.getD k []).length:Int)]:=by rw [Yc,Yc,dI,eO,dI,eO];rfl
     rw [q1,F,bC,gK] at q
     rw [if_pos (dT hc),if_pos hc,Z7 (by simp only [aH,aK,maxLen];omega),Yo [] C,oB,Z7 (by simp only [Yc,aH,aK,maxLen];omega),Zjj]
     exact q
    ·rw [if_neg (dF hc),if_neg hc,Zjj]
     exact l (k+1) b (by omega) (by omega)
  have c:=y n.2.1.length 0 [] (by omega) (aQ _)
  rw [aM,bF] at c
  rw [Zji]
  refine c.trans ?_
  rw [Zam.eq_1,t,oB,i,oB]
  exact u
 ·rw [← e] at j
  exact j
end

end Go.Proofs.YthclpfhncgpnmaaGreat
