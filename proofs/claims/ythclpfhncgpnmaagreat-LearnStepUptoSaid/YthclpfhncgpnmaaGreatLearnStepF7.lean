/-
  What functions of the program compute, as plain Lean functions (m_..), and proofs that they compute it (c_..). Printed by a program of the author; no conditions.
-/
import Derived.Test.YthclpfhncgpnmaaGreatLearnStepBFloat
import Derived.Test.YthclpfhncgpnmaaGreatProg
import Derived.Test.YthclpfhncgpnmaaGreatLearnStepBBrief
import Derived.Test.YthclpfhncgpnmaaGreatLearnStepBBulk
import Derived.Test.YthclpfhncgpnmaaGreatLearnStepBView
import Derived.Test.YthclpfhncgpnmaaGreatLearnStepBVrow
import Derived.Test.YthclpfhncgpnmaaGreatLearnStepF6
set_option linter.unusedVariables false
set_option maxRecDepth 100000
set_option maxHeartbeats 2000000
namespace Go.Proofs.YthclpfhncgpnmaaGreat
open Go Go.RowKit
open Int renaming toNat→aA,toNat_natCast→aC
open List renaming length_take_of_le→dC,replicate→aD,length_replicate→aS,length_singleton→aK,getElem_mem→aB,length_map→aH,nil_append→bF,take_of_length_le→bA,getElem_map→cA,getElem?_append_right→eJ,mem_cons_self→aO,mem_cons→bL,mem_cons_of_mem→aN,take_length→dY,drop_eq_getElem_cons→aF,drop_eq_nil_of_le→aG,drop_zero→aM,mem_filter→hO,getElem_replicate→eQ,all_eq_true→cP,map_cons→bJ,sum_cons→eY
open Nat renaming zero_le→aQ,le_trans→aT,mul_le_mul_right→bD
open Rat renaming zero_mul→eN
open Go.IntKind (i8 i16 i32 i64 u8 u16 u32 u64)
open Go.Proofs.Tryz

def Zgq (N:Nat) (e:R6) (c:List R7) (d:Int) (kk_L1:(Rg→Int→Option Rg)):Nat→R2→Int→Option Rg
  | 0,_,_=>none
  | g+1,a,f=>if (decide (f<3))=true then (Z2 ((a.length+[(-77)].length) * 8≤140737488355328∧a.length+[(-77)].length≤maxLen) ((Zgq N e c d kk_L1 g) (a++[(-77)]) (i64.wrap (f+1)))) else ((Zk e d).bind fun b=>Z2 ((0:Int)≤(b.length:Int)∧(b.length:Int)≤(a.length:Int)) (Z2 ((c.length+[((aA (b.length:Int)),a)].length) * 24≤140737488355328∧c.length+[((aA (b.length:Int)),a)].length≤maxLen) (kk_L1 (c++[((aA (b.length:Int)),a)]) (i64.wrap (d+1)))))
def Zco (N:Nat) (a:R6):Nat→Rg→Int→Option Rg
  | 0,_,_=>none
  | e+1,d,b=>if (decide (b<(a.length:Int)))=true then ((Zk a b).bind fun c=>Z2 ((([]:List Int).length+c.length) * 8≤140737488355328∧([]:List Int).length+c.length≤maxLen) (Zgq N a d b (Zco N a e) N (([]:List Int)++c) 0)) else (some d)
def Zpf (N:Nat) (a:R6):Option Rg:=
  Zco N a N ([]:List R7) 0
theorem Z5c {N S:Nat} {y:Option Addr} {col:Ze} {d:World} {p:R6} {r:Rg} (D:Nat) (a:Zpf N p=some r) (f:Sl rP col d y S p):
    Calls prog 18 #[.slice y p.length S] d (fun e w'=>∃ (col':Ze) (h:Option Addr) (g:Nat),e= .returned ((.slice h r.length g))∧Zj col d col' w'∧Zb (Za.vrow 3 rI) 36 D col' w' h g r):=by
 refine Xc 2 (m:=37) func18 rfl rfl rfl rfl rfl ?_;rw [Zpf.eq_1] at a;have b:=St.start col d;refine go ?_;refine Zt [0,1000000] (fun m w H=>∃ I B C q A n,n=m∧Zco N p n q A=some r∧St d (Zh col) I H∧Zb (Za.vrow 3 rI) 36 1 I H B C q∧[3,4].map w=[.slice B q.length C,.int .i64 A]) N ⟨_,none,0,_,0,_,rfl,a,b,Zb.nil,rfl⟩ ?_;clear a;intro m w H L;obtain ⟨I,B,C,q,A,n,u,a,b,c,v⟩:=L;subst u;refine .lL [3,4] v ?_;replace f:=f.k0
 cases n with
 | zero=>rw [Zco.eq_1] at a;cases a
 | succ n=>
  rw [Zco.eq_2] at a;refine go ?_;refine Zm a (fun t a=>go ?_) fun t a=>go ?_
  ·obtain ⟨_,E,a⟩:=bZ a;refine lI E ((f.ks b).addr E) ?_;obtain ⟨_,U,X⟩:=(f.ks b).atN E;obtain ⟨⟨_,_,rfl,z⟩,_⟩:=U;refine lW X.one ?_;obtain ⟨T,a⟩:=Z4 a;refine Wy (c:=2) Zb.nil z.srcC T fun _ _ _ _ P h=>go ?_;replace c:=c.kpp P;replace b:=b.kpp P;refine Zt [0,3,4,1000000] (fun m w z=>∃ s j k i J o,o=m∧Zgq N p q A (Zco N p n) o i J=some r∧St d (Zh col) s z∧Zb (Za.vrow 3 rI) 36 1 s z B C q∧Zb rI 3 2 s z j k i∧[5,6].map w=[.slice j i.length k,.int .i64 J]) N ⟨_,_,_,_,0,_,rfl,a,b,c,h,rfl⟩ ?_;clear a;intro m w z L;obtain ⟨s,j,k,i,J,o,u,a,b,c,x,v⟩:=L;subst u;refine .lL [5,6] v ?_
   cases o with
   | zero=>rw [Zgq.eq_1] at a;cases a
   | succ o=>
    rw [Zgq.eq_2] at a;refine go ?_;refine Zm a (fun t a=>go ?_) fun t a=>go ?_
    ·refine V5 (col:=s) [(-77)] 3 ?_;intro _ _ _ G W;obtain ⟨d,a⟩:=Z4 a;replace x:=x.gr G;refine Wy x (W.srcN (NB.int (k:=.i64))) d fun _ _ _ _ Q g=>go ?_;replace c:=(c.gr G).kpp Q;replace b:=(b.grow G).kpp Q;exact ⟨o,by omega,rfl,⟨_,_,_,_,_,_,rfl,a,b,c,g,rfl⟩⟩
    obtain ⟨l,F,a⟩:=bZ a;refine lI F ((f.ks b).addr F) ?_;obtain ⟨_,V,Y⟩:=(f.ks b).atN F;obtain ⟨⟨_,_,rfl,_⟩,_⟩:=V;refine lW Y.one<|go ?_;obtain ⟨K,a⟩:=Z4 a;refine lv (v:=.slice j (aA (l.length:Int)) k) rfl rfl (Zca underlying36 sizeOf3 rfl rfl K.1 (by have:=x.lecap;have:=K.2;omega))<|.ld (d:=33) (v:=(.slice j ((i.take (aA (l.length:Int))).length) k)) (congrArg (fun m=>Value.slice j m k) (dC (show (aA (l.length:Int))≤i.length by have:=K.2;omega)).symm) ?_;refine U6 (col:=s) (r:=(Za.vrow 3 rI)) (xs:=[((aA (l.length:Int)),i)]) [(.slice j ((i.take (aA (l.length:Int))).length) k)] 2 (W5.cons1 (cs:=[(.slice j ((i.take (aA (l.length:Int))).length) k)]) (x.hasV (aA (l.length:Int))) Rows.nil0) ?_;intro _ _ _ R Z;obtain ⟨f,a⟩:=Z4 a;replace c:=c.gr R;refine Wy (c:=1) (c2:=2) c (Z.srcC (by decide)) f fun _ _ _ _ M O=>go ?_;replace b:=(b.grow R).kpp M;exact ⟨n,by omega,rfl,⟨_,_,_,_,_,_,rfl,a,b,O,rfl⟩⟩
  cases a;exact ⟨rfl,_,_,_,rfl,b.fin (cm [(1,D)]),b.fo c⟩
def Zje (a:Int) (kk_L1:(Int→Option Bool)) (b:Bool):Option Bool:=
  if b=true then (some false) else (kk_L1 (i64.wrap (a+1)))
def Zbs (N:Nat) (d:Rg) (b:R6):Nat→Int→Option Bool
  | 0,_=>none
  | f+1,c=>if (decide (c<(b.length:Int)))=true then ((Zk d c).bind fun e=>(Zk b c).bind fun a=>Z2 ((0:Int)≤(i64.wrap ((a.length:Int)+3))∧(i64.wrap ((a.length:Int)+3))≤(e.2.length:Int)) (Z2 ((0:Int)≤(a.length:Int)∧(a.length:Int)≤(e.2.length:Int)) ((Zkm N (e.2.take (aA (a.length:Int))) a).bind fun g=>if (!g)=true then (Zje c (Zbs N d b f) true) else ((Zk (e.2.take (aA (i64.wrap ((a.length:Int)+3)))) (a.length:Int)).bind fun i=>if (!decide (i=(-77)))=true then (Zje c (Zbs N d b f) true) else ((Zk (e.2.take (aA (i64.wrap ((a.length:Int)+3)))) (i64.wrap ((a.length:Int)+2))).bind fun j=>Zje c (Zbs N d b f) (!decide (j=(-77)))))))) else (some (decide ((d.length:Int)=(b.length:Int))))
def Zpe (N:Nat) (a:Rg) (b:R6):Option Bool:=
  Zbs N a b N 0
theorem Z48 {N O P:Nat} {v w:Option Addr} {col:Ze} {h:World} {o:Rg} {p:R6} {r:Bool} (a:Zpe N o p=some r) (j:Sl (Za.view rI) col h v O o) (d:Sl rP col h w P p):
    Calls prog 23 #[.slice v o.length O,.slice w p.length P] h (Vk h r):=by
 refine Xc 4 (m:=67) func23 rfl rfl rfl rfl rfl ?_;rw [Zpe.eq_1] at a;have c:=St.start col h;refine go ?_;refine Zt [0,1,1000000] (fun n u F=>∃ f x m,m=n∧Zbs N o p m x=some r∧St h (Zh col) f F∧[5].map u=[.int .i64 x]) N ⟨_,0,_,rfl,a,c,rfl⟩ ?_;clear a;intro n u F R;obtain ⟨f,x,m,H,a,c,s⟩:=R;subst H;refine .lL [5] s ?_;replace j:=j.k0;replace d:=d.k0
 cases m with
 | zero=>rw [Zbs.eq_1] at a;cases a
 | succ m=>
  rw [Zbs.eq_2] at a;refine go ?_;refine Zm a (fun q a=>go ?_) fun q a=>go ?_
  ·refine Wg (col:=f) (by kernel_rfl) (by kernel_rfl)<|go ?_;obtain ⟨t,y,a⟩:=bZ a;refine qI y ((j.ks c).addr y) ?_;obtain ⟨_,T,C⟩:=(j.ks c).atN y;obtain ⟨⟨k,l,rfl,g⟩,_⟩:=T;replace g:Sl rI f F k l t.2:=g;refine qW (fun _ b=>C.one.gr (b.bl f)) ?_;refine go ?_;obtain ⟨i,e,a⟩:=bZ a;refine qI e ((d.ks c).addr e) ?_;obtain ⟨_,U,z⟩:=(d.ks c).atN e;obtain ⟨⟨_,_,rfl,_⟩,_⟩:=U;refine qW (fun _ b=>z.one.gr (b.bl f)) ?_;refine go ?_;obtain ⟨D,a⟩:=Z4 a;refine qv (v:=.slice k (aA (i64.wrap ((i.length:Int)+3))) l) rfl (fun _ b=>Zca underlying36 sizeOf3 rfl rfl D.1 (by have:=g.1.2;have:=D.2;omega)) ?_;refine .ld (d:=24) (v:=(.slice k ((t.2.take (aA (i64.wrap ((i.length:Int)+3)))).length) l)) (congrArg (fun n=>Value.slice k n l) (dC (show (aA (i64.wrap ((i.length:Int)+3)))≤t.2.length by have:=D.2;omega)).symm) ?_;refine go ?_;refine Y1 ?_;intro _ b;replace b:=b.bl f;refine Zx<|Wg (col:=f) (by kernel_rfl) (by kernel_rfl)<|go ?_;replace c:=c.grow b;refine qI e ((d.ks c).addr e) ?_;obtain ⟨_,V,A⟩:=(d.ks c).atN e;obtain ⟨⟨_,_,rfl,_⟩,_⟩:=V;refine qW (fun _ b=>A.one.gr (b.bl f)) ?_;refine go ?_;obtain ⟨C,a⟩:=Z4 a;replace g:=g.gr b;refine qv (v:=.slice k (aA (i.length:Int)) l) rfl (fun _ b=>Zca underlying36 sizeOf3 rfl rfl C.1 (by have:=g.1.2;have:=C.2;omega)) ?_;refine .ld (d:=31) (v:=(.slice k ((t.2.take (aA (i.length:Int))).length) l)) (congrArg (fun n=>Value.slice k n l) (dC (show (aA (i.length:Int))≤t.2.length by have:=C.2;omega)).symm) ?_;refine go ?_;refine qI e ((d.ks c).addr e) ?_;obtain ⟨_,W,B⟩:=(d.ks c).atN e;obtain ⟨⟨_,_,rfl,J⟩,_⟩:=W;refine qW (fun _ b=>B.one.gr (b.bl f)) ?_;obtain ⟨S,j,a⟩:=bZ a;refine qc (v:=(.bool S)) rfl (fun _ b=>⟨_,_,Tj call76 rfl rfl,(Zvv j ((g.take (aA (i.length:Int))).gr (b.bl f)) (J.gr (b.bl f)):).mono fun _ _ K=>⟨K.1,b.trans (.of_below K.2)⟩⟩) ?_;refine go ?_;refine Y1 ?_;intro _ b;replace b:=b.bl f;refine Zx ?_;replace g:=g.gr b;replace c:=c.grow b
   refine Wp.cutK [0,1,5,1000000] (fun u L=>∃ M z,Zje x (Zbs N o p m) z=some r∧St h (Zh col) M L∧[61].map u=[.bool z]) ?_ ?_
   ·intro u L Q;obtain ⟨M,z,a,c,s⟩:=Q;rw [Zje.eq_1] at a;refine .lL [61] s ?_;refine Zm a (fun q a=>go ?_) fun q a=>go ?_
    ·cases a;exact ⟨rfl,rfl,c.below⟩
    exact ⟨m,by omega,rfl,⟨_,_,_,rfl,a,c,rfl⟩⟩
   refine go ?_;refine Ye a (fun G a=>go ?_) fun G a=>go ?_
   ·refine lV (.bool true) (X0 (congrArg Value.bool G) rfl)<|Vb rfl<|lP 50 rfl rfl<|lP 50 rfl rfl<|lP 50 rfl rfl<|lP 50 rfl rfl<|lP 50 rfl rfl<|lP 50 rfl rfl<|lP 50 rfl rfl<|lP 50 rfl rfl<|lP 50 rfl rfl<|lP 50 rfl rfl<|lV (.bool true) (X0 rfl rfl)<|Zl ?_;exact ⟨rfl,_,_,a,c,rfl⟩
   refine lI e ((d.ks c).addr e) ?_;refine go ?_;obtain ⟨_,X,Z⟩:=(d.ks c).atN e;obtain ⟨⟨_,_,rfl,_⟩,_⟩:=X;refine lW Z.one<|go ?_;obtain ⟨b,A,a⟩:=bZ a;refine lI A ((g.take (aA (i64.wrap ((i.length:Int)+3)))).addr A) ?_;refine go ?_;refine lW ((g.take (aA (i64.wrap ((i.length:Int)+3)))).atInt A)<|go ?_;refine lV (.bool (!decide (b=(-77)))) (X7 (congrArg Value.bool G) rfl)<|Vb rfl ?_;refine Ye a (fun E a=>go ?_) fun E a=>go ?_
   ·refine lV (.bool true) (X0 (congrArg Value.bool E) rfl)<|Zl ?_;exact ⟨rfl,_,_,a,c,rfl⟩
   refine lI e ((d.ks c).addr e) ?_;refine go ?_;obtain ⟨_,Y,I⟩:=(d.ks c).atN e;obtain ⟨⟨_,_,rfl,_⟩,_⟩:=Y;refine lW I.one<|go ?_;obtain ⟨J,B,a⟩:=bZ a;refine lI B ((g.take (aA (i64.wrap ((i.length:Int)+3)))).addr B) ?_;refine go ?_;refine lW ((g.take (aA (i64.wrap ((i.length:Int)+3)))).atInt B)<|go ?_;refine lV (.bool (!decide (J=(-77)))) (X7 (congrArg Value.bool E) rfl)<|Zl ?_;exact ⟨rfl,_,_,a,c,rfl⟩
  cases a;exact ⟨rfl,rfl,c.below⟩
/-! observations with Zb8 behind them -/
abbrev U0:List Int:=[-77,-77,-77]
theorem Z37 {N:Nat} {r:List R2} {i:Nat} (hi:i<r.length) (hil:r[i].length≤1048576) (hrl:r.length≤1048576) (kk:List R7→Int→Option Rg) {out:List R7} (ho:out.length≤1048576):∀ (f k:Nat),k≤3→3<f+k→Zgq N r out (i:Int) kk f (r[i]++aD k (-77)) (k:Int)=kk (out++[Se U0 r[i]]) ((i+1:Nat):Int)
 | 0,k,c,d=>by omega
 | f+1,k,c,d=>by
  rw [Zgq.eq_2]
  by_cases a:k<3
  ·have b:=Z37 (N:=N) hi hil hrl kk ho f (k+1) (by omega) (by omega)
   rw [List.replicate_succ',← List.append_assoc] at b
   rw [if_pos (dT (by omega)),Z7 (by simp only [nA,aS,aK,maxLen];omega),wS (by omega)]
   exact b
  ·have a:k=3:=by omega
   subst a
   rw [if_neg (by decide),Zs hi,oB,Z7 (by rw [nA];omega),Z7 (by simp only [aK,maxLen];omega),aC,wS (by omega)]
   rfl
theorem Xcr {N:Nat} {r:List R2} (hr:r.length≤1048576) (hl:∀ l ∈ r,l.length≤1048576) (hN:1048577<N):Zpf N r=some (r.map (Se U0)):=by
 have L:∀ (f i:Nat),i≤r.length→r.length<f+i→Zco N r f ((r.take i).map (Se U0)) (i:Int)=some (r.map (Se U0)):=by
  intro f
  induction f with
  | zero=>intro i d e;omega
  | succ f a=>
   intro i d e
   rw [Zco.eq_2]
   by_cases hi:i<r.length
   ·have b:=hl _ (aB hi)
    have a:=a (i+1) (by omega) (by omega)
    rw [List.take_succ_eq_append_getElem hi,List.map_append,List.map_singleton] at a
    have c:=Z37 (N:=N) hi b hr (Zco N r f) (out:=(r.take i).map (Se U0)) (by rw [aH,nK];omega) N 0 (by decide) (by omega)
    rw [List.replicate_zero,List.append_nil] at c
    rw [if_pos (dT (by omega)),Zs hi,oB,Z7 (by simp only [nN,maxLen];omega),bF]
    exact c.trans a
   ·rw [if_neg (dF (by omega)),bA (by omega)]
 exact L N 0 (aQ _) (by omega)
theorem Z84 {N:Nat} {r:List R2} (hr:r.length≤1048576) (hl:∀ l ∈ r,l.length≤1048576) (hN:1099511627777<N):Zpe N (r.map (Se U0)) r=some true:=by
 have L:∀ (f i:Nat),i≤r.length→r.length<f+i→Zbs N (r.map (Se U0)) r f (i:Int)=some true:=by
  intro f
  induction f with
  | zero=>intro i b c;omega
  | succ f d=>
   intro i b c
   rw [Zbs.eq_2]
   by_cases hi:i<r.length
   ·have a:=hl _ (aB hi)
    have e:Zk (r.map (Se U0)) (i:Int)=some (Se U0 r[i]):=by rw [Zs (by rw [aH];exact hi),cA]
    have g:(Se U0 r[i]).2=r[i]++U0:=rfl
    have j:(r[i]++U0).take r[i].length=r[i]:=List.take_left
    have k:(r[i]++U0).take (r[i].length+3)=r[i]++U0:=bA (by rw [nA];exact Nat.le_refl _)
    have m:Zk (r[i]++U0) ((r[i].length:Nat):Int)=some (-77):=by
     rw [Zcf,eJ (Nat.le_refl _),Nat.sub_self];rfl
    have n:Zk (r[i]++U0) ((r[i].length+2:Nat):Int)=some (-77):=by
     rw [Zcf,eJ (by omega),Nat.add_sub_cancel_left];rfl
    rw [if_pos (dT (by omega)),e,oB,Zs hi,oB,g,Zv (x:=(r[i].length:Int)+3) (by omega),Z7 (by simp only [nA,nC,nN];omega),Z7 (by simp only [nA];omega),aC,j,Z2l hN a,oB,if_neg (by decide),
     show aA ((r[i].length:Int)+3)=r[i].length+3 by omega,k,m,oB,if_neg (by decide),Zv (x:=(r[i].length:Int)+2) (by omega),show (r[i].length:Int)+2=((r[i].length+2:Nat):Int) by omega,n,oB,decide_eq_true rfl,Zje,if_neg (by decide),wS (by omega)]
    exact d (i+1) (by omega) (by omega)
   ·rw [if_neg (dF (by omega)),aH,decide_eq_true rfl]
 exact L N 0 (aQ _) (by omega)
theorem Zzg {N:Nat} {n:Zq} (hf:X2 N n):∀ r:List R2,(∀ w ∈ r,PV n w)→Wx n r≠0→∀ w ∈ r,0<Zz n (Xf n n.2.1.length 0 w)
 | u :: r,h,hne,w,a=>by
  rw [Wx] at hne
  have b:=Zuj hf _ (Zsg (h u aO))
  have c:Zz n (Xf n n.2.1.length 0 u)≠0:=fun e=>hne (by rw [e,eN])
  have d:Wx n r≠0:=fun e=>hne (by rw [e,Rat.mul_zero])
  rcases bL.1 a with rfl | a
  ·rcases Rat.le_iff_lt_or_eq.1 b with h | h
   ·exact h
   ·exact absurd h.symm c
  ·exact Zzg hf r (fun x f=>h x (aN _ f)) d w a
def Zl6 (a:R6):Option R6:=
  Z2 ((0:Int)≤(if 12<(a.length:Int) then 12 else (a.length:Int))∧(if 12<(a.length:Int) then 12 else (a.length:Int))≤(a.length:Int)) (some (a.take (aA (if 12<(a.length:Int) then 12 else (a.length:Int)))))
theorem Z5a {b:Nat} {f:Option Addr} {col:Ze} {g:World} {a r:R6} (h:Zl6 a=some r) (i:Sl rP col g f b a):
    Calls prog 14 #[.slice f a.length b] g (fun e w'=>∃ (col':Ze) (d:Option Addr) (c:Nat),e= .returned ((.slice d r.length c))∧Zj col g col' w'∧Sl rP col' w' d c r):=by
 refine Xc 2 (m:=8) func14 rfl rfl rfl rfl rfl ?_;rw [Zl6.eq_1] at h;have j:=St.start col g;refine go ?_;refine lV (.int .i64 (if 12<(a.length:Int) then 12 else (a.length:Int))) (Zqt (a.length:Int) 12 rfl rfl) ?_;obtain ⟨k,h⟩:=Z4 h;replace i:=i.k0;refine lv (v:=.slice f (aA (if 12<(a.length:Int) then 12 else (a.length:Int))) b) rfl rfl (Zca underlying49 sizeOf36 rfl rfl k.1 (by have:=(i.ks j).1.2;have:=k.2;omega))<|.ld (d:=7) (v:=(.slice f ((a.take (aA (if 12<(a.length:Int) then 12 else (a.length:Int)))).length) b)) (congrArg (fun l=>Value.slice f l b) (dC (show (aA (if 12<(a.length:Int) then 12 else (a.length:Int)))≤a.length by have:=k.2;omega)).symm) ?_;refine go ?_;cases h;exact ⟨rfl,_,_,_,rfl,j.fin (cm []),j.fs ((i.ks j).take (aA (if 12<(a.length:Int) then 12 else (a.length:Int))))⟩
def Zl5 (a:Bool):Option Bool:=
  some a
def Zjf (N:Nat) (a:R0):Option Bool:=
  (Zdf N (a.1,a.2.1,a.2.2.1,a.2.2.2.1,a.2.2.2.2)).bind fun c=>if (!decide (c=0))=true then (some false) else ((Zdl N (a.1,a.2.1,a.2.2.1,a.2.2.2.1,a.2.2.2.2)).bind fun d=>(Zb1 N d).bind fun b=>if (decide (b.2=0))=true then (if (decide (300<b.1))=true then (Zl5 (decide (b.1≤65536))) else (Zl5 false)) else (Zl5 false))
theorem Z49 {N s t u v:Nat} {w x y C:Option Addr} {col:Ze} {e:World} {b:R0} {r:Bool} (a:Zjf N b=some r) (d:Sl Za.str col e w s b.2.1) (g:Sl rV col e x t b.2.2.1) (i:Sl rP col e y u b.2.2.2.1) (j:Sl (Za.slice rQ) col e C v b.2.2.2.2):
    Calls prog 15 #[(.agg (Rq b w s x t y u C v))] e (Vk e r):=by
 refine Xc 2 (m:=24) func15 rfl rfl rfl rfl rfl ?_;rw [Zjf.eq_1] at a;have c:=St.start col e;refine go ?_;refine Xg (col:=(Zh col)) 1 rfl fun _ _ L K D=>go ?_;refine lV _ (Z5 isAgg27 sizeOf27 D) ?_;obtain ⟨_,I,a⟩:=bZ a;replace d:=d.k0;replace g:=g.k0;replace i:=i.k0;replace j:=j.k0;replace c:=c.grow K;refine Zi (Zvw I (d.ks c) (g.ks c) (i.ks c) (j.ks c)) fun _ _ ⟨f,k⟩=>⟨_,f,?_⟩;replace k:=Rr L k;refine go ?_;replace c:=c.grow k;refine Zm a (fun p a=>go ?_) fun p a=>go ?_
 ·cases a;exact ⟨rfl,rfl,c.below⟩
 refine lV _ (Z5 isAgg27 sizeOf27 (D.gr k)) ?_;obtain ⟨_,G,a⟩:=bZ a;refine Zi (Zvz 2 G (d.ks c) (g.ks c) (i.ks c) (j.ks c)) fun _ _ ⟨J,_,_,f,M,H⟩=>⟨_,f,?_⟩;obtain ⟨h,F,a⟩:=bZ a;refine Zi (Zr8 F (H.toSlF (Zg.int .i64))) fun _ _ ⟨f,n⟩=>⟨_,f,?_⟩;replace n:=Rr J n;refine lM (.tuple #[.int .i64 h.1,.int .i64 h.2])<|lV (.int .i64 h.1) (Xt rfl rfl)<|lV (.int .i64 h.2) (Xt rfl rfl)<|Y6 rfl<|Y6 rfl<|Zl<|Zx ?_;replace c:=(c.grow M).grow n;refine Wp.cutK [1000000] (fun z A=>∃ B l,Zl5 l=some r∧St e (Zh col) B A∧[2].map z=[.bool l]) ?_ ?_
 ·intro z A E;obtain ⟨B,l,a,c,q⟩:=E;rw [Zl5.eq_1] at a;refine .lL [2] q<|W1 ?_;cases a;exact ⟨rfl,rfl,c.below⟩
 refine go ?_;refine Ye a (fun o a=>go ?_) fun o a=>go ?_
 ·refine lV (.bool (decide (300<h.1))) (X0 (congrArg Value.bool o) rfl)<|Vb rfl ?_;refine Ye a (fun m a=>go ?_) fun m a=>go ?_
  ·refine lV (.bool (decide (h.1≤65536))) (X0 (congrArg Value.bool m) rfl)<|go ?_;exact ⟨rfl,_,_,a,c,rfl⟩
  refine lV (.bool false) (X7 (congrArg Value.bool m) rfl)<|go ?_;exact ⟨rfl,_,_,a,c,rfl⟩
 refine lV (.bool false) (X7 (congrArg Value.bool o) rfl)<|Vb rfl<|lP 20 rfl rfl<|lP 20 rfl rfl<|lV (.bool false) (X7 rfl rfl)<|go ?_;exact ⟨rfl,_,_,a,c,rfl⟩
def Zpg (a:Int) (kk_L1:(Int→Option Bool)):Option Bool:=
  kk_L1 (i64.wrap (a+1))
def Zgr (a:Int) (kk_L1:(Int→Option Bool)) (b:Bool):Option Bool:=
  if b=true then (some true) else (Zpg a kk_L1)
def Zal (N:Nat) (a:R0) (b:R6):Nat→Int→Option Bool
  | 0,_=>none
  | d+1,c=>if (decide (c<(b.length:Int)))=true then ((Zk b c).bind fun f=>(Zfg N (a.1,a.2.1,a.2.2.1,a.2.2.2.1,a.2.2.2.2) f).bind fun e=>if (decide (300<e))=true then (Zgr c (Zal N a b d) (decide (e≤65536))) else (Zgr c (Zal N a b d) false)) else (some false)
def Zcp (N:Nat) (a:R0) (b:R6):Option Bool:=
  (Q3 N (a.1,a.2.1,a.2.2.1,a.2.2.2.1,a.2.2.2.2) b).bind fun c=>if (!decide (c=0))=true then (some false) else (Zal N a b N 0)
theorem Z5d {N j k l o M:Nat} {p q s t B:Option Addr} {col:Ze} {e:World} {a:R0} {i:R6} {r:Bool} (b:Zcp N a i=some r) (w:Sl Za.str col e p j a.2.1) (x:Sl rV col e q k a.2.2.1) (y:Sl rP col e s l a.2.2.2.1) (C:Sl (Za.slice rQ) col e t o a.2.2.2.2) (h:Sl rP col e B M i):
    Calls prog 16 #[(.agg (Rq a p j q k s l t o)),.slice B i.length M] e (Vk e r):=by
 refine Xc 4 (m:=29) func16 rfl rfl rfl rfl rfl ?_;rw [Zcp.eq_1] at b;have c:=St.start col e;refine go ?_;refine Xg (col:=(Zh col)) 1 rfl fun O _ B Z f=>go ?_;refine lV _ (Z5 isAgg27 sizeOf27 f)<|Y3 rfl ?_;obtain ⟨_,Y,b⟩:=bZ b;replace w:=w.k0;replace x:=x.k0;replace y:=y.k0;replace C:=C.k0;replace h:=h.k0;replace c:=c.grow Z;refine Zi (Zv2 Y (w.ks c) (x.ks c) (y.ks c) (C.ks c) (h.ks c)) fun _ _ ⟨P,A⟩=>⟨_,P,?_⟩;replace A:=Rr B A;refine go ?_;replace f:=f.gr A;replace c:=c.grow A;refine Zm b (fun m b=>go ?_) fun m b=>go ?_
 ·cases b;exact ⟨rfl,rfl,c.below⟩
 refine Zt [1,2,1000000] (fun S u J=>∃ g z n,n=S∧Zal N a i n z=some r∧St e (Zh col) g J∧Zd 27 1 g J O (Rq a p j q k s l t o)∧[5].map u=[.int .i64 z]) N ⟨_,0,_,rfl,b,c,f,rfl⟩ ?_;clear b;intro S u J U;obtain ⟨g,z,n,Q,b,c,f,v⟩:=U;subst Q;refine .lL [5] v ?_
 cases n with
 | zero=>rw [Zal.eq_1] at b;cases b
 | succ n=>
  rw [Zal.eq_2] at b;refine go ?_;refine Zm b (fun m b=>?_) fun m b=>go ?_
  ·refine Xz<|Zx ?_;refine Wp.cutK [1,2,5,1000000] (fun u E=>∃ F,Zpg z (Zal N a i n)=some r∧St e (Zh col) F E∧Zd 27 1 F E O (Rq a p j q k s l t o)) ?_ ?_
   ·intro u E L;obtain ⟨F,b,c,f⟩:=L;rw [Zpg.eq_1] at b;refine go ?_;exact ⟨n,by omega,rfl,⟨_,_,_,rfl,b,c,f,rfl⟩⟩
   refine go ?_;refine Wg (col:=g) (by kernel_rfl) (by kernel_rfl)<|qv rfl (fun _ d=>Z5 isAgg27 sizeOf27 (f.gr (d.bl g))) ?_;refine go ?_;obtain ⟨_,D,b⟩:=bZ b;refine qI D ((h.ks c).addr D) ?_;obtain ⟨_,V,W⟩:=(h.ks c).atN D;obtain ⟨⟨_,_,rfl,G⟩,_⟩:=V;refine qW (fun _ d=>W.one.gr (d.bl g)) ?_;obtain ⟨T,X,b⟩:=bZ b;refine qc (v:=(.int .i64 T)) rfl (fun _ d=>⟨_,_,Tj call51 rfl rfl,(Zv1 X ((w.ks c).gr (d.bl g)) ((x.ks c).gr (d.bl g)) ((y.ks c).gr (d.bl g)) ((C.ks c).gr (d.bl g)) (G.gr (d.bl g)):).mono fun _ _ R=>⟨R.1,d.trans (.of_below R.2)⟩⟩) ?_;refine go ?_;refine Y1 ?_;intro _ d;replace d:=d.bl g;refine Zx ?_;replace f:=f.gr d;replace c:=c.grow d;refine Wp.cutK [1,2,5,1000000] (fun u G=>∃ H I,Zgr z (Zal N a i n) I=some r∧St e (Zh col) H G∧Zd 27 1 H G O (Rq a p j q k s l t o)∧[28].map u=[.bool I]) ?_ ?_
   ·intro u G L;obtain ⟨H,I,b,c,f,v⟩:=L;rw [Zgr.eq_1] at b;refine .lL [28] v ?_;refine Zm b (fun m b=>go ?_) fun m b=>?_
    ·cases b;exact ⟨rfl,rfl,c.below⟩
    refine Xz ?_;exact ⟨rfl,_,b,c,f⟩
   refine go ?_;refine Ye b (fun K b=>go ?_) fun K b=>go ?_
   ·refine lV (.bool (decide (T≤65536))) (X0 (congrArg Value.bool K) rfl)<|Zl ?_;exact ⟨rfl,_,_,b,c,f,rfl⟩
   refine lV (.bool false) (X7 (congrArg Value.bool K) rfl)<|Zl ?_;exact ⟨rfl,_,_,b,c,f,rfl⟩
  cases b;exact ⟨rfl,rfl,c.below⟩
def Zgj (a:Bool):Option Bool:=
  some a
def Zgi (N:Nat) (a:R0) (f:R6) (b:R0) (g:Rg) (c:(R0×Int)) (d:(R0×Int)) (e:(R0×Int)) (i:Bool):Option Bool:=
  if i=true then (some false) else ((Zl7 N (d.1.1,d.1.2.1,d.1.2.2.1,d.1.2.2.2.1,d.1.2.2.2.2)).bind fun j=>if j=true then ((Q2 N (e.1.1,e.1.2.1,e.1.2.2.1,e.1.2.2.2.1,e.1.2.2.2.2) (c.1.1,c.1.2.1,c.1.2.2.1,c.1.2.2.2.1,c.1.2.2.2.2)).bind fun k=>if k=true then ((Q2 N (b.1,b.2.1,b.2.2.1,b.2.2.2.1,b.2.2.2.2) (a.1,a.2.1,a.2.2.1,a.2.2.2.1,a.2.2.2.2)).bind fun l=>if l=true then ((Zpe N g f).bind fun m=>Zgj m) else (Zgj false)) else (Zgj false)) else (Zgj false))
def Zgh (N:Nat) (b:R0) (f:R6) (i:Bool):Option Bool:=
  if i=true then (some true) else ((Zb4 N (b.1,b.2.1,b.2.2.1,b.2.2.2.1,b.2.2.2.2)).bind fun c=>(Zpf N f).bind fun g=>(Za2 N (b.1,b.2.1,b.2.2.1,b.2.2.2.1,b.2.2.2.2) f).bind fun a=>(Sg N (c.1,c.2.1,c.2.2.1,c.2.2.2.1,c.2.2.2.2) (g.map Zdx)).bind fun d=>(Sg N (c.1,c.2.1,c.2.2.1,c.2.2.2.1,c.2.2.2.2) (g.map Zdx)).bind fun e=>if (!decide (d.2=a.2))=true then (Zgi N b f c g a d e true) else (if (!decide (e.2=a.2))=true then (Zgi N b f c g a d e true) else ((Q2 N (d.1.1,d.1.2.1,d.1.2.2.1,d.1.2.2.2.1,d.1.2.2.2.2) (a.1.1,a.1.2.1,a.1.2.2.1,a.1.2.2.2.1,a.1.2.2.2.2)).bind fun j=>if (!j)=true then (Zgi N b f c g a d e true) else ((Q2 N (e.1.1,e.1.2.1,e.1.2.2.1,e.1.2.2.2.1,e.1.2.2.2.2) (a.1.1,a.1.2.1,a.1.2.2.1,a.1.2.2.2.1,a.1.2.2.2.2)).bind fun k=>Zgi N b f c g a d e (!k)))))
def Zpd (N:Nat) (a:R0) (c:R6):Option Bool:=
  (Zl6 c).bind fun b=>(Zjf N (a.1,a.2.1,a.2.2.1,a.2.2.2.1,a.2.2.2.2)).bind fun d=>if d=true then (Zgh N a b true) else ((Zcp N (a.1,a.2.1,a.2.2.1,a.2.2.2.1,a.2.2.2.2) b).bind fun e=>Zgh N a b e)
theorem Z47 (N:Nat) (col:Ze) (z:World) (ap:Option Addr) (aq:Nat) (ar:Option Addr) (au:Nat) (av:Option Addr) (aw:Nat) (ax:Option Addr) (ay:Nat) (s:R0) (A:Option Addr) (q:Nat) (B:R6) (X:Sl Za.str col z ap aq s.2.1) (W:Sl rV col z ar au s.2.2.1) (V:Sl rP col z av aw s.2.2.2.1) (U:Sl (Za.slice rQ) col z ax ay s.2.2.2.2) (Y:Sl rP col z A q B) (r:Bool) (a:Zpd N s B=some r):
    Calls prog 4 #[(.agg (Rq s ap aq ar au av aw ax ay)),.slice A B.length q] z (Vk z r):=by
 refine Xc 4 (m:=83) func4 rfl rfl rfl rfl rfl ?_;rw [Zpd.eq_1] at a;have b:=St.start col z;refine go ?_;refine Xg (col:=(Zh col)) 1 rfl fun b9 _ _ i e=>go ?_;obtain ⟨az,h,a⟩:=bZ a;replace b:=b.grow i;refine Zi (Z5a h (Y.k0.ks b)) fun _ _ ⟨a0,ca,cb,c,o,d⟩=>⟨_,c,?_⟩;refine Zlz rfl<|Zl<|Zx<|Zx ?_;replace X:=X.k0;replace W:=W.k0;replace V:=V.k0;replace U:=U.k0;replace e:=e.gr o;replace b:=b.grow o;refine Wp.cutK [1,2,1000000] (fun bl k=>∃ l A,Zgh N s az A=some r∧St z (Zh col) l k∧Sl rP l k ca cb az∧Zd 27 1 l k b9 (Rq s ap aq ar au av aw ax ay)∧[22].map bl=[.bool A]) ?_ ?_
 ·intro bl k hJ;obtain ⟨l,A,a,b,d,e,hs⟩:=hJ;rw [Zgh.eq_1] at a;refine .lL [22] hs ?_;refine Zm a (fun hb a=>go ?_) fun hb a=>go ?_
  ·cases a;exact ⟨rfl,rfl,b.below⟩
  refine lV _ (Z5 isAgg27 sizeOf27 e) ?_;obtain ⟨co,Y,a⟩:=bZ a;refine Zi (Zv0 2 3 4 5 Y (X.ks b) (W.ks b) (V.ks b) (U.ks b)) fun _ _ ⟨k,cd,ce,cf,cg,ch,ci,cj,ck,c,M,u,v,w,x⟩=>⟨_,c,?_⟩;refine Xr (col:=k) #[.string (⟨#[]⟩),.slice none (([]:List ByteArray).length) 0,.slice none (([]:List R3).length) 0,.slice none (([]:List R2).length) 0,(.slice none (([]:List R4).length) 0)] 6 zeroValue27 fun cx _ _ T B=>Z6 B fun _ S L t=>go ?_;obtain ⟨y,j,a⟩:=bZ a;replace d:=((d.gr M).gr T).kp S;refine Zi (Z5c 7 j d) ?_;rintro _ ed ⟨ee,ak,al,rfl,Z,p⟩;refine ⟨_,rfl,go ?_⟩;replace e:=(((e.gr M).gr T).kp S).gr Z;refine lV _ (Z5 isAgg27 sizeOf27 e)<|Y3 rfl ?_;obtain ⟨n,l,a⟩:=bZ a;replace b:=(((b.grow M).grow T).kp S L).grow Z;replace d:=d.gr Z;refine Zi (Z6o l (X.ks b) (W.ks b) (V.ks b) (U.ks b) d) fun _ _ ⟨M,a4,a5,a6,a7,a8,a9,ba,bb,c,Y,H,I,J,K⟩=>⟨_,c,?_⟩;refine lM (.tuple #[(.agg #[.string n.1.1,.slice a4 n.1.2.1.length a5,.slice a6 n.1.2.2.1.length a7,.slice a8 n.1.2.2.2.1.length a9,.slice ba n.1.2.2.2.2.length bb]),.int .i64 n.2])<|lV (.agg #[.string n.1.1,.slice a4 n.1.2.1.length a5,.slice a6 n.1.2.2.1.length a7,.slice a8 n.1.2.2.2.1.length a9,.slice ba n.1.2.2.2.2.length bb]) (Xt rfl rfl)<|lV (.int .i64 n.2) (Xt rfl rfl)<|Xr (col:=M) #[.string (⟨#[]⟩),.slice none (([]:List ByteArray).length) 0,.slice none (([]:List R3).length) 0,.slice none (([]:List R2).length) 0,(.slice none (([]:List R4).length) 0)] 8 zeroValue27 ?_;intro c3 _ g M L;refine Z6 L fun j L c6 G=>go ?_;replace t:=(((t.gr Z).gr Y).gr M).kp L;refine lV _ (Z5 isAgg27 sizeOf27 t)<|Y3 rfl ?_
  have B:((.slice ak y.length al):Value)=(.slice ak (y.map Zdx).length al):=by first | (simp only [aH];done) | simp only [aH,dY]
  obtain ⟨o,q,a⟩:=bZ a;replace u:=(((((u.gr T).kp S).gr Z).gr Y).gr M).kp L;replace v:=(((((v.gr T).kp S).gr Z).gr Y).gr M).kp L;replace w:=(((((w.gr T).kp S).gr Z).gr Y).gr M).kp L;replace x:=(((((x.gr T).kp S).gr Z).gr Y).gr M).kp L;replace p:=((p.gr Y).gr M).kp L;refine lc rfl rfl (Tj call20 rfl B) (Zvc 9 10 11 12 q (((((u.toSlF Zg.str).froz 3).froz 4).froz 5).froz 7) (((((v.froz 2).toSlF (Zg.row Zg.str)).froz 4).froz 5).froz 7) (((((w.froz 2).froz 3).toSlF (Zg.row (Zg.int .i64))).froz 5).froz 7) (((((x.froz 2).froz 3).froz 4).toSlF (Zg.row (Zg.pair (Zg.pair Zg.bool (Zg.row (Zg.int .u32))) (Zg.row (Zg.int .u32))))).froz 7) ((((((p.froz 2).froz 3).froz 4).froz 5).toSlF (Zg.vrow (Zg.int .i64))).weak Zce.view0):) fun _ _ ⟨i,bc,bd,be,bf,bg,bh,bi,bj,c,q,O,P,Q,R⟩=>⟨_,c,?_⟩;replace O:=O.thaw Zo3 q ((((((Fz.refl (col:=g)).froz 2).froz 3).froz 4).froz 5).froz 7) (by decide);replace P:=P.thaw (Qj Zo3) q ((((((Fz.refl (col:=g)).froz 2).froz 3).froz 4).froz 5).froz 7) (by decide);replace Q:=Q.thaw (Qj (Z1 .i64)) q ((((((Fz.refl (col:=g)).froz 2).froz 3).froz 4).froz 5).froz 7) (by decide);replace R:=R.thaw (Qj (Ziw (Ziw Zsm (Qj (Z1 .u32))) (Qj (Z1 .u32)))) q ((((((Fz.refl (col:=g)).froz 2).froz 3).froz 4).froz 5).froz 7) (by decide);replace q:=q.thawR (col:=g);generalize Xa j.heap.size g i=A at *
  refine lM (.tuple #[(.agg #[.string o.1.1,.slice bc o.1.2.1.length bd,.slice be o.1.2.2.1.length bf,.slice bg o.1.2.2.2.1.length bh,.slice bi o.1.2.2.2.2.length bj]),.int .i64 o.2])<|lV (.agg #[.string o.1.1,.slice bc o.1.2.1.length bd,.slice be o.1.2.2.1.length bf,.slice bg o.1.2.2.2.1.length bh,.slice bi o.1.2.2.2.2.length bj]) (Xt rfl rfl)<|lV (.int .i64 o.2) (Xt rfl rfl)<|Xr (col:=A) #[.string (⟨#[]⟩),.slice none (([]:List ByteArray).length) 0,.slice none (([]:List R3).length) 0,.slice none (([]:List R2).length) 0,(.slice none (([]:List R4).length) 0)] 13 zeroValue27 ?_;intro db _ f B S;refine Z6 S fun l A i cp=>go ?_;replace t:=((t.gr q).gr B).kp A;refine lV _ (Z5 isAgg27 sizeOf27 t)<|Y3 rfl ?_;have T:((.slice ak y.length al):Value)=(.slice ak (y.map Zdx).length al):=by first | (simp only [aH];done) | simp only [aH,dY]
  obtain ⟨m,S,a⟩:=bZ a;replace u:=((u.gr q).gr B).kp A;replace v:=((v.gr q).gr B).kp A;replace w:=((w.gr q).gr B).kp A;replace x:=((x.gr q).gr B).kp A;replace p:=((p.gr q).gr B).kp A;refine lc rfl rfl (Tj call20 rfl T) (Zvc 14 15 16 17 S (((((u.toSlF Zg.str).froz 3).froz 4).froz 5).froz 7) (((((v.froz 2).toSlF (Zg.row Zg.str)).froz 4).froz 5).froz 7) (((((w.froz 2).froz 3).toSlF (Zg.row (Zg.int .i64))).froz 5).froz 7) (((((x.froz 2).froz 3).froz 4).toSlF (Zg.row (Zg.pair (Zg.pair Zg.bool (Zg.row (Zg.int .u32))) (Zg.row (Zg.int .u32))))).froz 7) ((((((p.froz 2).froz 3).froz 4).froz 5).toSlF (Zg.vrow (Zg.int .i64))).weak Zce.view0):) fun _ _ ⟨k,S,T,g,bo,bp,bq,br,bs,c,j,C,D,E,F⟩=>⟨_,c,?_⟩;replace C:=C.thaw Zo3 j ((((((Fz.refl (col:=f)).froz 2).froz 3).froz 4).froz 5).froz 7) (by decide);replace D:=D.thaw (Qj Zo3) j ((((((Fz.refl (col:=f)).froz 2).froz 3).froz 4).froz 5).froz 7) (by decide);replace E:=E.thaw (Qj (Z1 .i64)) j ((((((Fz.refl (col:=f)).froz 2).froz 3).froz 4).froz 5).froz 7) (by decide);replace F:=F.thaw (Qj (Ziw (Ziw Zsm (Qj (Z1 .u32))) (Qj (Z1 .u32)))) j ((((((Fz.refl (col:=f)).froz 2).froz 3).froz 4).froz 5).froz 7) (by decide);replace j:=j.thawR (col:=f);generalize Xa l.heap.size f k=h at *;refine lM (.tuple #[(.agg #[.string m.1.1,.slice S m.1.2.1.length T,.slice g m.1.2.2.1.length bo,.slice bp m.1.2.2.2.1.length bq,.slice br m.1.2.2.2.2.length bs]),.int .i64 m.2])<|lV (.agg #[.string m.1.1,.slice S m.1.2.1.length T,.slice g m.1.2.2.1.length bo,.slice bp m.1.2.2.2.1.length bq,.slice br m.1.2.2.2.2.length bs]) (Xt rfl rfl)<|lV (.int .i64 m.2) (Xt rfl rfl)<|Xr (col:=h) #[.string (⟨#[]⟩),.slice none (([]:List ByteArray).length) 0,.slice none (([]:List R3).length) 0,.slice none (([]:List R2).length) 0,(.slice none (([]:List R4).length) 0)] 18 zeroValue27 ?_;intro dj _ bt l f;refine Z6 f ?_
  intro _ k f cq;refine Y6 rfl<|Zl<|Zx<|Zx ?_;replace d:=((((((((d.gr Y).gr M).kp L).gr q).gr B).kp A).gr j).gr l).kp k;replace e:=((((((((e.gr Y).gr M).kp L).gr q).gr B).kp A).gr j).gr l).kp k;replace b:=((((((((b.grow Y).grow M).kp L c6).grow q).grow B).kp A i).grow j).grow l).kp k f;replace H:=(((((((H.gr M).kp L).gr q).gr B).kp A).gr j).gr l).kp k;replace I:=(((((((I.gr M).kp L).gr q).gr B).kp A).gr j).gr l).kp k;replace J:=(((((((J.gr M).kp L).gr q).gr B).kp A).gr j).gr l).kp k;replace K:=(((((((K.gr M).kp L).gr q).gr B).kp A).gr j).gr l).kp k;replace G:=(((((G.gr q).gr B).kp A).gr j).gr l).kp k;replace O:=((((O.gr B).kp A).gr j).gr l).kp k;replace P:=((((P.gr B).kp A).gr j).gr l).kp k;replace Q:=((((Q.gr B).kp A).gr j).gr l).kp k;replace R:=((((R.gr B).kp A).gr j).gr l).kp k;replace u:=((u.gr j).gr l).kp k;replace v:=((v.gr j).gr l).kp k;replace w:=((w.gr j).gr l).kp k;replace x:=((x.gr j).gr l).kp k;replace p:=((p.gr j).gr l).kp k;replace t:=((t.gr j).gr l).kp k;replace cp:=((cp.gr j).gr l).kp k;replace C:=(C.gr l).kp k;replace D:=(D.gr l).kp k;replace E:=(E.gr l).kp k;replace F:=(F.gr l).kp k
  refine Wp.cutK [1,11,2,5,6,7,9,1000000] (fun bl h=>∃ i j,Zgi N s az co y n o m j=some r∧St z (Zh col) i h∧Sl rP i h ca cb az∧Zb Za.str 9 14 i h S T m.1.2.1∧Zb (Za.row 9 Za.str) 22 15 i h g bo m.1.2.2.1∧Zb (Za.row 3 rI) 36 16 i h bp bq m.1.2.2.2.1∧Zb (Za.row 42 (rO 45)) 29 17 i h br bs m.1.2.2.2.2∧Zd 27 18 i h dj #[.string m.1.1,.slice S m.1.2.1.length T,.slice g m.1.2.2.1.length bo,.slice bp m.1.2.2.2.1.length bq,.slice br m.1.2.2.2.2.length bs]∧Zd 27 1 i h b9 (Rq s ap aq ar au av aw ax ay)∧Zb Za.str 9 2 i h cd ce co.2.1∧Zb (Za.row 9 Za.str) 22 3 i h cf cg co.2.2.1∧Zb (Za.row 3 rI) 36 4 i h ch ci co.2.2.2.1∧Zb (Za.row 42 (rO 45)) 29 5 i h cj ck co.2.2.2.2∧Zd 27 6 i h cx (Rq co cd ce cf cg ch ci cj ck)∧Zb (Za.vrow 3 rI) 36 7 i h ak al y∧Sl Za.str i h a4 a5 n.1.2.1∧Sl rV i h a6 a7 n.1.2.2.1∧Sl rP i h a8 a9 n.1.2.2.2.1∧Sl (Za.slice rQ) i h ba bb n.1.2.2.2.2∧Zd 27 8 i h c3 #[.string n.1.1,.slice a4 n.1.2.1.length a5,.slice a6 n.1.2.2.1.length a7,.slice a8 n.1.2.2.2.1.length a9,.slice ba n.1.2.2.2.2.length bb]∧Zb Za.str 9 9 i h bc bd o.1.2.1∧Zb (Za.row 9 Za.str) 22 10 i h be bf o.1.2.2.1∧Zb (Za.row 3 rI) 36 11 i h bg bh o.1.2.2.2.1∧Zb (Za.row 42 (rO 45)) 29 12 i h bi bj o.1.2.2.2.2∧Zd 27 13 i h db #[.string o.1.1,.slice bc o.1.2.1.length bd,.slice be o.1.2.2.1.length bf,.slice bg o.1.2.2.2.1.length bh,.slice bi o.1.2.2.2.2.length bj]∧[64].map bl=[.bool j]) ?_ ?_
  ·intro bl h hJ;obtain ⟨i,j,a,b,d,C,D,E,F,cq,e,u,v,w,x,t,p,H,I,J,K,G,O,P,Q,R,cp,hs⟩:=hJ;rw [Zgi.eq_1] at a;refine .lL [64] hs ?_;refine Zm a (fun hb a=>go ?_) fun hb a=>go ?_
   ·cases a;exact ⟨rfl,rfl,b.below⟩
   refine lV _ (Z5 isAgg27 sizeOf27 cp) ?_;obtain ⟨_,g,a⟩:=bZ a;refine Zi (Z5b 9 10 11 12 g rfl O P Q R) fun _ _ ⟨aj,c,y⟩=>⟨_,c,?_⟩;refine Zd9 rfl<|Zl<|Zx ?_;replace d:=d.kpp y;replace C:=C.kpp y;replace D:=D.kpp y;replace E:=E.kpp y;replace F:=F.kpp y;replace u:=u.kpp y;replace v:=v.kpp y;replace w:=w.kpp y;replace x:=x.kpp y;replace p:=p.kpp y;replace H:=H.kpp y;replace I:=I.kpp y;replace J:=J.kpp y;replace K:=K.kpp y;replace cq:=cq.kpp y;replace e:=e.kpp y;replace t:=t.kpp y;replace G:=G.kpp y;replace b:=b.kpp y;refine Wp.cutK [1000000] (fun bl k=>∃ l o,Zgj o=some r∧St z (Zh col) l k∧[4].map bl=[.bool o]) ?_ ?_
   ·intro bl k hJ;obtain ⟨l,o,a,b,hs⟩:=hJ;rw [Zgj.eq_1] at a;refine .lL [4] hs<|W1 ?_;cases a;exact ⟨rfl,rfl,b.below⟩
   refine go ?_;refine Ye a (fun i a=>go ?_) fun i a=>go ?_
   ·refine lV _ (Z5 isAgg27 sizeOf27 cq)<|go ?_;refine lV _ (Z5 isAgg27 sizeOf27 G)<|go ?_;obtain ⟨z,y,a⟩:=bZ a;refine Zi (Zor y ((((C.toSlF Zg.str).froz 15).froz 16).froz 17) ((((D.froz 14).toSlF (Zg.row Zg.str)).froz 16).froz 17) ((((E.froz 14).froz 15).toSlF (Zg.row (Zg.int .i64))).froz 17) ((((F.froz 14).froz 15).froz 16).toSlF (Zg.row (Zg.pair (Zg.pair Zg.bool (Zg.row (Zg.int .u32))) (Zg.row (Zg.int .u32))))) ((((H.froz 14).froz 15).froz 16).froz 17) ((((I.froz 14).froz 15).froz 16).froz 17) ((((J.froz 14).froz 15).froz 16).froz 17) ((((K.froz 14).froz 15).froz 16).froz 17)) fun _ _ ⟨c,Y⟩=>⟨_,c,?_⟩;replace Y:=Rr aj Y;refine lV (.bool z) (X0 (congrArg Value.bool i) rfl)<|Vb rfl ?_;replace d:=d.gr Y;replace u:=u.gr Y;replace v:=v.gr Y;replace w:=w.gr Y;replace x:=x.gr Y;replace p:=p.gr Y;replace e:=e.gr Y;replace t:=t.gr Y;replace b:=b.grow Y;refine Ye a (fun h a=>go ?_) fun h a=>go ?_
    ·refine lV _ (Z5 isAgg27 sizeOf27 t)<|go ?_;refine lV _ (Z5 isAgg27 sizeOf27 e)<|go ?_;obtain ⟨y,z,a⟩:=bZ a;refine Zi (Zor z ((((u.toSlF Zg.str).froz 3).froz 4).froz 5) ((((v.froz 2).toSlF (Zg.row Zg.str)).froz 4).froz 5) ((((w.froz 2).froz 3).toSlF (Zg.row (Zg.int .i64))).froz 5) ((((x.froz 2).froz 3).froz 4).toSlF (Zg.row (Zg.pair (Zg.pair Zg.bool (Zg.row (Zg.int .u32))) (Zg.row (Zg.int .u32))))) (((((X.ks b).froz 2).froz 3).froz 4).froz 5) (((((W.ks b).froz 2).froz 3).froz 4).froz 5) (((((V.ks b).froz 2).froz 3).froz 4).froz 5) (((((U.ks b).froz 2).froz 3).froz 4).froz 5)) fun _ _ ⟨c,j⟩=>⟨_,c,?_⟩;replace j:=Rr aj j;refine lV (.bool y) (X0 (congrArg Value.bool h) rfl)<|Vb rfl ?_;replace d:=d.gr j;replace p:=p.gr j;replace b:=b.grow j;refine Ye a (fun z a=>go ?_) fun z a=>go ?_
     ·obtain ⟨o,M,a⟩:=bZ a;refine Zi (Z48 M (p.toSlF (Zg.vrow (Zg.int .i64))) (d.froz 7)) fun _ _ ⟨c,q⟩=>⟨_,c,?_⟩;replace q:=Rr aj q;refine lV (.bool o) (X0 (congrArg Value.bool z) rfl)<|go ?_;replace b:=b.grow q;exact ⟨rfl,_,_,a,b,rfl⟩
     refine lV (.bool false) (X7 (congrArg Value.bool z) rfl)<|go ?_;exact ⟨rfl,_,_,a,b,rfl⟩
    refine lV (.bool false) (X7 (congrArg Value.bool h) rfl)<|Vb rfl<|lP 78 rfl rfl<|lP 78 rfl rfl<|lP 78 rfl rfl<|lV (.bool false) (X7 rfl rfl)<|go ?_;exact ⟨rfl,_,_,a,b,rfl⟩
   refine lV (.bool false) (X7 (congrArg Value.bool i) rfl)<|Vb rfl<|lP 73 rfl rfl<|lP 73 rfl rfl<|lP 73 rfl rfl<|lV (.bool false) (X7 rfl rfl)<|Vb rfl<|lP 78 rfl rfl<|lP 78 rfl rfl<|lP 78 rfl rfl<|lV (.bool false) (X7 rfl rfl)<|go ?_;exact ⟨rfl,_,_,a,b,rfl⟩
  refine go ?_;refine Ye a (fun L a=>go ?_) fun L a=>go ?_
  ·refine lV (.bool true) (X0 (congrArg Value.bool L) rfl)<|Vb rfl<|lP 53 rfl rfl<|lP 53 rfl rfl<|lP 53 rfl rfl<|lP 53 rfl rfl<|lV (.bool true) (X0 rfl rfl)<|Vb rfl<|lP 59 rfl rfl<|lP 59 rfl rfl<|lP 59 rfl rfl<|lP 59 rfl rfl<|lV (.bool true) (X0 rfl rfl)<|Zl ?_;exact ⟨rfl,_,_,a,b,d,C,D,E,F,cq,e,u,v,w,x,t,p,H,I,J,K,G,O,P,Q,R,cp,rfl⟩
  refine lV (.bool (!decide (m.2=n.2))) (X7 (congrArg Value.bool L) rfl)<|Vb rfl ?_;refine Ye a (fun f a=>go ?_) fun f a=>go ?_
  ·refine lV (.bool true) (X0 (congrArg Value.bool f) rfl)<|Vb rfl<|lP 59 rfl rfl<|lP 59 rfl rfl<|lP 59 rfl rfl<|lP 59 rfl rfl<|lV (.bool true) (X0 rfl rfl)<|Zl ?_;exact ⟨rfl,_,_,a,b,d,C,D,E,F,cq,e,u,v,w,x,t,p,H,I,J,K,G,O,P,Q,R,cp,rfl⟩
  refine lV _ (Z5 isAgg27 sizeOf27 cp)<|go ?_;refine lV _ (Z5 isAgg27 sizeOf27 G)<|go ?_;obtain ⟨n,m,a⟩:=bZ a;refine Zi (Zor m ((((O.toSlF Zg.str).froz 10).froz 11).froz 12) ((((P.froz 9).toSlF (Zg.row Zg.str)).froz 11).froz 12) ((((Q.froz 9).froz 10).toSlF (Zg.row (Zg.int .i64))).froz 12) ((((R.froz 9).froz 10).froz 11).toSlF (Zg.row (Zg.pair (Zg.pair Zg.bool (Zg.row (Zg.int .u32))) (Zg.row (Zg.int .u32))))) ((((H.froz 9).froz 10).froz 11).froz 12) ((((I.froz 9).froz 10).froz 11).froz 12) ((((J.froz 9).froz 10).froz 11).froz 12) ((((K.froz 9).froz 10).froz 11).froz 12)) fun _ _ ⟨c,g⟩=>⟨_,c,?_⟩;replace g:=Rr bt g;refine go ?_;refine lV (.bool (!n)) (X7 (congrArg Value.bool f) rfl)<|Vb rfl ?_;replace d:=d.gr g;replace u:=u.gr g;replace v:=v.gr g;replace w:=w.gr g;replace x:=x.gr g;replace p:=p.gr g;replace H:=H.gr g;replace I:=I.gr g;replace J:=J.gr g;replace K:=K.gr g;replace O:=O.gr g;replace P:=P.gr g;replace Q:=Q.gr g;replace R:=R.gr g;replace C:=C.gr g;replace D:=D.gr g;replace E:=E.gr g;replace F:=F.gr g;replace e:=e.gr g;replace t:=t.gr g;replace G:=G.gr g;replace cp:=cp.gr g;replace cq:=cq.gr g;replace b:=b.grow g;refine Ye a (fun n a=>go ?_) fun n a=>go ?_
  ·refine lV (.bool true) (X0 (congrArg Value.bool n) rfl)<|Zl ?_;exact ⟨rfl,_,_,a,b,d,C,D,E,F,cq,e,u,v,w,x,t,p,H,I,J,K,G,O,P,Q,R,cp,rfl⟩
  refine lV _ (Z5 isAgg27 sizeOf27 cq)<|go ?_;refine lV _ (Z5 isAgg27 sizeOf27 G)<|go ?_;obtain ⟨m,T,a⟩:=bZ a;refine Zi (Zor T ((((C.toSlF Zg.str).froz 15).froz 16).froz 17) ((((D.froz 14).toSlF (Zg.row Zg.str)).froz 16).froz 17) ((((E.froz 14).froz 15).toSlF (Zg.row (Zg.int .i64))).froz 17) ((((F.froz 14).froz 15).froz 16).toSlF (Zg.row (Zg.pair (Zg.pair Zg.bool (Zg.row (Zg.int .u32))) (Zg.row (Zg.int .u32))))) ((((H.froz 14).froz 15).froz 16).froz 17) ((((I.froz 14).froz 15).froz 16).froz 17) ((((J.froz 14).froz 15).froz 16).froz 17) ((((K.froz 14).froz 15).froz 16).froz 17)) fun _ _ ⟨c,f⟩=>⟨_,c,?_⟩;replace f:=Rr bt f;refine go ?_;refine lV (.bool (!m)) (X7 (congrArg Value.bool n) rfl)<|Zl ?_;replace d:=d.gr f;replace e:=e.gr f;replace b:=b.grow f;exact ⟨rfl,_,_,a,b,d,C.gr f,D.gr f,E.gr f,F.gr f,cq.gr f,e,u.gr f,v.gr f,w.gr f,x.gr f,t.gr f,p.gr f,H.gr f,I.gr f,J.gr f,K.gr f,G.gr f,O.gr f,P.gr f,Q.gr f,R.gr f,cp.gr f,rfl⟩
 refine W0<|lV _ (Z5 isAgg27 sizeOf27 e) ?_;obtain ⟨_,p,a⟩:=bZ a;refine Zi (Z49 p (X.ks b) (W.ks b) (V.ks b) (U.ks b)) fun _ _ ⟨c,h⟩=>⟨_,c,?_⟩;replace h:=Rr a0 h;refine Vb rfl ?_;replace d:=d.gr h;replace e:=e.gr h;replace b:=b.grow h;refine Ye a (fun m a=>go ?_) fun m a=>go ?_
 ·refine lV (.bool true) (X0 (congrArg Value.bool m) rfl)<|Zl ?_;exact ⟨rfl,_,_,a,b,d,e,rfl⟩
 refine lV _ (Z5 isAgg27 sizeOf27 e)<|go ?_;obtain ⟨u,t,a⟩:=bZ a;refine Zi (Z5d t (X.ks b) (W.ks b) (V.ks b) (U.ks b) d) fun _ _ ⟨c,i⟩=>⟨_,c,?_⟩;replace i:=Rr a0 i;refine lV (.bool u) (X7 (congrArg Value.bool m) rfl)<|Zl ?_;exact ⟨rfl,_,_,a,b.grow i,d.gr i,e.gr i,rfl⟩
theorem Zzf {n:Zq}:∀ r:List R2,(∀ w ∈ r,0<Zz n (Xf n n.2.1.length 0 w))→Wx n r≠0
 | [],_=>by rw [Wx];decide
 | w :: r,h=>by
  have a:=h w aO
  have b:=Zzf r fun x c=>h x (aN _ c)
  rw [Wx]
  intro e
  rcases Rat.mul_eq_zero.1 e with e | e
  ·rw [e] at a;exact Rat.lt_irrefl a
  ·exact b e
/-! large networks -/
theorem Z0h {N:Nat} {ss:List Nat} (hsb:∀ s ∈ ss,s≤1048576) (hl:ss.length≤1048576):∀ (f i:Nat) (c:Nat),i≤ss.length→ss.length<f+i→c≤2147483647→∃ x,Q0 N (Yc ss) f (c:Int) (i:Int)=some x
 | 0,i,c,d,g,_=>by omega
 | f+1,i,c,d,g,j=>by
  have a:(Yc ss).length=ss.length:=by rw [Yc,aH]
  rw [Q0.eq_2]
  by_cases hi:i<ss.length
  ·have b:=hsb _ (aB hi)
   have at1:Zk (Yc ss) (i:Int)=some ((ss[i]:Nat):Int):=by
    rw [Zs (by rw [a];exact hi)];simp only [Yc,cA]
   have k:c * ss[i]≤2147483647 * 1048576:=Nat.mul_le_mul j b
   have e:i64.wrap ((c:Int) * ((ss[i]:Nat):Int))=((c * ss[i]:Nat):Int):=by rw [← Int.natCast_mul];exact Zv (by omega)
   rw [if_pos (dT (by omega)),Ze8]
   by_cases h0:0<c
   ·rw [if_pos (dT (by omega)),at1,oB,if_neg (dF (by omega)),e]
    by_cases h4:2147483647<c * ss[i]
    ·rw [if_pos (dT (by omega))];exact ⟨_,rfl⟩
    ·rw [if_neg (dF (by omega)),wS (by omega)]
     exact Z0h hsb hl f (i+1) (c * ss[i]) (by omega) (by omega) (by omega)
   ·rw [if_neg (dF (by omega))];exact ⟨_,rfl⟩
  ·rw [if_neg (dF (by omega)),Ze8,if_neg (by decide)];exact ⟨_,rfl⟩
section
variable {N:Nat} {n:Zq} (hs:W8 n 1048576) (hb:Zln n) (hr:Z3 N 800000000000)
include hs hb hr
theorem Z89 {e:Int} (m2:Zdf N n=some e) (fine:e=0→X2 N n):∃ b,Zjf N n=some b:=by
 have p:2000000<N:=by obtain ⟨q,r⟩:=hr;omega
 have c:Zdf N (n.1,n.2.1,n.2.2.1,n.2.2.2.1,n.2.2.2.2)=some e:=m2
 rw [Zjf,c,oB]
 by_cases he:e=0
 ·have g:=fine he
  subst he
  have d:=hb.vn
  have i:Zdl N (n.1,n.2.1,n.2.2.1,n.2.2.2.1,n.2.2.2.2)=some (Yc (Zdv n)):=by
   have:=Z21 (N:=N) (n:=n) hb.vn (by omega)
   rw [Yc,Zdv,List.map_map];exact this
  have f:∀ s ∈ Zdv n,s≤1048576:=fun s h=>by
   rw [Zdv] at h
   obtain ⟨l,j,rfl⟩:=List.mem_map.1 h
   exact hs.vl l j
  have a:(Zdv n).length≤1048576:=by rw [Zdv,aH];exact d
  have k:=Ztp (N:=N) (Xcn g) a N 0 (aQ _) (by omega)
  obtain ⟨x,m⟩:=Z0h (N:=N) f a N 0 1 (aQ _) (by omega) (by decide)
  have o:Zb1 N (Yc (Zdv n))=some x:=by rw [Zb1];exact k.trans m
  rw [if_neg (by decide),i,oB,o,oB]
  split
  ·split
   ·exact ⟨_,rfl⟩
   ·exact ⟨_,rfl⟩
  ·exact ⟨_,rfl⟩
 ·rw [if_pos (by rw [decide_eq_false he];rfl)];exact ⟨_,rfl⟩
/-! wide observations -/
omit hb in
theorem Xcw (hf:X2 N n) {r:List R2} (hrl:r.length≤12) (hw:Ul n r=true) (wr:Q3 N n r=some 0):∃ b,Zcp N n r=some b∧(b=false→∀ w ∈ r,Xh n w n.2.1.length 0≤300∨65536<Xh n w n.2.1.length 0):=by
 have t:2000000<N:=by obtain ⟨u,v⟩:=hr;omega
 have s:=hf.le
 have j:=Zq3 hw
 have d:Q3 N (n.1,n.2.1,n.2.2.1,n.2.2.2.1,n.2.2.2.2) r=some 0:=wr
 have L:∀ (f i:Nat),i≤r.length→r.length<f+i→∃ b,Zal N n r f (i:Int)=some b∧(b=false→∀ w ∈ r.drop i,Xh n w n.2.1.length 0≤300∨65536<Xh n w n.2.1.length 0):=by
  intro f
  induction f with
  | zero=>intro i k l;omega
  | succ f m=>
   intro i k l
   rw [Zal.eq_2]
   by_cases hi:i<r.length
   ·have e:=j _ (aB hi)
    have p:Zfg N (n.1,n.2.1,n.2.2.1,n.2.2.2.1,n.2.2.2.2) r[i]=_:=Zt4 hf.ev hs.vl e (by omega) (by omega)
    obtain ⟨b,a,c⟩:=m (i+1) (by omega) (by omega)
    rw [if_pos (dT (by omega)),Zs hi,oB,p,oB]
    have next:(Xh n r[i] n.2.1.length 0≤300∨65536<Xh n r[i] n.2.1.length 0)→∃ b,Zgr (i:Int) (Zal N n r f) false=some b∧(b=false→∀ w ∈ r.drop i,Xh n w n.2.1.length 0≤300∨65536<Xh n w n.2.1.length 0):=fun q=>by
     rw [Zgr,if_neg (by decide),Zpg,wS (by omega)]
     refine ⟨b,a,fun g w hw=>?_⟩
     rw [aF hi] at hw
     rcases bL.1 hw with rfl | hw
     ·exact q
     ·exact c g w hw
    generalize Xh n r[i] n.2.1.length 0=o at *
    by_cases h3:300<min o 131072
    ·rw [if_pos (dT (by omega))]
     by_cases h4:min o 131072≤65536
     ·rw [decide_eq_true (by omega),Zgr,if_pos rfl]
      exact ⟨true,rfl,fun h=>by cases h⟩
     ·rw [decide_eq_false (by omega)]
      exact next (by omega)
    ·rw [if_neg (dF (by omega))]
     exact next (by omega)
   ·rw [if_neg (dF (by omega))]
    exact ⟨false,rfl,fun _ w hw=>by rw [aG (by omega)] at hw;cases hw⟩
 obtain ⟨b,a,c⟩:=L N 0 (aQ _) (by omega)
 rw [Zcp,d,oB,if_neg (by decide)]
 exact ⟨b,a,fun h w hw=>c h w (by rw [aM];exact hw)⟩
/-! both steps -/
structure OkA (A:Zq):Prop where
 sm:Zux A
 lm:∀ t ∈ A.2.2.2.2,∀ x ∈ t,W2 x
 v:A.2.2.1.length=A.2.1.length
 p:A.2.2.2.1.length=A.2.1.length
 t:A.2.2.2.2.length=A.2.1.length
omit hs hb hr in
theorem okZ:OkA Sr:=⟨⟨by decide,by decide,by simp [Sr],by decide,by simp [Sr],by decide,by simp [Sr],by simp [Sr]⟩,by simp [Sr],rfl,rfl,rfl⟩
variable (hqt:(n.2.2.2.2.map X6).sum≤1048576)
include hqt
theorem Xcc (hf:X2 N n) (hC:Vx N n=some 0) {r:List R2} (hrl:r.length≤12) (hw:Ul n r=true) (wr:Q3 N n r=some 0) (hwd:∀ w ∈ r,Xh n w n.2.1.length 0≤300∨65536<Xh n w n.2.1.length 0):
  ∃ A e,Sg N n r=some (A,e)∧Za2 N n r=some (A,e)∧OkA A:=by
 have hN:1099511627777<N:=by obtain ⟨r1,r2⟩:=hr;omega
 have e5:=hf.le
 have F:=Zq3 hw
 have X:Vx N (n.1,n.2.1,n.2.2.1,n.2.2.2.1,n.2.2.2.2)=some 0:=hC
 have Y:Q3 N (n.1,n.2.1,n.2.2.1,n.2.2.2.1,n.2.2.2.2) r=some 0:=wr
 have lw:Qu N (n.1,n.2.1,n.2.2.1,n.2.2.2.1,n.2.2.2.2) r=some 0:=by
  rw [Qu,X,oB,if_neg (by decide)]
  have:=Zl1 (n:=n) hf.ev.v r
  rw [if_pos hw] at this
  exact this
 have dw:Zgg N (n.1,n.2.1,n.2.2.1,n.2.2.2.1,n.2.2.2.2) r=some 0:=by
  rw [Zgg,X,oB,if_neg (by decide)]
  have:=Zsj (n:=n) hf.ev.v r
  rw [if_pos hw] at this
  exact this
 by_cases hmany:∃ w ∈ r,65536<Xh n w n.2.1.length 0
 ·refine ⟨Sr,4,?_,?_,okZ⟩
  ·have dl:∀ (l:List R2) (b:Bool) (x y:List Int),(∀ w ∈ l,PV n w)→(∃ w ∈ l,65536<Xh n w n.2.1.length 0)→Zbn N n r l b x y=some (((false,[]),[]),4):=by
    intro l
    induction l with
    | nil=>intro b x y _ ⟨w,h,_⟩;cases h
    | cons u l K=>
     intro b x y hl ⟨w,g,q⟩
     have L:Zjb (n.1,n.2.1,n.2.2.1,n.2.2.2.1,n.2.2.2.2) u=_:=Z8w hf.ev hs.vl (hl u aO)
     rw [Zbn.eq_2,L,oB]
     by_cases U:65536<Xh n u n.2.1.length 0
     ·rw [if_pos (dT (by omega))]
     ·rw [if_neg (dF (by omega))]
      rcases bL.1 g with rfl | g
      ·exact absurd q U
      ·exact K b x y (fun z hz=>hl z (aN _ hz)) ⟨w,g,q⟩
   have dc:Zaj N (n.1,n.2.1,n.2.2.1,n.2.2.2.1,n.2.2.2.2) r=some (((false,[]),[]),4):=by
    rw [Zaj,dw,oB,if_neg (by decide)]
    exact dl r false [] [] F hmany
   rw [Sg,lw,oB,if_neg (by decide),dc,oB,if_pos (by decide)];rfl
  ·have rl:∀ (f i:Nat) (a:ByteArray) (b:List ByteArray) (c:List R3) (d:List R2) (e:List (List QV)),i≤r.length→r.length<f+i→(∃ w ∈ r.drop i,65536<Xh n w n.2.1.length 0)→Zdo N n r f a b c d e (i:Int)=some (Sr,4):=by
    intro f
    induction f with
    | zero=>intro i a b c d e g q;omega
    | succ f K=>
     intro i a b c d e g q ⟨w,J,g2⟩
     rw [Zdo.eq_2]
     by_cases o:i<r.length
     ·have L:Zfg N (n.1,n.2.1,n.2.2.1,n.2.2.2.1,n.2.2.2.2) r[i]=_:=Zt4 hf.ev hs.vl (F _ (aB o)) (by omega) (by omega)
      rw [if_pos (dT (by omega)),Zs o,oB,L,oB]
      by_cases U:65536<Xh n r[i] n.2.1.length 0
      ·rw [if_pos (dT (by omega))];rfl
      ·rw [if_neg (dF (by omega)),wS (by omega)]
       rw [aF o] at J
       rcases bL.1 J with rfl | J
       ·exact absurd g2 U
       ·exact K (i+1) a b c d e (by omega) (by omega) ⟨w,J,g2⟩
     ·rw [aG (by omega)] at J;cases J
   rw [Za2,Y,oB,if_neg (by decide)]
   exact rl N 0 _ _ _ _ _ (aQ _) (by omega) (by rw [aM];exact hmany)
 ·have M:∀ w ∈ r,Xh n w n.2.1.length 0≤300:=fun w h=>by
   rcases hwd w h with g | g
   ·exact g
   ·exact absurd ⟨w,h,g⟩ hmany
  have Z:Z3 N (8 * 1074792460+40):=hr.mono (by decide)
  have a0:1025 * (1048576+2)+4≤1074792460:=by decide
  have a1:=fun w (h:Yk n w)=>Xah hf hs Z a0 (by omega) hC h
  obtain ⟨B,O⟩:∃ B:Nat→Nat,B=fun v=>X6 (n.2.2.2.2.getD v [])+1:=⟨_,rfl⟩
  have e6:Vn B n.2.1.length 0≤1049600:=by
   rw [O,Z3p,Z3o X6 n.2.2.2.2 n.2.1.length 0 (by rw [hf.ev.t];omega),aM];omega
  have hQ:Vn B n.2.1.length 0+1≤1050000:=by omega
  have V:Zad n B:=fun v j x k=>by rw [O];exact Zwz hf hs j x k
  have b5:=Zth hf V hQ
  have hS:300 * (1050000+2048)≤315614400:=by decide
  have a2:Z3 N (26 * 315614400+60):=hr.mono (by decide)
  have a3:∀ v,v<n.2.1.length→(n.2.2.2.1.getD v []).length≤1048576:=fun v j=>by
   have g:v<n.2.2.2.1.length:=by rw [hf.ev.p];exact j
   have:=hb.pl _ (aB g)
   rw [Xl g];exact this
  have a4:∀ v,v<n.2.1.length→∀ x ∈ n.2.2.2.2.getD v [],RV 1048576 x:=fun v j x k=>by
   have g:=Ziv hf hs j x k
   exact ⟨g.1.1,g.1.2,by omega,by omega⟩
  have W:∀ x,Yk n x→Zhr N n x=some (Zn (Xp n x n.2.1.length 0)):=fun x k=>by
   have p:=Z12 hf k V (Q:=1050000) (Wl:=1048576) (hr.mono (by decide)) a3 (by omega) a4 n.2.1.length 0 N 1 (by omega) (by omega) (by rw [Zft];omega)
   rw [Rat.one_mul] at p
   rw [Zhr,Zt3 (hr.mono (by decide)),oB]
   exact p
  have tw:Zb4 N n=some n:=Z4c hb hN
  -- the weights' denominator
  have a5:∀ w ∈ r.filter (Sk n),PV n w∧0<Zz n (Xf n n.2.1.length 0 w):=fun w h=>by
   obtain ⟨g,q⟩:=hO.1 h
   exact ⟨F w g,of_decide_eq_true q⟩
  obtain ⟨D,P⟩:∃ D,D=Qg n (r.filter (Sk n)):=⟨_,rfl⟩
  have hD:D≠0:=by rw [P];exact Zu2 hf _ a5
  have hI:∀ w ∈ r,0<Zz n (Xf n n.2.1.length 0 w)→∀ x ∈ Xf n n.2.1.length 0 w,∃ z:Nat,(D:Rat) * Xp n x n.2.1.length 0 / Zz n (Xf n n.2.1.length 0 w)=(z:Rat):=fun w h hp=>by
   obtain ⟨E,e⟩:=Zu0 (n:=n) (r.filter (Sk n)) w (hO.2 ⟨h,decide_eq_true hp⟩)
   exact Z83 hf (Zsg (F w h)) hp (P.trans e)
  have lA:=Zwh (n:=n) (fun v j x k=>(Ziv hf hs j x k).1) n.2.1.length 0 (by omega)
  rw [← O] at lA
  have lD:=Zu1 hf (G:=1049602) (by omega) (r.filter (Sk n)) fun w h=>⟨(a5 w h).1,by have:=M w (hO.1 h).1;omega⟩
  rw [← P] at lD
  have b1:(r.filter (Sk n)).length≤12:=aT (List.length_filter_le _ _) hrl
  have I:(Zf (12 * D)).length≤12600000:=by
   have g:=Uu 12 D
   have q:(Zf 12).length≤1:=Vc.2 (by decide)
   have U:(r.filter (Sk n)).length * 1049602≤12 * 1049602:=bD _ b1
   omega
  have a6:(Zf D).length≤12600000:=aT (Y7 (by omega)) I
  -- the document
  obtain ⟨E0,z1,z2,z3⟩:=Z3f (N:=N) hf (hr.mono (by decide)) (by omega) r n.2.1.length 0 N (aD n.2.1.length []) (by omega) (by omega) (aS ..) (fun i o=>by omega) fun i _ o=>by
   rw [Xl (by rw [aS];exact o),eQ]
  have b9:Vg n D 12600000 [] E0:=by
   refine ⟨z2,fun v j=>by rw [z3 v j,aS],fun v j i o=>?_,fun v j y hy=>?_⟩
   ·rw [z3 v j,Xl (by rw [aS];exact o),eQ,Y5,Wj,List.foldl_nil,Xl (by rw [aS];exact o),eQ,Rat.div_def]
    exact (eN _).symm
   ·rw [z3 v j] at hy
    rw [List.eq_of_mem_replicate hy]
    exact W7 (by rw [Znq];omega)
  obtain ⟨E',L',t1,t2,t3,t4⟩:=Zuh (N:=N) hf hs.vl (by omega) hD a6 (hr.mono (by decide)) a3 b5 (S:=315614400) (hr.mono (by decide)) (by decide) W hrl F M hI I r 0 N false E0 [] aM (aQ _) (by omega) b9 (by rw [Yp,Nat.zero_add];exact bD _ hrl)
  have c4:∀ (f i:Nat) (a:ByteArray) (b:List ByteArray) (c:List R3) (d:List R2) (e:List (List QV)),i≤r.length→r.length<f+i→Zdo N n r f a b c d e (i:Int)=Za3 N n r N (aD n.2.1.length []) 0:=by
   intro f
   induction f with
   | zero=>intro i a b c d e g q;omega
   | succ f K=>
    intro i a b c d e g q
    rw [Zdo.eq_2]
    by_cases o:i<r.length
    ·have L:Zfg N (n.1,n.2.1,n.2.2.1,n.2.2.2.1,n.2.2.2.2) r[i]=_:=Zt4 hf.ev hs.vl (F _ (aB o)) (by omega) (by omega)
     have:=M _ (aB o)
     rw [if_pos (dT (by omega)),Zs o,oB,L,oB,if_neg (dF (by omega)),wS (by omega)]
     exact K (i+1) a b c d e (by omega) (by omega)
    ·rw [if_neg (dF (by omega)),Z7 (by simp only [maxLen];omega)]
  have a7:Za2 N n r=(if (false||!r.all (Sk n))=true then some (Sr,52) else Zdp N n E' N [] 0):=by
   rw [Za2,Y,oB,if_neg (by decide)]
   exact (c4 N 0 _ _ _ _ _ (aQ _) (by omega)).trans (z1.trans t1)
  by_cases hne:Wx n r=0
  ·have s:r.all (Sk n)=false:=by
    rw [← Bool.not_eq_true]
    intro h
    exact Zzf r (fun w hw=>of_decide_eq_true (cP.1 h w hw)) hne
   refine ⟨Sr,52,Xca hf (by omega) hC a1 V hQ (show 300≤65536 by decide) hS a2 hw M hrl hne,?_,okZ⟩
   rw [a7,s];rfl
  ·have H:=Zzg hf r F hne
   have s:r.all (Sk n)=true:=cP.2 fun w hw=>decide_eq_true (H w hw)
   have hL:=t4 s
   rw [bF] at hL
   have wt:=t3
   rw [hL] at t2 wt
   have hG:(Zf (Yp (Qf D n r))).length≤12600000:=aT (Y7 wt) I
   have pr:=Xb9 hf hs Z a0 (by omega) hC a1 V hQ (show 300≤65536 by decide) hS a2 hs.vl hw M hrl (G:=12600000) (hr.mono (by decide)) (hr.mono (by decide)) H hne hD I fun w h=>hI w h (H w h)
   have l8:=Z3k (N:=N) hf (by omega) hD a6 (hr.mono (by decide)) tw (fun v j x k=>(a4 v j x k).mono (by decide)) t2 hG N 0 [] (aQ _) (by omega) (by rw [List.take_zero])
   refine ⟨_,0,pr,?_,?_⟩
   ·rw [a7,s];exact l8
   ·have c8:∀ v,v<n.2.1.length→X6 (n.2.2.2.2.getD v [])+1≤12600000:=fun v j=>by
     have g:v<n.2.2.2.2.length:=by rw [hf.ev.t];exact j
     have q:=hs.tq _ (aB g)
     rw [Xl g];omega
    have b3:(Ud n (Qf D n r)).length=n.2.1.length:=by rw [Ud,aH,List.length_range]
    have R:∀ t ∈ Ud n (Qf D n r),t.length≤65536∧∀ x ∈ t,RV 12600000 x:=fun t C=>by
     obtain ⟨v,j,rfl⟩:=List.getElem_of_mem C
     have a8:v<n.2.1.length:=by omega
     have T:=Xcb hf hs hG c8 a8
     rw [Xl j] at T
     have g:=T.len
     obtain ⟨c1,c2,_⟩:=hf.rows a8
     rw [U1] at g
     exact ⟨by omega,fun x k=>(T.ent x k).2.2⟩
    exact ⟨⟨hb.nm,hb.vn,hb.vl,hb.pn,hb.pl,by show (Ud n (Qf D n r)).length≤1048576;omega,fun t C=>by have:=(R t C).1;omega,fun t C x k=>by
     have g:=((R t C).2 x k).lm
     have q:=((R t C).2 x k).ld
     omega⟩,fun t C x k=>⟨((R t C).2 x k).m,((R t C).2 x k).d⟩,hf.ev.v,hf.ev.p,b3⟩
/-! the law -/
theorem Z4k {r:List R2} (hrl:r.length≤1048576) (htl:∀ l ∈ r,l.length≤1048576):Zpd N n r=some true:=by
 have i:1099511627777<N:=by obtain ⟨r1,r2⟩:=hr;omega
 obtain ⟨e,E,F,fine⟩:=Z7c (N:=N) hs (hr.mono (by decide)) (by omega)
 have s:Vx N (n.1,n.2.1,n.2.2.1,n.2.2.2.1,n.2.2.2.2)=some e:=E
 have u:Zdf N (n.1,n.2.1,n.2.2.1,n.2.2.2.1,n.2.2.2.2)=some e:=F
 obtain ⟨R,k⟩:∃ R,R=r.take (min r.length 12):=⟨_,rfl⟩
 have W:Zl6 r=some R:=by
  rw [Zl6]
  have X:(if 12<(r.length:Int) then (12:Int) else (r.length:Int))=((min r.length 12:Nat):Int):=by split <;> omega
  rw [X,Z7 (by omega),aC,k]
 have m:R.length≤12:=by rw [k,nK];omega
 have w:∀ l ∈ R,l.length≤1048576:=fun l G=>htl l (by rw [k] at G;exact List.mem_of_mem_take G)
 obtain ⟨bl,lg⟩:=Z89 hs hb hr F fine
 have H:Zjf N (n.1,n.2.1,n.2.2.1,n.2.2.2.1,n.2.2.2.2)=some bl:=lg
 have Y:Zb4 N (n.1,n.2.1,n.2.2.1,n.2.2.2.1,n.2.2.2.2)=some n:=Z4c hb i
 have I:=Xcr (N:=N) (r:=R) (by omega) w (by omega)
 have J:=Z84 (N:=N) (r:=R) (by omega) w i
 have K:(R.map (Se U0)).map Zdx=R:=Z9l U0 R
 have L:=okZ
 -- both answer alike, unless it is too wide
 have o:∃ b,Zcp N n R=some b∧(b=false→∃ A e,Sg N n R=some (A,e)∧Za2 N n R=some (A,e)∧OkA A):=by
  by_cases he:e=0
  ·have q:=fine he
   subst he
   have a9:=q.le
   have a:Q3 N (n.1,n.2.1,n.2.2.1,n.2.2.2.1,n.2.2.2.2) R=some (if Ul n R=true then 0 else 71):=by
    rw [Q3,u,oB,if_neg (by decide)]
    have:=Z18 (N:=N) (n:=n) (r:=R) q.ev.v hb.vn (by omega) (by omega) N 0 (aQ _) (by omega)
    rw [aM] at this
    exact this
   have M:Qu N (n.1,n.2.1,n.2.2.1,n.2.2.2.1,n.2.2.2.2) R=some (if Ul n R=true then 0 else 71):=by
    rw [Qu,s,oB,if_neg (by decide)]
    exact Zl1 (n:=n) q.ev.v R
   by_cases hw:Ul n R=true
   ·rw [if_pos hw] at a
    obtain ⟨b,C,Z⟩:=Xcw hs hr q m hw a
    exact ⟨b,C,fun h=>Xcc hs hb hr hqt q E m hw a (Z h)⟩
   ·rw [if_neg hw] at a M
    refine ⟨false,by rw [Zcp,a,oB,if_pos (by decide)],fun _=>⟨Sr,71,?_,?_,L⟩⟩
    ·rw [Sg,M,oB,if_pos (by decide)];rfl
    ·rw [Za2,a,oB,if_pos (by decide)];rfl
  ·have d:(!decide (e=0))=true:=by rw [decide_eq_false he];rfl
   have a:Q3 N (n.1,n.2.1,n.2.2.1,n.2.2.2.1,n.2.2.2.2) R=some e:=by
    rw [Q3,u,oB,if_pos d]
   refine ⟨false,by rw [Zcp,a,oB,if_pos d],fun _=>⟨Sr,e,?_,?_,L⟩⟩
   ·rw [Sg,Qu,s,oB,if_pos d,oB,if_pos d];rfl
   ·rw [Za2,a,oB,if_pos d];rfl
 obtain ⟨b,C,o⟩:=o
 have O:Zcp N (n.1,n.2.1,n.2.2.1,n.2.2.2.1,n.2.2.2.2) R=some b:=C
 have y:Zgh N n R true=some true:=by rw [Zgh,if_pos rfl]
 rw [Zpd,W,oB,H,oB]
 cases bl with
 | true=>rw [if_pos rfl];exact y
 | false=>
  rw [if_neg (by decide),O,oB]
  cases b with
  | true=>exact y
  | false=>
   obtain ⟨A,P,a1,a2,c⟩:=o rfl
   have Q:Sg N (n.1,n.2.1,n.2.2.1,n.2.2.2.1,n.2.2.2.2) R=some (A,P):=a1
   have S:Za2 N (n.1,n.2.1,n.2.2.1,n.2.2.2.1,n.2.2.2.2) R=some (A,P):=a2
   have ex:=Z8h c.sm i c.lm hr
   have B:Q2 N (A.1,A.2.1,A.2.2.1,A.2.2.2.1,A.2.2.2.2) (A.1,A.2.1,A.2.2.1,A.2.2.2.1,A.2.2.2.2)=some true:=ex
   have D:∀ t ∈ n.2.2.2.2,∀ x ∈ t,W2 x:=hs.lim
   have en:=Z8g hb i D (hr.mono (by decide))
   have T:Q2 N (n.1,n.2.1,n.2.2.1,n.2.2.2.1,n.2.2.2.2) (n.1,n.2.1,n.2.2.1,n.2.2.2.1,n.2.2.2.2)=some true:=en
   have g:∀ {α:Type} {l:List (List α)} {p:List α→Prop},(∀ x ∈ l,p x)→∀ j,j<l.length→p (l.getD j []):=fun h j f=>by rw [Xl f];exact h _ (aB f)
   have hv:=c.v;have hp:=c.p;have ht:=c.t
   have sp:Zl7 N (A.1,A.2.1,A.2.2.1,A.2.2.2.1,A.2.2.2.2)=some true:=by
    rw [Zl7]
    exact Z24 i c.sm.nm N 0 _ _ _ _ rfl hv hp ht (fun j f=>g c.sm.vl j (by omega)) (fun j f=>g c.sm.pl j (by omega)) (fun j f=>⟨g c.sm.tl j (by omega),fun x U=>by
     have V:j<A.2.2.2.2.length:=by omega
     rw [Xl V] at U
     have:=c.sm.tm _ (aB V) x U
     exact ⟨by omega,by omega⟩⟩) (fun j f=>by omega) (aQ _) (by have:=c.sm.nm;omega)
   rw [Zgh,if_neg (by decide),Y,oB,I,oB,S,oB,K,Q,oB,oB]
   dsimp only
   rw [if_neg (by rw [decide_eq_true rfl];decide),if_neg (by rw [decide_eq_true rfl];decide),B,oB,if_neg (by decide),oB,Zgi,if_neg (by decide)]
   dsimp only
   rw [sp,oB,if_pos rfl,B,oB,if_pos rfl,T,oB,if_pos rfl,J,oB,Zgj]
end
theorem Zai {α:Type} {b:α→Nat} (hb:∀ x,1≤b x):∀ (l:List α),l.length+1≤X1 b l
 | []=>by simp [X1]
 | x :: l=>by
  have h:=Zai hb l
  have:=hb x
  simp only [X1,bJ,eY,nC] at h ⊢
  omega
theorem Zni {α:Type} {b:α→Nat} {x:α}:∀ {l:List α},x ∈ l→b x+1≤X1 b l
 | y :: l,h=>by
  simp only [X1,bJ,eY]
  rcases bL.1 h with rfl | h
  ·omega
  ·have:=Zni (b:=b) h
   simp only [X1] at this
   omega
theorem Zoc {α:Type} {b:α→Nat} (l:List α):1≤X1 b l:=by simp only [X1];omega
theorem Zrt (s:ByteArray):1≤U3 s:=by simp only [U3];omega
theorem Zob {α:Type} (s:α):1≤Ww s:=by simp only [Ww];omega
theorem Z4u {α:Type} {b:α→Nat} (s:α):1≤Tb b s:=by simp only [Tb];omega
abbrev Zcg:QV→Nat:=Tb (Vs (Tb (Vs Ww (X1 Ww))) (X1 Ww))
abbrev qQ:QV→Prop:=S7 (S7 (fun _=>True) (Vi (Za9 .u32))) (Vi (Za9 .u32))
abbrev Zin:Zq→Nat:=Tb (Vs U3 (Vs (X1 U3) (Vs (X1 (X1 U3)) (Vs (X1 (X1 Ww)) (X1 (X1 Zcg))))))
abbrev Zz1:Zq→Prop:=S7 (fun _=>True) (S7 (Vi (fun _=>True)) (S7 (Vi (Vi (fun _=>True))) (S7 (Vi (Vi (Za9 .i64))) (Vi (Vi qQ)))))
theorem Zyg {l:List Int} (h:Vi (Za9 .u32) l):Zp l:=by
 intro d a
 have b:=h d a
 simp [Za9,Lit.wf,IntKind.min,IntKind.max,IntKind.signed,IntKind.bits] at b
 omega
theorem Z9g {x:QV} (h:qQ x):W2 x:=⟨Zyg h.1.2,Zyg h.2⟩
theorem Zu3 (x:QV):x.1.2.length+x.2.length+4≤Zcg x:=by
 have a:=Zai (b:=Ww) Zob x.1.2
 have c:=Zai (b:=Ww) Zob x.2
 simp only [Tb,Vs]
 have d:Ww x.1.1=1:=rfl
 omega
theorem Ztk:∀ t:List QV,X6 t≤X1 Zcg t
 | []=>by rw [X6];omega
 | x :: t=>by
  have a:=Ztk t
  have b:=Zu3 x
  rw [X6]
  simp only [X1,bJ,eY] at a ⊢
  omega
theorem Z32:∀ P:List R2,T5 P+P.length≤X1 (X1 Ww) P
 | []=>by simp [T5,X1]
 | l :: P=>by
  have a:=Z32 P
  have c:=Zai (b:=Ww) Zob l
  rw [Znz,nC]
  simp only [X1,bJ,eY] at a c ⊢
  omega
theorem Z90 {n:Zq} (hb:Zin n≤1048576) (hq:Zz1 n):W8 n 1048576∧Zln n:=by
 have m:=Zrt n.1
 have o:=Zai (b:=U3) Zrt n.2.1
 have p:=Zai (b:=X1 U3) Zoc n.2.2.1
 have q:=Z32 n.2.2.2.1
 have r:=Zai (b:=X1 Zcg) Zoc n.2.2.2.2
 have s:=Zoc (b:=X1 Ww) n.2.2.2.1
 simp only [Zin,Tb,Vs] at hb
 have g:∀ l ∈ n.2.2.1,l.length≤1048576:=fun l d=>by
  have c:=Zni (b:=X1 U3) d
  have i:=Zai (b:=U3) Zrt l
  omega
 have k:∀ l ∈ n.2.2.2.1,l.length≤1048576:=fun l d=>by
  have c:=Zra d
  omega
 have e:∀ t ∈ n.2.2.2.2,X1 Zcg t≤1048576:=fun t a=>by
  have c:=Zni (b:=X1 Zcg) a
  omega
 have j:∀ t ∈ n.2.2.2.2,t.length≤1048576:=fun t a=>by
  have c:=e t a
  have i:=Zai (b:=Zcg) Z4u t
  omega
 refine ⟨⟨by omega,g,⟨by omega,by omega⟩,j,fun t a=>aT (Ztk t) (e t a),fun t a x f=>Z9g (hq.2.2.2.2 t a x f)⟩,⟨by omega,by omega,g,by omega,k,by omega,j,fun t a x f=>?_⟩⟩
 have c:=e t a
 have i:=Zni (b:=Zcg) f
 have u:=Zu3 x
 omega
theorem Zz6:∀ T:List (List QV),(T.map X6).sum≤X1 (X1 Zcg) T
 | []=>by simp [X1]
 | t :: T=>by
  have a:=Zz6 T
  have b:=Ztk t
  simp only [X1,bJ,eY] at a b ⊢
  omega
theorem Z9z {n:Zq} (hb:Zin n≤1048576):(n.2.2.2.2.map X6).sum≤1048576:=by
 have a:=Zz6 n.2.2.2.2
 simp only [Zin,Tb,Vs] at hb
 omega

end Go.Proofs.YthclpfhncgpnmaaGreat
