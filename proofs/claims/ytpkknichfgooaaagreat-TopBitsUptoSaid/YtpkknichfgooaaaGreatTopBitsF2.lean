/-
  What functions of the program compute, as plain Lean functions (m_..), and proofs that they compute it (c_..). Printed by a program of the author; no conditions.
-/
import Derived.Test.YtpkknichfgooaaaGreatTopBitsBFloat
import Derived.Test.YtpkknichfgooaaaGreatProg
import Derived.Test.YtpkknichfgooaaaGreatTopBitsBBrief
import Derived.Test.YtpkknichfgooaaaGreatTopBitsF1
set_option linter.unusedVariables false
set_option maxRecDepth 100000
set_option maxHeartbeats 2000000
namespace Go.Proofs.YtpkknichfgooaaaGreat
open Go Go.RowKit
open List renaming drop_eq_nil_iff→aF,mem_cons_self→aK,mem_cons_of_mem→aE,mem_cons→bK,replicate→aC,length_take_of_le→dY,drop_eq_getElem_cons→aP,drop_eq_nil_of_le→aI,all_cons→dK,getElem_mem→aJ,drop_zero→bF,take_succ_eq_append_getElem→bC,nodup_append→cN,nodup_cons→cQ,mem_singleton→bD,take_of_length_le→bG,any_cons→dL,length→fV,getD_eq_getElem?_getD→aD,getElem?_eq_getElem→aO,mem_range'→jG,range→gQ,mem_map→cD,mem_range→eN,mem_append→aY,mem_append_left→iH,getElem?_set→iV,perm_append_singleton→gR,getElem_take→gG,take_set→jU,count_cons→fD,append_assoc→bB,length_replicate→aT,count_le_length→fM,countP_cons→gK,count_pos_iff→iR,all_eq_true→cW
open Nat renaming lt_of_lt_of_le→aG,gcd→cL,le_trans→aN,mul_ne_zero→cE,mul_le_mul_right→aX,mul_assoc→bJ,mul_succ→kJ,beq→aH,add_zero→bV,zero_le→bL,sub_zero→kK
open Int renaming sub_eq_add_neg→gC,natCast_mul→bH,neg_mul→iL,natAbs_mul→eS,natAbs_natCast→eW,natAbs_add_le→jA,natAbs_neg→jT,mul_assoc→kA,toNat→aA,tdiv→aM,toNat_natCast→aB,le_refl→gJ,tmod→aS,toNat_of_nonneg→bA
open Rat renaming neg_mkRat→iA,mkRat_add_mkRat→fW,sub_eq_add_neg→iU,mkRat_mul_mkRat→eI,mkRat_eq_div→dJ,intCast_mul→hH,inv_eq_of_mul_eq_one→fC
open Go.IntKind (i8 i16 i32 i64 u8 u16 u32 u64)
open Go.Proofs.Tryz

def U2 (N:Nat) (a:R0) (b:R0):Option R0:=
  (Zbk N a.1.2 b.1.2).bind fun d=>(Ut N ((a.1.1,a.1.2),a.2)).bind fun e=>(Ut N ((b.1.1,b.1.2),b.2)).bind fun f=>(Zbk N e f).bind fun g=>(Zcb N (!decide (a.1.1=b.1.1)) d g).bind fun c=>some ((c.1.1,c.1.2),c.2)
theorem Ze1 {N a K L M:Nat} {Z P Q R:Option Addr} {col:Zg} {f:World} {l n r:R0} (z c2:Nat) (d:U2 N l n=some r) (x:Sl rU col f Z a l.1.2) (C:Sl rU col f P K l.2) (y:Sl rU col f Q L n.1.2) (D:Sl rU col f R M n.2):
    Calls prog 66 #[(.agg #[.bool l.1.1,.slice Z l.1.2.length a,.slice P l.2.length K]),(.agg #[.bool n.1.1,.slice Q n.1.2.length L,.slice R n.2.length M])] f (V7 119 z c2 col f r):=by
 refine Yb (m:=25) func66 O O O ?_;rw [U2.eq_1] at d;have c:=St.start col f;refine go ?_;refine Xj (col:=(Zk col)) 1 O fun _ _ f k t=>Xj (col:=f) 2 O fun _ _ g e u=>Xc (col:=g) #[.bool false,(nI),(nI)] 3 zeroValue42 fun _ _ h G g=>go ?_;refine Ym (col:=h) [(0,1),(1,1),(2,0),(3,1),(4,1),(5,0),(6,1),(7,1),(8,1),(9,0),(10,1),(11,1),(12,0),(14,0),(16,0),(13,3),(15,3),(17,3),(18,3),(19,3),(20,2)] (by kernel_rfl) (by kernel_rfl)<|xF ⟨_,_,O⟩ ?_;refine xF (Q5 ⟨_,_,O⟩) ?_;replace t:=(t.gr e).gr G;refine xW (fun _ b=>((((t.atN).part 0 2 _ O)).nth (q:=0) O).gr (b.bl h)) ?_;refine xF ⟨_,_,O⟩ ?_;refine xF (Q5 ⟨_,_,O⟩) ?_;replace u:=u.gr G;refine xW (fun _ b=>((((u.atN).part 0 2 _ O)).nth (q:=0) O).gr (b.bl h)) ?_;refine xu O O (fun _=>Zkf _ _ underlying4 O O) ?_;refine xF ⟨_,_,O⟩ ?_;refine xF (Q5 ⟨_,_,O⟩) ?_;refine xW (fun _ b=>((((t.atN).part 0 2 _ O)).nth (q:=1) O).gr (b.bl h)) ?_;refine xF ⟨_,_,O⟩ ?_;refine xF (Q5 ⟨_,_,O⟩) ?_;refine xW (fun _ b=>((((u.atN).part 0 2 _ O)).nth (q:=1) O).gr (b.bl h)) ?_;refine xv O O (fun _ b=>Zz isAgg42 sizeOf42 (t.gr (b.bl h))) ?_;refine xv O O (fun _ b=>Zz isAgg42 sizeOf42 (u.gr (b.bl h))) ?_;refine xe O O ?_;intro _ a;have b:=a.bl h;obtain ⟨_,i,d⟩:=bZ d;replace x:=x.k0;replace y:=y.k0;replace c:=(((c.grow k).grow e).grow G).grow b;refine Zh (Zky 4 i (x.ks c) (y.ks c)) fun _ _ ⟨X,_,_,e,B,k⟩=>⟨_,e,?_⟩;refine Zj<|Xb X a B<|xe O O ?_;intro _ a;replace g:=(g.gr b).gr B;have b:=a.bl X;obtain ⟨_,h,d⟩:=bZ d;replace c:=(c.grow B).grow b;refine Zh (Sj 5 h (x.ks c) (C.k0.ks c)) fun _ _ ⟨Y,_,_,e,v,F⟩=>⟨_,e,?_⟩;refine Zj<|Xb Y a v<|xe O O ?_;intro _ a;replace k:=(k.gr b).gr v;replace g:=(g.gr b).gr v;have b:=a.bl Y;obtain ⟨_,J,d⟩:=bZ d;replace c:=(c.grow v).grow b
 refine Zh (Sj 6 J (y.ks c) (D.k0.ks c)) fun _ _ ⟨o,_,_,e,p,j⟩=>⟨_,e,?_⟩;refine Zj<|Xb o a p<|xe O O ?_;intro V a;replace k:=(k.gr b).gr p;replace F:=(F.gr b).gr p;replace g:=(g.gr b).gr p;have b:=a.bl o;obtain ⟨_,H,d⟩:=bZ d;refine Zh (Zky 7 H (((F.gr b).toSlF (Ze.int .u32)).froz 6) (((j.gr b).froz 5).toSlF (Ze.int .u32))) fun _ _ ⟨T,_,_,e,i,E⟩=>⟨_,e,?_⟩;replace E:=E.thaw (Zt .u32) i (((Fz.refl (col:=o)).froz 5).froz 6);replace i:=i.thawR (col:=o);generalize Z2 V.heap.size o T=m at *;refine Zj<|Xb m a i<|xe O O ?_;intro W a;replace c:=((c.grow p).grow b).grow i;replace k:=(k.gr b).gr i;replace g:=(g.gr b).gr i;have b:=a.bl m;obtain ⟨_,I,d⟩:=bZ d;refine Zh (Zkw 8 9 I (((k.gr b).toSlF (Ze.int .u32)).froz 7) (((E.gr b).froz 4).toSlF (Ze.int .u32))) fun _ _ ⟨U,_,_,_,_,e,j,q,s⟩=>⟨_,e,?_⟩;replace q:=q.thaw (Zt .u32) j (((Fz.refl (col:=m)).froz 4).froz 7);replace s:=s.thaw (Zt .u32) j (((Fz.refl (col:=m)).froz 4).froz 7);replace j:=j.thawR (col:=m);generalize Z2 W.heap.size m U=w at *;refine Zj<|Xb w a j<|xe O O ?_;intro _ a;replace g:=(g.gr b).gr j;replace c:=(c.grow b).grow j;have b:=a.bl w;refine Zs (g.gr b) fun _ A S ai=>Zj<|xk w<|Yf ?_;replace q:=(q.gr b).kp A;replace s:=(s.gr b).kp A;replace c:=(c.grow b).kp A S;intro _ b;replace b:=b.bl w;refine Y5 ?_;cases d;replace c:=c.grow b;exact ⟨O,_,ra (ai.gr b).atN,_,_,_,_,_,O,c.fin (cm [(8,z),(9,c2)]),c.fo (q.gr b),c.fo (s.gr b)⟩
def Q1 (N:Nat) (a:R3):Option Int:=
  (Zcj N a.2).bind fun b=>if (decide (b=0))=true then (some 0) else (if a.1=true then (some (-1)) else (some 1))
theorem Zhl {N g:Nat} {i:Option Addr} {col:Zg} {d:World} {b:R3} {r:Int} (a:Q1 N b=some r) (f:Sl rU col d i g b.2):
    Calls prog 93 #[(.agg #[.bool b.1,.slice i b.2.length g])] d (W8 d r):=by
 refine Xk 2 (m:=11) func93 O O O O O ?_;rw [Q1.eq_1] at a;have c:=St.start col d;refine go ?_;refine Xj (col:=(Zk col)) 1 O fun _ _ n m k=>go ?_;refine Xp k ?_;obtain ⟨_,l,a⟩:=bZ a;replace c:=c.grow m;refine Zh (Zqw l (f.k0.ks c)) fun _ _ ⟨j,h⟩=>⟨_,j,?_⟩;replace h:=Ru n h;refine go ?_;replace c:=c.grow h;refine Zp a (fun e a=>go ?_) fun e a=>go ?_
 ·cases a;exact ⟨O,O,c.below⟩
 refine Xp (k.gr h) ?_;refine go ?_;refine Zp a (fun e a=>go ?_) fun e a=>go ?_
 ·cases a;exact ⟨O,O,c.below⟩
 cases a;exact ⟨O,O,c.below⟩
def Zmr (N:Nat) (a:R3) (b:R3):Option Int:=
  (Q1 N (a.1,a.2)).bind fun c=>(Q1 N (b.1,b.2)).bind fun d=>if (decide (c<d))=true then (some (-1)) else (if (decide (d<c))=true then (some 1) else ((Zfz N a.2 b.2).bind fun e=>some (i64.wrap (c * e))))
theorem Z5k {N n o:Nat} {p q:Option Addr} {col:Zg} {d:World} {f g:R3} {r:Int} (a:Zmr N f g=some r) (i:Sl rU col d p n f.2) (j:Sl rU col d q o g.2):
    Calls prog 94 #[(.agg #[.bool f.1,.slice p f.2.length n]),(.agg #[.bool g.1,.slice q g.2.length o])] d (W8 d r):=by
 refine Xk 4 (m:=26) func94 O O O O O ?_;rw [Zmr.eq_1] at a;have c:=St.start col d;refine go ?_;refine Xj (col:=(Zk col)) 1 O fun _ _ v B l=>Xj (col:=v) 2 O fun _ _ e t u=>go ?_;refine Vp (col:=e) (by kernel_rfl) (by kernel_rfl) ?_;replace l:=l.gr t;refine qv O (fun _ b=>Zz isAgg40 sizeOf40 (l.gr (b.bl e))) ?_;obtain ⟨y,A,a⟩:=bZ a;replace i:=i.k0;replace c:=(c.grow B).grow t;refine qc (v:=(.int .i64 y)) O (fun _ b=>⟨_,_,Zg0 call93 O,(Zhl A ((i.ks c).gr (b.bl e)):).mono fun _ _ k=>⟨k.1,b.trans (.of_below k.2)⟩⟩) ?_;refine qv O (fun _ b=>Zz isAgg40 sizeOf40 (u.gr (b.bl e))) ?_;obtain ⟨x,z,a⟩:=bZ a;replace j:=j.k0;refine qc (v:=(.int .i64 x)) O (fun _ b=>⟨_,_,Zg0 call93 O,(Zhl z ((j.ks c).gr (b.bl e)):).mono fun _ _ k=>⟨k.1,b.trans (.of_below k.2)⟩⟩) ?_;refine go ?_;refine Wj ?_;intro _ b;replace b:=b.bl e;refine go ?_;replace c:=c.grow b;refine Zp a (fun h a=>go ?_) fun h a=>go ?_
 ·cases a;exact ⟨O,O,c.below⟩
 refine Zp a (fun h a=>go ?_) fun h a=>go ?_
 ·cases a;exact ⟨O,O,c.below⟩
 refine Xp (l.gr b)<|Xp (u.gr b) ?_;obtain ⟨_,w,a⟩:=bZ a;refine Zh (Zqx w (i.ks c) (j.ks c)) fun _ _ ⟨s,m⟩=>⟨_,s,?_⟩;replace m:=Ru e m;refine go ?_;cases a;exact ⟨O,O,(c.grow m).below⟩
def U1 (N:Nat) (a:R0) (b:R0):Option Int:=
  (Ut N ((b.1.1,b.1.2),b.2)).bind fun e=>(Zbi N (a.1.1,a.1.2) e).bind fun c=>(Ut N ((a.1.1,a.1.2),a.2)).bind fun f=>(Zbi N (b.1.1,b.1.2) f).bind fun d=>(Zmr N (c.1,c.2) (d.1,d.2)).bind fun g=>some g
theorem Zdb {N u F w G:Nat} {x E y H:Option Addr} {col:Zg} {h:World} {d f:R0} {r:Int} (c:U1 N d f=some r) (p:Sl rU col h x u d.1.2) (Y:Sl rU col h E F d.2) (q:Sl rU col h y w f.1.2) (B:Sl rU col h H G f.2):
    Calls prog 46 #[(.agg #[.bool d.1.1,.slice x d.1.2.length u,.slice E d.2.length F]),(.agg #[.bool f.1.1,.slice y f.1.2.length w,.slice H f.2.length G])] h (W8 h r):=by
 refine Xk 4 (m:=16) func46 O O O O O ?_;rw [U1.eq_1] at c;have e:=St.start col h;refine go ?_;refine Xj (col:=(Zk col)) 1 O fun _ _ K X t=>Xj (col:=K) 2 O fun _ _ k J I=>go ?_;refine Ym (col:=k) [(0,1),(1,0),(2,0),(5,1),(6,0),(7,0),(3,3),(4,3),(8,3),(9,3),(10,3),(11,1)] (by kernel_rfl) (by kernel_rfl)<|xF ⟨_,_,O⟩ ?_;replace t:=t.gr J;refine xv (v:=(.agg #[.bool d.1.1,.slice x d.1.2.length u])) O O (fun _ b=>Xi isAgg40 sizeOf40 O O (((t.atN).part 0 2 _ O).gr (b.bl k))) ?_;refine xv O O (fun _ b=>Zz isAgg42 sizeOf42 (I.gr (b.bl k))) ?_;refine xF ⟨_,_,O⟩ ?_;refine xv (v:=(.agg #[.bool f.1.1,.slice y f.1.2.length w])) O O (fun _ b=>Xi isAgg40 sizeOf40 O O (((I.atN).part 0 2 _ O).gr (b.bl k))) ?_;refine xv O O (fun _ b=>Zz isAgg42 sizeOf42 (t.gr (b.bl k))) ?_;refine xe O O ?_;intro _ a;have b:=a.bl k;obtain ⟨_,R,c⟩:=bZ c;replace q:=q.k0;replace e:=((e.grow X).grow J).grow b;refine Zh (Sj 3 R (q.ks e) (B.k0.ks e)) fun _ _ ⟨m,_,_,g,D,U⟩=>⟨_,g,?_⟩;refine Zj<|Xb m a D<|xe O O ?_;intro V a;have b:=a.bl m;obtain ⟨_,P,c⟩:=bZ c;replace p:=p.k0;replace e:=(e.grow D).grow b;refine Zh (Zhk 4 P ((p.ks e).froz 3) ((U.gr b).toSlF (Ze.int .u32))) fun _ _ ⟨S,_,_,g,l,i⟩=>⟨_,g,?_⟩;replace i:=i.thaw (Zt .u32) l ((Fz.refl (col:=m)).froz 3);replace l:=l.thawR (col:=m);generalize Z2 V.heap.size m S=C at *;refine Zj<|Xb C a l<|xe O O ?_;intro _ a;have b:=a.bl C;obtain ⟨_,M,c⟩:=bZ c;replace e:=(e.grow l).grow b;refine Zh (Sj 5 M (p.ks e) (Y.k0.ks e)) fun _ _ ⟨n,_,_,g,v,z⟩=>⟨_,g,?_⟩;refine Zj<|Xb n a v<|xe O O ?_;intro W a;replace i:=(i.gr b).gr v;have b:=a.bl n;obtain ⟨_,Q,c⟩:=bZ c;replace e:=(e.grow v).grow b;replace z:=z.gr b
 refine Zh (Zhk 6 Q ((q.ks e).froz 5) (z.toSlF (Ze.int .u32))) fun _ _ ⟨T,_,_,g,j,A⟩=>⟨_,g,?_⟩;replace A:=A.thaw (Zt .u32) j ((Fz.refl (col:=n)).froz 5);replace j:=j.thawR (col:=n);generalize Z2 W.heap.size n T=o at *;refine Zj<|Xb o a j<|xe O O ?_;intro _ a;replace i:=(i.gr b).gr j;have b:=a.bl o;obtain ⟨_,L,c⟩:=bZ c;refine Zh (Z5k L (((i.gr b).toSlF (Ze.int .u32)).froz 6) (((A.gr b).froz 4).toSlF (Ze.int .u32))) fun _ _ ⟨g,s⟩=>⟨_,g,?_⟩;replace s:=Ru o s;refine Zj<|Xb o a s<|xu O O (fun _=>Zgz O) ?_;refine Yf ?_;replace e:=((e.grow j).grow b).grow s;intro _ b;refine Y5 ?_;cases c;exact ⟨O,O,(e.grow (b.bl o)).below⟩
def Zdx (N:Nat):List R0→Bool→R2→R2→Option R0
  | [],a,b,c=>some ((a,b),c)
  | d :: f,a,b,c=>(Uk N ((a,b),c) ((d.1.1,d.1.2),d.2)).bind fun e=>(Zdx N f) e.1.1 e.1.2 e.2
def Zam (N:Nat) (a:R6):Option R0:=
  (Zck N 1).bind fun b=>Zdx N a false ([]:List Int) b
theorem Zhj {N Q:Nat} {u:Option Addr} {col:Zg} {f:World} {i:R6} {r:R0} (C c2:Nat) (a:Zam N i=some r) (g:Sl rQ col f u Q i):
    Calls prog 79 #[.slice u i.length Q] f (V7 119 C c2 col f r):=by
 refine Yb (m:=19) func79 O O O ?_;rw [Zam.eq_1] at a;have b:=St.start col f;refine go ?_;refine Xc (col:=(Zk col)) #[.bool false,(nI),(nI)] 1 zeroValue42 fun a2 _ F Z d=>go ?_;obtain ⟨I,x,a⟩:=bZ a;refine Zh (Zkz (col:=F) 2 x) fun _ _ ⟨J,G,H,q,w,a3⟩=>⟨_,q,?_⟩;refine lV (.agg #[.bool false,(nI),.slice G I.length H]) (Yc (l:=[_,_]) (qs:=[(0,2),(2,1)]) underlying42 zeroValue42 ⟨O,sizeOf40,O,sizeOf38,trivial⟩ O)<|Xc (col:=J) #[.bool false,(nI),(nI)] 3 zeroValue42 ?_;intro u _ _ P R;refine Zs R fun _ M h n=>go ?_;replace b:=(((b.grow Z).grow w).grow P).kp M h;replace d:=((d.gr w).gr P).kp M;refine Z0 [2,3,8,9,1000000] (fun E R o=>∃ m t F G H w I J x s,E=s.length∧i.drop t=s∧Zdx N s F w x=some r∧St f (Zk col) m o∧Zi 42 1 m o a2 #[.bool false,(nI),(nI)]∧Zb rU 119 4 m o G H w∧Zb rU 119 2 m o I J x∧Zi 42 3 m o u #[.bool F,.slice G w.length H,.slice I x.length J]∧[10].map R=[.int .i64 t]) i.length ⟨_,0,_,none,0,_,_,_,_,_,O,O,a,b,d,Zb.nil,(a3.gr P).kp M,n,O⟩ ?_;clear a;intro E R o Z;obtain ⟨m,t,F,G,H,w,I,J,x,s,U,y,a,b,d,A,B,n,V⟩:=Z;subst U;refine .lL [10] V ?_;replace g:=g.k0
 cases s with
 | nil=>
  have p:¬ ((t:Int)<(i.length:Int)):=by have:=aF.1 y;omega
  have c:=decide_eq_false p;rw [Zdx.eq_1] at a;refine go ?_;refine Yd (congrArg Value.bool c)<|go ?_;refine lV _ (Zz isAgg42 sizeOf42 n)<|Zs d ?_;intro _ D j z;refine go ?_;cases a;replace A:=A.kp D;replace B:=B.kp D;replace b:=b.kp D j;exact ⟨O,_,ra z.atN,_,_,_,_,_,O,b.fin (cm [(4,C),(2,c2)]),b.fo A,b.fo B⟩
 | cons K af=>
  obtain ⟨E,ag,ah⟩:=Yo y;have p:(t:Int)<(i.length:Int):=by omega
  have c:=decide_eq_true p;rw [Zdx.eq_2] at a;refine go ?_;refine Ye (congrArg Value.bool c)<|go ?_;refine lI E ((g.ks b).addr E) ?_;obtain ⟨_,Y,W⟩:=(g.ks b).atN E;obtain ⟨_,_,rfl,X,S⟩:=Yw Y;obtain ⟨_,_,rfl,T,e⟩:=Yw X;obtain ⟨rfl,_⟩:=T;obtain ⟨⟨l,L,rfl,a4⟩,_⟩:=e;obtain ⟨⟨k,v,rfl,a5⟩,_⟩:=S;refine lV (.agg #[.bool K.1.1,.slice l K.1.2.length L,.slice k K.2.length v]) (Xi isAgg42 sizeOf42 O O W)<|Xc (col:=m) #[.bool false,(nI),(nI)] 5 zeroValue42 ?_;intro _ _ z l S;refine Zs S fun o k p c=>go ?_;replace n:=(n.gr l).kp k;refine lV _ (Zz isAgg42 sizeOf42 n)<|lV _ (Zz isAgg42 sizeOf42 c) ?_;obtain ⟨_,W,a⟩:=bZ a;refine Zh (Zb3 6 7 W ((((A.gr l).kp k).toSlF (Ze.int .u32)).froz 2) ((((B.gr l).kp k).froz 4).toSlF (Ze.int .u32)) ((((a4.gr l).kp k).froz 4).froz 2) ((((a5.gr l).kp k).froz 4).froz 2)) fun _ _ ⟨f,_,_,_,_,q,h,j,e⟩=>⟨_,q,?_⟩;replace j:=j.thaw (Zt .u32) h (((Fz.refl (col:=z)).froz 4).froz 2);replace e:=e.thaw (Zt .u32) h (((Fz.refl (col:=z)).froz 4).froz 2);replace h:=h.thawR (col:=z);generalize Z2 o.heap.size z f=q at *;refine Zs (n.gr h) fun _ v m L=>go ?_;replace j:=j.kp v;replace j:=j.recolSelf 4 (by decide);replace e:=e.kp v;replace e:=e.recol 6 4;replace d:=(((d.gr l).kp k).gr h).kp v;replace d:=d.recol 6 4;replace L:=L.recol 6 4;replace b:=(((b.grow l).kp k p).grow h).kp v m;replace b:=b.recol 6 4 (by decide) (by decide);replace e:=e.recolSelf 2 (by decide);replace b:=b.recol 7 2 (by decide) (by decide);exact ⟨af.length,by simp,O,⟨_,_,_,_,_,_,_,_,_,_,O,ag,a,b,d.recol 7 2,j.recol 7 2,e,L.recol 7 2,(Yv (congrArg (Value.int .i64) (Yp (aG ah (g.ks b).1.1))) O)⟩⟩
def Zet (N:Nat) (a:Int):Option R3:=
  if (decide (a<0))=true then ((Zck N (u64.wrap (-(u64.wrap a)))).bind fun d=>(Sr N true d).bind fun b=>some (b.1,b.2)) else ((Zck N (u64.wrap a)).bind fun e=>(Sr N false e).bind fun c=>some (c.1,c.2))
theorem Zq8 {N:Nat} {col:Zg} {d:World} {k:Int} {r:R3} (e:Nat) (a:Zet N k=some r):
    Calls prog 155 #[.int .i64 k] d (Tt 119 e col d r):=by
 refine Yb (m:=14) func155 O O O ?_;rw [Zet.eq_1] at a;have c:=St.start col d;refine go ?_;refine Xc (col:=(Zk col)) #[.bool false,(nI)] 1 zeroValue40 fun _ _ t u h=>go ?_;replace c:=c.grow u;refine Zp a (fun n a=>go ?_) fun n a=>go ?_
 ·obtain ⟨_,x,a⟩:=bZ a;refine Zh (Zkz (col:=t) 2 x) fun _ H ⟨i,_,_,b,s,B⟩=>⟨_,b,?_⟩;obtain ⟨_,v,a⟩:=bZ a;refine Zh (Za3 3 v (B.toSlF (Ze.int .u32))) fun _ _ ⟨F,_,_,b,g,m⟩=>⟨_,b,?_⟩;replace m:=m.thaw (Zt .u32) g ((Fz.refl (col:=i)).froz 2);replace g:=g.thawR (col:=i);generalize Z2 H.heap.size i F=K at *;replace h:=(h.gr s).gr g;refine Zs h fun _ o z D=>go ?_;cases a;replace c:=((c.grow s).grow g).kp o z;exact ⟨O,_,ra D.atN,_,_,_,O,c.fin (cm [(3,e)]),c.fo (m.kp o)⟩
 obtain ⟨_,y,a⟩:=bZ a;refine Zh (Zkz (col:=t) 4 y) fun _ I ⟨j,_,_,b,q,C⟩=>⟨_,b,?_⟩;obtain ⟨_,w,a⟩:=bZ a;refine Zh (Za3 5 w (C.toSlF (Ze.int .u32))) fun _ _ ⟨G,_,_,b,f,l⟩=>⟨_,b,?_⟩;replace l:=l.thaw (Zt .u32) f ((Fz.refl (col:=j)).froz 4);replace f:=f.thawR (col:=j);generalize Z2 I.heap.size j G=J at *;refine Zs ((h.gr q).gr f) fun _ p A E=>go ?_;cases a;replace c:=((c.grow q).grow f).kp p A;exact ⟨O,_,ra E.atN,_,_,_,O,c.fin (cm [(5,e)]),c.fo (l.kp p)⟩
def Zlq (N:Nat) (c:R3) (a:R3):Option (R0×Int):=
  (Q1 N (a.1,a.2)).bind fun d=>if (decide (d=0))=true then (some (((false,([]:List Int)),([]:List Int)),11)) else ((Zcb N (!decide (c.1=a.1)) c.2 a.2).bind fun b=>some (((b.1.1,b.1.2),b.2),0))
theorem Z31 {N s t:Nat} {u v:Option Addr} {col:Zg} {c:World} {f g:R3} {r:(R0×Int)} (m c2:Nat) (a:Zlq N f g=some r) (k:Sl rU col c u s f.2) (i:Sl rU col c v t g.2):
    Calls prog 154 #[(.agg #[.bool f.1,.slice u f.2.length s]),(.agg #[.bool g.1,.slice v g.2.length t])] c (Zkb 119 m c2 col c r):=by
 refine Yb (m:=20) func154 O O O ?_;rw [Zlq.eq_1] at a;have b:=St.start col c;refine go ?_;refine Xj (col:=(Zk col)) 1 O fun _ _ x J j=>Xj (col:=x) 2 O fun _ _ y w d=>Xc (col:=y) #[.bool false,(nI),(nI)] 3 zeroValue42 fun _ _ I o l=>go ?_;replace d:=d.gr o;refine lV _ (Zz isAgg40 sizeOf40 d) ?_;obtain ⟨_,F,a⟩:=bZ a;replace i:=i.k0;replace b:=((b.grow J).grow w).grow o;refine Zh (Zhl F (i.ks b)) fun _ _ ⟨h,e⟩=>⟨_,h,?_⟩;replace e:=Ru I e;refine go ?_;replace j:=((j.gr w).gr o).gr e;replace d:=d.gr e;replace l:=l.gr e;replace b:=b.grow e;refine Zp a (fun p a=>go ?_) fun p a=>go ?_
 ·refine lV (.agg #[.bool false,(nI),(nI)]) (Yc (l:=[_,_]) (qs:=[(0,2),(2,1)]) underlying42 zeroValue42 ⟨O,sizeOf40,O,sizeOf38,trivial⟩ O)<|Zs l ?_;intro _ A B D;refine go ?_;cases a;replace b:=b.kp A B;exact ⟨O,_,Tw D.atN,_,none,0,none,0,O,b.fin (cm []),Zb.nil,Zb.nil⟩
 refine Xp j<|Xp d ?_;refine go ?_;refine Xp j<|Xp d ?_;obtain ⟨_,z,a⟩:=bZ a;refine Zh (Zkw 4 5 z (k.k0.ks b) (i.ks b)) fun _ _ ⟨_,_,_,_,_,h,q,G,H⟩=>⟨_,h,?_⟩;refine Zs (l.gr q) fun _ n C E=>go ?_;cases a;replace b:=(b.grow q).kp n C;exact ⟨O,_,Tw E.atN,_,_,_,_,_,O,b.fin (cm [(4,m),(5,c2)]),b.fo (G.kp n),b.fo (H.kp n)⟩
def Zlr (N:Nat) (d e:Int):Option (R0×Int):=
  (Zet N d).bind fun b=>(Zet N e).bind fun c=>(Zlq N (b.1,b.2) (c.1,c.2)).bind fun a=>some (((a.1.1.1,a.1.1.2),a.1.2),a.2)
theorem Z32 {N:Nat} {col:Zg} {d:World} {n o:Int} {r:(R0×Int)} (h c2:Nat) (a:Zlr N n o=some r):
    Calls prog 116 #[.int .i64 n,.int .i64 o] d (Zkb 119 h c2 col d r):=by
 refine Yb (m:=13) func116 O O O ?_;rw [Zlr.eq_1] at a;have e:=St.start col d;refine go ?_;refine Xc (col:=(Zk col)) #[.bool false,(nI),(nI)] 1 zeroValue42 fun _ _ t G F=>go ?_;obtain ⟨_,q,a⟩:=bZ a;refine Zh (Zq8 (col:=t) 2 q) fun _ _ ⟨v,_,_,b,m,y⟩=>⟨_,b,?_⟩;refine Xy O ?_;obtain ⟨_,s,a⟩:=bZ a;refine Zh (Zq8 (col:=v) 3 s) fun _ E ⟨f,_,_,b,l,x⟩=>⟨_,b,?_⟩;obtain ⟨g,p,a⟩:=bZ a;refine Zh (Z31 4 5 p (((y.gr l).toSlF (Ze.int .u32)).froz 3) ((x.froz 2).toSlF (Ze.int .u32))) fun _ _ ⟨z,A,B,C,D,b,c,j,k⟩=>⟨_,b,?_⟩;replace j:=j.thaw (Zt .u32) c (((Fz.refl (col:=f)).froz 2).froz 3);replace k:=k.thaw (Zt .u32) c (((Fz.refl (col:=f)).froz 2).froz 3);replace c:=c.thawR (col:=f);generalize Z2 E.heap.size f z=H at *;refine lV (.agg #[.bool g.1.1.1,.slice A g.1.1.2.length B,.slice C g.1.2.length D]) (Xl O O)<|lV (.int .i64 g.2) (Xl O O) ?_;refine Zs (((F.gr m).gr l).gr c) fun _ i u w=>go ?_;cases a;replace e:=((((e.grow G).grow m).grow l).grow c).kp i u;exact ⟨O,_,Tw w.atN,_,_,_,_,_,O,e.fin (cm [(4,h),(5,c2)]),e.fo (j.kp i),e.fo (k.kp i)⟩
def Zbh (N:Nat) (a:R0):Option Int:=
  (Q1 N (a.1.1,a.1.2)).bind fun b=>some b
theorem Zqu {N c i:Nat} {d j:Option Addr} {col:Zg} {b:World} {a:R0} {r:Int} (e:Zbh N a=some r) (f:Sl rU col b d c a.1.2) (s:Sl rU col b j i a.2):
    Calls prog 45 #[(.agg #[.bool a.1.1,.slice d a.1.2.length c,.slice j a.2.length i])] b (W8 b r):=by
 refine Xk 2 (m:=6) func45 O O O O O ?_;rw [Zbh.eq_1] at e;have g:=St.start col b;refine go ?_;refine Xj (col:=(Zk col)) 1 O fun _ _ o n m=>go ?_;refine Xt ⟨_,_,O⟩ ?_;refine lV (.agg #[.bool a.1.1,.slice d a.1.2.length c]) (Xi isAgg40 sizeOf40 O O ((m.atN).part 0 2 _ O)) ?_;obtain ⟨_,l,e⟩:=bZ e;replace g:=g.grow n;refine Zh (Zhl l (f.k0.ks g)) fun _ _ ⟨k,h⟩=>⟨_,k,?_⟩;replace h:=Ru o h;refine go ?_;cases e;exact ⟨O,O,(g.grow h).below⟩
def Zin (N:Nat) (a:R0):Option R0:=
  (Ut N ((a.1.1,a.1.2),a.2)).bind fun c=>(Zcb N (!a.1.1) a.1.2 c).bind fun b=>some ((b.1.1,b.1.2),b.2)
theorem Z30 {N w x:Nat} {y v:Option Addr} {col:Zg} {e:World} {i r:R0} (s c2:Nat) (d:Zin N i=some r) (n:Sl rU col e y w i.1.2) (p:Sl rU col e v x i.2):
    Calls prog 101 #[(.agg #[.bool i.1.1,.slice y i.1.2.length w,.slice v i.2.length x])] e (V7 119 s c2 col e r):=by
 refine Yb (m:=13) func101 O O O ?_;rw [Zin.eq_1] at d;have c:=St.start col e;refine go ?_;refine Xj (col:=(Zk col)) 1 O fun _ _ A I j=>Xc (col:=A) #[.bool false,(nI),(nI)] 2 zeroValue42 fun _ _ k z o=>go ?_;refine Ym (col:=k) [(0,1),(1,1),(2,0),(3,1),(4,1),(5,1),(6,0),(7,0),(8,3),(9,3),(10,2)] (by kernel_rfl) (by kernel_rfl)<|xF ⟨_,_,O⟩ ?_;refine xF (Q5 ⟨_,_,O⟩) ?_;replace j:=j.gr z;refine xW (fun _ b=>((((j.atN).part 0 2 _ O)).nth (q:=0) O).gr (b.bl k)) ?_;refine xu O O (fun _=>Zg2 _ O) ?_;refine xF ⟨_,_,O⟩ ?_;refine xF (Q5 ⟨_,_,O⟩) ?_;refine xW (fun _ b=>((((j.atN).part 0 2 _ O)).nth (q:=1) O).gr (b.bl k)) ?_;refine xv O O (fun _ b=>Zz isAgg42 sizeOf42 (j.gr (b.bl k))) ?_;refine xe O O ?_;intro _ a;have b:=a.bl k;obtain ⟨_,D,d⟩:=bZ d;replace n:=n.k0;replace c:=((c.grow I).grow z).grow b;refine Zh (Sj 3 D (n.ks c) (p.k0.ks c)) fun _ _ ⟨g,_,_,h,u,F⟩=>⟨_,h,?_⟩;refine Zj<|Xb g a u<|xe O O ?_;intro H a;replace o:=(o.gr b).gr u;have b:=a.bl g;obtain ⟨_,C,d⟩:=bZ d;replace c:=(c.grow u).grow b;refine Zh (Zkw 4 5 C ((n.ks c).froz 3) ((F.gr b).toSlF (Ze.int .u32))) fun _ _ ⟨G,_,_,_,_,h,f,l,m⟩=>⟨_,h,?_⟩;replace l:=l.thaw (Zt .u32) f ((Fz.refl (col:=g)).froz 3);replace m:=m.thaw (Zt .u32) f ((Fz.refl (col:=g)).froz 3);replace f:=f.thawR (col:=g);generalize Z2 H.heap.size g G=q at *;refine Zj<|Xb q a f<|xe O O ?_;intro _ a;replace o:=(o.gr b).gr f;have b:=a.bl q;refine Zs (o.gr b) fun _ t B E=>Zj<|xk q<|Yf ?_;replace c:=((c.grow f).grow b).kp t B;replace l:=(l.gr b).kp t;replace m:=(m.gr b).kp t;intro _ b;replace b:=b.bl q;refine Y5 ?_;cases d;replace c:=c.grow b;exact ⟨O,_,ra (E.gr b).atN,_,_,_,_,_,O,c.fin (cm [(4,s),(5,c2)]),c.fo (l.gr b),c.fo (m.gr b)⟩
def Zj5 (N:Nat) (a:R3):Option R3:=
  (Sr N (!a.1) a.2).bind fun b=>some (b.1,b.2)
theorem Z5n {N i:Nat} {j:Option Addr} {col:Zg} {a:World} {b r:R3} (g:Nat) (c:Zj5 N b=some r) (d:Sl rU col a j i b.2):
    Calls prog 99 #[(.agg #[.bool b.1,.slice j b.2.length i])] a (Tt 119 g col a r):=by
 refine Yb (m:=9) func99 O O O ?_;rw [Zj5.eq_1] at c;have e:=St.start col a;refine go ?_;refine Xj (col:=(Zk col)) 1 O fun _ _ n t f=>Xc (col:=n) #[.bool false,(nI)] 2 zeroValue40 fun _ _ _ m u=>go ?_;refine Xt ⟨_,_,O⟩ ?_;replace f:=f.gr m;refine lW ((f.atN).nth (q:=0) O)<|go ?_;refine Xp f ?_;obtain ⟨_,p,c⟩:=bZ c;replace e:=(e.grow t).grow m;refine Zh (Za3 3 p (d.k0.ks e)) fun _ _ ⟨_,_,_,h,k,s⟩=>⟨_,h,?_⟩;refine Zs (u.gr k) fun _ l o q=>go ?_;cases c;replace e:=(e.grow k).kp l o;exact ⟨O,_,ra q.atN,_,_,_,O,e.fin (cm [(3,g)]),e.fo (s.kp l)⟩
theorem Zb0 {N k:Nat} {neg:Bool} {m:List Int} (hm:Zo m) (hk:m.length≤k) (hr:Z8 N k):Sr N neg m=some (Xa (Zr (neg,m))):=by
 obtain ⟨a,b⟩:=hr
 rw [Sr,Zsq hm (by omega) (by omega),oB,Zmx]
 have e:decide (0<((Zf (Za m)).length:Int))=decide (Za m≠0):=by
  by_cases h:Za m=0
  ·rw [h,Vo];decide
  ·have:=S4 h
   rw [decide_eq_true (by omega),decide_eq_true h]
 cases neg
 ·rw [if_neg (by decide),Zj7,Bool.false_and]
 ·rw [if_pos rfl,Zj7,e,Bool.true_and]
theorem Xbc {N k:Nat} {a:ZV} (hm:Zo a.2) (hk:a.2.length≤k) (hr:Z8 N k):Zmu N a=some (Xa (Zr a)):=by
 rw [Zmu,Zb0 hm hk hr];rfl
theorem Zkl {N k:Nat} {a:ZV} (hm:Zo a.2) (hk:a.2.length≤k) (hr:Z8 N k):Q1 N a=some (Zr a).sign:=by
 obtain ⟨b,c⟩:=hr
 rw [Q1,Zqq hm (by omega) (by omega),oB,Zr]
 by_cases h:Za a.2=0
 ·rw [h,Zhe,if_pos (by decide)];simp
 ·have d:Xf (Za a.2)≠0:=by rw [Xf,if_neg h];omega
  rw [if_neg (dF (by omega))]
  by_cases h2:a.1=true
  ·rw [if_pos h2,if_pos h2,Int.sign_eq_neg_one_of_neg (by omega)]
  ·rw [if_neg h2,if_neg h2,Int.sign_eq_one_of_pos (by omega)]
theorem Zkn {a b:ZV}:(a.1=b.1→Zr (a.1,Zf (Za a.2+Za b.2))=Zr a+Zr b)∧(a.1≠b.1→(Za b.2≤Za a.2→Zr (a.1,Zf (Za a.2 - Za b.2))=Zr a+Zr b)∧(Za a.2<Za b.2→Zr (b.1,Zf (Za b.2 - Za a.2))=Zr a+Zr b)):=by
 obtain ⟨s,x⟩:=a
 obtain ⟨t,y⟩:=b
 simp only [Zr,Z6]
 cases s <;> cases t <;> simp <;> (try constructor) <;> intros <;> omega
theorem Zt5 {N k l:Nat} {a b:ZV} (ha:Zo a.2) (hb:Zo b.2) (hk:a.2.length≤k) (hl:b.2.length≤l) (hr:Z8 N (k+l+1)):Zes N a b=some (Xa (Zr a+Zr b)):=by
 have d:=hr
 obtain ⟨g,i⟩:=d
 have j:=Yk ha
 have m:=Yk hb
 have c:(Zf (Za a.2+Za b.2)).length≤k+l+1:=Zhv (by omega) (by omega)
 have e:(Zf (Za a.2 - Za b.2)).length≤k+l+1:=by have:=Ws (Nat.sub_le (Za a.2) (Za b.2));omega
 have f:(Zf (Za b.2 - Za a.2)).length≤k+l+1:=by have:=Ws (Nat.sub_le (Za b.2) (Za a.2));omega
 rw [Zes]
 by_cases h:a.1=b.1
 ·rw [if_pos (dT h),Z2r ha hb (by omega) (by omega) (by omega) (by omega),oB,Zb0 (Z9 _) c hr,oB,Zkn.1 h]
 ·rw [if_neg (dF h),Z1w ha hb (by omega) (by omega) (by omega) (by omega),oB]
  by_cases hlt:Za a.2<Za b.2
  ·rw [if_pos hlt,if_neg (by decide),Z1w hb ha (by omega) (by omega) (by omega) (by omega),oB,if_neg (by omega),Zb0 (Z9 _) f hr,oB,(Zkn.2 h).2 hlt]
  ·rw [if_neg hlt,if_pos rfl,Zb0 (Z9 _) e hr,oB,(Zkn.2 h).1 (by omega)]
theorem Zqj (b:ZV):Zr (!b.1,b.2)= -Zr b:=by
 obtain ⟨s,x⟩:=b
 cases s <;> simp [Zr]
theorem Z2n {N k l:Nat} {a b:ZV} (ha:Zo a.2) (hb:Zo b.2) (hk:a.2.length≤k) (hl:b.2.length≤l) (hr:Z8 N (k+l+1)):Zgu N a b=some (Xa (Zr a - Zr b)):=by
 rw [Zgu,Zt5 (a:=(a.1,a.2)) (b:=(!b.1,b.2)) ha hb hk hl hr,oB,Zqj,gC]
theorem Xbb {N k:Nat} {a:ZV} (hm:Zo a.2) (hk:a.2.length≤k) (hr:Z8 N k):Zj5 N a=some (Xa (-Zr a)):=by
 rw [Zj5,Zb0 hm hk hr,oB,Zqj]
theorem Zub (a b:ZV):Zr (!decide (a.1=b.1),Zf (Za a.2 * Za b.2))=Zr a * Zr b:=by
 obtain ⟨s,x⟩:=a
 obtain ⟨t,y⟩:=b
 simp only [Zr,Z6]
 cases s <;> cases t <;> simp [bH,iL,Int.mul_neg]
theorem Xba {N k l:Nat} {a b:ZV} (ha:Zo a.2) (hb:Zo b.2) (hk:a.2.length≤k) (hl:b.2.length≤l) (hr:Z8 N (k+l)):Zmt N a b=some (Xa (Zr a * Zr b)):=by
 have c:=hr
 obtain ⟨d,e⟩:=c
 have f:=Yk ha
 have g:=Yk hb
 have:=T7 (Za a.2) (Za b.2)
 rw [Zmt,Zsm ha hb (by omega) (by omega),oB,Zb0 (k:=k+l) (Z9 _) (by omega) hr,oB,Zub]
theorem Xbh (a b:ZV):(if (Zr a).sign<(Zr b).sign then -1 else if (Zr b).sign<(Zr a).sign then 1 else (Zr a).sign * (if Za a.2<Za b.2 then -1 else if Za b.2<Za a.2 then 1 else 0))=Zax (Zr a) (Zr b):=by
 obtain ⟨s,x⟩:=a
 obtain ⟨t,y⟩:=b
 have c:∀ z:Int,z.sign=if z<0 then -1 else if 0<z then 1 else 0:=fun z=>(Zqi z).symm
 rw [c,c]
 unfold Zax
 simp only [Zr]
 generalize Za x=X
 generalize Za y=Y
 cases s <;> cases t <;> simp only [if_true,Bool.false_eq_true,if_false] <;> (repeat' split) <;> omega
theorem Xa7 {N k l:Nat} {a b:ZV} (ha:Zo a.2) (hb:Zo b.2) (hk:a.2.length≤k) (hl:b.2.length≤l) (hr:Z8 N (k+l)):Zmr N a b=some (Zax (Zr a) (Zr b)):=by
 have c:=hr
 obtain ⟨d,e⟩:=c
 have f:-1≤(Zr a).sign∧(Zr a).sign≤1:=by rw [← Zqi];unfold Zax;(repeat' split) <;> omega
 rw [Zmr,Zkl ha hk (hr.mono (by omega)),oB,Zkl hb hl (hr.mono (by omega)),oB,← Xbh a b]
 by_cases h1:(Zr a).sign<(Zr b).sign
 ·rw [if_pos (dT h1),if_pos h1]
 ·rw [if_neg (dF h1),if_neg h1]
  by_cases h2:(Zr b).sign<(Zr a).sign
  ·rw [if_pos (dT h2),if_pos h2]
  ·rw [if_neg (dF h2),if_neg h2,Zrf ha hb (by omega) (by omega) (by omega) (by omega),oB]
   congr 1
   refine Zy ?_
   have:(Zr a).sign= -1∨(Zr a).sign=0∨(Zr a).sign=1:=by omega
   rcases this with h | h | h <;> rw [h] <;> (repeat' split) <;> decide
theorem Zt8 {N:Nat} {z:Int} (h:-9223372036854775808≤z∧z≤9223372036854775807) (hr:Z8 N 2):Zet N z=some (Xa z):=by
 have b:=hr
 obtain ⟨f,g⟩:=b
 have c:∀ n:Nat,n<18446744073709551616→(Zf n).length≤2:=fun n d=>W0.2 (by simpa using d)
 rw [Zet]
 by_cases hz:z<0
 ·have e:u64.wrap (-u64.wrap z)= -z:=by rw [IntKind.wrap_u64,IntKind.wrap_u64];omega
  rw [if_pos (dT hz),e,Zmy (by omega) (by omega),oB,Zb0 (Z9 _) (c _ (by omega)) hr,oB]
  have a:Zr (true,Zf (-z).toNat)=z:=by simp only [Zr,Z6,if_true];omega
  rw [a]
 ·rw [if_neg (dF hz),Xs (by omega),Zmy (by omega) (by omega),oB,Zb0 (Z9 _) (c _ (by omega)) hr,oB]
  have a:Zr (false,Zf z.toNat)=z:=by simp only [Zr,Z6];simp;omega
  rw [a]
theorem Zby {N k:Nat} {a:QV} (ha:RV k a) (hr:Z8 N k):Ut N a=some (Zf (X4 a.2)):=by
 obtain ⟨b,c⟩:=hr
 have:=ha.ld
 rw [Ut,Zsq ha.d (by omega) (by omega),oB,X4]
 by_cases h:Za a.2=0
 ·rw [h,Vo,if_neg (by decide),if_pos rfl,Zmy (by decide) (by omega)];rfl
 ·have:=S4 h
  rw [if_pos (dT (by omega)),if_neg h]
theorem Te {k:Nat} {a:QV} (ha:RV k a):(Zf (X4 a.2)).length≤k+1:=by
 have b:=Yk ha.d
 have c:=ha.ld
 rw [X4]
 split
 ·rw [Uj];simp
 ·omega
theorem Zka {N k l n:Nat} {a:ZV} (ha:Zo a.2) (hk:a.2.length≤k) (hl:(Zf n).length≤l) (hr:Z8 N (k+l)):Zbi N a (Zf n)=some (Xa (Zr a * n)):=by
 rw [Zbi,Xba (a:=(a.1,a.2)) (b:=(false,Zf n)) ha (Z9 _) hk hl hr,oB]
 have e:Zr (false,Zf n)=n:=by simp [Zr,Z6]
 rw [e]
theorem Zlb {N k l:Nat} {neg:Bool} {num den:List Int} (hn:Zo num) (hd:Zo den) (h0:Za den≠0) (hk:num.length≤k) (hl:den.length≤l) (hr:Z8 N (k+l)):
  Zcb N neg num den=some (Zm (mkRat (Zr (neg,num)) (Za den))):=by
 have b:=hr
 obtain ⟨e,f⟩:=b
 have g:=Yk hn
 have d:=Yk hd
 have c:cL (Za num) (Za den)≠0:=fun h=>h0 (Nat.gcd_eq_zero_iff.1 h).2
 have lg:(Zf (cL (Za num) (Za den))).length≤den.length:=aN (Ws (Nat.gcd_le_right _ (by omega))) d
 have i:=Ws (Nat.div_le_self (Za num) (cL (Za num) (Za den)))
 rw [Zcb,Z7n hn hd (by omega) (by omega),oB,Zk7 hn (Z9 _) (by omega) (by omega),oB,Zk7 hd (Z9 _) (by omega) (by omega),oB,Z6,if_neg c,if_neg c,
  Xbc (k:=k) (a:=(neg,Zf (Za num / cL (Za num) (Za den)))) (Z9 _) (by simp only;omega) (hr.mono (by omega)),oB,Zy6 h0,Zmx,Z6]
theorem Z7i {N k:Nat} {a:QV} (ha:RV k a) (hr:Z8 N (2 * k+1)):Zin N a=some (Zm (-Zq a)):=by
 have ld:=Te ha
 rw [Zin,Zby ha (hr.mono (by omega)),oB,Zlb (k:=k) (l:=k+1) ha.m (Z9 _) (by rw [Z6];exact Uy _) ha.lm ld (hr.mono (by omega)),oB,Z6,Zqj a.1,Zq,iA]
theorem Zru {N k:Nat} {a:QV} (ha:RV k a) (hr:Z8 N k):Zbh N a=some (Qf (Zq a)):=by
 rw [Zbh,Zkl (a:=(a.1.1,a.1.2)) ha.m ha.lm hr,oB,Zz3]
theorem Qp (z:Int):(Xa z).2=Zf z.natAbs:=rfl
theorem Za7 {k l n:Nat} {a:ZV} (ha:Zo a.2) (hk:a.2.length≤k) (hl:(Zf n).length≤l):(Xa (Zr a * n)).2.length≤k+l:=by
 rw [Qp,eS,eW,Zc7]
 have b:=T7 (Za a.2) n
 have c:=Yk ha
 omega
theorem Zdk {N k l:Nat} {a b:QV} (ha:RV k a) (hb:RV l b) (hr:Z8 N (2 * (k+l+2))):U1 N a b=some (Vf (Zq a) (Zq b)):=by
 have c:=Te ha
 have d:=Te hb
 have e:=Za7 (n:=X4 b.2) ha.m ha.lm d
 have f:=Za7 (n:=X4 a.2) hb.m hb.lm c
 rw [U1,Zby hb (hr.mono (by omega)),oB,Zka (k:=k) (l:=l+1) ha.m ha.lm d (hr.mono (by omega)),oB,Zby ha (hr.mono (by omega)),oB,Zka (k:=l) (l:=k+1) hb.m hb.lm c (hr.mono (by omega)),oB,
  Xa7 (a:=Xa _) (b:=Xa _) (Wz _) (Wz _) e f (hr.mono (by omega)),oB,W2,W2,Zq,Zq,Zsz (Uy _) (Uy _)]
theorem Zk5 {N k l:Nat} {a b:QV} (ha:RV k a) (hb:RV l b) (hr:Z8 N (k+l+2)):Zbk N (Zf (X4 a.2)) (Zf (X4 b.2))=some (Zf (X4 a.2 * X4 b.2))∧(Zf (X4 a.2 * X4 b.2)).length≤k+l+2∧X4 a.2 * X4 b.2≠0:=by
 have d:=Te ha
 have e:=Te hb
 have c:=hr
 obtain ⟨f,g⟩:=c
 have:=T7 (X4 a.2) (X4 b.2)
 refine ⟨by rw [Zsm (Z9 _) (Z9 _) (by omega) (by omega),Z6,Z6],by omega,cE (Uy _) (Uy _)⟩
theorem Ztw {x y:Int} {k:Nat} (hx:(Xa x).2.length≤k) (hy:(Xa y).2.length≤k):(Xa (x+y)).2.length≤k+1:=by
 rw [Qp] at *
 exact aN (Ws (jA _ _)) (Zhv hx hy)
theorem Z1x {x y:Int} {k:Nat} (hx:(Xa x).2.length≤k) (hy:(Xa y).2.length≤k):(Xa (x - y)).2.length≤k+1:=by
 rw [gC]
 refine Ztw hx ?_
 rw [Qp,jT];exact hy
theorem Zy7 (z:Int):((Xa z).1,(Xa z).2)=Xa z:=rfl
theorem Ze4 {N k l:Nat} {a b:QV} (ha:RV k a) (hb:RV l b) (hr:Z8 N (2 * (k+l+3))):Uk N a b=some (Zm (Zq a+Zq b)):=by
 have c:=Te ha
 have d:=Te hb
 have f:=Za7 (n:=X4 b.2) ha.m ha.lm d
 have e:=Za7 (n:=X4 a.2) hb.m hb.lm c
 obtain ⟨g,i,j⟩:=Zk5 ha hb (hr.mono (by omega))
 have sl:=Ztw (k:=k+l+1) (by omega) (aN e (by omega))
 rw [Uk,Zby hb (hr.mono (by omega)),oB,Zka (k:=k) (l:=l+1) ha.m ha.lm d (hr.mono (by omega)),oB,Zby ha (hr.mono (by omega)),oB,Zka (k:=l) (l:=k+1) hb.m hb.lm c (hr.mono (by omega)),oB,
  Zt5 (a:=Xa _) (b:=Xa _) (Wz _) (Wz _) f e (hr.mono (by omega)),oB,W2,W2,oB,oB,g,oB,
  Zlb (Wz _) (Z9 _) (by rw [Z6];exact j) sl i (hr.mono (by omega)),oB,Zy7,W2,Z6,Zq,Zq,fW _ _ (Uy _) (Uy _)]
theorem Z8o (n₁ n₂:Int) {d₁ d₂:Nat} (z₁:d₁≠0) (z₂:d₂≠0):mkRat n₁ d₁ - mkRat n₂ d₂=mkRat (n₁ * d₂ - n₂ * d₁) (d₁ * d₂):=by
 rw [iU,iA,fW _ _ z₁ z₂,iL,gC]
theorem Zrv {N k l:Nat} {a b:QV} (ha:RV k a) (hb:RV l b) (hr:Z8 N (2 * (k+l+3))):Qu N a b=some (Zm (Zq a - Zq b)):=by
 have c:=Te ha
 have d:=Te hb
 have f:=Za7 (n:=X4 b.2) ha.m ha.lm d
 have e:=Za7 (n:=X4 a.2) hb.m hb.lm c
 obtain ⟨g,i,j⟩:=Zk5 ha hb (hr.mono (by omega))
 have sl:=Z1x (k:=k+l+1) (by omega) (aN e (by omega))
 rw [Qu,Zby hb (hr.mono (by omega)),oB,Zka (k:=k) (l:=l+1) ha.m ha.lm d (hr.mono (by omega)),oB,Zby ha (hr.mono (by omega)),oB,Zka (k:=l) (l:=k+1) hb.m hb.lm c (hr.mono (by omega)),oB,
  Z2n (a:=Xa _) (b:=Xa _) (Wz _) (Wz _) f e (hr.mono (by omega)),oB,W2,W2,oB,oB,g,oB,
  Zlb (Wz _) (Z9 _) (by rw [Z6];exact j) sl i (hr.mono (by omega)),oB,Zy7,W2,Z6,Zq,Zq,Z8o _ _ (Uy _) (Uy _)]
theorem Zk9 {N k l:Nat} {a b:QV} (ha:RV k a) (hb:RV l b) (hr:Z8 N (2 * (k+l+3))):U2 N a b=some (Zm (Zq a * Zq b)):=by
 have c:=hr
 obtain ⟨g,i⟩:=c
 have j:=ha.lm
 have n:=hb.lm
 have o:=Yk ha.m
 have p:=Yk hb.m
 have q:=T7 (Za a.1.2) (Za b.1.2)
 obtain ⟨d,e,f⟩:=Zk5 ha hb (hr.mono (by omega))
 rw [U2,Zsm ha.m hb.m (by omega) (by omega),oB,Zby ha (hr.mono (by omega)),oB,Zby hb (hr.mono (by omega)),oB,d,oB,
  Zlb (k:=k+l) (Z9 _) (Z9 _) (by rw [Z6];exact f) (by omega) e (hr.mono (by omega)),oB,Zub,Z6,Zq,Zq,eI]
theorem Zyt (n₁:Int) (d₁:Nat) (b:ZV) (d₂:Nat) (s:Bool) (x:List Int) (h:n₁=Zr (s,x)) (hb:Za b.2≠0):mkRat n₁ d₁ / mkRat (Zr b) d₂=mkRat (Zr (!decide (s=b.1),Zf (Za x * d₂))) (d₁ * Za b.2):=by
 have d:mkRat (Zr b) d₂=(Zr b:Rat) / (d₂:Rat):=dJ _ _
 have e:(Zr b:Rat)=(if b.1=true then -1 else 1) * (Za b.2:Rat):=by
  rw [Zr];split
  ·rw [Rat.intCast_neg,Rat.neg_mul,Rat.one_mul];rfl
  ·rw [Rat.one_mul];rfl
 have f:(Zr (!decide (s=b.1),Zf (Za x * d₂)):Rat)=(if b.1=true then -1 else 1) * (n₁:Rat) * (d₂:Rat):=by
  subst h
  have:Zr (!decide (s=b.1),Zf (Za x * d₂))=(if b.1=true then -1 else 1) * Zr (s,x) * (d₂:Int):=by
   obtain ⟨t,y⟩:=b
   simp only [Zr,Z6]
   cases s <;> cases t <;> simp [bH,iL]
  rw [this,hH,hH]
  congr 2
  split <;> rfl
 have g:(Za b.2:Rat)≠0:=fun h=>hb (Rat.natCast_eq_zero_iff.1 h)
 rw [dJ,d,dJ,f,e,Rat.natCast_mul]
 have c:(if b.1=true then (-1:Rat) else 1) * (if b.1=true then (-1:Rat) else 1)=1:=by split <;> grind
 generalize (if b.1=true then (-1:Rat) else 1)=sg at *
 generalize (n₁:Rat)=p
 generalize (d₁:Rat)=q
 generalize (d₂:Rat)=r
 generalize (Za b.2:Rat)=m at *
 have i:sg≠0:=fun h=>by rw [h] at c;grind
 have a:sg⁻¹=sg:=fC c
 simp only [Rat.div_def,Rat.inv_mul_rev,Rat.inv_inv,a]
 grind
theorem Z7j {N k l:Nat} {a b:ZV} (ha:Zo a.2) (hb:Zo b.2) (hk:a.2.length≤k) (hl:b.2.length≤l) (hr:Z8 N (k+l)):Zlq N a b=some (if Zr b=0 then (((false,[]),[]),11) else (Zm ((Zr a:Rat) / (Zr b:Rat)),0)):=by
 rw [Zlq,Zkl (a:=(b.1,b.2)) hb hl (hr.mono (by omega)),oB]
 by_cases h0:Zr b=0
 ·rw [if_pos h0,h0,if_pos (by decide)]
 ·have c:Za b.2≠0:=fun h=>h0 (by have:=Zc7 b;omega)
  have e:=Zyt (Zr a) 1 b 1 a.1 a.2 rfl c
  have d:¬ (Zr b).sign=0:=fun h=>h0 (Int.sign_eq_zero_iff_zero.1 h)
  rw [if_neg (by rw [decide_eq_false d];decide),if_neg h0,Zlb ha hb c hk hl hr,oB]
  rw [dJ,dJ] at e
  have f:(Zr a:Rat) / ((1:Nat):Rat) / ((Zr b:Rat) / ((1:Nat):Rat))=(Zr a:Rat) / (Zr b:Rat):=by
   have g:((1:Nat):Rat)=1:=rfl
   have i:(1:Rat)⁻¹=1:=fC (by grind)
   simp only [g,Rat.div_def,i,Rat.mul_one]
  rw [f,Nat.one_mul,Nat.mul_one] at e
  rw [e]
  have j:Zr (!decide (a.1=b.1),Zf (Za a.2))=Zr (!decide (a.1=b.1),a.2):=by simp only [Zr,Z6]
  rw [j]
theorem Z7k {N:Nat} {a b:Int} (h:-9223372036854775808≤a∧a≤9223372036854775807) (g:-9223372036854775808≤b∧b≤9223372036854775807) (hr:Z8 N 4):Zlr N a b=some (if b=0 then (((false,[]),[]),11) else (Zm ((a:Rat) / (b:Rat)),0)):=by
 have c:∀ z:Int,-9223372036854775808≤z∧z≤9223372036854775807→(Xa z).2.length≤2:=fun z d=>W0.2 (by simp;omega)
 rw [Zlr,Zt8 h (hr.mono (by omega)),oB,Zt8 g (hr.mono (by omega)),oB,Z7j (a:=Xa a) (b:=Xa b) (Wz _) (Wz _) (c _ h) (c _ g) hr,oB,W2,W2]
def Y1 (l:List QV):Rat:=(l.map Zq).sum
def Ya:List QV→Nat
 | []=>0
 | a :: l=>max a.1.2.length a.2.length+2+Ya l
theorem Zbw {a:QV} (hm:Zo a.1.2) (hd:Zo a.2):RV (max a.1.2.length a.2.length) a:=⟨hm,hd,Nat.le_max_left _ _,Nat.le_max_right _ _⟩
def Va (a:QV):Prop:=Zo a.1.2∧Zo a.2
theorem Zm5 {a:QV} (h:Va a):qs (Zq a)≤max a.1.2.length a.2.length+1:=by
 have:=Zs5 (Zbw h.1 h.2)
 omega
theorem Zxl {N:Nat}:∀ (l:List QV) (q:Rat),(∀ a ∈ l,Va a)→Z8 N (4 * (qs q+Ya l+3))→Zdx N l (Zm q).1.1 (Zm q).1.2 (Zm q).2=some (Zm (q+Y1 l))∧qs (q+Y1 l)≤qs q+Ya l
 | [],q,_,_=>by
  rw [Zdx.eq_1,Y1]
  simp only [List.map_nil,List.sum_nil,Rat.add_zero,Ya]
  exact ⟨trivial,by omega⟩
 | a :: l,q,d,b=>by
  have c:=d a aK
  have n:=Zm5 c
  rw [Ya] at b ⊢
  rw [Zdx.eq_2,Ze4 (k:=qs q) (l:=max a.1.2.length a.2.length) (Ztq q) (Zbw c.1 c.2) (b.mono (by omega)),oB]
  have e:Zq ((((Zm q).1.1,(Zm q).1.2),(Zm q).2):QV)=q:=Xz q
  have f:Zq (((a.1.1,a.1.2),a.2):QV)=Zq a:=rfl
  have o:=Zkc q (Zq a)
  obtain ⟨g,i⟩:=Zxl l (q+Zq a) (fun x j=>d x (aE _ j)) (b.mono (by omega))
  rw [e,f,g]
  have m:q+Zq a+Y1 l=q+Y1 (a :: l):=by rw [Y1,Y1,List.map_cons,List.sum_cons,Rat.add_assoc]
  rw [m] at i ⊢
  exact ⟨rfl,by omega⟩
theorem Zrw {N:Nat} {l:List QV} (hl:∀ a ∈ l,Va a) (hr:Z8 N (4 * (Ya l+4))):Zam N l=some (Zm (Y1 l))∧qs (Y1 l)≤Ya l+1:=by
 have c:=hr
 obtain ⟨f,g⟩:=c
 obtain ⟨b,d⟩:=Zxl (N:=N) l 0 hl (hr.mono (by rw [Zs6];omega))
 rw [Rat.zero_add] at b d
 rw [Zs6] at d
 have e:Zm 0=((false,[]),[1]):=by
  rw [Zm,Xa]
  simp only [Rat.zero_num,Rat.zero_den,Int.natAbs_zero,Vo,Uj]
  rfl
 rw [e] at b
 refine ⟨?_,by omega⟩
 rw [Zam,Zmy (by decide) (by omega),oB,← b]
 rw [show (1:Int).toNat=1 from rfl,Uj]
def Bd (D M:Nat) (q:Rat):Prop:=∃ z:Int,q=mkRat z D∧z.natAbs≤M * D
theorem Bd.qs {D M:Nat} {q:Rat} (h:Bd D M q) (hD:D≠0) (hM:1≤M):qs q≤(Zf (M * D)).length:=by
 obtain ⟨z,rfl,a⟩:=h
 have b:D≤M * D:=Nat.le_mul_of_pos_left D hM
 exact Zc4 (Ws a) (Ws b) (S4 (by omega))
theorem Bd.up {D M K:Nat} {q:Rat} (h:Bd D M q) (hK:M≤K):Bd D K q:=by
 obtain ⟨z,e,a⟩:=h
 exact ⟨z,e,aN a (aX D hK)⟩
theorem Bd.lift {D M:Nat} (E:Nat) {q:Rat} (h:Bd D M q) (hD:D≠0) (hE:E≠0):Bd (D * E) M q:=by
 obtain ⟨z,rfl,a⟩:=h
 refine ⟨z * E,?_,?_⟩
 ·rw [Zsi hD (cE hD hE),bH,kA,Int.mul_comm (E:Int)]
 ·rw [eS,eW,← bJ]
  exact aX E a
theorem Zph (a b:Int) {D:Nat} (hD:D≠0):mkRat a D+mkRat b D=mkRat (a+b) D:=by
 rw [fW _ _ hD hD,← Int.add_mul,Zsi (cE hD hD) hD,bH,kA]
theorem Bd.add {D M K:Nat} {a b:Rat} (ha:Bd D M a) (hb:Bd D K b) (hD:D≠0):Bd D (M+K) (a+b):=by
 obtain ⟨x,rfl,c⟩:=ha
 obtain ⟨y,rfl,d⟩:=hb
 refine ⟨x+y,Zph x y hD,aN (jA _ _) ?_⟩
 rw [Nat.add_mul];omega
theorem Bd.neg {D M:Nat} {a:Rat} (ha:Bd D M a):Bd D M (-a):=by
 obtain ⟨x,rfl,b⟩:=ha
 exact ⟨-x,by rw [iA],by rw [jT];exact b⟩
theorem Bd.sub {D M K:Nat} {a b:Rat} (ha:Bd D M a) (hb:Bd D K b) (hD:D≠0):Bd D (M+K) (a - b):=by
 rw [iU]
 exact ha.add hb.neg hD
theorem Bd.mul {D E M K:Nat} {a b:Rat} (ha:Bd D M a) (hb:Bd E K b):Bd (D * E) (M * K) (a * b):=by
 obtain ⟨x,rfl,c⟩:=ha
 obtain ⟨y,rfl,d⟩:=hb
 refine ⟨x * y,eI _ _ _ _,?_⟩
 rw [eS,Nat.mul_mul_mul_comm M K D E]
 exact Nat.mul_le_mul c d
theorem Bd.zero (D M:Nat):Bd D M 0:=⟨0,by rw [Rat.zero_mkRat],by simp⟩
theorem Bd.one:Bd 1 1 1:=⟨1,rfl,by simp⟩
def Sm:List QV→Nat
 | []=>1
 | x :: t=>X4 x.2 * Sm t
theorem Zoc:∀ t:List QV,Sm t≠0
 | []=>by simp [Sm]
 | x :: t=>cE (Uy x.2) (Zoc t)
theorem Zwt:∀ (t:List QV),(∀ x ∈ t,Va x)→(Zf (Sm t)).length≤Ya t+1
 | [],_=>by rw [Sm,Uj];simp
 | x :: t,h=>by
  have a:=h x aK
  have c:=Te (Zbw a.1 a.2)
  have d:=Zwt t fun y b=>h y (aE _ b)
  have e:=T7 (X4 x.2) (Sm t)
  rw [Sm,Ya];omega
theorem Z23 {x:QV} (h:0≤Zq x) (g:Zq x≤1):Bd (X4 x.2) 1 (Zq x):=by
 refine ⟨Zr x.1,rfl,?_⟩
 have a:=Uy x.2
 have c:¬ Zr x.1<0:=fun b=>by
  have:Zq x<0:=by
   rw [Zq,show (0:Rat)=mkRat 0 1 from rfl,Vs a (by decide)];omega
  exact absurd h (Rat.not_le.2 this)
 have d:¬ (X4 x.2:Int)<Zr x.1:=fun b=>by
  have:1<Zq x:=by
   rw [Zq,show (1:Rat)=mkRat 1 1 from rfl,Vs (by decide) a];omega
  exact absurd g (Rat.not_le.2 this)
 omega
def Xv (long:Rat):List QV→Rat→List (Rat×Rat)
 | [],_=>[]
 | x :: t,at_=>(at_,at_+long * Zq x) :: Xv long t (at_+long * Zq x)
theorem Su (long:Rat):∀ (t:List QV) (a:Rat),(Xv long t a).length=t.length
 | [],_=>rfl
 | x :: t,a=>by rw [Xv,nC,Su long t,nC]
theorem Zzo {D M L:Nat} {long:Rat} (hD:D≠0) (hl:Bd D L long):∀ (t:List QV) (F:Nat) (a:Rat) (M:Nat),F≠0→(∀ x ∈ t,0≤Zq x∧Zq x≤1)→Bd (D * F) M a→∀ p ∈ Xv long t a,Bd (D * (F * Sm t)) (M+L * t.length) p.1∧Bd (D * (F * Sm t)) (M+L * t.length) p.2
 | [],F,a,M,c,_,f,p,d=>by rw [Xv] at d;cases d
 | x :: t,F,a,M,c,g,f,p,d=>by
  have i:=g x aK
  have b:=Uy x.2
  have j:Bd (D * (F * X4 x.2)) (M+L) (a+long * Zq x):=by
   have e:Bd (D * F * X4 x.2) M a:=f.lift _ (cE hD c) b
   have k:Bd (D * X4 x.2 * F) (L * 1) (long * Zq x):=(hl.mul (Z23 i.1 i.2)).lift _ (cE hD b) c
   rw [Nat.mul_one,bJ,Nat.mul_comm (X4 x.2) F] at k
   rw [bJ] at e
   exact e.add k (cE hD (cE c b))
  have q:L≤L * (t.length+1):=by rw [kJ];omega
  rw [Xv] at d
  rw [Sm,← bJ F,nC]
  rcases bK.1 d with rfl | d
  ·have e:Bd (D * (F * X4 x.2)) M a:=by
    have:=f.lift (X4 x.2) (cE hD c) b
    rwa [bJ] at this
   have l:=cE hD (cE c b)
   have m:=(e.lift (Sm t) l (Zoc t)).up (K:=M+L * (t.length+1)) (by omega)
   have n:=(j.lift (Sm t) l (Zoc t)).up (K:=M+L * (t.length+1)) (by omega)
   rw [bJ] at m n
   exact ⟨m,n⟩
  ·have:=Zzo (M:=M) hD hl t (F * X4 x.2) _ (M+L) (cE c b) (fun y o=>g y (aE _ o)) j p d
   rw [show M+L+L * t.length=M+L * (t.length+1) by rw [kJ];omega] at this
   exact this
def Zdv (kk_L2:(Option Int)):List Int→Rg→Option Int
  | [],a=>kk_L2
  | b :: c,a=>if (decide (0<((W1 a b).getD 0)))=true then (some 40) else ((some (Q2 a b 1)).bind fun d=>(Zdv kk_L2 c) d)
def Zbd:List R2→Option Int
  | []=>some 0
  | a :: b=>Zdv (Zbd b) a ([]:List Rb)
def Zig (kk_L4:(Option Int)) (a:Bool):Option Int:=
  if a=true then (some 3) else kk_L4
def Zbe (a:R8) (kk_L1:(Option Int)):List Int→Option Int
  | []=>kk_L1
  | b :: c=>if (decide (b<0))=true then (Zig (Zbe a kk_L1 c) true) else (Zig (Zbe a kk_L1 c) (decide ((a.length:Int)≤b)))
def Zbc (a:R8):List R2→Option Int
  | []=>Zbd a
  | b :: c=>Zbe a (Zbc a c) b
def Zif (a:R8):Option Int:=
  Zbc a a
theorem Z3w {N:Nat} {D:Option Addr} {col:Zg} {h:World} {b:R8} {r:Int} (a:Zif b=some r) (j:Sl rP col h D N b):
    Calls prog 76 #[.slice D b.length N] h (W8 h r):=by
 refine Xk 2 (m:=57) func76 O O O O O ?_;rw [Zif.eq_1] at a;have d:=St.start col h;refine go ?_;refine Z0 [0,12,13,1000000] (fun m k E=>∃ F C u,m=u.length∧b.drop C=u∧Zbc b u=some r∧St h (Zk col) F E∧[14].map k=[.int .i64 C]) b.length ⟨_,0,_,O,O,a,d,O⟩ ?_;clear a;intro m k E p;obtain ⟨F,C,u,l,f,a,d,g⟩:=p;subst l;refine .lL [14] g ?_;replace j:=j.k0
 cases u with
 | nil=>
  have e:¬ ((C:Int)<(b.length:Int)):=by have:=aF.1 f;omega
  have c:=decide_eq_false e;rw [Zbc.eq_1] at a;refine go ?_;refine Yd (congrArg Value.bool c)<|go ?_;refine Z0 [34,35,1000000] (fun m k D=>∃ R x t,m=t.length∧b.drop x=t∧Zbd t=some r∧St h (Zk col) R D∧[36].map k=[.int .i64 x]) b.length ⟨_,0,_,O,O,a,d,O⟩ ?_;clear a;intro m k D p;obtain ⟨R,x,t,l,f,a,d,g⟩:=p;subst l;refine .lL [36] g ?_
  cases t with
  | nil=>
   have e:¬ ((x:Int)<(b.length:Int)):=by have:=aF.1 f;omega
   have c:=decide_eq_false e;rw [Zbd.eq_1] at a;refine go ?_;refine Yd (congrArg Value.bool c)<|go ?_;cases a;exact ⟨O,O,d.below⟩
  | cons B T=>
   obtain ⟨i,au,J⟩:=Yo f;have e:(x:Int)<(b.length:Int):=by omega
   have c:=decide_eq_true e;rw [Zbd.eq_2] at a;refine go ?_;refine Ye (congrArg Value.bool c)<|go ?_;refine lI i ((j.ks d).addr i) ?_;obtain ⟨_,W,Y⟩:=(j.ks d).atN i;obtain ⟨⟨G,H,rfl,n⟩,_⟩:=W;refine lW Y.one<|go ?_;refine Z75 (col:=R) (fk:=(Value.int .i64)) (fv:=(Value.int .i64)) 1 O underlying145 O fun _ _ _ u t=>go ?_;replace n:=n.gr u;replace d:=d.grow u;refine Z0 [34,35,36,43,44,1000000] (fun m k E=>∃ F z P A w,m=w.length∧B.drop z=w∧Zdv (Zbd T) w A=some r∧St h (Zk col) F E∧Sl rI F E G H B∧Ua (Value.int .i64) (Value.int .i64) 1 F E P A∧[45,9].map k=[.int .i64 z,.map (some P)]) B.length ⟨_,0,_,_,_,O,O,a,d,n,t,O⟩ ?_;clear a;intro m k E p;obtain ⟨F,z,P,A,w,l,f,a,d,n,Z,g⟩:=p;subst l;refine .lL [45,9] g ?_
   cases w with
   | nil=>
    have e:¬ ((z:Int)<(B.length:Int)):=by have:=aF.1 f;omega
    have c:=decide_eq_false e;rw [Zdv.eq_1] at a;refine go ?_;refine Yd (congrArg Value.bool c)<|go ?_;exact ⟨T.length,by simp,O,⟨_,_,_,O,au,a,d,(Yv (congrArg (Value.int .i64) (Yp (aG J (j.ks d).1.1))) O)⟩⟩
   | cons Q I=>
    obtain ⟨i,K,L⟩:=Yo f;have e:(z:Int)<(B.length:Int):=by omega
    have c:=decide_eq_true e;rw [Zdv.eq_2] at a;refine go ?_;refine Ye (congrArg Value.bool c)<|go ?_;refine lI i (n.addr i)<|lW (n.atInt i) ?_;refine go ?_;refine lV (.int .i64 ((W1 A Q).getD 0)) (Zz7 Qj.int Z underlying145 underlying3 zeroValue3 O O)<|go ?_;refine Zp a (fun s a=>go ?_) fun s a=>go ?_
    ·cases a;exact ⟨O,O,d.below⟩
    obtain ⟨T,J,a⟩:=bZ a;have J:T=Q2 A Q 1:=(Option.some.inj J).symm;refine Zx1 (k:=Q) (v:=1) Qj.int Z underlying145 underlying3 O O O ?_;intro _ w Z x;rw [← J] at x;refine go ?_;replace n:=n.kp w;replace d:=d.kp w Z;exact ⟨I.length,by simp,O,⟨_,_,_,_,_,O,K,a,d,n,x,(Yv (congrArg (Value.int .i64) (Yp (aG L n.1.1))) O)⟩⟩
 | cons q S=>
  obtain ⟨i,U,am⟩:=Yo f;have e:(C:Int)<(b.length:Int):=by omega
  have c:=decide_eq_true e;rw [Zbc.eq_2] at a;refine go ?_;refine Ye (congrArg Value.bool c)<|go ?_;refine lI i ((j.ks d).addr i) ?_;obtain ⟨_,V,X⟩:=(j.ks d).atN i;obtain ⟨⟨av,aw,rfl,o⟩,_⟩:=V;refine lW X.one<|go ?_;refine Z0 [0,12,13,14,18,19,1000000] (fun m k K=>∃ L y v,m=v.length∧q.drop y=v∧Zbe b (Zbc b S) v=some r∧St h (Zk col) L K∧Sl rI L K av aw q∧[20].map k=[.int .i64 y]) q.length ⟨_,0,_,O,O,a,d,o,O⟩ ?_;clear a;intro m k K p;obtain ⟨L,y,v,l,f,a,d,o,g⟩:=p;subst l;refine .lL [20] g ?_
  cases v with
  | nil=>
   have e:¬ ((y:Int)<(q.length:Int)):=by have:=aF.1 f;omega
   have c:=decide_eq_false e;rw [Zbe.eq_1] at a;refine go ?_;refine Yd (congrArg Value.bool c)<|go ?_;exact ⟨S.length,by simp,O,⟨_,_,_,O,U,a,d,(Yv (congrArg (Value.int .i64) (Yp (aG am (j.ks d).1.1))) O)⟩⟩
  | cons ap ax=>
   obtain ⟨i,M,ar⟩:=Yo f;have e:(y:Int)<(q.length:Int):=by omega
   have c:=decide_eq_true e;rw [Zbe.eq_2] at a;refine go ?_;refine Ye (congrArg Value.bool c)<|go ?_;refine lI i (o.addr i)<|lW (o.atInt i)<|Yr O<|Zj<|Zw ?_;refine Wp.cutK [0,12,13,14,18,19,20,1000000] (fun k G=>∃ H I,Zig (Zbe b (Zbc b S) ax) I=some r∧St h (Zk col) H G∧Sl rI H G av aw q∧[31].map k=[.bool I]) ?_ ?_
   ·intro k G U;obtain ⟨H,I,a,d,o,g⟩:=U;rw [Zig.eq_1] at a;refine .lL [31] g ?_;refine Zp a (fun s a=>go ?_) fun s a=>go ?_
    ·cases a;exact ⟨O,O,d.below⟩
    exact ⟨ax.length,by simp,O,⟨_,_,_,O,M,a,d,o,(Yv (congrArg (Value.int .i64) (Yp (aG ar o.1.1))) O)⟩⟩
   refine go ?_;refine X9 a (fun M a=>go ?_) fun M a=>go ?_
   ·refine lV (.bool true) (Xw (congrArg Value.bool M) O)<|Zj ?_;exact ⟨O,_,_,a,d,o,O⟩
   refine lV (.bool (decide ((b.length:Int)≤ap))) (X0 (congrArg Value.bool M) O)<|Zj ?_;exact ⟨O,_,_,a,d,o,O⟩
theorem Z6w:Wk prog 3 1 8:=⟨Tryz.t3,_,rfl,rfl,rfl,rfl,rfl⟩
def Zdu (a:Nat) (kk_L1:(Nat→R8→Option R8)):List Int→R8→Option R8
  | [],b=>kk_L1 (a+1) b
  | d :: e,b=>(Zn b d).bind fun c=>Z1 ((c.length+[(a:Int)].length) * 8≤140737488355328∧c.length+[(a:Int)].length≤maxLen) ((Zdu a kk_L1 e) (b.set (aA d) (c++[(a:Int)])))
def Zbb:List R2→Nat→R8→Option R8
  | [],b,a=>some a
  | c :: d,b,a=>Zdu b (Zbb d) c a
def Zie (a:R8):Option R8:=
  Z1 (a.length * 24≤281474976710656∧a.length≤maxLen) (Zbb a 0 (aC a.length (([]:List Int):List Int)))
theorem Z3v {S:Nat} {D:Option Addr} {col:Zg} {f:World} {j r:R8} (J:Nat) (a:Zie j=some r) (n:Sl rP col f D S j):
    Calls prog 78 #[.slice D j.length S] f (fun e w'=>∃ (col':Zg) (k:Option Addr) (i:Nat),e= .returned ((.slice k r.length i))∧Zl col f col' w'∧Zb (Zc.row 3 rI) 28 J col' w' k i r):=by
 refine Xk 2 (m:=37) func78 O O O O O ?_;rw [Zie.eq_1] at a;have c:=St.start col f;refine go ?_;obtain ⟨D,a⟩:=Z5 a;refine T6 (col:=(Zk col)) (w:=f) (r:=(Zc.row 3 rI)) (n:=j.length) (x0:=([]:List Int)) 1 O underlying24 Tryz.t28 O O O O O O O D.1 D.2 Z0g fun _ _ _ W i=>go ?_;replace c:=c.grow W;refine Z0 [11,12,1000000] (fun t C M=>∃ N g P Q E w,t=w.length∧j.drop g=w∧Zbb w g E=some r∧St f (Zk col) N M∧Zb (Zc.row 3 rI) 28 1 N M P Q E∧[13,3].map C=[.int .i64 g,.slice P E.length Q]) j.length ⟨_,0,_,_,_,_,O,O,a,c,i,O⟩ ?_;clear a;intro t C M V;obtain ⟨N,g,P,Q,E,w,u,l,a,c,az,v⟩:=V;subst u;refine .lL [13,3] v ?_;replace n:=n.k0
 cases w with
 | nil=>
  have d:¬ ((g:Int)<(j.length:Int)):=by have:=aF.1 l;omega
  have b:=decide_eq_false d;rw [Zbb.eq_1] at a;refine go ?_;refine Yd (congrArg Value.bool b)<|go ?_;cases a;exact ⟨O,_,_,_,O,c.fin (cm [(1,J)]),c.fo az⟩
 | cons A a1=>
  obtain ⟨p,Y,Z⟩:=Yo l;have d:(g:Int)<(j.length:Int):=by omega
  have b:=decide_eq_true d;rw [Zbb.eq_2] at a;refine go ?_;refine Ye (congrArg Value.bool b)<|go ?_;refine lI p ((n.ks c).addr p) ?_;obtain ⟨_,F,I⟩:=(n.ks c).atN p;obtain ⟨⟨T,X,rfl,h⟩,_⟩:=F;refine lW I.one<|go ?_;refine Z0 [11,12,13,18,19,4,1000000] (fun t C z=>∃ F y q s m x,t=x.length∧A.drop y=x∧Zdu g (Zbb a1) x m=some r∧St f (Zk col) F z∧Sl rI F z T X A∧Zb (Zc.row 3 rI) 28 1 F z q s m∧[20,3].map C=[.int .i64 y,.slice q m.length s]) A.length ⟨_,0,_,_,_,_,O,O,a,c,h,az,O⟩ ?_;clear a;intro t C z V;obtain ⟨F,y,q,s,m,x,u,l,a,c,h,U,v⟩:=V;subst u;refine .lL [20,3] v ?_
  cases x with
  | nil=>
   have d:¬ ((y:Int)<(A.length:Int)):=by have:=aF.1 l;omega
   have b:=decide_eq_false d;rw [Zdu.eq_1] at a;refine go ?_;refine Yd (congrArg Value.bool b)<|go ?_;exact ⟨a1.length,by simp,O,⟨_,_,_,_,_,_,O,Y,a,c,U,(Yv (congrArg (Value.int .i64) (Yp (aG Z (n.ks c).1.1))) O)⟩⟩
  | cons K aj=>
   obtain ⟨p,ak,al⟩:=Yo l;have d:(y:Int)<(A.length:Int):=by omega
   have b:=decide_eq_true d;rw [Zdu.eq_2] at a;refine go ?_;refine Ye (congrArg Value.bool b)<|go ?_;refine lI p (h.addr p)<|lW (h.atInt p) ?_;refine go ?_;obtain ⟨B,H,a⟩:=bZ a;refine lI H (U.addr H) ?_;obtain ⟨_,a2,a3,o,G⟩:=U.open_ 2 (by decide) H;obtain ⟨L,R,rfl,a4⟩:=G.row;replace o:W9 (Zc.row 3 rI) 28 1 a2 z q s m (aA K) [.slice L B.length R]:=o;refine lW o.atN.one<|Xy O<|Vn (col:=a2) [(g:Int)] 3 ?_;intro _ b Z I d;obtain ⟨n,a⟩:=Z5 a;refine Zad (col:=Z) (w:=b) (r:=rI) (c:=2) (c2:=2) ((a4.gr I).ex) (d.srcN (NB.int (k:=.i64))) O underlying28 Z6w O O O n.1 n.2 (by decide) ?_;intro p G _ f T u;replace o:=(o.gr I).kpp T;refine lI H (o.addr)<|Z77 (v:=(.slice p ((B++[(g:Int)]).length) G)) o O sizeOf28 O (Rv O O) O O (by decide) ?_;intro Y R k L;replace L:W9 (Zc.row 3 rI) 28 1 f Y q s m (aA K) [.slice p ((B++[(g:Int)]).length) G]:=L;have X:=(u.kp R).new;have l:=L.close X.has (by decide) (by decide);replace h:=(((h.kpp a3).gr I).kpp T).kp R;replace h:=h.recol 2 1;replace c:=(((c.kpp a3).grow I).kpp T).kp R k;replace c:=c.recol 2 1 (by decide) (by decide);refine .ld (d:=3) (v:=(.slice q ((m.set (aA K) (B++[(g:Int)])).length) s)) (congrArg (fun t=>Value.slice q t s) (show m.length=(m.set (aA K) (B++[(g:Int)])).length by simp only [nS])) ?_;refine go ?_;exact ⟨aj.length,by simp,O,⟨_,_,_,_,_,_,O,ak,a,c,h,l,(Yv (congrArg (Value.int .i64) (Yp (aG al h.1.1))) O)⟩⟩
def Zdw (a:Int) (kk_L2:(Int→Int→Option R5)) (b:Int):Option R5:=
  kk_L2 (i64.wrap (a+1)) b
def Zih (a b:Int) (kk_L2:(Int→Int→Option R5)) (c:Int) (d:Bool):Option R5:=
  if d=true then (Zdw a kk_L2 c) else (Zdw a kk_L2 b)
def Qt (N:Nat) (d:List Int) (g:Int) (a:List Int) (c:Int) (kk_L1:(List Int→Int→Option R5)):Nat→Int→Int→Option R5
  | 0,_,_=>none
  | i+1,e,b=>if (decide (e<2))=true then ((Zn [i64.wrap ((i64.wrap (2 * c))+1),i64.wrap ((i64.wrap (2 * c))+2)] e).bind fun f=>if (decide (f<(i64.wrap ((d.length:Int) - 1))))=true then ((Zn a f).bind fun k=>(Zn a b).bind fun l=>Zih e b (Qt N d g a c kk_L1 i) f (decide (k<l))) else (Zih e b (Qt N d g a c kk_L1 i) f false)) else (if (decide (b=c))=true then (some (g,a.take (aA (i64.wrap ((d.length:Int) - 1))))) else ((Zn a b).bind fun m=>(Zn a c).bind fun n=>(some (a.set (aA c) m)).bind fun j=>(Zn j b).bind fun p=>(some (j.set (aA b) n)).bind fun o=>kk_L1 o b))
def Qs (N:Nat) (a:List Int) (b:Int):Nat→R2→Int→Option R5
  | 0,_,_=>none
  | d+1,e,c=>Qt N a b e c (Qs N a b d) N 0 c
def Zlo (N:Nat) (a:List Int):Option R5:=
  (Zn a 0).bind fun c=>(Zn a (i64.wrap ((a.length:Int) - 1))).bind fun d=>(some (a.set (aA 0) d)).bind fun b=>Z1 ((0:Int)≤(i64.wrap ((a.length:Int) - 1))∧(i64.wrap ((a.length:Int) - 1))≤(b.length:Int)) (Qs N a c N b 0)
theorem Z3x {N k y:Nat} {x:Option Addr} {col:Zg} {p:World} {b:R2} {r:R5} (c t:Nat) (a:Zlo N b=some r) (H:Za4 [c,t]=true) (D:Zb rI 3 t col p x y b) (f:Zi 146 c col p k #[.slice x b.length y]):
    Calls prog 125 #[.pointer (some ⟨k,0,none⟩)] p (fun e w'=>∃ (col':Zg) (A:Option Addr) (z:Nat),e= .returned ((.int .i64 r.1))∧Zu (pS [c,t]) col p col' w'∧Zb rI 3 t col' w' A z r.2∧Zi 146 c col' w' k #[.slice A r.2.length z]):=by
 refine Xk 2 (m:=76) func125 O O O O O ?_;rw [Zlo.eq_1] at a;have i:=St.startL (l:=[c,t]) O col p;replace f:=f.startL (Zdj H 0 O) (Zdi H 0 O);replace D:=D.startL (Zdj H 1 O) (Zdi H 1 O);refine go ?_;refine lV (.pointer (some ⟨k,0,none⟩)) (Zau O)<|lW f.at1<|go ?_;obtain ⟨I,J,a⟩:=bZ a;refine lI J (D.addr J)<|lW (D.atInt J) ?_;refine go ?_;obtain ⟨u,M,a⟩:=bZ a;refine lI M (D.addr M)<|lW (D.atInt M)<|lI J (D.addr J) ?_;obtain ⟨B,Y,a⟩:=bZ a;have Y:B=b.set (aA 0) u:=(Option.some.inj Y).symm;refine Wc (x1:=u) D J ?_;intro S K Z L;rw [← Y] at L;refine .ld (d:=3) (v:=(.slice x B.length y)) (congrArg (fun h=>Value.slice x h y) (show b.length=B.length by rw [Y,nS])) ?_;replace f:=f.kp K;replace f:Zi 146 440 (X7 [c,t] col) S k #[.slice x B.length y]:=by rw [← (show b.length=B.length by rw [Y,nS])];exact f
 refine go ?_;obtain ⟨T,a⟩:=Z5 a;refine lv (v:=.slice x (aA (i64.wrap ((b.length:Int) - 1))) y) O O (Zkg underlying146 sizeOf3 O O T.1 (by have:=L.lecap;have:=T.2;omega))<|.ld (d:=28) (v:=(.slice x ((B.take (aA (i64.wrap ((b.length:Int) - 1)))).length) y)) (congrArg (fun h=>Value.slice x h y) (dY (show (aA (i64.wrap ((b.length:Int) - 1)))≤B.length by have:=T.2;omega)).symm) ?_;refine lV (.pointer (some ⟨k,0,none⟩)) (Zau O)<|Ur (v:=(.slice x ((B.take (aA (i64.wrap ((b.length:Int) - 1)))).length) y)) f sizeOf146 O O (Rv O O) O O ?_;intro M J P g;replace g:Zi 146 440 (X7 [c,t] col) M k #[(.slice x ((B.take (aA (i64.wrap ((b.length:Int) - 1)))).length) y)]:=g;refine go ?_;replace i:=(i.kp K Z).kp J P;refine Z0 [4,5,1000000] (fun h v C=>∃ H n o m w E,E=h∧Qs N b I E m w=some r∧St p (X7 [c,t] col) H C∧Zb rI 3 441 H C n o m∧Zi 146 440 H C k #[(.slice n ((m.take (aA (i64.wrap ((b.length:Int) - 1)))).length) o)]∧[3,6].map v=[.slice n m.length o,.int .i64 w]) N ⟨_,_,_,_,0,_,O,a,i,L.kp J,g,O⟩ ?_;clear a;intro h v C X;obtain ⟨H,n,o,m,w,E,W,a,i,j,g,s⟩:=X;subst W;refine .lL [3,6] s ?_
 cases E with
 | zero=>rw [Qs.eq_1] at a;cases a
 | succ E=>
  rw [Qs.eq_2] at a;refine go ?_;refine lV (.agg #[(.int .i64 (i64.wrap ((i64.wrap (2 * w))+1))),(.int .i64 (i64.wrap ((i64.wrap (2 * w))+2)))]) (Z9n underlying165 sizeOf3 zeroValue165 O)<|go ?_;refine Z0 [3,37,4,5,6,1000000] (fun h v B=>∃ l q a3 G,G=h∧Qt N b I m w (Qs N b I E) G q a3=some r∧St p (X7 [c,t] col) l B∧Zb rI 3 441 l B n o m∧Zi 146 440 l B k #[(.slice n ((m.take (aA (i64.wrap ((b.length:Int) - 1)))).length) o)]∧[38,7].map v=[.int .i64 q,.int .i64 a3]) N ⟨_,0,_,_,O,a,i,j,g,O⟩ ?_;clear a;intro h v B X;obtain ⟨l,q,a3,G,W,a,i,j,g,s⟩:=X;subst W;refine .lL [38,7] s ?_
  cases G with
  | zero=>rw [Qt.eq_1] at a;cases a
  | succ G=>
   rw [Qt.eq_2] at a;refine go ?_;refine Zp a (fun C a=>?_) fun C a=>go ?_
   ·refine X1<|Zw ?_;refine Wp.cutK [3,37,38,4,5,6,1000000] (fun v f=>∃ z R,Zdw q (Qt N b I m w (Qs N b I E) G) R=some r∧St p (X7 [c,t] col) z f∧Zb rI 3 441 z f n o m∧Zi 146 440 z f k #[(.slice n ((m.take (aA (i64.wrap ((b.length:Int) - 1)))).length) o)]∧[7].map v=[.int .i64 R]) ?_ ?_
    ·intro v f V;obtain ⟨z,R,a,i,j,g,s⟩:=V;rw [Zdw.eq_1] at a;refine .lL [7] s<|go ?_;exact ⟨G,by omega,O,⟨_,_,_,_,O,a,i,j,g,O⟩⟩
    refine go ?_;obtain ⟨F,Q,a⟩:=bZ a;refine lV (.int .i64 F) (Z9u (l:=[i64.wrap ((i64.wrap (2 * w))+1),i64.wrap ((i64.wrap (2 * w))+2)]) (k:=.i64) underlying165 sizeOf3 isAgg3 O O O Q)<|Yr O<|Zj<|Zw ?_;refine Wp.cutK [3,37,38,4,5,6,7,9,1000000] (fun v x=>∃ A S,Zih q a3 (Qt N b I m w (Qs N b I E) G) F S=some r∧St p (X7 [c,t] col) A x∧Zb rI 3 441 A x n o m∧Zi 146 440 A x k #[(.slice n ((m.take (aA (i64.wrap ((b.length:Int) - 1)))).length) o)]∧[54].map v=[.bool S]) ?_ ?_
    ·intro v x V;obtain ⟨A,S,a,i,j,g,s⟩:=V;rw [Zih.eq_1] at a;refine .lL [54] s ?_;refine Zp a (fun C a=>go ?_) fun C a=>?_
     ·exact ⟨O,_,_,a,i,j,g,O⟩
     refine X1 ?_;exact ⟨O,_,_,a,i,j,g,O⟩
    refine Vp (col:=l) (by kernel_rfl) (by kernel_rfl)<|go ?_;refine X9 a (fun U a=>go ?_) fun U a=>go ?_
    ·obtain ⟨T,P,a⟩:=bZ a;refine qI P (j.addr P) ?_;refine go ?_;refine qW (fun _ d=>(j.gr (d.bl l)).atInt P) ?_;refine go ?_;obtain ⟨I,Q,a⟩:=bZ a;refine qI Q (j.addr Q) ?_;refine go ?_;refine qW (fun _ d=>(j.gr (d.bl l)).atInt Q) ?_;refine go ?_;refine qv (v:=(.bool (decide (T<I)))) O (fun _ d=>Xw (congrArg Value.bool U) O) ?_;refine Wj ?_;intro _ d;replace d:=d.bl l;replace j:=j.gr d;replace g:=g.gr d;replace i:=i.grow d;exact ⟨O,_,_,a,i,j,g,O⟩
    refine qv (v:=(.bool false)) O (fun _ d=>X0 (congrArg Value.bool U) O) ?_;refine Wj ?_;intro _ d;replace d:=d.bl l;replace j:=j.gr d;replace g:=g.gr d;replace i:=i.grow d;exact ⟨O,_,_,a,i,j,g,O⟩
   refine Zp a (fun C a=>go ?_) fun C a=>go ?_
   ·cases a;exact ⟨O,Q8 p.heap.size [c,t] col l (fun h=>bif aH h 441 then t else bif aH h 440 then c else 0),n,o,O,i.finL O (fun h=>bif aH h 441 then t else bif aH h 440 then c else 0),i.finOwnL (g:=(fun h=>bif aH h 441 then t else bif aH h 440 then c else 0)) O (j.take (aA (i64.wrap ((b.length:Int) - 1)))) (by decide) (by decide) O,i.finBoxL (g:=(fun h=>bif aH h 441 then t else bif aH h 440 then c else 0)) g (by decide) (by decide) O⟩
   refine Ym (col:=l) [(0,1),(1,1),(2,1),(3,1),(4,1),(5,1),(6,1),(7,0),(8,1),(9,1),(10,1),(11,0),(12,1),(13,2),(14,1),(15,2)] (by kernel_rfl) (by kernel_rfl)<|xu O O (fun _=>V8 O) ?_;refine xu O O (fun _=>Wu O) ?_;refine xu O O (fun _=>V8 O) ?_;refine xu O O (fun _=>Wu O) ?_;refine xu O O (fun _=>V8 O) ?_;refine xu O O (fun _=>Wu O) ?_;obtain ⟨s,c,a⟩:=bZ a;refine xu O O (fun _=>Wd underlying146 sizeOf3 O O (Xo c).1 (Xo c).2.1 (j.addr c)) ?_;refine xW (fun _ d=>(j.gr (d.bl l)).atInt c) ?_;refine xu O O (fun _=>V8 O) ?_;refine xu O O (fun _=>Wu O) ?_;obtain ⟨G,F,a⟩:=bZ a;refine xu O O (fun _=>Wd underlying146 sizeOf3 O O (Xo F).1 (Xo F).2.1 (j.addr F)) ?_;refine xW (fun _ d=>(j.gr (d.bl l)).atInt F) ?_;refine xu O O (fun _=>Wd underlying146 sizeOf3 O O (Xo F).1 (Xo F).2.1 (j.addr F)) ?_;refine xe O O ?_;intro _ q;have d:=q.bl l;obtain ⟨u,L,a⟩:=bZ a;have L:u=m.set (aA w) s:=(Option.some.inj L).symm;refine Wc (x1:=s) (j.gr d) F ?_;intro U v W w;rw [← L] at w;refine .ld (d:=3) (v:=(.slice n u.length o)) (congrArg (fun h=>Value.slice n h o) (show m.length=u.length by rw [L,nS])) ?_;refine .ld (d:=63) (v:=(.slice n u.length o)) (congrArg (fun h=>Value.slice n h o) (show m.length=u.length by rw [L,nS])) ?_;replace g:=(g.gr d).kp v;replace g:Zi 146 440 l U k #[(.slice n ((u.take (aA (i64.wrap ((b.length:Int) - 1)))).length) o)]:=by rw [← (show (m.take (aA (i64.wrap ((b.length:Int) - 1)))).length=(u.take (aA (i64.wrap ((b.length:Int) - 1)))).length by rw [nK,nK,(show m.length=u.length by rw [L,nS])])];exact g
   refine Zj<|xk l ?_;obtain ⟨_,j,a⟩:=bZ a;refine xu O O (fun _=>Wd underlying146 sizeOf3 O O (Xo j).1 (Xo j).2.1 (w.addr j)) ?_;refine xe O O ?_;intro _ q;replace i:=(i.grow d).kp v W;have d:=q.bl l;obtain ⟨K,Z,a⟩:=bZ a;have Z:K=u.set (aA a3) G:=(Option.some.inj Z).symm;refine Wc (x1:=G) (w.gr d) j ?_;intro R m V p;rw [← Z] at p;refine .ld (d:=3) (v:=(.slice n K.length o)) (congrArg (fun h=>Value.slice n h o) (show u.length=K.length by rw [Z,nS])) ?_;replace g:=(g.gr d).kp m;replace g:Zi 146 440 l R k #[(.slice n ((K.take (aA (i64.wrap ((b.length:Int) - 1)))).length) o)]:=by rw [← (show (u.take (aA (i64.wrap ((b.length:Int) - 1)))).length=(K.take (aA (i64.wrap ((b.length:Int) - 1)))).length by rw [nK,nK,(show u.length=K.length by rw [Z,nS])])];exact g
   refine Zj<|xk l<|Yf ?_;replace i:=(i.grow d).kp m V;intro _ d;replace d:=d.bl l;refine go ?_;exact ⟨E,by omega,O,⟨_,_,_,_,_,_,O,a,i.grow d,p.gr d,g.gr d,O⟩⟩
theorem Z6t:Wk prog 3 1 8:=⟨Tryz.t3,_,rfl,rfl,rfl,rfl,rfl⟩
def Zij (b:List Int) (a:Int) (kk_L1:(List Int→Int→Option R2)) (d:Bool):Option R2:=
  if d=true then ((Zn b (i64.wrap (aM (i64.wrap (a - 1)) 2))).bind fun e=>(Zn b a).bind fun f=>(some (b.set (aA a) e)).bind fun c=>(Zn c (i64.wrap (aM (i64.wrap (a - 1)) 2))).bind fun i=>(some (c.set (aA (i64.wrap (aM (i64.wrap (a - 1)) 2))) f)).bind fun g=>kk_L1 g (i64.wrap (aM (i64.wrap (a - 1)) 2))) else (some b)
def Zca (N:Nat):Nat→R2→Int→Option R2
  | 0,_,_=>none
  | c+1,b,a=>if (decide (0<a))=true then ((Zn b a).bind fun d=>(Zn b (i64.wrap (aM (i64.wrap (a - 1)) 2))).bind fun e=>Zij b a (Zca N c) (decide (d<e))) else (Zij b a (Zca N c) false)
def Zii (N:Nat) (a:List Int) (b:Int):Option R2:=
  Z1 ((a.length+[b].length) * 8≤140737488355328∧a.length+[b].length≤maxLen) (Zca N N (a++[b]) (i64.wrap (((a++[b]).length:Int) - 1)))
theorem Zuu {N d W:Nat} {X:Option Addr} {col:Zg} {m:World} {E:R2} {D:Int} {r:R2} (c q:Nat) (a:Zii N E D=some r) (x:Za4 [c,q]=true) (n:Zb rI 3 q col m X W E) (k:Zi 146 c col m d #[.slice X E.length W]):
    Calls prog 124 #[.pointer (some ⟨d,0,none⟩),.int .i64 D] m (fun e w'=>∃ (col':Zg) (v:Option Addr) (u:Nat),e= .returned (.tuple #[])∧Zu (pS [c,q]) col m col' w'∧Zb rI 3 q col' w' v u r∧Zi 146 c col' w' d #[.slice v r.length u]):=by
 refine Zk1 (m:=66) (args:=[.pointer (some ⟨d,0,none⟩),.int .i64 D]) func124 O O O O ?_;rw [Zii.eq_1] at a;have h:=St.startL (l:=[c,q]) O col m;replace k:=k.startL (Zdj x 0 O) (Zdi x 0 O);replace n:=n.startL (Zdj x 1 O) (Zdi x 1 O);refine go ?_;refine lV (.pointer (some ⟨d,0,none⟩)) (Zau O)<|lW k.at1<|Xy O<|Vn (col:=(X7 [c,q] col)) [D] 1 ?_;intro _ F B Z G;obtain ⟨K,a⟩:=Z5 a;refine Zad (col:=B) (w:=F) (r:=rI) (c:=441) (c2:=441) ((n.gr Z).ex) (G.srcN (NB.int (k:=.i64))) O underlying146 Z6t O O O K.1 K.2 (by decide) fun L K _ H P Q=>lV (.pointer (some ⟨d,0,none⟩)) (Zau O) ?_;refine Ur (v:=(.slice L ((E++[D]).length) K)) ((k.gr Z).kpp P) sizeOf146 O O (Rv O O) O O ?_;intro x I J f;replace f:Zi 146 440 H x d #[.slice L ((E++[D]).length) K]:=f;have E:=(Q.kp I).new;refine go ?_;refine lV (.pointer (some ⟨d,0,none⟩)) (Zau O)<|lW f.at1<|go ?_;replace h:=((h.grow Z).kpp P).kp I J;refine Z0 [0,1000000] (fun j C J=>∃ o s t p l z,z=j∧Zca N z p l=some r∧St m (X7 [c,q] col) o J∧Zb rI 3 441 o J s t p∧Zi 146 440 o J d #[.slice s p.length t]∧[4].map C=[.int .i64 l]) N ⟨_,_,_,_,_,_,O,a,h,E,f,O⟩ ?_;clear a;intro j C J y;obtain ⟨o,s,t,p,l,z,w,a,h,i,f,A⟩:=y;subst w;refine .lL [4] A ?_
 cases z with
 | zero=>rw [Zca.eq_1] at a;cases a
 | succ z=>
  rw [Zca.eq_2] at a;refine Zw<|Zw ?_;refine Wp.cutK [0,4,1000000] (fun C G=>∃ g V,Zij p l (Zca N z) V=some r∧St m (X7 [c,q] col) g G∧Zb rI 3 441 g G s t p∧Zi 146 440 g G d #[.slice s p.length t]∧[36].map C=[.bool V]) ?_ ?_
  ·intro C G v;obtain ⟨g,V,a,h,i,f,A⟩:=v;rw [Zij.eq_1] at a;refine .lL [36] A ?_;refine Zp a (fun u a=>go ?_) fun u a=>go ?_
   ·refine Ym (col:=g) [(0,1),(1,1),(2,0),(3,1),(4,1),(5,1),(6,0),(7,1),(8,1),(9,1),(10,1),(11,1),(12,0),(13,1),(14,1),(15,1),(16,1),(17,0),(18,1),(19,1),(20,0),(21,1),(22,1),(23,0),(24,1),(25,2),(26,1),(27,2)] (by kernel_rfl) (by kernel_rfl)<|xu O O (fun _=>Zp0 O) ?_;refine xu (v:=(.pointer (some ⟨d,0,none⟩))) O O (fun _=>Zau O) ?_;refine xW (fun _ b=>f.at1.gr (b.bl g)) ?_;refine xu O O (fun _=>Wu O) ?_;refine xu O O (fun _=>Zp0 O) ?_;refine xu (v:=(.pointer (some ⟨d,0,none⟩))) O O (fun _=>Zau O) ?_;refine xW (fun _ b=>f.at1.gr (b.bl g)) ?_;refine xu O O (fun _=>Wu O) ?_;refine xu O O (fun _=>Zp1 _ _ O O) ?_;refine xu (v:=(.int .i64 (i64.wrap (aM (i64.wrap (l - 1)) 2)))) O O (fun _=>Vm (i64.wrap (l - 1)) 2 O O (by decide)) ?_;refine xu O O (fun _=>Zp0 O) ?_;refine xu (v:=(.pointer (some ⟨d,0,none⟩))) O O (fun _=>Zau O) ?_;refine xW (fun _ b=>f.at1.gr (b.bl g)) ?_;refine xu O O (fun _=>Wu O) ?_;refine xu O O (fun _=>Zp1 _ _ O O) ?_;refine xu (v:=(.int .i64 (i64.wrap (aM (i64.wrap (l - 1)) 2)))) O O (fun _=>Vm (i64.wrap (l - 1)) 2 O O (by decide)) ?_;obtain ⟨R,F,a⟩:=bZ a;refine xu O O (fun _=>Wd underlying146 sizeOf3 O O (Xo F).1 (Xo F).2.1 (i.addr F)) ?_;refine xW (fun _ b=>(i.gr (b.bl g)).atInt F) ?_;refine xu O O (fun _=>Zp0 O) ?_;refine xu (v:=(.pointer (some ⟨d,0,none⟩))) O O (fun _=>Zau O) ?_;refine xW (fun _ b=>f.at1.gr (b.bl g)) ?_;refine xu O O (fun _=>Wu O) ?_;obtain ⟨S,w,a⟩:=bZ a;refine xu O O (fun _=>Wd underlying146 sizeOf3 O O (Xo w).1 (Xo w).2.1 (i.addr w)) ?_;refine xW (fun _ b=>(i.gr (b.bl g)).atInt w) ?_;refine xu O O (fun _=>Wd underlying146 sizeOf3 O O (Xo w).1 (Xo w).2.1 (i.addr w)) ?_;refine xe O O ?_;intro _ n;have b:=n.bl g;obtain ⟨y,B,a⟩:=bZ a;have B:y=p.set (aA l) R:=(Option.some.inj B).symm;replace i:=i.gr b;refine Wc (x1:=R) i w ?_;intro A Q I k;rw [← B] at k;refine .ld (d:=46) (v:=(.slice s y.length t)) (congrArg (fun j=>Value.slice s j t) (show p.length=y.length by rw [B,nS])) ?_;replace f:=(f.gr b).kp Q;replace f:Zi 146 440 g A d #[.slice s y.length t]:=by rw [← (show p.length=y.length by rw [B,nS])];exact f
    refine Zj<|xk g ?_;obtain ⟨_,M,a⟩:=bZ a;refine xu O O (fun _=>Wd underlying146 sizeOf3 O O (Xo M).1 (Xo M).2.1 (k.addr M)) ?_;refine xe O O ?_;intro _ n;replace h:=(h.grow b).kp Q I;have b:=n.bl g;obtain ⟨Y,L,a⟩:=bZ a;have L:Y=y.set (aA (i64.wrap (aM (i64.wrap (l - 1)) 2))) S:=(Option.some.inj L).symm;refine Wc (x1:=S) (k.gr b) M ?_;intro p H C M;rw [← L] at M;replace f:=(f.gr b).kp H;replace f:Zi 146 440 g p d #[.slice s Y.length t]:=by rw [← (show y.length=Y.length by rw [L,nS])];exact f
    refine Zj<|xk g<|Yf ?_;replace h:=(h.grow b).kp H C;intro _ b;replace b:=b.bl g;refine go ?_;refine lV (.int .i64 (i64.wrap (aM (i64.wrap (l - 1)) 2))) (Vm (i64.wrap (l - 1)) 2 O O (by decide))<|go ?_;replace f:=f.gr b;replace h:=h.grow b;exact ⟨z,by omega,O,⟨_,_,_,_,_,_,O,a,h,M.gr b,f,O⟩⟩
   cases a;exact ⟨O,Q8 m.heap.size [c,q] col g (fun j=>bif aH j 441 then q else bif aH j 440 then c else 0),s,t,O,h.finL O (fun j=>bif aH j 441 then q else bif aH j 440 then c else 0),h.finOwnL (g:=(fun j=>bif aH j 441 then q else bif aH j 440 then c else 0)) O i (by decide) (by decide) O,h.finBoxL (g:=(fun j=>bif aH j 441 then q else bif aH j 440 then c else 0)) f (by decide) (by decide) O⟩
  refine Vp (col:=o) (by kernel_rfl) (by kernel_rfl)<|go ?_;refine X9 a (fun c a=>go ?_) fun c a=>go ?_
  ·refine qv (v:=(.pointer (some ⟨d,0,none⟩))) O (fun _ b=>Zau O) ?_;refine go ?_;refine qW (fun _ b=>f.at1.gr (b.bl o)) ?_;refine go ?_;obtain ⟨g,T,a⟩:=bZ a;refine qI T (i.addr T) ?_;refine go ?_;refine qW (fun _ b=>(i.gr (b.bl o)).atInt T) ?_;refine go ?_;refine qv (v:=(.pointer (some ⟨d,0,none⟩))) O (fun _ b=>Zau O) ?_;refine go ?_;refine qW (fun _ b=>f.at1.gr (b.bl o)) ?_;refine go ?_;refine qv (v:=(.int .i64 (i64.wrap (aM (i64.wrap (l - 1)) 2)))) O (fun _ b=>Vm (i64.wrap (l - 1)) 2 O O (by decide)) ?_;refine go ?_;obtain ⟨d,U,a⟩:=bZ a;refine qI U (i.addr U) ?_;refine go ?_;refine qW (fun _ b=>(i.gr (b.bl o)).atInt U) ?_;refine go ?_;refine qv (v:=(.bool (decide (g<d)))) O (fun _ b=>Xw (congrArg Value.bool c) O) ?_;refine Wj ?_;intro _ b;replace b:=b.bl o;replace i:=i.gr b;replace f:=f.gr b;replace h:=h.grow b;exact ⟨O,_,_,a,h,i,f,O⟩
  refine qv (v:=(.bool false)) O (fun _ b=>X0 (congrArg Value.bool c) O) ?_;refine Wj ?_;intro _ b;replace b:=b.bl o;exact ⟨O,_,_,a,h.grow b,i.gr b,f.gr b,O⟩
def Zil (kk_L3:(List Int→R2→Option R2)) (a b:List Int):Option R2:=
  kk_L3 a b
def Zbg (N:Nat) (d:List Int) (kk_L2:(List Int→R2→R2→Option R2)) (e:R5):List Int→R2→R2→Option R2
  | [],a,b=>kk_L2 a b (d++[e.1])
  | c :: g,a,b=>(Zn a c).bind fun i=>(some (a.set (aA c) (i64.wrap (i - 1)))).bind fun f=>(Zn f c).bind fun j=>if (decide (j=0))=true then ((Zii N b c).bind fun k=>Zil (Zbg N d kk_L2 e g) f k) else (Zil (Zbg N d kk_L2 e g) f b)
def T9 (N:Nat) (c:R8):Nat→R2→R2→R2→Option R2
  | 0,_,_,_=>none
  | e+1,f,d,b=>if (decide (0<(d.length:Int)))=true then ((Zlo N d).bind fun a=>Z1 ((b.length+[a.1].length) * 8≤140737488355328∧b.length+[a.1].length≤maxLen) ((Zn c a.1).bind fun g=>Zbg N b (T9 N c e) a g f a.2)) else (some b)
def Zim (a:Nat) (kk_L1:(Nat→R2→R2→Option R2)) (b c:List Int):Option R2:=
  kk_L1 (a+1) b c
def Zbf (N:Nat) (d:R8):List R2→Nat→R2→R2→Option R2
  | [],a,b,c=>T9 N d N b c ([]:List Int)
  | e :: f,a,b,c=>(Zn b (a:Int)).bind fun j=>(some (b.set (aA (a:Int)) (e.length:Int))).bind fun g=>if (decide ((e.length:Int)=0))=true then ((Zii N c (a:Int)).bind fun i=>Zim a (Zbf N d f) g i) else (Zim a (Zbf N d f) g c)
def Zik (N:Nat) (a:R8) (b:R8):Option R2:=
  Z1 (a.length * 8≤281474976710656∧a.length≤maxLen) (Zbf N b a 0 (aC a.length (0:Int)) ([]:List Int))
theorem Z3y {N B C:Nat} {W p:Option Addr} {col:Zg} {d:World} {j l:R8} {r:R2} (c1:Nat) (a:Zik N j l=some r) (u:Sl rP col d W B j) (K:Sl rP col d p C l):
    Calls prog 77 #[.slice W j.length B,.slice p l.length C] d (Vl .i64 3 c1 col d r):=by
 refine Xk 4 (m:=66) func77 O O O O O ?_;rw [Zik.eq_1] at a;have b:=St.start col d;refine go ?_;obtain ⟨V,a⟩:=Z5 a;refine T6 (col:=(Zk col)) (w:=d) (r:=rI) (n:=j.length) (x0:=0) 1 O underlying28 Tryz.t3 O O O O O O O V.1 V.2 (Tx .i64 0) fun _ _ F P Q=>go ?_;refine Za5 (col:=F) (v:=(nI)) 2 O zeroValue146 ?_;intro Z G D E g;replace g:Zi 146 2 D G Z #[(nI)]:=g;refine go ?_;replace b:=(b.grow P).grow E;refine Z0 [1,16,17,6,1000000] (fun k f R=>∃ S x bl cw cx C D F U,k=U.length∧j.drop x=U∧Zbf N l U x cx F=some r∧St d (Zk col) S R∧Zb rI 3 1 S R bl cw cx∧Zb rI 3 3 S R C D F∧Zi 146 2 S R Z #[.slice C F.length D]∧[18,5].map f=[.int .i64 x,.slice bl cx.length cw]) j.length ⟨_,0,_,_,_,none,0,_,_,O,O,a,b,Q.gr E,Zb.nil,g,O⟩ ?_;clear a;intro k f R A;obtain ⟨S,x,bl,cw,cx,C,D,F,U,q,s,a,b,au,c2,g,e⟩:=A;subst q;refine .lL [18,5] e ?_;replace u:=u.k0;replace K:=K.k0
 cases U with
 | nil=>
  have i:¬ ((x:Int)<(j.length:Int)):=by have:=aF.1 s;omega
  have c:=decide_eq_false i;rw [Zbf.eq_1] at a;refine go ?_;refine Yd (congrArg Value.bool c)<|go ?_;refine Z0 [1,6,1000000] (fun k f V=>∃ W E F G I M H P Q w v,v=k∧T9 N l v G H w=some r∧St d (Zk col) W V∧Zb rI 3 1 W V E F G∧Zb rI 3 3 W V I M H∧Zi 146 2 W V Z #[.slice I H.length M]∧Zb rI 3 4 W V P Q w∧[5,9].map f=[.slice E G.length F,.slice P w.length Q]) N ⟨_,_,_,_,_,_,_,none,0,_,_,O,a,b,au,c2,g,Zb.nil,O⟩ ?_;clear a;intro k f V A;obtain ⟨W,E,F,G,I,M,H,P,Q,w,v,q,a,b,a3,b5,g,L,e⟩:=A;subst q;refine .lL [5,9] e ?_
  cases v with
  | zero=>rw [T9.eq_1] at a;cases a
  | succ v=>
   rw [T9.eq_2] at a;refine go ?_;refine lW g.at1<|go ?_;refine Zp a (fun t a=>go ?_) fun t a=>go ?_
   ·obtain ⟨c3,H,a⟩:=bZ a;refine Zh (Z3x 2 3 H O b5 g) ?_;rintro _ cy ⟨b7,cz,c0,rfl,a4,a5,n⟩;refine ⟨_,O,go ?_⟩;refine Vn (col:=b7) [c3.1] 5 ?_;intro _ _ _ y I;obtain ⟨M,a⟩:=Z5 a;replace L:=(L.kpp a4).gr y;refine Vw L (I.srcN (NB.int (k:=.i64))) M fun br bs _ _ J m=>go ?_;obtain ⟨X,p,a⟩:=bZ a;replace b:=((b.kpp a4).grow y).kpp J;refine lI p ((K.ks b).addr p) ?_;obtain ⟨_,ca,cb⟩:=(K.ks b).atN p;obtain ⟨⟨bt,bu,rfl,h⟩,_⟩:=ca;refine lW cb.one<|go ?_;replace n:=(n.gr y).kpp J;refine Z0 [1,45,46,6,9,1000000] (fun k f Q=>∃ R z c4 c5 Y G H I o,k=o.length∧X.drop z=o∧Zbg N w (T9 N l v) c3 o Y I=some r∧St d (Zk col) R Q∧Sl rI R Q bt bu X∧Zb rI 3 1 R Q c4 c5 Y∧Zb rI 3 3 R Q G H I∧Zi 146 2 R Q Z #[.slice G I.length H]∧Zb rI 3 4 R Q br bs (w++[c3.1])∧[47,5].map f=[.int .i64 z,.slice c4 Y.length c5]) X.length ⟨_,0,_,_,_,_,_,_,_,O,O,a,b,h,((a3.kpp a4).gr y).kpp J,(a5.gr y).kpp J,n,m,O⟩ ?_;clear a;intro k f Q A;obtain ⟨R,z,c4,c5,Y,G,H,I,o,q,s,a,b,h,c6,c7,n,m,e⟩:=A;subst q;refine .lL [47,5] e ?_
    cases o with
    | nil=>
     have i:¬ ((z:Int)<(X.length:Int)):=by have:=aF.1 s;omega
     have c:=decide_eq_false i;rw [Zbg.eq_1] at a;refine go ?_;refine Yd (congrArg Value.bool c)<|go ?_;exact ⟨v,by omega,O,⟨_,_,_,_,_,_,_,_,_,_,_,O,a,b,c6,c7,n,m,O⟩⟩
    | cons W K=>
     obtain ⟨T,U,V⟩:=Yo s;have i:(z:Int)<(X.length:Int):=by omega
     have c:=decide_eq_true i;rw [Zbg.eq_2] at a;refine go ?_;refine Ye (congrArg Value.bool c)<|X1<|Zw ?_;refine Wp.cutK [1,45,46,47,6,9,1000000] (fun f M=>∃ P y z D A B E,Zil (Zbg N w (T9 N l v) c3 K) D E=some r∧St d (Zk col) P M∧Sl rI P M bt bu X∧Zb rI 3 1 P M y z D∧Zb rI 3 3 P M A B E∧Zi 146 2 P M Z #[.slice A E.length B]∧Zb rI 3 4 P M br bs (w++[c3.1])∧[5].map f=[.slice y D.length z]) ?_ ?_
     ·intro f M hJ;obtain ⟨P,y,z,D,A,B,E,a,b,h,q,v,n,m,e⟩:=hJ;rw [Zil.eq_1] at a;refine .lL [5] e<|go ?_;exact ⟨K.length,by simp,O,⟨_,_,_,_,_,_,_,_,_,O,U,a,b,h,q,v,n,m,(Yv (congrArg (Value.int .i64) (Yp (aG V h.1.1))) O)⟩⟩
     refine go ?_;refine lI T (h.addr T)<|lW (h.atInt T) ?_;refine go ?_;obtain ⟨w,U,a⟩:=bZ a;refine lI U (c6.addr U)<|lW (c6.atInt U) ?_;refine go ?_;refine lI U (c6.addr U) ?_;obtain ⟨q,B,a⟩:=bZ a;have B:q=Y.set (aA W) (i64.wrap (w - 1)):=(Option.some.inj B).symm;refine Wc (x1:=i64.wrap (w - 1)) c6 U ?_;intro _ v K S;rw [← B] at S;refine .ld (d:=5) (v:=(.slice c4 q.length c5)) (congrArg (fun k=>Value.slice c4 k c5) (show Y.length=q.length by rw [B,nS])) ?_;refine go ?_;obtain ⟨_,o,a⟩:=bZ a;refine lI o (S.addr o)<|lW (S.atInt o) ?_;refine go ?_;replace h:=h.kp v;replace c7:=c7.kp v;replace m:=m.kp v;replace n:=n.kp v;replace b:=b.kp v K;refine Zp a (fun t a=>go ?_) fun t a=>?_
     ·obtain ⟨_,X,a⟩:=bZ a;refine Zh (Zuu 2 3 X O c7 n) fun _ _ ⟨_,_,_,e0,y,w,J⟩=>⟨_,e0,?_⟩;refine Zj ?_;replace h:=h.kpp y;replace S:=S.kpp y;replace m:=m.kpp y;replace b:=b.kpp y;exact ⟨O,_,_,_,_,_,_,_,a,b,h,S,w,J,m,O⟩
     refine X1 ?_;exact ⟨O,_,_,_,_,_,_,_,a,b,h,S,c7,n,m,O⟩
   cases a;exact ⟨O,_,_,_,O,b.fin (cm [(4,c1)]),b.fo L⟩
 | cons bx J=>
  obtain ⟨T,R,S⟩:=Yo s;have i:(x:Int)<(j.length:Int):=by omega
  have c:=decide_eq_true i;rw [Zbf.eq_2] at a;refine go ?_;refine Ye (congrArg Value.bool c)<|X1<|Zw ?_;refine Wp.cutK [1,16,17,18,6,1000000] (fun f s=>∃ o h i z m n A,Zim x (Zbf N l J) z A=some r∧St d (Zk col) o s∧Zb rI 3 1 o s h i z∧Zb rI 3 3 o s m n A∧Zi 146 2 o s Z #[.slice m A.length n]∧[5].map f=[.slice h z.length i]) ?_ ?_
  ·intro f s hJ;obtain ⟨o,h,i,z,m,n,A,a,b,L,Y,g,e⟩:=hJ;rw [Zim.eq_1] at a;refine .lL [5] e<|go ?_;exact ⟨J.length,by simp,O,⟨_,_,_,_,_,_,_,_,_,O,R,a,b,L,Y,g,(Yv (congrArg (Value.int .i64) (Yp (aG S (u.ks b).1.1))) O)⟩⟩
  refine go ?_;refine lI T ((u.ks b).addr T) ?_;obtain ⟨_,cq,cr⟩:=(u.ks b).atN T;obtain ⟨⟨_,_,rfl,_⟩,_⟩:=cq;refine lW cr.one<|go ?_;obtain ⟨_,c,a⟩:=bZ a;refine lI c (au.addr c) ?_;obtain ⟨e,C,a⟩:=bZ a;have C:e=cx.set (aA (x:Int)) (bx.length:Int):=(Option.some.inj C).symm;refine Wc (x1:=(bx.length:Int)) au c ?_;intro _ d x p;rw [← C] at p;refine .ld (d:=5) (v:=(.slice bl e.length cw)) (congrArg (fun k=>Value.slice bl k cw) (show cx.length=e.length by rw [C,nS])) ?_;refine go ?_;replace c2:=c2.kp d;replace g:=g.kp d;replace b:=b.kp d x;refine Zp a (fun t a=>go ?_) fun t a=>?_
  ·obtain ⟨_,k,a⟩:=bZ a;refine Zh (Zuu 2 3 k O c2 g) fun _ _ ⟨_,_,_,e0,f,t,u⟩=>⟨_,e0,?_⟩;refine Zj ?_;replace p:=p.kpp f;replace b:=b.kpp f;exact ⟨O,_,_,_,_,_,_,_,a,b,p,t,u,O⟩
  refine X1 ?_;exact ⟨O,_,_,_,_,_,_,_,a,b,p,c2,g,O⟩
def Tr (N:Nat) (a:R8):Option R9:=
  (Zif a).bind fun b=>if (!decide (b=0))=true then (some (([]:List Int),b)) else ((Zie a).bind fun d=>(Zik N a d).bind fun c=>if (decide ((c.length:Int)<(a.length:Int)))=true then (some (([]:List Int),42)) else (some (c,0)))
theorem Zn1 {N d:Nat} {k:Option Addr} {col:Zg} {j:World} {b:R8} {r:R9} (n:Nat) (a:Tr N b=some r) (i:Sl rP col j k d b):
    Calls prog 31 #[.slice k b.length d] j (fun e w'=>∃ (col':Zg) (g:Option Addr) (f:Nat),e= .returned (.tuple #[.slice g r.1.length f,.int .i64 r.2])∧Zl col j col' w'∧Zb rI 3 n col' w' g f r.1):=by
 refine Zde 2 3 (m:=21) (args:=[.slice k b.length d]) func31 O O O O O ?_;rw [Tr.eq_1] at a;have c:=St.start col j;refine go ?_;obtain ⟨_,t,a⟩:=bZ a;replace i:=i.k0;refine Zh (Z3w t (i.ks c)) fun _ _ ⟨h,o⟩=>⟨_,h,?_⟩;replace o:=Ru (Zk col) o;refine go ?_;replace c:=c.grow o;refine Zp a (fun l a=>go ?_) fun l a=>go ?_
 ·cases a;exact ⟨O,_,none,0,O,c.fin (cm []),Zb.nil⟩
 obtain ⟨_,s,a⟩:=bZ a;refine Zh (Z3v 1 s (i.ks c)) fun _ y ⟨p,_,_,h,v,w⟩=>⟨_,h,?_⟩;obtain ⟨_,u,a⟩:=bZ a;replace c:=c.grow v;refine Zh (Z3y 2 u ((i.ks c).froz 1) (w.toSlF (Ze.row (Ze.int .i64)))) fun _ _ ⟨x,_,_,h,m,q⟩=>⟨_,h,?_⟩;replace q:=q.thaw (Zt .i64) m ((Fz.refl (col:=p)).froz 1);replace m:=m.thawR (col:=p);generalize Z2 y.heap.size p x=z at *;refine go ?_;replace c:=c.grow m;refine Zp a (fun l a=>go ?_) fun l a=>go ?_
 ·cases a;exact ⟨O,_,none,0,O,c.fin (cm []),Zb.nil⟩
 cases a;exact ⟨O,_,_,_,O,c.fin (cm [(2,n)]),c.fo q⟩
def Zal (N:Nat) (a:R8):Option Int:=
  (Tr N a).bind fun b=>some b.2
theorem Z3u {N d:Nat} {e:Option Addr} {col:Zg} {a:World} {c:R8} {r:Int} (b:Zal N c=some r) (h:Sl rP col a e d c):
    Calls prog 70 #[.slice e c.length d] a (W8 a r):=by
 refine Xk 2 (m:=11) func70 O O O O O ?_;rw [Zal.eq_1] at b;have k:=St.start col a;refine go ?_;obtain ⟨f,l,b⟩:=bZ b;refine Zh (Zn1 1 l (h.k0.ks k)) fun _ _ ⟨_,i,j,g,m,_⟩=>⟨_,g,?_⟩;refine lM (.tuple #[.slice i f.1.length j,.int .i64 f.2])<|lV (.slice i f.1.length j) (Xl O O)<|lV (.int .i64 f.2) (Xl O O)<|go ?_;cases b;exact ⟨O,O,(k.grow m).below⟩
def Zju (a:Int) (kk_L2:(Int→Option Bool)) (b:Bool):Option Bool:=
  if b=true then (some false) else (kk_L2 (i64.wrap (a+1)))
def Zcu (N:Nat) (a:R8) (b:Int) (kk_L1:(Int→Option Bool)):Nat→Int→Option Bool
  | 0,_=>none
  | d+1,c=>(Zn a b).bind fun e=>if (decide (c<(e.length:Int)))=true then ((Zn e c).bind fun f=>if (decide (f<0))=true then (Zju c (Zcu N a b kk_L1 d) true) else (Zju c (Zcu N a b kk_L1 d) (decide ((a.length:Int)≤f)))) else (kk_L1 (i64.wrap (b+1)))
def Zbo (N:Nat) (a:R8):Nat→Int→Option Bool
  | 0,_=>none
  | c+1,b=>if (decide (b<(a.length:Int)))=true then (Zcu N a b (Zbo N a c) N 0) else (some true)
def Zjt (N:Nat) (a:R8):Option Bool:=
  Zbo N a N 0
theorem Z40 {N q:Nat} {o:Option Addr} {col:Zg} {d:World} {b:R8} {r:Bool} (a:Zjt N b=some r) (e:Sl rP col d o q b):
    Calls prog 106 #[.slice o b.length q] d (V6 d r):=by
 refine Xk 2 (m:=36) func106 O O O O O ?_;rw [Zjt.eq_1] at a;have c:=St.start col d;refine go ?_;refine Z0 [0,1000000] (fun m h z=>∃ A n i,i=m∧Zbo N b i n=some r∧St d (Zk col) A z∧[3].map h=[.int .i64 n]) N ⟨_,0,_,O,a,c,O⟩ ?_;clear a;intro m h z v;obtain ⟨A,n,i,l,a,c,g⟩:=v;subst l;refine .lL [3] g ?_;replace e:=e.k0
 cases i with
 | zero=>rw [Zbo.eq_1] at a;cases a
 | succ i=>
  rw [Zbo.eq_2] at a;refine go ?_;refine Zp a (fun f a=>go ?_) fun f a=>go ?_
  ·refine Z0 [0,3,1000000] (fun m h B=>∃ C p j,j=m∧Zcu N b n (Zbo N b i) j p=some r∧St d (Zk col) C B∧[4].map h=[.int .i64 p]) N ⟨_,0,_,O,a,c,O⟩ ?_;clear a;intro m h B v;obtain ⟨C,p,j,l,a,c,g⟩:=v;subst l;refine .lL [4] g ?_
   cases j with
   | zero=>rw [Zcu.eq_1] at a;cases a
   | succ j=>
    rw [Zcu.eq_2] at a;refine go ?_;obtain ⟨_,k,a⟩:=bZ a;refine lI k ((e.ks c).addr k) ?_;obtain ⟨_,E,G⟩:=(e.ks c).atN k;obtain ⟨⟨_,_,rfl,_⟩,_⟩:=E;refine lW G.one<|go ?_;refine Zp a (fun f a=>go ?_) fun f a=>go ?_
    ·refine lI k ((e.ks c).addr k) ?_;obtain ⟨_,F,H⟩:=(e.ks c).atN k;obtain ⟨⟨_,_,rfl,w⟩,_⟩:=F;refine lW H.one<|Xy O ?_;obtain ⟨I,s,a⟩:=bZ a;refine lI s (w.addr s)<|lW (w.atInt s)<|Yr O<|Zj<|Zw ?_;refine Wp.cutK [0,3,4,1000000] (fun h x=>∃ y t,Zju p (Zcu N b n (Zbo N b i) j) t=some r∧St d (Zk col) y x∧[35].map h=[.bool t]) ?_ ?_
     ·intro h x D;obtain ⟨y,t,a,c,g⟩:=D;rw [Zju.eq_1] at a;refine .lL [35] g ?_;refine Zp a (fun f a=>go ?_) fun f a=>go ?_
      ·cases a;exact ⟨O,O,c.below⟩
      exact ⟨j,by omega,O,⟨_,_,_,O,a,c,O⟩⟩
     refine go ?_;refine X9 a (fun u a=>go ?_) fun u a=>go ?_
     ·refine lV (.bool true) (Xw (congrArg Value.bool u) O)<|Zj ?_;exact ⟨O,_,_,a,c,O⟩
     refine lV (.bool (decide ((b.length:Int)≤I))) (X0 (congrArg Value.bool u) O)<|Zj ?_;exact ⟨O,_,_,a,c,O⟩
    exact ⟨i,by omega,O,⟨_,_,_,O,a,c,O⟩⟩
  cases a;exact ⟨O,O,c.below⟩
def Zgj (N:Nat) (a:List Int) (c:Int):Nat→Int→Option Bool
  | 0,_=>none
  | d+1,b=>if (decide (b<(a.length:Int)))=true then ((Zn a b).bind fun e=>if (decide (e=c))=true then (some true) else ((Zgj N a c d) (i64.wrap (b+1)))) else (some false)
def Zgi (N:Nat) (a:List Int) (b:Int):Option Bool:=
  Zgj N a b N 0
theorem Zq5 {N j:Nat} {i:Option Addr} {col:Zg} {b:World} {c:R2} {d:Int} {r:Bool} (a:Zgi N c d=some r) (e:Sl rI col b i j c):
    Calls prog 145 #[.slice i c.length j,.int .i64 d] b (V6 b r):=by
 refine Xk 4 (m:=18) func145 O O O O O ?_;rw [Zgi.eq_1] at a;have f:=St.start col b;refine go ?_;refine Z0 [0,1,1000000] (fun o p q=>∃ s l g,g=o∧Zgj N c d g l=some r∧St b (Zk col) s q∧[5].map p=[.int .i64 l]) N ⟨_,0,_,O,a,f,O⟩ ?_;clear a;intro o p q t;obtain ⟨s,l,g,m,a,f,n⟩:=t;subst m;refine .lL [5] n ?_;replace e:=e.k0
 cases g with
 | zero=>rw [Zgj.eq_1] at a;cases a
 | succ g=>
  rw [Zgj.eq_2] at a;refine go ?_;refine Zp a (fun h a=>go ?_) fun h a=>go ?_
  ·obtain ⟨_,k,a⟩:=bZ a;refine lI k ((e.ks f).addr k)<|lW ((e.ks f).atInt k) ?_;refine go ?_;refine Zp a (fun h a=>go ?_) fun h a=>go ?_
   ·cases a;exact ⟨O,O,f.below⟩
   exact ⟨g,by omega,O,⟨_,_,_,O,a,f,O⟩⟩
  cases a;exact ⟨O,O,f.below⟩
def Zgk (N:Nat) (d:R8) (c:Int) (kk_L1:(Int→Option Bool)):Nat→Int→Option Bool
  | 0,_=>none
  | e+1,a=>(Zn d c).bind fun b=>if (decide (a<(b.length:Int)))=true then (Z1 ((0:Int)≤a∧a≤(b.length:Int)) ((Zn b a).bind fun f=>(Zgi N (b.take (aA a)) f).bind fun g=>if g=true then (some true) else ((Zgk N d c kk_L1 e) (i64.wrap (a+1))))) else (kk_L1 (i64.wrap (c+1)))
def Zcw (N:Nat) (a:R8):Nat→Int→Option Bool
  | 0,_=>none
  | c+1,b=>if (decide (b<(a.length:Int)))=true then (Zgk N a b (Zcw N a c) N 0) else (some false)
def Zjx (N:Nat) (a:R8):Option Bool:=
  Zcw N a N 0
theorem Z42 {N w:Nat} {q:Option Addr} {col:Zg} {e:World} {k:R8} {r:Bool} (a:Zjx N k=some r) (c:Sl rP col e q w k):
    Calls prog 107 #[.slice q k.length w] e (V6 e r):=by
 refine Xk 2 (m:=34) func107 O O O O O ?_;rw [Zjx.eq_1] at a;have b:=St.start col e;refine go ?_;refine Z0 [0,1000000] (fun i p A=>∃ C s l,l=i∧Zcw N k l s=some r∧St e (Zk col) C A∧[3].map p=[.int .i64 s]) N ⟨_,0,_,O,a,b,O⟩ ?_;clear a;intro i p A y;obtain ⟨C,s,l,n,a,b,o⟩:=y;subst n;refine .lL [3] o ?_;replace c:=c.k0
 cases l with
 | zero=>rw [Zcw.eq_1] at a;cases a
 | succ l=>
  rw [Zcw.eq_2] at a;refine go ?_;refine Zp a (fun g a=>go ?_) fun g a=>go ?_
  ·refine Z0 [0,3,1000000] (fun i p D=>∃ h j m,m=i∧Zgk N k s (Zcw N k l) m j=some r∧St e (Zk col) h D∧[4].map p=[.int .i64 j]) N ⟨_,0,_,O,a,b,O⟩ ?_;clear a;intro i p D y;obtain ⟨h,j,m,n,a,b,o⟩:=y;subst n;refine .lL [4] o ?_
   cases m with
   | zero=>rw [Zgk.eq_1] at a;cases a
   | succ m=>
    rw [Zgk.eq_2] at a;refine go ?_;obtain ⟨E,f,a⟩:=bZ a;refine lI f ((c.ks b).addr f) ?_;obtain ⟨_,H,K⟩:=(c.ks b).atN f;obtain ⟨⟨_,_,rfl,_⟩,_⟩:=H;refine lW K.one<|go ?_;refine Zp a (fun g a=>go ?_) fun g a=>go ?_
    ·refine Vp (col:=h) (by kernel_rfl) (by kernel_rfl)<|go ?_;refine qI f ((c.ks b).addr f) ?_;obtain ⟨_,I,L⟩:=(c.ks b).atN f;obtain ⟨⟨v,x,rfl,F⟩,_⟩:=I;refine qW (fun _ d=>L.one.gr (d.bl h)) ?_;refine go ?_;obtain ⟨u,a⟩:=Z5 a;refine qv (v:=.slice v (aA j) x) O (fun _ d=>Zkg underlying28 sizeOf3 O O u.1 (by have:=F.1.2;have:=u.2;omega)) ?_;refine .ld (d:=25) (v:=(.slice v ((E.take (aA j)).length) x)) (congrArg (fun i=>Value.slice v i x) (dY (show (aA j)≤E.length by have:=u.2;omega)).symm) ?_;refine go ?_;refine qI f ((c.ks b).addr f) ?_;obtain ⟨_,J,M⟩:=(c.ks b).atN f;obtain ⟨⟨_,_,rfl,B⟩,_⟩:=J;refine qW (fun _ d=>M.one.gr (d.bl h)) ?_;refine go ?_;obtain ⟨_,t,a⟩:=bZ a;refine qI t (B.addr t)<|qW (fun _ d=>(B.gr (d.bl h)).atInt t) ?_;obtain ⟨G,P,a⟩:=bZ a;refine qc (v:=(.bool G)) O (fun _ d=>⟨_,_,Zg1 call145 O O,(Zq5 P ((F.take (aA j)).gr (d.bl h)):).mono fun _ _ z=>⟨z.1,d.trans (.of_below z.2)⟩⟩) ?_;refine Wj ?_;intro _ d;replace b:=b.grow (d.bl h);refine Zp a (fun g a=>go ?_) fun g a=>go ?_
     ·cases a;exact ⟨O,O,b.below⟩
     exact ⟨m,by omega,O,⟨_,_,_,O,a,b,O⟩⟩
    exact ⟨l,by omega,O,⟨_,_,_,O,a,b,O⟩⟩
  cases a;exact ⟨O,O,b.below⟩
def Zjv (a:Int) (kk_L2:(Int→Int→Option R2)) (b:Int):Option R2:=
  kk_L2 b (i64.wrap (a+1))
def Zjw (a:Int) (kk_L3:(Bool→Int→Option R2)) (b:Bool):Option R2:=
  kk_L3 b (i64.wrap (a+1))
def Zcv (N:Nat) (c:R8) (d:List Int) (e a:Int) (kk_L2:(Int→Int→Option R2)):Nat→Bool→Int→Option R2
  | 0,_,_=>none
  | f+1,g,b=>(Zn c a).bind fun i=>if (decide (b<(i.length:Int)))=true then (if g=true then ((Zn i b).bind fun j=>(Zgi N d j).bind fun k=>Zjw b (Zcv N c d e a kk_L2 f) k) else (Zjw b (Zcv N c d e a kk_L2 f) false)) else (if g=true then (Zjv a kk_L2 a) else (Zjv a kk_L2 e))
def Zej (N:Nat) (d:R8) (a:List Int) (kk_L1:(List Int→Option R2)) (b c:Int) (kk_L2:(Int→Int→Option R2)) (e:Bool):Option R2:=
  if e=true then ((Zgi N a c).bind fun f=>Zcv N d a b c kk_L2 N (!f) 0) else (if (decide (b<0))=true then (some a) else (Z1 ((a.length+[b].length) * 8≤140737488355328∧a.length+[b].length≤maxLen) (kk_L1 (a++[b]))))
def Sq (N:Nat) (a:R8) (b:List Int) (kk_L1:(List Int→Option R2)):Nat→Int→Int→Option R2
  | 0,_,_=>none
  | e+1,c,d=>if (decide (d<(a.length:Int)))=true then (Zej N a b kk_L1 c d (Sq N a b kk_L1 e) (decide (c<0))) else (Zej N a b kk_L1 c d (Sq N a b kk_L1 e) false)
def U6 (N:Nat) (a:R8):Nat→R2→Option R2
  | 0,_=>none
  | b+1,c=>Sq N a c (U6 N a b) N (-1) 0
def Qa (N:Nat) (a:R8):Option R2:=
  U6 N a N ([]:List Int)
theorem Z41 {N z:Nat} {B:Option Addr} {col:Zg} {f:World} {c:R8} {r:R2} (E:Nat) (a:Qa N c=some r) (k:Sl rP col f B z c):
    Calls prog 108 #[.slice B c.length z] f (Vl .i64 3 E col f r):=by
 refine Xk 2 (m:=52) func108 O O O O O ?_;rw [Qa.eq_1] at a;have b:=St.start col f;refine go ?_;refine Z0 [0,1000000] (fun n h Q=>∃ R o p g j,j=n∧U6 N c j g=some r∧St f (Zk col) R Q∧Zb rI 3 1 R Q o p g∧[3].map h=[.slice o g.length p]) N ⟨_,none,0,_,_,O,a,b,Zb.nil,O⟩ ?_;clear a;intro n h Q x;obtain ⟨R,o,p,g,j,m,a,b,d,e⟩:=x;subst m;refine .lL [3] e ?_;replace k:=k.k0
 cases j with
 | zero=>rw [U6.eq_1] at a;cases a
 | succ j=>
  rw [U6.eq_2] at a;refine go ?_;refine Z0 [0,3,1000000] (fun n h S=>∃ T q t l,l=n∧Sq N c g (U6 N c j) l q t=some r∧St f (Zk col) T S∧Zb rI 3 1 T S o p g∧[4,5].map h=[.int .i64 q,.int .i64 t]) N ⟨_,_,0,_,O,a,b,d,O⟩ ?_;clear a;intro n h S x;obtain ⟨T,q,t,l,m,a,b,d,e⟩:=x;subst m;refine .lL [4,5] e ?_
  cases l with
  | zero=>rw [Sq.eq_1] at a;cases a
  | succ l=>
   rw [Sq.eq_2] at a;refine Zw<|Zw ?_;refine Wp.cutK [0,3,4,5,1000000] (fun h J=>∃ y L,Zej N c g (U6 N c j) q t (Sq N c g (U6 N c j) l) L=some r∧St f (Zk col) y J∧Zb rI 3 1 y J o p g∧[15].map h=[.bool L]) ?_ ?_
   ·intro h J w;obtain ⟨y,L,a,b,d,e⟩:=w;rw [Zej.eq_1] at a;refine .lL [15] e ?_;refine Zp a (fun i a=>?_) fun i a=>go ?_
    ·refine X1<|Zw ?_;refine Wp.cutK [0,3,5,1000000] (fun h G=>∃ H I,Zjv t (Sq N c g (U6 N c j) l) I=some r∧St f (Zk col) H G∧Zb rI 3 1 H G o p g∧[4].map h=[.int .i64 I]) ?_ ?_
     ·intro h G w;obtain ⟨H,I,a,b,d,e⟩:=w;rw [Zjv.eq_1] at a;refine .lL [4] e<|go ?_;exact ⟨l,by omega,O,⟨_,_,_,_,O,a,b,d,O⟩⟩
     refine go ?_;obtain ⟨_,B,a⟩:=bZ a;refine Zh (Zq5 B (d.toSlF (Ze.int .i64))) fun _ _ ⟨v,z⟩=>⟨_,v,?_⟩;replace z:=Ru y z;refine go ?_;replace d:=d.gr z;replace b:=b.grow z;refine Z0 [0,3,4,5,1000000] (fun n h V=>∃ D W C s,s=n∧Zcv N c g q t (Sq N c g (U6 N c j) l) s W C=some r∧St f (Zk col) D V∧Zb rI 3 1 D V o p g∧[6,7].map h=[.bool W,.int .i64 C]) N ⟨_,_,0,_,O,a,b,d,O⟩ ?_;clear a;intro n h V x;obtain ⟨D,W,C,s,m,a,b,d,e⟩:=x;subst m;refine .lL [6,7] e ?_
     cases s with
     | zero=>rw [Zcv.eq_1] at a;cases a
     | succ s=>
      rw [Zcv.eq_2] at a;refine go ?_;obtain ⟨_,u,a⟩:=bZ a;refine lI u ((k.ks b).addr u) ?_;obtain ⟨_,K,M⟩:=(k.ks b).atN u;obtain ⟨⟨_,_,rfl,_⟩,_⟩:=K;refine lW M.one<|go ?_;refine Zp a (fun i a=>?_) fun i a=>go ?_
      ·refine X1<|Zw ?_;refine Wp.cutK [0,3,4,5,7,1000000] (fun h K=>∃ M P,Zjw C (Zcv N c g q t (Sq N c g (U6 N c j) l) s) P=some r∧St f (Zk col) M K∧Zb rI 3 1 M K o p g∧[6].map h=[.bool P]) ?_ ?_
       ·intro h K w;obtain ⟨M,P,a,b,d,e⟩:=w;rw [Zjw.eq_1] at a;refine .lL [6] e<|go ?_;exact ⟨s,by omega,O,⟨_,_,_,_,O,a,b,d,O⟩⟩
       refine go ?_;refine X9 a (fun X a=>go ?_) fun X a=>go ?_
       ·refine lI u ((k.ks b).addr u) ?_;refine go ?_;obtain ⟨_,A,F⟩:=(k.ks b).atN u;obtain ⟨⟨_,_,rfl,U⟩,_⟩:=A;refine lW F.one<|go ?_;obtain ⟨_,F,a⟩:=bZ a;refine lI F (U.addr F) ?_;refine go ?_;refine lW (U.atInt F)<|go ?_;obtain ⟨h,Y,a⟩:=bZ a;refine Zh (Zq5 Y (d.toSlF (Ze.int .i64))) fun _ _ ⟨v,A⟩=>⟨_,v,?_⟩;replace A:=Ru D A;refine lV (.bool h) (Xw (congrArg Value.bool X) O)<|go ?_;replace d:=d.gr A;replace b:=b.grow A;exact ⟨O,_,_,a,b,d,O⟩
       refine lV (.bool false) (X0 (congrArg Value.bool X) O)<|go ?_;exact ⟨O,_,_,a,b,d,O⟩
      refine Zp a (fun i a=>go ?_) fun i a=>?_
      ·exact ⟨O,_,_,a,b,d,O⟩
      refine X1 ?_;exact ⟨O,_,_,a,b,d,O⟩
    refine Zp a (fun i a=>go ?_) fun i a=>go ?_
    ·cases a;exact ⟨O,_,_,_,O,b.fin (cm [(1,E)]),b.fo d⟩
    refine Vn (col:=y) [q] 2 ?_;intro _ _ _ i e;obtain ⟨f,a⟩:=Z5 a;replace d:=d.gr i;refine Vw d (e.srcN (NB.int (k:=.i64))) f fun _ _ _ _ Z g=>go ?_;replace b:=(b.grow i).kpp Z;exact ⟨j,by omega,O,⟨_,_,_,_,_,O,a,b,g,O⟩⟩
   refine go ?_;refine X9 a (fun U a=>go ?_) fun U a=>go ?_
   ·refine lV (.bool (decide (q<0))) (Xw (congrArg Value.bool U) O)<|Zj ?_;exact ⟨O,_,_,a,b,d,O⟩
   refine lV (.bool false) (X0 (congrArg Value.bool U) O)<|Zj ?_;exact ⟨O,_,_,a,b,d,O⟩
def Zar (N:Nat) (a:R8):Option Int:=
  (Zjt N a).bind fun b=>if (!b)=true then (some 3) else ((Zjx N a).bind fun c=>if c=true then (some 40) else ((Qa N a).bind fun d=>if (decide ((d.length:Int)<(a.length:Int)))=true then (some 42) else (some 0)))
theorem Z4z {N f:Nat} {i:Option Addr} {col:Zg} {g:World} {b:R8} {r:Int} (a:Zar N b=some r) (e:Sl rP col g i f b):
    Calls prog 53 #[.slice i b.length f] g (W8 g r):=by
 refine Xk 2 (m:=18) func53 O O O O O ?_;rw [Zar.eq_1] at a;have c:=St.start col g;refine go ?_;obtain ⟨_,o,a⟩:=bZ a;replace e:=e.k0;refine Zh (Z40 o (e.ks c)) fun _ _ ⟨h,j⟩=>⟨_,h,?_⟩;replace j:=Ru (Zk col) j;refine go ?_;replace c:=c.grow j;refine Zp a (fun d a=>go ?_) fun d a=>go ?_
 ·cases a;exact ⟨O,O,c.below⟩
 obtain ⟨_,l,a⟩:=bZ a;refine Zh (Z42 l (e.ks c)) fun _ _ ⟨h,k⟩=>⟨_,h,?_⟩;replace k:=Ru (Zk col) k;refine go ?_;replace c:=c.grow k;refine Zp a (fun d a=>go ?_) fun d a=>go ?_
 ·cases a;exact ⟨O,O,c.below⟩
 obtain ⟨_,m,a⟩:=bZ a;refine Zh (Z41 1 m (e.ks c)) ?_;rintro _ s ⟨t,u,v,rfl,n,w⟩;refine ⟨_,O,go ?_⟩;replace c:=c.grow n;refine Zp a (fun d a=>go ?_) fun d a=>go ?_
 ·cases a;exact ⟨O,O,c.below⟩
 cases a;exact ⟨O,O,c.below⟩
theorem Zue (N:Nat) (l:List Int) (x:Int) (hl:l.length≤1048576):∀ (n k:Nat),l.length<n+k→k≤l.length→Zgj N l x n (k:Int)=some (decide (x ∈ l.drop k))
 | 0,k,h,a=>by omega
 | n+1,k,h,a=>by
  rw [Zgj.eq_2]
  by_cases hlt:k<l.length
  ·rw [if_pos (by simpa using hlt),Xd hlt,oB,wS (by omega),Zue N l x hl n (k+1) (by omega) (by omega),aP hlt]
   by_cases he:l[k]=x
   ·rw [if_pos (by simpa using he),decide_eq_true (by rw [he];exact aK)]
   ·rw [if_neg (by simpa using he)]
    exact congrArg some (decide_eq_decide.2 ⟨fun h=>aE _ h,fun h=>(bK.1 h).resolve_left (Ne.symm he)⟩)
  ·rw [if_neg (by simpa using hlt),aI (by omega)];simp
theorem Zql {N:Nat} {l:List Int} {x:Int} (hl:l.length≤1048576) (hN:1048576<N):Zgi N l x=some (decide (x ∈ l)):=by
 rw [Zgi];simpa using Zue N l x hl N 0 (by omega) (by omega)
def Tc (m:Int) (P:List R2):Bool:=P.all fun l=>l.all fun p=>decide (0≤p∧p<m)
theorem Zxx (N:Nat) (P:List R2) (i:Nat) (hi:i<P.length) (hP:P.length≤1048576) (hl:P[i].length≤1048576) (kk:Int→Option Bool):∀ (n k:Nat),P[i].length<n+k→k≤P[i].length→
  Zcu N P (i:Int) kk n (k:Int)=if (P[i].drop k).all (fun p=>decide (0≤p∧p<(P.length:Int))) then kk ((i+1:Nat):Int) else some false
 | 0,k,h,a=>by omega
 | n+1,k,h,a=>by
  rw [Zcu.eq_2,Xd hi,oB]
  by_cases hlt:k<P[i].length
  ·rw [if_pos (by simpa using hlt),Xd hlt,oB,Zju,Zju,wS (by omega),Zxx N P i hi hP hl kk n (k+1) (by omega) (by omega),aP hlt]
   by_cases h1:P[i][k]<0
   ·rw [if_pos (by simpa using h1),if_pos rfl,if_neg (fun h=>by rw [dK,Bool.and_eq_true,decide_eq_true_eq] at h;omega)]
   ·rw [if_neg (by simpa using h1)]
    by_cases h2:(P.length:Int)≤P[i][k]
    ·rw [if_pos (by simpa using h2),if_neg (fun h=>by rw [dK,Bool.and_eq_true,decide_eq_true_eq] at h;omega)]
    ·rw [if_neg (by simpa using h2)]
     simp only [dK,Bool.and_eq_true]
     have b:decide (0≤P[i][k]∧P[i][k]<(P.length:Int))=true:=by simp;omega
     simp only [b,true_and]
  ·rw [if_neg (by simpa using hlt),aI (by omega),wS (by omega)];simp
theorem Zxw (N:Nat) (P:List R2) (hP:P.length≤1048576) (hl:∀ l ∈ P,l.length≤1048576) (hN:1048576<N):∀ (n i:Nat),P.length<n+i→i≤P.length→
  Zbo N P n (i:Int)=some (Tc P.length (P.drop i))
 | 0,i,h,a=>by omega
 | n+1,i,h,a=>by
  rw [Zbo.eq_2]
  by_cases hlt:i<P.length
  ·have b:=Zxx N P i hlt hP (hl _ (aJ hlt)) (Zbo N P n) N 0 (by have:=hl _ (aJ hlt);omega) (by omega)
   rw [if_pos (by simpa using hlt)]
   rw [show (0:Int)=((0:Nat):Int) from rfl,b,Zxw N P hP hl hN n (i+1) (by omega) (by omega),aP hlt]
   simp only [Tc,dK,bF]
   by_cases h1:(P[i].all fun p=>decide (0≤p∧p<(P.length:Int)))=true
   ·rw [if_pos h1,h1,Bool.true_and]
   ·rw [if_neg h1,Bool.eq_false_iff.2 h1,Bool.false_and]
  ·rw [if_neg (by simpa using hlt),aI (by omega)];rfl
theorem Z7w {N:Nat} {P:List R2} (hP:P.length≤1048576) (hl:∀ l ∈ P,l.length≤1048576) (hN:1048576<N):Zjt N P=some (Tc P.length P):=by
 rw [Zjt];simpa using Zxw N P hP hl hN N 0 (by omega) (by omega)
def Sh (P:List R2):Bool:=P.any fun l=>!decide l.Nodup
theorem Zy4 (l:List Int) (k:Nat) (hk:k<l.length):(l.take (k+1)).Nodup↔(l.take k).Nodup∧l[k] ∉ l.take k:=by
 rw [bC hk,cN]
 simp only [cQ,List.not_mem_nil,not_false_eq_true,List.nodup_nil,and_self,bD,true_and]
 constructor
 ·rintro ⟨c,d⟩;exact ⟨c,fun h=>d _ h _ rfl rfl⟩
 ·rintro ⟨c,d⟩;exact ⟨c,fun a f b g e=>d (by rw [← g,← e];exact f)⟩
theorem Z2j (N:Nat) (P:List R2) (i:Nat) (hi:i<P.length) (hP:P.length≤1048576) (hl:P[i].length≤1048576) (hN:1048576<N) (kk:Int→Option Bool):∀ (n k:Nat),P[i].length<n+k→k≤P[i].length→(P[i].take k).Nodup→
  Zgk N P (i:Int) kk n (k:Int)=if P[i].Nodup then kk ((i+1:Nat):Int) else some true
 | 0,k,h,b,_=>by omega
 | n+1,k,h,b,a=>by
  rw [Zgk.eq_2,Xd hi,oB]
  by_cases hlt:k<P[i].length
  ·rw [if_pos (by simpa using hlt),Xh (by omega),Xd hlt,oB,Zql (by simp;omega) hN,oB,aB]
   by_cases h1:P[i][k] ∈ P[i].take k
   ·rw [if_pos (by simpa using h1),if_neg]
    intro c
    exact ((Zy4 _ k hlt).1 (c.sublist (List.take_sublist _ _))).2 h1
   ·rw [if_neg (by simpa using h1),wS (by omega)]
    exact Z2j N P i hi hP hl hN kk n (k+1) (by omega) (by omega) ((Zy4 _ k hlt).2 ⟨a,h1⟩)
  ·rw [if_neg (by simpa using hlt),wS (by omega)]
   rw [bG (by omega)] at a
   rw [if_pos a]
theorem Z2i (N:Nat) (P:List R2) (hP:P.length≤1048576) (hl:∀ l ∈ P,l.length≤1048576) (hN:1048576<N):∀ (n i:Nat),P.length<n+i→i≤P.length→
  Zcw N P n (i:Int)=some (Sh (P.drop i))
 | 0,i,h,a=>by omega
 | n+1,i,h,a=>by
  rw [Zcw.eq_2]
  by_cases hlt:i<P.length
  ·have b:=Z2j N P i hlt hP (hl _ (aJ hlt)) hN (Zcw N P n) N 0 (by have:=hl _ (aJ hlt);omega) (by omega) (by simp)
   rw [if_pos (by simpa using hlt)]
   rw [show (0:Int)=((0:Nat):Int) from rfl,b,Z2i N P hP hl hN n (i+1) (by omega) (by omega),aP hlt]
   simp only [Sh,dL]
   by_cases h1:P[i].Nodup
   ·rw [if_pos h1];simp [h1]
   ·rw [if_neg h1];simp [h1]
  ·rw [if_neg (by simpa using hlt),aI (by omega)];rfl
theorem Xa5 {N:Nat} {P:List R2} (hP:P.length≤1048576) (hl:∀ l ∈ P,l.length≤1048576) (hN:1048576<N):Zjx N P=some (Sh P):=by
 rw [Zjx];simpa using Z2i N P hP hl hN N 0 (by omega) (by omega)
def Sg (P:List R2):Nat:=(P.map fV).sum
theorem Znh (l:List Int) (P:List R2):Sg (l :: P)=l.length+Sg P:=by simp [Sg]
theorem Zqd {l:List Int}:∀ {P:List R2},l ∈ P→l.length≤Sg P
 | x :: P,h=>by
  rw [Znh]
  rcases bK.1 h with rfl | h
  ·omega
  ·have:=Zqd h;omega
def Zrp:Nat→List R2→List Rb
 | _,[]=>[]
 | k,l :: P=>l.map (fun p=>(p,(k:Int)))++Zrp (k+1) P
theorem Z6m:∀ (k:Nat) (P:List R2),(Zrp k P).length=Sg P
 | _,[]=>rfl
 | k,l :: P=>by rw [Zrp,nA,List.length_map,Z6m,Znh]
def Sx (P:List R2) (l:List Int) (i:Nat):Bool:=!decide ((i:Int) ∈ l)&&(P.getD i []).all fun p=>decide (p ∈ l)
def Vx (P:List R2) (l:List Int) (i:Nat):Option Nat:=(List.range' i (P.length - i)).find? (Sx P l)
theorem Z8v (P:List R2) (l:List Int) (i:Nat) (h:P.length≤i):Vx P l i=none:=by
 rw [Vx,Nat.sub_eq_zero_of_le h];rfl
theorem Z8x (P:List R2) (l:List Int) (i:Nat) (h:i<P.length):Vx P l i=if Sx P l i then some i else Vx P l (i+1):=by
 rw [Vx,Vx,show P.length - i=(P.length - (i+1))+1 by omega,List.range'_succ,List.find?_cons]
 cases Sx P l i <;> simp
section
variable (N:Nat) (P:List R2) (l:List Int)
theorem Zss (hP:P.length≤1048576) (hl:l.length≤1048576) (hN:1048576<N) (next:Int) (i:Nat) (hi:i<P.length) (hli:P[i].length≤1048576) (kk:Int→Int→Option R2):∀ (n:Nat) (b:Bool) (k:Nat),P[i].length<n+k→k≤P[i].length→
  Zcv N P l next (i:Int) kk n b (k:Int)=kk (if (b&&(P[i].drop k).all fun p=>decide (p ∈ l))=true then (i:Int) else next) ((i+1:Nat):Int)
 | 0,b,k,h,a=>by omega
 | n+1,b,k,h,a=>by
  rw [Zcv.eq_2,Xd hi,oB]
  by_cases hlt:k<P[i].length
  ·rw [if_pos (by simpa using hlt),Xd hlt,oB,Zql hl hN,oB,Zjw,Zjw,wS (by omega),Zss hP hl hN next i hi hli kk n _ (k+1) (by omega) (by omega),Zss hP hl hN next i hi hli kk n _ (k+1) (by omega) (by omega),aP hlt,dK]
   cases b
   ·rw [if_neg (by decide),Bool.false_and,Bool.false_and]
   ·rw [if_pos rfl,Bool.true_and]
  ·rw [if_neg (by simpa using hlt),aI (by omega),Zjv,Zjv,wS (by omega),List.all_nil,Bool.and_true]
   cases b
   ·rw [if_neg (by decide),if_neg (by decide)]
   ·rw [if_pos rfl,if_pos rfl]
def Zzw (kk:List Int→Option R2):Option Nat→Option R2
 | none=>some l
 | some i=>kk (l++[(i:Int)])
theorem Zze (hl:l.length<1048576) (kk:List Int→Option R2) (i:Nat) (i':Int) (kk2:Int→Int→Option R2):Zej N P l kk (i:Int) i' kk2 false=kk (l++[(i:Int)]):=by
 rw [Zej,if_neg (by decide),if_neg (by rw [decide_eq_true_eq];omega),Xh (by simp only [nC,nN,maxLen];omega)]
theorem Zzd (hP:P.length≤1048576) (hls:∀ x ∈ P,x.length≤1048576) (hl:l.length<1048576) (hN:1048576<N) (kk:List Int→Option R2):∀ (n i:Nat),P.length<n+i→i≤P.length→
  Sq N P l kk n (-1) (i:Int)=Zzw l kk (Vx P l i)
 | 0,i,h,a=>by omega
 | n+1,i,h,a=>by
  rw [Sq.eq_2]
  by_cases hlt:i<P.length
  ·have b:=Zss N P l hP (by omega) hN (-1) i hlt (hls _ (aJ hlt)) (Sq N P l kk n) N (!decide ((i:Int) ∈ l)) 0 (by have:=hls _ (aJ hlt);omega) (by omega)
   rw [if_pos (by simpa using hlt),Zej,if_pos (by decide),Zql (by omega) hN,oB]
   rw [show (0:Int)=((0:Nat):Int) from rfl,b,Z8x P l i hlt,bF]
   have c:(!decide ((i:Int) ∈ l)&&P[i].all fun p=>decide (p ∈ l))=Sx P l i:=by
    rw [Sx,aD,aO hlt];rfl
   rw [c]
   by_cases hr:Sx P l i=true
   ·rw [if_pos hr,if_pos hr]
    match n,h with
    | 0,h=>omega
    | n+1,h=>
     rw [Sq.eq_2]
     by_cases h2:i+1<P.length
     ·rw [if_pos (dT (by omega)),show decide ((i:Int)<0)=false from decide_eq_false (by omega)]
      exact Zze N P l hl kk i _ _
     ·rw [if_neg (by rw [decide_eq_true_eq];omega)]
      exact Zze N P l hl kk i _ _
   ·rw [if_neg hr,if_neg hr]
    exact Zzd hP hls hl hN kk n (i+1) (by omega) (by omega)
  ·rw [if_neg (by simpa using hlt),Z8v P l i (by omega),Zej,if_neg (by decide),if_pos (by decide)];rfl
end
theorem Zst {N:Nat} {P:List R2} {l:List Int} (hP:P.length≤1048576) (hls:∀ x ∈ P,x.length≤1048576) (hl:l.length<1048576) (hN:1048576<N) (n:Nat):
  U6 N P (n+1) l=Zzw l (U6 N P n) (Vx P l 0):=by
 rw [U6.eq_2]
 exact Zzd N P l hP hls hl hN _ N 0 (by omega) (by omega)
theorem Zsn {P:List R2} {l:List Int} {i j:Nat} (h:Vx P l i=some j):i≤j∧j<P.length∧Sx P l j=true∧∀ k,i≤k→k<j→Sx P l k=false:=by
 rw [Vx,List.find?_range'_eq_some] at h
 obtain ⟨d,a,f⟩:=h
 rw [jG] at a
 obtain ⟨q,g,m⟩:=a
 refine ⟨by omega,by omega,d,fun k b c=>?_⟩
 have:=f k b c
 simpa using this
theorem Z8w {P:List R2} {l:List Int} {i:Nat} (h:Vx P l i=none):∀ k,i≤k→k<P.length→Sx P l k=false:=by
 rw [Vx,List.find?_eq_none] at h
 intro k a b
 have:=h k (by rw [jG];exact ⟨k - i,by omega,by omega⟩)
 simpa using this
theorem Z0m {P:List R2} {l:List Int} {i:Nat} (hi:i<P.length):Sx P l i=true↔(i:Int) ∉ l∧∀ p ∈ P[i],p ∈ l:=by
 rw [Sx,aD,aO hi]
 simp
def Tl (P:List R2) (l:List Int):Prop:=l.Nodup∧(∀ x ∈ l,0≤x∧x<(P.length:Int))∧∀ (i:Nat) (hi:i<P.length),(i:Int) ∈ l→∀ p ∈ P[i],p ∈ l
theorem Tl.len {P:List R2} {l:List Int} (h:Tl P l):l.length≤P.length:=by
 have a:=Zj9 (r:=(gQ P.length).map fun i:Nat=>(i:Int)) h.1 fun x b=>by
  have:=h.2.1 x b
  exact cD.2 ⟨x.toNat,eN.2 (by omega),by omega⟩
 simpa using a
theorem Tl.step {P:List R2} {l:List Int} {j:Nat} (h:Tl P l) (hn:Vx P l 0=some j):Tl P (l++[(j:Int)])∧l.length<P.length:=by
 obtain ⟨_,m,n,_⟩:=Zsn hn
 obtain ⟨o,q⟩:=(Z0m m).1 n
 have f:Tl P (l++[(j:Int)]):=by
  refine ⟨?_,?_,?_⟩
  ·rw [cN]
   refine ⟨h.1,by simp,fun a r b g e=>?_⟩
   rw [bD] at g;subst g;subst e;exact o r
  ·intro x c
   rcases aY.1 c with c | c
   ·exact h.2.1 x c
   ·rw [bD] at c;omega
  ·intro i s d p k
   rcases aY.1 d with d | d
   ·exact iH _ (h.2.2 i s d p k)
   ·rw [bD] at d
    have:i=j:=by omega
    subst this
    exact iH _ (q p k)
 exact ⟨f,by have:=f.len;rw [nA,nC,nN] at this;omega⟩
theorem Zzf {N:Nat} {P:List R2} (hP:P.length<1048576) (hls:∀ x ∈ P,x.length≤1048576) (hN:1048576<N):∀ (n:Nat) (l:List Int),Tl P l→P.length<n+l.length→
  ∃ r,U6 N P n l=some r∧Tl P r∧Vx P r 0=none
 | 0,l,h,a=>by have:=h.len;omega
 | n+1,l,h,a=>by
  have c:=h.len
  rw [Zst (by omega) hls (by omega) hN]
  cases hnx:Vx P l 0 with
  | none=>exact ⟨l,rfl,h,hnx⟩
  | some j=>
   obtain ⟨b,d⟩:=h.step hnx
   exact Zzf hP hls hN n _ b (by simp;omega)
theorem Z9a {N:Nat} {P:List R2} (hP:P.length<1048576) (hls:∀ x ∈ P,x.length≤1048576) (hN:1048576<N):∃ r,Qa N P=some r∧Tl P r∧Vx P r 0=none:=by
 rw [Qa]
 exact Zzf hP hls hN N [] ⟨.nil,by simp,by simp⟩ (by simp;omega)
def gD (h:List Int) (j:Nat):Int:=h.getD j 0
theorem Zab {h:List Int} {j:Nat} (hj:j<h.length):gD h j=h[j]:=by rw [gD,aD,aO hj];rfl
theorem Za1 {h:List Int} {j:Nat} (hj:j<h.length):Zn h (j:Int)=some (gD h j):=by rw [Xd hj,Zab hj]
def Sy (h:List Int) (i p:Nat):List Int:=(h.set i (gD h p)).set p (gD h i)
theorem Zne (h:List Int) (i p:Nat):(Sy h i p).length=h.length:=by simp [Sy]
theorem Z10 {h:List Int} {i p:Nat} (hi:i<h.length) (hp:p<h.length):(Sy h i p).Perm h:=by
 rw [Sy,Zab hi,Zab hp];exact List.set_set_perm hi hp
theorem Zof (h:List Int) (i j:Nat) (x:Int) (hi:i<h.length):gD (h.set i x) j=if j=i then x else gD h j:=by
 rw [gD,gD,aD,aD,iV]
 by_cases h1:i=j
 ·subst h1;rw [if_pos rfl,if_pos hi,if_pos rfl];rfl
 ·rw [if_neg h1,if_neg (Ne.symm h1)]
theorem Zdl {h:List Int} {i p:Nat} (hi:i<h.length) (hp:p<h.length) (j:Nat):gD (Sy h i p) j=if j=p then gD h i else if j=i then gD h p else gD h j:=by
 rw [Sy,Zof _ _ _ _ (by simpa using hp),Zof _ _ _ _ hi]
def Qi (h:List Int) (n:Nat):Prop:=∀ j,0<j→j<n→gD h ((j - 1) / 2)≤gD h j
theorem Qi.min {h:List Int} {n:Nat} (hh:Qi h n):∀ j,j<n→gD h 0≤gD h j:=by
 intro j
 induction j using Nat.strongRecOn with
 | ind j a=>
  intro b
  by_cases h0:j=0
  ·subst h0;exact gJ _
  ·exact Int.le_trans (a ((j - 1) / 2) (by omega) (by omega)) (hh j (by omega) b)
/-! ### push -/
def Znt (h:List Int) (i:Nat):Prop:=(∀ j,0<j→j<h.length→j≠i→gD h ((j - 1) / 2)≤gD h j)∧∀ j,0<j→j<h.length→(j - 1) / 2=i→0<i→gD h ((i - 1) / 2)≤gD h j
theorem Znt.step {h:List Int} {i:Nat} (hu:Znt h i) (hi:i<h.length) (h0:0<i) (hlt:gD h i<gD h ((i - 1) / 2)):Znt (Sy h i ((i - 1) / 2)) ((i - 1) / 2):=by
 have c:(i - 1) / 2<h.length:=by omega
 refine ⟨fun j a b d=>?_,fun j a b d g=>?_⟩
 ·rw [Zne] at b
  rw [Zdl hi c,Zdl hi c,if_neg d]
  by_cases hji:j=i
  ·subst hji;rw [if_pos rfl,if_pos rfl];omega
  ·rw [if_neg hji]
   have f:=hu.1 j a b hji
   by_cases hq:(j - 1) / 2=(i - 1) / 2
   ·rw [if_pos hq];rw [hq] at f;omega
   ·rw [if_neg hq]
    by_cases hq2:(j - 1) / 2=i
    ·rw [if_pos hq2];exact hu.2 j a b hq2 h0
    ·rw [if_neg hq2];exact f
 ·rw [Zne] at b
  rw [Zdl hi c,Zdl hi c,if_neg (by omega),if_neg (by omega),if_neg (by omega)]
  have f:=hu.1 ((i - 1) / 2) g c (by omega)
  by_cases hji:j=i
  ·rw [if_pos hji];exact f
  ·rw [if_neg hji]
   have k:=hu.1 j a b hji
   rw [d] at k;omega
theorem Zzm {i:Nat} (h0:0<i) (h1:i≤9000000):i64.wrap (aM (i64.wrap ((i:Int) - 1)) 2)=(((i - 1) / 2:Nat):Int):=by
 rw [Zy (x:=(i:Int) - 1) (by omega),Int.tdiv_eq_ediv_of_nonneg (by omega),Zy (by omega)];omega
theorem Zzu (N:Nat):∀ (n:Nat) (h:List Int) (i:Nat),i<n→i<h.length→h.length≤9000000→Znt h i→
  ∃ h',Zca N n h (i:Int)=some h'∧h'.Perm h∧Qi h' h'.length
 | 0,h,i,g,_,_,_=>by omega
 | n+1,h,i,g,c,k,d=>by
  rw [Zca.eq_2]
  by_cases h0:0<i
  ·have a:(i - 1) / 2<h.length:=by omega
   rw [if_pos (dT (by omega)),Za1 c,oB,Zzm h0 (by omega),Za1 a,oB,Zij,Zzm h0 (by omega)]
   by_cases hlt:gD h i<gD h ((i - 1) / 2)
   ·obtain ⟨h',m,o,p⟩:=Zzu N n (Sy h i ((i - 1) / 2)) ((i - 1) / 2) (by omega) (by rw [Zne];exact a) (by rw [Zne];exact k) (d.step c h0 hlt)
    refine ⟨h',?_,o.trans (Z10 c a),p⟩
    rw [if_pos (dT hlt),Za1 a,oB,Za1 c,oB,oB,aB,aB,Xd (by simpa using a),oB,oB]
    exact m
   ·refine ⟨h,by rw [if_neg (by simpa using hlt)],.refl _,fun j b f=>?_⟩
    by_cases hji:j=i
    ·subst hji;omega
    ·exact d.1 j b f hji
  ·have:i=0:=by omega
   subst this
   rw [if_neg (by decide),Zij,if_neg (by decide)]
   exact ⟨h,rfl,.refl _,fun j b f=>d.1 j b f (by omega)⟩
theorem Zxm {h:List Int} {x:Int} {j:Nat} (hj:j<h.length):gD (h++[x]) j=gD h j:=by
 rw [Zab hj,Zab (by simp;omega),List.getElem_append_left hj]
theorem Zzv {N:Nat} {h:List Int} (x:Int) (hl:h.length<2000000) (hh:Qi h h.length) (hN:2000000<N):∃ h',Zii N h x=some h'∧h'.Perm (x :: h)∧Qi h' h'.length:=by
 rw [Zii,Xh (by simp only [nC,nN,maxLen];omega)]
 have i:(h++[x]).length=h.length+1:=by simp
 rw [Zy (by omega),show (((h++[x]).length:Int) - 1)=((h.length:Nat):Int) by omega]
 obtain ⟨h',c,d,f⟩:=Zzu N N (h++[x]) h.length (by omega) (by omega) (by omega) ⟨fun j a g b=>by rw [Zxm (by omega),Zxm (by omega)];exact hh j a (by omega),fun j a g b k=>by omega⟩
 exact ⟨h',c,d.trans (gR x h),f⟩
/-! ### pop -/
def Zko (l:List Int) (n i:Nat):Prop:=(∀ j,0<j→j<n→(j - 1) / 2≠i→gD l ((j - 1) / 2)≤gD l j)∧∀ j,0<j→j<n→(j - 1) / 2=i→0<i→gD l ((i - 1) / 2)≤gD l j
theorem Zko.step {l:List Int} {n i q:Nat} (hu:Zko l n i) (hn:n≤l.length) (hi:i<n) (hq:q<n) (hqi:(q - 1) / 2=i) (hq0:0<q) (hlt:gD l q<gD l i) (hle:∀ j,0<j→j<n→(j - 1) / 2=i→gD l q≤gD l j):Zko (Sy l i q) n q:=by
 have b:i<l.length:=by omega
 have c:q<l.length:=by omega
 refine ⟨fun j a f d=>?_,fun j a f d _=>?_⟩
 ·rw [Zdl b c,Zdl b c,if_neg d]
  by_cases h1:(j - 1) / 2=i
  ·rw [if_pos h1]
   by_cases h2:j=q
   ·rw [if_pos h2];omega
   ·rw [if_neg h2,if_neg (by omega)];exact hle j a f h1
  ·rw [if_neg h1,if_neg (show j≠q by omega)]
   by_cases h2:j=i
   ·subst h2
    rw [if_pos rfl];exact hu.2 q hq0 hq hqi a
   ·rw [if_neg h2];exact hu.1 j a f h1
 ·rw [Zdl b c,Zdl b c,hqi,if_neg (by omega),if_pos rfl,if_neg (by omega),if_neg (by omega)]
  have:=hu.1 j a f (by omega)
  rwa [d] at this
theorem Xax {l:List Int} {n i q:Nat} (hn:n≤l.length) (hi:i<n) (hq:q<n):(Sy l i q).take n=Sy (l.take n) i q:=by
 have a:∀ j,j<n→gD (l.take n) j=gD l j:=fun j b=>by rw [Zab (by simp;omega),Zab (by omega),gG]
 rw [Sy,Sy,jU,jU,a i hi,a q hq]
theorem Zzr (N:Nat) (p0:List Int) (x0:Int) (n:Nat) (hp0:p0.length=n+1) (hn:n≤2000000) (hN:2000000<N):∀ (m:Nat) (l:List Int) (i:Nat),n<m+i→(i<n∨n=0∧i=0)→l.length=n+1→Zko l n i→
  ∃ t,Qs N p0 x0 m l (i:Int)=some (x0,t)∧t.Perm (l.take n)∧Qi t n
 | 0,l,i,K,L,C,w=>by omega
 | m+1,l,i,K,L,C,w=>by
  rw [Qs.eq_2]
  obtain ⟨N,rfl⟩:∃ N',N=N'+1+1+1:=⟨N - 3,by omega⟩
  have D:i64.wrap ((p0.length:Int) - 1)=(n:Int):=by rw [Zy (by omega)];omega
  have M:i64.wrap (i64.wrap (2 * (i:Int))+1)=((2 * i+1:Nat):Int):=by rw [Zy (x:=2 * (i:Int)) (by omega),Zy (by omega)];omega
  have O:i64.wrap (i64.wrap (2 * (i:Int))+2)=((2 * i+2:Nat):Int):=by rw [Zy (x:=2 * (i:Int)) (by omega),Zy (by omega)];omega
  -- one child after the other
  have d:∀ (v:Nat) (k a:Nat),v<2→k=2 * i+1+v→(a<n∨n=0)→a<l.length→∀ f y,Qt (N+1+1+1) p0 x0 l (i:Int) y (f+1) (v:Int) (a:Int)=
    Qt (N+1+1+1) p0 x0 l (i:Int) y f ((v+1:Nat):Int) ((if k<n∧gD l k<gD l a then k else a:Nat):Int):=by
   intro v k a Q A X F f y
   rw [Qt.eq_2,if_pos (dT (by omega)),M,O,D]
   have G:Zn [((2 * i+1:Nat):Int),((2 * i+2:Nat):Int)] (v:Int)=some (k:Int):=by
    rw [Zha]
    match v,Q with
    | 0,_=>simp [A]
    | 1,_=>simp [A];omega
   rw [G,oB]
   by_cases h1:k<n
   ·rw [if_pos (dT (by omega)),Za1 (by omega),oB,Za1 F,oB,Zih,Zdw,Zdw,wS (by omega)]
    by_cases o:gD l k<gD l a
    ·rw [if_pos (dT o),if_pos ⟨h1,o⟩]
    ·rw [if_neg (by simpa using o),if_neg (fun h=>o h.2)]
   ·rw [if_neg (by rw [decide_eq_true_eq];omega),Zih,Zdw,Zdw,if_neg (by decide),wS (by omega),if_neg (fun h=>h1 h.1)]
  have r:i<l.length:=by omega
  have H:=d 0 (2 * i+1) i (by omega) (by omega) (by omega) r (N+1+1) (Qs (N+1+1+1) p0 x0 m)
  generalize hq1:(if 2 * i+1<n∧gD l (2 * i+1)<gD l i then 2 * i+1 else i)=q1 at H
  have p:(q1=i∧(2 * i+1<n→gD l i≤gD l (2 * i+1)))∨(q1=2 * i+1∧q1<n∧gD l q1<gD l i):=by
   by_cases hc:2 * i+1<n∧gD l (2 * i+1)<gD l i
   ·rw [if_pos hc] at hq1;subst hq1;exact .inr ⟨rfl,hc.1,hc.2⟩
   ·rw [if_neg hc] at hq1;subst hq1;exact .inl ⟨rfl,fun h=>by omega⟩
  have I:=d 1 (2 * i+2) q1 (by omega) (by omega) (by omega) (by omega) (N+1) (Qs (N+1+1+1) p0 x0 m)
  generalize hq2:(if 2 * i+2<n∧gD l (2 * i+2)<gD l q1 then 2 * i+2 else q1)=q2 at I
  have B:(q2=i∧(2 * i+1<n→gD l i≤gD l (2 * i+1))∧(2 * i+2<n→gD l i≤gD l (2 * i+2)))∨((q2=2 * i+1∨q2=2 * i+2)∧q2<n∧gD l q2<gD l i∧(2 * i+1<n→gD l q2≤gD l (2 * i+1))∧(2 * i+2<n→gD l q2≤gD l (2 * i+2))):=by
   by_cases hc:2 * i+2<n∧gD l (2 * i+2)<gD l q1
   ·rw [if_pos hc] at hq2;subst hq2
    rcases p with ⟨rfl,b⟩ | ⟨rfl,b,g⟩
    ·exact .inr ⟨.inr rfl,hc.1,hc.2,fun h=>by have:=b h;omega,fun _=>gJ _⟩
    ·exact .inr ⟨.inr rfl,hc.1,by omega,fun _=>by omega,fun _=>gJ _⟩
   ·rw [if_neg hc] at hq2;subst hq2
    rcases p with ⟨rfl,b⟩ | ⟨rfl,b,g⟩
    ·exact .inl ⟨rfl,b,fun h=>by omega⟩
    ·exact .inr ⟨.inl rfl,b,g,fun _=>gJ _,fun h=>by omega⟩
  rw [show (0:Int)=((0:Nat):Int) from rfl,H]
  rw [show ((0+1:Nat):Int)=((1:Nat):Int) from rfl,I,Qt.eq_2,if_neg (by decide),D,aB]
  rcases B with ⟨rfl,b,g⟩ | ⟨o,b,g,R,S⟩
  ·rw [if_pos (by simp)]
   refine ⟨_,rfl,.refl _,fun j s c=>?_⟩
   have J:∀ k,k<n→gD (l.take n) k=gD l k:=fun k A=>by rw [Zab (by simp;omega),Zab (by omega),gG]
   rw [J _ (by omega),J _ c]
   by_cases hq:(j - 1) / 2=q2
   ·rw [hq]
    rcases (show j=2 * q2+1∨j=2 * q2+2 by omega) with rfl | rfl
    ·exact b c
    ·exact g c
   ·exact w.1 j s c hq
  ·have q:q2<l.length:=by omega
   have u:i<n:=by omega
   have T:=w.step (by omega) u b (by omega) (by omega) g (fun j s c Y=>by
    rcases (show j=2 * i+1∨j=2 * i+2 by omega) with rfl | rfl
    ·exact R c
    ·exact S c)
   obtain ⟨t,U,V,W⟩:=Zzr (N+1+1+1) p0 x0 n hp0 hn hN m (Sy l i q2) q2 (by omega) (.inl b) (by rw [Zne];exact C) T
   refine ⟨t,?_,V.trans ?_,W⟩
   ·rw [if_neg (by simp;omega),Za1 q,oB,Za1 r,oB,oB,aB,aB,Xd (by simpa using q),oB,oB]
    exact U
   ·rw [Xax (by omega) u b];exact Z10 (by simp;omega) (by simp;omega)
theorem Z9d {N:Nat} {h:List Int} (hl:h.length≤2000000) (h0:0<h.length) (hh:Qi h h.length) (hN:2000000<N):∃ x t,Zlo N h=some (x,t)∧h.Perm (x :: t)∧(∀ y ∈ h,x≤y)∧Qi t t.length:=by
 rw [Zlo]
 obtain ⟨n,a⟩:∃ n,h.length=n+1:=⟨h.length - 1,by omega⟩
 have i:i64.wrap ((h.length:Int) - 1)=(n:Int):=by rw [Zy (by omega)];omega
 rw [i,show (0:Int)=((0:Nat):Int) from rfl,Za1 h0,oB,Za1 (by omega),oB,oB,Xh (by simp;omega),aB]
 have k:Zko (h.set 0 (gD h n)) n 0:=by
  refine ⟨fun j f d s=>?_,fun j _ _ _ h=>by omega⟩
  rw [Zof _ _ _ _ h0,Zof _ _ _ _ h0,if_neg (by omega),if_neg (by omega)]
  exact hh j f (by omega)
 obtain ⟨t,m,o,p⟩:=Zzr N h (gD h 0) n a (by omega) hN N (h.set 0 (gD h n)) 0 (by omega) (by omega) (by simpa using a) k
 have g:h.Perm (gD h 0 :: (h.set 0 (gD h n)).take n):=by
  match h,a with
  | x :: r,a=>
   have b:r.length=n:=by simpa using a
   match n,b with
   | 0,b=>rw [List.length_eq_zero_iff.1 b];exact .refl _
   | n+1,b=>
    have e:gD (x :: r) (n+1)=gD r n:=rfl
    rw [e,List.set_cons_zero,List.take_succ_cons]
    refine List.Perm.cons x ?_
    have:r=r.take n++[gD r n]:=by
     have:=bC (show n<r.length by omega)
     rw [bG (by omega)] at this
     rw [Zab (by omega)];exact this
    conv=>lhs;rw [this]
    exact gR _ _
 have c:h.Perm (gD h 0 :: t):=g.trans (List.Perm.cons _ o.symm)
 refine ⟨gD h 0,t,m,c,fun y q=>?_,?_⟩
 ·obtain ⟨j,d,rfl⟩:=List.getElem_of_mem q
  rw [← Zab d];exact hh.min j d
 ·have:=c.length_eq
  rw [nC,a] at this
  rw [show t.length=n by omega];exact p
theorem Yj {α:Type} {l:List α} {d:α} {j:Nat} (hj:j<l.length):l.getD j d=l[j]:=by rw [aD,aO hj];rfl
theorem Vb {α:Type} {l:List α} (d:α) {j:Nat} (hj:j<l.length):Zn l (j:Int)=some (l.getD j d):=by rw [Xd hj,Yj hj]
theorem Us {α:Type} (l:List α) (d:α) (i j:Nat) (x:α) (hi:i<l.length):(l.set i x).getD j d=if j=i then x else l.getD j d:=by
 rw [aD,aD,iV]
 by_cases h1:i=j
 ·subst h1;rw [if_pos rfl,if_pos hi,if_pos rfl];rfl
 ·rw [if_neg h1,if_neg (Ne.symm h1)]
def U0:Nat→List R2→Int→List Int
 | _,[],_=>[]
 | k,l :: P,p=>aC (l.count p) (k:Int)++U0 (k+1) P p
def Znn (n:Nat) (l:List Int):Prop:=∀ x ∈ l,0≤x∧x<(n:Int)
theorem Zvp (k:Nat) (kk:Nat→List R2→Option R8):∀ (l:List Int) (out:List R2),Znn out.length l→(∀ p:Nat,(out.getD p []).length+l.length≤1048576)→
  ∃ out',Zdu k kk l out=kk (k+1) out'∧out'.length=out.length∧∀ p:Nat,p<out.length→out'.getD p []=out.getD p []++aC (l.count (p:Int)) (k:Int)
 | [],out,h,a=>⟨out,by rw [Zdu.eq_1],rfl,fun p c=>by simp⟩
 | x :: l,out,h,a=>by
  obtain ⟨f,n⟩:=h x aK
  obtain ⟨q,rfl⟩:=Int.eq_ofNat_of_zero_le f
  have b:q<out.length:=by omega
  have d:=a q
  simp only [nC] at d a
  rw [Zdu.eq_2,Vb [] b,oB,Xh (by simp only [nC,nN,maxLen];omega),aB]
  obtain ⟨out',g,i,j⟩:=Zvp k kk l (out.set q (out.getD q []++[(k:Int)])) (by rw [nS];exact fun y m=>h y (aE _ m)) (fun p=>by
   rw [Us _ _ _ _ _ b]
   have:=a p
   split
   ·simp only [nA,nC,nN];omega
   ·omega)
  refine ⟨out',g,by rw [i,nS],fun p c=>?_⟩
  rw [j p (by rw [nS];exact c),Us _ _ _ _ _ b,fD]
  by_cases hpq:p=q
  ·subst hpq
   rw [if_pos rfl,if_pos (by simp),bB,show l.count (p:Int)+1=1+l.count (p:Int) by omega,show [(k:Int)]=aC 1 (k:Int) from rfl,List.replicate_append_replicate]
  ·rw [if_neg hpq,if_neg (by simp;omega),bV]
theorem Zxz (p:Int):∀ (k:Nat) (P:List R2),(U0 k P p).length≤Sg P
 | _,[]=>by simp [U0]
 | k,l :: P=>by
  rw [U0,nA,aT,Znh]
  have:=Zxz p (k+1) P
  have:=fM (a:=p) (l:=l)
  omega
theorem Zvo (n:Nat):∀ (P:List R2) (k:Nat) (out:List R2),out.length=n→(∀ l ∈ P,Znn n l)→(∀ p:Nat,(out.getD p []).length+Sg P≤1048576)→
  ∃ out',Zbb P k out=some out'∧out'.length=n∧∀ p:Nat,p<n→out'.getD p []=out.getD p []++U0 k P p
 | [],k,out,c,_,_=>⟨out,by rw [Zbb.eq_1],c,fun p b=>by simp [U0]⟩
 | l :: P,k,out,c,h,d=>by
  simp only [Znh] at d
  rw [Zbb.eq_2]
  obtain ⟨f,i,r,g⟩:=Zvp k (Zbb P) l out (by rw [c];exact h l aK) (fun p=>by have:=d p;omega)
  obtain ⟨out',j,m,o⟩:=Zvo n P (k+1) f (by omega) (fun x q=>h x (aE _ q)) (fun p=>by
   have:=d p
   by_cases b:p<out.length
   ·rw [g p b,nA,aT]
    have:=fM (a:=(p:Int)) (l:=l)
    omega
   ·rw [aD,List.getElem?_eq_none (by omega)];simp;omega)
  refine ⟨out',by rw [i,j],m,fun p b=>?_⟩
  rw [o p b,g p (by omega),bB,U0]
theorem Z5v {P:List R2} (hP:P.length≤1048576) (ht:Sg P≤1048576) (h:∀ l ∈ P,Znn P.length l):∃ D,Zie P=some D∧D.length=P.length∧∀ p:Nat,p<P.length→D.getD p []=U0 0 P p:=by
 rw [Zie,Xh (by simp only [maxLen];omega)]
 have a:∀ p:Nat,(aC P.length ([]:List Int)).getD p []=[]:=fun p=>by
  rw [aD,List.getElem?_replicate];split <;> rfl
 obtain ⟨D,b,c,d⟩:=Zvo P.length P 0 (aC P.length []) (by simp) h (fun p=>by rw [a];simpa using ht)
 exact ⟨D,b,c,fun p f=>by rw [d p f,a];rfl⟩
theorem Zr0 (p:Int):∀ (k:Nat) (P:List R2) (c:Nat),(U0 k P p).count (c:Int)=if k≤c then (P.getD (c - k) []).count p else 0
 | k,[],c=>by simp [U0]
 | k,l :: P,c=>by
  rw [U0,List.count_append,Zr0 p (k+1) P c,List.count_replicate]
  by_cases h1:k=c
  ·subst h1
   rw [if_pos (by simp),if_neg (by omega),if_pos (Nat.le_refl _),Nat.sub_self];rfl
  ·rw [if_neg (by simp;omega)]
   by_cases h2:k≤c
   ·rw [if_pos (by omega),if_pos h2,show c - k=(c - (k+1))+1 by omega];simp
   ·rw [if_neg (by omega),if_neg h2]
theorem Zx0 (p:Int):∀ (k:Nat) (P:List R2) (x:Int),x ∈ U0 k P p→∃ c:Nat,x=(c:Int)∧k≤c∧c<k+P.length
 | k,[],x,h=>by simp [U0] at h
 | k,l :: P,x,h=>by
  rw [U0] at h
  rcases aY.1 h with h | h
  ·exact ⟨k,(List.mem_replicate.1 h).2,Nat.le_refl _,by simp⟩
  ·obtain ⟨c,a,b,d⟩:=Zx0 p (k+1) P x h
   exact ⟨c,a,by omega,by rw [nC];omega⟩
def S1 (P:List R2) (out:List Int) (c:Nat):Nat:=(P.getD c []).countP fun q=>!decide (q ∈ out)
theorem Zvx (out:List Int) (p:Int) (hp:p ∉ out):∀ l:List Int,(l.countP fun q=>!decide (q ∈ out))=(l.countP fun q=>!decide (q ∈ out++[p]))+l.count p
 | []=>rfl
 | x :: l=>by
  rw [gK,gK,fD,Zvx out p hp l]
  by_cases h1:x=p
  ·subst h1
   have b:(!decide (x ∈ out))=true:=by simp [hp]
   have a:(!decide (x ∈ out++[x]))=false:=by simp
   rw [b,a];simp;omega
  ·have a:(x ∈ out++[p])↔x ∈ out:=by simp [h1]
   rw [show (!decide (x ∈ out++[p]))=(!decide (x ∈ out)) from congrArg _ (decide_eq_decide.2 a),if_neg (show ¬ ((x==p)=true) by simpa using h1)];omega
theorem Zvt {P:List R2} {out:List Int} {p:Int} (hp:p ∉ out) (c:Nat):S1 P out c=S1 P (out++[p]) c+(P.getD c []).count p:=Zvx out p hp _
theorem Z0l (P:List R2) (out:List Int) (c:Nat):Sx P out c=true↔(c:Int) ∉ out∧S1 P out c=0:=by
 rw [Sx,S1,List.countP_eq_zero]
 simp
structure Zno (P:List R2) (out left ready:List Int):Prop where
 ok:Tl P out
 len:left.length=P.length
 cnt:∀ c:Nat,c<P.length→left.getD c 0=(S1 P out c:Int)
 heap:Qi ready ready.length
 nd:ready.Nodup
 mem:∀ y:Int,y ∈ ready↔∃ c:Nat,c<P.length∧y=(c:Int)∧(c:Int) ∉ out∧left.getD c 0=0
theorem Ztt (N:Nat) (P:List R2) (hP:P.length≤1048576) (ht:Sg P≤1048576) (hN:2000000<N) (out:List Int) (p:Nat) (r2:List Int) (kk:List Int→List Int→List Int→Option R2):
  ∀ (rest left ready:List Int),rest.length≤9000000000000000000→left.length=P.length→(∀ c:Nat,c<P.length→left.getD c 0=((S1 P (out++[(p:Int)]) c+rest.count (c:Int):Nat):Int))→
   Qi ready ready.length→ready.Nodup→(∀ y:Int,y ∈ ready↔∃ c:Nat,c<P.length∧y=(c:Int)∧(c:Int) ∉ out++[(p:Int)]∧left.getD c 0=0)→
   (∀ x ∈ rest,∃ c:Nat,c<P.length∧x=(c:Int)∧x ∉ out++[(p:Int)])→
   ∃ left' ready',Zbg N out kk ((p:Int),r2) rest left ready=kk left' ready' (out++[(p:Int)])∧left'.length=P.length∧(∀ c:Nat,c<P.length→left'.getD c 0=(S1 P (out++[(p:Int)]) c:Int))∧
    Qi ready' ready'.length∧ready'.Nodup∧∀ y:Int,y ∈ ready'↔∃ c:Nat,c<P.length∧y=(c:Int)∧(c:Int) ∉ out++[(p:Int)]∧left'.getD c 0=0
 | [],left,ready,_,u,v,w,o,m,_=>⟨left,ready,by rw [Zbg.eq_1],u,fun c F=>by rw [v c F];simp,w,o,m⟩
 | x :: rest,left,ready,n,u,v,w,o,m,J=>by
  obtain ⟨c0,k,rfl,G⟩:=J x aK
  have b:c0<left.length:=by omega
  have s:=v c0 k
  rw [fD,if_pos (by simp)] at s
  have R:S1 P (out++[(p:Int)]) c0≤1048576:=by
   have H:=List.countP_le_length (p:=fun q=>!decide (q ∈ out++[(p:Int)])) (l:=P.getD c0 [])
   rw [Yj k] at H
   have j:=Zqd (P:=P) (aJ k)
   rw [S1,Yj k];omega
  have S:ready.length≤P.length:=by
   have H:=Zj9 (r:=(gQ P.length).map fun i:Nat=>(i:Int)) o fun y I=>by
    obtain ⟨c,j,g,_⟩:=(m y).1 I
    exact cD.2 ⟨c,eN.2 j,g.symm⟩
   simpa using H
  have M:i64.wrap (left.getD c0 0 - 1)=((S1 P (out++[(p:Int)]) c0+rest.count (c0:Int):Nat):Int):=by
   have g:=fM (a:=(c0:Int)) (l:=rest)
   rw [s,Zy]
   ·omega
   ·simp only [nC] at n
    omega
  have A:∀ c:Nat,c<P.length→(left.set c0 (i64.wrap (left.getD c0 0 - 1))).getD c 0=((S1 P (out++[(p:Int)]) c+rest.count (c:Int):Nat):Int):=fun c F=>by
   rw [Us _ _ _ _ _ b]
   by_cases hcc:c=c0
   ·subst hcc;rw [if_pos rfl,M]
   ·rw [if_neg hcc,v c F,fD,if_neg (by simp;omega),bV]
  have B:left.getD c0 0≠0:=by rw [s];omega
  have K:(c0:Int) ∉ ready:=fun h=>by
   obtain ⟨c,j,g,_,f⟩:=(m _).1 h
   have:c=c0:=by omega
   subst this;exact B f
  have C:∀ x ∈ rest,∃ c:Nat,c<P.length∧x=(c:Int)∧x ∉ out++[(p:Int)]:=fun x G=>J x (aE _ G)
  have D:rest.length≤9000000000000000000:=by simp only [nC] at n;omega
  rw [Zbg.eq_2,Vb 0 b,oB,oB,aB,Vb 0 (by rw [nS];exact b),oB,Zil,Us _ _ _ _ _ b,if_pos rfl]
  by_cases hz:i64.wrap (left.getD c0 0 - 1)=0
  ·obtain ⟨t,O,L,Q⟩:=Zzv (N:=N) (c0:Int) (by omega:ready.length<2000000) w hN
   rw [if_pos (by simpa using hz),O,oB,Zil]
   refine Ztt N P hP ht hN out p r2 kk rest _ t D (by rw [nS];exact u) A Q (L.nodup_iff.2 (cQ.2 ⟨K,o⟩)) (fun y=>?_) C
   rw [L.mem_iff,bK]
   constructor
   ·rintro (rfl | I)
    ·exact ⟨c0,k,rfl,G,by rw [Us _ _ _ _ _ b,if_pos rfl,hz]⟩
    ·obtain ⟨c,j,g,f,d⟩:=(m y).1 I
     refine ⟨c,j,g,f,?_⟩
     rw [Us _ _ _ _ _ b]
     split
     ·exact hz
     ·exact d
   ·rintro ⟨c,j,g,f,d⟩
    by_cases hcc:c=c0
    ·subst hcc;exact .inl g
    ·rw [Us _ _ _ _ _ b,if_neg hcc] at d
     exact .inr ((m y).2 ⟨c,j,g,f,d⟩)
  ·rw [if_neg (by simpa using hz)]
   refine Ztt N P hP ht hN out p r2 kk rest _ ready D (by rw [nS];exact u) A w o (fun y=>?_) C
   rw [m y]
   constructor
   ·rintro ⟨c,j,g,f,d⟩
    refine ⟨c,j,g,f,?_⟩
    rw [Us _ _ _ _ _ b,if_neg (fun h=>B (by rw [← h];exact d))];exact d
   ·rintro ⟨c,j,g,f,d⟩
    refine ⟨c,j,g,f,?_⟩
    rw [Us _ _ _ _ _ b] at d
    split at d
    ·exact absurd d hz
    ·exact d
theorem Xav {N:Nat} {P D:List R2} (hP:P.length≤1048576) (ht:Sg P≤1048576) (hN:2000000<N) (hD:D.length=P.length) (hDk:∀ p:Nat,p<P.length→D.getD p []=U0 0 P p) {out left ready:List Int} (hi:Zno P out left ready) (n:Nat):
  (Vx P out 0=none→T9 N D (n+1) left ready out=some out)∧
  ∀ p,Vx P out 0=some p→∃ left' ready',Zno P (out++[(p:Int)]) left' ready'∧T9 N D (n+1) left ready out=T9 N D n left' ready' (out++[(p:Int)]):=by
 have Z:ready.length≤P.length:=by
  have k:=Zj9 (r:=(gQ P.length).map fun i:Nat=>(i:Int)) hi.nd fun y U=>by
   obtain ⟨c,b,d,_⟩:=(hi.mem y).1 U
   exact cD.2 ⟨c,eN.2 b,d.symm⟩
  simpa using k
 have q:∀ c:Nat,c<P.length→(Sx P out c=true↔(c:Int) ∈ ready):=fun c v=>by
  rw [Z0l,hi.mem]
  constructor
  ·rintro ⟨f,g⟩;exact ⟨c,v,rfl,f,by rw [hi.cnt c v,g];rfl⟩
  ·rintro ⟨M,f,g,o,m⟩
   have:M=c:=by omega
   subst this
   rw [hi.cnt M f] at m
   exact ⟨o,by omega⟩
 refine ⟨fun w=>?_,fun p w=>?_⟩
 ·have V:ready=[]:=by
   cases s:ready with
   | nil=>rfl
   | cons y l=>
    obtain ⟨c,f,g,_⟩:=(hi.mem y).1 (by rw [s];exact aK)
    have o:=Z8w w c (bL _) f
    have m:=(q c f).2 (by rw [← g,s];exact aK)
    rw [o] at m;cases m
  rw [T9.eq_2,V,if_neg (by decide)]
 ·obtain ⟨_,H,s,I⟩:=Zsn w
  have B:=(q p H).1 s
  have J:0<ready.length:=List.length_pos_of_mem B
  obtain ⟨x,t,W,K,X,Y⟩:=Z9d (N:=N) (by omega:ready.length≤2000000) J hi.heap hN
  have C:x ∈ ready:=K.mem_iff.2 aK
  have O:x=(p:Int):=by
   obtain ⟨c,f,g,_⟩:=(hi.mem x).1 C
   have o:=X _ B
   have m:¬ c<p:=fun F=>by
    have L:=I c (bL _) F
    have A:=(q c f).2 (by rw [← g];exact C)
    rw [L] at A;cases A
   omega
  subst O
  have G:((p:Int) :: t).Nodup:=K.nodup_iff.1 hi.nd
  obtain ⟨u,a0⟩:=(Z0l P out p).1 s
  obtain ⟨Q,F⟩:=hi.ok.step w
  have a1:=hi.ok.len
  have T:(P.getD p []).count (p:Int)=0:=by have:=Zvt (P:=P) u p;omega
  rw [T9.eq_2,if_pos (dT (by omega)),W,oB,Xh (by simp only [nC,nN,maxLen];omega),Vb [] (by rw [hD];exact H),oB,hDk p H]
  have a2:=Zxz (p:Int) 0 P
  obtain ⟨left',ready',f,g,o,m,L,A⟩:=Ztt N P hP ht hN out p t (T9 N D n) (U0 0 P p) left t (by omega) hi.len (fun c v=>by
    rw [hi.cnt c v,Zvt u c,Zr0 (p:Int) 0 P c,if_pos (bL _),kK]) Y (cQ.1 G).2 (fun y=>by
    have k:y ∈ t↔y ∈ ready∧y≠(p:Int):=by
     rw [K.mem_iff,bK]
     exact ⟨fun h=>⟨.inr h,fun e=>(cQ.1 G).1 (by rw [← e];exact h)⟩,fun h=>h.1.resolve_left h.2⟩
    rw [k,hi.mem]
    constructor
    ·rintro ⟨⟨c,b,d,a,j⟩,R⟩
     exact ⟨c,b,d,by rw [aY,bD];exact fun h=>h.elim a fun h=>R (by rw [d,h]),j⟩
    ·rintro ⟨c,b,d,a,j⟩
     rw [aY,bD] at a
     exact ⟨⟨c,b,d,fun h=>a (.inl h),j⟩,fun h=>a (.inr (by rw [← d,h]))⟩) (fun x S=>by
    obtain ⟨c,k,_,b⟩:=Zx0 (p:Int) 0 P x S
    have b:c<P.length:=by omega
    have d:=Zr0 (p:Int) 0 P c
    rw [if_pos (bL _),kK] at d
    have a:0<(P.getD c []).count (p:Int):=by rw [← d,← k];exact iR.2 S
    refine ⟨c,b,k,fun h=>?_⟩
    rcases aY.1 h with h | h
    ·rw [k] at h
     have j:=hi.ok.2.2 c b h (p:Int) (by rw [Yj b] at a;exact iR.1 a)
     exact u j
    ·rw [bD] at h
     have:c=p:=by omega
     subst this
     omega)
  exact ⟨left',ready',⟨Q,g,o,m,L,A⟩,f⟩
theorem Z1p {N:Nat} {P D:List R2} (hP:P.length<1048576) (hls:∀ x ∈ P,x.length≤1048576) (ht:Sg P≤1048576) (hN:2000000<N) (hD:D.length=P.length) (hDk:∀ p:Nat,p<P.length→D.getD p []=U0 0 P p):∀ (n:Nat) (out left ready:List Int),Zno P out left ready→P.length<n+out.length→
  T9 N D n left ready out=U6 N P n out
 | 0,out,left,ready,a,d=>by have:=a.ok.len;omega
 | n+1,out,left,ready,a,d=>by
  have k:=a.ok.len
  obtain ⟨f,g⟩:=Xav (N:=N) (by omega) ht hN hD hDk a n
  rw [Zst (by omega) hls (by omega) (by omega)]
  cases hnx:Vx P out 0 with
  | none=>rw [f hnx];rfl
  | some p=>
   obtain ⟨c,b,i,j⟩:=g p hnx
   rw [j]
   exact Z1p hP hls ht hN hD hDk n _ _ _ i (by simp;omega)
theorem Zts {N:Nat} (P D:List R2) (hP:P.length<1048576) (hN:2000000<N) (hl:∀ l ∈ P,l.length≤1048576):∀ (Q:List R2) (k:Nat) (left ready:List Int),P.drop k=Q→k≤P.length→left.length=P.length→
  (∀ c:Nat,c<k→left.getD c 0=((P.getD c []).length:Int))→Qi ready ready.length→ready.Nodup→(∀ y:Int,y ∈ ready↔∃ c:Nat,c<k∧y=(c:Int)∧(P.getD c []).length=0)→
  ∃ left' ready',Zbf N D Q k left ready=T9 N D N left' ready' []∧Zno P [] left' ready'
 | [],k,left,ready,g,G,s,m,t,n,j=>by
  have w:k=P.length:=by have:=congrArg fV g;simp at this;omega
  subst w
  have A:∀ c,S1 P [] c=(P.getD c []).length:=fun c=>by
   rw [S1,List.countP_eq_length.2 (fun a _=>by simp)]
  refine ⟨left,ready,by rw [Zbf.eq_1],⟨⟨.nil,by simp,by simp⟩,s,fun c B=>by rw [m c B,A],t,n,fun y=>?_⟩⟩
  rw [j]
  constructor
  ·rintro ⟨c,f,b,d⟩;exact ⟨c,f,b,by simp,by rw [m c f,d];rfl⟩
  ·rintro ⟨c,f,b,_,d⟩;exact ⟨c,f,b,by rw [m c f] at d;omega⟩
 | x :: Q,k,left,ready,g,G,s,m,t,n,j=>by
  have u:k<P.length:=by
   rcases Nat.lt_or_ge k P.length with h | h
   ·exact h
   ·rw [aI h] at g;cases g
  rw [aP u] at g
  obtain ⟨H,g⟩:=List.cons.inj g
  have o:P.getD k []=x:=by rw [Yj u,H]
  have p:k<left.length:=by omega
  have M:ready.length≤k:=by
   have b:=Zj9 (r:=(gQ k).map fun i:Nat=>(i:Int)) n fun y I=>by
    obtain ⟨c,d,J,_⟩:=(j y).1 I
    exact cD.2 ⟨c,eN.2 d,J.symm⟩
   simpa using b
  have v:∀ c:Nat,c<k+1→(left.set k (x.length:Int)).getD c 0=((P.getD c []).length:Int):=fun c B=>by
   rw [Us _ _ _ _ _ p]
   by_cases hck:c=k
   ·subst hck;rw [if_pos rfl,o]
   ·rw [if_neg hck,m c (by omega)]
  have C:(k:Int) ∉ ready:=fun h=>by obtain ⟨c,f,b,_⟩:=(j _).1 h;omega
  rw [Zbf.eq_2,Vb 0 p,oB,oB,aB]
  by_cases h0:x.length=0
  ·obtain ⟨q,K,F,L⟩:=Zzv (N:=N) (k:Int) (by omega:ready.length<2000000) t hN
   rw [if_pos (dT (by omega)),K,oB,Zim]
   refine Zts P D hP hN hl Q (k+1) _ q g (by omega) (by rw [nS];exact s) v L (F.nodup_iff.2 (cQ.2 ⟨C,n⟩)) (fun y=>?_)
   rw [F.mem_iff,bK,j]
   constructor
   ·rintro (rfl | ⟨c,f,b,d⟩)
    ·exact ⟨k,by omega,rfl,by rw [o];exact h0⟩
    ·exact ⟨c,by omega,b,d⟩
   ·rintro ⟨c,f,b,d⟩
    by_cases hck:c=k
    ·subst hck;exact .inl b
    ·exact .inr ⟨c,by omega,b,d⟩
  ·rw [if_neg (by rw [decide_eq_true_eq];omega),Zim]
   refine Zts P D hP hN hl Q (k+1) _ ready g (by omega) (by rw [nS];exact s) v t n (fun y=>?_)
   rw [j]
   constructor
   ·rintro ⟨c,f,b,d⟩;exact ⟨c,by omega,b,d⟩
   ·rintro ⟨c,f,b,d⟩
    by_cases hck:c=k
    ·subst hck;rw [o] at d;exact absurd d h0
    ·exact ⟨c,by omega,b,d⟩
theorem Xau {N:Nat} {P D:List R2} (hP:P.length<1048576) (hls:∀ x ∈ P,x.length≤1048576) (ht:Sg P≤1048576) (hN:2000000<N) (hD:D.length=P.length) (hDk:∀ p:Nat,p<P.length→D.getD p []=U0 0 P p):Zik N P D=Qa N P:=by
 rw [Zik,Xh (by simp only [maxLen];omega),Qa]
 obtain ⟨left,a,b,d⟩:=Zts (N:=N) P D hP hN hls P 0 (aC P.length 0) [] rfl (bL _) (by simp) (fun c g=>by omega) (fun j _ f=>by simp at f) .nil (fun y=>by simp)
 rw [b]
 exact Z1p hP hls ht hN hD hDk N [] _ _ d (by simp;omega)
theorem Zxc (kk:Option Int):∀ (l:List Int) (seen:List Rb) (S:List Int),S.Nodup→(∀ k,W1 seen k=if k ∈ S then some 1 else none)→Zdv kk l seen=if (S++l).Nodup then kk else some 40
 | [],seen,S,c,d=>by rw [Zdv.eq_1,List.append_nil,if_pos c]
 | x :: l,seen,S,c,d=>by
  rw [Zdv.eq_2,d x]
  by_cases hx:x ∈ S
  ·rw [if_pos hx,if_pos (by decide),if_neg]
   intro h
   exact (cN.1 h).2.2 x hx x aK rfl
  ·rw [if_neg hx,if_neg (by decide),oB,Zxc kk l _ (S++[x]) (by
    rw [cN]
    refine ⟨c,by simp,fun a g b f e=>?_⟩
    rw [bD] at f;subst f;subst e;exact hx g) (fun k=>by
    rw [Zyp,d k]
    by_cases hk:k=x
    ·subst hk;rw [if_pos rfl,if_pos (by simp)]
    ·rw [if_neg hk]
     by_cases hs:k ∈ S
     ·rw [if_pos hs,if_pos (by simp [hs])]
     ·rw [if_neg hs,if_neg (by simp [hs,hk])])]
   rw [bB];rfl
theorem Zxb:∀ P:List R2,Zbd P=if Sh P then some 40 else some 0
 | []=>by rw [Zbd.eq_1];rfl
 | l :: P=>by
  rw [Zbd.eq_2,Zxc _ l [] [] .nil (fun k=>by simp [W1]),Zxb P,List.nil_append]
  by_cases h:l.Nodup
  ·rw [if_pos h]
   have:Sh (l :: P)=Sh P:=by rw [Sh,Sh,dL,decide_eq_true h];rfl
   rw [this]
  ·rw [if_neg h]
   have:Sh (l :: P)=true:=by rw [Sh,dL,decide_eq_false h];rfl
   rw [this];rfl
theorem Zxd (P:List R2) (kk:Option Int):∀ l:List Int,Zbe P kk l=if (l.all fun p=>decide (0≤p∧p<(P.length:Int)))=true then kk else some 3
 | []=>by rw [Zbe.eq_1];rfl
 | x :: l=>by
  rw [Zbe.eq_2,Zxd P kk l,Zig,Zig,dK]
  by_cases h1:x<0
  ·rw [if_pos (by simpa using h1),if_pos rfl,decide_eq_false (by omega),Bool.false_and,if_neg (by decide)]
  ·rw [if_neg (by simpa using h1)]
   by_cases h2:(P.length:Int)≤x
   ·rw [if_pos (by simpa using h2),decide_eq_false (by omega),Bool.false_and,if_neg (by decide)]
   ·rw [if_neg (by simpa using h2),decide_eq_true (by omega),Bool.true_and]
theorem Zxa (P:List R2):∀ Q:List R2,Zbc P Q=if Tc P.length Q=true then Zbd P else some 3
 | []=>by rw [Zbc.eq_1];rfl
 | l :: Q=>by
  rw [Zbc.eq_2,Zxd,Zxa P Q]
  by_cases h:(l.all fun p=>decide (0≤p∧p<(P.length:Int)))=true
  ·rw [if_pos h]
   have:Tc P.length (l :: Q)=Tc P.length Q:=by rw [Tc,Tc,dK,h,Bool.true_and]
   rw [this]
  ·rw [if_neg h]
   have:Tc P.length (l :: Q)=false:=by rw [Tc,dK,Bool.eq_false_iff.2 h,Bool.false_and]
   rw [this,if_neg (by decide)]
theorem Z7f (P:List R2):Zif P=if Tc P.length P=true then (if Sh P=true then some 40 else some 0) else some 3:=by
 rw [Zif,Zxa,Zxb]
structure Znq (P:List R2):Prop where
 n:P.length≤1048575
 t:Sg P≤1048576
theorem Znq.ls {P:List R2} (h:Znq P):∀ x ∈ P,x.length≤1048576:=fun x a=>aN (Zqd a) h.t
theorem Zxv {P:List R2} {n:Nat} (h:Tc n P=true):∀ l ∈ P,Znn n l:=by
 intro l a x b
 rw [Tc,cW] at h
 have:=cW.1 (h l a) x b
 simpa using this
inductive Znp (N:Nat) (P:List R2):Prop
 | err (e:Int) (D:Tr N P=some ([],e)) (R:Zar N P=some e) (ne:e=3∨e=40):Znp N P
 | cyc (I:Tc P.length P=true) (T:Sh P=false) (l:List Int) (o:Qa N P=some l) (ok:Tl P l) (mx:Vx P l 0=none) (lt:l.length<P.length) (D:Tr N P=some ([],42)) (R:Zar N P=some 42):Znp N P
 | ord (I:Tc P.length P=true) (T:Sh P=false) (l:List Int) (o:Qa N P=some l) (ok:Tl P l) (mx:Vx P l 0=none) (eq:l.length=P.length) (D:Tr N P=some (l,0)) (R:Zar N P=some 0):Znp N P
theorem Z1l {N:Nat} {P:List R2} (h:Znq P) (hN:2000000<N):Znp N P:=by
 have v:=h.n
 have w:=h.t
 have k:=h.ls
 have c:∀ x ∈ P,x.length≤1048576:=fun x p=>by have:=k x p;omega
 have a:Tr N P=(Zif P).bind fun r_1=>if (!decide (r_1=0))=true then (some (([]:List Int),r_1)) else ((Zie P).bind fun f=>(Zik N P f).bind fun g=>if (decide ((g.length:Int)<(P.length:Int)))=true then (some (([]:List Int),42)) else (some (g,0))):=by rw [Tr]
 have b:Zar N P=(Zjt N P).bind fun r_1=>if (!r_1)=true then (some 3) else ((Zjx N P).bind fun f=>if f=true then (some 40) else ((Qa N P).bind fun m=>if (decide ((m.length:Int)<(P.length:Int)))=true then (some 42) else (some 0))):=by rw [Zar]
 rw [Z7f] at a
 rw [Z7w (by omega) c (by omega),oB] at b
 by_cases hI:Tc P.length P=true
 ·rw [hI,if_neg (by decide),Xa5 (by omega) c (by omega),oB] at b
  rw [if_pos hI] at a
  by_cases d:Sh P=true
  ·rw [if_pos d] at a b
   exact .err 40 (by rw [a];rfl) b (.inr rfl)
  ·rw [if_neg d] at a b
   obtain ⟨l,i,j,o⟩:=Z9a (N:=N) (P:=P) (by omega) c (by omega)
   obtain ⟨D,q,r,s⟩:=Z5v (P:=P) (by omega) (by omega) (Zxv hI)
   rw [i,oB] at b
   rw [oB,if_neg (by decide),q,oB,Xau (by omega) c (by omega) hN r s,i,oB] at a
   have d:=Bool.eq_false_iff.2 d
   have u:=j.len
   by_cases hlt:l.length<P.length
   ·rw [if_pos (dT (by omega))] at b a
    exact .cyc hI d l i j o hlt a b
   ·rw [if_neg (by rw [decide_eq_true_eq];omega)] at b a
    exact .ord hI d l i j o (by omega) a b
 ·rw [Bool.eq_false_iff.2 hI,if_pos (by decide)] at b
  rw [if_neg hI] at a
  exact .err 3 (by rw [a];rfl) b (.inl rfl)
def Zjg (b:List Int) (a:Int) (kk_L1:(Int→Option R2)) (c:Bool):Option R2:=
  if c=true then (kk_L1 (i64.wrap (a - 1))) else (Z1 ((0:Int)≤a∧a≤(b.length:Int)) (Z1 ((([]:List Int).length+(b.take (aA a)).length) * 4≤140737488355328∧([]:List Int).length+(b.take (aA a)).length≤maxLen) (some (([]:List Int)++(b.take (aA a))))))
def Zcr (N:Nat) (a:List Int):Nat→Int→Option R2
  | 0,_=>none
  | c+1,b=>if (decide (0<b))=true then ((Zn a (i64.wrap (b - 1))).bind fun d=>Zjg a b (Zcr N a c) (decide (d=0))) else (Zjg a b (Zcr N a c) false)
def Ul (N:Nat) (a:List Int):Option R2:=
  Zcr N a N (a.length:Int)
theorem Tn {N j:Nat} {f:Option Addr} {col:Zg} {d:World} {b r:R2} (m:Nat) (a:Ul N b=some r) (e:Sl rU col d f j b):
    Calls prog 84 #[.slice f b.length j] d (Vl .u32 119 m col d r):=by
 refine Xk 2 (m:=24) func84 O O O O O ?_;rw [Ul.eq_1] at a;have c:=St.start col d;refine go ?_;refine Z0 [0,1000000] (fun l k w=>∃ x g h,h=l∧Zcr N b h g=some r∧St d (Zk col) x w∧[3].map k=[.int .i64 g]) N ⟨_,_,_,O,a,c,O⟩ ?_;clear a;intro l k w z;obtain ⟨x,g,h,t,a,c,i⟩:=z;subst t;refine .lL [3] i ?_;replace e:=e.k0
 cases h with
 | zero=>rw [Zcr.eq_1] at a;cases a
 | succ h=>
  rw [Zcr.eq_2] at a;refine Zw<|Zw ?_;refine Wp.cutK [0,3,1000000] (fun k u=>∃ v o,Zjg b g (Zcr N b h) o=some r∧St d (Zk col) v u∧[16].map k=[.bool o]) ?_ ?_
  ·intro k u y;obtain ⟨v,o,a,c,i⟩:=y;rw [Zjg.eq_1] at a;refine .lL [16] i ?_;refine Zp a (fun s a=>go ?_) fun s a=>go ?_
   ·exact ⟨h,by omega,O,⟨_,_,_,O,a,c,O⟩⟩
   obtain ⟨p,a⟩:=Z5 a;refine lv (v:=.slice f (aA g) j) O O (Zkg underlying38 sizeOf119 O O p.1 (by have:=(e.ks c).1.2;have:=p.2;omega))<|.ld (d:=22) (v:=(.slice f ((b.take (aA g)).length) j)) (congrArg (fun l=>Value.slice f l j) (dY (show (aA g)≤b.length by have:=p.2;omega)).symm) ?_;obtain ⟨B,a⟩:=Z5 a;refine Vw (c:=1) Zb.nil ((e.ks c).take (aA g)).srcC B fun _ _ _ _ A C=>go ?_;cases a;replace c:=c.kpp A;exact ⟨O,_,_,_,O,c.fin (cm [(1,m)]),c.fo C⟩
  refine go ?_;refine X9 a (fun q a=>go ?_) fun q a=>go ?_
  ·obtain ⟨D,n,a⟩:=bZ a;refine lI n ((e.ks c).addr n) ?_;refine go ?_;refine lW ((e.ks c).atInt n)<|go ?_;refine lV (.bool (decide (D=0))) (Xw (congrArg Value.bool q) O)<|Zj ?_;exact ⟨O,_,_,a,c,O⟩
  refine lV (.bool false) (X0 (congrArg Value.bool q) O)<|Zj ?_;exact ⟨O,_,_,a,c,O⟩
def Zf8 (N:Nat):Nat→Int→Int→Option Int
  | 0,_,_=>none
  | c+1,a,b=>if (decide (0<b))=true then ((Zf8 N c) (i64.wrap (a+1)) (u32.wrap (aM b 2))) else (some a)
def Zma (N:Nat) (b:List Int):Option Int:=
  (Ul N b).bind fun a=>if (decide ((a.length:Int)=0))=true then (some 0) else ((Zn a (i64.wrap ((a.length:Int) - 1))).bind fun c=>Zf8 N N (i64.wrap (32 * (i64.wrap ((a.length:Int) - 1)))) c)
theorem Z4o {N j:Nat} {h:Option Addr} {col:Zg} {b:World} {d:R2} {r:Int} (a:Zma N d=some r) (o:Sl rU col b h j d):
    Calls prog 133 #[.slice h d.length j] b (W8 b r):=by
 refine Xk 2 (m:=28) func133 O O O O O ?_;rw [Zma.eq_1] at a;have c:=St.start col b;refine go ?_;obtain ⟨_,z,a⟩:=bZ a;refine Zh (Tn 1 z (o.k0.ks c)) ?_;rintro _ u ⟨v,w,x,rfl,q,k⟩;refine ⟨_,O,go ?_⟩;replace c:=c.grow q;refine Zp a (fun f a=>go ?_) fun f a=>go ?_
 ·cases a;exact ⟨O,O,c.below⟩
 obtain ⟨_,i,a⟩:=bZ a;refine lI i (k.addr i)<|lW (k.atInt i) ?_;refine go ?_;refine Z0 [1000000] (fun p s t=>∃ y l g e,e=p∧Zf8 N e l g=some r∧St b (Zk col) y t∧[4,5].map s=[.int .i64 l,.int .u32 g]) N ⟨_,_,_,_,O,a,c,O⟩ ?_;clear a;intro p s t A;obtain ⟨y,l,g,e,m,a,c,n⟩:=A;subst m;refine .lL [4,5] n ?_
 cases e with
 | zero=>rw [Zf8.eq_1] at a;cases a
 | succ e=>
  rw [Zf8.eq_2] at a;refine go ?_;refine Zp a (fun f a=>go ?_) fun f a=>go ?_
  ·refine lV (.int .u32 (u32.wrap (aM g 2))) (Vm g 2 O O (by decide))<|go ?_;exact ⟨e,by omega,O,⟨_,_,_,_,O,a,c,O⟩⟩
  cases a;exact ⟨O,O,c.below⟩
def Zaq (a:List Int) (b:Int):Option Int:=
  if (decide (b<(a.length:Int)))=true then ((Zn a b).bind fun c=>some (u64.wrap c)) else (some 0)
theorem Ze2 {d:Nat} {h:Option Addr} {col:Zg} {c:World} {b:R2} {f r:Int} (a:Zaq b f=some r) (g:Sl rU col c h d b):
    Calls prog 135 #[.slice h b.length d,.int .i64 f] c (fun e w'=>e= .returned ((.int .u64 r))∧Below c.heap.size c w'):=by
 refine Xk 4 (m:=14) func135 O O O O O ?_;rw [Zaq.eq_1] at a;have i:=St.start col c;refine go ?_;replace g:=g.k0;refine Zp a (fun k a=>go ?_) fun k a=>go ?_
 ·obtain ⟨_,j,a⟩:=bZ a;refine lI j ((g.ks i).addr j)<|lW ((g.ks i).atInt j) ?_;refine go ?_;cases a;exact ⟨O,O,i.below⟩
 cases a;exact ⟨O,O,i.below⟩
def Zl9 (b:List Int) (a:Int):Option Int:=
  (Zaq b (i64.wrap (aM a 32))).bind fun c=>Z1 (0≤(aS a 32)) (some (aS (u32.wrap (Yl .u64 c (aS a 32))) 2))
theorem Z4n {g:Nat} {f:Option Addr} {col:Zg} {c:World} {d:R2} {a r:Int} (b:Zl9 d a=some r) (k:Sl rU col c f g d):
    Calls prog 134 #[.slice f d.length g,.int .i64 a] c (fun e w'=>e= .returned ((.int .u32 r))∧Below c.heap.size c w'):=by
 refine Xk 4 (m:=14) func134 O O O O O ?_;rw [Zl9.eq_1] at b;have l:=St.start col c;refine go ?_;refine lV (.int .i64 (i64.wrap (aM a 32))) (Vm a 32 O O (by decide)) ?_;obtain ⟨h,m,b⟩:=bZ b;refine Zh (Ze2 m (k.k0.ks l)) fun _ _ ⟨j,i⟩=>⟨_,j,?_⟩;replace i:=Ru (Zk col) i;refine Xy O<|lV (.int .i64 (aS a 32)) (Tv a 32 O O (by decide)) ?_;obtain ⟨n,b⟩:=Z5 b;refine lV (.int .u64 (Yl .u64 h (aS a 32))) (Sw h (aS a 32) O O n)<|go ?_;refine lV (.int .u32 (aS (u32.wrap (Yl .u64 h (aS a 32))) 2)) (Tv (u32.wrap (Yl .u64 h (aS a 32))) 2 O O (by decide))<|go ?_;cases b;exact ⟨O,O,(l.grow i).below⟩
def Zjk (a:List Int):Option R2:=
  some a
def Zge (N:Nat) (d:List Int):Nat→R2→Int→Int→Option R2
  | 0,_,_,_=>none
  | f+1,b,a,e=>if (decide (e<(d.length:Int)))=true then ((Zn d e).bind fun c=>Z1 ((b.length+[u32.wrap (aS (u64.wrap (a+(u64.wrap (2 * (u64.wrap c))))) 4294967296)].length) * 4≤140737488355328∧b.length+[u32.wrap (aS (u64.wrap (a+(u64.wrap (2 * (u64.wrap c))))) 4294967296)].length≤maxLen) ((Zge N d f) (b++[u32.wrap (aS (u64.wrap (a+(u64.wrap (2 * (u64.wrap c))))) 4294967296)]) (u64.wrap (aM (u64.wrap (a+(u64.wrap (2 * (u64.wrap c))))) 4294967296)) (i64.wrap (e+1)))) else (if (decide (0<a))=true then (Z1 ((b.length+[u32.wrap a].length) * 4≤140737488355328∧b.length+[u32.wrap a].length≤maxLen) (Zjk (b++[u32.wrap a]))) else (Zjk b))
def Zjj (N:Nat) (a:List Int) (b:Int):Option R2:=
  Zge N a N ([]:List Int) (u64.wrap b) 0
theorem Zu5 {N E:Nat} {o:Option Addr} {col:Zg} {c:World} {j:R2} {B:Int} {r:R2} (q:Nat) (a:Zjj N j B=some r) (e:Sl rU col c o E j):
    Calls prog 132 #[.slice o j.length E,.int .u32 B] c (Vl .u32 119 q col c r):=by
 refine Xk 4 (m:=40) func132 O O O O O ?_;rw [Zjj.eq_1] at a;have b:=St.start col c;refine go ?_;refine Z0 [0,1000000] (fun F l x=>∃ m y z p d A g,g=F∧Zge N j g p d A=some r∧St c (Zk col) m x∧Zb rU 119 1 m x y z p∧[5,6,7].map l=[.slice y p.length z,.int .u64 d,.int .i64 A]) N ⟨_,none,0,_,_,0,_,O,a,b,Zb.nil,O⟩ ?_;clear a;intro F l x J;obtain ⟨m,y,z,p,d,A,g,C,a,b,f,i⟩:=J;subst C;refine .lL [5,6,7] i ?_;replace e:=e.k0
 cases g with
 | zero=>rw [Zge.eq_1] at a;cases a
 | succ g=>
  rw [Zge.eq_2] at a;refine go ?_;refine Zp a (fun h a=>go ?_) fun h a=>?_
  ·obtain ⟨k,s,a⟩:=bZ a;refine lI s ((e.ks b).addr s)<|lW ((e.ks b).atInt s) ?_;refine go ?_;refine lV (.int .u64 (aS (u64.wrap (d+(u64.wrap (2 * (u64.wrap k))))) 4294967296)) (Tv (u64.wrap (d+(u64.wrap (2 * (u64.wrap k))))) 4294967296 O O (by decide))<|go ?_;refine Vn (col:=m) [u32.wrap (aS (u64.wrap (d+(u64.wrap (2 * (u64.wrap k))))) 4294967296)] 2 ?_;intro _ _ _ G K;obtain ⟨P,a⟩:=Z5 a;replace f:=f.gr G;refine Vw f (K.srcN (NB.int (k:=.u32))) P fun _ _ _ _ S T=>go ?_;refine lV (.int .u64 (u64.wrap (aM (u64.wrap (d+(u64.wrap (2 * (u64.wrap k))))) 4294967296))) (Vm (u64.wrap (d+(u64.wrap (2 * (u64.wrap k))))) 4294967296 O O (by decide))<|go ?_;replace b:=(b.grow G).kpp S;exact ⟨g,by omega,O,⟨_,_,_,_,_,_,_,O,a,b,T,O⟩⟩
  refine Zqh (Zog ?_);refine Zw ?_;refine Wp.cutK [1000000] (fun l t=>∃ u v w n,Zjk n=some r∧St c (Zk col) u t∧Zb rU 119 1 u t v w n∧[5].map l=[.slice v n.length w]) ?_ ?_
  ·intro l t H;obtain ⟨u,v,w,n,a,b,R,i⟩:=H;rw [Zjk.eq_1] at a;refine .lL [5] i<|go ?_;cases a;exact ⟨O,_,_,_,O,b.fin (cm [(1,q)]),b.fo R⟩
  refine go ?_;refine Zp a (fun h a=>go ?_) fun h a=>?_
  ·refine Vn (col:=m) [u32.wrap d] 3 ?_;intro _ _ _ D L;obtain ⟨Q,a⟩:=Z5 a;replace f:=f.gr D;refine Vw f (L.srcN (NB.int (k:=.u32))) Q fun _ _ _ _ I M=>go ?_;replace b:=(b.grow D).kpp I;exact ⟨O,_,_,_,_,a,b,M,O⟩
  refine X1 ?_;exact ⟨O,_,_,_,_,a,b,f,O⟩
def Zga (N:Nat) (b c:List Int):Nat→Int→Option Int
  | 0,_=>none
  | f+1,a=>if (decide (0≤a))=true then ((Zaq b a).bind fun d=>(Zaq c a).bind fun e=>if (decide (d<e))=true then (some (-1)) else (if (decide (e<d))=true then (some 1) else ((Zga N b c f) (i64.wrap (a - 1))))) else (some 0)
def Zjb (N:Nat) (a b:List Int) (c:Int):Option Int:=
  Zga N a b N (i64.wrap (c - 1))
def Zf9 (N:Nat) (a b:List Int):Option Int:=
  if (decide ((a.length:Int)<(b.length:Int)))=true then (Zjb N a b (b.length:Int)) else (Zjb N a b (a.length:Int))
theorem Zq0 {N p q:Nat} {k l:Option Addr} {col:Zg} {e:World} {d g:R2} {r:Int} (a:Zf9 N d g=some r) (v:Sl rU col e k p d) (w:Sl rU col e l q g):
    Calls prog 131 #[.slice k d.length p,.slice l g.length q] e (W8 e r):=by
 refine Xk 4 (m:=35) func131 O O O O O ?_;rw [Zf9.eq_1] at a;have b:=St.start col e;refine Zw<|Wv<|Yr O<|Zj<|Zw<|Wv<|Wg O<|lV _ (Q4 underlying38 O)<|Yr O<|Zj<|Zw ?_;refine Wp.cutK [0,1,1000000] (fun j x=>∃ y s,Zjb N d g s=some r∧St e (Zk col) y x∧[5].map j=[.int .i64 s]) ?_ ?_
 ·intro j x B;obtain ⟨y,s,a,b,i⟩:=B;rw [Zjb.eq_1] at a;refine .lL [5] i<|go ?_;refine Z0 [0,1,1000000] (fun z j A=>∃ m t f,f=z∧Zga N d g f t=some r∧St e (Zk col) m A∧[6].map j=[.int .i64 t]) N ⟨_,_,_,O,a,b,O⟩ ?_;clear a;intro z j A D;obtain ⟨m,t,f,u,a,b,i⟩:=D;subst u;refine .lL [6] i ?_
  cases f with
  | zero=>rw [Zga.eq_1] at a;cases a
  | succ f=>
   rw [Zga.eq_2] at a;refine go ?_;refine Zp a (fun c a=>go ?_) fun c a=>go ?_
   ·obtain ⟨_,C,a⟩:=bZ a;refine Zh (Ze2 C (v.k0.ks b)) fun _ _ ⟨h,o⟩=>⟨_,h,?_⟩;replace o:=Ru m o;refine go ?_;obtain ⟨_,E,a⟩:=bZ a;replace b:=b.grow o;refine Zh (Ze2 E (w.k0.ks b)) fun _ _ ⟨h,n⟩=>⟨_,h,?_⟩;replace n:=Ru m n;refine go ?_;replace b:=b.grow n;refine Zp a (fun c a=>go ?_) fun c a=>go ?_
    ·cases a;exact ⟨O,O,b.below⟩
    refine Zp a (fun c a=>go ?_) fun c a=>go ?_
    ·cases a;exact ⟨O,O,b.below⟩
    exact ⟨f,by omega,O,⟨_,_,_,O,a,b,O⟩⟩
   cases a;exact ⟨O,O,b.below⟩
 refine go ?_;refine Zp a (fun c a=>go ?_) fun c a=>?_
 ·exact ⟨O,_,_,a,b,O⟩
 refine X1 ?_;exact ⟨O,_,_,a,b,O⟩
def Zo2 (a:Int) (kk_L1:(List Int→Int→Int→Option Rf)) (b:List Int) (c:Int):Option Rf:=
  kk_L1 b c (i64.wrap (a+1))
def Zji (a:List Int) (b e:Int) (kk_L1:(List Int→Int→Int→Option Rf)) (c f d:Int):Option Rf:=
  Z1 ((a.length+[u32.wrap (u64.wrap (d - (u64.wrap (c+b))))].length) * 4≤140737488355328∧a.length+[u32.wrap (u64.wrap (d - (u64.wrap (c+b))))].length≤maxLen) (Zo2 e kk_L1 (a++[u32.wrap (u64.wrap (d - (u64.wrap (c+b))))]) f)
def Zap (N:Nat) (b c:List Int):Nat→R2→Int→Int→Option Rf
  | 0,_,_,_=>none
  | i+1,d,e,a=>if (decide (a<(b.length:Int)))=true then ((Zaq b a).bind fun f=>(Zaq c a).bind fun g=>if (decide (f<(u64.wrap (g+e))))=true then (Zji d e a (Zap N b c i) g 1 (u64.wrap (f+4294967296))) else (Zji d e a (Zap N b c i) g 0 f)) else ((Ul N d).bind fun j=>some (j,true))
def Zed (N:Nat) (a b:List Int):Option Rf:=
  (Zf9 N a b).bind fun c=>if (decide (c<0))=true then (some (([]:List Int),false)) else (Zap N a b N ([]:List Int) 0 0)
theorem Zn4 {N T B:Nat} {t u:Option Addr} {col:Zg} {c:World} {g i:R2} {r:Rf} (H:Nat) (a:Zed N g i=some r) (p:Sl rU col c t T g) (q:Sl rU col c u B i):
    Calls prog 90 #[.slice t g.length T,.slice u i.length B] c (fun e w'=>∃ (col':Zg) (h:Option Addr) (f:Nat),e= .returned (.tuple #[.slice h r.1.length f,.bool r.2])∧Zl col c col' w'∧Zb rU 119 H col' w' h f r.1):=by
 refine Zde 4 5 (m:=43) (args:=[.slice t g.length T,.slice u i.length B]) func90 O O O O O ?_;rw [Zed.eq_1] at a;have b:=St.start col c;refine go ?_;obtain ⟨_,x,a⟩:=bZ a;replace p:=p.k0;replace q:=q.k0;refine Zh (Zq0 x (p.ks b) (q.ks b)) fun _ _ ⟨d,I⟩=>⟨_,d,?_⟩;replace I:=Ru (Zk col) I;refine go ?_;replace b:=b.grow I;refine Zp a (fun l a=>go ?_) fun l a=>go ?_
 ·cases a;exact ⟨O,_,none,0,O,b.fin (cm []),Zb.nil⟩
 refine Z0 [0,1,1000000] (fun f n G=>∃ o E F s w v m,m=f∧Zap N g i m s w v=some r∧St c (Zk col) o G∧Zb rU 119 1 o G E F s∧[6,7,8].map n=[.slice E s.length F,.int .u64 w,.int .i64 v]) N ⟨_,none,0,_,0,0,_,O,a,b,Zb.nil,O⟩ ?_;clear a;intro f n G u;obtain ⟨o,E,F,s,w,v,m,V,a,b,k,j⟩:=u;subst V;refine .lL [6,7,8] j ?_
 cases m with
 | zero=>rw [Zap.eq_1] at a;cases a
 | succ m=>
  rw [Zap.eq_2] at a;refine go ?_;refine Zp a (fun l a=>?_) fun l a=>go ?_
  ·refine X1<|Zw ?_;refine Wp.cutK [0,1,8,1000000] (fun n K=>∃ M P Q y R,Zo2 v (Zap N g i m) y R=some r∧St c (Zk col) M K∧Zb rU 119 1 M K P Q y∧[6,7].map n=[.slice P y.length Q,.int .u64 R]) ?_ ?_
   ·intro n K U;obtain ⟨M,P,Q,y,R,a,b,y,j⟩:=U;rw [Zo2.eq_1] at a;refine .lL [6,7] j<|go ?_;exact ⟨m,by omega,O,⟨_,_,_,_,_,_,_,O,a,b,y,O⟩⟩
   refine go ?_;obtain ⟨_,t,a⟩:=bZ a;refine Zh (Ze2 t (p.ks b)) fun _ _ ⟨d,C⟩=>⟨_,d,?_⟩;replace C:=Ru o C;refine go ?_;obtain ⟨h,p,a⟩:=bZ a;replace b:=b.grow C;refine Zh (Ze2 p (q.ks b)) fun _ _ ⟨d,x⟩=>⟨_,d,?_⟩;replace x:=Ru o x;refine Xy O<|lV _ (Qg _ _ O O)<|Yr O<|Zj<|Zw<|Wv<|Yr O<|Zj<|Zw ?_;replace k:=(k.gr C).gr x;replace b:=b.grow x;refine Wp.cutK [0,1,10,6,8,1000000] (fun n J=>∃ A L D,Zji s w v (Zap N g i m) h L D=some r∧St c (Zk col) A J∧Zb rU 119 1 A J E F s∧[7,9].map n=[.int .u64 L,.int .u64 D]) ?_ ?_
   ·intro n J U;obtain ⟨A,L,D,a,b,k,j⟩:=U;rw [Zji.eq_1] at a;refine .lL [7,9] j<|go ?_;refine Vn (col:=A) [u32.wrap (u64.wrap (D - (u64.wrap (h+w))))] 2 ?_;intro _ _ _ Z j;obtain ⟨m,a⟩:=Z5 a;replace k:=k.gr Z;refine Vw k (j.srcN (NB.int (k:=.u32))) m fun _ _ _ _ c X=>go ?_;replace b:=(b.grow Z).kpp c;exact ⟨O,_,_,_,_,_,a,b,X,O⟩
   refine go ?_;refine Zp a (fun l a=>go ?_) fun l a=>?_
   ·exact ⟨O,_,1,_,a,b,k,O⟩
   refine X1 ?_;exact ⟨O,_,0,_,a,b,k,O⟩
  obtain ⟨_,W,a⟩:=bZ a;refine Zh (Tn 3 W (k.toSlF (Ze.int .u32))) fun _ _ ⟨Y,_,_,d,z,S⟩=>⟨_,d,?_⟩;replace S:=S.thaw (Zt .u32) z ((Fz.refl (col:=o)).froz 1);replace z:=z.thawR (col:=o);generalize Z2 G.heap.size o Y=d at *;refine go ?_;cases a;replace b:=b.grow z;exact ⟨O,_,_,_,O,b.fin (cm [(3,H)]),b.fo S⟩
def Zjd (a:Int) (kk_L1:(List Int→Int→R2→Option Ra)) (b c:List Int):Option Ra:=
  kk_L1 b (i64.wrap (a - 1)) c
def Zco (N:Nat) (d b:List Int):Nat→R2→Int→R2→Option Ra
  | 0,_,_,_=>none
  | f+1,g,a,c=>if (decide (0≤a))=true then ((Zl9 d a).bind fun i=>(Zjj N g i).bind fun j=>(Ul N j).bind fun e=>(Zf9 N e b).bind fun k=>if (decide (0≤k))=true then ((Zed N e b).bind fun l=>(Zn c (i64.wrap (aM a 32))).bind fun m=>Z1 (0≤(aS a 32)) ((some (c.set (aA (i64.wrap (aM a 32))) (u32.wrap (m+(Xx .u32 1 (aS a 32)))))).bind fun n=>Zjd a (Zco N d b f) l.1 n)) else (Zjd a (Zco N d b f) e c)) else ((Ul N c).bind fun o=>some (o,g,0))
def Zjc (N:Nat) (b d:List Int):Option Ra:=
  (Ul N d).bind fun c=>if (decide ((c.length:Int)=0))=true then (some (([]:List Int),([]:List Int),11)) else ((Zma N b).bind fun a=>Z1 ((aA (i64.wrap (aM (i64.wrap (a+31)) 32))) * 4≤281474976710656∧(aA (i64.wrap (aM (i64.wrap (a+31)) 32)))≤maxLen∧0≤(i64.wrap (aM (i64.wrap (a+31)) 32))) (Zco N b c N ([]:List Int) (i64.wrap (a - 1)) (aC (aA (i64.wrap (aM (i64.wrap (a+31)) 32))) (0:Int))))
theorem Zu3 {N A W:Nat} {R S:Option Addr} {col:Zg} {i:World} {s L:R2} {r:Ra} (c1 c2:Nat) (a:Zjc N s L=some r) (u:Sl rU col i R A s) (o:Sl rU col i S W L):
    Calls prog 87 #[.slice R s.length A,.slice S L.length W] i (fun e w'=>∃ (col':Zg) (m:Option Addr) (k:Nat) (n:Option Addr) (l:Nat),e= .returned (.tuple #[.slice m r.1.length k,.slice n r.2.1.length l,.int .i64 r.2.2])∧Zl col i col' w'∧Zb rU 119 c1 col' w' m k r.1∧Zb rU 119 c2 col' w' n l r.2.1):=by
 refine Zra 4 5 6 (m:=61) (args:=[.slice R s.length A,.slice S L.length W]) func87 O O O O O ?_;rw [Zjc.eq_1] at a;have b:=St.start col i;refine go ?_;obtain ⟨x,G,a⟩:=bZ a;refine Zh (Tn 1 G (o.k0.ks b)) ?_;rintro _ aw ⟨X,ak,al,rfl,ax,d⟩;refine ⟨_,O,go ?_⟩;replace u:=u.k0;replace b:=b.grow ax;refine Zp a (fun p a=>go ?_) fun p a=>go ?_
 ·cases a;exact ⟨O,_,none,0,none,0,O,b.fin (cm []),Zb.nil,Zb.nil⟩
 obtain ⟨z,E,a⟩:=bZ a;refine Zh (Z4o E (u.ks b)) fun _ h ⟨c,q⟩=>⟨_,c,?_⟩;replace q:=Ru X q;refine go ?_;refine lV (.int .i64 (i64.wrap (aM (i64.wrap (z+31)) 32))) (Vm (i64.wrap (z+31)) 32 O O (by decide)) ?_;obtain ⟨n,a⟩:=Z5 a;refine T6 (col:=X) (w:=h) (r:=rU) (n:=(aA (i64.wrap (aM (i64.wrap (z+31)) 32)))) (x0:=0) 2 O underlying38 Tryz.t119 O O O O O (congrArg (Value.int _) (bA n.2.2).symm) (congrArg (Value.int _) (bA n.2.2).symm) n.1 n.2.1 (Tx .u32 0) fun _ _ _ h l=>go ?_;replace d:=(d.gr q).gr h;replace b:=(b.grow q).grow h;refine Z0 [0,7,1000000] (fun a9 Z C=>∃ j y P o f bi bj B v,v=a9∧Zco N s x v o f B=some r∧St i (Zk col) j C∧Zb rU 119 3 j C y P o∧Zb rU 119 1 j C ak al x∧Zb rU 119 2 j C bi bj B∧[10,11,9].map Z=[.slice y o.length P,.int .i64 f,.slice bi B.length bj]) N ⟨_,none,0,_,_,_,_,_,_,O,a,b,Zb.nil,d,l,O⟩ ?_;clear a;intro a9 Z C J;obtain ⟨j,y,P,o,f,bi,bj,B,v,D,a,b,bk,d,g,T⟩:=J;subst D;refine .lL [10,11,9] T ?_
 cases v with
 | zero=>rw [Zco.eq_1] at a;cases a
 | succ v=>
  rw [Zco.eq_2] at a;refine go ?_;refine Zp a (fun p a=>?_) fun p a=>go ?_
  ·refine X1<|Zw ?_;refine Wp.cutK [0,11,7,1000000] (fun Z U=>∃ V G H l I J m,Zjd f (Zco N s x v) l m=some r∧St i (Zk col) V U∧Zb rU 119 3 V U G H l∧Zb rU 119 1 V U ak al x∧Zb rU 119 2 V U I J m∧[10,9].map Z=[.slice G l.length H,.slice I m.length J]) ?_ ?_
   ·intro Z U M;obtain ⟨V,G,H,l,I,J,m,a,b,S,d,U,T⟩:=M;rw [Zjd.eq_1] at a;refine .lL [10,9] T<|go ?_;exact ⟨v,by omega,O,⟨_,_,_,_,_,_,_,_,_,O,a,b,S,d,U,O⟩⟩
   refine go ?_;obtain ⟨_,F,a⟩:=bZ a;refine Zh (Z4n F (u.ks b)) fun _ i ⟨c,z⟩=>⟨_,c,?_⟩;replace z:=Ru j z;obtain ⟨_,P,a⟩:=bZ a;replace bk:=bk.gr z;refine Zh (Zu5 4 P (bk.toSlF (Ze.int .u32))) fun _ m ⟨T,_,_,c,y,E⟩=>⟨_,c,?_⟩;replace E:=E.thaw (Zt .u32) y ((Fz.refl (col:=j)).froz 3);replace y:=y.thawR (col:=j);generalize Z2 i.heap.size j T=F at *;obtain ⟨_,H,a⟩:=bZ a;refine Zh (Tn 5 H (E.toSlF (Ze.int .u32))) fun _ _ ⟨V,_,_,c,x,q⟩=>⟨_,c,?_⟩;replace q:=q.thaw (Zt .u32) x ((Fz.refl (col:=F)).froz 4);replace x:=x.thawR (col:=F);generalize Z2 m.heap.size F V=v at *;refine go ?_;obtain ⟨_,Q,a⟩:=bZ a;replace d:=((d.gr z).gr y).gr x;refine Zh (Zq0 Q ((q.toSlF (Ze.int .u32)).froz 1) ((d.froz 5).toSlF (Ze.int .u32))) fun _ n ⟨c,w⟩=>⟨_,c,?_⟩;replace w:=Ru v w;refine go ?_;replace g:=(((g.gr z).gr y).gr x).gr w;replace b:=(((b.grow z).grow y).grow x).grow w;replace d:=d.gr w;replace q:=q.gr w;refine Zp a (fun p a=>go ?_) fun p a=>?_
   ·obtain ⟨t,I,a⟩:=bZ a;refine Zh (Zn4 6 I ((q.toSlF (Ze.int .u32)).froz 1) ((d.froz 5).toSlF (Ze.int .u32))) fun _ _ ⟨Z,k,p,c,A,o⟩=>⟨_,c,?_⟩;replace o:=o.thaw (Zt .u32) A (((Fz.refl (col:=v)).froz 5).froz 1);replace A:=A.thawR (col:=v);generalize Z2 n.heap.size v Z=i at *;refine lM (.tuple #[.slice k t.1.length p,.bool t.2])<|lV (.slice k t.1.length p) (Xl O O)<|lV (.bool t.2) (Xl O O)<|go ?_;refine Ym (col:=i) [(0,1),(1,1),(2,1),(3,1),(4,1),(5,1),(6,1),(7,0),(8,1),(9,1),(10,1),(11,1),(12,1),(13,2)] (by kernel_rfl) (by kernel_rfl)<|xu O O (fun _=>V8 O) ?_;refine xu O O (fun _=>Wu O) ?_;refine xu (v:=(.int .i64 (i64.wrap (aM f 32)))) O O (fun _=>Vm f 32 O O (by decide)) ?_;refine xu O O (fun _=>V8 O) ?_;refine xu O O (fun _=>Wu O) ?_;refine xu (v:=(.int .i64 (i64.wrap (aM f 32)))) O O (fun _=>Vm f 32 O O (by decide)) ?_;obtain ⟨w,t,a⟩:=bZ a;replace g:=g.gr A;refine xu O O (fun _=>Wd underlying38 sizeOf119 O O (Xo t).1 (Xo t).2.1 (g.addr t)) ?_;refine xW (fun _ h=>(g.gr (h.bl i)).atInt t) ?_;refine xu O O (fun _=>Wu O) ?_;refine xu (v:=(.int .i64 (aS f 32))) O O (fun _=>Tv f 32 O O (by decide)) ?_;obtain ⟨R,a⟩:=Z5 a;refine xu (v:=(.int .u32 (Xx .u32 1 (aS f 32)))) O O (fun _=>Zex 1 (aS f 32) O O R) ?_;refine xu O O (fun _=>Qg _ _ O O) ?_;refine xu O O (fun _=>Wd underlying38 sizeOf119 O O (Xo t).1 (Xo t).2.1 (g.addr t)) ?_;refine xe O O ?_;intro _ D;have h:=D.bl i;obtain ⟨Q,u,a⟩:=bZ a;have u:Q=B.set (aA (i64.wrap (aM f 32))) (u32.wrap (w+(Xx .u32 1 (aS f 32)))):=(Option.some.inj u).symm;replace g:=g.gr h;refine Wc (x1:=u32.wrap (w+(Xx .u32 1 (aS f 32)))) g t ?_;intro _ M k f;rw [← u] at f;refine .ld (d:=9) (v:=(.slice bi Q.length bj)) (congrArg (fun a9=>Value.slice bi a9 bj) (show B.length=Q.length by rw [u,nS])) ?_;refine Zj<|xk i<|Yf ?_;replace d:=((d.gr A).gr h).kp M;replace b:=((b.grow A).grow h).kp M k;replace o:=(o.gr h).kp M;intro _ h;replace h:=h.bl i;replace d:=d.gr h;replace d:=d.recol 6 3;replace f:=f.gr h
    replace o:=o.gr h;replace o:=o.recolSelf 3 (by decide);replace b:=b.grow h;replace b:=b.recol 6 3 (by decide) (by decide);exact ⟨O,_,_,_,_,_,_,_,a,b,o,d,f.recol 6 3,O⟩
   refine X1 ?_;replace g:=g.recol 5 3;replace q:=q.recolSelf 3 (by decide);replace b:=b.recol 5 3 (by decide) (by decide);exact ⟨O,_,_,_,_,_,_,_,a,b,q,d.recol 5 3,g,O⟩
  obtain ⟨_,d,a⟩:=bZ a;refine Zh (Tn 7 d (g.toSlF (Ze.int .u32))) fun _ _ ⟨g,_,_,c,Y,K⟩=>⟨_,c,?_⟩;replace K:=K.thaw (Zt .u32) Y ((Fz.refl (col:=j)).froz 2);replace Y:=Y.thawR (col:=j);generalize Z2 C.heap.size j g=c at *;refine go ?_;cases a;replace b:=b.grow Y;exact ⟨O,_,_,_,_,_,O,b.fin (cm [(7,c1),(3,c2)]),b.fo K,b.fo (bk.gr Y)⟩
def Zmd (a:Bool):Option Bool:=
  some a
def Zee (a:List Int):Option Bool:=
  if (decide ((a.length:Int)=0))=true then (Zmd true) else ((Zn a 0).bind fun b=>Zmd (decide ((aS b 2)=0)))
theorem Zn5 {j:Nat} {f:Option Addr} {col:Zg} {c:World} {b:R2} {r:Bool} (a:Zee b=some r) (d:Sl rU col c f j b):
    Calls prog 129 #[.slice f b.length j] c (V6 c r):=by
 refine Xk 2 (m:=13) func129 O O O O O ?_;rw [Zee.eq_1] at a;have e:=St.start col c;refine Zw<|Wv<|Zht O<|Zj<|Zw ?_;replace d:=d.k0;refine Wp.cutK [1000000] (fun m n=>∃ o g,Zmd g=some r∧St c (Zk col) o n∧[2].map m=[.bool g]) ?_ ?_
 ·intro m n p;obtain ⟨o,g,a,e,l⟩:=p;rw [Zmd.eq_1] at a;refine .lL [2] l<|Y5 ?_;cases a;exact ⟨O,O,e.below⟩
 refine go ?_;refine X9 a (fun k a=>go ?_) fun k a=>go ?_
 ·refine lV (.bool true) (Xw (congrArg Value.bool k) O)<|go ?_;exact ⟨O,_,_,a,e,O⟩
 obtain ⟨i,h,a⟩:=bZ a;refine lI h ((d.ks e).addr h) ?_;refine go ?_;refine lW ((d.ks e).atInt h)<|go ?_;refine lV (.int .u32 (aS i 2)) (Tv i 2 O O (by decide))<|go ?_;refine lV (.bool (decide ((aS i 2)=0))) (X0 (congrArg Value.bool k) O)<|go ?_;exact ⟨O,_,_,a,e,O⟩
def Zgf (N:Nat) (c:List Int):Nat→R2→Int→Int→Option R2
  | 0,_,_,_=>none
  | f+1,b,d,a=>if (decide (0≤a))=true then ((Zn c a).bind fun e=>(Zn b a).bind fun j=>(some (b.set (aA a) (u32.wrap (u64.wrap (aM (u64.wrap ((u64.wrap (d * 4294967296))+(u64.wrap e))) 2))))).bind fun g=>(Zgf N c f) g (aS (u64.wrap ((u64.wrap (d * 4294967296))+(u64.wrap e))) 2) (i64.wrap (a - 1))) else ((Ul N b).bind fun i=>some i)
def Zef (N:Nat) (a:List Int):Option R2:=
  Z1 (a.length * 4≤281474976710656∧a.length≤maxLen) (Zgf N a N (aC a.length (0:Int)) 0 (i64.wrap ((a.length:Int) - 1)))
theorem Zn6 {N C:Nat} {m:Option Addr} {col:Zg} {c:World} {k r:R2} (t:Nat) (a:Zef N k=some r) (e:Sl rU col c m C k):
    Calls prog 130 #[.slice m k.length C] c (Vl .u32 119 t col c r):=by
 refine Xk 2 (m:=34) func130 O O O O O ?_;rw [Zef.eq_1] at a;have b:=St.start col c;refine go ?_;obtain ⟨E,a⟩:=Z5 a;refine T6 (col:=(Zk col)) (w:=c) (r:=rU) (n:=k.length) (x0:=0) 1 O underlying38 Tryz.t119 O O O O O O O E.1 E.2 (Tx .u32 0) fun _ _ _ H L=>go ?_;replace b:=b.grow H;refine Z0 [0,1000000] (fun q F s=>∃ i j l g d p h,h=q∧Zgf N k h g d p=some r∧St c (Zk col) i s∧Zb rU 119 1 i s j l g∧[3,4,5].map F=[.slice j g.length l,.int .u64 d,.int .i64 p]) N ⟨_,_,_,_,0,_,_,O,a,b,L,O⟩ ?_;clear a;intro q F s J;obtain ⟨i,j,l,g,d,p,h,B,a,b,y,D⟩:=J;subst B;refine .lL [3,4,5] D ?_;replace e:=e.k0
 cases h with
 | zero=>rw [Zgf.eq_1] at a;cases a
 | succ h=>
  rw [Zgf.eq_2] at a;refine go ?_;refine Zp a (fun A a=>go ?_) fun A a=>go ?_
  ·obtain ⟨f,u,a⟩:=bZ a;refine lI u ((e.ks b).addr u)<|lW ((e.ks b).atInt u) ?_;refine go ?_;refine lV (.int .u64 (u64.wrap (aM (u64.wrap ((u64.wrap (d * 4294967296))+(u64.wrap f))) 2))) (Vm (u64.wrap ((u64.wrap (d * 4294967296))+(u64.wrap f))) 2 O O (by decide))<|go ?_;obtain ⟨_,w,a⟩:=bZ a;refine lI w (y.addr w) ?_;obtain ⟨x,o,a⟩:=bZ a;have o:x=g.set (aA p) (u32.wrap (u64.wrap (aM (u64.wrap ((u64.wrap (d * 4294967296))+(u64.wrap f))) 2))):=(Option.some.inj o).symm;refine Wc (x1:=u32.wrap (u64.wrap (aM (u64.wrap ((u64.wrap (d * 4294967296))+(u64.wrap f))) 2))) y w ?_;intro _ M P G;rw [← o] at G;refine .ld (d:=3) (v:=(.slice j x.length l)) (congrArg (fun q=>Value.slice j q l) (show g.length=x.length by rw [o,nS])) ?_;refine go ?_;refine lV (.int .u64 (aS (u64.wrap ((u64.wrap (d * 4294967296))+(u64.wrap f))) 2)) (Tv (u64.wrap ((u64.wrap (d * 4294967296))+(u64.wrap f))) 2 O O (by decide))<|go ?_;replace b:=b.kp M P;exact ⟨h,by omega,O,⟨_,_,_,_,_,_,_,O,a,b,G,O⟩⟩
  obtain ⟨_,I,a⟩:=bZ a;refine Zh (Tn 2 I (y.toSlF (Ze.int .u32))) fun _ _ ⟨K,_,_,z,n,v⟩=>⟨_,z,?_⟩;replace v:=v.thaw (Zt .u32) n ((Fz.refl (col:=i)).froz 1);replace n:=n.thawR (col:=i);generalize Z2 s.heap.size i K=Q at *;refine go ?_;cases a;replace b:=b.grow n;exact ⟨O,_,_,_,O,b.fin (cm [(2,t)]),b.fo v⟩
def Zjf (N:Nat) (kk_L2:(List Int→R2→Option R2)) (a b:List Int):Option R2:=
  (Zed N b a).bind fun c=>kk_L2 a c.1
def Zmc (N:Nat) (kk_L2:(List Int→R2→Option R2)) (b a:List Int) (kk_L4:(List Int→Option R2)) (c:Bool):Option R2:=
  if c=true then ((Zef N a).bind fun d=>kk_L4 d) else ((Zf9 N b a).bind fun e=>if (decide (0<e))=true then (Zjf N kk_L2 a b) else (Zjf N kk_L2 b a))
def Zbm (N:Nat) (kk_L2:(List Int→R2→Option R2)) (a:List Int):Nat→R2→Option R2
  | 0,_=>none
  | c+1,b=>if (decide (0<(b.length:Int)))=true then ((Zee b).bind fun d=>Zmc N kk_L2 a b (Zbm N kk_L2 a c) d) else (Zmc N kk_L2 a b (Zbm N kk_L2 a c) false)
def Zgb (N:Nat) (b:List Int) (kk_L2:(List Int→R2→Option R2)):Nat→R2→Option R2
  | 0,_=>none
  | c+1,a=>(Zee a).bind fun d=>if d=true then ((Zef N a).bind fun e=>(Zgb N b kk_L2 c) e) else (Zbm N kk_L2 a N b)
def Zgc (N:Nat) (a:Int):Nat→R2→Int→Option R2
  | 0,_,_=>none
  | d+1,b,c=>if (decide (c<a))=true then ((Zjj N b 0).bind fun e=>(Zgc N a d) e (i64.wrap (c+1))) else (some b)
def U5 (N:Nat) (a:Int):Nat→R2→R2→Option R2
  | 0,_,_=>none
  | d+1,b,c=>if (decide (0<(c.length:Int)))=true then (Zgb N c (U5 N a d) N b) else (Zgc N a N b 0)
def Zje (N:Nat) (a b:List Int) (c:Int) (kk_L1:(List Int→R2→Int→Option R2)) (d:Bool):Option R2:=
  if d=true then ((Zef N a).bind fun e=>(Zef N b).bind fun f=>kk_L1 e f (i64.wrap (c+1))) else (U5 N c N a b)
def Zcp (N:Nat):Nat→R2→R2→Int→Option R2
  | 0,_,_,_=>none
  | c+1,a,b,d=>(Zee a).bind fun e=>if e=true then ((Zee b).bind fun f=>Zje N a b d (Zcp N c) f) else (Zje N a b d (Zcp N c) false)
def Zmb (N:Nat) (c d:List Int):Option R2:=
  (Ul N c).bind fun a=>(Ul N d).bind fun b=>if (decide ((a.length:Int)=0))=true then (some b) else (if (decide ((b.length:Int)=0))=true then (some a) else (Zcp N N a b 0))
theorem Z4p {N E G:Nat} {Y q:Option Addr} {col:Zg} {h:World} {C D r:R2} (W:Nat) (a:Zmb N C D=some r) (Z:Sl rU col h Y E C) (H:Sl rU col h q G D):
    Calls prog 86 #[.slice Y C.length E,.slice q D.length G] h (Vl .u32 119 W col h r):=by
 refine Xk 4 (m:=69) func86 O O O O O ?_;rw [Zmb.eq_1] at a;have b:=St.start col h;refine go ?_;obtain ⟨_,D,a⟩:=bZ a;refine Zh (Tn 1 D (Z.k0.ks b)) ?_;rintro _ co ⟨cp,cq,cr,rfl,bv,V⟩;refine ⟨_,O,go ?_⟩;obtain ⟨_,X,a⟩:=bZ a;replace b:=b.grow bv;refine Zh (Tn 2 X (H.k0.ks b)) ?_;rintro _ ct ⟨cu,cv,cw,rfl,bm,bn⟩;refine ⟨_,O,go ?_⟩;replace V:=V.gr bm;replace b:=b.grow bm;refine Zp a (fun f a=>go ?_) fun f a=>go ?_
 ·cases a;exact ⟨O,_,_,_,O,b.fin (cm [(2,W)]),b.fo bn⟩
 refine Zp a (fun f a=>go ?_) fun f a=>go ?_
 ·cases a;exact ⟨O,_,_,_,O,b.fin (cm [(1,W)]),b.fo V⟩
 refine Z0 [1000000] (fun k g C=>∃ bl M P v Q R w n t,t=k∧Zcp N t v w n=some r∧St h (Zk col) bl C∧Zb rU 119 1 bl C M P v∧Zb rU 119 2 bl C Q R w∧[5,6,7].map g=[.slice M v.length P,.slice Q w.length R,.int .i64 n]) N ⟨_,_,_,_,_,_,_,0,_,O,a,b,V,bn,O⟩ ?_;clear a;intro k g C z;obtain ⟨bl,M,P,v,Q,R,w,n,t,j,a,b,p,l,e⟩:=z;subst j;refine .lL [5,6,7] e ?_
 cases t with
 | zero=>rw [Zcp.eq_1] at a;cases a
 | succ t=>
  rw [Zcp.eq_2] at a;refine Zw<|Zw ?_;refine Wp.cutK [5,6,7,1000000] (fun g V=>∃ Y E,Zje N v w n (Zcp N t) E=some r∧St h (Zk col) Y V∧Zb rU 119 1 Y V M P v∧Zb rU 119 2 Y V Q R w∧[26].map g=[.bool E]) ?_ ?_
  ·intro g V bt;obtain ⟨Y,E,a,b,p,l,e⟩:=bt;rw [Zje.eq_1] at a;refine .lL [26] e ?_;refine Zp a (fun f a=>go ?_) fun f a=>go ?_
   ·obtain ⟨_,H,a⟩:=bZ a;refine Zh (Zn6 3 H (p.toSlF (Ze.int .u32))) fun _ v ⟨M,_,_,c,Z,q⟩=>⟨_,c,?_⟩;replace q:=q.thaw (Zt .u32) Z ((Fz.refl (col:=Y)).froz 1);replace Z:=Z.thawR (col:=Y);generalize Z2 V.heap.size Y M=H at *;refine go ?_;obtain ⟨_,J,a⟩:=bZ a;replace l:=l.gr Z;refine Zh (Zn6 4 J (l.toSlF (Ze.int .u32))) fun _ _ ⟨Q,_,_,c,R,X⟩=>⟨_,c,?_⟩;replace X:=X.thaw (Zt .u32) R ((Fz.refl (col:=H)).froz 2);replace R:=R.thawR (col:=H);generalize Z2 v.heap.size H Q=V at *;refine go ?_;replace q:=q.gr R;replace q:=q.recolSelf 1 (by decide);replace X:=X.recol 3 1;replace b:=(b.grow Z).grow R;replace b:=b.recol 3 1 (by decide) (by decide);replace X:=X.recolSelf 2 (by decide);replace b:=b.recol 4 2 (by decide) (by decide);exact ⟨t,by omega,O,⟨_,_,_,_,_,_,_,_,_,O,a,b,q.recol 4 2,X,O⟩⟩
   refine Z0 [7,1000000] (fun k g G=>∃ H J M I S T x m,m=k∧U5 N n m I x=some r∧St h (Zk col) H G∧Zb rU 119 1 H G J M I∧Zb rU 119 2 H G S T x∧[5,6].map g=[.slice J I.length M,.slice S x.length T]) N ⟨_,_,_,_,_,_,_,_,O,a,b,p,l,O⟩ ?_;clear a;intro k g G z;obtain ⟨H,J,M,I,S,T,x,m,j,a,b,bo,o,e⟩:=z;subst j;refine .lL [5,6] e ?_
   cases m with
   | zero=>rw [U5.eq_1] at a;cases a
   | succ m=>
    rw [U5.eq_2] at a;refine go ?_;refine Zp a (fun f a=>go ?_) fun f a=>go ?_
    ·refine Z0 [6,7,1000000] (fun k g t=>∃ A F cc y B,B=k∧Zgb N x (U5 N n m) B y=some r∧St h (Zk col) A t∧Zb rU 119 1 A t F cc y∧Zb rU 119 2 A t S T x∧[5].map g=[.slice F y.length cc]) N ⟨_,_,_,_,_,O,a,b,bo,o,O⟩ ?_;clear a;intro k g t z;obtain ⟨A,F,cc,y,B,j,a,b,d,o,e⟩:=z;subst j;refine .lL [5] e ?_
     cases B with
     | zero=>rw [Zgb.eq_1] at a;cases a
     | succ B=>
      rw [Zgb.eq_2] at a;refine go ?_;obtain ⟨_,w,a⟩:=bZ a;refine Zh (Zn5 w (d.toSlF (Ze.int .u32))) fun _ T ⟨c,P⟩=>⟨_,c,?_⟩;replace P:=Ru A P;refine Zj ?_;replace d:=d.gr P;replace o:=o.gr P;replace b:=b.grow P;refine Zp a (fun f a=>go ?_) fun f a=>go ?_
      ·obtain ⟨_,I,a⟩:=bZ a;refine Zh (Zn6 5 I (d.toSlF (Ze.int .u32))) fun _ _ ⟨R,_,_,c,Q,S⟩=>⟨_,c,?_⟩;replace S:=S.thaw (Zt .u32) Q ((Fz.refl (col:=A)).froz 1);replace Q:=Q.thawR (col:=A);generalize Z2 T.heap.size A R=Y at *;refine go ?_;replace o:=o.gr Q;replace o:=o.recol 5 1;replace S:=S.recolSelf 1 (by decide);replace b:=b.grow Q;replace b:=b.recol 5 1 (by decide) (by decide);exact ⟨B,by omega,O,⟨_,_,_,_,_,O,a,b,S,o,O⟩⟩
      refine Z0 [5,7,1000000] (fun k g v=>∃ cf K L u s,s=k∧Zbm N (U5 N n m) y s u=some r∧St h (Zk col) cf v∧Zb rU 119 1 cf v F cc y∧Zb rU 119 2 cf v K L u∧[6].map g=[.slice K u.length L]) N ⟨_,_,_,_,_,O,a,b,d,o,O⟩ ?_;clear a;intro k g v z;obtain ⟨cf,K,L,u,s,j,a,b,d,i,e⟩:=z;subst j;refine .lL [6] e ?_
      cases s with
      | zero=>rw [Zbm.eq_1] at a;cases a
      | succ s=>
       rw [Zbm.eq_2] at a;refine Zw<|Zw ?_;refine Wp.cutK [5,6,7,1000000] (fun g T=>∃ B o,Zmc N (U5 N n m) y u (Zbm N (U5 N n m) y s) o=some r∧St h (Zk col) B T∧Zb rU 119 1 B T F cc y∧Zb rU 119 2 B T K L u∧[46].map g=[.bool o]) ?_ ?_
       ·intro g T bt;obtain ⟨B,o,a,b,d,i,e⟩:=bt;rw [Zmc.eq_1] at a;refine .lL [46] e ?_;refine Zp a (fun f a=>go ?_) fun f a=>?_
        ·obtain ⟨_,y,a⟩:=bZ a;refine Zh (Zn6 6 y (i.toSlF (Ze.int .u32))) fun _ _ ⟨P,_,_,c,K,L⟩=>⟨_,c,?_⟩;replace L:=L.thaw (Zt .u32) K ((Fz.refl (col:=B)).froz 2);replace K:=K.thawR (col:=B);generalize Z2 T.heap.size B P=S at *;refine go ?_;replace d:=d.gr K;replace d:=d.recol 6 2;replace L:=L.recolSelf 2 (by decide);replace b:=b.grow K;replace b:=b.recol 6 2 (by decide) (by decide);exact ⟨s,by omega,O,⟨_,_,_,_,_,O,a,b,d,L,O⟩⟩
        refine Zqh (Zog ?_);refine Zw ?_;refine Wp.cutK [7,1000000] (fun g X=>∃ Z y A D F G E,Zjf N (U5 N n m) D E=some r∧St h (Zk col) Z X∧Zb rU 119 1 Z X y A D∧Zb rU 119 2 Z X F G E∧[5,6].map g=[.slice y D.length A,.slice F E.length G]) ?_ ?_
        ·intro g X bt;obtain ⟨Z,y,A,D,F,G,E,a,b,u,K,e⟩:=bt;rw [Zjf.eq_1] at a;refine .lL [5,6] e<|go ?_;obtain ⟨J,A,a⟩:=bZ a;refine Zh (Zn4 7 A ((K.toSlF (Ze.int .u32)).froz 1) ((u.froz 2).toSlF (Ze.int .u32))) fun _ _ ⟨L,o,s,c,w,x⟩=>⟨_,c,?_⟩;replace x:=x.thaw (Zt .u32) w (((Fz.refl (col:=Z)).froz 2).froz 1);replace w:=w.thawR (col:=Z);generalize Z2 X.heap.size Z L=q at *;refine lM (.tuple #[.slice o J.1.length s,.bool J.2])<|lV (.slice o J.1.length s) (Xl O O)<|lV (.bool J.2) (Xl O O)<|go ?_;replace u:=u.gr w;replace x:=x.recolSelf 2 (by decide);replace b:=b.grow w;replace b:=b.recol 7 2 (by decide) (by decide);exact ⟨m,by omega,O,⟨_,_,_,_,_,_,_,_,O,a,b,u.recol 7 2,x,O⟩⟩
        refine go ?_;obtain ⟨_,m,a⟩:=bZ a;refine Zh (Zq0 m ((d.toSlF (Ze.int .u32)).froz 2) ((i.froz 1).toSlF (Ze.int .u32))) fun _ _ ⟨c,q⟩=>⟨_,c,?_⟩;replace q:=Ru B q;refine go ?_;replace d:=d.gr q;replace i:=i.gr q;replace b:=b.grow q;refine Zp a (fun f a=>go ?_) fun f a=>?_
        ·replace i:=i.recol 1 8;replace d:=d.recolSelf 8 (by decide);replace b:=b.recol 1 8 (by decide) (by decide);replace i:=i.recolSelf 1 (by decide);replace d:=d.recol 2 1;replace b:=b.recol 2 1 (by decide) (by decide);replace i:=i.recol 8 2;replace d:=d.recolSelf 2 (by decide);replace b:=b.recol 8 2 (by decide) (by decide);exact ⟨O,_,_,_,_,_,_,_,a,b,i,d,O⟩
        refine X1 ?_;exact ⟨O,_,_,_,_,_,_,_,a,b,d,i,O⟩
       refine go ?_;refine X9 a (fun I a=>go ?_) fun I a=>go ?_
       ·obtain ⟨B,x,a⟩:=bZ a;refine Zh (Zn5 x (i.toSlF (Ze.int .u32))) fun _ _ ⟨c,t⟩=>⟨_,c,?_⟩;replace t:=Ru cf t;refine lV (.bool B) (Xw (congrArg Value.bool I) O)<|Zj ?_;replace d:=d.gr t;replace i:=i.gr t;replace b:=b.grow t;exact ⟨O,_,_,a,b,d,i,O⟩
       refine lV (.bool false) (X0 (congrArg Value.bool I) O)<|Zj ?_;exact ⟨O,_,_,a,b,d,i,O⟩
    refine Z0 [7,1000000] (fun k g U=>∃ cl d i C m cn,cn=k∧Zgc N n cn C m=some r∧St h (Zk col) cl U∧Zb rU 119 1 cl U d i C∧[5,8].map g=[.slice d C.length i,.int .i64 m]) N ⟨_,_,_,_,0,_,O,a,b,bo,O⟩ ?_;clear a;intro k g U z;obtain ⟨cl,d,i,C,m,cn,j,a,b,bs,e⟩:=z;subst j;refine .lL [5,8] e ?_
    cases cn with
    | zero=>rw [Zgc.eq_1] at a;cases a
    | succ cn=>
     rw [Zgc.eq_2] at a;refine go ?_;refine Zp a (fun f a=>go ?_) fun f a=>go ?_
     ·obtain ⟨_,h,a⟩:=bZ a;refine Zh (Zu5 9 h (bs.toSlF (Ze.int .u32))) fun _ _ ⟨k,_,_,c,F,v⟩=>⟨_,c,?_⟩;replace v:=v.thaw (Zt .u32) F ((Fz.refl (col:=cl)).froz 1);replace F:=F.thawR (col:=cl);generalize Z2 U.heap.size cl k=n at *;refine go ?_;replace v:=v.recolSelf 1 (by decide);replace b:=b.grow F;replace b:=b.recol 9 1 (by decide) (by decide);exact ⟨cn,by omega,O,⟨_,_,_,_,_,_,O,a,b,v,O⟩⟩
     cases a;exact ⟨O,_,_,_,O,b.fin (cm [(1,W)]),b.fo bs⟩
  refine go ?_;obtain ⟨_,f,a⟩:=bZ a;refine Zh (Zn5 f (p.toSlF (Ze.int .u32))) fun _ _ ⟨c,s⟩=>⟨_,c,?_⟩;replace s:=Ru bl s;refine Td O ?_;replace p:=p.gr s;replace l:=l.gr s;replace b:=b.grow s;refine X9 a (fun e a=>go ?_) fun e a=>go ?_
  ·obtain ⟨j,g,a⟩:=bZ a;refine Zh (Zn5 g (l.toSlF (Ze.int .u32))) fun _ _ ⟨c,u⟩=>⟨_,c,?_⟩;replace u:=Ru bl u;refine lV (.bool j) (Xw (congrArg Value.bool e) O)<|Zj ?_;replace p:=p.gr u;replace l:=l.gr u;replace b:=b.grow u;exact ⟨O,_,_,a,b,p,l,O⟩
  refine lV (.bool false) (X0 (congrArg Value.bool e) O)<|Zj ?_;exact ⟨O,_,_,a,b,p,l,O⟩
def Zgd (N:Nat) (f b:List Int) (a:Int) (kk_L1:(List Int→Int→Option R2)):Nat→Int→R2→Int→Option R2
  | 0,_,_,_=>none
  | k+1,c,d,e=>if (decide (c<(b.length:Int)))=true then ((Zn f a).bind fun g=>(Zn b c).bind fun i=>(Zn d (i64.wrap (a+c))).bind fun j=>(some (d.set (aA (i64.wrap (a+c))) (u32.wrap (aS (u64.wrap ((u64.wrap (e+(u64.wrap ((u64.wrap g) * (u64.wrap i)))))+(u64.wrap j))) 4294967296)))).bind fun l=>(Zgd N f b a kk_L1 k) (i64.wrap (c+1)) l (u64.wrap (aM (u64.wrap ((u64.wrap (e+(u64.wrap ((u64.wrap g) * (u64.wrap i)))))+(u64.wrap j))) 4294967296))) else ((Zn d (i64.wrap (a+(b.length:Int)))).bind fun n=>(some (d.set (aA (i64.wrap (a+(b.length:Int)))) (u32.wrap e))).bind fun m=>kk_L1 m (i64.wrap (a+1)))
def Zcq (N:Nat) (a b:List Int):Nat→R2→Int→Option R2
  | 0,_,_=>none
  | e+1,c,d=>if (decide (d<(a.length:Int)))=true then (Zgd N a b d (Zcq N a b e) N 0 c 0) else ((Ul N c).bind fun f=>some f)
def Zec (N:Nat) (c d:List Int):Option R2:=
  (Ul N c).bind fun a=>(Ul N d).bind fun b=>Z1 ((aA (i64.wrap ((a.length:Int)+(b.length:Int)))) * 4≤281474976710656∧(aA (i64.wrap ((a.length:Int)+(b.length:Int))))≤maxLen∧0≤(i64.wrap ((a.length:Int)+(b.length:Int)))) (Zcq N a b N (aC (aA (i64.wrap ((a.length:Int)+(b.length:Int)))) (0:Int)) 0)
theorem Zq1 {N I J:Nat} {F G:Option Addr} {col:Zg} {c:World} {M Z r:R2} (V:Nat) (a:Zec N M Z=some r) (K:Sl rU col c F I M) (L:Sl rU col c G J Z):
    Calls prog 42 #[.slice F M.length I,.slice G Z.length J] c (Vl .u32 119 V col c r):=by
 refine Xk 4 (m:=74) func42 O O O O O ?_;rw [Zec.eq_1] at a;have b:=St.start col c;refine go ?_;obtain ⟨u,v,a⟩:=bZ a;refine Zh (Tn 1 v (K.k0.ks b)) ?_;rintro _ ax ⟨ay,ad,ae,rfl,am,f⟩;refine ⟨_,O,go ?_⟩;obtain ⟨p,D,a⟩:=bZ a;replace b:=b.grow am;refine Zh (Tn 2 D (L.k0.ks b)) ?_;rintro _ ao ⟨ap,af,ag,rfl,ah,e⟩;refine ⟨_,O,go ?_⟩;obtain ⟨L,a⟩:=Z5 a;refine T6 (col:=ap) (w:=ao) (r:=rU) (n:=(aA (i64.wrap ((u.length:Int)+(p.length:Int))))) (x0:=0) 3 O underlying38 Tryz.t119 O O O O O (congrArg (Value.int _) (bA L.2.2).symm) (congrArg (Value.int _) (bA L.2.2).symm) L.1 L.2.1 (Tx .u32 0) fun _ _ _ Y F=>go ?_;replace f:=(f.gr ah).gr Y;replace b:=(b.grow ah).grow Y;replace e:=e.gr Y;refine Z0 [5,6,1000000] (fun i E y=>∃ l q s P x o,o=i∧Zcq N u p o P x=some r∧St c (Zk col) l y∧Zb rU 119 1 l y ad ae u∧Zb rU 119 2 l y af ag p∧Zb rU 119 3 l y q s P∧[7,8].map E=[.slice q P.length s,.int .i64 x]) N ⟨_,_,_,_,0,_,O,a,b,f,e,F,O⟩ ?_;clear a;intro i E y t;obtain ⟨l,q,s,P,x,o,A,a,b,f,e,U,C⟩:=t;subst A;refine .lL [7,8] C ?_
 cases o with
 | zero=>rw [Zcq.eq_1] at a;cases a
 | succ o=>
  rw [Zcq.eq_2] at a;refine go ?_;refine Zp a (fun B a=>go ?_) fun B a=>go ?_
  ·refine Z0 [5,6,8,1000000] (fun i E D=>∃ h T m n k g w,w=i∧Zgd N u p x (Zcq N u p o) w T k g=some r∧St c (Zk col) h D∧Zb rU 119 1 h D ad ae u∧Zb rU 119 2 h D af ag p∧Zb rU 119 3 h D m n k∧[10,7,9].map E=[.int .i64 T,.slice m k.length n,.int .u64 g]) N ⟨_,0,_,_,_,0,_,O,a,b,f,e,U,O⟩ ?_;clear a;intro i E D t;obtain ⟨h,T,m,n,k,g,w,A,a,b,f,e,j,C⟩:=t;subst A;refine .lL [10,7,9] C ?_
   cases w with
   | zero=>rw [Zgd.eq_1] at a;cases a
   | succ w=>
    rw [Zgd.eq_2] at a;refine go ?_;refine Zp a (fun B a=>go ?_) fun B a=>go ?_
    ·refine Vp (col:=h) (by kernel_rfl) (by kernel_rfl)<|go ?_;obtain ⟨v,W,a⟩:=bZ a;refine qI W (f.addr W)<|qW (fun _ d=>(f.gr (d.bl h)).atInt W) ?_;refine go ?_;obtain ⟨t,X,a⟩:=bZ a;refine qI X (e.addr X)<|qW (fun _ d=>(e.gr (d.bl h)).atInt X) ?_;refine go ?_;obtain ⟨s,q,a⟩:=bZ a;refine qI q (j.addr q)<|qW (fun _ d=>(j.gr (d.bl h)).atInt q) ?_;refine go ?_;refine Wj ?_;intro _ d;replace d:=d.bl h;refine go ?_;refine lV (.int .u64 (aS (u64.wrap ((u64.wrap (g+(u64.wrap ((u64.wrap v) * (u64.wrap t)))))+(u64.wrap s))) 4294967296)) (Tv (u64.wrap ((u64.wrap (g+(u64.wrap ((u64.wrap v) * (u64.wrap t)))))+(u64.wrap s))) 4294967296 O O (by decide))<|go ?_;replace j:=j.gr d;refine lI q (j.addr q) ?_;obtain ⟨u,R,a⟩:=bZ a;have R:u=k.set (aA (i64.wrap (x+T))) (u32.wrap (aS (u64.wrap ((u64.wrap (g+(u64.wrap ((u64.wrap v) * (u64.wrap t)))))+(u64.wrap s))) 4294967296)):=(Option.some.inj R).symm;refine Wc (x1:=u32.wrap (aS (u64.wrap ((u64.wrap (g+(u64.wrap ((u64.wrap v) * (u64.wrap t)))))+(u64.wrap s))) 4294967296)) j q ?_;intro _ A B S;rw [← R] at S;refine .ld (d:=7) (v:=(.slice m u.length n)) (congrArg (fun i=>Value.slice m i n) (show k.length=u.length by rw [R,nS])) ?_;refine go ?_;refine lV (.int .u64 (u64.wrap (aM (u64.wrap ((u64.wrap (g+(u64.wrap ((u64.wrap v) * (u64.wrap t)))))+(u64.wrap s))) 4294967296))) (Vm (u64.wrap ((u64.wrap (g+(u64.wrap ((u64.wrap v) * (u64.wrap t)))))+(u64.wrap s))) 4294967296 O O (by decide))<|go ?_;replace f:=(f.gr d).kp A;replace e:=(e.gr d).kp A;replace b:=(b.grow d).kp A B;exact ⟨w,by omega,O,⟨_,_,_,_,_,_,_,O,a,b,f,e,S,O⟩⟩
    obtain ⟨_,c,a⟩:=bZ a;refine lI c (j.addr c) ?_;obtain ⟨h,Q,a⟩:=bZ a;have Q:h=k.set (aA (i64.wrap (x+(p.length:Int)))) (u32.wrap g):=(Option.some.inj Q).symm;refine Wc (x1:=u32.wrap g) j c ?_;intro _ d j K;rw [← Q] at K;refine .ld (d:=7) (v:=(.slice m h.length n)) (congrArg (fun i=>Value.slice m i n) (show k.length=h.length by rw [Q,nS])) ?_;refine go ?_;replace b:=b.kp d j;exact ⟨o,by omega,O,⟨_,_,_,_,_,_,O,a,b,f.kp d,e.kp d,K,O⟩⟩
  obtain ⟨_,f,a⟩:=bZ a;refine Zh (Tn 4 f (U.toSlF (Ze.int .u32))) fun _ _ ⟨g,_,_,e,H,z⟩=>⟨_,e,?_⟩;replace z:=z.thaw (Zt .u32) H ((Fz.refl (col:=l)).froz 3);replace H:=H.thawR (col:=l);generalize Z2 y.heap.size l g=i at *;refine go ?_;cases a;replace b:=b.grow H;exact ⟨O,_,_,_,O,b.fin (cm [(4,V)]),b.fo z⟩
def Zl8 (f g d:List Int) (a e:Int) (kk_L1:(List Int→Int→Int→Option R2)):Option R2:=
  (Zaq f e).bind fun b=>(Zaq g e).bind fun c=>Z1 ((d.length+[u32.wrap (aS (u64.wrap ((u64.wrap (a+b))+c)) 4294967296)].length) * 4≤140737488355328∧d.length+[u32.wrap (aS (u64.wrap ((u64.wrap (a+b))+c)) 4294967296)].length≤maxLen) (kk_L1 (d++[u32.wrap (aS (u64.wrap ((u64.wrap (a+b))+c)) 4294967296)]) (u64.wrap (aM (u64.wrap ((u64.wrap (a+b))+c)) 4294967296)) (i64.wrap (e+1)))
def Zeb (N:Nat) (b c a:List Int) (d e:Int) (kk_L1:(List Int→Int→Int→Option R2)) (f:Bool):Option R2:=
  if f=true then (Zl8 b c a d e kk_L1) else ((Ul N a).bind fun g=>some g)
def Qy (N:Nat) (a b:List Int):Nat→R2→Int→Int→Option R2
  | 0,_,_,_=>none
  | e+1,f,d,c=>if (decide (c<(a.length:Int)))=true then (Zeb N a b f d c (Qy N a b e) true) else (if (decide (c<(b.length:Int)))=true then (Zeb N a b f d c (Qy N a b e) true) else (Zeb N a b f d c (Qy N a b e) (decide (0<d))))
def Zja (N:Nat) (a b:List Int):Option R2:=
  Qy N a b N ([]:List Int) 0 0
theorem Zu2 {N P Q:Nat} {v w:Option Addr} {col:Zg} {c:World} {g d r:R2} (B:Nat) (a:Zja N g d=some r) (M:Sl rU col c v P g) (o:Sl rU col c w Q d):
    Calls prog 89 #[.slice v g.length P,.slice w d.length Q] c (Vl .u32 119 B col c r):=by
 refine Xk 4 (m:=43) func89 O O O O O ?_;rw [Zja.eq_1] at a;have b:=St.start col c;refine go ?_;refine Z0 [0,1,1000000] (fun R k F=>∃ G t u j e n i,i=R∧Qy N g d i j e n=some r∧St c (Zk col) G F∧Zb rU 119 1 G F t u j∧[5,6,7].map k=[.slice t j.length u,.int .u64 e,.int .i64 n]) N ⟨_,none,0,_,0,0,_,O,a,b,Zb.nil,O⟩ ?_;clear a;intro R k F V;obtain ⟨G,t,u,j,e,n,i,L,a,b,f,p⟩:=V;subst L;refine .lL [5,6,7] p ?_;replace o:=o.k0
 cases i with
 | zero=>rw [Qy.eq_1] at a;cases a
 | succ i=>
  rw [Qy.eq_2] at a;refine Zw ?_;refine Wp.cutK [0,1,5,6,7,1000000] (fun k C=>∃ m,Zl8 g d j e n (Qy N g d i)=some r∧St c (Zk col) m C∧Zb rU 119 1 m C t u j) ?_ ?_
  ·intro k C J;obtain ⟨m,a,b,f⟩:=J;rw [Zl8.eq_1] at a;refine go ?_;obtain ⟨s,T,a⟩:=bZ a;refine Zh (Ze2 T (M.k0.ks b)) fun _ _ ⟨h,y⟩=>⟨_,h,?_⟩;replace y:=Ru m y;refine go ?_;obtain ⟨q,W,a⟩:=bZ a;replace b:=b.grow y;refine Zh (Ze2 W (o.ks b)) fun _ _ ⟨h,A⟩=>⟨_,h,?_⟩;replace A:=Ru m A;refine go ?_;refine lV (.int .u64 (aS (u64.wrap ((u64.wrap (e+s))+q)) 4294967296)) (Tv (u64.wrap ((u64.wrap (e+s))+q)) 4294967296 O O (by decide))<|go ?_;refine Vn (col:=m) [u32.wrap (aS (u64.wrap ((u64.wrap (e+s))+q)) 4294967296)] 2 ?_;intro _ _ _ S X;obtain ⟨Y,a⟩:=Z5 a;replace f:=((f.gr y).gr A).gr S;refine Vw f (X.srcN (NB.int (k:=.u32))) Y fun _ _ _ _ l m=>go ?_;refine lV (.int .u64 (u64.wrap (aM (u64.wrap ((u64.wrap (e+s))+q)) 4294967296))) (Vm (u64.wrap ((u64.wrap (e+s))+q)) 4294967296 O O (by decide))<|go ?_;replace b:=((b.grow A).grow S).kpp l;exact ⟨i,by omega,O,⟨_,_,_,_,_,_,_,O,a,b,m,O⟩⟩
  refine Zw ?_;refine Wp.cutK [0,1,5,6,7,1000000] (fun k z=>∃ l D,Zeb N g d j e n (Qy N g d i) D=some r∧St c (Zk col) l z∧Zb rU 119 1 l z t u j∧[21].map k=[.bool D]) ?_ ?_
  ·intro k z J;obtain ⟨l,D,a,b,f,p⟩:=J;rw [Zeb.eq_1] at a;refine .lL [21] p ?_;refine Zp a (fun K a=>?_) fun K a=>go ?_
   ·refine X1 ?_;exact ⟨O,_,a,b,f⟩
   obtain ⟨_,U,a⟩:=bZ a;refine Zh (Tn 3 U (f.toSlF (Ze.int .u32))) fun _ _ ⟨Z,_,_,h,x,H⟩=>⟨_,h,?_⟩;replace H:=H.thaw (Zt .u32) x ((Fz.refl (col:=l)).froz 1);replace x:=x.thawR (col:=l);generalize Z2 z.heap.size l Z=c at *;refine go ?_;cases a;replace b:=b.grow x;exact ⟨O,_,_,_,O,b.fin (cm [(3,B)]),b.fo H⟩
  refine go ?_;refine X9 a (fun I a=>go ?_) fun I a=>go ?_
  ·refine lV (.bool true) (Xw (congrArg Value.bool I) O)<|Td O<|lP 18 O O<|lP 18 O O<|lV (.bool true) (Xw O O)<|Zj ?_;exact ⟨O,_,_,a,b,f,O⟩
  refine lV (.bool (decide (n<(d.length:Int)))) (X0 (congrArg Value.bool I) O)<|Td O ?_;refine X9 a (fun E a=>go ?_) fun E a=>go ?_
  ·refine lV (.bool true) (Xw (congrArg Value.bool E) O)<|Zj ?_;exact ⟨O,_,_,a,b,f,O⟩
  refine lV (.bool (decide (0<e))) (X0 (congrArg Value.bool E) O)<|Zj ?_;exact ⟨O,_,_,a,b,f,O⟩
def Zjh (N:Nat) (a:Int):Option R2:=
  (Ul N [u32.wrap (aS a 4294967296),u32.wrap (u64.wrap (aM a 4294967296))]).bind fun b=>some b
theorem Zu4 {N:Nat} {col:Zg} {c:World} {a:Int} {r:R2} (f:Nat) (b:Zjh N a=some r):
    Calls prog 136 #[.int .u64 a] c (Vl .u32 119 f col c r):=by
 refine Xk 2 (m:=11) func136 O O O O O ?_;rw [Zjh.eq_1] at b;have e:=St.start col c;refine go ?_;refine lV (.int .u64 (aS a 4294967296)) (Tv a 4294967296 O O (by decide))<|go ?_;refine lV (.int .u64 (u64.wrap (aM a 4294967296))) (Vm a 4294967296 O O (by decide))<|go ?_;refine Vn (col:=(Zk col)) [u32.wrap (aS a 4294967296),u32.wrap (u64.wrap (aM a 4294967296))] 1 ?_;intro _ m g n k;obtain ⟨_,j,b⟩:=bZ b;refine Zh (Tn 2 j (k.toSlF (Ze.int .u32))) fun _ _ ⟨l,_,_,i,d,h⟩=>⟨_,i,?_⟩;replace h:=h.thaw (Zt .u32) d ((Fz.refl (col:=g)).froz 1);replace d:=d.thawR (col:=g);generalize Z2 m.heap.size g l=o at *;refine go ?_;cases b;replace e:=(e.grow n).grow d;exact ⟨O,_,_,_,O,e.fin (cm [(2,f)]),e.fo h⟩

end Go.Proofs.YtpkknichfgooaaaGreat
