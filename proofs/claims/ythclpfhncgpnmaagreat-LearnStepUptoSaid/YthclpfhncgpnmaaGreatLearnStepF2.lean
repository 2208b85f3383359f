/-
  What functions of the program compute, as plain Lean functions (m_..), and proofs that they compute it (c_..). Printed by a program of the author; no conditions.
-/
import Derived.Test.YthclpfhncgpnmaaGreatLearnStepBFloat
import Derived.Test.YthclpfhncgpnmaaGreatProg
import Derived.Test.YthclpfhncgpnmaaGreatLearnStepBBrief
import Derived.Test.YthclpfhncgpnmaaGreatLearnStepF1
set_option linter.unusedVariables false
set_option maxRecDepth 100000
set_option maxHeartbeats 2000000
namespace Go.Proofs.YthclpfhncgpnmaaGreat
open Go Go.RowKit
open List renaming drop_eq_nil_iff→aJ,mem_cons_self→aO,mem_cons_of_mem→aN,replicate→aD,length_take_of_le→dC,drop_eq_getElem_cons→aF,mem_cons→bL,drop_eq_nil_of_le→aG,all_cons→cN,getElem_mem→aB,drop_zero→aM,take_succ_eq_append_getElem→cB,nodup_append→dE,nodup_cons→cU,mem_singleton→bO,take_of_length_le→bA,any_cons→eC,length→kQ,getD_eq_getElem?_getD→aE,getElem?_eq_getElem→aL,mem_range'→jW,range→iF,mem_map→cY,mem_range→gH,mem_append→bI,mem_append_left→jB,getElem?_set→jO,perm_append_singleton→iG,getElem_take→fP,take_set→kI,count_cons→fY,append_assoc→bC,length_replicate→aS,count_le_length→gI,countP_cons→jS,count_pos_iff→jI,all_eq_true→cP
open Nat renaming lt_of_lt_of_le→aI,gcd→cX,le_trans→aT,mul_ne_zero→eD,beq→aP,add_zero→bR,zero_le→aQ,sub_zero→kR
open Int renaming natCast_mul→bN,natAbs_mul→fM,natAbs_natCast→eH,mul_assoc→kM,toNat→aA,tdiv→aR,toNat_natCast→aC,le_refl→hH,tmod→bK,toNat_of_nonneg→bM
open Rat renaming mkRat_add_mkRat→jH,mkRat_mul_mkRat→gU,mkRat_eq_div→cM,intCast_mul→iN,inv_eq_of_mul_eq_one→fW
open Go.IntKind (i8 i16 i32 i64 u8 u16 u32 u64)
open Go.Proofs.Tryz

def Qr (N:Nat):List R1→Bool→R2→R2→Option R1
  | [],a,b,c=>some ((a,b),c)
  | d :: f,a,b,c=>(Qo N ((a,b),c) ((d.1.1,d.1.2),d.2)).bind fun e=>(Qr N f) e.1.1 e.1.2 e.2
def Qq (N:Nat) (a:R4):Option R1:=
  (Zcy N 1).bind fun b=>Qr N a false ([]:List Int) b
theorem Zrw {N Q:Nat} {u:Option Addr} {col:Ze} {f:World} {i:R4} {r:R1} (C c2:Nat) (a:Qq N i=some r) (g:Sl rQ col f u Q i):
    Calls prog 82 #[.slice u i.length Q] f (Sm 45 C c2 col f r):=by
 refine Yx (m:=19) func82 rfl rfl rfl ?_;rw [Qq.eq_1] at a;have b:=St.start col f;refine go ?_;refine Xr (col:=(Zh col)) #[.bool false,(nI),(nI)] 1 zeroValue42 fun K _ A H d=>go ?_;obtain ⟨F,q,a⟩:=bZ a;refine Zi (Zls (col:=A) 2 q) fun _ _ ⟨G,B,E,q,v,M⟩=>⟨_,q,?_⟩;refine lV (.agg #[.bool false,(nI),.slice B F.length E]) (Wo (l:=[_,_]) (qs:=[(0,2),(2,1)]) underlying42 zeroValue42 ⟨rfl,sizeOf40,rfl,sizeOf38,trivial⟩ rfl)<|Xr (col:=G) #[.bool false,(nI),(nI)] 3 zeroValue42 ?_;intro u _ _ O P;refine Z6 P fun _ L c n=>go ?_;replace b:=(((b.grow H).grow v).grow O).kp L c;replace d:=((d.gr v).gr O).kp L;refine Zt [2,3,8,9,1000000] (fun y z o=>∃ m t F G H w I J x s,y=s.length∧i.drop t=s∧Qr N s F w x=some r∧St f (Zh col) m o∧Zd 42 1 m o K #[.bool false,(nI),(nI)]∧Zb rU 45 4 m o G H w∧Zb rU 45 2 m o I J x∧Zd 42 3 m o u #[.bool F,.slice G w.length H,.slice I x.length J]∧[10].map z=[.int .i64 t]) i.length ⟨_,0,_,none,0,_,_,_,_,_,rfl,rfl,a,b,d,Zb.nil,(M.gr O).kp L,n,rfl⟩ ?_;clear a;intro y z o Y;obtain ⟨m,t,F,G,H,w,I,J,x,s,T,y,a,b,d,A,B,n,U⟩:=Y;subst T;refine .lL [10] U ?_;replace g:=g.k0
 cases s with
 | nil=>
  have p:¬ ((t:Int)<(i.length:Int)):=by have:=aJ.1 y;omega
  have c:=decide_eq_false p;rw [Qr.eq_1] at a;refine go ?_;refine Ym (congrArg Value.bool c)<|go ?_;refine lV _ (Z5 isAgg42 sizeOf42 n)<|Z6 d ?_;intro _ D e k;refine go ?_;cases a;replace A:=A.kp D;replace B:=B.kp D;replace b:=b.kp D e;exact ⟨rfl,_,ra k.atN,_,_,_,_,_,rfl,b.fin (cm [(4,C),(2,c2)]),b.fo A,b.fo B⟩
 | cons K x=>
  obtain ⟨E,C,D⟩:=Yt y;have p:(t:Int)<(i.length:Int):=by omega
  have c:=decide_eq_true p;rw [Qr.eq_2] at a;refine go ?_;refine Yn (congrArg Value.bool c)<|go ?_;refine lI E ((g.ks b).addr E) ?_;obtain ⟨_,X,s⟩:=(g.ks b).atN E;obtain ⟨_,_,rfl,W,o⟩:=Wq X;obtain ⟨_,_,rfl,S,Z⟩:=Wq W;obtain ⟨rfl,_⟩:=S;obtain ⟨⟨h,l,rfl,I⟩,_⟩:=Z;obtain ⟨⟨f,j,rfl,J⟩,_⟩:=o;refine lV (.agg #[.bool K.1.1,.slice h K.1.2.length l,.slice f K.2.length j]) (Yl isAgg42 sizeOf42 rfl rfl s)<|Xr (col:=m) #[.bool false,(nI),(nI)] 5 zeroValue42 ?_;intro _ _ z l R;refine Z6 R fun t k w m=>go ?_;replace n:=(n.gr l).kp k;refine lV _ (Z5 isAgg42 sizeOf42 n)<|lV _ (Z5 isAgg42 sizeOf42 m) ?_;obtain ⟨_,V,a⟩:=bZ a;refine Zi (Zoh 6 7 V ((((A.gr l).kp k).toSlF (Zg.int .u32)).froz 2) ((((B.gr l).kp k).froz 4).toSlF (Zg.int .u32)) ((((I.gr l).kp k).froz 4).froz 2) ((((J.gr l).kp k).froz 4).froz 2)) fun _ _ ⟨p,_,_,_,_,q,h,j,e⟩=>⟨_,q,?_⟩;replace j:=j.thaw (Z1 .u32) h (((Fz.refl (col:=z)).froz 4).froz 2);replace e:=e.thaw (Z1 .u32) h (((Fz.refl (col:=z)).froz 4).froz 2);replace h:=h.thawR (col:=z);generalize Xa t.heap.size z p=L at *;refine Z6 (n.gr h) fun _ v n M=>go ?_;replace j:=j.kp v;replace j:=j.recolSelf 4 (by decide);replace e:=e.kp v;replace e:=e.recol 6 4;replace d:=(((d.gr l).kp k).gr h).kp v;replace d:=d.recol 6 4;replace M:=M.recol 6 4;replace b:=(((b.grow l).kp k w).grow h).kp v n;replace b:=b.recol 6 4 (by decide) (by decide);replace e:=e.recolSelf 2 (by decide);replace b:=b.recol 7 2 (by decide) (by decide);exact ⟨x.length,by simp,rfl,⟨_,_,_,_,_,_,_,_,_,_,rfl,C,a,b,d.recol 7 2,j.recol 7 2,e,M.recol 7 2,(Yz (congrArg (Value.int .i64) (Yv (aI D (g.ks b).1.1))) rfl)⟩⟩
def Zk6 (N:Nat) (a:Int):Option R5:=
  if (decide (a<0))=true then ((Zcy N (u64.wrap (-(u64.wrap a)))).bind fun d=>(Za6 N true d).bind fun b=>some (b.1,b.2)) else ((Zcy N (u64.wrap a)).bind fun e=>(Za6 N false e).bind fun c=>some (c.1,c.2))
theorem Zv4 {N:Nat} {col:Ze} {d:World} {k:Int} {r:R5} (e:Nat) (a:Zk6 N k=some r):
    Calls prog 154 #[.int .i64 k] d (S6 45 e col d r):=by
 refine Yx (m:=14) func154 rfl rfl rfl ?_;rw [Zk6.eq_1] at a;have c:=St.start col d;refine go ?_;refine Xr (col:=(Zh col)) #[.bool false,(nI)] 1 zeroValue40 fun _ _ t u h=>go ?_;replace c:=c.grow u;refine Zm a (fun n a=>go ?_) fun n a=>go ?_
 ·obtain ⟨_,x,a⟩:=bZ a;refine Zi (Zls (col:=t) 2 x) fun _ H ⟨i,_,_,b,s,B⟩=>⟨_,b,?_⟩;obtain ⟨_,v,a⟩:=bZ a;refine Zi (Zf7 3 v (B.toSlF (Zg.int .u32))) fun _ _ ⟨F,_,_,b,g,m⟩=>⟨_,b,?_⟩;replace m:=m.thaw (Z1 .u32) g ((Fz.refl (col:=i)).froz 2);replace g:=g.thawR (col:=i);generalize Xa H.heap.size i F=K at *;replace h:=(h.gr s).gr g;refine Z6 h fun _ o z D=>go ?_;cases a;replace c:=((c.grow s).grow g).kp o z;exact ⟨rfl,_,ra D.atN,_,_,_,rfl,c.fin (cm [(3,e)]),c.fo (m.kp o)⟩
 obtain ⟨_,y,a⟩:=bZ a;refine Zi (Zls (col:=t) 4 y) fun _ I ⟨j,_,_,b,q,C⟩=>⟨_,b,?_⟩;obtain ⟨_,w,a⟩:=bZ a;refine Zi (Zf7 5 w (C.toSlF (Zg.int .u32))) fun _ _ ⟨G,_,_,b,f,l⟩=>⟨_,b,?_⟩;replace l:=l.thaw (Z1 .u32) f ((Fz.refl (col:=j)).froz 4);replace f:=f.thawR (col:=j);generalize Xa I.heap.size j G=J at *;refine Z6 ((h.gr q).gr f) fun _ p A E=>go ?_;cases a;replace c:=((c.grow q).grow f).kp p A;exact ⟨rfl,_,ra E.atN,_,_,_,rfl,c.fin (cm [(5,e)]),c.fo (l.kp p)⟩
def Zl4 (N:Nat) (c:R5) (a:R5):Option (R1×Int):=
  (Zfo N (a.1,a.2)).bind fun d=>if (decide (d=0))=true then (some (((false,([]:List Int)),([]:List Int)),11)) else ((Zei N (!decide (c.1=a.1)) c.2 a.2).bind fun b=>some (((b.1.1,b.1.2),b.2),0))
theorem Z46 {N s t:Nat} {u v:Option Addr} {col:Ze} {c:World} {f g:R5} {r:(R1×Int)} (m c2:Nat) (a:Zl4 N f g=some r) (k:Sl rU col c u s f.2) (i:Sl rU col c v t g.2):
    Calls prog 153 #[(.agg #[.bool f.1,.slice u f.2.length s]),(.agg #[.bool g.1,.slice v g.2.length t])] c (Zfr 45 m c2 col c r):=by
 refine Yx (m:=20) func153 rfl rfl rfl ?_;rw [Zl4.eq_1] at a;have b:=St.start col c;refine go ?_;refine Xg (col:=(Zh col)) 1 rfl fun _ _ x J j=>Xg (col:=x) 2 rfl fun _ _ y w d=>Xr (col:=y) #[.bool false,(nI),(nI)] 3 zeroValue42 fun _ _ I o l=>go ?_;replace d:=d.gr o;refine lV _ (Z5 isAgg40 sizeOf40 d) ?_;obtain ⟨_,F,a⟩:=bZ a;replace i:=i.k0;replace b:=((b.grow J).grow w).grow o;refine Zi (Zot F (i.ks b)) fun _ _ ⟨h,e⟩=>⟨_,h,?_⟩;replace e:=Rr I e;refine go ?_;replace j:=((j.gr w).gr o).gr e;replace d:=d.gr e;replace l:=l.gr e;replace b:=b.grow e;refine Zm a (fun p a=>go ?_) fun p a=>go ?_
 ·refine lV (.agg #[.bool false,(nI),(nI)]) (Wo (l:=[_,_]) (qs:=[(0,2),(2,1)]) underlying42 zeroValue42 ⟨rfl,sizeOf40,rfl,sizeOf38,trivial⟩ rfl)<|Z6 l ?_;intro _ A B D;refine go ?_;cases a;replace b:=b.kp A B;exact ⟨rfl,_,Vm D.atN,_,none,0,none,0,rfl,b.fin (cm []),Zb.nil,Zb.nil⟩
 refine Z9 j<|Z9 d ?_;refine go ?_;refine Z9 j<|Z9 d ?_;obtain ⟨_,z,a⟩:=bZ a;refine Zi (Zoj 4 5 z (k.k0.ks b) (i.ks b)) fun _ _ ⟨_,_,_,_,_,h,q,G,H⟩=>⟨_,h,?_⟩;refine Z6 (l.gr q) fun _ n C E=>go ?_;cases a;replace b:=(b.grow q).kp n C;exact ⟨rfl,_,Vm E.atN,_,_,_,_,_,rfl,b.fin (cm [(4,m),(5,c2)]),b.fo (G.kp n),b.fo (H.kp n)⟩
def Zeh (N:Nat) (d e:Int):Option (R1×Int):=
  (Zk6 N d).bind fun b=>(Zk6 N e).bind fun c=>(Zl4 N (b.1,b.2) (c.1,c.2)).bind fun a=>some (((a.1.1.1,a.1.1.2),a.1.2),a.2)
theorem Zrv {N:Nat} {col:Ze} {d:World} {n o:Int} {r:(R1×Int)} (h c2:Nat) (a:Zeh N n o=some r):
    Calls prog 116 #[.int .i64 n,.int .i64 o] d (Zfr 45 h c2 col d r):=by
 refine Yx (m:=13) func116 rfl rfl rfl ?_;rw [Zeh.eq_1] at a;have e:=St.start col d;refine go ?_;refine Xr (col:=(Zh col)) #[.bool false,(nI),(nI)] 1 zeroValue42 fun _ _ t G F=>go ?_;obtain ⟨_,q,a⟩:=bZ a;refine Zi (Zv4 (col:=t) 2 q) fun _ _ ⟨v,_,_,b,m,y⟩=>⟨_,b,?_⟩;refine Xk rfl ?_;obtain ⟨_,s,a⟩:=bZ a;refine Zi (Zv4 (col:=v) 3 s) fun _ E ⟨f,_,_,b,l,x⟩=>⟨_,b,?_⟩;obtain ⟨g,p,a⟩:=bZ a;refine Zi (Z46 4 5 p (((y.gr l).toSlF (Zg.int .u32)).froz 3) ((x.froz 2).toSlF (Zg.int .u32))) fun _ _ ⟨z,A,B,C,D,b,c,j,k⟩=>⟨_,b,?_⟩;replace j:=j.thaw (Z1 .u32) c (((Fz.refl (col:=f)).froz 2).froz 3);replace k:=k.thaw (Z1 .u32) c (((Fz.refl (col:=f)).froz 2).froz 3);replace c:=c.thawR (col:=f);generalize Xa E.heap.size f z=H at *;refine lV (.agg #[.bool g.1.1.1,.slice A g.1.1.2.length B,.slice C g.1.2.length D]) (Xt rfl rfl)<|lV (.int .i64 g.2) (Xt rfl rfl) ?_;refine Z6 (((F.gr m).gr l).gr c) fun _ i u w=>go ?_;cases a;replace e:=((((e.grow G).grow m).grow l).grow c).kp i u;exact ⟨rfl,_,Vm w.atN,_,_,_,_,_,rfl,e.fin (cm [(4,h),(5,c2)]),e.fo (j.kp i),e.fo (k.kp i)⟩
def Qp (N:Nat) (a:R1):Option Int:=
  (Zfo N (a.1.1,a.1.2)).bind fun b=>some b
theorem Zoi {N c i:Nat} {d j:Option Addr} {col:Ze} {b:World} {a:R1} {r:Int} (e:Qp N a=some r) (f:Sl rU col b d c a.1.2) (s:Sl rU col b j i a.2):
    Calls prog 64 #[(.agg #[.bool a.1.1,.slice d a.1.2.length c,.slice j a.2.length i])] b (Wn b r):=by
 refine Xc 2 (m:=6) func64 rfl rfl rfl rfl rfl ?_;rw [Qp.eq_1] at e;have g:=St.start col b;refine go ?_;refine Xg (col:=(Zh col)) 1 rfl fun _ _ o n m=>go ?_;refine Xy ⟨_,_,rfl⟩ ?_;refine lV (.agg #[.bool a.1.1,.slice d a.1.2.length c]) (Yl isAgg40 sizeOf40 rfl rfl ((m.atN).part 0 2 _ rfl)) ?_;obtain ⟨_,l,e⟩:=bZ e;replace g:=g.grow n;refine Zi (Zot l (f.k0.ks g)) fun _ _ ⟨k,h⟩=>⟨_,k,?_⟩;replace h:=Rr o h;refine go ?_;cases e;exact ⟨rfl,rfl,(g.grow h).below⟩
def Zcn (N:Nat) (b:R1) (a:R1):Option (R1×Int):=
  (Qp N ((a.1.1,a.1.2),a.2)).bind fun d=>if (decide (d=0))=true then (some (((false,([]:List Int)),([]:List Int)),11)) else ((Sf N ((a.1.1,a.1.2),a.2)).bind fun e=>(Zap N b.1.2 e).bind fun f=>(Sf N ((b.1.1,b.1.2),b.2)).bind fun g=>(Zap N g a.1.2).bind fun i=>(Zei N (!decide (b.1.1=a.1.1)) f i).bind fun c=>some (((c.1.1,c.1.2),c.2),0))
theorem Zvb {N L M a P:Nat} {Q R S T:Option Addr} {col:Ze} {g:World} {n o:R1} {r:(R1×Int)} (C c2:Nat) (d:Zcn N n o=some r) (A:Sl rU col g Q L n.1.2) (t:Sl rU col g R M n.2) (u:Sl rU col g S a o.1.2) (B:Sl rU col g T P o.2):
    Calls prog 71 #[(.agg #[.bool n.1.1,.slice Q n.1.2.length L,.slice R n.2.length M]),(.agg #[.bool o.1.1,.slice S o.1.2.length a,.slice T o.2.length P])] g (Zfr 45 C c2 col g r):=by
 refine Yx (m:=30) func71 rfl rfl rfl ?_;rw [Zcn.eq_1] at d;have c:=St.start col g;refine go ?_;refine Xg (col:=(Zh col)) 1 rfl fun _ _ e s x=>Xg (col:=e) 2 rfl fun _ _ f b i=>Xr (col:=f) #[.bool false,(nI),(nI)] 3 zeroValue42 fun _ _ h F f=>go ?_;replace i:=i.gr F;refine lV _ (Z5 isAgg42 sizeOf42 i) ?_;obtain ⟨_,Y,d⟩:=bZ d;replace u:=u.k0;replace B:=B.k0;replace c:=((c.grow s).grow b).grow F;refine Zi (Zoi Y (u.ks c) (B.ks c)) fun _ _ ⟨e,m⟩=>⟨_,e,?_⟩;replace m:=Rr h m;refine go ?_;replace A:=A.k0;replace x:=((x.gr b).gr F).gr m;replace i:=i.gr m;replace f:=f.gr m;replace c:=c.grow m;refine Zm d (fun H d=>go ?_) fun H d=>go ?_
 ·refine lV (.agg #[.bool false,(nI),(nI)]) (Wo (l:=[_,_]) (qs:=[(0,2),(2,1)]) underlying42 zeroValue42 ⟨rfl,sizeOf40,rfl,sizeOf38,trivial⟩ rfl)<|Z6 f ?_;intro _ J K X;refine go ?_;cases d;replace c:=c.kp J K;exact ⟨rfl,_,Vm X.atN,_,none,0,none,0,rfl,c.fin (cm []),Zb.nil,Zb.nil⟩
 refine Y8 (col:=h) [(0,1),(1,1),(2,0),(3,1),(4,1),(5,0),(6,1),(7,1),(8,1),(9,0),(10,0),(13,0),(15,1),(16,1),(17,0),(11,3),(12,3),(14,3),(18,3),(19,3),(20,2),(21,1)] (by kernel_rfl) (by kernel_rfl)<|xF ⟨_,_,rfl⟩ ?_;refine xF (Tl ⟨_,_,rfl⟩) ?_;refine xW (fun _ a=>((((x.atN).part 0 2 _ rfl)).nth (q:=0) rfl).gr (a.bl h)) ?_;refine xF ⟨_,_,rfl⟩ ?_;refine xF (Tl ⟨_,_,rfl⟩) ?_;refine xW (fun _ a=>((((i.atN).part 0 2 _ rfl)).nth (q:=0) rfl).gr (a.bl h)) ?_;refine xu rfl rfl (fun _=>Zlc _ _ underlying4 rfl rfl) ?_;refine xF ⟨_,_,rfl⟩ ?_;refine xF (Tl ⟨_,_,rfl⟩) ?_;refine xW (fun _ a=>((((x.atN).part 0 2 _ rfl)).nth (q:=1) rfl).gr (a.bl h)) ?_;refine xv rfl rfl (fun _ a=>Z5 isAgg42 sizeOf42 (i.gr (a.bl h))) ?_;refine xv rfl rfl (fun _ a=>Z5 isAgg42 sizeOf42 (x.gr (a.bl h))) ?_;refine xF ⟨_,_,rfl⟩ ?_;refine xF (Tl ⟨_,_,rfl⟩) ?_;refine xW (fun _ a=>((((i.atN).part 0 2 _ rfl)).nth (q:=1) rfl).gr (a.bl h)) ?_;refine xe rfl rfl ?_;intro _ b;have a:=b.bl h;obtain ⟨_,O,d⟩:=bZ d;replace c:=c.grow a;refine Zi (Zbf 4 O (u.ks c) (B.ks c)) fun _ _ ⟨s,_,_,e,E,l⟩=>⟨_,e,?_⟩;refine Zl<|Xo s b E<|xe rfl rfl ?_;intro i b;replace f:=(f.gr a).gr E;have a:=b.bl s;obtain ⟨_,U,d⟩:=bZ d;replace c:=(c.grow E).grow a;refine Zi (Zir 5 U ((A.ks c).froz 4) ((l.gr a).toSlF (Zg.int .u32))) fun _ _ ⟨g,_,_,e,p,l⟩=>⟨_,e,?_⟩;replace l:=l.thaw (Z1 .u32) p ((Fz.refl (col:=s)).froz 4);replace p:=p.thawR (col:=s);generalize Xa i.heap.size s g=k at *;refine Zl<|Xo k b p<|xe rfl rfl ?_;intro _ b;replace f:=(f.gr a).gr p;have a:=b.bl k;obtain ⟨_,V,d⟩:=bZ d;replace c:=(c.grow p).grow a;refine Zi (Zbf 6 V (A.ks c) (t.k0.ks c)) fun _ _ ⟨t,_,_,e,y,p⟩=>⟨_,e,?_⟩;refine Zl<|Xo t b y<|xe rfl rfl ?_;intro j b;replace l:=(l.gr a).gr y;replace f:=(f.gr a).gr y;have a:=b.bl t;obtain ⟨_,W,d⟩:=bZ d;replace c:=(c.grow y).grow a;refine Zi (Zir 7 W ((p.gr a).toSlF (Zg.int .u32)) ((u.ks c).froz 6)) ?_
 rintro _ bf ⟨am,bg,bh,rfl,k,G⟩;refine ⟨_,rfl,?_⟩;replace G:=G.thaw (Z1 .u32) k ((Fz.refl (col:=t)).froz 6);replace k:=k.thawR (col:=t);generalize Xa j.heap.size t am=q at *;refine Zl<|Xo q b k<|xe rfl rfl ?_;intro m b;replace l:=(l.gr a).gr k;replace f:=(f.gr a).gr k;have a:=b.bl q;obtain ⟨_,I,d⟩:=bZ d;refine Zi (Zoj 8 9 I (((l.gr a).toSlF (Zg.int .u32)).froz 7) (((G.gr a).froz 5).toSlF (Zg.int .u32))) fun _ _ ⟨h,_,_,_,_,e,j,v,w⟩=>⟨_,e,?_⟩;replace v:=v.thaw (Z1 .u32) j (((Fz.refl (col:=q)).froz 5).froz 7);replace w:=w.thaw (Z1 .u32) j (((Fz.refl (col:=q)).froz 5).froz 7);replace j:=j.thawR (col:=q);generalize Xa m.heap.size q h=z at *;refine Zl<|Xo z b j<|xe rfl rfl ?_;intro _ b;replace c:=((c.grow k).grow a).grow j;replace f:=(f.gr a).gr j;have a:=b.bl z;refine Z6 (f.gr a) fun _ D Z q=>Zl<|xk z<|xu rfl rfl (fun _=>Ztq rfl) ?_;refine Y4 ?_;replace v:=(v.gr a).kp D;replace w:=(w.gr a).kp D;replace c:=(c.grow a).kp D Z;intro _ a;replace a:=a.bl z;refine W1 ?_;cases d;replace c:=c.grow a;exact ⟨rfl,_,Vm (q.gr a).atN,_,_,_,_,_,rfl,c.fin (cm [(8,C),(9,c2)]),c.fo (v.gr a),c.fo (w.gr a)⟩
theorem Zii {N k:Nat} {neg:Bool} {m:List Int} (hm:Zp m) (hk:m.length≤k) (hr:Z3 N k):Za6 N neg m=some (Xu (Zw (neg,m))):=by
 obtain ⟨a,b⟩:=hr
 rw [Za6,Zs7 hm (by omega) (by omega),oB,Znl]
 have e:decide (0<((Zf (Zc m)).length:Int))=decide (Zc m≠0):=by
  by_cases h:Zc m=0
  ·rw [h,Vh];decide
  ·have:=U8 h
   rw [decide_eq_true (by omega),decide_eq_true h]
 cases neg
 ·rw [if_neg (by decide),Zk7,Bool.false_and]
 ·rw [if_pos rfl,Zk7,e,Bool.true_and]
theorem Xcy {N k:Nat} {a:ZV} (hm:Zp a.2) (hk:a.2.length≤k) (hr:Z3 N k):Znh N a=some (Xu (Zw a)):=by
 rw [Znh,Zii hm hk hr];rfl
theorem Zrg {N k:Nat} {a:ZV} (hm:Zp a.2) (hk:a.2.length≤k) (hr:Z3 N k):Zfo N a=some (Zw a).sign:=by
 obtain ⟨b,c⟩:=hr
 rw [Zfo,Z4t hm (by omega) (by omega),oB,Zw]
 by_cases h:Zc a.2=0
 ·rw [h,Zio,if_pos (by decide)];simp
 ·have d:Xn (Zc a.2)≠0:=by rw [Xn,if_neg h];omega
  rw [if_neg (dF (by omega))]
  by_cases h2:a.1=true
  ·rw [if_pos h2,if_pos h2,Int.sign_eq_neg_one_of_neg (by omega)]
  ·rw [if_neg h2,if_neg h2,Int.sign_eq_one_of_pos (by omega)]
theorem Zli {a b:ZV}:(a.1=b.1→Zw (a.1,Zf (Zc a.2+Zc b.2))=Zw a+Zw b)∧(a.1≠b.1→(Zc b.2≤Zc a.2→Zw (a.1,Zf (Zc a.2 - Zc b.2))=Zw a+Zw b)∧(Zc a.2<Zc b.2→Zw (b.1,Zf (Zc b.2 - Zc a.2))=Zw a+Zw b)):=by
 obtain ⟨s,x⟩:=a
 obtain ⟨t,y⟩:=b
 simp only [Zw,Xb]
 cases s <;> cases t <;> simp <;> (try constructor) <;> intros <;> omega
theorem Xct {N k l:Nat} {a b:ZV} (ha:Zp a.2) (hb:Zp b.2) (hk:a.2.length≤k) (hl:b.2.length≤l) (hr:Z3 N (k+l+1)):Zne N a b=some (Xu (Zw a+Zw b)):=by
 have d:=hr
 obtain ⟨g,i⟩:=d
 have j:=Yr ha
 have m:=Yr hb
 have c:(Zf (Zc a.2+Zc b.2)).length≤k+l+1:=Zo9 (by omega) (by omega)
 have e:(Zf (Zc a.2 - Zc b.2)).length≤k+l+1:=by have:=Y7 (Nat.sub_le (Zc a.2) (Zc b.2));omega
 have f:(Zf (Zc b.2 - Zc a.2)).length≤k+l+1:=by have:=Y7 (Nat.sub_le (Zc b.2) (Zc a.2));omega
 rw [Zne]
 by_cases h:a.1=b.1
 ·rw [if_pos (dT h),Z4m ha hb (by omega) (by omega) (by omega) (by omega),oB,Zii (Xd _) c hr,oB,Zli.1 h]
 ·rw [if_neg (dF h),Z3m ha hb (by omega) (by omega) (by omega) (by omega),oB]
  by_cases hlt:Zc a.2<Zc b.2
  ·rw [if_pos hlt,if_neg (by decide),Z3m hb ha (by omega) (by omega) (by omega) (by omega),oB,if_neg (by omega),Zii (Xd _) f hr,oB,(Zli.2 h).2 hlt]
  ·rw [if_neg hlt,if_pos rfl,Zii (Xd _) e hr,oB,(Zli.2 h).1 (by omega)]
theorem Xc3 (b:ZV):Zw (!b.1,b.2)= -Zw b:=by
 obtain ⟨s,x⟩:=b
 cases s <;> simp [Zw]
theorem Zrk (a b:ZV):Zw (!decide (a.1=b.1),Zf (Zc a.2 * Zc b.2))=Zw a * Zw b:=by
 obtain ⟨s,x⟩:=a
 obtain ⟨t,y⟩:=b
 simp only [Zw,Xb]
 cases s <;> cases t <;> simp [bN,Int.neg_mul,Int.mul_neg]
theorem Xcx {N k l:Nat} {a b:ZV} (ha:Zp a.2) (hb:Zp b.2) (hk:a.2.length≤k) (hl:b.2.length≤l) (hr:Z3 N (k+l)):Zng N a b=some (Xu (Zw a * Zw b)):=by
 have c:=hr
 obtain ⟨d,e⟩:=c
 have f:=Yr ha
 have g:=Yr hb
 have:=Uu (Zc a.2) (Zc b.2)
 rw [Zng,Znj ha hb (by omega) (by omega),oB,Zii (k:=k+l) (Xd _) (by omega) hr,oB,Zrk]
theorem Xc1 (a b:ZV):(if (Zw a).sign<(Zw b).sign then -1 else if (Zw b).sign<(Zw a).sign then 1 else (Zw a).sign * (if Zc a.2<Zc b.2 then -1 else if Zc b.2<Zc a.2 then 1 else 0))=Zba (Zw a) (Zw b):=by
 obtain ⟨s,x⟩:=a
 obtain ⟨t,y⟩:=b
 have c:∀ z:Int,z.sign=if z<0 then -1 else if 0<z then 1 else 0:=fun z=>(Zrj z).symm
 rw [c,c]
 unfold Zba
 simp only [Zw]
 generalize Zc x=X
 generalize Zc y=Y
 cases s <;> cases t <;> simp only [if_true,Bool.false_eq_true,if_false] <;> (repeat' split) <;> omega
theorem Xcv {N k l:Nat} {a b:ZV} (ha:Zp a.2) (hb:Zp b.2) (hk:a.2.length≤k) (hl:b.2.length≤l) (hr:Z3 N (k+l)):Znf N a b=some (Zba (Zw a) (Zw b)):=by
 have c:=hr
 obtain ⟨d,e⟩:=c
 have f:-1≤(Zw a).sign∧(Zw a).sign≤1:=by rw [← Zrj];unfold Zba;(repeat' split) <;> omega
 rw [Znf,Zrg ha hk (hr.mono (by omega)),oB,Zrg hb hl (hr.mono (by omega)),oB,← Xc1 a b]
 by_cases h1:(Zw a).sign<(Zw b).sign
 ·rw [if_pos (dT h1),if_pos h1]
 ·rw [if_neg (dF h1),if_neg h1]
  by_cases h2:(Zw b).sign<(Zw a).sign
  ·rw [if_pos (dT h2),if_pos h2]
  ·rw [if_neg (dF h2),if_neg h2,Zsf ha hb (by omega) (by omega) (by omega) (by omega),oB]
   congr 1
   refine Zv ?_
   have:(Zw a).sign= -1∨(Zw a).sign=0∨(Zw a).sign=1:=by omega
   rcases this with h | h | h <;> rw [h] <;> (repeat' split) <;> decide
theorem Z4e {N:Nat} {z:Int} (h:-9223372036854775808≤z∧z≤9223372036854775807) (hr:Z3 N 2):Zk6 N z=some (Xu z):=by
 have b:=hr
 obtain ⟨f,g⟩:=b
 have c:∀ n:Nat,n<18446744073709551616→(Zf n).length≤2:=fun n d=>Vc.2 (by simpa using d)
 rw [Zk6]
 by_cases hz:z<0
 ·have e:u64.wrap (-u64.wrap z)= -z:=by rw [IntKind.wrap_u64,IntKind.wrap_u64];omega
  rw [if_pos (dT hz),e,Zk9 (by omega) (by omega),oB,Zii (Xd _) (c _ (by omega)) hr,oB]
  have a:Zw (true,Zf (-z).toNat)=z:=by simp only [Zw,Xb,if_true];omega
  rw [a]
 ·rw [if_neg (dF hz),Xs (by omega),Zk9 (by omega) (by omega),oB,Zii (Xd _) (c _ (by omega)) hr,oB]
  have a:Zw (false,Zf z.toNat)=z:=by simp only [Zw,Xb];simp;omega
  rw [a]
theorem Zf0 {N k:Nat} {a:QV} (ha:RV k a) (hr:Z3 N k):Sf N a=some (Zf (Xx a.2)):=by
 obtain ⟨b,c⟩:=hr
 have:=ha.ld
 rw [Sf,Zs7 ha.d (by omega) (by omega),oB,Xx]
 by_cases h:Zc a.2=0
 ·rw [h,Vh,if_neg (by decide),if_pos rfl,Zk9 (by decide) (by omega)];rfl
 ·have:=U8 h
  rw [if_pos (dT (by omega)),if_neg h]
theorem U7 {k:Nat} {a:QV} (ha:RV k a):(Zf (Xx a.2)).length≤k+1:=by
 have b:=Yr ha.d
 have c:=ha.ld
 rw [Xx]
 split
 ·rw [Sd];simp
 ·omega
theorem Zqd {N k l n:Nat} {a:ZV} (ha:Zp a.2) (hk:a.2.length≤k) (hl:(Zf n).length≤l) (hr:Z3 N (k+l)):Zej N a (Zf n)=some (Xu (Zw a * n)):=by
 rw [Zej,Xcx (a:=(a.1,a.2)) (b:=(false,Zf n)) ha (Xd _) hk hl hr,oB]
 have e:Zw (false,Zf n)=n:=by simp [Zw,Xb]
 rw [e]
theorem Zpb {N k l:Nat} {neg:Bool} {num den:List Int} (hn:Zp num) (hd:Zp den) (h0:Zc den≠0) (hk:num.length≤k) (hl:den.length≤l) (hr:Z3 N (k+l)):
  Zei N neg num den=some (Zn (mkRat (Zw (neg,num)) (Zc den))):=by
 have b:=hr
 obtain ⟨e,f⟩:=b
 have g:=Yr hn
 have d:=Yr hd
 have c:cX (Zc num) (Zc den)≠0:=fun h=>h0 (Nat.gcd_eq_zero_iff.1 h).2
 have lg:(Zf (cX (Zc num) (Zc den))).length≤den.length:=aT (Y7 (Nat.gcd_le_right _ (by omega))) d
 have i:=Y7 (Nat.div_le_self (Zc num) (cX (Zc num) (Zc den)))
 rw [Zei,Z8s hn hd (by omega) (by omega),oB,Zo0 hn (Xd _) (by omega) (by omega),oB,Zo0 hd (Xd _) (by omega) (by omega),oB,Xb,if_neg c,if_neg c,
  Xcy (k:=k) (a:=(neg,Zf (Zc num / cX (Zc num) (Zc den)))) (Xd _) (by simp only;omega) (hr.mono (by omega)),oB,Zzh h0,Znl,Xb]
theorem Zly {N k:Nat} {a:QV} (ha:RV k a) (hr:Z3 N k):Qp N a=some (Tz (Zr a)):=by
 rw [Qp,Zrg (a:=(a.1.1,a.1.2)) ha.m ha.lm hr,oB,Zz9]
theorem Zgb (z:Int):(Xu z).2=Zf z.natAbs:=rfl
theorem Zea {k l n:Nat} {a:ZV} (ha:Zp a.2) (hk:a.2.length≤k) (hl:(Zf n).length≤l):(Xu (Zw a * n)).2.length≤k+l:=by
 rw [Zgb,fM,eH,Zcc]
 have b:=Uu (Zc a.2) n
 have c:=Yr ha
 omega
theorem Zw1 {N k l:Nat} {a b:QV} (ha:RV k a) (hb:RV l b) (hr:Z3 N (2 * (k+l+2))):Zjd N a b=some (Ty (Zr a) (Zr b)):=by
 have c:=U7 ha
 have d:=U7 hb
 have e:=Zea (n:=Xx b.2) ha.m ha.lm d
 have f:=Zea (n:=Xx a.2) hb.m hb.lm c
 rw [Zjd,Zf0 hb (hr.mono (by omega)),oB,Zqd (k:=k) (l:=l+1) ha.m ha.lm d (hr.mono (by omega)),oB,Zf0 ha (hr.mono (by omega)),oB,Zqd (k:=l) (l:=k+1) hb.m hb.lm c (hr.mono (by omega)),oB,
  Xcv (a:=Xu _) (b:=Xu _) (Uv _) (Uv _) e f (hr.mono (by omega)),oB,Un,Un,Zr,Zr,Zti (Us _) (Us _)]
theorem Zoy {N k l:Nat} {a b:QV} (ha:RV k a) (hb:RV l b) (hr:Z3 N (k+l+2)):Zap N (Zf (Xx a.2)) (Zf (Xx b.2))=some (Zf (Xx a.2 * Xx b.2))∧(Zf (Xx a.2 * Xx b.2)).length≤k+l+2∧Xx a.2 * Xx b.2≠0:=by
 have d:=U7 ha
 have e:=U7 hb
 have c:=hr
 obtain ⟨f,g⟩:=c
 have:=Uu (Xx a.2) (Xx b.2)
 refine ⟨by rw [Znj (Xd _) (Xd _) (by omega) (by omega),Xb,Xb],by omega,eD (Us _) (Us _)⟩
theorem Zul {x y:Int} {k:Nat} (hx:(Xu x).2.length≤k) (hy:(Xu y).2.length≤k):(Xu (x+y)).2.length≤k+1:=by
 rw [Zgb] at *
 exact aT (Y7 (Int.natAbs_add_le _ _)) (Zo9 hx hy)
theorem Xcd {x y:Int} {k:Nat} (hx:(Xu x).2.length≤k) (hy:(Xu y).2.length≤k):(Xu (x - y)).2.length≤k+1:=by
 rw [Int.sub_eq_add_neg]
 refine Zul hx ?_
 rw [Zgb,Int.natAbs_neg];exact hy
theorem Z99 (z:Int):((Xu z).1,(Xu z).2)=Xu z:=rfl
theorem Zlx {N k l:Nat} {a b:QV} (ha:RV k a) (hb:RV l b) (hr:Z3 N (2 * (k+l+3))):Qo N a b=some (Zn (Zr a+Zr b)):=by
 have c:=U7 ha
 have d:=U7 hb
 have f:=Zea (n:=Xx b.2) ha.m ha.lm d
 have e:=Zea (n:=Xx a.2) hb.m hb.lm c
 obtain ⟨g,i,j⟩:=Zoy ha hb (hr.mono (by omega))
 have sl:=Zul (k:=k+l+1) (by omega) (aT e (by omega))
 rw [Qo,Zf0 hb (hr.mono (by omega)),oB,Zqd (k:=k) (l:=l+1) ha.m ha.lm d (hr.mono (by omega)),oB,Zf0 ha (hr.mono (by omega)),oB,Zqd (k:=l) (l:=k+1) hb.m hb.lm c (hr.mono (by omega)),oB,
  Xct (a:=Xu _) (b:=Xu _) (Uv _) (Uv _) f e (hr.mono (by omega)),oB,Un,Un,oB,oB,g,oB,
  Zpb (Uv _) (Xd _) (by rw [Xb];exact j) sl i (hr.mono (by omega)),oB,Z99,Un,Xb,Zr,Zr,jH _ _ (Us _) (Us _)]
theorem Zso {N k l:Nat} {a b:QV} (ha:RV k a) (hb:RV l b) (hr:Z3 N (2 * (k+l+3))):Zbr N a b=some (Zn (Zr a * Zr b)):=by
 have c:=hr
 obtain ⟨g,i⟩:=c
 have j:=ha.lm
 have n:=hb.lm
 have o:=Yr ha.m
 have p:=Yr hb.m
 have q:=Uu (Zc a.1.2) (Zc b.1.2)
 obtain ⟨d,e,f⟩:=Zoy ha hb (hr.mono (by omega))
 rw [Zbr,Znj ha.m hb.m (by omega) (by omega),oB,Zf0 ha (hr.mono (by omega)),oB,Zf0 hb (hr.mono (by omega)),oB,d,oB,
  Zpb (k:=k+l) (Xd _) (Xd _) (by rw [Xb];exact f) (by omega) e (hr.mono (by omega)),oB,Zrk,Xb,Zr,Zr,gU]
theorem Zp4 (n₁:Int) (d₁:Nat) (b:ZV) (d₂:Nat) (s:Bool) (x:List Int) (h:n₁=Zw (s,x)) (hb:Zc b.2≠0):mkRat n₁ d₁ / mkRat (Zw b) d₂=mkRat (Zw (!decide (s=b.1),Zf (Zc x * d₂))) (d₁ * Zc b.2):=by
 have d:mkRat (Zw b) d₂=(Zw b:Rat) / (d₂:Rat):=cM _ _
 have e:(Zw b:Rat)=(if b.1=true then -1 else 1) * (Zc b.2:Rat):=by
  rw [Zw];split
  ·rw [Rat.intCast_neg,Rat.neg_mul,Rat.one_mul];rfl
  ·rw [Rat.one_mul];rfl
 have f:(Zw (!decide (s=b.1),Zf (Zc x * d₂)):Rat)=(if b.1=true then -1 else 1) * (n₁:Rat) * (d₂:Rat):=by
  subst h
  have:Zw (!decide (s=b.1),Zf (Zc x * d₂))=(if b.1=true then -1 else 1) * Zw (s,x) * (d₂:Int):=by
   obtain ⟨t,y⟩:=b
   simp only [Zw,Xb]
   cases s <;> cases t <;> simp [bN,Int.neg_mul]
  rw [this,iN,iN]
  congr 2
  split <;> rfl
 have g:(Zc b.2:Rat)≠0:=fun h=>hb (Rat.natCast_eq_zero_iff.1 h)
 rw [cM,d,cM,f,e,Rat.natCast_mul]
 have c:(if b.1=true then (-1:Rat) else 1) * (if b.1=true then (-1:Rat) else 1)=1:=by split <;> grind
 generalize (if b.1=true then (-1:Rat) else 1)=sg at *
 generalize (n₁:Rat)=p
 generalize (d₁:Rat)=q
 generalize (d₂:Rat)=r
 generalize (Zc b.2:Rat)=m at *
 have i:sg≠0:=fun h=>by rw [h] at c;grind
 have a:sg⁻¹=sg:=fW c
 simp only [Rat.div_def,Rat.inv_mul_rev,Rat.inv_inv,a]
 grind
theorem Zw2 {N k l:Nat} {a b:QV} (ha:RV k a) (hb:RV l b) (hr:Z3 N (2 * (k+l+3))):Zcn N a b=some (if Zr b=0 then (((false,[]),[]),11) else (Zn (Zr a / Zr b),0)):=by
 have d:=hr
 obtain ⟨i,j⟩:=d
 have n:=ha.lm
 have o:=hb.lm
 have p:=Yr ha.m
 have q:=Yr hb.m
 have r:=U7 ha
 have s:=U7 hb
 rw [Zcn,Zly hb (hr.mono (by omega)),oB]
 by_cases h0:Zr b=0
 ·rw [if_pos h0,h0,if_pos (by decide)]
 ·have c:Zc b.1.2≠0:=fun h=>h0 ((Z0e b).2 h)
  have f:=Uu (Zc a.1.2) (Xx b.2)
  have g:=Uu (Xx a.2) (Zc b.1.2)
  have e:=Zp4 (Zw a.1) (Xx a.2) b.1 (Xx b.2) a.1.1 a.1.2 rfl c
  rw [if_neg (dF (fun h=>h0 (Zb9.1 h))),if_neg h0,Zf0 hb (hr.mono (by omega)),oB,Znj ha.m (Xd _) (by omega) (by omega),oB,Zf0 ha (hr.mono (by omega)),oB,Znj (Xd _) hb.m (by omega) (by omega),oB,Xb,Xb,
   Zpb (k:=k+l+1) (l:=k+l+1) (Xd _) (Xd _) (by rw [Xb];exact eD (Us _) c) (by omega) (by omega) (hr.mono (by omega)),oB,Xb,← e]
  rfl
theorem Z8n {N k l:Nat} {a b:ZV} (ha:Zp a.2) (hb:Zp b.2) (hk:a.2.length≤k) (hl:b.2.length≤l) (hr:Z3 N (k+l)):Zl4 N a b=some (if Zw b=0 then (((false,[]),[]),11) else (Zn ((Zw a:Rat) / (Zw b:Rat)),0)):=by
 rw [Zl4,Zrg (a:=(b.1,b.2)) hb hl (hr.mono (by omega)),oB]
 by_cases h0:Zw b=0
 ·rw [if_pos h0,h0,if_pos (by decide)]
 ·have c:Zc b.2≠0:=fun h=>h0 (by have:=Zcc b;omega)
  have e:=Zp4 (Zw a) 1 b 1 a.1 a.2 rfl c
  have d:¬ (Zw b).sign=0:=fun h=>h0 (Int.sign_eq_zero_iff_zero.1 h)
  rw [if_neg (by rw [decide_eq_false d];decide),if_neg h0,Zpb ha hb c hk hl hr,oB]
  rw [cM,cM] at e
  have f:(Zw a:Rat) / ((1:Nat):Rat) / ((Zw b:Rat) / ((1:Nat):Rat))=(Zw a:Rat) / (Zw b:Rat):=by
   have g:((1:Nat):Rat)=1:=rfl
   have i:(1:Rat)⁻¹=1:=fW (by grind)
   simp only [g,Rat.div_def,i,Rat.mul_one]
  rw [f,Nat.one_mul,Nat.mul_one] at e
  rw [e]
  have j:Zw (!decide (a.1=b.1),Zf (Zc a.2))=Zw (!decide (a.1=b.1),a.2):=by simp only [Zw,Xb]
  rw [j]
theorem Zsp {N:Nat} {a b:Int} (h:-9223372036854775808≤a∧a≤9223372036854775807) (g:-9223372036854775808≤b∧b≤9223372036854775807) (hr:Z3 N 4):Zeh N a b=some (if b=0 then (((false,[]),[]),11) else (Zn ((a:Rat) / (b:Rat)),0)):=by
 have c:∀ z:Int,-9223372036854775808≤z∧z≤9223372036854775807→(Xu z).2.length≤2:=fun z d=>Vc.2 (by simp;omega)
 rw [Zeh,Z4e h (hr.mono (by omega)),oB,Z4e g (hr.mono (by omega)),oB,Z8n (a:=Xu a) (b:=Xu b) (Uv _) (Uv _) (c _ h) (c _ g) hr,oB,Un,Un]
def Xj (l:List QV):Rat:=(l.map Zr).sum
def X6:List QV→Nat
 | []=>0
 | a :: l=>max a.1.2.length a.2.length+2+X6 l
theorem Zab {a:QV} (hm:Zp a.1.2) (hd:Zp a.2):RV (max a.1.2.length a.2.length) a:=⟨hm,hd,Nat.le_max_left _ _,Nat.le_max_right _ _⟩
def W2 (a:QV):Prop:=Zp a.1.2∧Zp a.2
theorem Zto {a:QV} (h:W2 a):qs (Zr a)≤max a.1.2.length a.2.length+1:=by
 have:=Zz8 (Zab h.1 h.2)
 omega
theorem Zxl {N:Nat}:∀ (l:List QV) (q:Rat),(∀ a ∈ l,W2 a)→Z3 N (4 * (qs q+X6 l+3))→Qr N l (Zn q).1.1 (Zn q).1.2 (Zn q).2=some (Zn (q+Xj l))∧qs (q+Xj l)≤qs q+X6 l
 | [],q,_,_=>by
  rw [Qr.eq_1,Xj]
  simp only [List.map_nil,List.sum_nil,Rat.add_zero,X6]
  exact ⟨trivial,by omega⟩
 | a :: l,q,d,b=>by
  have c:=d a aO
  have n:=Zto c
  rw [X6] at b ⊢
  rw [Qr.eq_2,Zlx (k:=qs q) (l:=max a.1.2.length a.2.length) (Zle q) (Zab c.1 c.2) (b.mono (by omega)),oB]
  have e:Zr ((((Zn q).1.1,(Zn q).1.2),(Zn q).2):QV)=q:=Y5 q
  have f:Zr (((a.1.1,a.1.2),a.2):QV)=Zr a:=rfl
  have o:=Ztn q (Zr a)
  obtain ⟨g,i⟩:=Zxl l (q+Zr a) (fun x j=>d x (aN _ j)) (b.mono (by omega))
  rw [e,f,g]
  have m:q+Zr a+Xj l=q+Xj (a :: l):=by rw [Xj,Xj,List.map_cons,List.sum_cons,Rat.add_assoc]
  rw [m] at i ⊢
  exact ⟨rfl,by omega⟩
theorem Zo4 {N:Nat} {l:List QV} (hl:∀ a ∈ l,W2 a) (hr:Z3 N (4 * (X6 l+4))):Qq N l=some (Zn (Xj l))∧qs (Xj l)≤X6 l+1:=by
 have c:=hr
 obtain ⟨f,g⟩:=c
 obtain ⟨b,d⟩:=Zxl (N:=N) l 0 hl (hr.mono (by rw [Znq];omega))
 rw [Rat.zero_add] at b d
 rw [Znq] at d
 have e:Zn 0=((false,[]),[1]):=by
  rw [Zn,Xu]
  simp only [Rat.zero_num,Rat.zero_den,Int.natAbs_zero,Vh,Sd]
  rfl
 rw [e] at b
 refine ⟨?_,by omega⟩
 rw [Qq,Zk9 (by decide) (by omega),oB,← b]
 rw [show (1:Int).toNat=1 from rfl,Sd]
def Bd (D M:Nat) (q:Rat):Prop:=∃ z:Int,q=mkRat z D∧z.natAbs≤M * D
theorem Bd.lift {D M:Nat} (E:Nat) {q:Rat} (h:Bd D M q) (hD:D≠0) (hE:E≠0):Bd (D * E) M q:=by
 obtain ⟨z,rfl,a⟩:=h
 refine ⟨z * E,?_,?_⟩
 ·rw [Zyy hD (eD hD hE),bN,kM,Int.mul_comm (E:Int)]
 ·rw [fM,eH,← Nat.mul_assoc]
  exact Nat.mul_le_mul_right E a
theorem Z9t (a b:Int) {D:Nat} (hD:D≠0):mkRat a D+mkRat b D=mkRat (a+b) D:=by
 rw [jH _ _ hD hD,← Int.add_mul,Zyy (eD hD hD) hD,bN,kM]
theorem Bd.mul {D E M K:Nat} {a b:Rat} (ha:Bd D M a) (hb:Bd E K b):Bd (D * E) (M * K) (a * b):=by
 obtain ⟨x,rfl,c⟩:=ha
 obtain ⟨y,rfl,d⟩:=hb
 refine ⟨x * y,gU _ _ _ _,?_⟩
 rw [fM,Nat.mul_mul_mul_comm M K D E]
 exact Nat.mul_le_mul c d
theorem Bd.one:Bd 1 1 1:=⟨1,rfl,by simp⟩
def Sx:List QV→Nat
 | []=>1
 | x :: t=>Xx x.2 * Sx t
theorem Zsi:∀ t:List QV,Sx t≠0
 | []=>by simp [Sx]
 | x :: t=>eD (Us x.2) (Zsi t)
theorem Zwq:∀ (t:List QV),(∀ x ∈ t,W2 x)→(Zf (Sx t)).length≤X6 t+1
 | [],_=>by rw [Sx,Sd];simp
 | x :: t,h=>by
  have a:=h x aO
  have c:=U7 (Zab a.1 a.2)
  have d:=Zwq t fun y b=>h y (aN _ b)
  have e:=Uu (Xx x.2) (Sx t)
  rw [Sx,X6];omega
theorem Z4r {x:QV} (h:0≤Zr x) (g:Zr x≤1):Bd (Xx x.2) 1 (Zr x):=by
 refine ⟨Zw x.1,rfl,?_⟩
 have a:=Us x.2
 have c:¬ Zw x.1<0:=fun b=>by
  have:Zr x<0:=by
   rw [Zr,show (0:Rat)=mkRat 0 1 from rfl,Zh6 a (by decide)];omega
  exact absurd h (Rat.not_le.2 this)
 have d:¬ (Xx x.2:Int)<Zw x.1:=fun b=>by
  have:1<Zr x:=by
   rw [Zr,show (1:Rat)=mkRat 1 1 from rfl,Zh6 (by decide) a];omega
  exact absurd g (Rat.not_le.2 this)
 omega
def Zec (kk_L2:(Option Int)):List Int→(List Rc)→Option Int
  | [],a=>kk_L2
  | b :: c,a=>if (decide (0<((Wz a b).getD 0)))=true then (some 40) else ((some (Q4 a b 1)).bind fun d=>(Zec kk_L2 c) d)
def Zbj:List R2→Option Int
  | []=>some 0
  | a :: b=>Zec (Zbj b) a ([]:List Rc)
def Zi4 (kk_L4:(Option Int)) (a:Bool):Option Int:=
  if a=true then (some 3) else kk_L4
def Zbk (a:R6) (kk_L1:(Option Int)):List Int→Option Int
  | []=>kk_L1
  | b :: c=>if (decide (b<0))=true then (Zi4 (Zbk a kk_L1 c) true) else (Zi4 (Zbk a kk_L1 c) (decide ((a.length:Int)≤b)))
def Zbi (a:R6):List R2→Option Int
  | []=>Zbj a
  | b :: c=>Zbk a (Zbi a c) b
def Zi3 (a:R6):Option Int:=
  Zbi a a
theorem Z4y {N:Nat} {D:Option Addr} {col:Ze} {h:World} {b:R6} {r:Int} (a:Zi3 b=some r) (j:Sl rP col h D N b):
    Calls prog 205 #[.slice D b.length N] h (Wn h r):=by
 refine Xc 2 (m:=57) func205 rfl rfl rfl rfl rfl ?_;rw [Zi3.eq_1] at a;have d:=St.start col h;refine go ?_;refine Zt [0,12,13,1000000] (fun m k c=>∃ e C u,m=u.length∧b.drop C=u∧Zbi b u=some r∧St h (Zh col) e c∧[14].map k=[.int .i64 C]) b.length ⟨_,0,_,rfl,rfl,a,d,rfl⟩ ?_;clear a;intro m k c p;obtain ⟨e,C,u,l,f,a,d,g⟩:=p;subst l;refine .lL [14] g ?_;replace j:=j.k0
 cases u with
 | nil=>
  have e:¬ ((C:Int)<(b.length:Int)):=by have:=aJ.1 f;omega
  have c:=decide_eq_false e;rw [Zbi.eq_1] at a;refine go ?_;refine Ym (congrArg Value.bool c)<|go ?_;refine Zt [34,35,1000000] (fun m k i=>∃ Q x t,m=t.length∧b.drop x=t∧Zbj t=some r∧St h (Zh col) Q i∧[36].map k=[.int .i64 x]) b.length ⟨_,0,_,rfl,rfl,a,d,rfl⟩ ?_;clear a;intro m k i p;obtain ⟨Q,x,t,l,f,a,d,g⟩:=p;subst l;refine .lL [36] g ?_
  cases t with
  | nil=>
   have e:¬ ((x:Int)<(b.length:Int)):=by have:=aJ.1 f;omega
   have c:=decide_eq_false e;rw [Zbj.eq_1] at a;refine go ?_;refine Ym (congrArg Value.bool c)<|go ?_;cases a;exact ⟨rfl,rfl,d.below⟩
  | cons B G=>
   obtain ⟨i,H,s⟩:=Yt f;have e:(x:Int)<(b.length:Int):=by omega
   have c:=decide_eq_true e;rw [Zbj.eq_2] at a;refine go ?_;refine Yn (congrArg Value.bool c)<|go ?_;refine lI i ((j.ks d).addr i) ?_;obtain ⟨_,V,X⟩:=(j.ks d).atN i;obtain ⟨⟨o,q,rfl,n⟩,_⟩:=V;refine lW X.one<|go ?_;refine Z88 (col:=Q) (fk:=(Value.int .i64)) (fv:=(Value.int .i64)) 1 rfl underlying205 rfl fun _ _ _ x Z=>go ?_;replace n:=n.gr x;replace d:=d.grow x;refine Zt [34,35,36,43,44,1000000] (fun m k E=>∃ F z O A w,m=w.length∧B.drop z=w∧Zec (Zbj G) w A=some r∧St h (Zh col) F E∧Sl rI F E o q B∧V2 (Value.int .i64) (Value.int .i64) 1 F E O A∧[45,9].map k=[.int .i64 z,.map (some O)]) B.length ⟨_,0,_,_,_,rfl,rfl,a,d,n,Z,rfl⟩ ?_;clear a;intro m k E p;obtain ⟨F,z,O,A,w,l,f,a,d,n,D,g⟩:=p;subst l;refine .lL [45,9] g ?_
   cases w with
   | nil=>
    have e:¬ ((z:Int)<(B.length:Int)):=by have:=aJ.1 f;omega
    have c:=decide_eq_false e;rw [Zec.eq_1] at a;refine go ?_;refine Ym (congrArg Value.bool c)<|go ?_;exact ⟨G.length,by simp,rfl,⟨_,_,_,rfl,H,a,d,(Yz (congrArg (Value.int .i64) (Yv (aI s (j.ks d).1.1))) rfl)⟩⟩
   | cons P t=>
    obtain ⟨i,u,v⟩:=Yt f;have e:(z:Int)<(B.length:Int):=by omega
    have c:=decide_eq_true e;rw [Zec.eq_2] at a;refine go ?_;refine Yn (congrArg Value.bool c)<|go ?_;refine lI i (n.addr i)<|lW (n.atInt i) ?_;refine go ?_;refine lV (.int .i64 ((Wz A P).getD 0)) (Z0p Qc.int D underlying205 underlying3 zeroValue3 rfl rfl)<|go ?_;refine Zm a (fun s a=>go ?_) fun s a=>go ?_
    ·cases a;exact ⟨rfl,rfl,d.below⟩
    obtain ⟨S,J,a⟩:=bZ a;have J:S=Q4 A P 1:=(Option.some.inj J).symm;refine Zx1 (k:=P) (v:=1) Qc.int D underlying205 underlying3 rfl rfl rfl ?_;intro _ y Y z;rw [← J] at z;refine go ?_;replace n:=n.kp y;replace d:=d.kp y Y;exact ⟨t.length,by simp,rfl,⟨_,_,_,_,_,rfl,u,a,d,n,z,(Yz (congrArg (Value.int .i64) (Yv (aI v n.1.1))) rfl)⟩⟩
 | cons q R=>
  obtain ⟨i,n,w⟩:=Yt f;have e:(C:Int)<(b.length:Int):=by omega
  have c:=decide_eq_true e;rw [Zbi.eq_2] at a;refine go ?_;refine Yn (congrArg Value.bool c)<|go ?_;refine lI i ((j.ks d).addr i) ?_;obtain ⟨_,U,W⟩:=(j.ks d).atN i;obtain ⟨⟨A,B,rfl,o⟩,_⟩:=U;refine lW W.one<|go ?_;refine Zt [0,12,13,14,18,19,1000000] (fun m k K=>∃ L y v,m=v.length∧q.drop y=v∧Zbk b (Zbi b R) v=some r∧St h (Zh col) L K∧Sl rI L K A B q∧[20].map k=[.int .i64 y]) q.length ⟨_,0,_,rfl,rfl,a,d,o,rfl⟩ ?_;clear a;intro m k K p;obtain ⟨L,y,v,l,f,a,d,o,g⟩:=p;subst l;refine .lL [20] g ?_
  cases v with
  | nil=>
   have e:¬ ((y:Int)<(q.length:Int)):=by have:=aJ.1 f;omega
   have c:=decide_eq_false e;rw [Zbk.eq_1] at a;refine go ?_;refine Ym (congrArg Value.bool c)<|go ?_;exact ⟨R.length,by simp,rfl,⟨_,_,_,rfl,n,a,d,(Yz (congrArg (Value.int .i64) (Yv (aI w (j.ks d).1.1))) rfl)⟩⟩
  | cons m p=>
   obtain ⟨i,j,l⟩:=Yt f;have e:(y:Int)<(q.length:Int):=by omega
   have c:=decide_eq_true e;rw [Zbk.eq_2] at a;refine go ?_;refine Yn (congrArg Value.bool c)<|go ?_;refine lI i (o.addr i)<|lW (o.atInt i)<|Y6 rfl<|Zl<|Zx ?_;refine Wp.cutK [0,12,13,14,18,19,20,1000000] (fun k G=>∃ H I,Zi4 (Zbk b (Zbi b R) p) I=some r∧St h (Zh col) H G∧Sl rI H G A B q∧[31].map k=[.bool I]) ?_ ?_
   ·intro k G T;obtain ⟨H,I,a,d,o,g⟩:=T;rw [Zi4.eq_1] at a;refine .lL [31] g ?_;refine Zm a (fun s a=>go ?_) fun s a=>go ?_
    ·cases a;exact ⟨rfl,rfl,d.below⟩
    exact ⟨p.length,by simp,rfl,⟨_,_,_,rfl,j,a,d,o,(Yz (congrArg (Value.int .i64) (Yv (aI l o.1.1))) rfl)⟩⟩
   refine go ?_;refine Ye a (fun M a=>go ?_) fun M a=>go ?_
   ·refine lV (.bool true) (X0 (congrArg Value.bool M) rfl)<|Zl ?_;exact ⟨rfl,_,_,a,d,o,rfl⟩
   refine lV (.bool (decide ((b.length:Int)≤m))) (X7 (congrArg Value.bool M) rfl)<|Zl ?_;exact ⟨rfl,_,_,a,d,o,rfl⟩
theorem Z75:Wt prog 3 1 8:=⟨Tryz.t3,_,rfl,rfl,rfl,rfl,rfl⟩
def Zeb (a:Nat) (kk_L1:(Nat→R6→Option R6)):List Int→R6→Option R6
  | [],b=>kk_L1 (a+1) b
  | d :: e,b=>(Zk b d).bind fun c=>Z2 ((c.length+[(a:Int)].length) * 8≤140737488355328∧c.length+[(a:Int)].length≤maxLen) ((Zeb a kk_L1 e) (b.set (aA d) (c++[(a:Int)])))
def Zbh:List R2→Nat→R6→Option R6
  | [],b,a=>some a
  | c :: d,b,a=>Zeb b (Zbh d) c a
def Zi2 (a:R6):Option R6:=
  Z2 (a.length * 24≤281474976710656∧a.length≤maxLen) (Zbh a 0 (aD a.length (([]:List Int):List Int)))
theorem Z4x {S:Nat} {D:Option Addr} {col:Ze} {f:World} {j r:R6} (J:Nat) (a:Zi2 j=some r) (n:Sl rP col f D S j):
    Calls prog 207 #[.slice D j.length S] f (fun e w'=>∃ (col':Ze) (k:Option Addr) (i:Nat),e= .returned ((.slice k r.length i))∧Zj col f col' w'∧Zb (Za.row 3 rI) 36 J col' w' k i r):=by
 refine Xc 2 (m:=37) func207 rfl rfl rfl rfl rfl ?_;rw [Zi2.eq_1] at a;have c:=St.start col f;refine go ?_;obtain ⟨g,a⟩:=Z4 a;refine Sc (col:=(Zh col)) (w:=f) (r:=(Za.row 3 rI)) (n:=j.length) (x0:=([]:List Int)) 1 rfl underlying24 Tryz.t36 rfl rfl rfl rfl rfl rfl rfl g.1 g.2 Ztz fun _ _ _ V h=>go ?_;replace c:=c.grow V;refine Zt [11,12,1000000] (fun t C M=>∃ N g O P E w,t=w.length∧j.drop g=w∧Zbh w g E=some r∧St f (Zh col) N M∧Zb (Za.row 3 rI) 36 1 N M O P E∧[13,3].map C=[.int .i64 g,.slice O E.length P]) j.length ⟨_,0,_,_,_,_,rfl,rfl,a,c,h,rfl⟩ ?_;clear a;intro t C M U;obtain ⟨N,g,O,P,E,w,u,l,a,c,H,v⟩:=U;subst u;refine .lL [13,3] v ?_;replace n:=n.k0
 cases w with
 | nil=>
  have d:¬ ((g:Int)<(j.length:Int)):=by have:=aJ.1 l;omega
  have b:=decide_eq_false d;rw [Zbh.eq_1] at a;refine go ?_;refine Ym (congrArg Value.bool b)<|go ?_;cases a;exact ⟨rfl,_,_,_,rfl,c.fin (cm [(1,J)]),c.fo H⟩
 | cons A G=>
  obtain ⟨p,B,D⟩:=Yt l;have d:(g:Int)<(j.length:Int):=by omega
  have b:=decide_eq_true d;rw [Zbh.eq_2] at a;refine go ?_;refine Yn (congrArg Value.bool b)<|go ?_;refine lI p ((n.ks c).addr p) ?_;obtain ⟨_,Z,i⟩:=(n.ks c).atN p;obtain ⟨⟨o,w,rfl,h⟩,_⟩:=Z;refine lW i.one<|go ?_;refine Zt [11,12,13,18,19,4,1000000] (fun t C z=>∃ F y q s m x,t=x.length∧A.drop y=x∧Zeb g (Zbh G) x m=some r∧St f (Zh col) F z∧Sl rI F z o w A∧Zb (Za.row 3 rI) 36 1 F z q s m∧[20,3].map C=[.int .i64 y,.slice q m.length s]) A.length ⟨_,0,_,_,_,_,rfl,rfl,a,c,h,H,rfl⟩ ?_;clear a;intro t C z U;obtain ⟨F,y,q,s,m,x,u,l,a,c,h,T,v⟩:=U;subst u;refine .lL [20,3] v ?_
  cases x with
  | nil=>
   have d:¬ ((y:Int)<(A.length:Int)):=by have:=aJ.1 l;omega
   have b:=decide_eq_false d;rw [Zeb.eq_1] at a;refine go ?_;refine Ym (congrArg Value.bool b)<|go ?_;exact ⟨G.length,by simp,rfl,⟨_,_,_,_,_,_,rfl,B,a,c,T,(Yz (congrArg (Value.int .i64) (Yv (aI D (n.ks c).1.1))) rfl)⟩⟩
  | cons K v=>
   obtain ⟨p,x,C⟩:=Yt l;have d:(y:Int)<(A.length:Int):=by omega
   have b:=decide_eq_true d;rw [Zeb.eq_2] at a;refine go ?_;refine Yn (congrArg Value.bool b)<|go ?_;refine lI p (h.addr p)<|lW (h.atInt p) ?_;refine go ?_;obtain ⟨B,H,a⟩:=bZ a;refine lI H (T.addr H) ?_;obtain ⟨_,A,E,o,b⟩:=T.open_ 2 (by decide) H;obtain ⟨f,k,rfl,F⟩:=b.row;replace o:X4 (Za.row 3 rI) 36 1 A z q s m (aA K) [.slice f B.length k]:=o;refine lW o.atN.one<|Xk rfl<|V5 (col:=A) [(g:Int)] 3 ?_;intro _ d X I l;obtain ⟨y,a⟩:=Z4 a;refine Sy (col:=X) (w:=d) (r:=rI) (c:=2) (c2:=2) ((F.gr I).ex) (l.srcN (NB.int (k:=.i64))) rfl underlying36 Z75 rfl rfl rfl y.1 y.2 (by decide) ?_;intro z G _ n R J;replace o:=(o.gr I).kpp R;refine lI H (o.addr)<|Zx2 (v:=(.slice z ((B++[(g:Int)]).length) G)) o rfl sizeOf36 rfl (Rs rfl rfl) rfl rfl (by decide) ?_;intro Y Q p L;replace L:X4 (Za.row 3 rI) 36 1 n Y q s m (aA K) [.slice z ((B++[(g:Int)]).length) G]:=L;have W:=(J.kp Q).new;have u:=L.close W.has (by decide) (by decide);replace h:=(((h.kpp E).gr I).kpp R).kp Q;replace h:=h.recol 2 1;replace c:=(((c.kpp E).grow I).kpp R).kp Q p;replace c:=c.recol 2 1 (by decide) (by decide);refine .ld (d:=3) (v:=(.slice q ((m.set (aA K) (B++[(g:Int)])).length) s)) (congrArg (fun t=>Value.slice q t s) (show m.length=(m.set (aA K) (B++[(g:Int)])).length by simp only [nS])) ?_;refine go ?_;exact ⟨v.length,by simp,rfl,⟨_,_,_,_,_,_,rfl,x,a,c,h,u,(Yz (congrArg (Value.int .i64) (Yv (aI C h.1.1))) rfl)⟩⟩
def Zed (a:Int) (kk_L2:(Int→Int→Option R8)) (b:Int):Option R8:=
  kk_L2 (i64.wrap (a+1)) b
def Zi5 (a b:Int) (kk_L2:(Int→Int→Option R8)) (c:Int) (d:Bool):Option R8:=
  if d=true then (Zed a kk_L2 c) else (Zed a kk_L2 b)
def Qn (N:Nat) (d:List Int) (g:Int) (a:List Int) (c:Int) (kk_L1:(List Int→Int→Option R8)):Nat→Int→Int→Option R8
  | 0,_,_=>none
  | i+1,e,b=>if (decide (e<2))=true then ((Zk [i64.wrap ((i64.wrap (2 * c))+1),i64.wrap ((i64.wrap (2 * c))+2)] e).bind fun f=>if (decide (f<(i64.wrap ((d.length:Int) - 1))))=true then ((Zk a f).bind fun k=>(Zk a b).bind fun l=>Zi5 e b (Qn N d g a c kk_L1 i) f (decide (k<l))) else (Zi5 e b (Qn N d g a c kk_L1 i) f false)) else (if (decide (b=c))=true then (some (g,a.take (aA (i64.wrap ((d.length:Int) - 1))))) else ((Zk a b).bind fun m=>(Zk a c).bind fun n=>(some (a.set (aA c) m)).bind fun j=>(Zk j b).bind fun p=>(some (j.set (aA b) n)).bind fun o=>kk_L1 o b))
def Qm (N:Nat) (a:List Int) (b:Int):Nat→R2→Int→Option R8
  | 0,_,_=>none
  | d+1,e,c=>Qn N a b e c (Qm N a b d) N 0 c
def Zl2 (N:Nat) (a:List Int):Option R8:=
  (Zk a 0).bind fun c=>(Zk a (i64.wrap ((a.length:Int) - 1))).bind fun d=>(some (a.set (aA 0) d)).bind fun b=>Z2 ((0:Int)≤(i64.wrap ((a.length:Int) - 1))∧(i64.wrap ((a.length:Int) - 1))≤(b.length:Int)) (Qm N a c N b 0)
theorem Z4z {N k x:Nat} {y:Option Addr} {col:Ze} {p:World} {a:R2} {r:R8} (d s:Nat) (b:Zl2 N a=some r) (H:Up [d,s]=true) (C:Zb rI 3 s col p y x a) (f:Zd 206 d col p k #[.slice y a.length x]):
    Calls prog 218 #[.pointer (some ⟨k,0,none⟩)] p (fun e w'=>∃ (col':Ze) (A:Option Addr) (z:Nat),e= .returned ((.int .i64 r.1))∧Zu (pS [d,s]) col p col' w'∧Zb rI 3 s col' w' A z r.2∧Zd 206 d col' w' k #[.slice A r.2.length z]):=by
 refine Xc 2 (m:=76) func218 rfl rfl rfl rfl rfl ?_;rw [Zl2.eq_1] at b;have i:=St.startL (l:=[d,s]) rfl col p;replace f:=f.startL (Ur H 0 rfl) (Uq H 0 rfl);replace C:=C.startL (Ur H 1 rfl) (Uq H 1 rfl);refine go ?_;refine lV (.pointer (some ⟨k,0,none⟩)) (Za8 rfl)<|lW f.at1<|go ?_;obtain ⟨I,J,b⟩:=bZ b;refine lI J (C.addr J)<|lW (C.atInt J) ?_;refine go ?_;obtain ⟨c,M,b⟩:=bZ b;refine lI M (C.addr M)<|lW (C.atInt M)<|lI J (C.addr J) ?_;obtain ⟨B,X,b⟩:=bZ b;have X:B=a.set (aA 0) c:=(Option.some.inj X).symm;refine Wb (x1:=c) C J ?_;intro g n Q H;rw [← X] at H;refine .ld (d:=3) (v:=(.slice y B.length x)) (congrArg (fun h=>Value.slice y h x) (show a.length=B.length by rw [X,nS])) ?_;replace f:=f.kp n;replace f:Zd 206 440 (Xe [d,s] col) g k #[.slice y B.length x]:=by rw [← (show a.length=B.length by rw [X,nS])];exact f
 refine go ?_;obtain ⟨S,b⟩:=Z4 b;refine lv (v:=.slice y (aA (i64.wrap ((a.length:Int) - 1))) x) rfl rfl (Zca underlying206 sizeOf3 rfl rfl S.1 (by have:=H.lecap;have:=S.2;omega))<|.ld (d:=28) (v:=(.slice y ((B.take (aA (i64.wrap ((a.length:Int) - 1)))).length) x)) (congrArg (fun h=>Value.slice y h x) (dC (show (aA (i64.wrap ((a.length:Int) - 1)))≤B.length by have:=S.2;omega)).symm) ?_;refine lV (.pointer (some ⟨k,0,none⟩)) (Za8 rfl)<|Ql (v:=(.slice y ((B.take (aA (i64.wrap ((a.length:Int) - 1)))).length) x)) f sizeOf206 rfl rfl (Rs rfl rfl) rfl rfl ?_;intro o t E g;replace g:Zd 206 440 (Xe [d,s] col) o k #[(.slice y ((B.take (aA (i64.wrap ((a.length:Int) - 1)))).length) x)]:=g;refine go ?_;replace i:=(i.kp n Q).kp t E;refine Zt [4,5,1000000] (fun h v j=>∃ l n o m w E,E=h∧Qm N a I E m w=some r∧St p (Xe [d,s] col) l j∧Zb rI 3 441 l j n o m∧Zd 206 440 l j k #[(.slice n ((m.take (aA (i64.wrap ((a.length:Int) - 1)))).length) o)]∧[3,6].map v=[.slice n m.length o,.int .i64 w]) N ⟨_,_,_,_,0,_,rfl,b,i,H.kp t,g,rfl⟩ ?_;clear b;intro h v j W;obtain ⟨l,n,o,m,w,E,V,b,i,j,g,t⟩:=W;subst V;refine .lL [3,6] t ?_
 cases E with
 | zero=>rw [Qm.eq_1] at b;cases b
 | succ E=>
  rw [Qm.eq_2] at b;refine go ?_;refine lV (.agg #[(.int .i64 (i64.wrap ((i64.wrap (2 * w))+1))),(.int .i64 (i64.wrap ((i64.wrap (2 * w))+2)))]) (Xat underlying213 sizeOf3 zeroValue213 rfl)<|go ?_;refine Zt [3,37,4,5,6,1000000] (fun h v B=>∃ l Z f G,G=h∧Qn N a I m w (Qm N a I E) G Z f=some r∧St p (Xe [d,s] col) l B∧Zb rI 3 441 l B n o m∧Zd 206 440 l B k #[(.slice n ((m.take (aA (i64.wrap ((a.length:Int) - 1)))).length) o)]∧[38,7].map v=[.int .i64 Z,.int .i64 f]) N ⟨_,0,_,_,rfl,b,i,j,g,rfl⟩ ?_;clear b;intro h v B W;obtain ⟨l,Z,f,G,V,b,i,j,g,t⟩:=W;subst V;refine .lL [38,7] t ?_
  cases G with
  | zero=>rw [Qn.eq_1] at b;cases b
  | succ G=>
   rw [Qn.eq_2] at b;refine go ?_;refine Zm b (fun D b=>?_) fun D b=>go ?_
   ·refine Xz<|Zx ?_;refine Wp.cutK [3,37,38,4,5,6,1000000] (fun v q=>∃ z Q,Zed Z (Qn N a I m w (Qm N a I E) G) Q=some r∧St p (Xe [d,s] col) z q∧Zb rI 3 441 z q n o m∧Zd 206 440 z q k #[(.slice n ((m.take (aA (i64.wrap ((a.length:Int) - 1)))).length) o)]∧[7].map v=[.int .i64 Q]) ?_ ?_
    ·intro v q U;obtain ⟨z,Q,b,i,j,g,t⟩:=U;rw [Zed.eq_1] at b;refine .lL [7] t<|go ?_;exact ⟨G,by omega,rfl,⟨_,_,_,_,rfl,b,i,j,g,rfl⟩⟩
    refine go ?_;obtain ⟨F,J,b⟩:=bZ b;refine lV (.int .i64 F) (Xay (l:=[i64.wrap ((i64.wrap (2 * w))+1),i64.wrap ((i64.wrap (2 * w))+2)]) (k:=.i64) underlying213 sizeOf3 isAgg3 rfl rfl rfl J)<|Y6 rfl<|Zl<|Zx ?_;refine Wp.cutK [3,37,38,4,5,6,7,9,1000000] (fun v u=>∃ A R,Zi5 Z f (Qn N a I m w (Qm N a I E) G) F R=some r∧St p (Xe [d,s] col) A u∧Zb rI 3 441 A u n o m∧Zd 206 440 A u k #[(.slice n ((m.take (aA (i64.wrap ((a.length:Int) - 1)))).length) o)]∧[54].map v=[.bool R]) ?_ ?_
    ·intro v u U;obtain ⟨A,R,b,i,j,g,t⟩:=U;rw [Zi5.eq_1] at b;refine .lL [54] t ?_;refine Zm b (fun D b=>go ?_) fun D b=>?_
     ·exact ⟨rfl,_,_,b,i,j,g,rfl⟩
     refine Xz ?_;exact ⟨rfl,_,_,b,i,j,g,rfl⟩
    refine Wg (col:=l) (by kernel_rfl) (by kernel_rfl)<|go ?_;refine Ye b (fun T b=>go ?_) fun T b=>go ?_
    ·obtain ⟨K,O,b⟩:=bZ b;refine qI O (j.addr O) ?_;refine go ?_;refine qW (fun _ c=>(j.gr (c.bl l)).atInt O) ?_;refine go ?_;obtain ⟨I,P,b⟩:=bZ b;refine qI P (j.addr P) ?_;refine go ?_;refine qW (fun _ c=>(j.gr (c.bl l)).atInt P) ?_;refine go ?_;refine qv (v:=(.bool (decide (K<I)))) rfl (fun _ c=>X0 (congrArg Value.bool T) rfl) ?_;refine Y1 ?_;intro _ c;replace c:=c.bl l;replace j:=j.gr c;replace g:=g.gr c;replace i:=i.grow c;exact ⟨rfl,_,_,b,i,j,g,rfl⟩
    refine qv (v:=(.bool false)) rfl (fun _ c=>X7 (congrArg Value.bool T) rfl) ?_;refine Y1 ?_;intro _ c;replace c:=c.bl l;replace j:=j.gr c;replace g:=g.gr c;replace i:=i.grow c;exact ⟨rfl,_,_,b,i,j,g,rfl⟩
   refine Zm b (fun D b=>go ?_) fun D b=>go ?_
   ·cases b;exact ⟨rfl,Sw p.heap.size [d,s] col l (fun h=>bif aP h 441 then s else bif aP h 440 then d else 0),n,o,rfl,i.finL rfl (fun h=>bif aP h 441 then s else bif aP h 440 then d else 0),i.finOwnL (g:=(fun h=>bif aP h 441 then s else bif aP h 440 then d else 0)) rfl (j.take (aA (i64.wrap ((a.length:Int) - 1)))) (by decide) (by decide) rfl,i.finBoxL (g:=(fun h=>bif aP h 441 then s else bif aP h 440 then d else 0)) g (by decide) (by decide) rfl⟩
   refine Y8 (col:=l) [(0,1),(1,1),(2,1),(3,1),(4,1),(5,1),(6,1),(7,0),(8,1),(9,1),(10,1),(11,0),(12,1),(13,2),(14,1),(15,2)] (by kernel_rfl) (by kernel_rfl)<|xu rfl rfl (fun _=>Vd rfl) ?_;refine xu rfl rfl (fun _=>Yd rfl) ?_;refine xu rfl rfl (fun _=>Vd rfl) ?_;refine xu rfl rfl (fun _=>Yd rfl) ?_;refine xu rfl rfl (fun _=>Vd rfl) ?_;refine xu rfl rfl (fun _=>Yd rfl) ?_;obtain ⟨v,d,b⟩:=bZ b;refine xu rfl rfl (fun _=>X8 underlying206 sizeOf3 rfl rfl (Z0 d).1 (Z0 d).2.1 (j.addr d)) ?_;refine xW (fun _ c=>(j.gr (c.bl l)).atInt d) ?_;refine xu rfl rfl (fun _=>Vd rfl) ?_;refine xu rfl rfl (fun _=>Yd rfl) ?_;obtain ⟨D,F,b⟩:=bZ b;refine xu rfl rfl (fun _=>X8 underlying206 sizeOf3 rfl rfl (Z0 F).1 (Z0 F).2.1 (j.addr F)) ?_;refine xW (fun _ c=>(j.gr (c.bl l)).atInt F) ?_;refine xu rfl rfl (fun _=>X8 underlying206 sizeOf3 rfl rfl (Z0 F).1 (Z0 F).2.1 (j.addr F)) ?_;refine xe rfl rfl ?_;intro _ q;have c:=q.bl l;obtain ⟨u,L,b⟩:=bZ b;have L:u=m.set (aA w) v:=(Option.some.inj L).symm;refine Wb (x1:=v) (j.gr c) F ?_;intro M w P G;rw [← L] at G;refine .ld (d:=3) (v:=(.slice n u.length o)) (congrArg (fun h=>Value.slice n h o) (show m.length=u.length by rw [L,nS])) ?_;refine .ld (d:=63) (v:=(.slice n u.length o)) (congrArg (fun h=>Value.slice n h o) (show m.length=u.length by rw [L,nS])) ?_;replace g:=(g.gr c).kp w;replace g:Zd 206 440 l M k #[(.slice n ((u.take (aA (i64.wrap ((a.length:Int) - 1)))).length) o)]:=by rw [← (show (m.take (aA (i64.wrap ((a.length:Int) - 1)))).length=(u.take (aA (i64.wrap ((a.length:Int) - 1)))).length by rw [nK,nK,(show m.length=u.length by rw [L,nS])])];exact g
   refine Zl<|xk l ?_;obtain ⟨_,m,b⟩:=bZ b;refine xu rfl rfl (fun _=>X8 underlying206 sizeOf3 rfl rfl (Z0 m).1 (Z0 m).2.1 (G.addr m)) ?_;refine xe rfl rfl ?_;intro _ q;replace i:=(i.grow c).kp w P;have c:=q.bl l;obtain ⟨K,Y,b⟩:=bZ b;have Y:K=u.set (aA f) D:=(Option.some.inj Y).symm;refine Wb (x1:=D) (G.gr c) m ?_;intro L p O R;rw [← Y] at R;refine .ld (d:=3) (v:=(.slice n K.length o)) (congrArg (fun h=>Value.slice n h o) (show u.length=K.length by rw [Y,nS])) ?_;replace g:=(g.gr c).kp p;replace g:Zd 206 440 l L k #[(.slice n ((K.take (aA (i64.wrap ((a.length:Int) - 1)))).length) o)]:=by rw [← (show (u.take (aA (i64.wrap ((a.length:Int) - 1)))).length=(K.take (aA (i64.wrap ((a.length:Int) - 1)))).length by rw [nK,nK,(show u.length=K.length by rw [Y,nS])])];exact g
   refine Zl<|xk l<|Y4 ?_;replace i:=(i.grow c).kp p O;intro _ c;replace c:=c.bl l;refine go ?_;exact ⟨E,by omega,rfl,⟨_,_,_,_,_,_,rfl,b,i.grow c,R.gr c,g.gr c,rfl⟩⟩
theorem Z76:Wt prog 3 1 8:=⟨Tryz.t3,_,rfl,rfl,rfl,rfl,rfl⟩
def Zi7 (b:List Int) (a:Int) (kk_L1:(List Int→Int→Option R2)) (d:Bool):Option R2:=
  if d=true then ((Zk b (i64.wrap (aR (i64.wrap (a - 1)) 2))).bind fun e=>(Zk b a).bind fun f=>(some (b.set (aA a) e)).bind fun c=>(Zk c (i64.wrap (aR (i64.wrap (a - 1)) 2))).bind fun i=>(some (c.set (aA (i64.wrap (aR (i64.wrap (a - 1)) 2))) f)).bind fun g=>kk_L1 g (i64.wrap (aR (i64.wrap (a - 1)) 2))) else (some b)
def Zcm (N:Nat):Nat→R2→Int→Option R2
  | 0,_,_=>none
  | c+1,b,a=>if (decide (0<a))=true then ((Zk b a).bind fun d=>(Zk b (i64.wrap (aR (i64.wrap (a - 1)) 2))).bind fun e=>Zi7 b a (Zcm N c) (decide (d<e))) else (Zi7 b a (Zcm N c) false)
def Zi6 (N:Nat) (a:List Int) (b:Int):Option R2:=
  Z2 ((a.length+[b].length) * 8≤140737488355328∧a.length+[b].length≤maxLen) (Zcm N N (a++[b]) (i64.wrap (((a++[b]).length:Int) - 1)))
theorem Zu8 {N d V:Nat} {W:Option Addr} {col:Ze} {m:World} {E:R2} {C:Int} {r:R2} (c p:Nat) (b:Zi6 N E C=some r) (x:Up [c,p]=true) (Z:Zb rI 3 p col m W V E) (k:Zd 206 c col m d #[.slice W E.length V]):
    Calls prog 217 #[.pointer (some ⟨d,0,none⟩),.int .i64 C] m (fun e w'=>∃ (col':Ze) (v:Option Addr) (u:Nat),e= .returned (.tuple #[])∧Zu (pS [c,p]) col m col' w'∧Zb rI 3 p col' w' v u r∧Zd 206 c col' w' d #[.slice v r.length u]):=by
 refine Zf8 (m:=66) (args:=[.pointer (some ⟨d,0,none⟩),.int .i64 C]) func217 rfl rfl rfl rfl ?_;rw [Zi6.eq_1] at b;have h:=St.startL (l:=[c,p]) rfl col m;replace k:=k.startL (Ur x 0 rfl) (Uq x 0 rfl);replace Z:=Z.startL (Ur x 1 rfl) (Uq x 1 rfl);refine go ?_;refine lV (.pointer (some ⟨d,0,none⟩)) (Za8 rfl)<|lW k.at1<|Xk rfl<|V5 (col:=(Xe [c,p] col)) [C] 1 ?_;intro _ j f X l;obtain ⟨t,b⟩:=Z4 b;refine Sy (col:=f) (w:=j) (r:=rI) (c:=441) (c2:=441) ((Z.gr X).ex) (l.srcN (NB.int (k:=.i64))) rfl underlying206 Z76 rfl rfl rfl t.1 t.2 (by decide) fun y z _ o M B=>lV (.pointer (some ⟨d,0,none⟩)) (Za8 rfl) ?_;refine Ql (v:=(.slice y ((E++[C]).length) z)) ((k.gr X).kpp M) sizeOf206 rfl rfl (Rs rfl rfl) rfl rfl ?_;intro i H s f;replace f:Zd 206 440 o i d #[.slice y ((E++[C]).length) z]:=f;have w:=(B.kp H).new;refine go ?_;refine lV (.pointer (some ⟨d,0,none⟩)) (Za8 rfl)<|lW f.at1<|go ?_;replace h:=((h.grow X).kpp M).kp H s;refine Zt [0,1000000] (fun j D I=>∃ o s t q l z,z=j∧Zcm N z q l=some r∧St m (Xe [c,p] col) o I∧Zb rI 3 441 o I s t q∧Zd 206 440 o I d #[.slice s q.length t]∧[4].map D=[.int .i64 l]) N ⟨_,_,_,_,_,_,rfl,b,h,w,f,rfl⟩ ?_;clear b;intro j D I n;obtain ⟨o,s,t,q,l,z,g,b,h,i,f,A⟩:=n;subst g;refine .lL [4] A ?_
 cases z with
 | zero=>rw [Zcm.eq_1] at b;cases b
 | succ z=>
  rw [Zcm.eq_2] at b;refine Zx<|Zx ?_;refine Wp.cutK [0,4,1000000] (fun D G=>∃ g T,Zi7 q l (Zcm N z) T=some r∧St m (Xe [c,p] col) g G∧Zb rI 3 441 g G s t q∧Zd 206 440 g G d #[.slice s q.length t]∧[36].map D=[.bool T]) ?_ ?_
  ·intro D G k;obtain ⟨g,T,b,h,i,f,A⟩:=k;rw [Zi7.eq_1] at b;refine .lL [36] A ?_;refine Zm b (fun a b=>go ?_) fun a b=>go ?_
   ·refine Y8 (col:=g) [(0,1),(1,1),(2,0),(3,1),(4,1),(5,1),(6,0),(7,1),(8,1),(9,1),(10,1),(11,1),(12,0),(13,1),(14,1),(15,1),(16,1),(17,0),(18,1),(19,1),(20,0),(21,1),(22,1),(23,0),(24,1),(25,2),(26,1),(27,2)] (by kernel_rfl) (by kernel_rfl)<|xu rfl rfl (fun _=>Zqs rfl) ?_;refine xu (v:=(.pointer (some ⟨d,0,none⟩))) rfl rfl (fun _=>Za8 rfl) ?_;refine xW (fun _ a=>f.at1.gr (a.bl g)) ?_;refine xu rfl rfl (fun _=>Yd rfl) ?_;refine xu rfl rfl (fun _=>Zqs rfl) ?_;refine xu (v:=(.pointer (some ⟨d,0,none⟩))) rfl rfl (fun _=>Za8 rfl) ?_;refine xW (fun _ a=>f.at1.gr (a.bl g)) ?_;refine xu rfl rfl (fun _=>Yd rfl) ?_;refine xu rfl rfl (fun _=>Zqv _ _ rfl rfl) ?_;refine xu (v:=(.int .i64 (i64.wrap (aR (i64.wrap (l - 1)) 2)))) rfl rfl (fun _=>Vy (i64.wrap (l - 1)) 2 rfl rfl (by decide)) ?_;refine xu rfl rfl (fun _=>Zqs rfl) ?_;refine xu (v:=(.pointer (some ⟨d,0,none⟩))) rfl rfl (fun _=>Za8 rfl) ?_;refine xW (fun _ a=>f.at1.gr (a.bl g)) ?_;refine xu rfl rfl (fun _=>Yd rfl) ?_;refine xu rfl rfl (fun _=>Zqv _ _ rfl rfl) ?_;refine xu (v:=(.int .i64 (i64.wrap (aR (i64.wrap (l - 1)) 2)))) rfl rfl (fun _=>Vy (i64.wrap (l - 1)) 2 rfl rfl (by decide)) ?_;obtain ⟨P,F,b⟩:=bZ b;refine xu rfl rfl (fun _=>X8 underlying206 sizeOf3 rfl rfl (Z0 F).1 (Z0 F).2.1 (i.addr F)) ?_;refine xW (fun _ a=>(i.gr (a.bl g)).atInt F) ?_;refine xu rfl rfl (fun _=>Zqs rfl) ?_;refine xu (v:=(.pointer (some ⟨d,0,none⟩))) rfl rfl (fun _=>Za8 rfl) ?_;refine xW (fun _ a=>f.at1.gr (a.bl g)) ?_;refine xu rfl rfl (fun _=>Yd rfl) ?_;obtain ⟨Q,w,b⟩:=bZ b;refine xu rfl rfl (fun _=>X8 underlying206 sizeOf3 rfl rfl (Z0 w).1 (Z0 w).2.1 (i.addr w)) ?_;refine xW (fun _ a=>(i.gr (a.bl g)).atInt w) ?_;refine xu rfl rfl (fun _=>X8 underlying206 sizeOf3 rfl rfl (Z0 w).1 (Z0 w).2.1 (i.addr w)) ?_;refine xe rfl rfl ?_;intro _ n;have a:=n.bl g;obtain ⟨y,B,b⟩:=bZ b;have B:y=q.set (aA l) P:=(Option.some.inj B).symm;replace i:=i.gr a;refine Wb (x1:=P) i w ?_;intro u O x Y;rw [← B] at Y;refine .ld (d:=46) (v:=(.slice s y.length t)) (congrArg (fun j=>Value.slice s j t) (show q.length=y.length by rw [B,nS])) ?_;replace f:=(f.gr a).kp O;replace f:Zd 206 440 g u d #[.slice s y.length t]:=by rw [← (show q.length=y.length by rw [B,nS])];exact f
    refine Zl<|xk g ?_;obtain ⟨_,L,b⟩:=bZ b;refine xu rfl rfl (fun _=>X8 underlying206 sizeOf3 rfl rfl (Z0 L).1 (Z0 L).2.1 (Y.addr L)) ?_;refine xe rfl rfl ?_;intro _ n;replace h:=(h.grow a).kp O x;have a:=n.bl g;obtain ⟨U,K,b⟩:=bZ b;have K:U=y.set (aA (i64.wrap (aR (i64.wrap (l - 1)) 2))) Q:=(Option.some.inj K).symm;refine Wb (x1:=Q) (Y.gr a) L ?_;intro q J v A;rw [← K] at A;replace f:=(f.gr a).kp J;replace f:Zd 206 440 g q d #[.slice s U.length t]:=by rw [← (show y.length=U.length by rw [K,nS])];exact f
    refine Zl<|xk g<|Y4 ?_;replace h:=(h.grow a).kp J v;intro _ a;replace a:=a.bl g;refine go ?_;refine lV (.int .i64 (i64.wrap (aR (i64.wrap (l - 1)) 2))) (Vy (i64.wrap (l - 1)) 2 rfl rfl (by decide))<|go ?_;replace f:=f.gr a;replace h:=h.grow a;exact ⟨z,by omega,rfl,⟨_,_,_,_,_,_,rfl,b,h,A.gr a,f,rfl⟩⟩
   cases b;exact ⟨rfl,Sw m.heap.size [c,p] col g (fun j=>bif aP j 441 then p else bif aP j 440 then c else 0),s,t,rfl,h.finL rfl (fun j=>bif aP j 441 then p else bif aP j 440 then c else 0),h.finOwnL (g:=(fun j=>bif aP j 441 then p else bif aP j 440 then c else 0)) rfl i (by decide) (by decide) rfl,h.finBoxL (g:=(fun j=>bif aP j 441 then p else bif aP j 440 then c else 0)) f (by decide) (by decide) rfl⟩
  refine Wg (col:=o) (by kernel_rfl) (by kernel_rfl)<|go ?_;refine Ye b (fun c b=>go ?_) fun c b=>go ?_
  ·refine qv (v:=(.pointer (some ⟨d,0,none⟩))) rfl (fun _ a=>Za8 rfl) ?_;refine go ?_;refine qW (fun _ a=>f.at1.gr (a.bl o)) ?_;refine go ?_;obtain ⟨m,R,b⟩:=bZ b;refine qI R (i.addr R) ?_;refine go ?_;refine qW (fun _ a=>(i.gr (a.bl o)).atInt R) ?_;refine go ?_;refine qv (v:=(.pointer (some ⟨d,0,none⟩))) rfl (fun _ a=>Za8 rfl) ?_;refine go ?_;refine qW (fun _ a=>f.at1.gr (a.bl o)) ?_;refine go ?_;refine qv (v:=(.int .i64 (i64.wrap (aR (i64.wrap (l - 1)) 2)))) rfl (fun _ a=>Vy (i64.wrap (l - 1)) 2 rfl rfl (by decide)) ?_;refine go ?_;obtain ⟨d,S,b⟩:=bZ b;refine qI S (i.addr S) ?_;refine go ?_;refine qW (fun _ a=>(i.gr (a.bl o)).atInt S) ?_;refine go ?_;refine qv (v:=(.bool (decide (m<d)))) rfl (fun _ a=>X0 (congrArg Value.bool c) rfl) ?_;refine Y1 ?_;intro _ a;replace a:=a.bl o;replace i:=i.gr a;replace f:=f.gr a;replace h:=h.grow a;exact ⟨rfl,_,_,b,h,i,f,rfl⟩
  refine qv (v:=(.bool false)) rfl (fun _ a=>X7 (congrArg Value.bool c) rfl) ?_;refine Y1 ?_;intro _ a;replace a:=a.bl o;exact ⟨rfl,_,_,b,h.grow a,i.gr a,f.gr a,rfl⟩
def Zi9 (kk_L3:(List Int→R2→Option R2)) (a b:List Int):Option R2:=
  kk_L3 a b
def Zbm (N:Nat) (d:List Int) (kk_L2:(List Int→R2→R2→Option R2)) (e:R8):List Int→R2→R2→Option R2
  | [],a,b=>kk_L2 a b (d++[e.1])
  | c :: g,a,b=>(Zk a c).bind fun i=>(some (a.set (aA c) (i64.wrap (i - 1)))).bind fun f=>(Zk f c).bind fun j=>if (decide (j=0))=true then ((Zi6 N b c).bind fun k=>Zi9 (Zbm N d kk_L2 e g) f k) else (Zi9 (Zbm N d kk_L2 e g) f b)
def Tt (N:Nat) (c:R6):Nat→R2→R2→R2→Option R2
  | 0,_,_,_=>none
  | e+1,f,d,b=>if (decide (0<(d.length:Int)))=true then ((Zl2 N d).bind fun a=>Z2 ((b.length+[a.1].length) * 8≤140737488355328∧b.length+[a.1].length≤maxLen) ((Zk c a.1).bind fun g=>Zbm N b (Tt N c e) a g f a.2)) else (some b)
def Zja (a:Nat) (kk_L1:(Nat→R2→R2→Option R2)) (b c:List Int):Option R2:=
  kk_L1 (a+1) b c
def Zbl (N:Nat) (d:R6):List R2→Nat→R2→R2→Option R2
  | [],a,b,c=>Tt N d N b c ([]:List Int)
  | e :: f,a,b,c=>(Zk b (a:Int)).bind fun j=>(some (b.set (aA (a:Int)) (e.length:Int))).bind fun g=>if (decide ((e.length:Int)=0))=true then ((Zi6 N c (a:Int)).bind fun i=>Zja a (Zbl N d f) g i) else (Zja a (Zbl N d f) g c)
def Zi8 (N:Nat) (a:R6) (b:R6):Option R2:=
  Z2 (a.length * 8≤281474976710656∧a.length≤maxLen) (Zbl N b a 0 (aD a.length (0:Int)) ([]:List Int))
theorem Z40 {N x W:Nat} {b k:Option Addr} {col:Ze} {d:World} {j l:R6} {r:R2} (c1:Nat) (a:Zi8 N j l=some r) (u:Sl rP col d b x j) (K:Sl rP col d k W l):
    Calls prog 206 #[.slice b j.length x,.slice k l.length W] d (Vr .i64 3 c1 col d r):=by
 refine Xc 4 (m:=66) func206 rfl rfl rfl rfl rfl ?_;rw [Zi8.eq_1] at a;have b:=St.start col d;refine go ?_;obtain ⟨g,a⟩:=Z4 a;refine Sc (col:=(Zh col)) (w:=d) (r:=rI) (n:=j.length) (x0:=0) 1 rfl underlying36 Tryz.t3 rfl rfl rfl rfl rfl rfl rfl g.1 g.2 (Zcb .i64 0) fun _ _ Y s w=>go ?_;refine Zcj (col:=Y) (v:=(nI)) 2 rfl zeroValue206 ?_;intro Y c Z X g;replace g:Zd 206 2 Z c Y #[(nI)]:=g;refine go ?_;replace b:=(b.grow s).grow X;refine Zt [1,16,17,6,1000000] (fun k f L=>∃ M x bl cw Z s t F P,k=P.length∧j.drop x=P∧Zbl N l P x Z F=some r∧St d (Zh col) M L∧Zb rI 3 1 M L bl cw Z∧Zb rI 3 3 M L s t F∧Zd 206 2 M L Y #[.slice s F.length t]∧[18,5].map f=[.int .i64 x,.slice bl Z.length cw]) j.length ⟨_,0,_,_,_,none,0,_,_,rfl,rfl,a,b,w.gr X,Zb.nil,g,rfl⟩ ?_;clear a;intro k f L p;obtain ⟨M,x,bl,cw,Z,s,t,F,P,q,s,a,b,au,cx,g,e⟩:=p;subst q;refine .lL [18,5] e ?_;replace u:=u.k0;replace K:=K.k0
 cases P with
 | nil=>
  have i:¬ ((x:Int)<(j.length:Int)):=by have:=aJ.1 s;omega
  have c:=decide_eq_false i;rw [Zbl.eq_1] at a;refine go ?_;refine Ym (congrArg Value.bool c)<|go ?_;refine Zt [1,6,1000000] (fun k f U=>∃ V C D G E F H I J w v,v=k∧Tt N l v G H w=some r∧St d (Zh col) V U∧Zb rI 3 1 V U C D G∧Zb rI 3 3 V U E F H∧Zd 206 2 V U Y #[.slice E H.length F]∧Zb rI 3 4 V U I J w∧[5,9].map f=[.slice C G.length D,.slice I w.length J]) N ⟨_,_,_,_,_,_,_,none,0,_,_,rfl,a,b,au,cx,g,Zb.nil,rfl⟩ ?_;clear a;intro k f U p;obtain ⟨V,C,D,G,E,F,H,I,J,w,v,q,a,b,y,M,g,L,e⟩:=p;subst q;refine .lL [5,9] e ?_
  cases v with
  | zero=>rw [Tt.eq_1] at a;cases a
  | succ v=>
   rw [Tt.eq_2] at a;refine go ?_;refine lW g.at1<|go ?_;refine Zm a (fun t a=>go ?_) fun t a=>go ?_
   ·obtain ⟨U,m,a⟩:=bZ a;refine Zi (Z4z 2 3 m rfl M g) ?_;rintro _ cy ⟨b7,cz,c0,rfl,a4,a5,n⟩;refine ⟨_,rfl,go ?_⟩;refine V5 (col:=b7) [U.1] 5 ?_;intro _ _ _ S D;obtain ⟨E,a⟩:=Z4 a;replace L:=(L.kpp a4).gr S;refine Wy L (D.srcN (NB.int (k:=.i64))) E fun br bs _ _ J m=>go ?_;obtain ⟨W,h,a⟩:=bZ a;replace b:=((b.kpp a4).grow S).kpp J;refine lI h ((K.ks b).addr h) ?_;obtain ⟨_,A,B⟩:=(K.ks b).atN h;obtain ⟨⟨F,K,rfl,h⟩,_⟩:=A;refine lW B.one<|go ?_;replace n:=(n.gr S).kpp J;refine Zt [1,45,46,6,9,1000000] (fun k f P=>∃ Q T V o X G H I R,k=R.length∧W.drop T=R∧Zbm N w (Tt N l v) U R X I=some r∧St d (Zh col) Q P∧Sl rI Q P F K W∧Zb rI 3 1 Q P V o X∧Zb rI 3 3 Q P G H I∧Zd 206 2 Q P Y #[.slice G I.length H]∧Zb rI 3 4 Q P br bs (w++[U.1])∧[47,5].map f=[.int .i64 T,.slice V X.length o]) W.length ⟨_,0,_,_,_,_,_,_,_,rfl,rfl,a,b,h,((y.kpp a4).gr S).kpp J,(a5.gr S).kpp J,n,m,rfl⟩ ?_;clear a;intro k f P p;obtain ⟨Q,T,V,o,X,G,H,I,R,q,s,a,b,h,Q,C,n,m,e⟩:=p;subst q;refine .lL [47,5] e ?_
    cases R with
    | nil=>
     have i:¬ ((T:Int)<(W.length:Int)):=by have:=aJ.1 s;omega
     have c:=decide_eq_false i;rw [Zbm.eq_1] at a;refine go ?_;refine Ym (congrArg Value.bool c)<|go ?_;exact ⟨v,by omega,rfl,⟨_,_,_,_,_,_,_,_,_,_,_,rfl,a,b,Q,C,n,m,rfl⟩⟩
    | cons I q=>
     obtain ⟨S,R,p⟩:=Yt s;have i:(T:Int)<(W.length:Int):=by omega
     have c:=decide_eq_true i;rw [Zbm.eq_2] at a;refine go ?_;refine Yn (congrArg Value.bool c)<|Xz<|Zx ?_;refine Wp.cutK [1,45,46,47,6,9,1000000] (fun f M=>∃ O y z D A B E,Zi9 (Zbm N w (Tt N l v) U q) D E=some r∧St d (Zh col) O M∧Sl rI O M F K W∧Zb rI 3 1 O M y z D∧Zb rI 3 3 O M A B E∧Zd 206 2 O M Y #[.slice A E.length B]∧Zb rI 3 4 O M br bs (w++[U.1])∧[5].map f=[.slice y D.length z]) ?_ ?_
     ·intro f M w;obtain ⟨O,y,z,D,A,B,E,a,b,h,G,H,n,m,e⟩:=w;rw [Zi9.eq_1] at a;refine .lL [5] e<|go ?_;exact ⟨q.length,by simp,rfl,⟨_,_,_,_,_,_,_,_,_,rfl,R,a,b,h,G,H,n,m,(Yz (congrArg (Value.int .i64) (Yv (aI p h.1.1))) rfl)⟩⟩
     refine go ?_;refine lI S (h.addr S)<|lW (h.atInt S) ?_;refine go ?_;obtain ⟨v,T,a⟩:=bZ a;refine lI T (Q.addr T)<|lW (Q.atInt T) ?_;refine go ?_;refine lI T (Q.addr T) ?_;obtain ⟨q,B,a⟩:=bZ a;have B:q=X.set (aA I) (i64.wrap (v - 1)):=(Option.some.inj B).symm;refine Wb (x1:=i64.wrap (v - 1)) Q T ?_;intro _ O P R;rw [← B] at R;refine .ld (d:=5) (v:=(.slice V q.length o)) (congrArg (fun k=>Value.slice V k o) (show X.length=q.length by rw [B,nS])) ?_;refine go ?_;obtain ⟨_,o,a⟩:=bZ a;refine lI o (R.addr o)<|lW (R.atInt o) ?_;refine go ?_;replace h:=h.kp O;replace C:=C.kp O;replace m:=m.kp O;replace n:=n.kp O;replace b:=b.kp O P;refine Zm a (fun t a=>go ?_) fun t a=>?_
     ·obtain ⟨_,z,a⟩:=bZ a;refine Zi (Zu8 2 3 z rfl C n) fun _ _ ⟨_,_,_,v,y,I,J⟩=>⟨_,v,?_⟩;refine Zl ?_;replace h:=h.kpp y;replace R:=R.kpp y;replace m:=m.kpp y;replace b:=b.kpp y;exact ⟨rfl,_,_,_,_,_,_,_,a,b,h,R,I,J,m,rfl⟩
     refine Xz ?_;exact ⟨rfl,_,_,_,_,_,_,_,a,b,h,R,C,n,m,rfl⟩
   cases a;exact ⟨rfl,_,_,_,rfl,b.fin (cm [(4,c1)]),b.fo L⟩
 | cons y h=>
  obtain ⟨S,L,O⟩:=Yt s;have i:(x:Int)<(j.length:Int):=by omega
  have c:=decide_eq_true i;rw [Zbl.eq_2] at a;refine go ?_;refine Yn (congrArg Value.bool c)<|Xz<|Zx ?_;refine Wp.cutK [1,16,17,18,6,1000000] (fun f K=>∃ o i m z n p A,Zja x (Zbl N l h) z A=some r∧St d (Zh col) o K∧Zb rI 3 1 o K i m z∧Zb rI 3 3 o K n p A∧Zd 206 2 o K Y #[.slice n A.length p]∧[5].map f=[.slice i z.length m]) ?_ ?_
  ·intro f K w;obtain ⟨o,i,m,z,n,p,A,a,b,f,n,g,e⟩:=w;rw [Zja.eq_1] at a;refine .lL [5] e<|go ?_;exact ⟨h.length,by simp,rfl,⟨_,_,_,_,_,_,_,_,_,rfl,L,a,b,f,n,g,(Yz (congrArg (Value.int .i64) (Yv (aI O (u.ks b).1.1))) rfl)⟩⟩
  refine go ?_;refine lI S ((u.ks b).addr S) ?_;obtain ⟨_,d,e⟩:=(u.ks b).atN S;obtain ⟨⟨_,_,rfl,_⟩,_⟩:=d;refine lW e.one<|go ?_;obtain ⟨_,c,a⟩:=bZ a;refine lI c (au.addr c) ?_;obtain ⟨e,C,a⟩:=bZ a;have C:e=Z.set (aA (x:Int)) (y.length:Int):=(Option.some.inj C).symm;refine Wb (x1:=(y.length:Int)) au c ?_;intro _ d u p;rw [← C] at p;refine .ld (d:=5) (v:=(.slice bl e.length cw)) (congrArg (fun k=>Value.slice bl k cw) (show Z.length=e.length by rw [C,nS])) ?_;refine go ?_;replace cx:=cx.kp d;replace g:=g.kp d;replace b:=b.kp d u;refine Zm a (fun t a=>go ?_) fun t a=>?_
  ·obtain ⟨_,u,a⟩:=bZ a;refine Zi (Zu8 2 3 u rfl cx g) fun _ _ ⟨_,_,_,v,f,i,k⟩=>⟨_,v,?_⟩;refine Zl ?_;replace p:=p.kpp f;replace b:=b.kpp f;exact ⟨rfl,_,_,_,_,_,_,_,a,b,p,i,k,rfl⟩
  refine Xz ?_;exact ⟨rfl,_,_,_,_,_,_,_,a,b,p,cx,g,rfl⟩
def Zcl (N:Nat) (a:R6):Option Rf:=
  (Zi3 a).bind fun b=>if (!decide (b=0))=true then (some (([]:List Int),b)) else ((Zi2 a).bind fun d=>(Zi8 N a d).bind fun c=>if (decide ((c.length:Int)<(a.length:Int)))=true then (some (([]:List Int),42)) else (some (c,0)))
theorem Z4w {N d:Nat} {k:Option Addr} {col:Ze} {j:World} {b:R6} {r:Rf} (n:Nat) (a:Zcl N b=some r) (i:Sl rP col j k d b):
    Calls prog 171 #[.slice k b.length d] j (fun e w'=>∃ (col':Ze) (g:Option Addr) (f:Nat),e= .returned (.tuple #[.slice g r.1.length f,.int .i64 r.2])∧Zj col j col' w'∧Zb rI 3 n col' w' g f r.1):=by
 refine Zis 2 3 (m:=21) (args:=[.slice k b.length d]) func171 rfl rfl rfl rfl rfl ?_;rw [Zcl.eq_1] at a;have c:=St.start col j;refine go ?_;obtain ⟨_,t,a⟩:=bZ a;replace i:=i.k0;refine Zi (Z4y t (i.ks c)) fun _ _ ⟨h,o⟩=>⟨_,h,?_⟩;replace o:=Rr (Zh col) o;refine go ?_;replace c:=c.grow o;refine Zm a (fun l a=>go ?_) fun l a=>go ?_
 ·cases a;exact ⟨rfl,_,none,0,rfl,c.fin (cm []),Zb.nil⟩
 obtain ⟨_,s,a⟩:=bZ a;refine Zi (Z4x 1 s (i.ks c)) fun _ y ⟨p,_,_,h,v,w⟩=>⟨_,h,?_⟩;obtain ⟨_,u,a⟩:=bZ a;replace c:=c.grow v;refine Zi (Z40 2 u ((i.ks c).froz 1) (w.toSlF (Zg.row (Zg.int .i64)))) fun _ _ ⟨x,_,_,h,m,q⟩=>⟨_,h,?_⟩;replace q:=q.thaw (Z1 .i64) m ((Fz.refl (col:=p)).froz 1);replace m:=m.thawR (col:=p);generalize Xa y.heap.size p x=z at *;refine go ?_;replace c:=c.grow m;refine Zm a (fun l a=>go ?_) fun l a=>go ?_
 ·cases a;exact ⟨rfl,_,none,0,rfl,c.fin (cm []),Zb.nil⟩
 cases a;exact ⟨rfl,_,_,_,rfl,c.fin (cm [(2,n)]),c.fo q⟩
def Zck (N:Nat) (a:R6):Option Int:=
  (Zcl N a).bind fun b=>some b.2
theorem Z4v {N d:Nat} {e:Option Addr} {col:Ze} {a:World} {c:R6} {r:Int} (b:Zck N c=some r) (h:Sl rP col a e d c):
    Calls prog 132 #[.slice e c.length d] a (Wn a r):=by
 refine Xc 2 (m:=11) func132 rfl rfl rfl rfl rfl ?_;rw [Zck.eq_1] at b;have k:=St.start col a;refine go ?_;obtain ⟨f,l,b⟩:=bZ b;refine Zi (Z4w 1 l (h.k0.ks k)) fun _ _ ⟨_,i,j,g,m,_⟩=>⟨_,g,?_⟩;refine lM (.tuple #[.slice i f.1.length j,.int .i64 f.2])<|lV (.slice i f.1.length j) (Xt rfl rfl)<|lV (.int .i64 f.2) (Xt rfl rfl)<|go ?_;cases b;exact ⟨rfl,rfl,(k.grow m).below⟩
def Zko (a:Int) (kk_L2:(Int→Option Bool)) (b:Bool):Option Bool:=
  if b=true then (some false) else (kk_L2 (i64.wrap (a+1)))
def Zdc (N:Nat) (a:R6) (b:Int) (kk_L1:(Int→Option Bool)):Nat→Int→Option Bool
  | 0,_=>none
  | d+1,c=>(Zk a b).bind fun e=>if (decide (c<(e.length:Int)))=true then ((Zk e c).bind fun f=>if (decide (f<0))=true then (Zko c (Zdc N a b kk_L1 d) true) else (Zko c (Zdc N a b kk_L1 d) (decide ((a.length:Int)≤f)))) else (kk_L1 (i64.wrap (b+1)))
def Zb2 (N:Nat) (a:R6):Nat→Int→Option Bool
  | 0,_=>none
  | c+1,b=>if (decide (b<(a.length:Int)))=true then (Zdc N a b (Zb2 N a c) N 0) else (some true)
def Zkn (N:Nat) (a:R6):Option Bool:=
  Zb2 N a N 0
theorem Z6d {N q:Nat} {o:Option Addr} {col:Ze} {d:World} {b:R6} {r:Bool} (a:Zkn N b=some r) (e:Sl rP col d o q b):
    Calls prog 140 #[.slice o b.length q] d (Vk d r):=by
 refine Xc 2 (m:=36) func140 rfl rfl rfl rfl rfl ?_;rw [Zkn.eq_1] at a;have c:=St.start col d;refine go ?_;refine Zt [0,1000000] (fun m h z=>∃ A n i,i=m∧Zb2 N b i n=some r∧St d (Zh col) A z∧[3].map h=[.int .i64 n]) N ⟨_,0,_,rfl,a,c,rfl⟩ ?_;clear a;intro m h z v;obtain ⟨A,n,i,l,a,c,g⟩:=v;subst l;refine .lL [3] g ?_;replace e:=e.k0
 cases i with
 | zero=>rw [Zb2.eq_1] at a;cases a
 | succ i=>
  rw [Zb2.eq_2] at a;refine go ?_;refine Zm a (fun f a=>go ?_) fun f a=>go ?_
  ·refine Zt [0,3,1000000] (fun m h B=>∃ C p j,j=m∧Zdc N b n (Zb2 N b i) j p=some r∧St d (Zh col) C B∧[4].map h=[.int .i64 p]) N ⟨_,0,_,rfl,a,c,rfl⟩ ?_;clear a;intro m h B v;obtain ⟨C,p,j,l,a,c,g⟩:=v;subst l;refine .lL [4] g ?_
   cases j with
   | zero=>rw [Zdc.eq_1] at a;cases a
   | succ j=>
    rw [Zdc.eq_2] at a;refine go ?_;obtain ⟨_,k,a⟩:=bZ a;refine lI k ((e.ks c).addr k) ?_;obtain ⟨_,E,G⟩:=(e.ks c).atN k;obtain ⟨⟨_,_,rfl,_⟩,_⟩:=E;refine lW G.one<|go ?_;refine Zm a (fun f a=>go ?_) fun f a=>go ?_
    ·refine lI k ((e.ks c).addr k) ?_;obtain ⟨_,F,H⟩:=(e.ks c).atN k;obtain ⟨⟨_,_,rfl,w⟩,_⟩:=F;refine lW H.one<|Xk rfl ?_;obtain ⟨I,s,a⟩:=bZ a;refine lI s (w.addr s)<|lW (w.atInt s)<|Y6 rfl<|Zl<|Zx ?_;refine Wp.cutK [0,3,4,1000000] (fun h x=>∃ y t,Zko p (Zdc N b n (Zb2 N b i) j) t=some r∧St d (Zh col) y x∧[35].map h=[.bool t]) ?_ ?_
     ·intro h x D;obtain ⟨y,t,a,c,g⟩:=D;rw [Zko.eq_1] at a;refine .lL [35] g ?_;refine Zm a (fun f a=>go ?_) fun f a=>go ?_
      ·cases a;exact ⟨rfl,rfl,c.below⟩
      exact ⟨j,by omega,rfl,⟨_,_,_,rfl,a,c,rfl⟩⟩
     refine go ?_;refine Ye a (fun u a=>go ?_) fun u a=>go ?_
     ·refine lV (.bool true) (X0 (congrArg Value.bool u) rfl)<|Zl ?_;exact ⟨rfl,_,_,a,c,rfl⟩
     refine lV (.bool (decide ((b.length:Int)≤I))) (X7 (congrArg Value.bool u) rfl)<|Zl ?_;exact ⟨rfl,_,_,a,c,rfl⟩
    exact ⟨i,by omega,rfl,⟨_,_,_,rfl,a,c,rfl⟩⟩
  cases a;exact ⟨rfl,rfl,c.below⟩
def Zhk (N:Nat) (a:List Int) (c:Int):Nat→Int→Option Bool
  | 0,_=>none
  | d+1,b=>if (decide (b<(a.length:Int)))=true then ((Zk a b).bind fun e=>if (decide (e=c))=true then (some true) else ((Zhk N a c d) (i64.wrap (b+1)))) else (some false)
def Zhj (N:Nat) (a:List Int) (b:Int):Option Bool:=
  Zhk N a b N 0
theorem Zr9 {N j:Nat} {i:Option Addr} {col:Ze} {b:World} {c:R2} {d:Int} {r:Bool} (a:Zhj N c d=some r) (e:Sl rI col b i j c):
    Calls prog 176 #[.slice i c.length j,.int .i64 d] b (Vk b r):=by
 refine Xc 4 (m:=18) func176 rfl rfl rfl rfl rfl ?_;rw [Zhj.eq_1] at a;have f:=St.start col b;refine go ?_;refine Zt [0,1,1000000] (fun o p q=>∃ s l g,g=o∧Zhk N c d g l=some r∧St b (Zh col) s q∧[5].map p=[.int .i64 l]) N ⟨_,0,_,rfl,a,f,rfl⟩ ?_;clear a;intro o p q t;obtain ⟨s,l,g,m,a,f,n⟩:=t;subst m;refine .lL [5] n ?_;replace e:=e.k0
 cases g with
 | zero=>rw [Zhk.eq_1] at a;cases a
 | succ g=>
  rw [Zhk.eq_2] at a;refine go ?_;refine Zm a (fun h a=>go ?_) fun h a=>go ?_
  ·obtain ⟨_,k,a⟩:=bZ a;refine lI k ((e.ks f).addr k)<|lW ((e.ks f).atInt k) ?_;refine go ?_;refine Zm a (fun h a=>go ?_) fun h a=>go ?_
   ·cases a;exact ⟨rfl,rfl,f.below⟩
   exact ⟨g,by omega,rfl,⟨_,_,_,rfl,a,f,rfl⟩⟩
  cases a;exact ⟨rfl,rfl,f.below⟩
def Zhm (N:Nat) (d:R6) (c:Int) (kk_L1:(Int→Option Bool)):Nat→Int→Option Bool
  | 0,_=>none
  | e+1,a=>(Zk d c).bind fun b=>if (decide (a<(b.length:Int)))=true then (Z2 ((0:Int)≤a∧a≤(b.length:Int)) ((Zk b a).bind fun f=>(Zhj N (b.take (aA a)) f).bind fun g=>if g=true then (some true) else ((Zhm N d c kk_L1 e) (i64.wrap (a+1))))) else (kk_L1 (i64.wrap (c+1)))
def Zde (N:Nat) (a:R6):Nat→Int→Option Bool
  | 0,_=>none
  | c+1,b=>if (decide (b<(a.length:Int)))=true then (Zhm N a b (Zde N a c) N 0) else (some false)
def Zkr (N:Nat) (a:R6):Option Bool:=
  Zde N a N 0
theorem Z6f {N u:Nat} {q:Option Addr} {col:Ze} {e:World} {j:R6} {r:Bool} (a:Zkr N j=some r) (d:Sl rP col e q u j):
    Calls prog 141 #[.slice q j.length u] e (Vk e r):=by
 refine Xc 2 (m:=34) func141 rfl rfl rfl rfl rfl ?_;rw [Zkr.eq_1] at a;have c:=St.start col e;refine go ?_;refine Zt [0,1000000] (fun i p A=>∃ C s l,l=i∧Zde N j l s=some r∧St e (Zh col) C A∧[3].map p=[.int .i64 s]) N ⟨_,0,_,rfl,a,c,rfl⟩ ?_;clear a;intro i p A y;obtain ⟨C,s,l,n,a,c,o⟩:=y;subst n;refine .lL [3] o ?_;replace d:=d.k0
 cases l with
 | zero=>rw [Zde.eq_1] at a;cases a
 | succ l=>
  rw [Zde.eq_2] at a;refine go ?_;refine Zm a (fun g a=>go ?_) fun g a=>go ?_
  ·refine Zt [0,3,1000000] (fun i p D=>∃ h k m,m=i∧Zhm N j s (Zde N j l) m k=some r∧St e (Zh col) h D∧[4].map p=[.int .i64 k]) N ⟨_,0,_,rfl,a,c,rfl⟩ ?_;clear a;intro i p D y;obtain ⟨h,k,m,n,a,c,o⟩:=y;subst n;refine .lL [4] o ?_
   cases m with
   | zero=>rw [Zhm.eq_1] at a;cases a
   | succ m=>
    rw [Zhm.eq_2] at a;refine go ?_;obtain ⟨E,f,a⟩:=bZ a;refine lI f ((d.ks c).addr f) ?_;obtain ⟨_,H,K⟩:=(d.ks c).atN f;obtain ⟨⟨_,_,rfl,_⟩,_⟩:=H;refine lW K.one<|go ?_;refine Zm a (fun g a=>go ?_) fun g a=>go ?_
    ·refine Wg (col:=h) (by kernel_rfl) (by kernel_rfl)<|go ?_;refine qI f ((d.ks c).addr f) ?_;obtain ⟨_,I,L⟩:=(d.ks c).atN f;obtain ⟨⟨w,x,rfl,F⟩,_⟩:=I;refine qW (fun _ b=>L.one.gr (b.bl h)) ?_;refine go ?_;obtain ⟨v,a⟩:=Z4 a;refine qv (v:=.slice w (aA k) x) rfl (fun _ b=>Zca underlying36 sizeOf3 rfl rfl v.1 (by have:=F.1.2;have:=v.2;omega)) ?_;refine .ld (d:=25) (v:=(.slice w ((E.take (aA k)).length) x)) (congrArg (fun i=>Value.slice w i x) (dC (show (aA k)≤E.length by have:=v.2;omega)).symm) ?_;refine go ?_;refine qI f ((d.ks c).addr f) ?_;obtain ⟨_,J,M⟩:=(d.ks c).atN f;obtain ⟨⟨_,_,rfl,B⟩,_⟩:=J;refine qW (fun _ b=>M.one.gr (b.bl h)) ?_;refine go ?_;obtain ⟨_,t,a⟩:=bZ a;refine qI t (B.addr t)<|qW (fun _ b=>(B.gr (b.bl h)).atInt t) ?_;obtain ⟨G,O,a⟩:=bZ a;refine qc (v:=(.bool G)) rfl (fun _ b=>⟨_,_,Tj call176 rfl rfl,(Zr9 O ((F.take (aA k)).gr (b.bl h)):).mono fun _ _ z=>⟨z.1,b.trans (.of_below z.2)⟩⟩) ?_;refine Y1 ?_;intro _ b;replace c:=c.grow (b.bl h);refine Zm a (fun g a=>go ?_) fun g a=>go ?_
     ·cases a;exact ⟨rfl,rfl,c.below⟩
     exact ⟨m,by omega,rfl,⟨_,_,_,rfl,a,c,rfl⟩⟩
    exact ⟨l,by omega,rfl,⟨_,_,_,rfl,a,c,rfl⟩⟩
  cases a;exact ⟨rfl,rfl,c.below⟩
def Zkp (a:Int) (kk_L2:(Int→Int→Option R2)) (b:Int):Option R2:=
  kk_L2 b (i64.wrap (a+1))
def Zkq (a:Int) (kk_L3:(Bool→Int→Option R2)) (b:Bool):Option R2:=
  kk_L3 b (i64.wrap (a+1))
def Zdd (N:Nat) (c:R6) (d:List Int) (e a:Int) (kk_L2:(Int→Int→Option R2)):Nat→Bool→Int→Option R2
  | 0,_,_=>none
  | f+1,g,b=>(Zk c a).bind fun i=>if (decide (b<(i.length:Int)))=true then (if g=true then ((Zk i b).bind fun j=>(Zhj N d j).bind fun k=>Zkq b (Zdd N c d e a kk_L2 f) k) else (Zkq b (Zdd N c d e a kk_L2 f) false)) else (if g=true then (Zkp a kk_L2 a) else (Zkp a kk_L2 e))
def Zfa (N:Nat) (d:R6) (a:List Int) (kk_L1:(List Int→Option R2)) (b c:Int) (kk_L2:(Int→Int→Option R2)) (e:Bool):Option R2:=
  if e=true then ((Zhj N a c).bind fun f=>Zdd N d a b c kk_L2 N (!f) 0) else (if (decide (b<0))=true then (some a) else (Z2 ((a.length+[b].length) * 8≤140737488355328∧a.length+[b].length≤maxLen) (kk_L1 (a++[b]))))
def Si (N:Nat) (a:R6) (b:List Int) (kk_L1:(List Int→Option R2)):Nat→Int→Int→Option R2
  | 0,_,_=>none
  | e+1,c,d=>if (decide (d<(a.length:Int)))=true then (Zfa N a b kk_L1 c d (Si N a b kk_L1 e) (decide (c<0))) else (Zfa N a b kk_L1 c d (Si N a b kk_L1 e) false)
def Tf (N:Nat) (a:R6):Nat→R2→Option R2
  | 0,_=>none
  | b+1,c=>Si N a c (Tf N a b) N (-1) 0
def Zaw (N:Nat) (a:R6):Option R2:=
  Tf N a N ([]:List Int)
theorem Z6e {N T:Nat} {B:Option Addr} {col:Ze} {f:World} {c:R6} {r:R2} (E:Nat) (a:Zaw N c=some r) (k:Sl rP col f B T c):
    Calls prog 142 #[.slice B c.length T] f (Vr .i64 3 E col f r):=by
 refine Xc 2 (m:=52) func142 rfl rfl rfl rfl rfl ?_;rw [Zaw.eq_1] at a;have b:=St.start col f;refine go ?_;refine Zt [0,1000000] (fun n h P=>∃ Q o p g j,j=n∧Tf N c j g=some r∧St f (Zh col) Q P∧Zb rI 3 1 Q P o p g∧[3].map h=[.slice o g.length p]) N ⟨_,none,0,_,_,rfl,a,b,Zb.nil,rfl⟩ ?_;clear a;intro n h P x;obtain ⟨Q,o,p,g,j,m,a,b,d,e⟩:=x;subst m;refine .lL [3] e ?_;replace k:=k.k0
 cases j with
 | zero=>rw [Tf.eq_1] at a;cases a
 | succ j=>
  rw [Tf.eq_2] at a;refine go ?_;refine Zt [0,3,1000000] (fun n h R=>∃ S q t l,l=n∧Si N c g (Tf N c j) l q t=some r∧St f (Zh col) S R∧Zb rI 3 1 S R o p g∧[4,5].map h=[.int .i64 q,.int .i64 t]) N ⟨_,_,0,_,rfl,a,b,d,rfl⟩ ?_;clear a;intro n h R x;obtain ⟨S,q,t,l,m,a,b,d,e⟩:=x;subst m;refine .lL [4,5] e ?_
  cases l with
  | zero=>rw [Si.eq_1] at a;cases a
  | succ l=>
   rw [Si.eq_2] at a;refine Zx<|Zx ?_;refine Wp.cutK [0,3,4,5,1000000] (fun h J=>∃ y L,Zfa N c g (Tf N c j) q t (Si N c g (Tf N c j) l) L=some r∧St f (Zh col) y J∧Zb rI 3 1 y J o p g∧[15].map h=[.bool L]) ?_ ?_
   ·intro h J w;obtain ⟨y,L,a,b,d,e⟩:=w;rw [Zfa.eq_1] at a;refine .lL [15] e ?_;refine Zm a (fun i a=>?_) fun i a=>go ?_
    ·refine Xz<|Zx ?_;refine Wp.cutK [0,3,5,1000000] (fun h G=>∃ H I,Zkp t (Si N c g (Tf N c j) l) I=some r∧St f (Zh col) H G∧Zb rI 3 1 H G o p g∧[4].map h=[.int .i64 I]) ?_ ?_
     ·intro h G w;obtain ⟨H,I,a,b,d,e⟩:=w;rw [Zkp.eq_1] at a;refine .lL [4] e<|go ?_;exact ⟨l,by omega,rfl,⟨_,_,_,_,rfl,a,b,d,rfl⟩⟩
     refine go ?_;obtain ⟨_,s,a⟩:=bZ a;refine Zi (Zr9 s (d.toSlF (Zg.int .i64))) fun _ _ ⟨v,z⟩=>⟨_,v,?_⟩;replace z:=Rr y z;refine go ?_;replace d:=d.gr z;replace b:=b.grow z;refine Zt [0,3,4,5,1000000] (fun n h V=>∃ D W C s,s=n∧Zdd N c g q t (Si N c g (Tf N c j) l) s W C=some r∧St f (Zh col) D V∧Zb rI 3 1 D V o p g∧[6,7].map h=[.bool W,.int .i64 C]) N ⟨_,_,0,_,rfl,a,b,d,rfl⟩ ?_;clear a;intro n h V x;obtain ⟨D,W,C,s,m,a,b,d,e⟩:=x;subst m;refine .lL [6,7] e ?_
     cases s with
     | zero=>rw [Zdd.eq_1] at a;cases a
     | succ s=>
      rw [Zdd.eq_2] at a;refine go ?_;obtain ⟨_,u,a⟩:=bZ a;refine lI u ((k.ks b).addr u) ?_;obtain ⟨_,n,x⟩:=(k.ks b).atN u;obtain ⟨⟨_,_,rfl,_⟩,_⟩:=n;refine lW x.one<|go ?_;refine Zm a (fun i a=>?_) fun i a=>go ?_
      ·refine Xz<|Zx ?_;refine Wp.cutK [0,3,4,5,7,1000000] (fun h K=>∃ M O,Zkq C (Zdd N c g q t (Si N c g (Tf N c j) l) s) O=some r∧St f (Zh col) M K∧Zb rI 3 1 M K o p g∧[6].map h=[.bool O]) ?_ ?_
       ·intro h K w;obtain ⟨M,O,a,b,d,e⟩:=w;rw [Zkq.eq_1] at a;refine .lL [6] e<|go ?_;exact ⟨s,by omega,rfl,⟨_,_,_,_,rfl,a,b,d,rfl⟩⟩
       refine go ?_;refine Ye a (fun X a=>go ?_) fun X a=>go ?_
       ·refine lI u ((k.ks b).addr u) ?_;refine go ?_;obtain ⟨_,e,g⟩:=(k.ks b).atN u;obtain ⟨⟨_,_,rfl,l⟩,_⟩:=e;refine lW g.one<|go ?_;obtain ⟨_,F,a⟩:=bZ a;refine lI F (l.addr F) ?_;refine go ?_;refine lW (l.atInt F)<|go ?_;obtain ⟨k,Y,a⟩:=bZ a;refine Zi (Zr9 Y (d.toSlF (Zg.int .i64))) fun _ _ ⟨v,A⟩=>⟨_,v,?_⟩;replace A:=Rr D A;refine lV (.bool k) (X0 (congrArg Value.bool X) rfl)<|go ?_;replace d:=d.gr A;replace b:=b.grow A;exact ⟨rfl,_,_,a,b,d,rfl⟩
       refine lV (.bool false) (X7 (congrArg Value.bool X) rfl)<|go ?_;exact ⟨rfl,_,_,a,b,d,rfl⟩
      refine Zm a (fun i a=>go ?_) fun i a=>?_
      ·exact ⟨rfl,_,_,a,b,d,rfl⟩
      refine Xz ?_;exact ⟨rfl,_,_,a,b,d,rfl⟩
    refine Zm a (fun i a=>go ?_) fun i a=>go ?_
    ·cases a;exact ⟨rfl,_,_,_,rfl,b.fin (cm [(1,E)]),b.fo d⟩
    refine V5 (col:=y) [q] 2 ?_;intro _ _ _ m f;obtain ⟨h,a⟩:=Z4 a;replace d:=d.gr m;refine Wy d (f.srcN (NB.int (k:=.i64))) h fun _ _ _ _ Z i=>go ?_;replace b:=(b.grow m).kpp Z;exact ⟨j,by omega,rfl,⟨_,_,_,_,_,rfl,a,b,i,rfl⟩⟩
   refine go ?_;refine Ye a (fun U a=>go ?_) fun U a=>go ?_
   ·refine lV (.bool (decide (q<0))) (X0 (congrArg Value.bool U) rfl)<|Zl ?_;exact ⟨rfl,_,_,a,b,d,rfl⟩
   refine lV (.bool false) (X7 (congrArg Value.bool U) rfl)<|Zl ?_;exact ⟨rfl,_,_,a,b,d,rfl⟩
def Zav (N:Nat) (a:R6):Option Int:=
  (Zkn N a).bind fun b=>if (!b)=true then (some 3) else ((Zkr N a).bind fun c=>if c=true then (some 40) else ((Zaw N a).bind fun d=>if (decide ((d.length:Int)<(a.length:Int)))=true then (some 42) else (some 0)))
theorem Z6c {N f:Nat} {i:Option Addr} {col:Ze} {g:World} {b:R6} {r:Int} (a:Zav N b=some r) (e:Sl rP col g i f b):
    Calls prog 97 #[.slice i b.length f] g (Wn g r):=by
 refine Xc 2 (m:=18) func97 rfl rfl rfl rfl rfl ?_;rw [Zav.eq_1] at a;have c:=St.start col g;refine go ?_;obtain ⟨_,o,a⟩:=bZ a;replace e:=e.k0;refine Zi (Z6d o (e.ks c)) fun _ _ ⟨h,j⟩=>⟨_,h,?_⟩;replace j:=Rr (Zh col) j;refine go ?_;replace c:=c.grow j;refine Zm a (fun d a=>go ?_) fun d a=>go ?_
 ·cases a;exact ⟨rfl,rfl,c.below⟩
 obtain ⟨_,l,a⟩:=bZ a;refine Zi (Z6f l (e.ks c)) fun _ _ ⟨h,k⟩=>⟨_,h,?_⟩;replace k:=Rr (Zh col) k;refine go ?_;replace c:=c.grow k;refine Zm a (fun d a=>go ?_) fun d a=>go ?_
 ·cases a;exact ⟨rfl,rfl,c.below⟩
 obtain ⟨_,m,a⟩:=bZ a;refine Zi (Z6e 1 m (e.ks c)) ?_;rintro _ s ⟨t,u,v,rfl,n,w⟩;refine ⟨_,rfl,go ?_⟩;replace c:=c.grow n;refine Zm a (fun d a=>go ?_) fun d a=>go ?_
 ·cases a;exact ⟨rfl,rfl,c.below⟩
 cases a;exact ⟨rfl,rfl,c.below⟩
def Zhl (N:Nat) (b c:List Int):Nat→Int→Option Bool
  | 0,_=>none
  | d+1,a=>if (decide (a<(b.length:Int)))=true then ((Zk b a).bind fun e=>(Zk c a).bind fun f=>if (!decide (e=f))=true then (some false) else ((Zhl N b c d) (i64.wrap (a+1)))) else (some true)
def Zkm (N:Nat) (a b:List Int):Option Bool:=
  if (!decide ((a.length:Int)=(b.length:Int)))=true then (some false) else (Zhl N a b N 0)
theorem Zvv {N l o:Nat} {m n:Option Addr} {col:Ze} {c:World} {d g:R2} {r:Bool} (a:Zkm N d g=some r) (h:Sl rI col c m l d) (i:Sl rI col c n o g):
    Calls prog 76 #[.slice m d.length l,.slice n g.length o] c (Vk c r):=by
 refine Xc 4 (m:=26) func76 rfl rfl rfl rfl rfl ?_;rw [Zkm.eq_1] at a;have b:=St.start col c;refine go ?_;replace h:=h.k0;replace i:=i.k0;refine Zm a (fun f a=>go ?_) fun f a=>go ?_
 ·cases a;exact ⟨rfl,rfl,b.below⟩
 refine Zt [0,1,1000000] (fun v w x=>∃ j s k,k=v∧Zhl N d g k s=some r∧St c (Zh col) j x∧[5].map w=[.int .i64 s]) N ⟨_,0,_,rfl,a,b,rfl⟩ ?_;clear a;intro v w x y;obtain ⟨j,s,k,t,a,b,u⟩:=y;subst t;refine .lL [5] u ?_
 cases k with
 | zero=>rw [Zhl.eq_1] at a;cases a
 | succ k=>
  rw [Zhl.eq_2] at a;refine go ?_;refine Zm a (fun f a=>go ?_) fun f a=>go ?_
  ·refine Wg (col:=j) (by kernel_rfl) (by kernel_rfl)<|go ?_;obtain ⟨_,p,a⟩:=bZ a;refine qI p ((h.ks b).addr p)<|qW (fun _ e=>((h.ks b).gr (e.bl j)).atInt p) ?_;refine go ?_;obtain ⟨_,q,a⟩:=bZ a;refine qI q ((i.ks b).addr q)<|qW (fun _ e=>((i.ks b).gr (e.bl j)).atInt q) ?_;refine go ?_;refine Y1 ?_;intro _ e;replace b:=b.grow (e.bl j);refine Zm a (fun f a=>go ?_) fun f a=>go ?_
   ·cases a;exact ⟨rfl,rfl,b.below⟩
   exact ⟨k,by omega,rfl,⟨_,_,_,rfl,a,b,rfl⟩⟩
  cases a;exact ⟨rfl,rfl,b.below⟩
theorem Zuw (N:Nat) (l:List Int) (x:Int) (hl:l.length≤1048576):∀ (n k:Nat),l.length<n+k→k≤l.length→Zhk N l x n (k:Int)=some (decide (x ∈ l.drop k))
 | 0,k,h,a=>by omega
 | n+1,k,h,a=>by
  rw [Zhk.eq_2]
  by_cases hlt:k<l.length
  ·rw [if_pos (by simpa using hlt),Zs hlt,oB,wS (by omega),Zuw N l x hl n (k+1) (by omega) (by omega),aF hlt]
   by_cases he:l[k]=x
   ·rw [if_pos (by simpa using he),decide_eq_true (by rw [he];exact aO)]
   ·rw [if_neg (by simpa using he)]
    exact congrArg some (decide_eq_decide.2 ⟨fun h=>aN _ h,fun h=>(bL.1 h).resolve_left (Ne.symm he)⟩)
  ·rw [if_neg (by simpa using hlt),aG (by omega)];simp
theorem Zrn {N:Nat} {l:List Int} {x:Int} (hl:l.length≤1048576) (hN:1048576<N):Zhj N l x=some (decide (x ∈ l)):=by
 rw [Zhj];simpa using Zuw N l x hl N 0 (by omega) (by omega)
def U5 (m:Int) (P:List R2):Bool:=P.all fun l=>l.all fun p=>decide (0≤p∧p<m)
theorem Zxw (N:Nat) (P:List R2) (i:Nat) (hi:i<P.length) (hP:P.length≤1048576) (hl:P[i].length≤1048576) (kk:Int→Option Bool):∀ (n k:Nat),P[i].length<n+k→k≤P[i].length→
  Zdc N P (i:Int) kk n (k:Int)=if (P[i].drop k).all (fun p=>decide (0≤p∧p<(P.length:Int))) then kk ((i+1:Nat):Int) else some false
 | 0,k,h,a=>by omega
 | n+1,k,h,a=>by
  rw [Zdc.eq_2,Zs hi,oB]
  by_cases hlt:k<P[i].length
  ·rw [if_pos (by simpa using hlt),Zs hlt,oB,Zko,Zko,wS (by omega),Zxw N P i hi hP hl kk n (k+1) (by omega) (by omega),aF hlt]
   by_cases h1:P[i][k]<0
   ·rw [if_pos (by simpa using h1),if_pos rfl,if_neg (fun h=>by rw [cN,Bool.and_eq_true,decide_eq_true_eq] at h;omega)]
   ·rw [if_neg (by simpa using h1)]
    by_cases h2:(P.length:Int)≤P[i][k]
    ·rw [if_pos (by simpa using h2),if_neg (fun h=>by rw [cN,Bool.and_eq_true,decide_eq_true_eq] at h;omega)]
    ·rw [if_neg (by simpa using h2)]
     simp only [cN,Bool.and_eq_true]
     have b:decide (0≤P[i][k]∧P[i][k]<(P.length:Int))=true:=by simp;omega
     simp only [b,true_and]
  ·rw [if_neg (by simpa using hlt),aG (by omega),wS (by omega)];simp
theorem Zxv (N:Nat) (P:List R2) (hP:P.length≤1048576) (hl:∀ l ∈ P,l.length≤1048576) (hN:1048576<N):∀ (n i:Nat),P.length<n+i→i≤P.length→
  Zb2 N P n (i:Int)=some (U5 P.length (P.drop i))
 | 0,i,h,a=>by omega
 | n+1,i,h,a=>by
  rw [Zb2.eq_2]
  by_cases hlt:i<P.length
  ·have b:=Zxw N P i hlt hP (hl _ (aB hlt)) (Zb2 N P n) N 0 (by have:=hl _ (aB hlt);omega) (by omega)
   rw [if_pos (by simpa using hlt)]
   rw [show (0:Int)=((0:Nat):Int) from rfl,b,Zxv N P hP hl hN n (i+1) (by omega) (by omega),aF hlt]
   simp only [U5,cN,aM]
   by_cases h1:(P[i].all fun p=>decide (0≤p∧p<(P.length:Int)))=true
   ·rw [if_pos h1,h1,Bool.true_and]
   ·rw [if_neg h1,Bool.eq_false_iff.2 h1,Bool.false_and]
  ·rw [if_neg (by simpa using hlt),aG (by omega)];rfl
theorem Z82 {N:Nat} {P:List R2} (hP:P.length≤1048576) (hl:∀ l ∈ P,l.length≤1048576) (hN:1048576<N):Zkn N P=some (U5 P.length P):=by
 rw [Zkn];simpa using Zxv N P hP hl hN N 0 (by omega) (by omega)
def T6 (P:List R2):Bool:=P.any fun l=>!decide l.Nodup
theorem Zzb (l:List Int) (k:Nat) (hk:k<l.length):(l.take (k+1)).Nodup↔(l.take k).Nodup∧l[k] ∉ l.take k:=by
 rw [cB hk,dE]
 simp only [cU,List.not_mem_nil,not_false_eq_true,List.nodup_nil,and_self,bO,true_and]
 constructor
 ·rintro ⟨c,d⟩;exact ⟨c,fun h=>d _ h _ rfl rfl⟩
 ·rintro ⟨c,d⟩;exact ⟨c,fun a f b g e=>d (by rw [← g,← e];exact f)⟩
theorem Z36 (N:Nat) (P:List R2) (i:Nat) (hi:i<P.length) (hP:P.length≤1048576) (hl:P[i].length≤1048576) (hN:1048576<N) (kk:Int→Option Bool):∀ (n k:Nat),P[i].length<n+k→k≤P[i].length→(P[i].take k).Nodup→
  Zhm N P (i:Int) kk n (k:Int)=if P[i].Nodup then kk ((i+1:Nat):Int) else some true
 | 0,k,h,b,_=>by omega
 | n+1,k,h,b,a=>by
  rw [Zhm.eq_2,Zs hi,oB]
  by_cases hlt:k<P[i].length
  ·rw [if_pos (by simpa using hlt),Z7 (by omega),Zs hlt,oB,Zrn (by simp;omega) hN,oB,aC]
   by_cases h1:P[i][k] ∈ P[i].take k
   ·rw [if_pos (by simpa using h1),if_neg]
    intro c
    exact ((Zzb _ k hlt).1 (c.sublist (List.take_sublist _ _))).2 h1
   ·rw [if_neg (by simpa using h1),wS (by omega)]
    exact Z36 N P i hi hP hl hN kk n (k+1) (by omega) (by omega) ((Zzb _ k hlt).2 ⟨a,h1⟩)
  ·rw [if_neg (by simpa using hlt),wS (by omega)]
   rw [bA (by omega)] at a
   rw [if_pos a]
theorem Z35 (N:Nat) (P:List R2) (hP:P.length≤1048576) (hl:∀ l ∈ P,l.length≤1048576) (hN:1048576<N):∀ (n i:Nat),P.length<n+i→i≤P.length→
  Zde N P n (i:Int)=some (T6 (P.drop i))
 | 0,i,h,a=>by omega
 | n+1,i,h,a=>by
  rw [Zde.eq_2]
  by_cases hlt:i<P.length
  ·have b:=Z36 N P i hlt hP (hl _ (aB hlt)) hN (Zde N P n) N 0 (by have:=hl _ (aB hlt);omega) (by omega) (by simp)
   rw [if_pos (by simpa using hlt)]
   rw [show (0:Int)=((0:Nat):Int) from rfl,b,Z35 N P hP hl hN n (i+1) (by omega) (by omega),aF hlt]
   simp only [T6,eC]
   by_cases h1:P[i].Nodup
   ·rw [if_pos h1];simp [h1]
   ·rw [if_neg h1];simp [h1]
  ·rw [if_neg (by simpa using hlt),aG (by omega)];rfl
theorem Xcq {N:Nat} {P:List R2} (hP:P.length≤1048576) (hl:∀ l ∈ P,l.length≤1048576) (hN:1048576<N):Zkr N P=some (T6 P):=by
 rw [Zkr];simpa using Z35 N P hP hl hN N 0 (by omega) (by omega)
def T5 (P:List R2):Nat:=(P.map kQ).sum
theorem Znz (l:List Int) (P:List R2):T5 (l :: P)=l.length+T5 P:=by simp [T5]
theorem Zra {l:List Int}:∀ {P:List R2},l ∈ P→l.length≤T5 P
 | x :: P,h=>by
  rw [Znz]
  rcases bL.1 h with rfl | h
  ·omega
  ·have:=Zra h;omega
def Zsk:Nat→List R2→List Rc
 | _,[]=>[]
 | k,l :: P=>l.map (fun p=>(p,(k:Int)))++Zsk (k+1) P
theorem Z7x:∀ (k:Nat) (P:List R2),(Zsk k P).length=T5 P
 | _,[]=>rfl
 | k,l :: P=>by rw [Zsk,nA,List.length_map,Z7x,Znz]
def So (P:List R2) (l:List Int) (i:Nat):Bool:=!decide ((i:Int) ∈ l)&&(P.getD i []).all fun p=>decide (p ∈ l)
def V6 (P:List R2) (l:List Int) (i:Nat):Option Nat:=(List.range' i (P.length - i)).find? (So P l)
theorem Z91 (P:List R2) (l:List Int) (i:Nat) (h:P.length≤i):V6 P l i=none:=by
 rw [V6,Nat.sub_eq_zero_of_le h];rfl
theorem Z93 (P:List R2) (l:List Int) (i:Nat) (h:i<P.length):V6 P l i=if So P l i then some i else V6 P l (i+1):=by
 rw [V6,V6,show P.length - i=(P.length - (i+1))+1 by omega,List.range'_succ,List.find?_cons]
 cases So P l i <;> simp
section
variable (N:Nat) (P:List R2) (l:List Int)
theorem Ztb (hP:P.length≤1048576) (hl:l.length≤1048576) (hN:1048576<N) (next:Int) (i:Nat) (hi:i<P.length) (hli:P[i].length≤1048576) (kk:Int→Int→Option R2):∀ (n:Nat) (b:Bool) (k:Nat),P[i].length<n+k→k≤P[i].length→
  Zdd N P l next (i:Int) kk n b (k:Int)=kk (if (b&&(P[i].drop k).all fun p=>decide (p ∈ l))=true then (i:Int) else next) ((i+1:Nat):Int)
 | 0,b,k,h,a=>by omega
 | n+1,b,k,h,a=>by
  rw [Zdd.eq_2,Zs hi,oB]
  by_cases hlt:k<P[i].length
  ·rw [if_pos (by simpa using hlt),Zs hlt,oB,Zrn hl hN,oB,Zkq,Zkq,wS (by omega),Ztb hP hl hN next i hi hli kk n _ (k+1) (by omega) (by omega),Ztb hP hl hN next i hi hli kk n _ (k+1) (by omega) (by omega),aF hlt,cN]
   cases b
   ·rw [if_neg (by decide),Bool.false_and,Bool.false_and]
   ·rw [if_pos rfl,Bool.true_and]
  ·rw [if_neg (by simpa using hlt),aG (by omega),Zkp,Zkp,wS (by omega),List.all_nil,Bool.and_true]
   cases b
   ·rw [if_neg (by decide),if_neg (by decide)]
   ·rw [if_pos rfl,if_pos rfl]
def Zz0 (kk:List Int→Option R2):Option Nat→Option R2
 | none=>some l
 | some i=>kk (l++[(i:Int)])
theorem Zzo (hl:l.length<1048576) (kk:List Int→Option R2) (i:Nat) (i':Int) (kk2:Int→Int→Option R2):Zfa N P l kk (i:Int) i' kk2 false=kk (l++[(i:Int)]):=by
 rw [Zfa,if_neg (by decide),if_neg (by rw [decide_eq_true_eq];omega),Z7 (by simp only [nC,nN,maxLen];omega)]
theorem Zzn (hP:P.length≤1048576) (hls:∀ x ∈ P,x.length≤1048576) (hl:l.length<1048576) (hN:1048576<N) (kk:List Int→Option R2):∀ (n i:Nat),P.length<n+i→i≤P.length→
  Si N P l kk n (-1) (i:Int)=Zz0 l kk (V6 P l i)
 | 0,i,h,a=>by omega
 | n+1,i,h,a=>by
  rw [Si.eq_2]
  by_cases hlt:i<P.length
  ·have b:=Ztb N P l hP (by omega) hN (-1) i hlt (hls _ (aB hlt)) (Si N P l kk n) N (!decide ((i:Int) ∈ l)) 0 (by have:=hls _ (aB hlt);omega) (by omega)
   rw [if_pos (by simpa using hlt),Zfa,if_pos (by decide),Zrn (by omega) hN,oB]
   rw [show (0:Int)=((0:Nat):Int) from rfl,b,Z93 P l i hlt,aM]
   have c:(!decide ((i:Int) ∈ l)&&P[i].all fun p=>decide (p ∈ l))=So P l i:=by
    rw [So,aE,aL hlt];rfl
   rw [c]
   by_cases hr:So P l i=true
   ·rw [if_pos hr,if_pos hr]
    match n,h with
    | 0,h=>omega
    | n+1,h=>
     rw [Si.eq_2]
     by_cases h2:i+1<P.length
     ·rw [if_pos (dT (by omega)),show decide ((i:Int)<0)=false from decide_eq_false (by omega)]
      exact Zzo N P l hl kk i _ _
     ·rw [if_neg (by rw [decide_eq_true_eq];omega)]
      exact Zzo N P l hl kk i _ _
   ·rw [if_neg hr,if_neg hr]
    exact Zzn hP hls hl hN kk n (i+1) (by omega) (by omega)
  ·rw [if_neg (by simpa using hlt),Z91 P l i (by omega),Zfa,if_neg (by decide),if_pos (by decide)];rfl
end
theorem Zzp {N:Nat} {P:List R2} {l:List Int} (hP:P.length≤1048576) (hls:∀ x ∈ P,x.length≤1048576) (hl:l.length<1048576) (hN:1048576<N) (n:Nat):
  Tf N P (n+1) l=Zz0 l (Tf N P n) (V6 P l 0):=by
 rw [Tf.eq_2]
 exact Zzn N P l hP hls hl hN _ N 0 (by omega) (by omega)
theorem Zy9 {P:List R2} {l:List Int} {i j:Nat} (h:V6 P l i=some j):i≤j∧j<P.length∧So P l j=true∧∀ k,i≤k→k<j→So P l k=false:=by
 rw [V6,List.find?_range'_eq_some] at h
 obtain ⟨d,a,f⟩:=h
 rw [jW] at a
 obtain ⟨q,g,m⟩:=a
 refine ⟨by omega,by omega,d,fun k b c=>?_⟩
 have:=f k b c
 simpa using this
theorem Z92 {P:List R2} {l:List Int} {i:Nat} (h:V6 P l i=none):∀ k,i≤k→k<P.length→So P l k=false:=by
 rw [V6,List.find?_eq_none] at h
 intro k a b
 have:=h k (by rw [jW];exact ⟨k - i,by omega,by omega⟩)
 simpa using this
theorem Xbe {P:List R2} {l:List Int} {i:Nat} (hi:i<P.length):So P l i=true↔(i:Int) ∉ l∧∀ p ∈ P[i],p ∈ l:=by
 rw [So,aE,aL hi]
 simp
def Su (P:List R2) (l:List Int):Prop:=l.Nodup∧(∀ x ∈ l,0≤x∧x<(P.length:Int))∧∀ (i:Nat) (hi:i<P.length),(i:Int) ∈ l→∀ p ∈ P[i],p ∈ l
theorem Su.len {P:List R2} {l:List Int} (h:Su P l):l.length≤P.length:=by
 have a:=Znk (r:=(iF P.length).map fun i:Nat=>(i:Int)) h.1 fun x b=>by
  have:=h.2.1 x b
  exact cY.2 ⟨x.toNat,gH.2 (by omega),by omega⟩
 simpa using a
theorem Su.step {P:List R2} {l:List Int} {j:Nat} (h:Su P l) (hn:V6 P l 0=some j):Su P (l++[(j:Int)])∧l.length<P.length:=by
 obtain ⟨_,m,n,_⟩:=Zy9 hn
 obtain ⟨o,q⟩:=(Xbe m).1 n
 have f:Su P (l++[(j:Int)]):=by
  refine ⟨?_,?_,?_⟩
  ·rw [dE]
   refine ⟨h.1,by simp,fun a r b g e=>?_⟩
   rw [bO] at g;subst g;subst e;exact o r
  ·intro x c
   rcases bI.1 c with c | c
   ·exact h.2.1 x c
   ·rw [bO] at c;omega
  ·intro i s d p k
   rcases bI.1 d with d | d
   ·exact jB _ (h.2.2 i s d p k)
   ·rw [bO] at d
    have:i=j:=by omega
    subst this
    exact jB _ (q p k)
 exact ⟨f,by have:=f.len;rw [nA,nC,nN] at this;omega⟩
theorem Zzq {N:Nat} {P:List R2} (hP:P.length<1048576) (hls:∀ x ∈ P,x.length≤1048576) (hN:1048576<N):∀ (n:Nat) (l:List Int),Su P l→P.length<n+l.length→
  ∃ r,Tf N P n l=some r∧Su P r∧V6 P r 0=none
 | 0,l,h,a=>by have:=h.len;omega
 | n+1,l,h,a=>by
  have c:=h.len
  rw [Zzp (by omega) hls (by omega) hN]
  cases hnx:V6 P l 0 with
  | none=>exact ⟨l,rfl,h,hnx⟩
  | some j=>
   obtain ⟨b,d⟩:=h.step hnx
   exact Zzq hP hls hN n _ b (by simp;omega)
theorem Xac {N:Nat} {P:List R2} (hP:P.length<1048576) (hls:∀ x ∈ P,x.length≤1048576) (hN:1048576<N):∃ r,Zaw N P=some r∧Su P r∧V6 P r 0=none:=by
 rw [Zaw]
 exact Zzq hP hls hN N [] ⟨.nil,by simp,by simp⟩ (by simp;omega)
def gD (h:List Int) (j:Nat):Int:=h.getD j 0
theorem Zag {h:List Int} {j:Nat} (hj:j<h.length):gD h j=h[j]:=by rw [gD,aE,aL hj];rfl
theorem Zbe {h:List Int} {j:Nat} (hj:j<h.length):Zk h (j:Int)=some (gD h j):=by rw [Zs hj,Zag hj]
def Sq (h:List Int) (i p:Nat):List Int:=(h.set i (gD h p)).set p (gD h i)
theorem Zny (h:List Int) (i p:Nat):(Sq h i p).length=h.length:=by simp [Sq]
theorem Z3x {h:List Int} {i p:Nat} (hi:i<h.length) (hp:p<h.length):(Sq h i p).Perm h:=by
 rw [Sq,Zag hi,Zag hp];exact List.set_set_perm hi hp
theorem Zo5 (h:List Int) (i j:Nat) (x:Int) (hi:i<h.length):gD (h.set i x) j=if j=i then x else gD h j:=by
 rw [gD,gD,aE,aE,jO]
 by_cases h1:i=j
 ·subst h1;rw [if_pos rfl,if_pos hi,if_pos rfl];rfl
 ·rw [if_neg h1,if_neg (Ne.symm h1)]
theorem Zd7 {h:List Int} {i p:Nat} (hi:i<h.length) (hp:p<h.length) (j:Nat):gD (Sq h i p) j=if j=p then gD h i else if j=i then gD h p else gD h j:=by
 rw [Sq,Zo5 _ _ _ _ (by simpa using hp),Zo5 _ _ _ _ hi]
def Qb (h:List Int) (n:Nat):Prop:=∀ j,0<j→j<n→gD h ((j - 1) / 2)≤gD h j
theorem Qb.min {h:List Int} {n:Nat} (hh:Qb h n):∀ j,j<n→gD h 0≤gD h j:=by
 intro j
 induction j using Nat.strongRecOn with
 | ind j a=>
  intro b
  by_cases h0:j=0
  ·subst h0;exact hH _
  ·exact Int.le_trans (a ((j - 1) / 2) (by omega) (by omega)) (hh j (by omega) b)
/-! ### push -/
def Zn9 (h:List Int) (i:Nat):Prop:=(∀ j,0<j→j<h.length→j≠i→gD h ((j - 1) / 2)≤gD h j)∧∀ j,0<j→j<h.length→(j - 1) / 2=i→0<i→gD h ((i - 1) / 2)≤gD h j
theorem Zn9.step {h:List Int} {i:Nat} (hu:Zn9 h i) (hi:i<h.length) (h0:0<i) (hlt:gD h i<gD h ((i - 1) / 2)):Zn9 (Sq h i ((i - 1) / 2)) ((i - 1) / 2):=by
 have c:(i - 1) / 2<h.length:=by omega
 refine ⟨fun j a b d=>?_,fun j a b d g=>?_⟩
 ·rw [Zny] at b
  rw [Zd7 hi c,Zd7 hi c,if_neg d]
  by_cases hji:j=i
  ·subst hji;rw [if_pos rfl,if_pos rfl];omega
  ·rw [if_neg hji]
   have f:=hu.1 j a b hji
   by_cases hq:(j - 1) / 2=(i - 1) / 2
   ·rw [if_pos hq];rw [hq] at f;omega
   ·rw [if_neg hq]
    by_cases hq2:(j - 1) / 2=i
    ·rw [if_pos hq2];exact hu.2 j a b hq2 h0
    ·rw [if_neg hq2];exact f
 ·rw [Zny] at b
  rw [Zd7 hi c,Zd7 hi c,if_neg (by omega),if_neg (by omega),if_neg (by omega)]
  have f:=hu.1 ((i - 1) / 2) g c (by omega)
  by_cases hji:j=i
  ·rw [if_pos hji];exact f
  ·rw [if_neg hji]
   have k:=hu.1 j a b hji
   rw [d] at k;omega
theorem Zzu {i:Nat} (h0:0<i) (h1:i≤9000000):i64.wrap (aR (i64.wrap ((i:Int) - 1)) 2)=(((i - 1) / 2:Nat):Int):=by
 rw [Zv (x:=(i:Int) - 1) (by omega),Int.tdiv_eq_ediv_of_nonneg (by omega),Zv (by omega)];omega
theorem Zzy (N:Nat):∀ (n:Nat) (h:List Int) (i:Nat),i<n→i<h.length→h.length≤9000000→Zn9 h i→
  ∃ h',Zcm N n h (i:Int)=some h'∧h'.Perm h∧Qb h' h'.length
 | 0,h,i,g,_,_,_=>by omega
 | n+1,h,i,g,c,k,d=>by
  rw [Zcm.eq_2]
  by_cases h0:0<i
  ·have a:(i - 1) / 2<h.length:=by omega
   rw [if_pos (dT (by omega)),Zbe c,oB,Zzu h0 (by omega),Zbe a,oB,Zi7,Zzu h0 (by omega)]
   by_cases hlt:gD h i<gD h ((i - 1) / 2)
   ·obtain ⟨h',m,o,p⟩:=Zzy N n (Sq h i ((i - 1) / 2)) ((i - 1) / 2) (by omega) (by rw [Zny];exact a) (by rw [Zny];exact k) (d.step c h0 hlt)
    refine ⟨h',?_,o.trans (Z3x c a),p⟩
    rw [if_pos (dT hlt),Zbe a,oB,Zbe c,oB,oB,aC,aC,Zs (by simpa using a),oB,oB]
    exact m
   ·refine ⟨h,by rw [if_neg (by simpa using hlt)],.refl _,fun j b f=>?_⟩
    by_cases hji:j=i
    ·subst hji;omega
    ·exact d.1 j b f hji
  ·have:i=0:=by omega
   subst this
   rw [if_neg (by decide),Zi7,if_neg (by decide)]
   exact ⟨h,rfl,.refl _,fun j b f=>d.1 j b f (by omega)⟩
theorem Zxm {h:List Int} {x:Int} {j:Nat} (hj:j<h.length):gD (h++[x]) j=gD h j:=by
 rw [Zag hj,Zag (by simp;omega),List.getElem_append_left hj]
theorem Zzz {N:Nat} {h:List Int} (x:Int) (hl:h.length<2000000) (hh:Qb h h.length) (hN:2000000<N):∃ h',Zi6 N h x=some h'∧h'.Perm (x :: h)∧Qb h' h'.length:=by
 rw [Zi6,Z7 (by simp only [nC,nN,maxLen];omega)]
 have i:(h++[x]).length=h.length+1:=by simp
 rw [Zv (by omega),show (((h++[x]).length:Int) - 1)=((h.length:Nat):Int) by omega]
 obtain ⟨h',c,d,f⟩:=Zzy N N (h++[x]) h.length (by omega) (by omega) (by omega) ⟨fun j a g b=>by rw [Zxm (by omega),Zxm (by omega)];exact hh j a (by omega),fun j a g b k=>by omega⟩
 exact ⟨h',c,d.trans (iG x h),f⟩
/-! ### pop -/
def Zlj (l:List Int) (n i:Nat):Prop:=(∀ j,0<j→j<n→(j - 1) / 2≠i→gD l ((j - 1) / 2)≤gD l j)∧∀ j,0<j→j<n→(j - 1) / 2=i→0<i→gD l ((i - 1) / 2)≤gD l j
theorem Zlj.step {l:List Int} {n i q:Nat} (hu:Zlj l n i) (hn:n≤l.length) (hi:i<n) (hq:q<n) (hqi:(q - 1) / 2=i) (hq0:0<q) (hlt:gD l q<gD l i) (hle:∀ j,0<j→j<n→(j - 1) / 2=i→gD l q≤gD l j):Zlj (Sq l i q) n q:=by
 have b:i<l.length:=by omega
 have c:q<l.length:=by omega
 refine ⟨fun j a f d=>?_,fun j a f d _=>?_⟩
 ·rw [Zd7 b c,Zd7 b c,if_neg d]
  by_cases h1:(j - 1) / 2=i
  ·rw [if_pos h1]
   by_cases h2:j=q
   ·rw [if_pos h2];omega
   ·rw [if_neg h2,if_neg (by omega)];exact hle j a f h1
  ·rw [if_neg h1,if_neg (show j≠q by omega)]
   by_cases h2:j=i
   ·subst h2
    rw [if_pos rfl];exact hu.2 q hq0 hq hqi a
   ·rw [if_neg h2];exact hu.1 j a f h1
 ·rw [Zd7 b c,Zd7 b c,hqi,if_neg (by omega),if_pos rfl,if_neg (by omega),if_neg (by omega)]
  have:=hu.1 j a f (by omega)
  rwa [d] at this
theorem Xcl {l:List Int} {n i q:Nat} (hn:n≤l.length) (hi:i<n) (hq:q<n):(Sq l i q).take n=Sq (l.take n) i q:=by
 have a:∀ j,j<n→gD (l.take n) j=gD l j:=fun j b=>by rw [Zag (by simp;omega),Zag (by omega),fP]
 rw [Sq,Sq,kI,kI,a i hi,a q hq]
theorem Zzw (N:Nat) (p0:List Int) (x0:Int) (n:Nat) (hp0:p0.length=n+1) (hn:n≤2000000) (hN:2000000<N):∀ (m:Nat) (l:List Int) (i:Nat),n<m+i→(i<n∨n=0∧i=0)→l.length=n+1→Zlj l n i→
  ∃ t,Qm N p0 x0 m l (i:Int)=some (x0,t)∧t.Perm (l.take n)∧Qb t n
 | 0,l,i,K,L,C,w=>by omega
 | m+1,l,i,K,L,C,w=>by
  rw [Qm.eq_2]
  obtain ⟨N,rfl⟩:∃ N',N=N'+1+1+1:=⟨N - 3,by omega⟩
  have D:i64.wrap ((p0.length:Int) - 1)=(n:Int):=by rw [Zv (by omega)];omega
  have M:i64.wrap (i64.wrap (2 * (i:Int))+1)=((2 * i+1:Nat):Int):=by rw [Zv (x:=2 * (i:Int)) (by omega),Zv (by omega)];omega
  have O:i64.wrap (i64.wrap (2 * (i:Int))+2)=((2 * i+2:Nat):Int):=by rw [Zv (x:=2 * (i:Int)) (by omega),Zv (by omega)];omega
  -- one child after the other
  have d:∀ (v:Nat) (k a:Nat),v<2→k=2 * i+1+v→(a<n∨n=0)→a<l.length→∀ f y,Qn (N+1+1+1) p0 x0 l (i:Int) y (f+1) (v:Int) (a:Int)=
    Qn (N+1+1+1) p0 x0 l (i:Int) y f ((v+1:Nat):Int) ((if k<n∧gD l k<gD l a then k else a:Nat):Int):=by
   intro v k a Q A X F f y
   rw [Qn.eq_2,if_pos (dT (by omega)),M,O,D]
   have G:Zk [((2 * i+1:Nat):Int),((2 * i+2:Nat):Int)] (v:Int)=some (k:Int):=by
    rw [Zcf]
    match v,Q with
    | 0,_=>simp [A]
    | 1,_=>simp [A];omega
   rw [G,oB]
   by_cases h1:k<n
   ·rw [if_pos (dT (by omega)),Zbe (by omega),oB,Zbe F,oB,Zi5,Zed,Zed,wS (by omega)]
    by_cases o:gD l k<gD l a
    ·rw [if_pos (dT o),if_pos ⟨h1,o⟩]
    ·rw [if_neg (by simpa using o),if_neg (fun h=>o h.2)]
   ·rw [if_neg (by rw [decide_eq_true_eq];omega),Zi5,Zed,Zed,if_neg (by decide),wS (by omega),if_neg (fun h=>h1 h.1)]
  have r:i<l.length:=by omega
  have H:=d 0 (2 * i+1) i (by omega) (by omega) (by omega) r (N+1+1) (Qm (N+1+1+1) p0 x0 m)
  generalize hq1:(if 2 * i+1<n∧gD l (2 * i+1)<gD l i then 2 * i+1 else i)=q1 at H
  have p:(q1=i∧(2 * i+1<n→gD l i≤gD l (2 * i+1)))∨(q1=2 * i+1∧q1<n∧gD l q1<gD l i):=by
   by_cases hc:2 * i+1<n∧gD l (2 * i+1)<gD l i
   ·rw [if_pos hc] at hq1;subst hq1;exact .inr ⟨rfl,hc.1,hc.2⟩
   ·rw [if_neg hc] at hq1;subst hq1;exact .inl ⟨rfl,fun h=>by omega⟩
  have I:=d 1 (2 * i+2) q1 (by omega) (by omega) (by omega) (by omega) (N+1) (Qm (N+1+1+1) p0 x0 m)
  generalize hq2:(if 2 * i+2<n∧gD l (2 * i+2)<gD l q1 then 2 * i+2 else q1)=q2 at I
  have B:(q2=i∧(2 * i+1<n→gD l i≤gD l (2 * i+1))∧(2 * i+2<n→gD l i≤gD l (2 * i+2)))∨((q2=2 * i+1∨q2=2 * i+2)∧q2<n∧gD l q2<gD l i∧(2 * i+1<n→gD l q2≤gD l (2 * i+1))∧(2 * i+2<n→gD l q2≤gD l (2 * i+2))):=by
   by_cases hc:2 * i+2<n∧gD l (2 * i+2)<gD l q1
   ·rw [if_pos hc] at hq2;subst hq2
    rcases p with ⟨rfl,b⟩ | ⟨rfl,b,g⟩
    ·exact .inr ⟨.inr rfl,hc.1,hc.2,fun h=>by have:=b h;omega,fun _=>hH _⟩
    ·exact .inr ⟨.inr rfl,hc.1,by omega,fun _=>by omega,fun _=>hH _⟩
   ·rw [if_neg hc] at hq2;subst hq2
    rcases p with ⟨rfl,b⟩ | ⟨rfl,b,g⟩
    ·exact .inl ⟨rfl,b,fun h=>by omega⟩
    ·exact .inr ⟨.inl rfl,b,g,fun _=>hH _,fun h=>by omega⟩
  rw [show (0:Int)=((0:Nat):Int) from rfl,H]
  rw [show ((0+1:Nat):Int)=((1:Nat):Int) from rfl,I,Qn.eq_2,if_neg (by decide),D,aC]
  rcases B with ⟨rfl,b,g⟩ | ⟨o,b,g,R,S⟩
  ·rw [if_pos (by simp)]
   refine ⟨_,rfl,.refl _,fun j s c=>?_⟩
   have J:∀ k,k<n→gD (l.take n) k=gD l k:=fun k A=>by rw [Zag (by simp;omega),Zag (by omega),fP]
   rw [J _ (by omega),J _ c]
   by_cases hq:(j - 1) / 2=q2
   ·rw [hq]
    rcases (show j=2 * q2+1∨j=2 * q2+2 by omega) with rfl | rfl
    ·exact b c
    ·exact g c
   ·exact w.1 j s c hq
  ·have q:q2<l.length:=by omega
   have u:i<n:=by omega
   have T:=w.step (by omega) u b (by omega) (by omega) g (fun j s c Y=>by
    rcases (show j=2 * i+1∨j=2 * i+2 by omega) with rfl | rfl
    ·exact R c
    ·exact S c)
   obtain ⟨t,U,V,W⟩:=Zzw (N+1+1+1) p0 x0 n hp0 hn hN m (Sq l i q2) q2 (by omega) (.inl b) (by rw [Zny];exact C) T
   refine ⟨t,?_,V.trans ?_,W⟩
   ·rw [if_neg (by simp;omega),Zbe q,oB,Zbe r,oB,oB,aC,aC,Zs (by simpa using q),oB,oB]
    exact U
   ·rw [Xcl (by omega) u b];exact Z3x (by simp;omega) (by simp;omega)
theorem Xaj {N:Nat} {h:List Int} (hl:h.length≤2000000) (h0:0<h.length) (hh:Qb h h.length) (hN:2000000<N):∃ x t,Zl2 N h=some (x,t)∧h.Perm (x :: t)∧(∀ y ∈ h,x≤y)∧Qb t t.length:=by
 rw [Zl2]
 obtain ⟨n,a⟩:∃ n,h.length=n+1:=⟨h.length - 1,by omega⟩
 have i:i64.wrap ((h.length:Int) - 1)=(n:Int):=by rw [Zv (by omega)];omega
 rw [i,show (0:Int)=((0:Nat):Int) from rfl,Zbe h0,oB,Zbe (by omega),oB,oB,Z7 (by simp;omega),aC]
 have k:Zlj (h.set 0 (gD h n)) n 0:=by
  refine ⟨fun j f d s=>?_,fun j _ _ _ h=>by omega⟩
  rw [Zo5 _ _ _ _ h0,Zo5 _ _ _ _ h0,if_neg (by omega),if_neg (by omega)]
  exact hh j f (by omega)
 obtain ⟨t,m,o,p⟩:=Zzw N h (gD h 0) n a (by omega) hN N (h.set 0 (gD h n)) 0 (by omega) (by omega) (by simpa using a) k
 have g:h.Perm (gD h 0 :: (h.set 0 (gD h n)).take n):=by
  match h,a with
  | x :: r,a=>
   have b:r.length=n:=by simpa using a
   match n,b with
   | 0,b=>rw [List.length_eq_zero_iff.1 b];exact .refl _
   | n+1,b=>
    have e:gD (x :: r) (n+1)=gD r n:=rfl
    rw [e,List.set_cons_zero,List.take_succ_cons]
    refine List.Perm.cons x ?_
    have:r=r.take n++[gD r n]:=by
     have:=cB (show n<r.length by omega)
     rw [bA (by omega)] at this
     rw [Zag (by omega)];exact this
    conv=>lhs;rw [this]
    exact iG _ _
 have c:h.Perm (gD h 0 :: t):=g.trans (List.Perm.cons _ o.symm)
 refine ⟨gD h 0,t,m,c,fun y q=>?_,?_⟩
 ·obtain ⟨j,d,rfl⟩:=List.getElem_of_mem q
  rw [← Zag d];exact hh.min j d
 ·have:=c.length_eq
  rw [nC,a] at this
  rw [show t.length=n by omega];exact p
theorem Xl {α:Type} {l:List α} {d:α} {j:Nat} (hj:j<l.length):l.getD j d=l[j]:=by rw [aE,aL hj];rfl
theorem Yo {α:Type} {l:List α} (d:α) {j:Nat} (hj:j<l.length):Zk l (j:Int)=some (l.getD j d):=by rw [Zs hj,Xl hj]
theorem Wc {α:Type} (l:List α) (d:α) (i j:Nat) (x:α) (hi:i<l.length):(l.set i x).getD j d=if j=i then x else l.getD j d:=by
 rw [aE,aE,jO]
 by_cases h1:i=j
 ·subst h1;rw [if_pos rfl,if_pos hi,if_pos rfl];rfl
 ·rw [if_neg h1,if_neg (Ne.symm h1)]
def Ut:Nat→List R2→Int→List Int
 | _,[],_=>[]
 | k,l :: P,p=>aD (l.count p) (k:Int)++Ut (k+1) P p
def Zn4 (n:Nat) (l:List Int):Prop:=∀ x ∈ l,0≤x∧x<(n:Int)
theorem Zwa (k:Nat) (kk:Nat→List R2→Option R6):∀ (l:List Int) (out:List R2),Zn4 out.length l→(∀ p:Nat,(out.getD p []).length+l.length≤1048576)→
  ∃ out',Zeb k kk l out=kk (k+1) out'∧out'.length=out.length∧∀ p:Nat,p<out.length→out'.getD p []=out.getD p []++aD (l.count (p:Int)) (k:Int)
 | [],out,h,a=>⟨out,by rw [Zeb.eq_1],rfl,fun p c=>by simp⟩
 | x :: l,out,h,a=>by
  obtain ⟨f,n⟩:=h x aO
  obtain ⟨q,rfl⟩:=Int.eq_ofNat_of_zero_le f
  have b:q<out.length:=by omega
  have d:=a q
  simp only [nC] at d a
  rw [Zeb.eq_2,Yo [] b,oB,Z7 (by simp only [nC,nN,maxLen];omega),aC]
  obtain ⟨out',g,i,j⟩:=Zwa k kk l (out.set q (out.getD q []++[(k:Int)])) (by rw [nS];exact fun y m=>h y (aN _ m)) (fun p=>by
   rw [Wc _ _ _ _ _ b]
   have:=a p
   split
   ·simp only [nA,nC,nN];omega
   ·omega)
  refine ⟨out',g,by rw [i,nS],fun p c=>?_⟩
  rw [j p (by rw [nS];exact c),Wc _ _ _ _ _ b,fY]
  by_cases hpq:p=q
  ·subst hpq
   rw [if_pos rfl,if_pos (by simp),bC,show l.count (p:Int)+1=1+l.count (p:Int) by omega,show [(k:Int)]=aD 1 (k:Int) from rfl,List.replicate_append_replicate]
  ·rw [if_neg hpq,if_neg (by simp;omega),bR]
theorem Zxx (p:Int):∀ (k:Nat) (P:List R2),(Ut k P p).length≤T5 P
 | _,[]=>by simp [Ut]
 | k,l :: P=>by
  rw [Ut,nA,aS,Znz]
  have:=Zxx p (k+1) P
  have:=gI (a:=p) (l:=l)
  omega
theorem Zv9 (n:Nat):∀ (P:List R2) (k:Nat) (out:List R2),out.length=n→(∀ l ∈ P,Zn4 n l)→(∀ p:Nat,(out.getD p []).length+T5 P≤1048576)→
  ∃ out',Zbh P k out=some out'∧out'.length=n∧∀ p:Nat,p<n→out'.getD p []=out.getD p []++Ut k P p
 | [],k,out,c,_,_=>⟨out,by rw [Zbh.eq_1],c,fun p b=>by simp [Ut]⟩
 | l :: P,k,out,c,h,d=>by
  simp only [Znz] at d
  rw [Zbh.eq_2]
  obtain ⟨f,i,r,g⟩:=Zwa k (Zbh P) l out (by rw [c];exact h l aO) (fun p=>by have:=d p;omega)
  obtain ⟨out',j,m,o⟩:=Zv9 n P (k+1) f (by omega) (fun x q=>h x (aN _ q)) (fun p=>by
   have:=d p
   by_cases b:p<out.length
   ·rw [g p b,nA,aS]
    have:=gI (a:=(p:Int)) (l:=l)
    omega
   ·rw [aE,List.getElem?_eq_none (by omega)];simp;omega)
  refine ⟨out',by rw [i,j],m,fun p b=>?_⟩
  rw [o p b,g p (by omega),bC,Ut]
theorem Z7d {P:List R2} (hP:P.length≤1048576) (ht:T5 P≤1048576) (h:∀ l ∈ P,Zn4 P.length l):∃ D,Zi2 P=some D∧D.length=P.length∧∀ p:Nat,p<P.length→D.getD p []=Ut 0 P p:=by
 rw [Zi2,Z7 (by simp only [maxLen];omega)]
 have a:∀ p:Nat,(aD P.length ([]:List Int)).getD p []=[]:=fun p=>by
  rw [aE,List.getElem?_replicate];split <;> rfl
 obtain ⟨D,b,c,d⟩:=Zv9 P.length P 0 (aD P.length []) (by simp) h (fun p=>by rw [a];simpa using ht)
 exact ⟨D,b,c,fun p f=>by rw [d p f,a];rfl⟩
theorem Zsw (p:Int):∀ (k:Nat) (P:List R2) (c:Nat),(Ut k P p).count (c:Int)=if k≤c then (P.getD (c - k) []).count p else 0
 | k,[],c=>by simp [Ut]
 | k,l :: P,c=>by
  rw [Ut,List.count_append,Zsw p (k+1) P c,List.count_replicate]
  by_cases h1:k=c
  ·subst h1
   rw [if_pos (by simp),if_neg (by omega),if_pos (Nat.le_refl _),Nat.sub_self];rfl
  ·rw [if_neg (by simp;omega)]
   by_cases h2:k≤c
   ·rw [if_pos (by omega),if_pos h2,show c - k=(c - (k+1))+1 by omega];simp
   ·rw [if_neg (by omega),if_neg h2]
theorem Zxy (p:Int):∀ (k:Nat) (P:List R2) (x:Int),x ∈ Ut k P p→∃ c:Nat,x=(c:Int)∧k≤c∧c<k+P.length
 | k,[],x,h=>by simp [Ut] at h
 | k,l :: P,x,h=>by
  rw [Ut] at h
  rcases bI.1 h with h | h
  ·exact ⟨k,(List.mem_replicate.1 h).2,Nat.le_refl _,by simp⟩
  ·obtain ⟨c,a,b,d⟩:=Zxy p (k+1) P x h
   exact ⟨c,a,by omega,by rw [nC];omega⟩
def Sv (P:List R2) (out:List Int) (c:Nat):Nat:=(P.getD c []).countP fun q=>!decide (q ∈ out)
theorem Zwf (out:List Int) (p:Int) (hp:p ∉ out):∀ l:List Int,(l.countP fun q=>!decide (q ∈ out))=(l.countP fun q=>!decide (q ∈ out++[p]))+l.count p
 | []=>rfl
 | x :: l=>by
  rw [jS,jS,fY,Zwf out p hp l]
  by_cases h1:x=p
  ·subst h1
   have b:(!decide (x ∈ out))=true:=by simp [hp]
   have a:(!decide (x ∈ out++[x]))=false:=by simp
   rw [b,a];simp;omega
  ·have a:(x ∈ out++[p])↔x ∈ out:=by simp [h1]
   rw [show (!decide (x ∈ out++[p]))=(!decide (x ∈ out)) from congrArg _ (decide_eq_decide.2 a),if_neg (show ¬ ((x==p)=true) by simpa using h1)];omega
theorem Zwe {P:List R2} {out:List Int} {p:Int} (hp:p ∉ out) (c:Nat):Sv P out c=Sv P (out++[p]) c+(P.getD c []).count p:=Zwf out p hp _
theorem Z08 (P:List R2) (out:List Int) (c:Nat):So P out c=true↔(c:Int) ∉ out∧Sv P out c=0:=by
 rw [So,Sv,List.countP_eq_zero]
 simp
structure Zn5 (P:List R2) (out left ready:List Int):Prop where
 ok:Su P out
 len:left.length=P.length
 cnt:∀ c:Nat,c<P.length→left.getD c 0=(Sv P out c:Int)
 heap:Qb ready ready.length
 nd:ready.Nodup
 mem:∀ y:Int,y ∈ ready↔∃ c:Nat,c<P.length∧y=(c:Int)∧(c:Int) ∉ out∧left.getD c 0=0
theorem Zug (N:Nat) (P:List R2) (hP:P.length≤1048576) (ht:T5 P≤1048576) (hN:2000000<N) (out:List Int) (p:Nat) (r2:List Int) (kk:List Int→List Int→List Int→Option R2):
  ∀ (rest left ready:List Int),rest.length≤9000000000000000000→left.length=P.length→(∀ c:Nat,c<P.length→left.getD c 0=((Sv P (out++[(p:Int)]) c+rest.count (c:Int):Nat):Int))→
   Qb ready ready.length→ready.Nodup→(∀ y:Int,y ∈ ready↔∃ c:Nat,c<P.length∧y=(c:Int)∧(c:Int) ∉ out++[(p:Int)]∧left.getD c 0=0)→
   (∀ x ∈ rest,∃ c:Nat,c<P.length∧x=(c:Int)∧x ∉ out++[(p:Int)])→
   ∃ left' ready',Zbm N out kk ((p:Int),r2) rest left ready=kk left' ready' (out++[(p:Int)])∧left'.length=P.length∧(∀ c:Nat,c<P.length→left'.getD c 0=(Sv P (out++[(p:Int)]) c:Int))∧
    Qb ready' ready'.length∧ready'.Nodup∧∀ y:Int,y ∈ ready'↔∃ c:Nat,c<P.length∧y=(c:Int)∧(c:Int) ∉ out++[(p:Int)]∧left'.getD c 0=0
 | [],left,ready,_,u,v,w,o,m,_=>⟨left,ready,by rw [Zbm.eq_1],u,fun c F=>by rw [v c F];simp,w,o,m⟩
 | x :: rest,left,ready,n,u,v,w,o,m,J=>by
  obtain ⟨c0,k,rfl,G⟩:=J x aO
  have b:c0<left.length:=by omega
  have s:=v c0 k
  rw [fY,if_pos (by simp)] at s
  have R:Sv P (out++[(p:Int)]) c0≤1048576:=by
   have H:=List.countP_le_length (p:=fun q=>!decide (q ∈ out++[(p:Int)])) (l:=P.getD c0 [])
   rw [Xl k] at H
   have j:=Zra (P:=P) (aB k)
   rw [Sv,Xl k];omega
  have S:ready.length≤P.length:=by
   have H:=Znk (r:=(iF P.length).map fun i:Nat=>(i:Int)) o fun y I=>by
    obtain ⟨c,j,g,_⟩:=(m y).1 I
    exact cY.2 ⟨c,gH.2 j,g.symm⟩
   simpa using H
  have M:i64.wrap (left.getD c0 0 - 1)=((Sv P (out++[(p:Int)]) c0+rest.count (c0:Int):Nat):Int):=by
   have g:=gI (a:=(c0:Int)) (l:=rest)
   rw [s,Zv]
   ·omega
   ·simp only [nC] at n
    omega
  have A:∀ c:Nat,c<P.length→(left.set c0 (i64.wrap (left.getD c0 0 - 1))).getD c 0=((Sv P (out++[(p:Int)]) c+rest.count (c:Int):Nat):Int):=fun c F=>by
   rw [Wc _ _ _ _ _ b]
   by_cases hcc:c=c0
   ·subst hcc;rw [if_pos rfl,M]
   ·rw [if_neg hcc,v c F,fY,if_neg (by simp;omega),bR]
  have B:left.getD c0 0≠0:=by rw [s];omega
  have K:(c0:Int) ∉ ready:=fun h=>by
   obtain ⟨c,j,g,_,f⟩:=(m _).1 h
   have:c=c0:=by omega
   subst this;exact B f
  have C:∀ x ∈ rest,∃ c:Nat,c<P.length∧x=(c:Int)∧x ∉ out++[(p:Int)]:=fun x G=>J x (aN _ G)
  have D:rest.length≤9000000000000000000:=by simp only [nC] at n;omega
  rw [Zbm.eq_2,Yo 0 b,oB,oB,aC,Yo 0 (by rw [nS];exact b),oB,Zi9,Wc _ _ _ _ _ b,if_pos rfl]
  by_cases hz:i64.wrap (left.getD c0 0 - 1)=0
  ·obtain ⟨t,O,L,Q⟩:=Zzz (N:=N) (c0:Int) (by omega:ready.length<2000000) w hN
   rw [if_pos (by simpa using hz),O,oB,Zi9]
   refine Zug N P hP ht hN out p r2 kk rest _ t D (by rw [nS];exact u) A Q (L.nodup_iff.2 (cU.2 ⟨K,o⟩)) (fun y=>?_) C
   rw [L.mem_iff,bL]
   constructor
   ·rintro (rfl | I)
    ·exact ⟨c0,k,rfl,G,by rw [Wc _ _ _ _ _ b,if_pos rfl,hz]⟩
    ·obtain ⟨c,j,g,f,d⟩:=(m y).1 I
     refine ⟨c,j,g,f,?_⟩
     rw [Wc _ _ _ _ _ b]
     split
     ·exact hz
     ·exact d
   ·rintro ⟨c,j,g,f,d⟩
    by_cases hcc:c=c0
    ·subst hcc;exact .inl g
    ·rw [Wc _ _ _ _ _ b,if_neg hcc] at d
     exact .inr ((m y).2 ⟨c,j,g,f,d⟩)
  ·rw [if_neg (by simpa using hz)]
   refine Zug N P hP ht hN out p r2 kk rest _ ready D (by rw [nS];exact u) A w o (fun y=>?_) C
   rw [m y]
   constructor
   ·rintro ⟨c,j,g,f,d⟩
    refine ⟨c,j,g,f,?_⟩
    rw [Wc _ _ _ _ _ b,if_neg (fun h=>B (by rw [← h];exact d))];exact d
   ·rintro ⟨c,j,g,f,d⟩
    refine ⟨c,j,g,f,?_⟩
    rw [Wc _ _ _ _ _ b] at d
    split at d
    ·exact absurd d hz
    ·exact d
theorem Xb7 {N:Nat} {P D:List R2} (hP:P.length≤1048576) (ht:T5 P≤1048576) (hN:2000000<N) (hD:D.length=P.length) (hDk:∀ p:Nat,p<P.length→D.getD p []=Ut 0 P p) {out left ready:List Int} (hi:Zn5 P out left ready) (n:Nat):
  (V6 P out 0=none→Tt N D (n+1) left ready out=some out)∧
  ∀ p,V6 P out 0=some p→∃ left' ready',Zn5 P (out++[(p:Int)]) left' ready'∧Tt N D (n+1) left ready out=Tt N D n left' ready' (out++[(p:Int)]):=by
 have Z:ready.length≤P.length:=by
  have k:=Znk (r:=(iF P.length).map fun i:Nat=>(i:Int)) hi.nd fun y U=>by
   obtain ⟨c,b,d,_⟩:=(hi.mem y).1 U
   exact cY.2 ⟨c,gH.2 b,d.symm⟩
  simpa using k
 have q:∀ c:Nat,c<P.length→(So P out c=true↔(c:Int) ∈ ready):=fun c v=>by
  rw [Z08,hi.mem]
  constructor
  ·rintro ⟨f,g⟩;exact ⟨c,v,rfl,f,by rw [hi.cnt c v,g];rfl⟩
  ·rintro ⟨M,f,g,o,m⟩
   have:M=c:=by omega
   subst this
   rw [hi.cnt M f] at m
   exact ⟨o,by omega⟩
 refine ⟨fun w=>?_,fun p w=>?_⟩
 ·have V:ready=[]:=by
   cases s:ready with
   | nil=>rfl
   | cons y l=>
    obtain ⟨c,f,g,_⟩:=(hi.mem y).1 (by rw [s];exact aO)
    have o:=Z92 w c (aQ _) f
    have m:=(q c f).2 (by rw [← g,s];exact aO)
    rw [o] at m;cases m
  rw [Tt.eq_2,V,if_neg (by decide)]
 ·obtain ⟨_,H,s,I⟩:=Zy9 w
  have B:=(q p H).1 s
  have J:0<ready.length:=List.length_pos_of_mem B
  obtain ⟨x,t,W,K,X,Y⟩:=Xaj (N:=N) (by omega:ready.length≤2000000) J hi.heap hN
  have C:x ∈ ready:=K.mem_iff.2 aO
  have O:x=(p:Int):=by
   obtain ⟨c,f,g,_⟩:=(hi.mem x).1 C
   have o:=X _ B
   have m:¬ c<p:=fun F=>by
    have L:=I c (aQ _) F
    have A:=(q c f).2 (by rw [← g];exact C)
    rw [L] at A;cases A
   omega
  subst O
  have G:((p:Int) :: t).Nodup:=K.nodup_iff.1 hi.nd
  obtain ⟨u,a0⟩:=(Z08 P out p).1 s
  obtain ⟨Q,F⟩:=hi.ok.step w
  have a1:=hi.ok.len
  have T:(P.getD p []).count (p:Int)=0:=by have:=Zwe (P:=P) u p;omega
  rw [Tt.eq_2,if_pos (dT (by omega)),W,oB,Z7 (by simp only [nC,nN,maxLen];omega),Yo [] (by rw [hD];exact H),oB,hDk p H]
  have a2:=Zxx (p:Int) 0 P
  obtain ⟨left',ready',f,g,o,m,L,A⟩:=Zug N P hP ht hN out p t (Tt N D n) (Ut 0 P p) left t (by omega) hi.len (fun c v=>by
    rw [hi.cnt c v,Zwe u c,Zsw (p:Int) 0 P c,if_pos (aQ _),kR]) Y (cU.1 G).2 (fun y=>by
    have k:y ∈ t↔y ∈ ready∧y≠(p:Int):=by
     rw [K.mem_iff,bL]
     exact ⟨fun h=>⟨.inr h,fun e=>(cU.1 G).1 (by rw [← e];exact h)⟩,fun h=>h.1.resolve_left h.2⟩
    rw [k,hi.mem]
    constructor
    ·rintro ⟨⟨c,b,d,a,j⟩,R⟩
     exact ⟨c,b,d,by rw [bI,bO];exact fun h=>h.elim a fun h=>R (by rw [d,h]),j⟩
    ·rintro ⟨c,b,d,a,j⟩
     rw [bI,bO] at a
     exact ⟨⟨c,b,d,fun h=>a (.inl h),j⟩,fun h=>a (.inr (by rw [← d,h]))⟩) (fun x S=>by
    obtain ⟨c,k,_,b⟩:=Zxy (p:Int) 0 P x S
    have b:c<P.length:=by omega
    have d:=Zsw (p:Int) 0 P c
    rw [if_pos (aQ _),kR] at d
    have a:0<(P.getD c []).count (p:Int):=by rw [← d,← k];exact jI.2 S
    refine ⟨c,b,k,fun h=>?_⟩
    rcases bI.1 h with h | h
    ·rw [k] at h
     have j:=hi.ok.2.2 c b h (p:Int) (by rw [Xl b] at a;exact jI.1 a)
     exact u j
    ·rw [bO] at h
     have:c=p:=by omega
     subst this
     omega)
  exact ⟨left',ready',⟨Q,g,o,m,L,A⟩,f⟩
theorem Z23 {N:Nat} {P D:List R2} (hP:P.length<1048576) (hls:∀ x ∈ P,x.length≤1048576) (ht:T5 P≤1048576) (hN:2000000<N) (hD:D.length=P.length) (hDk:∀ p:Nat,p<P.length→D.getD p []=Ut 0 P p):∀ (n:Nat) (out left ready:List Int),Zn5 P out left ready→P.length<n+out.length→
  Tt N D n left ready out=Tf N P n out
 | 0,out,left,ready,a,d=>by have:=a.ok.len;omega
 | n+1,out,left,ready,a,d=>by
  have k:=a.ok.len
  obtain ⟨f,g⟩:=Xb7 (N:=N) (by omega) ht hN hD hDk a n
  rw [Zzp (by omega) hls (by omega) (by omega)]
  cases hnx:V6 P out 0 with
  | none=>rw [f hnx];rfl
  | some p=>
   obtain ⟨c,b,i,j⟩:=g p hnx
   rw [j]
   exact Z23 hP hls ht hN hD hDk n _ _ _ i (by simp;omega)
theorem Zuf {N:Nat} (P D:List R2) (hP:P.length<1048576) (hN:2000000<N) (hl:∀ l ∈ P,l.length≤1048576):∀ (Q:List R2) (k:Nat) (left ready:List Int),P.drop k=Q→k≤P.length→left.length=P.length→
  (∀ c:Nat,c<k→left.getD c 0=((P.getD c []).length:Int))→Qb ready ready.length→ready.Nodup→(∀ y:Int,y ∈ ready↔∃ c:Nat,c<k∧y=(c:Int)∧(P.getD c []).length=0)→
  ∃ left' ready',Zbl N D Q k left ready=Tt N D N left' ready' []∧Zn5 P [] left' ready'
 | [],k,left,ready,g,G,s,m,t,n,j=>by
  have w:k=P.length:=by have:=congrArg kQ g;simp at this;omega
  subst w
  have A:∀ c,Sv P [] c=(P.getD c []).length:=fun c=>by
   rw [Sv,List.countP_eq_length.2 (fun a _=>by simp)]
  refine ⟨left,ready,by rw [Zbl.eq_1],⟨⟨.nil,by simp,by simp⟩,s,fun c B=>by rw [m c B,A],t,n,fun y=>?_⟩⟩
  rw [j]
  constructor
  ·rintro ⟨c,f,b,d⟩;exact ⟨c,f,b,by simp,by rw [m c f,d];rfl⟩
  ·rintro ⟨c,f,b,_,d⟩;exact ⟨c,f,b,by rw [m c f] at d;omega⟩
 | x :: Q,k,left,ready,g,G,s,m,t,n,j=>by
  have u:k<P.length:=by
   rcases Nat.lt_or_ge k P.length with h | h
   ·exact h
   ·rw [aG h] at g;cases g
  rw [aF u] at g
  obtain ⟨H,g⟩:=List.cons.inj g
  have o:P.getD k []=x:=by rw [Xl u,H]
  have p:k<left.length:=by omega
  have M:ready.length≤k:=by
   have b:=Znk (r:=(iF k).map fun i:Nat=>(i:Int)) n fun y I=>by
    obtain ⟨c,d,J,_⟩:=(j y).1 I
    exact cY.2 ⟨c,gH.2 d,J.symm⟩
   simpa using b
  have v:∀ c:Nat,c<k+1→(left.set k (x.length:Int)).getD c 0=((P.getD c []).length:Int):=fun c B=>by
   rw [Wc _ _ _ _ _ p]
   by_cases hck:c=k
   ·subst hck;rw [if_pos rfl,o]
   ·rw [if_neg hck,m c (by omega)]
  have C:(k:Int) ∉ ready:=fun h=>by obtain ⟨c,f,b,_⟩:=(j _).1 h;omega
  rw [Zbl.eq_2,Yo 0 p,oB,oB,aC]
  by_cases h0:x.length=0
  ·obtain ⟨q,K,F,L⟩:=Zzz (N:=N) (k:Int) (by omega:ready.length<2000000) t hN
   rw [if_pos (dT (by omega)),K,oB,Zja]
   refine Zuf P D hP hN hl Q (k+1) _ q g (by omega) (by rw [nS];exact s) v L (F.nodup_iff.2 (cU.2 ⟨C,n⟩)) (fun y=>?_)
   rw [F.mem_iff,bL,j]
   constructor
   ·rintro (rfl | ⟨c,f,b,d⟩)
    ·exact ⟨k,by omega,rfl,by rw [o];exact h0⟩
    ·exact ⟨c,by omega,b,d⟩
   ·rintro ⟨c,f,b,d⟩
    by_cases hck:c=k
    ·subst hck;exact .inl b
    ·exact .inr ⟨c,by omega,b,d⟩
  ·rw [if_neg (by rw [decide_eq_true_eq];omega),Zja]
   refine Zuf P D hP hN hl Q (k+1) _ ready g (by omega) (by rw [nS];exact s) v t n (fun y=>?_)
   rw [j]
   constructor
   ·rintro ⟨c,f,b,d⟩;exact ⟨c,by omega,b,d⟩
   ·rintro ⟨c,f,b,d⟩
    by_cases hck:c=k
    ·subst hck;rw [o] at d;exact absurd d h0
    ·exact ⟨c,by omega,b,d⟩
theorem Xb6 {N:Nat} {P D:List R2} (hP:P.length<1048576) (hls:∀ x ∈ P,x.length≤1048576) (ht:T5 P≤1048576) (hN:2000000<N) (hD:D.length=P.length) (hDk:∀ p:Nat,p<P.length→D.getD p []=Ut 0 P p):Zi8 N P D=Zaw N P:=by
 rw [Zi8,Z7 (by simp only [maxLen];omega),Zaw]
 obtain ⟨left,a,b,d⟩:=Zuf (N:=N) P D hP hN hls P 0 (aD P.length 0) [] rfl (aQ _) (by simp) (fun c g=>by omega) (fun j _ f=>by simp at f) .nil (fun y=>by simp)
 rw [b]
 exact Z23 hP hls ht hN hD hDk N [] _ _ d (by simp;omega)
theorem Zw8 (kk:Option Int):∀ (l:List Int) (seen:List Rc) (S:List Int),S.Nodup→(∀ k,Wz seen k=if k ∈ S then some 1 else none)→Zec kk l seen=if (S++l).Nodup then kk else some 40
 | [],seen,S,c,d=>by rw [Zec.eq_1,List.append_nil,if_pos c]
 | x :: l,seen,S,c,d=>by
  rw [Zec.eq_2,d x]
  by_cases hx:x ∈ S
  ·rw [if_pos hx,if_pos (by decide),if_neg]
   intro h
   exact (dE.1 h).2.2 x hx x aO rfl
  ·rw [if_neg hx,if_neg (by decide),oB,Zw8 kk l _ (S++[x]) (by
    rw [dE]
    refine ⟨c,by simp,fun a g b f e=>?_⟩
    rw [bO] at f;subst f;subst e;exact hx g) (fun k=>by
    rw [Zyt,d k]
    by_cases hk:k=x
    ·subst hk;rw [if_pos rfl,if_pos (by simp)]
    ·rw [if_neg hk]
     by_cases hs:k ∈ S
     ·rw [if_pos hs,if_pos (by simp [hs])]
     ·rw [if_neg hs,if_neg (by simp [hs,hk])])]
   rw [bC];rfl
theorem Zw7:∀ P:List R2,Zbj P=if T6 P then some 40 else some 0
 | []=>by rw [Zbj.eq_1];rfl
 | l :: P=>by
  rw [Zbj.eq_2,Zw8 _ l [] [] .nil (fun k=>by simp [Wz]),Zw7 P,List.nil_append]
  by_cases h:l.Nodup
  ·rw [if_pos h]
   have:T6 (l :: P)=T6 P:=by rw [T6,T6,eC,decide_eq_true h];rfl
   rw [this]
  ·rw [if_neg h]
   have:T6 (l :: P)=true:=by rw [T6,eC,decide_eq_false h];rfl
   rw [this];rfl
theorem Zw9 (P:List R2) (kk:Option Int):∀ l:List Int,Zbk P kk l=if (l.all fun p=>decide (0≤p∧p<(P.length:Int)))=true then kk else some 3
 | []=>by rw [Zbk.eq_1];rfl
 | x :: l=>by
  rw [Zbk.eq_2,Zw9 P kk l,Zi4,Zi4,cN]
  by_cases h1:x<0
  ·rw [if_pos (by simpa using h1),if_pos rfl,decide_eq_false (by omega),Bool.false_and,if_neg (by decide)]
  ·rw [if_neg (by simpa using h1)]
   by_cases h2:(P.length:Int)≤x
   ·rw [if_pos (by simpa using h2),decide_eq_false (by omega),Bool.false_and,if_neg (by decide)]
   ·rw [if_neg (by simpa using h2),decide_eq_true (by omega),Bool.true_and]
theorem Zw6 (P:List R2):∀ Q:List R2,Zbi P Q=if U5 P.length Q=true then Zbj P else some 3
 | []=>by rw [Zbi.eq_1];rfl
 | l :: Q=>by
  rw [Zbi.eq_2,Zw9,Zw6 P Q]
  by_cases h:(l.all fun p=>decide (0≤p∧p<(P.length:Int)))=true
  ·rw [if_pos h]
   have:U5 P.length (l :: Q)=U5 P.length Q:=by rw [U5,U5,cN,h,Bool.true_and]
   rw [this]
  ·rw [if_neg h]
   have:U5 P.length (l :: Q)=false:=by rw [U5,cN,Bool.eq_false_iff.2 h,Bool.false_and]
   rw [this,if_neg (by decide)]
theorem Z8m (P:List R2):Zi3 P=if U5 P.length P=true then (if T6 P=true then some 40 else some 0) else some 3:=by
 rw [Zi3,Zw6,Zw7]
structure Zlm (P:List R2):Prop where
 n:P.length≤1048575
 t:T5 P≤1048576
theorem Zlm.ls {P:List R2} (h:Zlm P):∀ x ∈ P,x.length≤1048576:=fun x a=>aT (Zra a) h.t
theorem Zxu {P:List R2} {n:Nat} (h:U5 n P=true):∀ l ∈ P,Zn4 n l:=by
 intro l a x b
 rw [U5,cP] at h
 have:=cP.1 (h l a) x b
 simpa using this
inductive Zn6 (N:Nat) (P:List R2):Prop
 | err (e:Int) (D:Zcl N P=some ([],e)) (R:Zav N P=some e) (ne:e=3∨e=40):Zn6 N P
 | cyc (I:U5 P.length P=true) (T:T6 P=false) (l:List Int) (o:Zaw N P=some l) (ok:Su P l) (mx:V6 P l 0=none) (lt:l.length<P.length) (D:Zcl N P=some ([],42)) (R:Zav N P=some 42):Zn6 N P
 | ord (I:U5 P.length P=true) (T:T6 P=false) (l:List Int) (o:Zaw N P=some l) (ok:Su P l) (mx:V6 P l 0=none) (eq:l.length=P.length) (D:Zcl N P=some (l,0)) (R:Zav N P=some 0):Zn6 N P
theorem Z2s {N:Nat} {P:List R2} (h:Zlm P) (hN:2000000<N):Zn6 N P:=by
 have v:=h.n
 have w:=h.t
 have k:=h.ls
 have c:∀ x ∈ P,x.length≤1048576:=fun x p=>by have:=k x p;omega
 have a:Zcl N P=(Zi3 P).bind fun r_1=>if (!decide (r_1=0))=true then (some (([]:List Int),r_1)) else ((Zi2 P).bind fun f=>(Zi8 N P f).bind fun g=>if (decide ((g.length:Int)<(P.length:Int)))=true then (some (([]:List Int),42)) else (some (g,0))):=by rw [Zcl]
 have b:Zav N P=(Zkn N P).bind fun r_1=>if (!r_1)=true then (some 3) else ((Zkr N P).bind fun f=>if f=true then (some 40) else ((Zaw N P).bind fun m=>if (decide ((m.length:Int)<(P.length:Int)))=true then (some 42) else (some 0))):=by rw [Zav]
 rw [Z8m] at a
 rw [Z82 (by omega) c (by omega),oB] at b
 by_cases hI:U5 P.length P=true
 ·rw [hI,if_neg (by decide),Xcq (by omega) c (by omega),oB] at b
  rw [if_pos hI] at a
  by_cases d:T6 P=true
  ·rw [if_pos d] at a b
   exact .err 40 (by rw [a];rfl) b (.inr rfl)
  ·rw [if_neg d] at a b
   obtain ⟨l,i,j,o⟩:=Xac (N:=N) (P:=P) (by omega) c (by omega)
   obtain ⟨D,q,r,s⟩:=Z7d (P:=P) (by omega) (by omega) (Zxu hI)
   rw [i,oB] at b
   rw [oB,if_neg (by decide),q,oB,Xb6 (by omega) c (by omega) hN r s,i,oB] at a
   have d:=Bool.eq_false_iff.2 d
   have u:=j.len
   by_cases hlt:l.length<P.length
   ·rw [if_pos (dT (by omega))] at b a
    exact .cyc hI d l i j o hlt a b
   ·rw [if_neg (by rw [decide_eq_true_eq];omega)] at b a
    exact .ord hI d l i j o (by omega) a b
 ·rw [Bool.eq_false_iff.2 hI,if_pos (by decide)] at b
  rw [if_neg hI] at a
  exact .err 3 (by rw [a];rfl) b (.inl rfl)
def Zka (b:List Int) (a:Int) (kk_L1:(Int→Option R2)) (c:Bool):Option R2:=
  if c=true then (kk_L1 (i64.wrap (a - 1))) else (Z2 ((0:Int)≤a∧a≤(b.length:Int)) (Z2 ((([]:List Int).length+(b.take (aA a)).length) * 4≤140737488355328∧([]:List Int).length+(b.take (aA a)).length≤maxLen) (some (([]:List Int)++(b.take (aA a))))))
def Zc5 (N:Nat) (a:List Int):Nat→Int→Option R2
  | 0,_=>none
  | c+1,b=>if (decide (0<b))=true then ((Zk a (i64.wrap (b - 1))).bind fun d=>Zka a b (Zc5 N a c) (decide (d=0))) else (Zka a b (Zc5 N a c) false)
def V9 (N:Nat) (a:List Int):Option R2:=
  Zc5 N a N (a.length:Int)
theorem Tc {N j:Nat} {f:Option Addr} {col:Ze} {d:World} {b r:R2} (m:Nat) (a:V9 N b=some r) (e:Sl rU col d f j b):
    Calls prog 146 #[.slice f b.length j] d (Vr .u32 45 m col d r):=by
 refine Xc 2 (m:=24) func146 rfl rfl rfl rfl rfl ?_;rw [V9.eq_1] at a;have c:=St.start col d;refine go ?_;refine Zt [0,1000000] (fun l k w=>∃ x g h,h=l∧Zc5 N b h g=some r∧St d (Zh col) x w∧[3].map k=[.int .i64 g]) N ⟨_,_,_,rfl,a,c,rfl⟩ ?_;clear a;intro l k w z;obtain ⟨x,g,h,t,a,c,i⟩:=z;subst t;refine .lL [3] i ?_;replace e:=e.k0
 cases h with
 | zero=>rw [Zc5.eq_1] at a;cases a
 | succ h=>
  rw [Zc5.eq_2] at a;refine Zx<|Zx ?_;refine Wp.cutK [0,3,1000000] (fun k u=>∃ v o,Zka b g (Zc5 N b h) o=some r∧St d (Zh col) v u∧[16].map k=[.bool o]) ?_ ?_
  ·intro k u y;obtain ⟨v,o,a,c,i⟩:=y;rw [Zka.eq_1] at a;refine .lL [16] i ?_;refine Zm a (fun s a=>go ?_) fun s a=>go ?_
   ·exact ⟨h,by omega,rfl,⟨_,_,_,rfl,a,c,rfl⟩⟩
   obtain ⟨p,a⟩:=Z4 a;refine lv (v:=.slice f (aA g) j) rfl rfl (Zca underlying38 sizeOf45 rfl rfl p.1 (by have:=(e.ks c).1.2;have:=p.2;omega))<|.ld (d:=22) (v:=(.slice f ((b.take (aA g)).length) j)) (congrArg (fun l=>Value.slice f l j) (dC (show (aA g)≤b.length by have:=p.2;omega)).symm) ?_;obtain ⟨B,a⟩:=Z4 a;refine Wy (c:=1) Zb.nil ((e.ks c).take (aA g)).srcC B fun _ _ _ _ A C=>go ?_;cases a;replace c:=c.kpp A;exact ⟨rfl,_,_,_,rfl,c.fin (cm [(1,m)]),c.fo C⟩
  refine go ?_;refine Ye a (fun q a=>go ?_) fun q a=>go ?_
  ·obtain ⟨D,n,a⟩:=bZ a;refine lI n ((e.ks c).addr n) ?_;refine go ?_;refine lW ((e.ks c).atInt n)<|go ?_;refine lV (.bool (decide (D=0))) (X0 (congrArg Value.bool q) rfl)<|Zl ?_;exact ⟨rfl,_,_,a,c,rfl⟩
  refine lV (.bool false) (X7 (congrArg Value.bool q) rfl)<|Zl ?_;exact ⟨rfl,_,_,a,c,rfl⟩
def Zg6 (N:Nat):Nat→Int→Int→Option Int
  | 0,_,_=>none
  | c+1,a,b=>if (decide (0<b))=true then ((Zg6 N c) (i64.wrap (a+1)) (u32.wrap (aR b 2))) else (some a)
def Zmp (N:Nat) (b:List Int):Option Int:=
  (V9 N b).bind fun a=>if (decide ((a.length:Int)=0))=true then (some 0) else ((Zk a (i64.wrap ((a.length:Int) - 1))).bind fun c=>Zg6 N N (i64.wrap (32 * (i64.wrap ((a.length:Int) - 1)))) c)
theorem Z5z {N j:Nat} {h:Option Addr} {col:Ze} {b:World} {d:R2} {r:Int} (a:Zmp N d=some r) (o:Sl rU col b h j d):
    Calls prog 182 #[.slice h d.length j] b (Wn b r):=by
 refine Xc 2 (m:=28) func182 rfl rfl rfl rfl rfl ?_;rw [Zmp.eq_1] at a;have c:=St.start col b;refine go ?_;obtain ⟨_,z,a⟩:=bZ a;refine Zi (Tc 1 z (o.k0.ks c)) ?_;rintro _ u ⟨v,w,x,rfl,q,k⟩;refine ⟨_,rfl,go ?_⟩;replace c:=c.grow q;refine Zm a (fun f a=>go ?_) fun f a=>go ?_
 ·cases a;exact ⟨rfl,rfl,c.below⟩
 obtain ⟨_,i,a⟩:=bZ a;refine lI i (k.addr i)<|lW (k.atInt i) ?_;refine go ?_;refine Zt [1000000] (fun p s t=>∃ y l g e,e=p∧Zg6 N e l g=some r∧St b (Zh col) y t∧[4,5].map s=[.int .i64 l,.int .u32 g]) N ⟨_,_,_,_,rfl,a,c,rfl⟩ ?_;clear a;intro p s t A;obtain ⟨y,l,g,e,m,a,c,n⟩:=A;subst m;refine .lL [4,5] n ?_
 cases e with
 | zero=>rw [Zg6.eq_1] at a;cases a
 | succ e=>
  rw [Zg6.eq_2] at a;refine go ?_;refine Zm a (fun f a=>go ?_) fun f a=>go ?_
  ·refine lV (.int .u32 (u32.wrap (aR g 2))) (Vy g 2 rfl rfl (by decide))<|go ?_;exact ⟨e,by omega,rfl,⟨_,_,_,_,rfl,a,c,rfl⟩⟩
  cases a;exact ⟨rfl,rfl,c.below⟩
def Zas (a:List Int) (b:Int):Option Int:=
  if (decide (b<(a.length:Int)))=true then ((Zk a b).bind fun c=>some (u64.wrap c)) else (some 0)
theorem Zf6 {d:Nat} {h:Option Addr} {col:Ze} {c:World} {b:R2} {f r:Int} (a:Zas b f=some r) (g:Sl rU col c h d b):
    Calls prog 184 #[.slice h b.length d,.int .i64 f] c (fun e w'=>e= .returned ((.int .u64 r))∧Below c.heap.size c w'):=by
 refine Xc 4 (m:=14) func184 rfl rfl rfl rfl rfl ?_;rw [Zas.eq_1] at a;have i:=St.start col c;refine go ?_;replace g:=g.k0;refine Zm a (fun k a=>go ?_) fun k a=>go ?_
 ·obtain ⟨_,j,a⟩:=bZ a;refine lI j ((g.ks i).addr j)<|lW ((g.ks i).atInt j) ?_;refine go ?_;cases a;exact ⟨rfl,rfl,i.below⟩
 cases a;exact ⟨rfl,rfl,i.below⟩
def Zmo (b:List Int) (a:Int):Option Int:=
  (Zas b (i64.wrap (aR a 32))).bind fun c=>Z2 (0≤(bK a 32)) (some (bK (u32.wrap (Y2 .u64 c (bK a 32))) 2))
theorem Z5y {g:Nat} {f:Option Addr} {col:Ze} {c:World} {d:R2} {a r:Int} (b:Zmo d a=some r) (k:Sl rU col c f g d):
    Calls prog 183 #[.slice f d.length g,.int .i64 a] c (fun e w'=>e= .returned ((.int .u32 r))∧Below c.heap.size c w'):=by
 refine Xc 4 (m:=14) func183 rfl rfl rfl rfl rfl ?_;rw [Zmo.eq_1] at b;have l:=St.start col c;refine go ?_;refine lV (.int .i64 (i64.wrap (aR a 32))) (Vy a 32 rfl rfl (by decide)) ?_;obtain ⟨h,m,b⟩:=bZ b;refine Zi (Zf6 m (k.k0.ks l)) fun _ _ ⟨j,i⟩=>⟨_,j,?_⟩;replace i:=Rr (Zh col) i;refine Xk rfl<|lV (.int .i64 (bK a 32)) (S9 a 32 rfl rfl (by decide)) ?_;obtain ⟨n,b⟩:=Z4 b;refine lV (.int .u64 (Y2 .u64 h (bK a 32))) (Q9 h (bK a 32) rfl rfl n)<|go ?_;refine lV (.int .u32 (bK (u32.wrap (Y2 .u64 h (bK a 32))) 2)) (S9 (u32.wrap (Y2 .u64 h (bK a 32))) 2 rfl rfl (by decide))<|go ?_;cases b;exact ⟨rfl,rfl,(l.grow i).below⟩
def Zkf (a:List Int):Option R2:=
  some a
def Zhd (N:Nat) (d:List Int):Nat→R2→Int→Int→Option R2
  | 0,_,_,_=>none
  | f+1,b,a,e=>if (decide (e<(d.length:Int)))=true then ((Zk d e).bind fun c=>Z2 ((b.length+[u32.wrap (bK (u64.wrap (a+(u64.wrap (2 * (u64.wrap c))))) 4294967296)].length) * 4≤140737488355328∧b.length+[u32.wrap (bK (u64.wrap (a+(u64.wrap (2 * (u64.wrap c))))) 4294967296)].length≤maxLen) ((Zhd N d f) (b++[u32.wrap (bK (u64.wrap (a+(u64.wrap (2 * (u64.wrap c))))) 4294967296)]) (u64.wrap (aR (u64.wrap (a+(u64.wrap (2 * (u64.wrap c))))) 4294967296)) (i64.wrap (e+1)))) else (if (decide (0<a))=true then (Z2 ((b.length+[u32.wrap a].length) * 4≤140737488355328∧b.length+[u32.wrap a].length≤maxLen) (Zkf (b++[u32.wrap a]))) else (Zkf b))
def Zke (N:Nat) (a:List Int) (b:Int):Option R2:=
  Zhd N a N ([]:List Int) (u64.wrap b) 0
theorem Zvn {N E:Nat} {o:Option Addr} {col:Ze} {c:World} {j:R2} {B:Int} {r:R2} (q:Nat) (a:Zke N j B=some r) (e:Sl rU col c o E j):
    Calls prog 181 #[.slice o j.length E,.int .u32 B] c (Vr .u32 45 q col c r):=by
 refine Xc 4 (m:=40) func181 rfl rfl rfl rfl rfl ?_;rw [Zke.eq_1] at a;have b:=St.start col c;refine go ?_;refine Zt [0,1000000] (fun F l x=>∃ m y z p d A g,g=F∧Zhd N j g p d A=some r∧St c (Zh col) m x∧Zb rU 45 1 m x y z p∧[5,6,7].map l=[.slice y p.length z,.int .u64 d,.int .i64 A]) N ⟨_,none,0,_,_,0,_,rfl,a,b,Zb.nil,rfl⟩ ?_;clear a;intro F l x J;obtain ⟨m,y,z,p,d,A,g,C,a,b,f,i⟩:=J;subst C;refine .lL [5,6,7] i ?_;replace e:=e.k0
 cases g with
 | zero=>rw [Zhd.eq_1] at a;cases a
 | succ g=>
  rw [Zhd.eq_2] at a;refine go ?_;refine Zm a (fun h a=>go ?_) fun h a=>?_
  ·obtain ⟨k,s,a⟩:=bZ a;refine lI s ((e.ks b).addr s)<|lW ((e.ks b).atInt s) ?_;refine go ?_;refine lV (.int .u64 (bK (u64.wrap (d+(u64.wrap (2 * (u64.wrap k))))) 4294967296)) (S9 (u64.wrap (d+(u64.wrap (2 * (u64.wrap k))))) 4294967296 rfl rfl (by decide))<|go ?_;refine V5 (col:=m) [u32.wrap (bK (u64.wrap (d+(u64.wrap (2 * (u64.wrap k))))) 4294967296)] 2 ?_;intro _ _ _ G K;obtain ⟨O,a⟩:=Z4 a;replace f:=f.gr G;refine Wy f (K.srcN (NB.int (k:=.u32))) O fun _ _ _ _ R S=>go ?_;refine lV (.int .u64 (u64.wrap (aR (u64.wrap (d+(u64.wrap (2 * (u64.wrap k))))) 4294967296))) (Vy (u64.wrap (d+(u64.wrap (2 * (u64.wrap k))))) 4294967296 rfl rfl (by decide))<|go ?_;replace b:=(b.grow G).kpp R;exact ⟨g,by omega,rfl,⟨_,_,_,_,_,_,_,rfl,a,b,S,rfl⟩⟩
  refine Zre (Zo7 ?_);refine Zx ?_;refine Wp.cutK [1000000] (fun l t=>∃ u v w n,Zkf n=some r∧St c (Zh col) u t∧Zb rU 45 1 u t v w n∧[5].map l=[.slice v n.length w]) ?_ ?_
  ·intro l t H;obtain ⟨u,v,w,n,a,b,Q,i⟩:=H;rw [Zkf.eq_1] at a;refine .lL [5] i<|go ?_;cases a;exact ⟨rfl,_,_,_,rfl,b.fin (cm [(1,q)]),b.fo Q⟩
  refine go ?_;refine Zm a (fun h a=>go ?_) fun h a=>?_
  ·refine V5 (col:=m) [u32.wrap d] 3 ?_;intro _ _ _ D L;obtain ⟨P,a⟩:=Z4 a;replace f:=f.gr D;refine Wy f (L.srcN (NB.int (k:=.u32))) P fun _ _ _ _ I M=>go ?_;replace b:=(b.grow D).kpp I;exact ⟨rfl,_,_,_,_,a,b,M,rfl⟩
  refine Xz ?_;exact ⟨rfl,_,_,_,_,a,b,f,rfl⟩
def Zg8 (N:Nat) (b c:List Int):Nat→Int→Option Int
  | 0,_=>none
  | f+1,a=>if (decide (0≤a))=true then ((Zas b a).bind fun d=>(Zas c a).bind fun e=>if (decide (d<e))=true then (some (-1)) else (if (decide (e<d))=true then (some 1) else ((Zg8 N b c f) (i64.wrap (a - 1))))) else (some 0)
def Zj5 (N:Nat) (a b:List Int) (c:Int):Option Int:=
  Zg8 N a b N (i64.wrap (c - 1))
def Zg7 (N:Nat) (a b:List Int):Option Int:=
  if (decide ((a.length:Int)<(b.length:Int)))=true then (Zj5 N a b (b.length:Int)) else (Zj5 N a b (a.length:Int))
theorem Zr2 {N p q:Nat} {k l:Option Addr} {col:Ze} {e:World} {d g:R2} {r:Int} (a:Zg7 N d g=some r) (v:Sl rU col e k p d) (w:Sl rU col e l q g):
    Calls prog 180 #[.slice k d.length p,.slice l g.length q] e (Wn e r):=by
 refine Xc 4 (m:=35) func180 rfl rfl rfl rfl rfl ?_;rw [Zg7.eq_1] at a;have b:=St.start col e;refine Zx<|W0<|Y6 rfl<|Zl<|Zx<|W0<|Y3 rfl<|lV _ (Q8 underlying38 rfl)<|Y6 rfl<|Zl<|Zx ?_;refine Wp.cutK [0,1,1000000] (fun j x=>∃ y s,Zj5 N d g s=some r∧St e (Zh col) y x∧[5].map j=[.int .i64 s]) ?_ ?_
 ·intro j x B;obtain ⟨y,s,a,b,i⟩:=B;rw [Zj5.eq_1] at a;refine .lL [5] i<|go ?_;refine Zt [0,1,1000000] (fun z j A=>∃ m t f,f=z∧Zg8 N d g f t=some r∧St e (Zh col) m A∧[6].map j=[.int .i64 t]) N ⟨_,_,_,rfl,a,b,rfl⟩ ?_;clear a;intro z j A D;obtain ⟨m,t,f,u,a,b,i⟩:=D;subst u;refine .lL [6] i ?_
  cases f with
  | zero=>rw [Zg8.eq_1] at a;cases a
  | succ f=>
   rw [Zg8.eq_2] at a;refine go ?_;refine Zm a (fun c a=>go ?_) fun c a=>go ?_
   ·obtain ⟨_,C,a⟩:=bZ a;refine Zi (Zf6 C (v.k0.ks b)) fun _ _ ⟨h,o⟩=>⟨_,h,?_⟩;replace o:=Rr m o;refine go ?_;obtain ⟨_,E,a⟩:=bZ a;replace b:=b.grow o;refine Zi (Zf6 E (w.k0.ks b)) fun _ _ ⟨h,n⟩=>⟨_,h,?_⟩;replace n:=Rr m n;refine go ?_;replace b:=b.grow n;refine Zm a (fun c a=>go ?_) fun c a=>go ?_
    ·cases a;exact ⟨rfl,rfl,b.below⟩
    refine Zm a (fun c a=>go ?_) fun c a=>go ?_
    ·cases a;exact ⟨rfl,rfl,b.below⟩
    exact ⟨f,by omega,rfl,⟨_,_,_,rfl,a,b,rfl⟩⟩
   cases a;exact ⟨rfl,rfl,b.below⟩
 refine go ?_;refine Zm a (fun c a=>go ?_) fun c a=>?_
 ·exact ⟨rfl,_,_,a,b,rfl⟩
 refine Xz ?_;exact ⟨rfl,_,_,a,b,rfl⟩
def Zpm (a:Int) (kk_L1:(List Int→Int→Int→Option Re)) (b:List Int) (c:Int):Option Re:=
  kk_L1 b c (i64.wrap (a+1))
def Zkd (a:List Int) (b e:Int) (kk_L1:(List Int→Int→Int→Option Re)) (c f d:Int):Option Re:=
  Z2 ((a.length+[u32.wrap (u64.wrap (d - (u64.wrap (c+b))))].length) * 4≤140737488355328∧a.length+[u32.wrap (u64.wrap (d - (u64.wrap (c+b))))].length≤maxLen) (Zpm e kk_L1 (a++[u32.wrap (u64.wrap (d - (u64.wrap (c+b))))]) f)
def Zar (N:Nat) (b c:List Int):Nat→R2→Int→Int→Option Re
  | 0,_,_,_=>none
  | i+1,d,e,a=>if (decide (a<(b.length:Int)))=true then ((Zas b a).bind fun f=>(Zas c a).bind fun g=>if (decide (f<(u64.wrap (g+e))))=true then (Zkd d e a (Zar N b c i) g 1 (u64.wrap (f+4294967296))) else (Zkd d e a (Zar N b c i) g 0 f)) else ((V9 N d).bind fun j=>some (j,true))
def Ze2 (N:Nat) (a b:List Int):Option Re:=
  (Zg7 N a b).bind fun c=>if (decide (c<0))=true then (some (([]:List Int),false)) else (Zar N a b N ([]:List Int) 0 0)
theorem Zol {N S B:Nat} {t u:Option Addr} {col:Ze} {c:World} {g i:R2} {r:Re} (H:Nat) (a:Ze2 N g i=some r) (p:Sl rU col c t S g) (q:Sl rU col c u B i):
    Calls prog 152 #[.slice t g.length S,.slice u i.length B] c (fun e w'=>∃ (col':Ze) (h:Option Addr) (f:Nat),e= .returned (.tuple #[.slice h r.1.length f,.bool r.2])∧Zj col c col' w'∧Zb rU 45 H col' w' h f r.1):=by
 refine Zis 4 5 (m:=43) (args:=[.slice t g.length S,.slice u i.length B]) func152 rfl rfl rfl rfl rfl ?_;rw [Ze2.eq_1] at a;have b:=St.start col c;refine go ?_;obtain ⟨_,d,a⟩:=bZ a;replace p:=p.k0;replace q:=q.k0;refine Zi (Zr2 d (p.ks b) (q.ks b)) fun _ _ ⟨d,I⟩=>⟨_,d,?_⟩;replace I:=Rr (Zh col) I;refine go ?_;replace b:=b.grow I;refine Zm a (fun l a=>go ?_) fun l a=>go ?_
 ·cases a;exact ⟨rfl,_,none,0,rfl,b.fin (cm []),Zb.nil⟩
 refine Zt [0,1,1000000] (fun Z n G=>∃ o E F s w v m,m=Z∧Zar N g i m s w v=some r∧St c (Zh col) o G∧Zb rU 45 1 o G E F s∧[6,7,8].map n=[.slice E s.length F,.int .u64 w,.int .i64 v]) N ⟨_,none,0,_,0,0,_,rfl,a,b,Zb.nil,rfl⟩ ?_;clear a;intro Z n G t;obtain ⟨o,E,F,s,w,v,m,U,a,b,k,j⟩:=t;subst U;refine .lL [6,7,8] j ?_
 cases m with
 | zero=>rw [Zar.eq_1] at a;cases a
 | succ m=>
  rw [Zar.eq_2] at a;refine go ?_;refine Zm a (fun l a=>?_) fun l a=>go ?_
  ·refine Xz<|Zx ?_;refine Wp.cutK [0,1,8,1000000] (fun n K=>∃ M O P y Q,Zpm v (Zar N g i m) y Q=some r∧St c (Zh col) M K∧Zb rU 45 1 M K O P y∧[6,7].map n=[.slice O y.length P,.int .u64 Q]) ?_ ?_
   ·intro n K T;obtain ⟨M,O,P,y,Q,a,b,u,j⟩:=T;rw [Zpm.eq_1] at a;refine .lL [6,7] j<|go ?_;exact ⟨m,by omega,rfl,⟨_,_,_,_,_,_,_,rfl,a,b,u,rfl⟩⟩
   refine go ?_;obtain ⟨_,h,a⟩:=bZ a;refine Zi (Zf6 h (p.ks b)) fun _ _ ⟨d,C⟩=>⟨_,d,?_⟩;replace C:=Rr o C;refine go ?_;obtain ⟨f,p,a⟩:=bZ a;replace b:=b.grow C;refine Zi (Zf6 p (q.ks b)) fun _ _ ⟨d,x⟩=>⟨_,d,?_⟩;replace x:=Rr o x;refine Xk rfl<|lV _ (S8 _ _ rfl rfl)<|Y6 rfl<|Zl<|Zx<|W0<|Y6 rfl<|Zl<|Zx ?_;replace k:=(k.gr C).gr x;replace b:=b.grow x;refine Wp.cutK [0,1,10,6,8,1000000] (fun n J=>∃ A L D,Zkd s w v (Zar N g i m) f L D=some r∧St c (Zh col) A J∧Zb rU 45 1 A J E F s∧[7,9].map n=[.int .u64 L,.int .u64 D]) ?_ ?_
   ·intro n J T;obtain ⟨A,L,D,a,b,k,j⟩:=T;rw [Zkd.eq_1] at a;refine .lL [7,9] j<|go ?_;refine V5 (col:=A) [u32.wrap (u64.wrap (D - (u64.wrap (f+w))))] 2 ?_;intro _ _ _ Y j;obtain ⟨m,a⟩:=Z4 a;replace k:=k.gr Y;refine Wy k (j.srcN (NB.int (k:=.u32))) m fun _ _ _ _ c W=>go ?_;replace b:=(b.grow Y).kpp c;exact ⟨rfl,_,_,_,_,_,a,b,W,rfl⟩
   refine go ?_;refine Zm a (fun l a=>go ?_) fun l a=>?_
   ·exact ⟨rfl,_,1,_,a,b,k,rfl⟩
   refine Xz ?_;exact ⟨rfl,_,0,_,a,b,k,rfl⟩
  obtain ⟨_,V,a⟩:=bZ a;refine Zi (Tc 3 V (k.toSlF (Zg.int .u32))) fun _ _ ⟨X,_,_,d,z,R⟩=>⟨_,d,?_⟩;replace R:=R.thaw (Z1 .u32) z ((Fz.refl (col:=o)).froz 1);replace z:=z.thawR (col:=o);generalize Xa G.heap.size o X=k at *;refine go ?_;cases a;replace b:=b.grow z;exact ⟨rfl,_,_,_,rfl,b.fin (cm [(3,H)]),b.fo R⟩
def Zj7 (a:Int) (kk_L1:(List Int→Int→R2→Option Ra)) (b c:List Int):Option Ra:=
  kk_L1 b (i64.wrap (a - 1)) c
def Zc2 (N:Nat) (d b:List Int):Nat→R2→Int→R2→Option Ra
  | 0,_,_,_=>none
  | f+1,g,a,c=>if (decide (0≤a))=true then ((Zmo d a).bind fun i=>(Zke N g i).bind fun j=>(V9 N j).bind fun e=>(Zg7 N e b).bind fun k=>if (decide (0≤k))=true then ((Ze2 N e b).bind fun l=>(Zk c (i64.wrap (aR a 32))).bind fun m=>Z2 (0≤(bK a 32)) ((some (c.set (aA (i64.wrap (aR a 32))) (u32.wrap (m+(Yi .u32 1 (bK a 32)))))).bind fun n=>Zj7 a (Zc2 N d b f) l.1 n)) else (Zj7 a (Zc2 N d b f) e c)) else ((V9 N c).bind fun o=>some (o,g,0))
def Zj6 (N:Nat) (b d:List Int):Option Ra:=
  (V9 N d).bind fun c=>if (decide ((c.length:Int)=0))=true then (some (([]:List Int),([]:List Int),11)) else ((Zmp N b).bind fun a=>Z2 ((aA (i64.wrap (aR (i64.wrap (a+31)) 32))) * 4≤281474976710656∧(aA (i64.wrap (aR (i64.wrap (a+31)) 32)))≤maxLen∧0≤(i64.wrap (aR (i64.wrap (a+31)) 32))) (Zc2 N b c N ([]:List Int) (i64.wrap (a - 1)) (aD (aA (i64.wrap (aR (i64.wrap (a+31)) 32))) (0:Int))))
theorem Zvk {N d V:Nat} {O P:Option Addr} {col:Ze} {i:World} {q b:R2} {r:Ra} (c1 c2:Nat) (a:Zj6 N q b=some r) (u:Sl rU col i O d q) (Y:Sl rU col i P V b):
    Calls prog 150 #[.slice O q.length d,.slice P b.length V] i (fun e w'=>∃ (col':Ze) (m:Option Addr) (k:Nat) (n:Option Addr) (l:Nat),e= .returned (.tuple #[.slice m r.1.length k,.slice n r.2.1.length l,.int .i64 r.2.2])∧Zj col i col' w'∧Zb rU 45 c1 col' w' m k r.1∧Zb rU 45 c2 col' w' n l r.2.1):=by
 refine Zv5 4 5 6 (m:=61) (args:=[.slice O q.length d,.slice P b.length V]) func150 rfl rfl rfl rfl rfl ?_;rw [Zj6.eq_1] at a;have b:=St.start col i;refine go ?_;obtain ⟨o,f,a⟩:=bZ a;refine Zi (Tc 1 f (Y.k0.ks b)) ?_;rintro _ av ⟨W,aj,ak,rfl,aw,f⟩;refine ⟨_,rfl,go ?_⟩;replace u:=u.k0;replace b:=b.grow aw;refine Zm a (fun p a=>go ?_) fun p a=>go ?_
 ·cases a;exact ⟨rfl,_,none,0,none,0,rfl,b.fin (cm []),Zb.nil,Zb.nil⟩
 obtain ⟨x,z,a⟩:=bZ a;refine Zi (Z5z z (u.ks b)) fun _ C ⟨d,j⟩=>⟨_,d,?_⟩;replace j:=Rr W j;refine go ?_;refine lV (.int .i64 (i64.wrap (aR (i64.wrap (x+31)) 32))) (Vy (i64.wrap (x+31)) 32 rfl rfl (by decide)) ?_;obtain ⟨g,a⟩:=Z4 a;refine Sc (col:=W) (w:=C) (r:=rU) (n:=(aA (i64.wrap (aR (i64.wrap (x+31)) 32)))) (x0:=0) 2 rfl underlying38 Tryz.t45 rfl rfl rfl rfl rfl (congrArg (Value.int _) (bM g.2.2).symm) (congrArg (Value.int _) (bM g.2.2).symm) g.1 g.2.1 (Zcb .u32 0) fun _ _ _ c X=>go ?_;replace f:=(f.gr j).gr c;replace b:=(b.grow j).grow c;refine Zt [0,7,1000000] (fun K U C=>∃ j s w h g Y Z B v,v=K∧Zc2 N q o v h g B=some r∧St i (Zh col) j C∧Zb rU 45 3 j C s w h∧Zb rU 45 1 j C aj ak o∧Zb rU 45 2 j C Y Z B∧[10,11,9].map U=[.slice s h.length w,.int .i64 g,.slice Y B.length Z]) N ⟨_,none,0,_,_,_,_,_,_,rfl,a,b,Zb.nil,f,X,rfl⟩ ?_;clear a;intro K U C G;obtain ⟨j,s,w,h,g,Y,Z,B,v,y,a,b,O,f,h,Q⟩:=G;subst y;refine .lL [10,11,9] Q ?_
 cases v with
 | zero=>rw [Zc2.eq_1] at a;cases a
 | succ v=>
  rw [Zc2.eq_2] at a;refine go ?_;refine Zm a (fun p a=>?_) fun p a=>go ?_
  ·refine Xz<|Zx ?_;refine Wp.cutK [0,11,7,1000000] (fun U R=>∃ S G H k I J l,Zj7 g (Zc2 N q o v) k l=some r∧St i (Zh col) S R∧Zb rU 45 3 S R G H k∧Zb rU 45 1 S R aj ak o∧Zb rU 45 2 S R I J l∧[10,9].map U=[.slice G k.length H,.slice I l.length J]) ?_ ?_
   ·intro U R F;obtain ⟨S,G,H,k,I,J,l,a,b,L,f,M,Q⟩:=F;rw [Zj7.eq_1] at a;refine .lL [10,9] Q<|go ?_;exact ⟨v,by omega,rfl,⟨_,_,_,_,_,_,_,_,_,rfl,a,b,L,f,M,rfl⟩⟩
   refine go ?_;obtain ⟨_,A,a⟩:=bZ a;refine Zi (Z5y A (u.ks b)) fun _ U ⟨d,z⟩=>⟨_,d,?_⟩;replace z:=Rr j z;obtain ⟨_,H,a⟩:=bZ a;replace O:=O.gr z;refine Zi (Zvn 4 H (O.toSlF (Zg.int .u32))) fun _ c ⟨Q,_,_,d,y,E⟩=>⟨_,d,?_⟩;replace E:=E.thaw (Z1 .u32) y ((Fz.refl (col:=j)).froz 3);replace y:=y.thawR (col:=j);generalize Xa U.heap.size j Q=F at *;obtain ⟨_,D,a⟩:=bZ a;refine Zi (Tc 5 D (E.toSlF (Zg.int .u32))) fun _ _ ⟨R,_,_,d,x,s⟩=>⟨_,d,?_⟩;replace s:=s.thaw (Z1 .u32) x ((Fz.refl (col:=F)).froz 4);replace x:=x.thawR (col:=F);generalize Xa c.heap.size F R=u at *;refine go ?_;obtain ⟨_,I,a⟩:=bZ a;replace f:=((f.gr z).gr y).gr x;refine Zi (Zr2 I ((s.toSlF (Zg.int .u32)).froz 1) ((f.froz 5).toSlF (Zg.int .u32))) fun _ k ⟨d,w⟩=>⟨_,d,?_⟩;replace w:=Rr u w;refine go ?_;replace h:=(((h.gr z).gr y).gr x).gr w;replace b:=(((b.grow z).grow y).grow x).grow w;replace f:=f.gr w;replace s:=s.gr w;refine Zm a (fun p a=>go ?_) fun p a=>?_
   ·obtain ⟨p,E,a⟩:=bZ a;refine Zi (Zol 6 E ((s.toSlF (Zg.int .u32)).froz 1) ((f.froz 5).toSlF (Zg.int .u32))) fun _ _ ⟨S,i,m,d,A,o⟩=>⟨_,d,?_⟩;replace o:=o.thaw (Z1 .u32) A (((Fz.refl (col:=u)).froz 5).froz 1);replace A:=A.thawR (col:=u);generalize Xa k.heap.size u S=X at *;refine lM (.tuple #[.slice i p.1.length m,.bool p.2])<|lV (.slice i p.1.length m) (Xt rfl rfl)<|lV (.bool p.2) (Xt rfl rfl)<|go ?_;refine Y8 (col:=X) [(0,1),(1,1),(2,1),(3,1),(4,1),(5,1),(6,1),(7,0),(8,1),(9,1),(10,1),(11,1),(12,1),(13,2)] (by kernel_rfl) (by kernel_rfl)<|xu rfl rfl (fun _=>Vd rfl) ?_;refine xu rfl rfl (fun _=>Yd rfl) ?_;refine xu (v:=(.int .i64 (i64.wrap (aR g 32)))) rfl rfl (fun _=>Vy g 32 rfl rfl (by decide)) ?_;refine xu rfl rfl (fun _=>Vd rfl) ?_;refine xu rfl rfl (fun _=>Yd rfl) ?_;refine xu (v:=(.int .i64 (i64.wrap (aR g 32)))) rfl rfl (fun _=>Vy g 32 rfl rfl (by decide)) ?_;obtain ⟨v,t,a⟩:=bZ a;replace h:=h.gr A;refine xu rfl rfl (fun _=>X8 underlying38 sizeOf45 rfl rfl (Z0 t).1 (Z0 t).2.1 (h.addr t)) ?_;refine xW (fun _ c=>(h.gr (c.bl X)).atInt t) ?_;refine xu rfl rfl (fun _=>Yd rfl) ?_;refine xu (v:=(.int .i64 (bK g 32))) rfl rfl (fun _=>S9 g 32 rfl rfl (by decide)) ?_;obtain ⟨J,a⟩:=Z4 a;refine xu (v:=(.int .u32 (Yi .u32 1 (bK g 32)))) rfl rfl (fun _=>Zid 1 (bK g 32) rfl rfl J) ?_;refine xu rfl rfl (fun _=>S8 _ _ rfl rfl) ?_;refine xu rfl rfl (fun _=>X8 underlying38 sizeOf45 rfl rfl (Z0 t).1 (Z0 t).2.1 (h.addr t)) ?_;refine xe rfl rfl ?_;intro _ D;have c:=D.bl X;obtain ⟨M,n,a⟩:=bZ a;have n:M=B.set (aA (i64.wrap (aR g 32))) (u32.wrap (v+(Yi .u32 1 (bK g 32)))):=(Option.some.inj n).symm;replace h:=h.gr c;refine Wb (x1:=u32.wrap (v+(Yi .u32 1 (bK g 32)))) h t ?_;intro _ L T t;rw [← n] at t;refine .ld (d:=9) (v:=(.slice Y M.length Z)) (congrArg (fun K=>Value.slice Y K Z) (show B.length=M.length by rw [n,nS])) ?_;refine Zl<|xk X<|Y4 ?_;replace f:=((f.gr A).gr c).kp L;replace b:=((b.grow A).grow c).kp L T;replace o:=(o.gr c).kp L;intro _ c;replace c:=c.bl X;replace f:=f.gr c;replace f:=f.recol 6 3;replace t:=t.gr c
    replace o:=o.gr c;replace o:=o.recolSelf 3 (by decide);replace b:=b.grow c;replace b:=b.recol 6 3 (by decide) (by decide);exact ⟨rfl,_,_,_,_,_,_,_,a,b,o,f,t.recol 6 3,rfl⟩
   refine Xz ?_;replace h:=h.recol 5 3;replace s:=s.recolSelf 3 (by decide);replace b:=b.recol 5 3 (by decide) (by decide);exact ⟨rfl,_,_,_,_,_,_,_,a,b,s,f.recol 5 3,h,rfl⟩
  obtain ⟨_,B,a⟩:=bZ a;refine Zi (Tc 7 B (h.toSlF (Zg.int .u32))) fun _ _ ⟨P,_,_,d,T,K⟩=>⟨_,d,?_⟩;replace K:=K.thaw (Z1 .u32) T ((Fz.refl (col:=j)).froz 2);replace T:=T.thawR (col:=j);generalize Xa C.heap.size j P=Z at *;refine go ?_;cases a;replace b:=b.grow T;exact ⟨rfl,_,_,_,_,_,rfl,b.fin (cm [(7,c1),(3,c2)]),b.fo K,b.fo (O.gr T)⟩
def Zms (a:Bool):Option Bool:=
  some a
def Ze3 (a:List Int):Option Bool:=
  if (decide ((a.length:Int)=0))=true then (Zms true) else ((Zk a 0).bind fun b=>Zms (decide ((bK b 2)=0)))
theorem Zom {j:Nat} {f:Option Addr} {col:Ze} {c:World} {b:R2} {r:Bool} (a:Ze3 b=some r) (d:Sl rU col c f j b):
    Calls prog 178 #[.slice f b.length j] c (Vk c r):=by
 refine Xc 2 (m:=13) func178 rfl rfl rfl rfl rfl ?_;rw [Ze3.eq_1] at a;have e:=St.start col c;refine Zx<|W0<|Zd9 rfl<|Zl<|Zx ?_;replace d:=d.k0;refine Wp.cutK [1000000] (fun m n=>∃ o g,Zms g=some r∧St c (Zh col) o n∧[2].map m=[.bool g]) ?_ ?_
 ·intro m n p;obtain ⟨o,g,a,e,l⟩:=p;rw [Zms.eq_1] at a;refine .lL [2] l<|W1 ?_;cases a;exact ⟨rfl,rfl,e.below⟩
 refine go ?_;refine Ye a (fun k a=>go ?_) fun k a=>go ?_
 ·refine lV (.bool true) (X0 (congrArg Value.bool k) rfl)<|go ?_;exact ⟨rfl,_,_,a,e,rfl⟩
 obtain ⟨i,h,a⟩:=bZ a;refine lI h ((d.ks e).addr h) ?_;refine go ?_;refine lW ((d.ks e).atInt h)<|go ?_;refine lV (.int .u32 (bK i 2)) (S9 i 2 rfl rfl (by decide))<|go ?_;refine lV (.bool (decide ((bK i 2)=0))) (X7 (congrArg Value.bool k) rfl)<|go ?_;exact ⟨rfl,_,_,a,e,rfl⟩
def Zhe (N:Nat) (c:List Int):Nat→R2→Int→Int→Option R2
  | 0,_,_,_=>none
  | f+1,b,d,a=>if (decide (0≤a))=true then ((Zk c a).bind fun e=>(Zk b a).bind fun j=>(some (b.set (aA a) (u32.wrap (u64.wrap (aR (u64.wrap ((u64.wrap (d * 4294967296))+(u64.wrap e))) 2))))).bind fun g=>(Zhe N c f) g (bK (u64.wrap ((u64.wrap (d * 4294967296))+(u64.wrap e))) 2) (i64.wrap (a - 1))) else ((V9 N b).bind fun i=>some i)
def Ze4 (N:Nat) (a:List Int):Option R2:=
  Z2 (a.length * 4≤281474976710656∧a.length≤maxLen) (Zhe N a N (aD a.length (0:Int)) 0 (i64.wrap ((a.length:Int) - 1)))
theorem Zon {N C:Nat} {m:Option Addr} {col:Ze} {c:World} {k r:R2} (t:Nat) (a:Ze4 N k=some r) (e:Sl rU col c m C k):
    Calls prog 179 #[.slice m k.length C] c (Vr .u32 45 t col c r):=by
 refine Xc 2 (m:=34) func179 rfl rfl rfl rfl rfl ?_;rw [Ze4.eq_1] at a;have b:=St.start col c;refine go ?_;obtain ⟨E,a⟩:=Z4 a;refine Sc (col:=(Zh col)) (w:=c) (r:=rU) (n:=k.length) (x0:=0) 1 rfl underlying38 Tryz.t45 rfl rfl rfl rfl rfl rfl rfl E.1 E.2 (Zcb .u32 0) fun _ _ _ H L=>go ?_;replace b:=b.grow H;refine Zt [0,1000000] (fun q F s=>∃ i j l g d p h,h=q∧Zhe N k h g d p=some r∧St c (Zh col) i s∧Zb rU 45 1 i s j l g∧[3,4,5].map F=[.slice j g.length l,.int .u64 d,.int .i64 p]) N ⟨_,_,_,_,0,_,_,rfl,a,b,L,rfl⟩ ?_;clear a;intro q F s J;obtain ⟨i,j,l,g,d,p,h,B,a,b,y,D⟩:=J;subst B;refine .lL [3,4,5] D ?_;replace e:=e.k0
 cases h with
 | zero=>rw [Zhe.eq_1] at a;cases a
 | succ h=>
  rw [Zhe.eq_2] at a;refine go ?_;refine Zm a (fun A a=>go ?_) fun A a=>go ?_
  ·obtain ⟨f,u,a⟩:=bZ a;refine lI u ((e.ks b).addr u)<|lW ((e.ks b).atInt u) ?_;refine go ?_;refine lV (.int .u64 (u64.wrap (aR (u64.wrap ((u64.wrap (d * 4294967296))+(u64.wrap f))) 2))) (Vy (u64.wrap ((u64.wrap (d * 4294967296))+(u64.wrap f))) 2 rfl rfl (by decide))<|go ?_;obtain ⟨_,w,a⟩:=bZ a;refine lI w (y.addr w) ?_;obtain ⟨x,o,a⟩:=bZ a;have o:x=g.set (aA p) (u32.wrap (u64.wrap (aR (u64.wrap ((u64.wrap (d * 4294967296))+(u64.wrap f))) 2))):=(Option.some.inj o).symm;refine Wb (x1:=u32.wrap (u64.wrap (aR (u64.wrap ((u64.wrap (d * 4294967296))+(u64.wrap f))) 2))) y w ?_;intro _ M O G;rw [← o] at G;refine .ld (d:=3) (v:=(.slice j x.length l)) (congrArg (fun q=>Value.slice j q l) (show g.length=x.length by rw [o,nS])) ?_;refine go ?_;refine lV (.int .u64 (bK (u64.wrap ((u64.wrap (d * 4294967296))+(u64.wrap f))) 2)) (S9 (u64.wrap ((u64.wrap (d * 4294967296))+(u64.wrap f))) 2 rfl rfl (by decide))<|go ?_;replace b:=b.kp M O;exact ⟨h,by omega,rfl,⟨_,_,_,_,_,_,_,rfl,a,b,G,rfl⟩⟩
  obtain ⟨_,I,a⟩:=bZ a;refine Zi (Tc 2 I (y.toSlF (Zg.int .u32))) fun _ _ ⟨K,_,_,z,n,v⟩=>⟨_,z,?_⟩;replace v:=v.thaw (Z1 .u32) n ((Fz.refl (col:=i)).froz 1);replace n:=n.thawR (col:=i);generalize Xa s.heap.size i K=P at *;refine go ?_;cases a;replace b:=b.grow n;exact ⟨rfl,_,_,_,rfl,b.fin (cm [(2,t)]),b.fo v⟩
def Zj9 (N:Nat) (kk_L2:(List Int→R2→Option R2)) (a b:List Int):Option R2:=
  (Ze2 N b a).bind fun c=>kk_L2 a c.1
def Zmr (N:Nat) (kk_L2:(List Int→R2→Option R2)) (b a:List Int) (kk_L4:(List Int→Option R2)) (c:Bool):Option R2:=
  if c=true then ((Ze4 N a).bind fun d=>kk_L4 d) else ((Zg7 N b a).bind fun e=>if (decide (0<e))=true then (Zj9 N kk_L2 a b) else (Zj9 N kk_L2 b a))
def Zbz (N:Nat) (kk_L2:(List Int→R2→Option R2)) (a:List Int):Nat→R2→Option R2
  | 0,_=>none
  | c+1,b=>if (decide (0<(b.length:Int)))=true then ((Ze3 b).bind fun d=>Zmr N kk_L2 a b (Zbz N kk_L2 a c) d) else (Zmr N kk_L2 a b (Zbz N kk_L2 a c) false)
def Zg9 (N:Nat) (b:List Int) (kk_L2:(List Int→R2→Option R2)):Nat→R2→Option R2
  | 0,_=>none
  | c+1,a=>(Ze3 a).bind fun d=>if d=true then ((Ze4 N a).bind fun e=>(Zg9 N b kk_L2 c) e) else (Zbz N kk_L2 a N b)
def Zha (N:Nat) (a:Int):Nat→R2→Int→Option R2
  | 0,_,_=>none
  | d+1,b,c=>if (decide (c<a))=true then ((Zke N b 0).bind fun e=>(Zha N a d) e (i64.wrap (c+1))) else (some b)
def Ux (N:Nat) (a:Int):Nat→R2→R2→Option R2
  | 0,_,_=>none
  | d+1,b,c=>if (decide (0<(c.length:Int)))=true then (Zg9 N c (Ux N a d) N b) else (Zha N a N b 0)
def Zj8 (N:Nat) (a b:List Int) (c:Int) (kk_L1:(List Int→R2→Int→Option R2)) (d:Bool):Option R2:=
  if d=true then ((Ze4 N a).bind fun e=>(Ze4 N b).bind fun f=>kk_L1 e f (i64.wrap (c+1))) else (Ux N c N a b)
def Zc3 (N:Nat):Nat→R2→R2→Int→Option R2
  | 0,_,_,_=>none
  | c+1,a,b,d=>(Ze3 a).bind fun e=>if e=true then ((Ze3 b).bind fun f=>Zj8 N a b d (Zc3 N c) f) else (Zj8 N a b d (Zc3 N c) false)
def Zmq (N:Nat) (c d:List Int):Option R2:=
  (V9 N c).bind fun a=>(V9 N d).bind fun b=>if (decide ((a.length:Int)=0))=true then (some b) else (if (decide ((b.length:Int)=0))=true then (some a) else (Zc3 N N a b 0))
theorem Z50 {N k l:Nat} {g j:Option Addr} {col:Ze} {h:World} {b e r:R2} (V:Nat) (a:Zmq N b e=some r) (n:Sl rU col h g k b) (p:Sl rU col h j l e):
    Calls prog 149 #[.slice g b.length k,.slice j e.length l] h (Vr .u32 45 V col h r):=by
 refine Xc 4 (m:=69) func149 rfl rfl rfl rfl rfl ?_;rw [Zmq.eq_1] at a;have b:=St.start col h;refine go ?_;obtain ⟨_,c,a⟩:=bZ a;refine Zi (Tc 1 c (n.k0.ks b)) ?_;rintro _ co ⟨cp,cq,cr,rfl,bv,U⟩;refine ⟨_,rfl,go ?_⟩;obtain ⟨_,e,a⟩:=bZ a;replace b:=b.grow bv;refine Zi (Tc 2 e (p.k0.ks b)) ?_;rintro _ ct ⟨cu,cv,cw,rfl,bm,bn⟩;refine ⟨_,rfl,go ?_⟩;replace U:=U.gr bm;replace b:=b.grow bm;refine Zm a (fun f a=>go ?_) fun f a=>go ?_
 ·cases a;exact ⟨rfl,_,_,_,rfl,b.fin (cm [(2,V)]),b.fo bn⟩
 refine Zm a (fun f a=>go ?_) fun f a=>go ?_
 ·cases a;exact ⟨rfl,_,_,_,rfl,b.fin (cm [(1,V)]),b.fo U⟩
 refine Zt [1000000] (fun k g p=>∃ bl M O c P Q i n d,d=k∧Zc3 N d c i n=some r∧St h (Zh col) bl p∧Zb rU 45 1 bl p M O c∧Zb rU 45 2 bl p P Q i∧[5,6,7].map g=[.slice M c.length O,.slice P i.length Q,.int .i64 n]) N ⟨_,_,_,_,_,_,_,0,_,rfl,a,b,U,bn,rfl⟩ ?_;clear a;intro k g p z;obtain ⟨bl,M,O,c,P,Q,i,n,d,j,a,b,p,l,e⟩:=z;subst j;refine .lL [5,6,7] e ?_
 cases d with
 | zero=>rw [Zc3.eq_1] at a;cases a
 | succ d=>
  rw [Zc3.eq_2] at a;refine Zx<|Zx ?_;refine Wp.cutK [5,6,7,1000000] (fun g R=>∃ X v,Zj8 N c i n (Zc3 N d) v=some r∧St h (Zh col) X R∧Zb rU 45 1 X R M O c∧Zb rU 45 2 X R P Q i∧[26].map g=[.bool v]) ?_ ?_
  ·intro g R x;obtain ⟨X,v,a,b,p,l,e⟩:=x;rw [Zj8.eq_1] at a;refine .lL [26] e ?_;refine Zm a (fun f a=>go ?_) fun f a=>go ?_
   ·obtain ⟨_,u,a⟩:=bZ a;refine Zi (Zon 3 u (p.toSlF (Zg.int .u32))) fun _ J ⟨E,_,_,c,S,Z⟩=>⟨_,c,?_⟩;replace Z:=Z.thaw (Z1 .u32) S ((Fz.refl (col:=X)).froz 1);replace S:=S.thawR (col:=X);generalize Xa R.heap.size X E=E at *;refine go ?_;obtain ⟨_,B,a⟩:=bZ a;replace l:=l.gr S;refine Zi (Zon 4 B (l.toSlF (Zg.int .u32))) fun _ _ ⟨H,_,_,c,M,W⟩=>⟨_,c,?_⟩;replace W:=W.thaw (Z1 .u32) M ((Fz.refl (col:=E)).froz 2);replace M:=M.thawR (col:=E);generalize Xa J.heap.size E H=L at *;refine go ?_;replace Z:=Z.gr M;replace Z:=Z.recolSelf 1 (by decide);replace W:=W.recol 3 1;replace b:=(b.grow S).grow M;replace b:=b.recol 3 1 (by decide) (by decide);replace W:=W.recolSelf 2 (by decide);replace b:=b.recol 4 2 (by decide) (by decide);exact ⟨d,by omega,rfl,⟨_,_,_,_,_,_,_,_,_,rfl,a,b,Z.recol 4 2,W,rfl⟩⟩
   refine Zt [7,1000000] (fun k g G=>∃ H B D I R S t m,m=k∧Ux N n m I t=some r∧St h (Zh col) H G∧Zb rU 45 1 H G B D I∧Zb rU 45 2 H G R S t∧[5,6].map g=[.slice B I.length D,.slice R t.length S]) N ⟨_,_,_,_,_,_,_,_,rfl,a,b,p,l,rfl⟩ ?_;clear a;intro k g G z;obtain ⟨H,B,D,I,R,S,t,m,j,a,b,v,o,e⟩:=z;subst j;refine .lL [5,6] e ?_
   cases m with
   | zero=>rw [Ux.eq_1] at a;cases a
   | succ m=>
    rw [Ux.eq_2] at a;refine go ?_;refine Zm a (fun f a=>go ?_) fun f a=>go ?_
    ·refine Zt [6,7,1000000] (fun k g Y=>∃ A U W y u,u=k∧Zg9 N t (Ux N n m) u y=some r∧St h (Zh col) A Y∧Zb rU 45 1 A Y U W y∧Zb rU 45 2 A Y R S t∧[5].map g=[.slice U y.length W]) N ⟨_,_,_,_,_,rfl,a,b,v,o,rfl⟩ ?_;clear a;intro k g Y z;obtain ⟨A,U,W,y,u,j,a,b,d,o,e⟩:=z;subst j;refine .lL [5] e ?_
     cases u with
     | zero=>rw [Zg9.eq_1] at a;cases a
     | succ u=>
      rw [Zg9.eq_2] at a;refine go ?_;obtain ⟨_,i,a⟩:=bZ a;refine Zi (Zom i (d.toSlF (Zg.int .u32))) fun _ K ⟨c,J⟩=>⟨_,c,?_⟩;replace J:=Rr A J;refine Zl ?_;replace d:=d.gr J;replace o:=o.gr J;replace b:=b.grow J;refine Zm a (fun f a=>go ?_) fun f a=>go ?_
      ·obtain ⟨_,w,a⟩:=bZ a;refine Zi (Zon 5 w (d.toSlF (Zg.int .u32))) fun _ _ ⟨G,_,_,c,L,O⟩=>⟨_,c,?_⟩;replace O:=O.thaw (Z1 .u32) L ((Fz.refl (col:=A)).froz 1);replace L:=L.thawR (col:=A);generalize Xa K.heap.size A G=M at *;refine go ?_;replace o:=o.gr L;replace o:=o.recol 5 1;replace O:=O.recolSelf 1 (by decide);replace b:=b.grow L;replace b:=b.recol 5 1 (by decide) (by decide);exact ⟨u,by omega,rfl,⟨_,_,_,_,_,rfl,a,b,O,o,rfl⟩⟩
      refine Zt [5,7,1000000] (fun k g Z=>∃ X K L s q,q=k∧Zbz N (Ux N n m) y q s=some r∧St h (Zh col) X Z∧Zb rU 45 1 X Z U W y∧Zb rU 45 2 X Z K L s∧[6].map g=[.slice K s.length L]) N ⟨_,_,_,_,_,rfl,a,b,d,o,rfl⟩ ?_;clear a;intro k g Z z;obtain ⟨X,K,L,s,q,j,a,b,d,i,e⟩:=z;subst j;refine .lL [6] e ?_
      cases q with
      | zero=>rw [Zbz.eq_1] at a;cases a
      | succ q=>
       rw [Zbz.eq_2] at a;refine Zx<|Zx ?_;refine Wp.cutK [5,6,7,1000000] (fun g Q=>∃ B w,Zmr N (Ux N n m) y s (Zbz N (Ux N n m) y q) w=some r∧St h (Zh col) B Q∧Zb rU 45 1 B Q U W y∧Zb rU 45 2 B Q K L s∧[46].map g=[.bool w]) ?_ ?_
       ·intro g Q x;obtain ⟨B,w,a,b,d,i,e⟩:=x;rw [Zmr.eq_1] at a;refine .lL [46] e ?_;refine Zm a (fun f a=>go ?_) fun f a=>?_
        ·obtain ⟨_,y,a⟩:=bZ a;refine Zi (Zon 6 y (i.toSlF (Zg.int .u32))) fun _ _ ⟨F,_,_,c,K,P⟩=>⟨_,c,?_⟩;replace P:=P.thaw (Z1 .u32) K ((Fz.refl (col:=B)).froz 2);replace K:=K.thawR (col:=B);generalize Xa Q.heap.size B F=O at *;refine go ?_;replace d:=d.gr K;replace d:=d.recol 6 2;replace P:=P.recolSelf 2 (by decide);replace b:=b.grow K;replace b:=b.recol 6 2 (by decide) (by decide);exact ⟨q,by omega,rfl,⟨_,_,_,_,_,rfl,a,b,d,P,rfl⟩⟩
        refine Zre (Zo7 ?_);refine Zx ?_;refine Wp.cutK [7,1000000] (fun g T=>∃ Y C F D G H E,Zj9 N (Ux N n m) D E=some r∧St h (Zh col) Y T∧Zb rU 45 1 Y T C F D∧Zb rU 45 2 Y T G H E∧[5,6].map g=[.slice C D.length F,.slice G E.length H]) ?_ ?_
        ·intro g T x;obtain ⟨Y,C,F,D,G,H,E,a,b,s,C,e⟩:=x;rw [Zj9.eq_1] at a;refine .lL [5,6] e<|go ?_;obtain ⟨J,A,a⟩:=bZ a;refine Zi (Zol 7 A ((C.toSlF (Zg.int .u32)).froz 1) ((s.froz 2).toSlF (Zg.int .u32))) fun _ _ ⟨I,o,q,c,w,x⟩=>⟨_,c,?_⟩;replace x:=x.thaw (Z1 .u32) w (((Fz.refl (col:=Y)).froz 2).froz 1);replace w:=w.thawR (col:=Y);generalize Xa T.heap.size Y I=P at *;refine lM (.tuple #[.slice o J.1.length q,.bool J.2])<|lV (.slice o J.1.length q) (Xt rfl rfl)<|lV (.bool J.2) (Xt rfl rfl)<|go ?_;replace s:=s.gr w;replace x:=x.recolSelf 2 (by decide);replace b:=b.grow w;replace b:=b.recol 7 2 (by decide) (by decide);exact ⟨m,by omega,rfl,⟨_,_,_,_,_,_,_,_,rfl,a,b,s.recol 7 2,x,rfl⟩⟩
        refine go ?_;obtain ⟨_,m,a⟩:=bZ a;refine Zi (Zr2 m ((d.toSlF (Zg.int .u32)).froz 2) ((i.froz 1).toSlF (Zg.int .u32))) fun _ _ ⟨c,q⟩=>⟨_,c,?_⟩;replace q:=Rr B q;refine go ?_;replace d:=d.gr q;replace i:=i.gr q;replace b:=b.grow q;refine Zm a (fun f a=>go ?_) fun f a=>?_
        ·replace i:=i.recol 1 8;replace d:=d.recolSelf 8 (by decide);replace b:=b.recol 1 8 (by decide) (by decide);replace i:=i.recolSelf 1 (by decide);replace d:=d.recol 2 1;replace b:=b.recol 2 1 (by decide) (by decide);replace i:=i.recol 8 2;replace d:=d.recolSelf 2 (by decide);replace b:=b.recol 8 2 (by decide) (by decide);exact ⟨rfl,_,_,_,_,_,_,_,a,b,i,d,rfl⟩
        refine Xz ?_;exact ⟨rfl,_,_,_,_,_,_,_,a,b,d,i,rfl⟩
       refine go ?_;refine Ye a (fun I a=>go ?_) fun I a=>go ?_
       ·obtain ⟨D,t,a⟩:=bZ a;refine Zi (Zom t (i.toSlF (Zg.int .u32))) fun _ _ ⟨c,t⟩=>⟨_,c,?_⟩;replace t:=Rr X t;refine lV (.bool D) (X0 (congrArg Value.bool I) rfl)<|Zl ?_;replace d:=d.gr t;replace i:=i.gr t;replace b:=b.grow t;exact ⟨rfl,_,_,a,b,d,i,rfl⟩
       refine lV (.bool false) (X7 (congrArg Value.bool I) rfl)<|Zl ?_;exact ⟨rfl,_,_,a,b,d,i,rfl⟩
    refine Zt [7,1000000] (fun k g T=>∃ m x y C A o,o=k∧Zha N n o C A=some r∧St h (Zh col) m T∧Zb rU 45 1 m T x y C∧[5,8].map g=[.slice x C.length y,.int .i64 A]) N ⟨_,_,_,_,0,_,rfl,a,b,v,rfl⟩ ?_;clear a;intro k g T z;obtain ⟨m,x,y,C,A,o,j,a,b,h,e⟩:=z;subst j;refine .lL [5,8] e ?_
    cases o with
    | zero=>rw [Zha.eq_1] at a;cases a
    | succ o=>
     rw [Zha.eq_2] at a;refine go ?_;refine Zm a (fun f a=>go ?_) fun f a=>go ?_
     ·obtain ⟨_,d,a⟩:=bZ a;refine Zi (Zvn 9 d (h.toSlF (Zg.int .u32))) fun _ _ ⟨f,_,_,c,F,v⟩=>⟨_,c,?_⟩;replace v:=v.thaw (Z1 .u32) F ((Fz.refl (col:=m)).froz 1);replace F:=F.thawR (col:=m);generalize Xa T.heap.size m f=g at *;refine go ?_;replace v:=v.recolSelf 1 (by decide);replace b:=b.grow F;replace b:=b.recol 9 1 (by decide) (by decide);exact ⟨o,by omega,rfl,⟨_,_,_,_,_,_,rfl,a,b,v,rfl⟩⟩
     cases a;exact ⟨rfl,_,_,_,rfl,b.fin (cm [(1,V)]),b.fo h⟩
  refine go ?_;obtain ⟨_,n,a⟩:=bZ a;refine Zi (Zom n (p.toSlF (Zg.int .u32))) fun _ _ ⟨c,s⟩=>⟨_,c,?_⟩;replace s:=Rr bl s;refine Vb rfl ?_;replace p:=p.gr s;replace l:=l.gr s;replace b:=b.grow s;refine Ye a (fun f a=>go ?_) fun f a=>go ?_
  ·obtain ⟨V,z,a⟩:=bZ a;refine Zi (Zom z (l.toSlF (Zg.int .u32))) fun _ _ ⟨c,u⟩=>⟨_,c,?_⟩;replace u:=Rr bl u;refine lV (.bool V) (X0 (congrArg Value.bool f) rfl)<|Zl ?_;replace p:=p.gr u;replace l:=l.gr u;replace b:=b.grow u;exact ⟨rfl,_,_,a,b,p,l,rfl⟩
  refine lV (.bool false) (X7 (congrArg Value.bool f) rfl)<|Zl ?_;exact ⟨rfl,_,_,a,b,p,l,rfl⟩
def Zhb (N:Nat) (f b:List Int) (a:Int) (kk_L1:(List Int→Int→Option R2)):Nat→Int→R2→Int→Option R2
  | 0,_,_,_=>none
  | k+1,c,d,e=>if (decide (c<(b.length:Int)))=true then ((Zk f a).bind fun g=>(Zk b c).bind fun i=>(Zk d (i64.wrap (a+c))).bind fun j=>(some (d.set (aA (i64.wrap (a+c))) (u32.wrap (bK (u64.wrap ((u64.wrap (e+(u64.wrap ((u64.wrap g) * (u64.wrap i)))))+(u64.wrap j))) 4294967296)))).bind fun l=>(Zhb N f b a kk_L1 k) (i64.wrap (c+1)) l (u64.wrap (aR (u64.wrap ((u64.wrap (e+(u64.wrap ((u64.wrap g) * (u64.wrap i)))))+(u64.wrap j))) 4294967296))) else ((Zk d (i64.wrap (a+(b.length:Int)))).bind fun n=>(some (d.set (aA (i64.wrap (a+(b.length:Int)))) (u32.wrap e))).bind fun m=>kk_L1 m (i64.wrap (a+1)))
def Zc4 (N:Nat) (a b:List Int):Nat→R2→Int→Option R2
  | 0,_,_=>none
  | e+1,c,d=>if (decide (d<(a.length:Int)))=true then (Zhb N a b d (Zc4 N a b e) N 0 c 0) else ((V9 N c).bind fun f=>some f)
def Ze1 (N:Nat) (c d:List Int):Option R2:=
  (V9 N c).bind fun a=>(V9 N d).bind fun b=>Z2 ((aA (i64.wrap ((a.length:Int)+(b.length:Int)))) * 4≤281474976710656∧(aA (i64.wrap ((a.length:Int)+(b.length:Int))))≤maxLen∧0≤(i64.wrap ((a.length:Int)+(b.length:Int)))) (Zc4 N a b N (aD (aA (i64.wrap ((a.length:Int)+(b.length:Int)))) (0:Int)) 0)
theorem Zr3 {N H I:Nat} {E F:Option Addr} {col:Ze} {d:World} {L M r:R2} (U:Nat) (a:Ze1 N L M=some r) (l:Sl rU col d E H L) (n:Sl rU col d F I M):
    Calls prog 112 #[.slice E L.length H,.slice F M.length I] d (Vr .u32 45 U col d r):=by
 refine Xc 4 (m:=74) func112 rfl rfl rfl rfl rfl ?_;rw [Ze1.eq_1] at a;have c:=St.start col d;refine go ?_;obtain ⟨u,f,a⟩:=bZ a;refine Zi (Tc 1 f (l.k0.ks c)) ?_;rintro _ aw ⟨ax,ac,ad,rfl,al,f⟩;refine ⟨_,rfl,go ?_⟩;obtain ⟨p,j,a⟩:=bZ a;replace c:=c.grow al;refine Zi (Tc 2 j (n.k0.ks c)) ?_;rintro _ an ⟨ao,ae,af,rfl,ag,e⟩;refine ⟨_,rfl,go ?_⟩;obtain ⟨O,a⟩:=Z4 a;refine Sc (col:=ao) (w:=an) (r:=rU) (n:=(aA (i64.wrap ((u.length:Int)+(p.length:Int))))) (x0:=0) 3 rfl underlying38 Tryz.t45 rfl rfl rfl rfl rfl (congrArg (Value.int _) (bM O.2.2).symm) (congrArg (Value.int _) (bM O.2.2).symm) O.1 O.2.1 (Zcb .u32 0) fun _ _ _ X m=>go ?_;replace f:=(f.gr ag).gr X;replace c:=(c.grow ag).grow X;replace e:=e.gr X;refine Zt [5,6,1000000] (fun i D y=>∃ l g h K x o,o=i∧Zc4 N u p o K x=some r∧St d (Zh col) l y∧Zb rU 45 1 l y ac ad u∧Zb rU 45 2 l y ae af p∧Zb rU 45 3 l y g h K∧[7,8].map D=[.slice g K.length h,.int .i64 x]) N ⟨_,_,_,_,0,_,rfl,a,c,f,e,m,rfl⟩ ?_;clear a;intro i D y s;obtain ⟨l,g,h,K,x,o,z,a,c,f,e,T,B⟩:=s;subst z;refine .lL [7,8] B ?_
 cases o with
 | zero=>rw [Zc4.eq_1] at a;cases a
 | succ o=>
  rw [Zc4.eq_2] at a;refine go ?_;refine Zm a (fun A a=>go ?_) fun A a=>go ?_
  ·refine Zt [5,6,8,1000000] (fun i D C=>∃ h S m n k g w,w=i∧Zhb N u p x (Zc4 N u p o) w S k g=some r∧St d (Zh col) h C∧Zb rU 45 1 h C ac ad u∧Zb rU 45 2 h C ae af p∧Zb rU 45 3 h C m n k∧[10,7,9].map D=[.int .i64 S,.slice m k.length n,.int .u64 g]) N ⟨_,0,_,_,_,0,_,rfl,a,c,f,e,T,rfl⟩ ?_;clear a;intro i D C s;obtain ⟨h,S,m,n,k,g,w,z,a,c,f,e,j,B⟩:=s;subst z;refine .lL [10,7,9] B ?_
   cases w with
   | zero=>rw [Zhb.eq_1] at a;cases a
   | succ w=>
    rw [Zhb.eq_2] at a;refine go ?_;refine Zm a (fun A a=>go ?_) fun A a=>go ?_
    ·refine Wg (col:=h) (by kernel_rfl) (by kernel_rfl)<|go ?_;obtain ⟨v,V,a⟩:=bZ a;refine qI V (f.addr V)<|qW (fun _ b=>(f.gr (b.bl h)).atInt V) ?_;refine go ?_;obtain ⟨t,W,a⟩:=bZ a;refine qI W (e.addr W)<|qW (fun _ b=>(e.gr (b.bl h)).atInt W) ?_;refine go ?_;obtain ⟨s,q,a⟩:=bZ a;refine qI q (j.addr q)<|qW (fun _ b=>(j.gr (b.bl h)).atInt q) ?_;refine go ?_;refine Y1 ?_;intro _ b;replace b:=b.bl h;refine go ?_;refine lV (.int .u64 (bK (u64.wrap ((u64.wrap (g+(u64.wrap ((u64.wrap v) * (u64.wrap t)))))+(u64.wrap s))) 4294967296)) (S9 (u64.wrap ((u64.wrap (g+(u64.wrap ((u64.wrap v) * (u64.wrap t)))))+(u64.wrap s))) 4294967296 rfl rfl (by decide))<|go ?_;replace j:=j.gr b;refine lI q (j.addr q) ?_;obtain ⟨u,Q,a⟩:=bZ a;have Q:u=k.set (aA (i64.wrap (x+S))) (u32.wrap (bK (u64.wrap ((u64.wrap (g+(u64.wrap ((u64.wrap v) * (u64.wrap t)))))+(u64.wrap s))) 4294967296)):=(Option.some.inj Q).symm;refine Wb (x1:=u32.wrap (bK (u64.wrap ((u64.wrap (g+(u64.wrap ((u64.wrap v) * (u64.wrap t)))))+(u64.wrap s))) 4294967296)) j q ?_;intro _ q z R;rw [← Q] at R;refine .ld (d:=7) (v:=(.slice m u.length n)) (congrArg (fun i=>Value.slice m i n) (show k.length=u.length by rw [Q,nS])) ?_;refine go ?_;refine lV (.int .u64 (u64.wrap (aR (u64.wrap ((u64.wrap (g+(u64.wrap ((u64.wrap v) * (u64.wrap t)))))+(u64.wrap s))) 4294967296))) (Vy (u64.wrap ((u64.wrap (g+(u64.wrap ((u64.wrap v) * (u64.wrap t)))))+(u64.wrap s))) 4294967296 rfl rfl (by decide))<|go ?_;replace f:=(f.gr b).kp q;replace e:=(e.gr b).kp q;replace c:=(c.grow b).kp q z;exact ⟨w,by omega,rfl,⟨_,_,_,_,_,_,_,rfl,a,c,f,e,R,rfl⟩⟩
    obtain ⟨_,Y,a⟩:=bZ a;refine lI Y (j.addr Y) ?_;obtain ⟨d,P,a⟩:=bZ a;have P:d=k.set (aA (i64.wrap (x+(p.length:Int)))) (u32.wrap g):=(Option.some.inj P).symm;refine Wb (x1:=u32.wrap g) j Y ?_;intro _ b p J;rw [← P] at J;refine .ld (d:=7) (v:=(.slice m d.length n)) (congrArg (fun i=>Value.slice m i n) (show k.length=d.length by rw [P,nS])) ?_;refine go ?_;replace c:=c.kp b p;exact ⟨o,by omega,rfl,⟨_,_,_,_,_,_,rfl,a,c,f.kp b,e.kp b,J,rfl⟩⟩
  obtain ⟨_,i,a⟩:=bZ a;refine Zi (Tc 4 i (T.toSlF (Zg.int .u32))) fun _ _ ⟨k,_,_,e,G,Z⟩=>⟨_,e,?_⟩;replace Z:=Z.thaw (Z1 .u32) G ((Fz.refl (col:=l)).froz 3);replace G:=G.thawR (col:=l);generalize Xa y.heap.size l k=o at *;refine go ?_;cases a;replace c:=c.grow G;exact ⟨rfl,_,_,_,rfl,c.fin (cm [(4,U)]),c.fo Z⟩
def Zmn (f g d:List Int) (a e:Int) (kk_L1:(List Int→Int→Int→Option R2)):Option R2:=
  (Zas f e).bind fun b=>(Zas g e).bind fun c=>Z2 ((d.length+[u32.wrap (bK (u64.wrap ((u64.wrap (a+b))+c)) 4294967296)].length) * 4≤140737488355328∧d.length+[u32.wrap (bK (u64.wrap ((u64.wrap (a+b))+c)) 4294967296)].length≤maxLen) (kk_L1 (d++[u32.wrap (bK (u64.wrap ((u64.wrap (a+b))+c)) 4294967296)]) (u64.wrap (aR (u64.wrap ((u64.wrap (a+b))+c)) 4294967296)) (i64.wrap (e+1)))
def Ze0 (N:Nat) (b c a:List Int) (d e:Int) (kk_L1:(List Int→Int→Int→Option R2)) (f:Bool):Option R2:=
  if f=true then (Zmn b c a d e kk_L1) else ((V9 N a).bind fun g=>some g)
def Qy (N:Nat) (a b:List Int):Nat→R2→Int→Int→Option R2
  | 0,_,_,_=>none
  | e+1,f,d,c=>if (decide (c<(a.length:Int)))=true then (Ze0 N a b f d c (Qy N a b e) true) else (if (decide (c<(b.length:Int)))=true then (Ze0 N a b f d c (Qy N a b e) true) else (Ze0 N a b f d c (Qy N a b e) (decide (0<d))))
def Zj4 (N:Nat) (a b:List Int):Option R2:=
  Qy N a b N ([]:List Int) 0 0
theorem Zvj {N O P:Nat} {v w:Option Addr} {col:Ze} {c:World} {g d r:R2} (B:Nat) (a:Zj4 N g d=some r) (M:Sl rU col c v O g) (o:Sl rU col c w P d):
    Calls prog 151 #[.slice v g.length O,.slice w d.length P] c (Vr .u32 45 B col c r):=by
 refine Xc 4 (m:=43) func151 rfl rfl rfl rfl rfl ?_;rw [Zj4.eq_1] at a;have b:=St.start col c;refine go ?_;refine Zt [0,1,1000000] (fun Q k F=>∃ G t u j e n i,i=Q∧Qy N g d i j e n=some r∧St c (Zh col) G F∧Zb rU 45 1 G F t u j∧[5,6,7].map k=[.slice t j.length u,.int .u64 e,.int .i64 n]) N ⟨_,none,0,_,0,0,_,rfl,a,b,Zb.nil,rfl⟩ ?_;clear a;intro Q k F U;obtain ⟨G,t,u,j,e,n,i,L,a,b,f,p⟩:=U;subst L;refine .lL [5,6,7] p ?_;replace o:=o.k0
 cases i with
 | zero=>rw [Qy.eq_1] at a;cases a
 | succ i=>
  rw [Qy.eq_2] at a;refine Zx ?_;refine Wp.cutK [0,1,5,6,7,1000000] (fun k C=>∃ m,Zmn g d j e n (Qy N g d i)=some r∧St c (Zh col) m C∧Zb rU 45 1 m C t u j) ?_ ?_
  ·intro k C J;obtain ⟨m,a,b,f⟩:=J;rw [Zmn.eq_1] at a;refine go ?_;obtain ⟨s,S,a⟩:=bZ a;refine Zi (Zf6 S (M.k0.ks b)) fun _ _ ⟨h,y⟩=>⟨_,h,?_⟩;replace y:=Rr m y;refine go ?_;obtain ⟨q,V,a⟩:=bZ a;replace b:=b.grow y;refine Zi (Zf6 V (o.ks b)) fun _ _ ⟨h,A⟩=>⟨_,h,?_⟩;replace A:=Rr m A;refine go ?_;refine lV (.int .u64 (bK (u64.wrap ((u64.wrap (e+s))+q)) 4294967296)) (S9 (u64.wrap ((u64.wrap (e+s))+q)) 4294967296 rfl rfl (by decide))<|go ?_;refine V5 (col:=m) [u32.wrap (bK (u64.wrap ((u64.wrap (e+s))+q)) 4294967296)] 2 ?_;intro _ _ _ R W;obtain ⟨X,a⟩:=Z4 a;replace f:=((f.gr y).gr A).gr R;refine Wy f (W.srcN (NB.int (k:=.u32))) X fun _ _ _ _ Z l=>go ?_;refine lV (.int .u64 (u64.wrap (aR (u64.wrap ((u64.wrap (e+s))+q)) 4294967296))) (Vy (u64.wrap ((u64.wrap (e+s))+q)) 4294967296 rfl rfl (by decide))<|go ?_;replace b:=((b.grow A).grow R).kpp Z;exact ⟨i,by omega,rfl,⟨_,_,_,_,_,_,_,rfl,a,b,l,rfl⟩⟩
  refine Zx ?_;refine Wp.cutK [0,1,5,6,7,1000000] (fun k z=>∃ l D,Ze0 N g d j e n (Qy N g d i) D=some r∧St c (Zh col) l z∧Zb rU 45 1 l z t u j∧[21].map k=[.bool D]) ?_ ?_
  ·intro k z J;obtain ⟨l,D,a,b,f,p⟩:=J;rw [Ze0.eq_1] at a;refine .lL [21] p ?_;refine Zm a (fun K a=>?_) fun K a=>go ?_
   ·refine Xz ?_;exact ⟨rfl,_,a,b,f⟩
   obtain ⟨_,T,a⟩:=bZ a;refine Zi (Tc 3 T (f.toSlF (Zg.int .u32))) fun _ _ ⟨Y,_,_,h,x,H⟩=>⟨_,h,?_⟩;replace H:=H.thaw (Z1 .u32) x ((Fz.refl (col:=l)).froz 1);replace x:=x.thawR (col:=l);generalize Xa z.heap.size l Y=c at *;refine go ?_;cases a;replace b:=b.grow x;exact ⟨rfl,_,_,_,rfl,b.fin (cm [(3,B)]),b.fo H⟩
  refine go ?_;refine Ye a (fun I a=>go ?_) fun I a=>go ?_
  ·refine lV (.bool true) (X0 (congrArg Value.bool I) rfl)<|Vb rfl<|lP 18 rfl rfl<|lP 18 rfl rfl<|lV (.bool true) (X0 rfl rfl)<|Zl ?_;exact ⟨rfl,_,_,a,b,f,rfl⟩
  refine lV (.bool (decide (n<(d.length:Int)))) (X7 (congrArg Value.bool I) rfl)<|Vb rfl ?_;refine Ye a (fun E a=>go ?_) fun E a=>go ?_
  ·refine lV (.bool true) (X0 (congrArg Value.bool E) rfl)<|Zl ?_;exact ⟨rfl,_,_,a,b,f,rfl⟩
  refine lV (.bool (decide (0<e))) (X7 (congrArg Value.bool E) rfl)<|Zl ?_;exact ⟨rfl,_,_,a,b,f,rfl⟩
def Zkb (N:Nat) (a:Int):Option R2:=
  (V9 N [u32.wrap (bK a 4294967296),u32.wrap (u64.wrap (aR a 4294967296))]).bind fun b=>some b
theorem Zvl {N:Nat} {col:Ze} {c:World} {a:Int} {r:R2} (f:Nat) (b:Zkb N a=some r):
    Calls prog 177 #[.int .u64 a] c (Vr .u32 45 f col c r):=by
 refine Xc 2 (m:=11) func177 rfl rfl rfl rfl rfl ?_;rw [Zkb.eq_1] at b;have e:=St.start col c;refine go ?_;refine lV (.int .u64 (bK a 4294967296)) (S9 a 4294967296 rfl rfl (by decide))<|go ?_;refine lV (.int .u64 (u64.wrap (aR a 4294967296))) (Vy a 4294967296 rfl rfl (by decide))<|go ?_;refine V5 (col:=(Zh col)) [u32.wrap (bK a 4294967296),u32.wrap (u64.wrap (aR a 4294967296))] 1 ?_;intro _ m g n k;obtain ⟨_,j,b⟩:=bZ b;refine Zi (Tc 2 j (k.toSlF (Zg.int .u32))) fun _ _ ⟨l,_,_,i,d,h⟩=>⟨_,i,?_⟩;replace h:=h.thaw (Z1 .u32) d ((Fz.refl (col:=g)).froz 1);replace d:=d.thawR (col:=g);generalize Xa m.heap.size g l=o at *;refine go ?_;cases b;replace e:=(e.grow n).grow d;exact ⟨rfl,_,_,_,rfl,e.fin (cm [(2,f)]),e.fo h⟩

end Go.Proofs.YthclpfhncgpnmaaGreat
