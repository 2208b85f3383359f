/-
  What functions of the program compute, as plain Lean functions (m_..), and proofs that they compute it (c_..). Printed by a program of the author; no conditions.
-/
import Derived.Test.YtkhnlgdenkikoaaGreatCodeShortBFloat
import Derived.Test.YtkhnlgdenkikoaaGreatProg
import Derived.Test.YtkhnlgdenkikoaaGreatCodeShortBBrief
import Derived.Test.YtkhnlgdenkikoaaGreatCodeShortBThree
import Derived.Test.YtkhnlgdenkikoaaGreatCodeShortBView
import Derived.Test.YtkhnlgdenkikoaaGreatCodeShortF4
set_option linter.unusedVariables false
set_option maxRecDepth 100000
set_option maxHeartbeats 2000000
namespace Go.Proofs.YtkhnlgdenkikoaaGreat
open Go Go.RowKit
open Go.IntKind (i8 i16 i32 i64 u8 u16 u32 u64)
open Go.Proofs.Tryz

section
variable {N W K:Nat} {n:Z2} (hf:Yq N n) (hs:Wk n W) (hr:Xi N (8 * K+40)) (hWK:1025 * (W+2)+15≤K) (hN:2199023255552<N) {ord:List Int} (ho:V0 n.2.2.2.1 ord) (hol:ord.length≤12)
include hf hs hr hWK hN ho hol
theorem Zsk (s:ByteArray) {k:Nat} (hk:k / 32+1≤K):Zce N n ord (Y0 (Z4 s k))=Zie (Vj n (fun P=>W9 (Vl (Z4 s k)) P 0 (-1)) ord (List.replicate n.2.1.length 0) (0,1)):=by
 obtain ⟨q1,q2⟩:=Zs8 s k
 have h:=Z06 (x:=Z4 s k) (X:=Y0 (Z4 s k)) hf hs hr (by omega) (by omega) ho (by omega) (Y4 (Nat.le_trans q1 hk)) (Y4 (Nat.le_trans q2 hk)) (Y3 _) (Y3 _)
 rw [h,Zso hf ho (Zyk (Zof s k)) ord _ (0,1) (fun _ h=>h) (Zs7 s k) (show (0:Rat)≤1 by decide)]
variable (hC:Vn N n=some 0) (o1:Te N n.2.2.2.1=some (ord,0)) (hall:∀ i,i<n.2.1.length→(i:Int) ∈ ord)
include hC o1 hall
omit hall in
theorem Z1y {w:List Int} (hw:X2 n w) (hin:(decide (w.length=n.2.1.length)&&Vm n w 0)=true):
  ((Xe n w ord (0,1)).1=(Xe n w ord (0,1)).2→Q9 N n w=some (⟨#[]⟩,52))∧
  ((Xe n w ord (0,1)).1≠(Xe n w ord (0,1)).2→∃ q b:Nat,Q9 N n w=some (Yl (Yi b q),0)∧q / 32+1≤K∧q≤64 * (12 * (W+2)+2)+65∧b<2 ^ q∧
   (Xe n w ord (0,1)).1≤mkRat (b:Int) (2 ^ q)∧mkRat ((b:Int)+1) (2 ^ q)≤(Xe n w ord (0,1)).2∧∀ j,j<q→¬ mkRat (bN (Xe n w ord (0,1)).1 j+1) (2 ^ j)≤(Xe n w ord (0,1)).2):=by
 have hmul:ord.length * (W+2)≤12 * (W+2):=Nat.mul_le_mul_right _ hol
 obtain ⟨c1,c2⟩:=Z5r hf hs hr (by omega) (by omega) hC o1 ho (by omega) w
 have c2':Zcd N (n.1,n.2.1,n.2.2.1,n.2.2.2.1,n.2.2.2.2) w=some (Y0 (Xe n w ord (0,1)),0):=c2 hw hin
 obtain ⟨qa,qb⟩:=Zxw hf hs hw ho
 obtain ⟨i1,i2,i3⟩:=Zkc hf ho hw ord (0,1) (fun _ h=>h) (show (0:Rat)≤1 by decide)
 obtain ⟨K1,hK1⟩:∃ K1,K1=ord.length * (W+2)+2:=⟨_,rfl⟩
 rw [← hK1] at qa qb
 have hr1:Xi N (13 * K1+64):=hr.mono (by omega)
 have enc:∀ f t:Rat,qs f≤K1→qs t≤K1→Xe n w ord (0,1)=(f,t)→f≤t→0≤f→t≤1→
   (f=t→Q9 N n w=some (⟨#[]⟩,52))∧(f≠t→∃ q,q / 32+1≤2 * K1+3∧q≤64 * K1+65∧mkRat (bN f q+1) (2 ^ q)≤t∧(∀ j,j<q→¬ mkRat (bN f j+1) (2 ^ j)≤t)∧Q9 N n w=some (Yl (Yi (bN f q).natAbs q),0)):=by
  intro f t hqf hqt hS hle h0 h1
  have su:Qq N (((Zn t).1.1,(Zn t).1.2),(Zn t).2) (((Zn f).1.1,(Zn f).1.2),(Zn f).2)=some (Zn (t - f)):=by
   have:=Zok (Y4 hqt) (Y4 hqf) (hr1.mono (by omega))
   rwa [Y3,Y3] at this
  have ql:=Z4f t f
  have si:Zag N (((Zn (t - f)).1.1,(Zn (t - f)).1.2),(Zn (t - f)).2)=some (Qb (t - f)):=by
   have:=Zoj (Y4 (Nat.le_refl (qs (t - f)))) (N:=N) (hr1.mono (by omega))
   rwa [Y3] at this
  have hroom:=hr1.2
  rw [Q9,c2',hS,oB]
  dsimp only [Y0]
  rw [if_neg (show ¬ (!decide ((0:Int)=0))=true by decide),su,oB,si,oB]
  refine ⟨fun he=>?_,fun hne=>?_⟩
  ·subst he
   have:Qb (f - f)≤0:=Zj5.2 (by grind)
   rw [if_pos (dT this)]
  ·have hlt:f<t:=Rat.not_le.1 fun h=>hne (Rat.le_antisymm hle h)
   have cc:¬ Qb (t - f)≤0:=fun h=>by
    have h1:t - f≤0:=Zj5.1 h
    exact absurd hlt (Rat.not_lt.2 (by grind))
   have b1:Zbl N (Zn (t - f)).2=some ((Z0 (t - f).den:Nat):Int):=by
    have hl:(Zn (t - f)).2.length≤qs (t - f):=Nat.le_max_right _ _
    have:=Znk (N:=N) (a:=(Zn (t - f)).2) (Z8 _) (by omega) (by omega)
    rwa [show Zb (Zn (t - f)).2=(t - f).den from Z5 _] at this
   have b2:Zbl N (Zn (t - f)).1.2=some ((Z0 (t - f).num.natAbs:Nat):Int):=by
    have hl:(Zn (t - f)).1.2.length≤qs (t - f):=Nat.le_max_left _ _
    have:=Znk (N:=N) (a:=(Zn (t - f)).1.2) (Z8 _) (by omega) (by omega)
    rwa [show Zb (Zn (t - f)).1.2=(t - f).num.natAbs from Z5 _] at this
   have l1:Z0 (t - f).den≤32 * qs (t - f):=Nat.le_trans (Zdp _).2 (Nat.mul_le_mul_left 32 (Nat.le_max_right _ _))
   have l2:Z0 (t - f).num.natAbs≤32 * qs (t - f):=Nat.le_trans (Zdp _).2 (Nat.mul_le_mul_left 32 (Nat.le_max_left _ _))
   have hT:=Z18 hlt
   have hlong:∀ k,mkRat (bN f k+1) (2 ^ k)≤t→Z0 (t - f).den≤Z0 (t - f).num.natAbs+k:=fun k h=>Z15 hlt h
   rw [if_neg (by rw [decide_eq_false cc];decide),b1,oB,b2,oB]
   generalize Z0 (t - f).den=A at *
   generalize Z0 (t - f).num.natAbs=B at *
   have e1:i64.wrap (i64.wrap ((A:Int) - (B:Int)) - 1)=(A:Int) - (B:Int) - 1:=by
    rw [Zz (x:=(A:Int) - (B:Int)) (by omega),Zz (by omega)]
   have e2:(if 0>(A:Int) - (B:Int) - 1 then 0 else (A:Int) - (B:Int) - 1)=((A - B - 1:Nat):Int):=by
    split <;> omega
   rw [e1,e2]
   obtain ⟨q,q1,q2,q3,q4,q5⟩:=Z1x hqf hqt hr1 hN (e:=A+1) (by omega) hT (A+1 - (A - B - 1)) (A - B - 1) N (by omega) (by omega)
   refine ⟨q,by omega,by omega,q3,fun j hj hfit=>?_,q5⟩
   by_cases hjk:A - B - 1≤j
   ·exact q4 j hjk hj hfit
   ·have:=hlong j hfit
    omega
 obtain ⟨f,t,hS⟩:∃ f t,Xe n w ord (0,1)=(f,t):=⟨_,_,rfl⟩
 have hS1:(Xe n w ord (0,1)).1=f:=by rw [hS]
 have hS2:(Xe n w ord (0,1)).2=t:=by rw [hS]
 rw [hS1] at qa i1 i2
 rw [hS2] at qb i2 i3
 obtain ⟨n1,n2⟩:=enc f t qa qb hS i2 i1 i3
 rw [hS1,hS2]
 refine ⟨n1,fun hne=>?_⟩
 obtain ⟨q,g1,g2,g3,g4,g5⟩:=n2 hne
 have hbf:=Zqv f q
 have hq0:=Sk q
 have hb0:0≤bN f q:=by
  have h1:mkRat 0 (2 ^ q)≤mkRat (bN f q) (2 ^ q):=by rw [Rat.zero_mkRat];exact Rat.le_trans i1 hbf
  rw [← Rat.not_lt,Ve hq0 hq0] at h1
  rcases Int.lt_or_le (bN f q) 0 with h | h
  ·exact absurd (Int.mul_lt_mul_of_pos_right h (Int.ofNat_lt.2 (Nat.pos_of_ne_zero hq0))) h1
  ·exact h
 obtain ⟨b,hb⟩:∃ b:Nat,bN f q=(b:Int):=⟨(bN f q).natAbs,by omega⟩
 rw [hb,Int.natAbs_natCast] at g5
 rw [hb] at g3 hbf
 have hb1:b<2 ^ q:=by
  have h1:mkRat ((b:Int)+1) (2 ^ q)≤mkRat 1 1:=Rat.le_trans g3 i3
  rw [← Rat.not_lt,Ve (by decide) hq0] at h1
  have e1:((1:Nat):Int)=1:=rfl
  rw [e1,Int.one_mul,Int.mul_one] at h1
  omega
 exact ⟨q,b,g5,by omega,by omega,hb1,hbf,g3,g4⟩
end
/-! the probability is the interval's length -/
theorem Z4b {n:Z2} {w:List Int} {l r:List Int} (h:l.Perm r):Th n w l=Th n w r:=by
 induction h with
 | nil=>rfl
 | cons x _ ih=>rw [Th,Th,ih]
 | swap x y l=>rw [Th,Th,Th,Th,← Rat.mul_assoc,← Rat.mul_assoc,Rat.mul_comm (ent n w y.toNat)]
 | trans _ _ h1 h2=>rw [h1,h2]
theorem Zv3 (n:Z2) (w:List Int):∀ (m k:Nat) (q:Rat),Vz n w m k q=q * Th n w ((List.range' k m).map fun i:Nat=>(i:Int))
 | 0,k,q=>by rw [Vz,List.range'_zero,List.map_nil,Th,Rat.mul_one]
 | m+1,k,q=>by rw [Vz,Zv3 n w m,List.range'_succ,List.map_cons,Th,Int.toNat_natCast,Rat.mul_assoc]
theorem Z35 {n:Z2} {ord:List Int} (he:Tm n) (ho:V0 n.2.2.2.1 ord) (hall:∀ i,i<n.2.1.length→(i:Int) ∈ ord):ord.Perm ((List.range' 0 n.2.1.length).map fun i:Nat=>(i:Int)):=by
 refine (List.perm_ext_iff_of_nodup ho.nd ?_).2 fun x=>?_
 ·rw [← List.range_eq_range']
  refine List.Pairwise.map _ (fun a b hab=>?_) List.nodup_range
  intro h;exact hab (Int.ofNat.inj h)
 ·rw [List.mem_map]
  constructor
  ·intro hx
   have:=ho.rg x hx
   rw [he.p] at this
   exact ⟨x.toNat,by rw [List.mem_range'_1];omega,by omega⟩
  ·rintro ⟨i,hi,rfl⟩
   rw [List.mem_range'_1] at hi
   exact hall i (by omega)
section
variable {N:Nat} {n:Z2} (hf:Yq N n) {ord:List Int} (ho:V0 n.2.2.2.1 ord)
include hf ho
theorem Z5q {w:List Int} (hw:X2 n w) (hall:∀ i,i<n.2.1.length→(i:Int) ∈ ord):(Xe n w ord (0,1)).2 - (Xe n w ord (0,1)).1=Vz n w n.2.1.length 0 1:=by
 have h:=Zxv hf hw ho ord (0,1) fun _ h=>h
 have e:((0:Rat),(1:Rat)).2 - ((0:Rat),(1:Rat)).1=1:=by show (1:Rat) - 0=1;grind
 rw [e,Rat.one_mul] at h
 rw [h,Zv3,Rat.one_mul,Z4b (Z35 hf.ev ho hall)]
/-! a point of an interval -/
theorem Zsp {x:Rat×Rat} {w:List Int} (hw:X2 n w):∀ (l pre u:List Int) (s:Rat×Rat),ord=pre++l→X2 n u→(∀ p ∈ pre,u.getD p.toNat 0=w.getD p.toNat 0)→s.1≤s.2→(Xe n w l s).1≤x.1→x.1<(Xe n w l s).2→x.2≤(Xe n w l s).2→
  ∃ u',Vj n (fun P=>W9 (Vl x) P 0 (-1)) l u s=some (u',Xe n w l s)∧X2 n u'∧∀ p ∈ ord,u'.getD p.toNat 0=w.getD p.toNat 0
 | [],pre,u,s,he,hu,hag,hs,h1,h3,h2=>⟨u,rfl,hu,by rw [he,List.append_nil];exact hag⟩
 | v :: l,pre,u,s,he,hu,hag,hs,h1,h3,h2=>by
  have hsub:∀ y ∈ l,y ∈ ord:=fun y hy=>by rw [he];simp [hy]
  have hvr:=ho.rg v (by rw [he];simp)
  rw [hf.ev.p] at hvr
  obtain ⟨k,rfl⟩:∃ k:Nat,v=(k:Int):=⟨v.toNat,by omega⟩
  have hv:k<n.2.1.length:=by omega
  have hpar:∀ p ∈ n.2.2.2.1.getD k [],u.getD p.toNat 0=w.getD p.toNat 0:=fun p hp=>hag p (ho.up pre k l he p (by rw [Int.toNat_natCast];exact hp))
  have hrow:Y8 n u k=Y8 n w k:=Zm4 _ _ hpar
  have hrT:Z1 n u k=Z1 n w k:=by rw [Z1,Z1,hrow]
  have hwk:=hw.ok k (by rw [hw.len];exact hv)
  obtain ⟨q,hq⟩:∃ q:Nat,w.getD k 0=(q:Int):=⟨(w.getD k 0).toNat,by omega⟩
  have hql:q<(Z1 n w k).length:=by rw [hf.rowT_len hw hv];omega
  have hlong:0≤s.2 - s.1:=by rw [Rat.le_iff_sub_nonneg] at hs;exact hs
  have hent:∀ y ∈ Z1 n w k,0≤Zu y:=fun y hy=>(hf.ent hv y (Qx hy)).1
  rw [Xe,Int.toNat_natCast,hq,Int.toNat_natCast] at h1 h2 h3
  obtain ⟨p1,p2,p3⟩:=Zmk hf hw hv hs (Zdf (by rw [Tu];exact hql))
  obtain ⟨g1,g2,g3⟩:=Zkc hf ho hw l _ hsub p2
  have hpick:W9 (Vl x) (Xs (s.2 - s.1) (Z1 n w k) s.1) 0 (-1)=(q:Int):=by
   have:=Zlb (c:=Vl x) (Xs (s.2 - s.1) (Z1 n w k) s.1) 0 (-1) q (by rw [Tu];exact hql) (Sx.2 ⟨Rat.le_trans g1 h1,Std.lt_of_lt_of_le h3 g3,Rat.le_trans h2 g3⟩) fun i hi hil=>?_
   ·rw [this,Nat.zero_add]
   ·rw [Bool.eq_false_iff]
    intro g
    have hsep:=Zml hlong (Z1 n w k) s.1 q i hent hi (by rwa [Tu] at hil)
    have:=(Sx.1 g).1
    exact absurd (Std.lt_of_lt_of_le h3 (Rat.le_trans g3 hsep)) (Rat.not_lt.2 this)
  have ih:=Zsp hw l (pre++[(k:Int)]) (u.set k q) _ (by rw [he,List.append_assoc];rfl) (hu.set (v:=k) (by omega)) (fun p hp=>?_) p2 h1 h3 h2
  ·obtain ⟨u',e1,e2,e3⟩:=ih
   refine ⟨u',?_,e2,e3⟩
   rw [Vj,Xe,Int.toNat_natCast,hrT]
   simp only [hpick]
   rw [if_neg (by omega),Int.toNat_natCast,hq,Int.toNat_natCast]
   exact e1
  ·rcases List.mem_append.1 hp with hp | hp
   ·rw [Uu u 0 k _ _ (by rw [hu.len];exact hv)]
    split
    ·rename_i e;rw [e,hq]
    ·exact hag p hp
   ·rw [List.mem_singleton] at hp
    rw [hp,Int.toNat_natCast,Uu u 0 k _ _ (by rw [hu.len];exact hv),if_pos rfl,hq]
/-! each number has its part -/
variable (hall:∀ i,i<n.2.1.length→(i:Int) ∈ ord)
include hall
theorem Zsl {x:Rat×Rat} {w:List Int} (hw:X2 n w) (h1:(Xe n w ord (0,1)).1≤x.1) (h3:x.1<(Xe n w ord (0,1)).2) (h2:x.2≤(Xe n w ord (0,1)).2):Vj n (fun P=>W9 (Vl x) P 0 (-1)) ord (List.replicate n.2.1.length 0) (0,1)=some (w,Xe n w ord (0,1)):=by
 obtain ⟨u,e1,e2,e3⟩:=Zsp hf ho hw ord [] (List.replicate n.2.1.length 0) (0,1) rfl (X2.zero hf.ev) (by simp) (show (0:Rat)≤1 by decide) h1 h3 h2
 have:u=w:=by
  refine List.ext_getElem (by rw [e2.len,hw.len]) fun i g1 g2=>?_
  have:=e3 (i:Int) (hall i (by rw [← e2.len];exact g1))
  rwa [Int.toNat_natCast,Yz g1,Yz g2] at this
 rw [e1,this]
theorem Z5p {x:Rat} {w u:List Int} (hw:X2 n w) (hu:X2 n u) (w1:(Xe n w ord (0,1)).1≤x) (w2:x<(Xe n w ord (0,1)).2) (u1:(Xe n u ord (0,1)).1≤x) (u2:x<(Xe n u ord (0,1)).2):w=u:=by
 have a:=Zsl hf ho hall (x:=(x,x)) hw w1 w2 (Rat.le_of_lt w2)
 have b:=Zsl hf ho hall (x:=(x,x)) hu u1 u2 (Rat.le_of_lt u2)
 rw [a,Option.some.injEq,Prod.mk.injEq] at b
 exact b.1
end
theorem Zs5 {s:ByteArray} {k:Nat} (hk:k≤s.size):∀ j,j≤k→Y6 (s.extract 0 k) j=Y6 s j
 | 0,_=>rfl
 | j+1,h=>by
  have ih:=Zs5 hk j (by omega)
  rw [Y6,Y6,ih,Qh,Qh,Zqw hk (by omega)]
theorem Zs3 {s:ByteArray} {k:Nat} (hk:k≤s.size) {j:Nat} (h:j≤k):Z4 (s.extract 0 k) j=Z4 s j:=by
 rw [Z4,Z4,Zs5 hk j h]
theorem Znj {b q:Nat} (hb:b<2 ^ q):Z4 (Yl (Yi b q)) q=(mkRat (b:Int) (2 ^ q),mkRat ((b:Int)+1) (2 ^ q)):=by
 have hby:∀ j,j<q→Ub (Yl (Yi b q)) (j:Int)=some (48+((b / 2 ^ (q - 1 - j) % 2:Nat):Int)):=fun j hj=>by
  have:=Zq1 b q ByteArray.empty hj
  rwa [ByteArray.append_empty] at this
 have:=Zs4 hb hby q (Nat.le_refl _)
 rw [Nat.sub_self,Nat.pow_zero,Nat.div_one] at this
 rw [Z4,this]
theorem Z13 {f t:Rat} {k:Nat} (h:mkRat 1 (2 ^ k)≤t - f):mkRat (bN f (k+1)+1) (2 ^ (k+1))≤t:=by
 have hz:=Sk (k+1)
 refine (Zk4 hz).1 (Zj5.2 ?_)
 have h1:=Ztn (-(f * Y1 (k+1)))
 have e0:Y1 (k+1)=mkRat ((2 ^ (k+1):Nat):Int) 1:=rfl
 have e1:mkRat 1 (2 ^ k) * mkRat ((2 ^ (k+1):Nat):Int) 1=2:=by
  have hk:=Sk k
  rw [Rat.mkRat_mul_mkRat,Int.one_mul,Nat.mul_one,show (2:Rat)=mkRat 2 1 from rfl,Zjz hk (by decide),Nat.pow_succ]
  generalize (2 ^ k:Nat)=Z at *
  omega
 have hZ0:(0:Rat)≤mkRat ((2 ^ (k+1):Nat):Int) 1:=by
  rw [← Rat.not_lt,show (0:Rat)=mkRat 0 1 from rfl,Ve (by decide) (by decide)]
  generalize (2 ^ (k+1):Nat)=Z
  omega
 have h2:=Rat.mul_le_mul_of_nonneg_right h hZ0
 rw [e1] at h2
 have e2:mkRat (bN f (k+1)) 1=((bN f (k+1):Int):Rat):=by
  rw [Rat.mkRat_one]
 have e3:((bN f (k+1):Int):Rat)= -((Vk (-(f * Y1 (k+1))):Int):Rat):=by rw [bN,Rat.intCast_neg]
 rw [e2,e3]
 rw [e0] at h1 ⊢
 generalize mkRat ((2 ^ (k+1):Nat):Int) 1=Z at *
 generalize ((Vk (-(f * Z)):Int):Rat)=F at *
 grind
section
variable {N W K:Nat} {n:Z2} (hf:Yq N n) (hs:Wk n W) (hr:Xi N (8 * K+40)) (hWK:1025 * (W+2)+15≤K) (hN:2199023255552<N) {ord:List Int} (ho:V0 n.2.2.2.1 ord) (hol:ord.length≤12)
include hf hs hr hWK hN ho hol
theorem Z08 {e2:Int} {s:ByteArray} (hkK:s.size / 32+1≤K) (hss:s.size≤1099511627776)
  (hn:∀ j,j≤s.size→Vj n (fun P=>W9 (Vl (Z4 s j)) P 0 (-1)) ord (List.replicate n.2.1.length 0) (0,1)=none) (hb:∀ j,j<s.size→∃ c,Ub s (j:Int)=some c∧(c=48∨c=49)):∀ (m j g:Nat),j+m=s.size→m<g→
  Tr N n s (ord,e2) g (Zn (Z4 s j).1).1.1 (Zn (Z4 s j).1).1.2 (Zn (Z4 s j).1).2 (Zn (Z4 s j).2).1.1 (Zn (Z4 s j).2).1.2 (Zn (Z4 s j).2).2 (j:Int)=some ([],0,70):=by
 intro m
 induction m with
 | zero=>
  intro j g hj hg
  obtain ⟨g,rfl⟩:∃ g',g=g'+1:=⟨g - 1,by omega⟩
  have hjs:j=s.size:=by omega
  have hcut:Zce N (n.1,n.2.1,n.2.2.1,n.2.2.2.1,n.2.2.2.2) ((ord,e2):List Int×Int).1 ((((Zn (Z4 s j).1).1.1,(Zn (Z4 s j).1).1.2),(Zn (Z4 s j).1).2),(((Zn (Z4 s j).2).1.1,(Zn (Z4 s j).2).1.2),(Zn (Z4 s j).2).2))=_:=Zsk hf hs hr hWK hN ho hol s (by rw [hjs];exact hkK)
  rw [Tr.eq_2,Zin,oB,hcut,hn j (by omega),Zie,oB,if_neg (by decide),if_pos (dT (by omega)),Zcc,if_pos rfl]
 | succ m ih=>
  intro j g hj hg
  obtain ⟨g,rfl⟩:∃ g',g=g'+1:=⟨g - 1,by omega⟩
  have hjK:j / 32+1≤K:=by
   have:j / 32≤s.size / 32:=Nat.div_le_div_right (by omega)
   omega
  have hcut:Zce N (n.1,n.2.1,n.2.2.1,n.2.2.2.1,n.2.2.2.2) ((ord,e2):List Int×Int).1 ((((Zn (Z4 s j).1).1.1,(Zn (Z4 s j).1).1.2),(Zn (Z4 s j).1).2),(((Zn (Z4 s j).2).1.1,(Zn (Z4 s j).2).1.2),(Zn (Z4 s j).2).2))=_:=Zsk hf hs hr hWK hN ho hol s hjK
  obtain ⟨c,hc,hok⟩:=hb j (by omega)
  obtain ⟨q1,q2⟩:=Zs8 s j
  have hh:=Z2k (L:=K) (hr.mono (by omega)) s (i:=j) (by omega) (by omega) hc
  have hh':Zf1 N ((((Zn (Z4 s j).1).1.1,(Zn (Z4 s j).1).1.2),(Zn (Z4 s j).1).2),(((Zn (Z4 s j).2).1.1,(Zn (Z4 s j).2).1.2),(Zn (Z4 s j).2).2)) (decide (c=49))=some (Y0 (Z4 s (j+1))):=hh
  rw [Tr.eq_2,Zin,oB,hcut,hn j (by omega),Zie,oB,if_neg (by decide),if_neg (dF (by omega)),hc,oB,oB]
  have hJ2:Zcc N s (Zn (Z4 s j).1).1.1 (Zn (Z4 s j).1).1.2 (Zn (Z4 s j).1).2 (Zn (Z4 s j).2).1.1 (Zn (Z4 s j).2).1.2 (Zn (Z4 s j).2).2 (j:Int) (Tr N n s (ord,e2) g) false=some ([],0,70):=by
   rw [Zcc,if_neg (by decide),Zle,hc,oB,hh',oB,Zld,wS (by omega)]
   exact ih (j+1) g (by omega) (by omega)
  rcases hok with rfl | rfl
  ·rw [if_neg (by decide)];exact hJ2
  ·rw [if_pos (by decide)];exact hJ2
variable (hC:Vn N n=some 0) (o1:Te N n.2.2.2.1=some (ord,0)) (hall:∀ i,i<n.2.1.length→(i:Int) ∈ ord)
include hC o1 hall
theorem Z07 {w:List Int} (hw:X2 n w) {q b:Nat} (hq0:0<q) (hqK:q / 32+1≤K) (hqs:q≤1099511627776) (hb1:b<2 ^ q) (h1:(Xe n w ord (0,1)).1≤mkRat (b:Int) (2 ^ q)) (h2:mkRat ((b:Int)+1) (2 ^ q)≤(Xe n w ord (0,1)).2)
  (h4:∀ j,j<q→¬ mkRat (bN (Xe n w ord (0,1)).1 j+1) (2 ^ j)≤(Xe n w ord (0,1)).2):Zcb N n ((Yl (Yi b q)).extract 0 (q - 1))=some ([],0,70):=by
 have hsz:(Yl (Yi b q)).size=q:=by rw [Zh9,Zdo]
 have hdy:=Znj hb1
 have hC':Vn N (n.1,n.2.1,n.2.2.1,n.2.2.2.1,n.2.2.2.2)=some 0:=hC
 have hbytes:∀ j,j<q→Ub (Yl (Yi b q)) (j:Int)=some (48+((b / 2 ^ (q - 1 - j) % 2:Nat):Int)):=fun j hj=>by
  have:=Zq1 b q ByteArray.empty hj
  rwa [ByteArray.append_empty] at this
 have hes:((Yl (Yi b q)).extract 0 (q - 1)).size=q - 1:=by rw [ByteArray.size_extract,hsz];omega
 generalize hS:Yl (Yi b q)=s at *
 have hdiv:(q - 1) / 32≤q / 32:=Nat.div_le_div_right (by omega)
 have run:=Z08 (e2:=0) hf hs hr hWK hN ho hol (s:=s.extract 0 (q - 1)) (by rw [hes];omega) (by rw [hes];omega) (fun j hj=>?_) (fun j hj=>?_) (q - 1) 0 N (by omega) (by have:=hr.1;omega)
 ·rw [Zs9] at run
  rw [Zcb,hC',oB,if_neg (by decide),o1,oB,Zol (hr.mono (by omega)),oB,Zk5,oB]
  exact run
 ·rw [hes] at hj
  rw [Zs3 (by omega) hj]
  have hw1:=Zk3 s j (q - j)
  rw [show j+(q - j)=q by omega] at hw1
  refine Z1a hf ho hall (Zof s q) hw (by rw [hdy];exact h1) (by rw [hdy];exact h2) hw1.1 hw1.2 (Zs7 s j) (Z1i s j) fun hfit=>?_
  exact h4 j (by omega) (Z16 hfit.1 hfit.2)
 ·rw [hes] at hj
  refine ⟨_,by rw [Zqw (by omega) (by omega)];exact hbytes j (by omega),?_⟩
  rcases Nat.mod_two_eq_zero_or_one (b / 2 ^ (q - 1 - j)) with h | h
  ·rw [h];exact .inl rfl
  ·rw [h];exact .inr rfl
omit hs hr hWK hN hol hC o1 in
theorem Z3v {w u:List Int} (hw:X2 n w) (hu:X2 n u) (hne:w≠u) {q b p c:Nat} (hb:b<2 ^ q) (h1:(Xe n w ord (0,1)).1≤mkRat (b:Int) (2 ^ q)) (h2:mkRat ((b:Int)+1) (2 ^ q)≤(Xe n w ord (0,1)).2)
  (hc:c<2 ^ p) (g1:(Xe n u ord (0,1)).1≤mkRat (c:Int) (2 ^ p)) (g2:mkRat ((c:Int)+1) (2 ^ p)≤(Xe n u ord (0,1)).2) (hqp:q≤p):(Yl (Yi c p)).extract 0 q≠Yl (Yi b q):=fun e=>by
 have hsz:(Yl (Yi c p)).size=p:=by rw [Zh9,Zdo]
 have d1:=Znj hb
 have d2:=Znj hc
 have d3:=Zs3 (s:=Yl (Yi c p)) (k:=q) (by omega) (Nat.le_refl q)
 rw [e,d1] at d3
 have hw1:=Zk3 (Yl (Yi c p)) q (p - q)
 rw [show q+(p - q)=p by omega,← d3,d2] at hw1
 have hlt:=Zof (Yl (Yi c p)) p
 rw [d2] at hlt
 refine hne (Z5p hf ho hall hw hu (x:=mkRat (c:Int) (2 ^ p)) ?_ ?_ g1 ?_)
 ·exact Rat.le_trans h1 hw1.1
 ·exact Std.lt_of_lt_of_le hlt (Rat.le_trans hw1.2 h2)
 ·exact Std.lt_of_lt_of_le hlt g2
end
abbrev Zng:=ByteArray×List ByteArray×List R4×List R2×List (List QV)
structure Zh3 (n:Zng):Prop where
 nm:n.2.1.length≤1048576
 vn:n.2.2.1.length≤1048576
 vl:∀ l ∈ n.2.2.1,l.length≤1048576
 pn:n.2.2.2.1.length≤1048576
 pl:∀ l ∈ n.2.2.2.1,l.length≤1048576
 tn:n.2.2.2.2.length≤1048576
 tl:∀ t ∈ n.2.2.2.2,t.length≤1048576
 tm:∀ t ∈ n.2.2.2.2,∀ x ∈ t,x.1.2.length≤1048576∧x.2.length≤1048576
def Zhi (ae:R0) (aa:Int) (kk_L1:(Int→Int→Option Int)) (ab:Int) (ac:Int) (kk_L2:(Int→Int→Option Int)) (af:Bool):Option Int:=
  if af=true then ((Zp ae.2.2.2.2 aa).bind fun ag=>(Zp ag ac).bind fun ad=>kk_L2 (i64.wrap ((i64.wrap (ab+(ad.1.2.length:Int)))+(ad.2.length:Int))) (i64.wrap (ac+1))) else (kk_L1 ab (i64.wrap (aa+1)))
def Zbv (N:Nat) (aa:R0) (ab:Int) (kk_L1:(Int→Int→Option Int)):Nat→Int→Int→Option Int
  | 0,_,_=>none
  | ae+1,ac,ad=>(Zp aa.2.2.2.2 ab).bind fun af=>if (decide (ad<(af.length:Int)))=true then (Zhi aa ab kk_L1 ac ad (Zbv N aa ab kk_L1 ae) (decide (ac<10000))) else (Zhi aa ab kk_L1 ac ad (Zbv N aa ab kk_L1 ae) false)
termination_by structural x=>x
def Qw (N:Nat) (aa:R0):Nat→Int→Int→Option Int
  | 0,_,_=>none
  | ad+1,ab,ac=>if (decide (ac<(aa.2.2.2.2.length:Int)))=true then (Zbv N aa ac (Qw N aa ad) N ab 0) else (some (if 10000<ab then 10000 else ab))
termination_by structural x=>x
def Zl2 (N:Nat) (aa:R0):Option Int:=
  Qw N aa N 0 0
theorem Zz4 {N al am an ao:Nat} {ap aq ar au:Option Addr} {col:Ze} {w0:World} {aa:R0} {r:Int} (hm:Zl2 N aa=some r) (bs:Sl Za.str col w0 ap al aa.2.1) (bt:Sl (Za.slice Za.str) col w0 aq am aa.2.2.1) (bu:Sl (Za.slice (Za.int .i64)) col w0 ar an aa.2.2.2.1) (ag:Sl (Za.slice (Za.pair (Za.pair Za.bool (Za.slice (Za.int .u32))) (Za.slice (Za.int .u32)))) col w0 au ao aa.2.2.2.2):
    Calls prog 136 #[(.agg #[.string aa.1,.slice ap aa.2.1.length al,.slice aq aa.2.2.1.length am,.slice ar aa.2.2.2.1.length an,.slice au aa.2.2.2.2.length ao])] w0 (fun e w'=>e= .returned ((.int .i64 r))∧Below w0.heap.size w0 w'):=by
 refine Xm 2 (m:=53) func136 rfl rfl rfl rfl rfl ?_;rw [Zl2.eq_1] at hm;have ab:=St.start col w0;refine go ?_;refine Xv (col:=(Zk col)) 1 rfl ?_;intro ay bv bw a8 ac;refine go ?_;replace ab:=ab.grow a8;refine Z9 [1,1000000] (fun n f az=>∃ a0 ai aj ae,ae=n∧Qw N aa ae ai aj=some r∧St w0 (Zk col) a0 az∧Zj 27 1 a0 az ay #[.string aa.1,.slice ap aa.2.1.length al,.slice aq aa.2.2.1.length am,.slice ar aa.2.2.2.1.length an,.slice au aa.2.2.2.2.length ao]∧[3,4].map f=[.int .i64 ai,.int .i64 aj]) N ⟨_,0,0,_,rfl,hm,ab,ac,rfl⟩ ?_;clear hm;intro n f az hI;obtain ⟨a0,ai,aj,ae,hn,hm,ab,ac,hs⟩:=hI;subst hn;refine .lL [3,4] hs ?_;replace ag:=ag.keep (Zl.start col w0)
 cases ae with
 | zero=>rw [Qw.eq_1] at hm;cases hm
 | succ ae=>
  rw [Qw.eq_2] at hm;refine go ?_;refine Xz ac ?_;refine go ?_;refine Zq hm (fun hb hm=>go ?_) fun hb hm=>go ?_
  ·refine Z9 [1,4,1000000] (fun n f a1=>∃ a2 av aw ah,ah=n∧Zbv N aa aj (Qw N aa ae) ah av aw=some r∧St w0 (Zk col) a2 a1∧Zj 27 1 a2 a1 ay #[.string aa.1,.slice ap aa.2.1.length al,.slice aq aa.2.2.1.length am,.slice ar aa.2.2.2.1.length an,.slice au aa.2.2.2.2.length ao]∧[3,5].map f=[.int .i64 av,.int .i64 aw]) N ⟨_,_,0,_,rfl,hm,ab,ac,rfl⟩ ?_;clear hm;intro n f a1 hI;obtain ⟨a2,av,aw,ah,hn,hm,ab,ac,hs⟩:=hI;subst hn;refine .lL [3,5] hs ?_
   cases ah with
   | zero=>rw [Zbv.eq_1] at hm;cases hm
   | succ ah=>
    rw [Zbv.eq_2] at hm;refine Zv<|Zv ?_;refine Wp.cutK [1,3,4,5,1000000] (fun f a3=>∃ ad a4,Zhi aa aj (Qw N aa ae) av aw (Zbv N aa aj (Qw N aa ae) ah) a4=some r∧St w0 (Zk col) ad a3∧Zj 27 1 ad a3 ay #[.string aa.1,.slice ap aa.2.1.length al,.slice aq aa.2.2.1.length am,.slice ar aa.2.2.2.1.length an,.slice au aa.2.2.2.2.length ao]∧[24].map f=[.bool a4]) ?_ ?_
    ·intro f a3 hJ;obtain ⟨ad,a4,hm,ab,ac,hs⟩:=hJ;rw [Zhi.eq_1] at hm;refine .lL [24] hs ?_;refine Zq hm (fun hb hm=>go ?_) fun hb hm=>go ?_
     ·refine Un (col:=ad) (by kernel_rfl) (by kernel_rfl)<|go ?_;refine qF ⟨_,_,rfl⟩ ?_;refine qW (fun _ hC=>((ac.atN).nth (q:=4) rfl).gr (hC.bl ad)) ?_;refine go ?_;obtain ⟨bx,ak,hm⟩:=bZ hm;refine qI ak ((ag.ks ab).addr ak) ?_;obtain ⟨_,a9,ba⟩:=(ag.ks ab).atN ak;obtain ⟨⟨bz,b0,rfl,ax⟩,_⟩:=a9;refine qW (fun _ hC=>ba.one.gr (hC.bl ad)) ?_;refine go ?_;obtain ⟨b1,af,hm⟩:=bZ hm;refine qI af (ax.addr af)<|qF (Tz (ax.addr af)) ?_;refine qF (Tz (Tz (ax.addr af))) ?_;obtain ⟨_,bb,bc⟩:=ax.atN af;obtain ⟨_,_,rfl,bd,be⟩:=Va bb;obtain ⟨_,_,rfl,bf,bg⟩:=Va bd;obtain ⟨rfl,_⟩:=bf;obtain ⟨⟨b2,b3,rfl,b4⟩,_⟩:=bg;obtain ⟨⟨b5,b6,rfl,b7⟩,_⟩:=be;refine qW (fun _ hC=>((((bc).part 0 2 _ rfl)).nth (q:=1) rfl).gr (hC.bl ad)) ?_;refine go ?_;refine qF ⟨_,_,rfl⟩ ?_;refine qW (fun _ hC=>((ac.atN).nth (q:=4) rfl).gr (hC.bl ad)) ?_;refine go ?_;refine qI ak ((ag.ks ab).addr ak) ?_;obtain ⟨_,bh,bi⟩:=(ag.ks ab).atN ak;obtain ⟨⟨b8,b9,rfl,a5⟩,_⟩:=bh;refine qW (fun _ hC=>bi.one.gr (hC.bl ad)) ?_;refine go ?_;refine qI af (a5.addr af)<|qF (Tz (a5.addr af)) ?_;obtain ⟨_,bj,bk⟩:=a5.atN af;obtain ⟨_,_,rfl,bm,bn⟩:=Va bj;obtain ⟨_,_,rfl,bo,bp⟩:=Va bm;obtain ⟨rfl,_⟩:=bo;obtain ⟨⟨ca,cb,rfl,cc⟩,_⟩:=bp;obtain ⟨⟨cd,ce,rfl,cf⟩,_⟩:=bn;refine qW (fun _ hC=>((bk).nth (q:=2) rfl).gr (hC.bl ad)) ?_;refine go ?_;refine Wv ?_;intro cg hC;replace hC:=hC.bl ad;refine go ?_;replace ac:=ac.gr hC;replace ab:=ab.grow hC;exact ⟨ah,by omega,rfl,⟨_,_,_,_,rfl,hm,ab,ac,rfl⟩⟩
     exact ⟨ae,by omega,rfl,⟨_,_,_,_,rfl,hm,ab,ac,rfl⟩⟩
    refine go ?_;refine Xz ac<|Yf rfl ?_;obtain ⟨ch,a6,hm⟩:=bZ hm;refine lI a6 ((ag.ks ab).addr a6) ?_;obtain ⟨_,bq,br⟩:=(ag.ks ab).atN a6;obtain ⟨⟨ci,cj,rfl,ck⟩,_⟩:=bq;refine lW br.one<|go ?_;refine X8 hm (fun a7 hm=>go ?_) fun a7 hm=>go ?_
    ·refine lV (.bool (decide (av<10000))) (Xr (congrArg Value.bool a7) rfl)<|Zm ?_;exact ⟨rfl,_,_,hm,ab,ac,rfl⟩
    refine lV (.bool false) (Xh (congrArg Value.bool a7) rfl)<|Zm ?_;exact ⟨rfl,_,_,hm,ab,ac,rfl⟩
  refine lV (.int .i64 (if 10000<ai then 10000 else ai)) (Zmz ai 10000 rfl rfl)<|go ?_;cases hm;exact ⟨rfl,rfl,ab.below⟩
def Zgj (aa:Bool):Option Bool:=
  some aa
def Zam (N:Nat) (aa:R0) (ab:Int) (ac:Int) (kk_L1:(Int→Int→Option Bool)) (ad:Bool):Option Bool:=
  if ad=true then ((Zp aa.2.2.2.2 ac).bind fun ae=>kk_L1 (i64.wrap (ab+(ae.length:Int))) (i64.wrap (ac+1))) else (if (decide (12<(aa.2.1.length:Int)))=true then (Zgj true) else (if (decide (600<ab))=true then (Zgj true) else (if (decide (12<(aa.2.2.2.2.length:Int)))=true then (Zgj true) else ((Zl2 N (aa.1,aa.2.1,aa.2.2.1,aa.2.2.2.1,aa.2.2.2.2)).bind fun af=>Zgj (decide (3000<af))))))
def Ts (N:Nat) (aa:R0):Nat→Int→Int→Option Bool
  | 0,_,_=>none
  | ac+1,ad,ab=>if (decide (ab<(aa.2.2.2.2.length:Int)))=true then (Zam N aa ad ab (Ts N aa ac) (decide (ab<13))) else (Zam N aa ad ab (Ts N aa ac) false)
termination_by structural x=>x
def Zd8 (N:Nat) (aa:R0):Option Bool:=
  Ts N aa N 0 0
theorem Zzh {N ai aj ak al:Nat} {am an ao ap:Option Addr} {col:Ze} {w0:World} {aa:R0} {r:Bool} (hm:Zd8 N aa=some r) (ar:Sl Za.str col w0 am ai aa.2.1) (au:Sl (Za.slice Za.str) col w0 an aj aa.2.2.1) (av:Sl (Za.slice (Za.int .i64)) col w0 ao ak aa.2.2.2.1) (ae:Sl (Za.slice (Za.pair (Za.pair Za.bool (Za.slice (Za.int .u32))) (Za.slice (Za.int .u32)))) col w0 ap al aa.2.2.2.2):
    Calls prog 55 #[(.agg #[.string aa.1,.slice am aa.2.1.length ai,.slice an aa.2.2.1.length aj,.slice ao aa.2.2.2.1.length ak,.slice ap aa.2.2.2.2.length al])] w0 (fun e w'=>e= .returned ((.bool r))∧Below w0.heap.size w0 w'):=by
 refine Xm 2 (m:=43) func55 rfl rfl rfl rfl rfl ?_;rw [Zd8.eq_1] at hm;have ab:=St.start col w0;refine go ?_;refine Xv (col:=(Zk col)) 1 rfl ?_;intro a6 bf bg a9 ac;refine go ?_;replace ab:=ab.grow a9;refine Z9 [1,1000000] (fun n f aw=>∃ ax af ag ad,ad=n∧Ts N aa ad af ag=some r∧St w0 (Zk col) ax aw∧Zj 27 1 ax aw a6 #[.string aa.1,.slice am aa.2.1.length ai,.slice an aa.2.2.1.length aj,.slice ao aa.2.2.2.1.length ak,.slice ap aa.2.2.2.2.length al]∧[3,4].map f=[.int .i64 af,.int .i64 ag]) N ⟨_,0,0,_,rfl,hm,ab,ac,rfl⟩ ?_;clear hm;intro n f aw hI;obtain ⟨ax,af,ag,ad,hn,hm,ab,ac,hs⟩:=hI;subst hn;refine .lL [3,4] hs ?_;replace ar:=ar.keep (Zl.start col w0);replace au:=au.keep (Zl.start col w0);replace av:=av.keep (Zl.start col w0);replace ae:=ae.keep (Zl.start col w0)
 cases ad with
 | zero=>rw [Ts.eq_1] at hm;cases hm
 | succ ad=>
  rw [Ts.eq_2] at hm;refine Zv<|Zv ?_;refine Wp.cutK [1,3,4,1000000] (fun f aq=>∃ ah ay,Zam N aa af ag (Ts N aa ad) ay=some r∧St w0 (Zk col) ah aq∧Zj 27 1 ah aq a6 #[.string aa.1,.slice am aa.2.1.length ai,.slice an aa.2.2.1.length aj,.slice ao aa.2.2.2.1.length ak,.slice ap aa.2.2.2.2.length al]∧[13].map f=[.bool ay]) ?_ ?_
  ·intro f aq hJ;obtain ⟨ah,ay,hm,ab,ac,hs⟩:=hJ;rw [Zam.eq_1] at hm;refine .lL [13] hs ?_;refine Zq hm (fun hb hm=>go ?_) fun hb hm=>?_
   ·refine Xz ac<|Yf rfl ?_;obtain ⟨bh,az,hm⟩:=bZ hm;refine lI az ((ae.ks ab).addr az) ?_;obtain ⟨_,ba,bb⟩:=(ae.ks ab).atN az;obtain ⟨⟨bi,bj,rfl,bk⟩,_⟩:=ba;refine lW bb.one<|go ?_;exact ⟨ad,by omega,rfl,⟨_,_,_,_,rfl,hm,ab,ac,rfl⟩⟩
   refine Zkh (Zii ?_);refine Zv ?_;refine Wp.cutK [1000000] (fun f a7=>∃ a8 a0,Zgj a0=some r∧St w0 (Zk col) a8 a7∧[2].map f=[.bool a0]) ?_ ?_
   ·intro f a7 hJ;obtain ⟨a8,a0,hm,ab,hs⟩:=hJ;rw [Zgj.eq_1] at hm;refine .lL [2] hs<|W4 ?_;cases hm;exact ⟨rfl,rfl,ab.below⟩
   refine Wq<|Xz ac ?_;refine go ?_;refine X8 hm (fun a1 hm=>go ?_) fun a1 hm=>go ?_
   ·refine lV (.bool true) (Xr (congrArg Value.bool a1) rfl)<|Yt rfl<|lP 32 rfl rfl<|lP 32 rfl rfl<|lP 32 rfl rfl<|lP 32 rfl rfl<|lV (.bool true) (Xr rfl rfl)<|Yt rfl<|lP 38 rfl rfl<|lP 38 rfl rfl<|lP 38 rfl rfl<|lV (.bool true) (Xr rfl rfl)<|go ?_;exact ⟨rfl,_,_,hm,ab,rfl⟩
   refine lV (.bool (decide (600<af))) (Xh (congrArg Value.bool a1) rfl)<|Yt rfl ?_;refine X8 hm (fun a2 hm=>go ?_) fun a2 hm=>go ?_
   ·refine lV (.bool true) (Xr (congrArg Value.bool a2) rfl)<|Yt rfl<|lP 38 rfl rfl<|lP 38 rfl rfl<|lP 38 rfl rfl<|lV (.bool true) (Xr rfl rfl)<|go ?_;exact ⟨rfl,_,_,hm,ab,rfl⟩
   refine Xx ⟨_,_,rfl⟩ ?_;refine go ?_;refine lW ((ac.atN).nth (q:=4) rfl)<|go ?_;refine lV (.bool (decide (12<(aa.2.2.2.2.length:Int)))) (Xh (congrArg Value.bool a2) rfl)<|Yt rfl ?_;refine X8 hm (fun a3 hm=>go ?_) fun a3 hm=>go ?_
   ·refine lV (.bool true) (Xr (congrArg Value.bool a3) rfl)<|go ?_;exact ⟨rfl,_,_,hm,ab,rfl⟩
   refine lV _ (Xb isAgg27 sizeOf27 ac)<|go ?_;obtain ⟨bc,bd,hm⟩:=bZ hm;refine Zh (Zz4 bd (ar.ks ab) (au.ks ab) (av.ks ab) (ae.ks ab)) ?_;rintro _ be ⟨rfl,a4⟩;refine ⟨_,rfl,?_⟩;replace a4:Zf ah aq ah be:=.of_below a4;refine go ?_;refine lV (.bool (decide (3000<bc))) (Xh (congrArg Value.bool a3) rfl)<|go ?_;replace ab:=ab.grow a4;exact ⟨rfl,_,_,hm,ab,rfl⟩
  refine go ?_;refine Xz ac ?_;refine go ?_;refine X8 hm (fun a5 hm=>go ?_) fun a5 hm=>go ?_
  ·refine lV (.bool (decide (ag<13))) (Xr (congrArg Value.bool a5) rfl)<|Zm ?_;exact ⟨rfl,_,_,hm,ab,ac,rfl⟩
  refine lV (.bool false) (Xh (congrArg Value.bool a5) rfl)<|Zm ?_;exact ⟨rfl,_,_,hm,ab,ac,rfl⟩
def Zjn (N:Nat) (ab:List Int) (ac:List Int):Nat→Int→Option Bool
  | 0,_=>none
  | ad+1,aa=>if (decide (aa<(ab.length:Int)))=true then ((Zp ab aa).bind fun ae=>(Zp ac aa).bind fun af=>if (!decide (ae=af))=true then (some false) else ((Zjn N ab ac ad) (i64.wrap (aa+1)))) else (some true)
termination_by structural x=>x
def Zo0 (N:Nat) (aa:List Int) (ab:List Int):Option Bool:=
  if (!decide ((aa.length:Int)=(ab.length:Int)))=true then (some false) else (Zjn N aa ab N 0)
theorem Zz6 {N ai aj:Nat} {a0 a1:Option Addr} {col:Ze} {w0:World} {ad ae:R2} {r:Bool} (hm:Zo0 N ad ae=some r) (h0:Sl (Za.int .i64) col w0 a0 ai ad) (h1:Sl (Za.int .i64) col w0 a1 aj ae):
    Calls prog 53 #[.slice a0 ad.length ai,.slice a1 ae.length aj] w0 (fun e w'=>e= .returned ((.bool r))∧Below w0.heap.size w0 w'):=by
 refine Xm 4 (m:=26) func53 rfl rfl rfl rfl rfl ?_;rw [Zo0.eq_1] at hm;have aa:=St.start col w0;refine go ?_;replace h0:=h0.keep (Zl.start col w0);replace h1:=h1.keep (Zl.start col w0);refine Zq hm (fun hb hm=>go ?_) fun hb hm=>go ?_
 ·cases hm;exact ⟨rfl,rfl,aa.below⟩
 refine Z9 [0,1,1000000] (fun n f ak=>∃ ab af ac,ac=n∧Zjn N ad ae ac af=some r∧St w0 (Zk col) ab ak∧[5].map f=[.int .i64 af]) N ⟨_,0,_,rfl,hm,aa,rfl⟩ ?_;clear hm;intro n f ak hI;obtain ⟨ab,af,ac,hn,hm,aa,hs⟩:=hI;subst hn;refine .lL [5] hs ?_
 cases ac with
 | zero=>rw [Zjn.eq_1] at hm;cases hm
 | succ ac=>
  rw [Zjn.eq_2] at hm;refine go ?_;refine Zq hm (fun hb hm=>go ?_) fun hb hm=>go ?_
  ·refine Un (col:=ab) (by kernel_rfl) (by kernel_rfl)<|go ?_;obtain ⟨al,ag,hm⟩:=bZ hm;refine qI ag ((h0.ks aa).addr ag)<|qW (fun _ hC=>((h0.ks aa).gr (hC.bl ab)).atInt ag) ?_;refine go ?_;obtain ⟨am,ah,hm⟩:=bZ hm;refine qI ah ((h1.ks aa).addr ah)<|qW (fun _ hC=>((h1.ks aa).gr (hC.bl ab)).atInt ah) ?_;refine go ?_;refine Wv ?_;intro an hC;replace hC:=hC.bl ab;replace aa:=aa.grow hC;refine Zq hm (fun hb hm=>go ?_) fun hb hm=>go ?_
   ·cases hm;exact ⟨rfl,rfl,aa.below⟩
   exact ⟨ac,by omega,rfl,⟨_,_,_,rfl,hm,aa,rfl⟩⟩
  cases hm;exact ⟨rfl,rfl,aa.below⟩
theorem Zup {N:Nat} {n:Z2} (hb:∀ t ∈ n.2.2.2.2,t.length≤1048576∧∀ x ∈ t,x.1.2.length≤1048576∧x.2.length≤1048576) {i:Nat} (hi:i<n.2.2.2.2.length) (hib:i<4611686018427387904) (kk:Int→Int→Option Int) (hkk:∀ s:Int,0≤s→s≤3000000→∃ r,kk s ((i+1:Nat):Int)=some r):∀ (f k:Nat) (s:Int),0≤s→s≤3000000→k≤n.2.2.2.2[i].length→n.2.2.2.2[i].length<f+k→∃ r,Zbv N n (i:Int) kk f s (k:Int)=some r
 | 0,k,s,_,_,h1,h2=>by omega
 | f+1,k,s,s1,s2,h1,h2=>by
  have ht:=hb _ (List.getElem_mem hi)
  rw [Zbv.eq_2,Xk hi,oB]
  by_cases hk:k<n.2.2.2.2[i].length
  ·have hx:=ht.2 _ (List.getElem_mem hk)
   rw [if_pos (dT (by omega)),Zhi]
   by_cases hs:s<10000
   ·rw [decide_eq_true hs,if_pos rfl,Xk hi,oB,Xk hk,oB,Zz (x:=s+_) (by omega),Zz (by omega),wS (by omega)]
    exact Zup hb hi hib kk hkk f (k+1) _ (by omega) (by omega) (by omega) (by omega)
   ·rw [decide_eq_false hs,if_neg (by decide),wS (by omega)]
    exact hkk s s1 s2
  ·rw [if_neg (dF (by omega)),Zhi,if_neg (by decide),wS (by omega)]
   exact hkk s s1 s2
theorem Zuo {N:Nat} {n:Z2} (hb:∀ t ∈ n.2.2.2.2,t.length≤1048576∧∀ x ∈ t,x.1.2.length≤1048576∧x.2.length≤1048576) (hl:n.2.2.2.2.length≤1048576) (hN:1048577<N):∀ (f i:Nat) (s:Int),0≤s→s≤3000000→i≤n.2.2.2.2.length→n.2.2.2.2.length<f+i→∃ r,Qw N n f s (i:Int)=some r
 | 0,i,s,_,_,h1,h2=>by omega
 | f+1,i,s,s1,s2,h1,h2=>by
  rw [Qw.eq_2]
  by_cases hi:i<n.2.2.2.2.length
  ·rw [if_pos (dT (by omega))]
   have ht:=hb _ (List.getElem_mem hi)
   have:=Zup (N:=N) hb hi (by omega) (Qw N n f) (fun s' a b=>Zuo hb hl hN f (i+1) s' a b (by omega) (by omega)) N 0 s s1 s2 (Nat.zero_le _) (by omega)
   exact this
  ·rw [if_neg (dF (by omega))]
   exact ⟨_,rfl⟩
theorem Zuu {N:Nat} {n:Z2} (hb:∀ t ∈ n.2.2.2.2,t.length≤1048576∧∀ x ∈ t,x.1.2.length≤1048576∧x.2.length≤1048576) (hl:n.2.2.2.2.length≤1048576) (hN:1048577<N):∀ (f i:Nat) (s:Int),0≤s→s≤1048576 * (i:Int)→i≤13→13<f+i→∃ r,Ts N n f s (i:Int)=some r
 | 0,i,s,_,_,h1,h2=>by omega
 | f+1,i,s,s1,s2,h1,h2=>by
  have fin:∃ r,Zam N n s (i:Int) (Ts N n f) false=some r:=by
   rw [Zam,if_neg (by decide)]
   by_cases c1:(12:Int)<(n.2.1.length:Int)
   ·rw [if_pos (dT c1)];exact ⟨_,rfl⟩
   ·rw [if_neg (by rw [decide_eq_false c1];decide)]
    by_cases c2:(600:Int)<s
    ·rw [if_pos (dT c2)];exact ⟨_,rfl⟩
    ·rw [if_neg (by rw [decide_eq_false c2];decide)]
     by_cases c3:(12:Int)<(n.2.2.2.2.length:Int)
     ·rw [if_pos (dT c3)];exact ⟨_,rfl⟩
     ·rw [if_neg (by rw [decide_eq_false c3];decide)]
      obtain ⟨r,hr⟩:=Zuo (N:=N) hb hl hN N 0 0 (by omega) (by omega) (Nat.zero_le _) (by omega)
      have hr':Zl2 N (n.1,n.2.1,n.2.2.1,n.2.2.2.1,n.2.2.2.2)=some r:=hr
      rw [hr',oB];exact ⟨_,rfl⟩
  rw [Ts.eq_2]
  by_cases hi:i<n.2.2.2.2.length
  ·rw [if_pos (dT (by omega))]
   by_cases h13:i<13
   ·rw [decide_eq_true (by omega),Zam,if_pos rfl,Xk hi,oB]
    have ht:=hb _ (List.getElem_mem hi)
    rw [Zz (x:=s+_) (by omega),wS (by omega)]
    exact Zuu hb hl hN f (i+1) _ (by omega) (by omega) (by omega) (by omega)
   ·rw [decide_eq_false (by omega)];exact fin
  ·rw [if_neg (dF (by omega))];exact fin
theorem Z3b {N:Nat} {n:Z2} (hb:∀ t ∈ n.2.2.2.2,t.length≤1048576∧∀ x ∈ t,x.1.2.length≤1048576∧x.2.length≤1048576) (hl:n.2.2.2.2.length≤1048576) (hN:1048577<N):∃ r,Zd8 N n=some r:=
 Zuu hb hl hN N 0 0 (by omega) (by omega) (by omega) (by omega)
theorem Z0s {N W:Nat} {n:Z2} (hs:Wk n W) (hr:Xi N (8 * W+40)) (hN:2000000<N):∃ e,Vn N n=some e∧(e=0→Yq N n):=by
 have hnm:=hs.nm
 rw [Vn]
 by_cases hv:n.2.2.1.length=n.2.1.length
 ·by_cases hp:n.2.2.2.1.length=n.2.1.length
  ·by_cases ht:n.2.2.2.2.length=n.2.1.length
   ·rw [if_neg (by rw [decide_eq_true (by omega)];decide),if_neg (by rw [decide_eq_true (by omega)];decide),show (!decide ((n.2.2.2.2.length:Int)=(n.2.1.length:Int)))=false by rw [decide_eq_true (by omega)];rfl,Zao,if_neg (show ¬ (false=true) by decide)]
    by_cases hk:1024<n.2.1.length
    ·rw [if_pos (dT (by omega))]
     exact ⟨4,rfl,fun h=>by cases h⟩
    ·rw [if_neg (dF (by omega))]
     have nn:Zea (n.1,n.2.1,n.2.2.1,n.2.2.2.1,n.2.2.2.2)=some (Zav n.2.1 n.2.2.1 n.2.1.length 0):=Zvd n hv
     rw [nn,oB]
     by_cases hnms:Zav n.2.1 n.2.2.1 n.2.1.length 0=0
     ·rw [if_neg (by rw [decide_eq_true hnms];decide)]
      have hne:∀ l ∈ n.2.2.1,l≠[]:=fun l hl=>by
       obtain ⟨i,hi,rfl⟩:=List.mem_iff_getElem.1 hl
       have:=(Zve _ 0 hnms i (by omega) (by omega)).1
       rw [Yz hi] at this;exact this
      have fin:∀ e,Qp N n.2.2.2.1=some e→e≠0→∃ e,((Qp N n.2.2.2.1).bind fun r_17=>if (!decide (r_17=0))=true then some r_17 else Zbi N n n.2.2.2.2 0)=some e∧(e=0→Yq N n):=fun e h1 h3=>by
       rw [h1,oB,if_pos (by rw [decide_eq_false h3];decide)]
       exact ⟨e,rfl,fun h=>absurd h h3⟩
      rcases Zxp hs.pn hN with ⟨e,D,R,h3⟩ | ⟨_,_,l,_,_,_,_,D,R⟩ | ⟨hI,hT,l,ho,hok,hmx,hle,D,R⟩
      ·exact fin e (by rw [Qp,D];rfl) (by rcases h3 with h | h <;> omega)
      ·exact fin 42 (by rw [Qp,D];rfl) (by decide)
      ·have D':Qp N n.2.2.2.1=some 0:=by rw [Qp,D];rfl
       have he:Tm n:=⟨hv,hp,ht,hI,hne⟩
       have ms:=Zo7 (N:=N) hs he n.2.2.2.2 0 (by simp) (by omega)
       rw [D',oB,if_neg (by decide),ms,ht]
       by_cases hsh:So n.2.2.1 n.2.2.2.1 n.2.2.2.2 n.2.1.length 0=0
       ·have me:=Zo5 (N:=N) (n:=n) (W:=W) (hr.mono (by omega)) n.2.2.2.2 (fun t h=>⟨hs.tl t h,hs.tq t h,hs.lim t h⟩)
        rw [if_pos hsh,me]
        by_cases hen:Za7 n.2.2.2.2=true
        ·rw [if_pos hen]
         exact ⟨45,rfl,fun h=>by cases h⟩
        ·have m6:=Zo8 (N:=N) hs he hsh hr (by omega) n.2.2.2.2 0 (by simp) (by omega)
         rw [if_neg hen,m6,ht]
         exact ⟨_,rfl,fun h=>⟨he,by omega,hnms,hsh,Bool.eq_false_iff.2 hen,h,hT,l,D,ho,R,hok,hle⟩⟩
       ·rw [if_neg hsh]
        exact ⟨_,rfl,fun h=>absurd h hsh⟩
     ·rw [if_pos (by rw [decide_eq_false hnms];decide)]
      exact ⟨_,rfl,fun h=>absurd h hnms⟩
   ·rw [if_neg (by rw [decide_eq_true (by omega)];decide),if_neg (by rw [decide_eq_true (by omega)];decide),decide_eq_false (by omega),Zao,if_pos (by decide)]
    exact ⟨60,rfl,fun h=>by cases h⟩
  ·rw [if_neg (by rw [decide_eq_true (by omega)];decide),if_pos (by rw [decide_eq_false (by omega)];decide),Zao,if_pos rfl]
   exact ⟨60,rfl,fun h=>by cases h⟩
 ·rw [if_pos (by rw [decide_eq_false (by omega)];decide),Zao,if_pos rfl]
  exact ⟨60,rfl,fun h=>by cases h⟩
theorem Z1t:Wj prog 3 1 8:=⟨Tryz.t3,_,rfl,rfl,rfl,rfl,rfl⟩
def Zdc (aa:List Int):Option R2:=
  Z3 ((([]:List Int).length+aa.length) * 8≤140737488355328∧([]:List Int).length+aa.length≤maxLen) (some (([]:List Int)++aa))
theorem Zn0 {ad:Nat} {a0:Option Addr} {col:Ze} {w0:World} {ac r:R2} (c1:Nat) (hm:Zdc ac=some r) (h0:Sl (Za.int .i64) col w0 a0 ad ac):
    Calls prog 61 #[.slice a0 ac.length ad] w0 (fun e w'=>∃ (col':Ze) (ra1:Option Addr) (rc2:Nat),e= .returned ((.slice ra1 r.length rc2))∧Zf col w0 col' w'∧Zc (Za.int .i64) 3 c1 col' w' ra1 rc2 r):=by
 refine Xm 2 (m:=8) func61 rfl rfl rfl rfl rfl ?_;rw [Zdc.eq_1] at hm;have aa:=St.start col w0;refine go ?_;replace h0:=h0.keep (Zl.start col w0);rcases Zpb h0 with ab | ab
 ·replace hm:some ([]:List Int)=some r:=by have h0:=ab.2;subst h0;simpa [Z3,maxLen] using hm
  refine lv (v:=.bool a0.isNone) rfl rfl (Zht underlying33 rfl)<|.ld (d:=4) (v:=.bool true) (congrArg Value.bool ab.1)<|Zm<|Yc rfl<|go ?_;cases hm;exact ⟨rfl,_,none,0,rfl,aa.fin (cm []),Zc.nil⟩
 refine lv (v:=.bool a0.isNone) rfl rfl (Zht underlying33 rfl)<|.ld (d:=4) (v:=.bool false) (congrArg Value.bool ab)<|Zm<|X9 rfl<|go ?_;refine Zk8 (col:=(Zk col)) (r:=(Za.int .i64)) 1 rfl underlying33 Z1t rfl ?_;intro aj ak al ae af;refine Wt rfl ?_;obtain ⟨ag,hm⟩:=Z6 hm;replace h0:=h0.gr ae;refine U3 af h0.srcC ag ?_;intro am an ao ap ah ai;refine go ?_;cases hm;replace aa:=(aa.grow ae).kpp ah;exact ⟨rfl,_,_,_,rfl,aa.fin (cm [(1,c1)]),aa.fo ai⟩
def Zbw:List Int→Int→Option Rb
  | [],aa=>some (aa,0)
  | ab :: ac,aa=>Z3 (aa≠0) (if (decide ((i64.wrap (Int.tdiv 2147483647 aa))<ab))=true then (some (0,4)) else ((Zbw ac) (i64.wrap (aa * ab))))
termination_by structural x=>x
def Zjp (kk_L1:(Bool→Option Rb)) (aa:Bool):Option Rb:=
  kk_L1 aa
def Zau (aa:List Int):List Int→Bool→Option Rb
  | [],ab=>if ab=true then (some (0,0)) else (Zbw aa 1)
  | ac :: ad,ab=>if (decide (ac<0))=true then (some (0,3)) else (if ab=true then (Zjp (Zau aa ad) true) else (Zjp (Zau aa ad) (decide (ac=0))))
termination_by structural x=>x
def Zhj (aa:List Int):Option Rb:=
  Zau aa aa false
theorem Zro {ai:Nat} {a0:Option Addr} {col:Ze} {w0:World} {ab:R2} {r:Rb} (hm:Zhj ab=some r) (h0:Sl (Za.int .i64) col w0 a0 ai ab):
    Calls prog 137 #[.slice a0 ab.length ai] w0 (fun e w'=>e= .returned (.tuple #[.int .i64 r.1,.int .i64 r.2])∧Below w0.heap.size w0 w'):=by
 refine Zdu 2 3 (m:=40) (args:=[.slice a0 ab.length ai]) func137 rfl rfl rfl rfl rfl ?_;rw [Zhj.eq_1] at hm;have aa:=St.start col w0;refine go ?_;refine Z9 [0,10,11,1000000] (fun n f am=>∃ an ad aj ae,n=ae.length∧ab.drop ad=ae∧Zau ab ae aj=some r∧St w0 (Zk col) an am∧[12,4].map f=[.int .i64 ad,.bool aj]) ab.length ⟨_,0,_,_,rfl,rfl,hm,aa,rfl⟩ ?_;clear hm;intro n f am hI;obtain ⟨an,ad,aj,ae,hn,hl,hm,aa,hs⟩:=hI;subst hn;refine .lL [12,4] hs ?_;replace h0:=h0.keep (Zl.start col w0)
 cases ae with
 | nil=>
  have hk:¬ ((ad:Int)<(ab.length:Int)):=by have:=List.drop_eq_nil_iff.1 hl;omega
  have hkb:=decide_eq_false hk;rw [Zau.eq_1] at hm;refine go ?_;refine X9 (congrArg Value.bool hkb)<|go ?_;refine Zq hm (fun hb hm=>go ?_) fun hb hm=>go ?_
  ·cases hm;exact ⟨rfl,rfl,aa.below⟩
  refine Z9 [25,26,1000000] (fun n f ao=>∃ ap af ag ah,n=ah.length∧ab.drop af=ah∧Zbw ah ag=some r∧St w0 (Zk col) ap ao∧[27,7].map f=[.int .i64 af,.int .i64 ag]) ab.length ⟨_,0,1,_,rfl,rfl,hm,aa,rfl⟩ ?_;clear hm;intro n f ao hI;obtain ⟨ap,af,ag,ah,hn,hl,hm,aa,hs⟩:=hI;subst hn;refine .lL [27,7] hs ?_
  cases ah with
  | nil=>
   have hk:¬ ((af:Int)<(ab.length:Int)):=by have:=List.drop_eq_nil_iff.1 hl;omega
   have hkb:=decide_eq_false hk;rw [Zbw.eq_1] at hm;refine go ?_;refine X9 (congrArg Value.bool hkb)<|go ?_;cases hm;exact ⟨rfl,rfl,aa.below⟩
  | cons a3 av=>
   obtain ⟨ac,aw,ax⟩:=Ym hl;have hk:(af:Int)<(ab.length:Int):=by omega
   have hkb:=decide_eq_true hk;rw [Zbw.eq_2] at hm;refine go ?_;refine Yc (congrArg Value.bool hkb)<|go ?_;refine lI ac ((h0.ks aa).addr ac)<|lW ((h0.ks aa).atInt ac) ?_;refine go ?_;obtain ⟨ay,hm⟩:=Z6 hm;refine lV (.int .i64 (i64.wrap (Int.tdiv 2147483647 ag))) (Vf 2147483647 ag rfl rfl ay)<|go ?_;refine Zq hm (fun hb hm=>go ?_) fun hb hm=>go ?_
   ·cases hm;exact ⟨rfl,rfl,aa.below⟩
   exact ⟨av.length,by simp,rfl,⟨_,_,_,_,rfl,aw,hm,aa,(Ys (congrArg (Value.int .i64) (Yp (Nat.lt_of_lt_of_le ax (h0.ks aa).1.1))) rfl)⟩⟩
 | cons az aq=>
  obtain ⟨ac,a1,a2⟩:=Ym hl;have hk:(ad:Int)<(ab.length:Int):=by omega
  have hkb:=decide_eq_true hk;rw [Zau.eq_2] at hm;refine go ?_;refine Yc (congrArg Value.bool hkb)<|X3<|Zv ?_;refine Wp.cutK [0,10,11,12,1000000] (fun f ar=>∃ au ak,Zjp (Zau ab aq) ak=some r∧St w0 (Zk col) au ar∧[4].map f=[.bool ak]) ?_ ?_
  ·intro f ar hJ;obtain ⟨au,ak,hm,aa,hs⟩:=hJ;rw [Zjp.eq_1] at hm;refine .lL [4] hs<|go ?_;exact ⟨aq.length,by simp,rfl,⟨_,_,_,_,rfl,a1,hm,aa,(Ys (congrArg (Value.int .i64) (Yp (Nat.lt_of_lt_of_le a2 (h0.ks aa).1.1))) rfl)⟩⟩
  refine go ?_;refine lI ac ((h0.ks aa).addr ac)<|lW ((h0.ks aa).atInt ac) ?_;refine go ?_;refine Zq hm (fun hb hm=>go ?_) fun hb hm=>go ?_
  ·cases hm;exact ⟨rfl,rfl,aa.below⟩
  refine X8 hm (fun al hm=>go ?_) fun al hm=>go ?_
  ·refine lV (.bool true) (Xr (congrArg Value.bool al) rfl)<|go ?_;exact ⟨rfl,_,_,hm,aa,rfl⟩
  refine lV (.bool (decide (az=0))) (Xh (congrArg Value.bool al) rfl)<|go ?_;exact ⟨rfl,_,_,hm,aa,rfl⟩
def Zc9 (N:Nat) (ab:List Int):Nat→Int→Option Ri
  | 0,_=>none
  | ac+1,aa=>if (decide (0≤aa))=true then ((Zp ab aa).bind fun ad=>((Zc9 N ab ac) (i64.wrap (aa - 1))).bind fun ae=>some ((aa,ad) :: ae)) else (some [])
termination_by structural x=>x
def Zl5 (N:Nat) (aa:List Int):Option Ri:=
  Zc9 N aa N (i64.wrap ((aa.length:Int) - 1))
theorem Z0b (N:Nat) (col:Ze) (w0:World) (g0:Nat) (af0:Option Addr) (capf0:Nat) (ab:List Int) (hf0:Sl (Za.int .i64) col w0 af0 capf0 ab) (hb0:Zj 33 450 col w0 g0 #[.slice af0 ab.length capf0]) (r:List Rb) (hm:Zl5 N ab=some r):
    Ze8 prog 1 215 [.pointer (some ⟨g0,0,none⟩)] (fun (y:Int×Int) (col:Ze) (w:World) (args:List Value)=>args=[.int .i64 y.1,.int .i64 y.2]) r col w0:=by
 intro l J X hjs hxs hy aa;refine Zfi (m:=19) (args:=[.func (.yield l) #[] #[],.pointer (some ⟨g0,0,none⟩)]) func215 rfl rfl rfl rfl ?_;rw [Zl5.eq_1] at hm;refine go ?_;refine lW hb0.at1<|go ?_;refine Z9 [0,1,1000000] (fun n f ad=>∃ ae r af ac,ac=n∧Zc9 N ab ac af=some r∧J r ae ad∧Sl (Za.int .i64) ae ad af0 capf0 ab∧Zj 33 450 ae ad g0 #[.slice af0 ab.length capf0]∧[3].map f=[.int .i64 af]) N ⟨_,_,_,_,rfl,hm,aa,hf0,hb0,rfl⟩ ?_;clear hm;intro n f ad hI;obtain ⟨ae,r,af,ac,hn,hm,aa,hf0,hb0,hs⟩:=hI;subst hn;refine .lL [3] hs ?_
 cases ac with
 | zero=>rw [Zc9.eq_1] at hm;cases hm
 | succ ac=>
  rw [Zc9.eq_2] at hm;refine go ?_;refine Zq hm (fun hb hm=>go ?_) fun hb hm=>go ?_
  ·refine lM (.func (.yield l) #[] #[])<|Yf rfl<|lW hb0.at1<|Yf rfl ?_;obtain ⟨ai,ag,hm⟩:=bZ hm;refine lI ag (hf0.addr ag)<|lW (hf0.atInt ag) ?_;obtain ⟨ak,hc_8m,aj⟩:=bZ hm;cases aj;have hm:=hc_8m;refine ly2 rfl rfl rfl rfl (hy _ _ _ _ [.int .i64 af,.int .i64 ai] aa rfl) ?_;rintro _ al ⟨am,ah,⟨rfl,hJ⟩ | ⟨rfl,hX⟩⟩
   ·refine ⟨_,rfl,?_⟩;have aa:=hJ;refine go ?_;refine X9 rfl<|go ?_;replace hf0:=hf0.kpp ah;replace hb0:=hb0.kpp ah;exact ⟨ac,by omega,rfl,⟨_,_,_,_,rfl,hm,aa,hf0,hb0,rfl⟩⟩
   refine ⟨_,rfl,?_⟩;have aa:=hX;refine go ?_;refine Yc rfl<|W4 ?_;exact ⟨rfl,⟨_,rfl⟩,_,.inr aa⟩
  cases hm;exact ⟨rfl,⟨_,rfl⟩,_,.inl aa⟩
def Zl4 (N:Nat) (aa:List Int):Option Ri:=
  Zl5 N aa
theorem Z0a {N ac:Nat} {a0:Option Addr} {col:Ze} {w0:World} {aa:R2} {r:Ri} (hm:Zl4 N aa=some r) (h0:Sl (Za.int .i64) col w0 a0 ac aa):
    Calls prog 186 #[.slice a0 aa.length ac] w0 (fun e w'=>∃ (col':Ze) (rv1:Value),e= .returned (rv1)∧Zf col w0 col' w'∧It prog 1 rv1 (fun (y:Int×Int) (col:Ze) (w:World) (args:List Value)=>args=[.int .i64 y.1,.int .i64 y.2]) r q0 col' w'):=by
 refine Xm 2 (m:=4) func186 rfl rfl rfl rfl rfl ?_;rw [Zl4.eq_1] at hm;have ab:=St.start col w0;refine go ?_;refine Zdw (col:=(Zk col)) (v:=(.slice a0 aa.length ac)) 1 rfl rfl ?_;intro ad ai ag aj ae;replace ae:Zj 33 1 ag ai ad #[.slice a0 aa.length ac]:=ae;refine lv (v:=_) rfl rfl (V7 rfl)<|go ?_;refine lV (.func (.func 215) #[] #[.pointer (some ⟨ad,0,none⟩)]) (Zps rfl)<|lA (.func (.func 215) #[] #[.pointer (some ⟨ad,0,none⟩)])<|go ?_;replace ab:=ab.grow aj;have af:=ab.finBox (G:=(fun n=>bif Nat.beq n 1 then 450 else 0)) ae (by decide) (by decide) (show (fun n=>bif Nat.beq n 1 then 450 else 0) 1=450 from rfl);replace h0:=h0.keep (Zl.start col w0);have h0f:=ab.finSl (g:=(fun n=>bif Nat.beq n 1 then 450 else 0)) rfl (h0.ks ab);refine ⟨rfl,V1 w0.heap.size col ag (fun n=>bif Nat.beq n 1 then 450 else 0),_,rfl,ab.fin (fun n=>bif Nat.beq n 1 then 450 else 0),215,[.pointer (some ⟨ad,0,none⟩)],rfl,call215,?_⟩;intro col9 w9 ah hk9;replace af:=af.itk ah hk9 rfl;replace h0f:=h0f.itk ah hk9 rfl;exact Z0b N col9 w9 ad a0 ac aa h0f af r hm
def Zc8:List Rb→Int→R2→Option R2
  | [],ac,ab=>some ab
  | aa :: ad,ac,ab=>Z3 (aa.2≠0) ((Zp ab aa.1).bind fun af=>(some (ab.set (Int.toNat aa.1) (Int.tmod ac aa.2))).bind fun ae=>Z3 (aa.2≠0) ((Zc8 ad) (i64.wrap (Int.tdiv ac aa.2)) ae))
termination_by structural x=>x
def Zjq (N:Nat) (aa:List Int) (ab:Int):Option R2:=
  if (decide ((aa.length:Int)=0))=true then (some ([]:List Int)) else (Z3 (aa.length * 8≤281474976710656∧aa.length≤maxLen) ((Zl4 N aa).bind fun ac=>Zc8 ac ab (List.replicate aa.length (0:Int))))
theorem Zz9 {N a1:Nat} {a0:Option Addr} {col:Ze} {w0:World} {ag:R2} {am:Int} {r:R2} (c1:Nat) (hm:Zjq N ag am=some r) (h0:Sl (Za.int .i64) col w0 a0 a1 ag):
    Calls prog 140 #[.slice a0 ag.length a1,.int .i64 am] w0 (fun e w'=>∃ (col':Ze) (ra1:Option Addr) (rc2:Nat),e= .returned ((.slice ra1 r.length rc2))∧Zf col w0 col' w'∧Zc (Za.int .i64) 3 c1 col' w' ra1 rc2 r):=by
 refine Z0q 4 (mc:=499) (m:=28) (args:=[.slice a0 ag.length a1,.int .i64 am]) func140 rfl rfl rfl rfl rfl ?_;rw [Zjq.eq_1] at hm;have aa:=St.start col w0;replace h0:=h0.keep (Zl.start col w0);have hmk:Yg 499 (Zk col) w0 []:=.nil;refine go ?_;refine Zdw (col:=(Zk col)) (v:=(.int .i64 am)) 1 rfl rfl ?_;intro a2 a9 a3 ba ac;replace ac:Zj 3 1 a3 a9 a2 #[.int .i64 am]:=ac;refine go ?_;replace hmk:=hmk.gr ba;replace aa:=aa.grow ba;refine Zq hm (fun hb hm=>go ?_) fun hb hm=>go ?_
 ·cases hm;refine ⟨_,[],rfl,hmk,?_⟩;intro bz bh bi;replace aa:=aa.kp bh bi;exact ⟨V1 w0.heap.size col a3 (fun n=>0),none,0,rfl,aa.fin (fun n=>0),Zc.nil⟩
 obtain ⟨bb,hm⟩:=Z6 hm;refine T9 (col:=a3) (w:=a9) (r:=(Za.int .i64)) (n:=ag.length) (x0:=0) 2 rfl underlying33 Tryz.t3 rfl rfl rfl rfl rfl rfl rfl bb.1 bb.2 (Qe .i64 0) ?_;intro a4 b0 bj a5 a6;refine Za9 (col:=bj) (v:=(.slice none (([]:List Int).length) 0)) 3 rfl zeroValue33 ?_;intro ar bk bc au a7;replace a7:Zj 33 3 bc bk ar #[.slice none (([]:List Int).length) 0]:=a7;refine Ut (v:=(.slice a4 ((List.replicate ag.length (0:Int)).length) ag.length)) a7 sizeOf33 rfl rfl (by intro u hu;simp only [Value.cells,List.mem_cons,List.not_mem_nil,or_false] at hu;subst hu;rfl) rfl rfl ?_;intro bm av bn ab;replace ab:Zj 33 3 bc bm ar #[.slice a4 ((List.replicate ag.length (0:Int)).length) ag.length]:=ab;refine go ?_;obtain ⟨bo,bp,hm⟩:=bZ hm;replace aa:=((aa.grow a5).grow au).kp av bn;refine Zh (Z0a bp (h0.ks aa)) ?_;rintro _ b1 ⟨bq,b2,rfl,aq,br⟩;refine ⟨_,rfl,go ?_⟩;replace ac:=(((ac.gr a5).gr au).kp av).gr aq;replace hmk:=(((hmk.gr a5).gr au).kp av).gr aq;replace a6:=((a6.gr au).kp av).gr aq;replace ab:=ab.gr aq;replace aa:=aa.grow aq;refine Znb (psl:=[16,17]) (arr:=(fun (y:Int×Int) (col:Ze) (w:World) (args:List Value)=>args=[.int .i64 y.1,.int .i64 y.2])) (ys:=bo) (col:=bq) 498 rfl br rfl hmk rfl rfl (by rintro _ _ _ _ rfl;rfl) (fun ys_ ad al=>∃ (ae:Int) (ai:Option Addr) (aj:Nat) (ak:List Int),Zc8 ys_ ae ak=some r∧St w0 (Zk col) ad al∧Zj 3 1 ad al a2 #[.int .i64 ae]∧Zc (Za.int .i64) 3 2 ad al ai aj ak∧Zj 33 3 ad al ar #[.slice ai ak.length aj]) (fun _ _ _=>False) ?_ ?_ ⟨am,a4,ag.length,(List.replicate ag.length (0:Int)),hm,aa,ac,a6,ab⟩ ?_ ?_ ?_
 ·intro ys_ ad al col2_ w2_ hJ hk;obtain ⟨ae,ai,aj,ak,hm,aa,ac,af,ab⟩:=hJ;exact ⟨ae,ai,aj,ak,hm,aa.kpp hk rfl rfl,ac.kpp hk rfl,af.kpp hk rfl rfl,ab.kpp hk rfl⟩
 ·intro _ _ _ _ _ h _;exact h
 ·intro b3 b4 b5 ah b6 ad al args hJ hrec hmk harr;obtain ⟨ae,ai,aj,ak,hm,aa,ac,af,ab⟩:=hJ;rw [Zc8.eq_2] at hm;have hki:=Zt.refl (pC 1) ad al;subst harr;refine go ?_;refine ⟨_,hrec,?_⟩;intro b7 b8 an bd hrec2;have hrec:=hrec2;refine go ?_;refine Wi (col:=ad) [(0,0),(1,1),(2,0),(3,1),(4,1),(5,1),(6,2)] (by kernel_rfl) (by kernel_rfl) ?_;replace ab:=ab.kp an;refine xW (fun _ hC=>ab.at1.gr (hC.bl ad)) ?_;refine xu rfl rfl (fun _=>W1 rfl) ?_;replace ac:=ac.kp an;refine xW (fun _ hC=>ac.at1.gr (hC.bl ad)) ?_;refine xu rfl rfl (fun _=>W1 rfl) ?_;obtain ⟨bs,hm⟩:=Z6 hm;refine xu (v:=(.int .i64 (Int.tmod ae ah.2))) rfl rfl (fun _=>Ti ae ah.2 rfl rfl bs) ?_;obtain ⟨b9,aw,hm⟩:=bZ hm;replace af:=af.kp an;refine xu rfl rfl (fun _=>We underlying33 sizeOf3 rfl rfl (Xl aw).1 (Xl aw).2.1 (af.addr aw)) ?_;refine xe rfl rfl ?_;intro ca hC0;have hC:=hC0.bl ad;obtain ⟨ax,ay,hm⟩:=bZ hm;have ay:ax=ak.set (Int.toNat ah.1) (Int.tmod ae ah.2):=(Option.some.inj ay).symm;replace af:=af.gr hC;refine Y7 (x1:=Int.tmod ae ah.2) af aw ?_;intro bt ao be az;rw [← ay] at az;replace ab:=(ab.gr hC).kp ao;replace ab:Zj 33 3 ad bt ar #[.slice ai ax.length aj]:=by rw [← (show ak.length=ax.length by rw [ay,nS])];exact ab
  refine Zm<|xk ad<|Wf ?_;replace hmk:=((hmk.kp an).gr hC).kp ao;replace hki:=((hki.kp an bd rfl).gr hC).kp ao be rfl;replace aa:=((aa.kp an bd).grow hC).kp ao be;replace ac:=(ac.gr hC).kp ao;replace hrec:=(hrec.gr hC).kp ao;intro cb hC;replace hC:=hC.bl ad;refine Wq ?_;replace ac:=ac.gr hC;refine lW ac.at1<|Yf rfl ?_;obtain ⟨bu,hm⟩:=Z6 hm;refine lV (.int .i64 (i64.wrap (Int.tdiv ae ah.2))) (Vf ae ah.2 rfl rfl bu)<|Ut (v:=(.int .i64 (i64.wrap (Int.tdiv ae ah.2)))) ac sizeOf3 rfl rfl (by intro u hu;simp only [Value.cells,List.mem_cons,List.not_mem_nil,or_false] at hu;subst hu;rfl) rfl rfl ?_;intro bv ap bf a8;replace a8:Zj 3 1 ad bv a2 #[.int .i64 (i64.wrap (Int.tdiv ae ah.2))]:=a8;refine Zm ?_;replace az:=(az.gr hC).kp ap;replace ab:=(ab.gr hC).kp ap;replace hrec:=(hrec.gr hC).kp ap;replace hmk:=(hmk.gr hC).kp ap;replace hki:=(hki.gr hC).kp ap bf rfl;replace aa:=(aa.grow hC).kp ap bf;exact ⟨_,hki,⟨(i64.wrap (Int.tdiv ae ah.2)),ai,aj,ax,hm,aa,a8,az,ab⟩,hrec,hmk⟩
 ·intro bw ad al hJ hmk;obtain ⟨ae,ai,aj,ak,hm,aa,ac,af,ab⟩:=hJ;rw [Zc8.eq_1] at hm;refine go ?_;refine lW ab.at1<|go ?_;cases hm;refine ⟨_,(bw :: []),rfl,hmk,?_⟩;intro cc bg bx;replace af:=af.kp bg;replace aa:=aa.kp bg bx;exact ⟨V1 w0.heap.size col ad (fun n=>bif Nat.beq n 2 then c1 else 0),ai,aj,rfl,aa.fin (fun n=>bif Nat.beq n 2 then c1 else 0),aa.finOwn (g:=(fun n=>bif Nat.beq n 2 then c1 else 0)) rfl af (by decide) (by decide) rfl⟩
 intro _ _ _ _ h;exact h.elim
def Zc7 (N:Nat) (ab:Int) (ac:List Int):Nat→Int→Option (List R5)
  | 0,_=>none
  | ad+1,aa=>if (decide (aa<ab))=true then ((Zjq N ac aa).bind fun ae=>((Zc7 N ab ac ad) (i64.wrap (aa+1))).bind fun af=>some ((aa,ae) :: af)) else (some [])
termination_by structural x=>x
def Zl3 (N:Nat) (aa:Int) (ab:List Int):Option (List R5):=
  Zc7 N aa ab N 0
theorem Zz8 (N:Nat) (cy:Nat) (col:Ze) (w0:World) (g0:Nat) (ah:Int) (hb0:Zj 3 450 col w0 g0 #[.int .i64 ah]) (g1:Nat) (af1:Option Addr) (capf1:Nat) (ad:List Int) (hf1:Zc (Za.int .i64) 3 450 col w0 af1 capf1 ad) (hb1:Zj 33 450 col w0 g1 #[.slice af1 ad.length capf1]) (r:List R5) (hm:Zl3 N ah ad=some r):
    Ze8 prog 1 139 [.pointer (some ⟨g0,0,none⟩),.pointer (some ⟨g1,0,none⟩)] (fun (y:Int×List Int) (col:Ze) (w:World) (args:List Value)=>∃ (a1:Option Addr) (ak:Nat),args=[.int .i64 y.1,.slice a1 y.2.length ak]∧Zc (Za.int .i64) 3 cy col w a1 ak y.2) r col w0:=by
 intro l J X hjs hxs hy aa;refine Zfi (m:=17) (args:=[.func (.yield l) #[] #[],.pointer (some ⟨g0,0,none⟩),.pointer (some ⟨g1,0,none⟩)]) func139 rfl rfl rfl rfl ?_;rw [Zl3.eq_1] at hm;refine go ?_;refine lW hb0.at1<|go ?_;refine Z9 [0,2,5,1000000] (fun n f ae=>∃ ab r ai af,af=n∧Zc7 N ah ad af ai=some r∧J r ab ae∧Zc (Za.int .i64) 3 450 ab ae af1 capf1 ad∧Zj 33 450 ab ae g1 #[.slice af1 ad.length capf1]∧Zj 3 450 ab ae g0 #[.int .i64 ah]∧[6].map f=[.int .i64 ai]) N ⟨_,_,0,_,rfl,hm,aa,hf1,hb1,hb0,rfl⟩ ?_;clear hm;intro n f ae hI;obtain ⟨ab,r,ai,af,hn,hm,aa,hf1,hb1,hb0,hs⟩:=hI;subst hn;refine .lL [6] hs ?_
 cases af with
 | zero=>rw [Zc7.eq_1] at hm;cases hm
 | succ af=>
  rw [Zc7.eq_2] at hm;refine go ?_;refine Zq hm (fun hb hm=>go ?_) fun hb hm=>go ?_
  ·refine lM (.func (.yield l) #[] #[])<|Yf rfl<|lW hb1.at1<|Yf rfl ?_;obtain ⟨an,ao,hm⟩:=bZ hm;refine Zh (Zz9 501 ao (hf1.toSlF (Zg.int .i64))) ?_;rintro _ ar ⟨ap,al,am,rfl,ac,ag⟩;refine ⟨_,rfl,?_⟩;replace ag:=ag.thaw (Zy .i64) ac ((Fz.refl (col:=ab)).froz 450) (by decide);replace ac:=ac.thawR (col:=ab);generalize Z7 ae.heap.size ab ap=au at *;replace hf1:=hf1.gr ac;replace hb1:=hb1.gr ac;replace hb0:=hb0.gr ac;replace aa:=hjs _ _ _ _ _ aa ac.toP;replace hf1:=hf1.recol 501 cy (by decide);replace ag:=ag.recolSelf cy (by decide);replace hb1:=hb1.recol 501 cy (by decide);replace hb0:=hb0.recol 501 cy (by decide);replace aa:=hjs _ _ _ _ _ aa ((Zt.refl _ _ _).recol 501 cy rfl);obtain ⟨av,hc_15m,aq⟩:=bZ hm;cases aq;have hm:=hc_15m;refine ly2 rfl rfl rfl rfl (hy _ _ _ _ [.int .i64 ai,.slice al an.length am] aa ⟨al,am,rfl,ag⟩) ?_;rintro _ aw ⟨ax,aj,⟨rfl,hJ⟩ | ⟨rfl,hX⟩⟩
   ·refine ⟨_,rfl,?_⟩;have aa:=hJ;refine go ?_;refine X9 rfl<|go ?_;replace hf1:=hf1.kpp aj;replace hb1:=hb1.kpp aj;replace hb0:=hb0.kpp aj;exact ⟨af,by omega,rfl,⟨_,_,_,_,rfl,hm,aa,hf1,hb1,hb0,rfl⟩⟩
   refine ⟨_,rfl,?_⟩;have aa:=hX;refine go ?_;refine Yc rfl<|W4 ?_;exact ⟨rfl,⟨_,rfl⟩,_,.inr aa⟩
  cases hm;exact ⟨rfl,⟨_,rfl⟩,_,.inl aa⟩
def Zjo (N:Nat) (ab:List Int):Option (List R5):=
  (Zdc ab).bind fun aa=>(Zhj aa).bind fun ac=>Zl3 N ac.1 aa
theorem Zz7 {N ay:Nat} {a0:Option Addr} {col:Ze} {w0:World} {ai:R2} {r:(List R5)} (cy:Nat) (hm:Zjo N ai=some r) (h0:Sl (Za.int .i64) col w0 a0 ay ai):
    Calls prog 60 #[.slice a0 ai.length ay] w0 (fun e w'=>∃ (col':Ze) (rv1:Value),e= .returned (rv1)∧Zf col w0 col' w'∧It prog 1 rv1 (fun (y:Int×List Int) (col:Ze) (w:World) (args:List Value)=>∃ (a1:Option Addr) (az:Nat),args=[.int .i64 y.1,.slice a1 y.2.length az]∧Zc (Za.int .i64) 3 cy col w a1 az y.2) r q1 col' w'):=by
 refine Xm 2 (m:=14) func60 rfl rfl rfl rfl rfl ?_;rw [Zjo.eq_1] at hm;have aa:=St.start col w0;refine go ?_;refine lv (v:=_) rfl rfl (V7 rfl)<|go ?_;obtain ⟨aj,a5,hm⟩:=bZ hm;replace h0:=h0.keep (Zl.start col w0);refine Zh (Zn0 1 a5 (h0.ks aa)) ?_;rintro _ bf ⟨a6,ak,al,rfl,a7,ac⟩;refine ⟨_,rfl,?_⟩;refine Za9 (col:=a6) (v:=(.slice none (([]:List Int).length) 0)) 2 rfl zeroValue33 ?_;intro ad a8 ag a2 am;replace am:Zj 33 2 ag a8 ad #[.slice none (([]:List Int).length) 0]:=am;refine Ut (v:=(.slice ak aj.length al)) am sizeOf33 rfl rfl (by intro u hu;simp only [Value.cells,List.mem_cons,List.not_mem_nil,or_false] at hu;subst hu;rfl) rfl rfl ?_;intro a3 a4 a9 ae;replace ae:Zj 33 2 ag a3 ad #[.slice ak aj.length al]:=ae;refine go ?_;refine lW ae.at1 ?_;obtain ⟨ab,ba,hm⟩:=bZ hm;replace ac:=(ac.gr a2).kp a4;refine Zh (Zro ba (ac.toSlF (Zg.int .i64))) ?_;rintro _ bb ⟨rfl,ah⟩;refine ⟨_,rfl,?_⟩;replace ah:Zf ag a3 ag bb:=.of_below ah;refine lM (.tuple #[.int .i64 ab.1,.int .i64 ab.2])<|lV (.int .i64 ab.1) (Xf rfl rfl)<|lV (.int .i64 ab.2) (Xf rfl rfl)<|Za9 (col:=ag) (v:=(.int .i64 0)) 3 rfl zeroValue3 ?_;intro af bc an ao ap;replace ap:Zj 3 3 an bc af #[.int .i64 0]:=ap;refine Ut (v:=(.int .i64 ab.1)) ap sizeOf3 rfl rfl (by intro u hu;simp only [Value.cells,List.mem_cons,List.not_mem_nil,or_false] at hu;subst hu;rfl) rfl rfl ?_;intro bd aq be ar;replace ar:Zj 3 3 an bd af #[.int .i64 ab.1]:=ar;refine go ?_;refine lV (.func (.func 139) #[] #[.pointer (some ⟨af,0,none⟩),.pointer (some ⟨ad,0,none⟩)]) (Zpt rfl rfl)<|lA (.func (.func 139) #[] #[.pointer (some ⟨af,0,none⟩),.pointer (some ⟨ad,0,none⟩)])<|go ?_;replace aa:=(((((aa.grow a7).grow a2).kp a4 a9).grow ah).grow ao).kp aq be;have au:=aa.finBox (G:=(fun n=>bif Nat.beq n 3 then 450 else bif Nat.beq n 2 then 450 else bif Nat.beq n 1 then 450 else 0)) ar (by decide) (by decide) (show (fun n=>bif Nat.beq n 3 then 450 else bif Nat.beq n 2 then 450 else bif Nat.beq n 1 then 450 else 0) 3=450 from rfl);replace ae:=((ae.gr ah).gr ao).kp aq;have av:=aa.finBox (G:=(fun n=>bif Nat.beq n 3 then 450 else bif Nat.beq n 2 then 450 else bif Nat.beq n 1 then 450 else 0)) ae (by decide) (by decide) (show (fun n=>bif Nat.beq n 3 then 450 else bif Nat.beq n 2 then 450 else bif Nat.beq n 1 then 450 else 0) 2=450 from rfl);replace ac:=((ac.gr ah).gr ao).kp aq
 have aw:=aa.finOwn (g:=(fun n=>bif Nat.beq n 3 then 450 else bif Nat.beq n 2 then 450 else bif Nat.beq n 1 then 450 else 0)) rfl ac (by decide) (by decide) (show (fun n=>bif Nat.beq n 3 then 450 else bif Nat.beq n 2 then 450 else bif Nat.beq n 1 then 450 else 0) 1=450 from rfl);refine ⟨rfl,V1 w0.heap.size col an (fun n=>bif Nat.beq n 3 then 450 else bif Nat.beq n 2 then 450 else bif Nat.beq n 1 then 450 else 0),_,rfl,aa.fin (fun n=>bif Nat.beq n 3 then 450 else bif Nat.beq n 2 then 450 else bif Nat.beq n 1 then 450 else 0),139,[.pointer (some ⟨af,0,none⟩),.pointer (some ⟨ad,0,none⟩)],rfl,call139,?_⟩;intro col9 w9 ax hk9;replace au:=au.itk ax hk9 rfl;replace av:=av.itk ax hk9 rfl;replace aw:=aw.itk ax hk9 rfl (Zy .i64);exact Zz8 N cy col9 w9 af ab.1 au ad ak al aj aw av r hm
def Ya:List Nat→Nat
 | []=>1
 | s :: ss=>s * Ya ss
def Y5:List Nat→Nat→List Int
 | [],_=>[]
 | s :: ss,a=>((a / Ya ss:Nat):Int) :: Y5 ss (a % Ya ss)
def Zmm:List Nat→List Int→Nat
 | s :: ss,d :: w=>d.toNat * Ya ss+Zmm ss w
 | _,_=>0
theorem Zmo:∀ ss:List Nat,(∀ s ∈ ss,0<s)→0<Ya ss
 | [],_=>by rw [Ya];decide
 | s :: ss,h=>Nat.mul_pos (h s List.mem_cons_self) (Zmo ss fun x hx=>h x (List.mem_cons_of_mem _ hx))
def Zki:List Nat→List Int→Prop
 | [],[]=>True
 | s :: ss,d :: w=>(0≤d∧d<(s:Int))∧Zki ss w
 | _,_=>False
theorem Zod:∀ (ss:List Nat) (a:Nat),(∀ s ∈ ss,0<s)→a<Ya ss→Zki ss (Y5 ss a)
 | [],_,_,_=>trivial
 | s :: ss,a,h,ha=>by
  have hp:=Zmo ss fun x hx=>h x (List.mem_cons_of_mem _ hx)
  rw [Ya] at ha
  refine ⟨⟨Int.natCast_nonneg _,Int.ofNat_lt.2 ((Nat.div_lt_iff_lt_mul hp).2 ha)⟩,Zod ss _ (fun x hx=>h x (List.mem_cons_of_mem _ hx)) (Nat.mod_lt _ hp)⟩
theorem Zpl:∀ (ss:List Nat) (a:Nat),(∀ s ∈ ss,0<s)→a<Ya ss→Zmm ss (Y5 ss a)=a
 | [],a,_,ha=>by rw [Ya] at ha;rw [Y5,Zmm];omega;intro s ss d w h;cases h
 | s :: ss,a,h,ha=>by
  have hp:=Zmo ss fun x hx=>h x (List.mem_cons_of_mem _ hx)
  rw [Y5,Zmm,Int.toNat_natCast,Zpl ss _ (fun x hx=>h x (List.mem_cons_of_mem _ hx)) (Nat.mod_lt _ hp),Nat.mul_comm]
  exact Nat.div_add_mod a (Ya ss)
def Vg (ss:List Nat):List Int:=ss.map fun s:Nat=>(s:Int)
theorem Zn6 {l:List Int} (h:l.length≤1099511627776):Zdc l=some l:=by
 rw [Zdc,Xg (by simp only [nN,maxLen];omega),List.nil_append]
theorem Zxm:∀ (ss:List Nat) (c:Nat),0<c→(∀ s ∈ ss,0<s)→c * Ya ss≤65536→Zbw (Vg ss) (c:Int)=some (((c * Ya ss:Nat):Int),0)
 | [],c,_,_,_=>by rw [Vg,List.map_nil,Zbw.eq_1,Ya,Nat.mul_one]
 | s :: ss,c,hc,hs,hb=>by
  have hp:=Zmo ss fun x hx=>hs x (List.mem_cons_of_mem _ hx)
  have h0:=hs s List.mem_cons_self
  rw [Ya,← Nat.mul_assoc] at hb ⊢
  have h1:c * s≤c * s * Ya ss:=Nat.le_mul_of_pos_right _ hp
  have e:Int.tdiv 2147483647 (c:Int)=((2147483647 / c:Nat):Int):=rfl
  have h2:s≤2147483647 / c:=by
   rw [Nat.le_div_iff_mul_le hc,Nat.mul_comm];omega
  have h3:2147483647 / c≤2147483647:=Nat.div_le_self _ _
  have e2:(c:Int) * (s:Int)=((c * s:Nat):Int):=(Int.natCast_mul c s).symm
  rw [Vg,List.map_cons,Zbw.eq_2,Xg (by omega),e,Zz (x:=((2147483647 / c:Nat):Int)) (by omega),if_neg (dF (by omega)),e2,Zz (by omega)]
  exact Zxm ss (c * s) (Nat.mul_pos hc h0) (fun x hx=>hs x (List.mem_cons_of_mem _ hx)) hb
theorem Zxl (p:List Int):∀ (ss:List Nat),(∀ s ∈ ss,0<s)→Zau p (Vg ss) false=Zbw p 1
 | [],_=>by rw [Vg,List.map_nil,Zau.eq_1,if_neg (by decide)]
 | s :: ss,hs=>by
  have h0:=hs s List.mem_cons_self
  rw [Vg,List.map_cons,Zau.eq_2,if_neg (dF (by omega)),if_neg (by decide),Zjp,decide_eq_false (by omega)]
  exact Zxl p ss fun x hx=>hs x (List.mem_cons_of_mem _ hx)
theorem Zxn {ss:List Nat} (hs:∀ s ∈ ss,0<s) (hb:Ya ss≤65536):Zhj (Vg ss)=some ((Ya ss:Int),0):=by
 have:=Zxm ss 1 (by decide) hs (by rw [Nat.one_mul];exact hb)
 rw [Zhj,Zxl _ ss hs,show (1:Int)=((1:Nat):Int) from rfl,this,Nat.one_mul]
def Zfc (ss:List Nat):Nat→List Rb
 | 0=>[]
 | k+1=>((k:Int),((ss.getD k 0:Nat):Int)) :: Zfc ss k
theorem Z5v {ss:List Nat} {k:Nat} (h:k<ss.length):Zp (Vg ss) (k:Int)=some ((ss.getD k 0:Nat):Int):=by
 rw [Ze9,Vg,List.getElem?_map,List.getElem?_eq_getElem h,List.getD_eq_getElem?_getD,List.getElem?_eq_getElem h];rfl
theorem Zxk (N:Nat) (ss:List Nat) (hl:ss.length≤1099511627776):∀ (f k:Nat),k≤ss.length→k<f→Zc9 N (Vg ss) f ((k:Int) - 1)=some (Zfc ss k)
 | 0,k,_,h=>by omega
 | f+1,0,h1,h2=>by rw [Zc9.eq_2,if_neg (by decide)];rfl
 | f+1,k+1,h1,h2=>by
  rw [Zc9.eq_2,show ((k+1:Nat):Int) - 1=(k:Int) by omega,if_pos (dT (by omega)),Z5v (by omega),oB,Zz (by omega),Zxk N ss hl f k (by omega) (by omega),oB,Zfc]
theorem Zxo (ss:List Nat) (hs:∀ s ∈ ss,0<s) (a:Nat) (ha:a<4611686018427387904):∀ k,k≤ss.length→Zc8 (Zfc ss k) ((a / Ya (ss.drop k):Nat):Int) (List.replicate k 0++Y5 (ss.drop k) (a % Ya (ss.drop k)))=some (Y5 ss (a % Ya ss))
 | 0,_=>by rw [Zfc,Zc8.eq_1,List.drop_zero];rfl
 | k+1,hk=>by
  have hkl:k<ss.length:=by omega
  have hdr:ss.drop k=ss.getD k 0 :: ss.drop (k+1):=by
   rw [List.drop_eq_getElem_cons hkl,List.getD_eq_getElem?_getD,List.getElem?_eq_getElem hkl];rfl
  have ih:=Zxo ss hs a ha k (by omega)
  have h0:0<ss.getD k 0:=by
   rw [List.getD_eq_getElem?_getD,List.getElem?_eq_getElem hkl]
   exact hs _ (List.getElem_mem hkl)
  rw [hdr,Ya,Y5,Nat.mod_mul_left_mod,Nat.mul_comm,Nat.mod_mul_right_div_self,← Nat.div_div_eq_div_mul] at ih
  have hle:=Nat.div_le_self a (Ya (ss.drop (k+1)))
  generalize a / Ya (ss.drop (k+1))=q at *
  generalize Y5 (ss.drop (k+1)) (a % Ya (ss.drop (k+1)))=D at *
  have e1:Int.tmod (q:Int) ((ss.getD k 0:Nat):Int)=((q % ss.getD k 0:Nat):Int):=rfl
  have e2:Int.tdiv (q:Int) ((ss.getD k 0:Nat):Int)=((q / ss.getD k 0:Nat):Int):=rfl
  have h4:q / ss.getD k 0≤q:=Nat.div_le_self _ _
  have e3:(List.replicate (k+1) (0:Int)++D).set k ((q % ss.getD k 0:Nat):Int)=List.replicate k 0++((q % ss.getD k 0:Nat):Int) :: D:=by
   rw [List.replicate_succ',List.append_assoc,List.set_append_right (i:=k) _ (by rw [List.length_replicate];exact Nat.le_refl _),List.length_replicate,Nat.sub_self];rfl
  generalize q / ss.getD k 0=z at *
  rw [Zfc,Zc8.eq_2,Xg (by simp only;omega)]
  dsimp only
  rw [Xk (by rw [nA,List.length_replicate];omega),oB,e1,e2,Int.toNat_natCast,e3,oB,Xg (by omega),Zz (by omega)]
  exact ih
theorem Z1f {N:Nat} {ss:List Nat} (hs:∀ s ∈ ss,0<s) (hl:ss.length≤1048576) (hN:1048577<N) {a:Nat} (ha:a<Ya ss) (hb:Ya ss≤65536):Zjq N (Vg ss) (a:Int)=some (Y5 ss a):=by
 have hlen:(Vg ss).length=ss.length:=by rw [Vg,List.length_map]
 rw [Zjq,hlen]
 by_cases h0:ss.length=0
 ·have:ss=[]:=List.eq_nil_of_length_eq_zero h0
  rw [if_pos (dT (by omega)),this,Y5]
 ·have hb2:=Zxk N ss (by omega) N ss.length (Nat.le_refl _) (by omega)
  have hd:=Zxo ss hs a (by omega) ss.length (Nat.le_refl _)
  rw [List.drop_length,Ya,Nat.div_one,Y5,List.append_nil,Nat.mod_eq_of_lt ha] at hd
  rw [if_neg (dF (by omega)),Xg (by simp only [maxLen];omega),Zl4,Zl5,hlen,Zz (by omega),hb2,oB]
  exact hd
def Zfp (ss:List Nat):Nat→Nat→List R5
 | _,0=>[]
 | k,m+1=>((k:Int),Y5 ss k) :: Zfp ss (k+1) m
theorem Zwu {N:Nat} {ss:List Nat} (hs:∀ s ∈ ss,0<s) (hl:ss.length≤1048576) (hN:1048577<N) (hb:Ya ss≤65536):∀ (m k f:Nat),k+m=Ya ss→m<f→Zc7 N (Ya ss:Int) (Vg ss) f (k:Int)=some (Zfp ss k m)
 | m,k,0,_,h=>by omega
 | 0,k,f+1,h1,h2=>by rw [Zc7.eq_2,if_neg (dF (by omega))];rfl
 | m+1,k,f+1,h1,h2=>by
  rw [Zc7.eq_2,if_pos (dT (by omega)),Z1f hs hl hN (by omega) hb,oB,wS (by omega),Zwu hs hl hN hb m (k+1) f (by omega) (by omega),oB,Zfp]
theorem Z42 {N:Nat} {ss:List Nat} (hs:∀ s ∈ ss,0<s) (hl:ss.length≤1048576) (hN:1048577<N) (hb:Ya ss≤65536):Zjo N (Vg ss)=some (Zfp ss 0 (Ya ss)):=by
 have hlen:(Vg ss).length=ss.length:=by rw [Vg,List.length_map]
 rw [Zjo,Zn6 (by omega),oB,Zxn hs hb,oB,Zl3]
 exact Zwu hs hl hN hb (Ya ss) 0 N (by omega) (by omega)
theorem Zrx {N W:Nat} {n:Z2} (hf:Yq N n) (hs:Wk n W) (hr:Xi N (8 * W+40)) (hN:2000000<N):Vn N n=some 0:=by
 obtain ⟨l,o1,o2,o3,o4,o5⟩:=hf.or
 have hv:=hf.ev.v;have hp:=hf.ev.p;have ht:=hf.ev.t;have hle:=hf.le
 have nn:Zea (n.1,n.2.1,n.2.2.1,n.2.2.2.1,n.2.2.2.2)=some (Zav n.2.1 n.2.2.1 n.2.1.length 0):=Zvd n hv
 have D':Qp N n.2.2.2.1=some 0:=by rw [Qp,o1];rfl
 have ms:=Zo7 (N:=N) hs hf.ev n.2.2.2.2 0 (by simp) (by omega)
 have me:=Zo5 (N:=N) (n:=n) (W:=W) (hr.mono (by omega)) n.2.2.2.2 (fun t h=>⟨hs.tl t h,hs.tq t h,hs.lim t h⟩)
 have m6:=Zo8 (N:=N) hs hf.ev hf.sh hr (by omega) n.2.2.2.2 0 (by simp) (by omega)
 rw [Vn,if_neg (by rw [decide_eq_true (by omega)];decide),if_neg (by rw [decide_eq_true (by omega)];decide),show (!decide ((n.2.2.2.2.length:Int)=(n.2.1.length:Int)))=false by rw [decide_eq_true (by omega)];rfl,Zao,if_neg (show ¬ (false=true) by decide),if_neg (dF (by omega)),
  nn,oB,hf.nm,if_neg (by decide),D',oB,if_neg (by decide),ms,ht,if_pos hf.sh,me,hf.en,if_neg (by decide),m6,ht,hf.su]
def Zcs:List R4→R2→Option R2
  | [],aa=>some aa
  | ab :: ac,aa=>Z3 ((aa.length+[(ab.length:Int)].length) * 8≤140737488355328∧aa.length+[(ab.length:Int)].length≤maxLen) ((Zcs ac) (aa++[(ab.length:Int)]))
termination_by structural x=>x
def Ziv (aa:R0):Option R2:=
  Zcs aa.2.2.1 ([]:List Int)
theorem Zzl {am an ao ap:Nat} {aq ar au av:Option Addr} {col:Ze} {w0:World} {aa:R0} {r:R2} (c1:Nat) (hm:Ziv aa=some r) (a9:Sl Za.str col w0 aq am aa.2.1) (ac:Sl (Za.slice Za.str) col w0 ar an aa.2.2.1) (ba:Sl (Za.slice (Za.int .i64)) col w0 au ao aa.2.2.2.1) (bb:Sl (Za.slice (Za.pair (Za.pair Za.bool (Za.slice (Za.int .u32))) (Za.slice (Za.int .u32)))) col w0 av ap aa.2.2.2.2):
    Calls prog 105 #[(.agg #[.string aa.1,.slice aq aa.2.1.length am,.slice ar aa.2.2.1.length an,.slice au aa.2.2.2.1.length ao,.slice av aa.2.2.2.2.length ap])] w0 (fun e w'=>∃ (col':Ze) (ra1:Option Addr) (rc2:Nat),e= .returned ((.slice ra1 r.length rc2))∧Zf col w0 col' w'∧Zc (Za.int .i64) 3 c1 col' w' ra1 rc2 r):=by
 refine Xm 2 (m:=20) func105 rfl rfl rfl rfl rfl ?_;rw [Ziv.eq_1] at hm;have ab:=St.start col w0;refine go ?_;refine Xv (col:=(Zk col)) 1 rfl ?_;intro bc bd be ax ay;refine go ?_;refine Xz ay ?_;refine go ?_;replace ab:=ab.grow ax;refine Z9 [7,8,1000000] (fun n f ai=>∃ af aj ak ag ad ae,n=ae.length∧aa.2.2.1.drop ad=ae∧Zcs ae ag=some r∧St w0 (Zk col) af ai∧Zc (Za.int .i64) 3 2 af ai aj ak ag∧[9,3].map f=[.int .i64 ad,.slice aj ag.length ak]) aa.2.2.1.length ⟨_,none,0,_,0,_,rfl,rfl,hm,ab,Zc.nil,rfl⟩ ?_;clear hm;intro n f ai hI;obtain ⟨af,aj,ak,ag,ad,ae,hn,hl,hm,ab,ah,hs⟩:=hI;subst hn;refine .lL [9,3] hs ?_;replace ac:=ac.keep (Zl.start col w0)
 cases ae with
 | nil=>
  have hk:¬ ((ad:Int)<(aa.2.2.1.length:Int)):=by have:=List.drop_eq_nil_iff.1 hl;omega
  have hkb:=decide_eq_false hk;rw [Zcs.eq_1] at hm;refine go ?_;refine X9 (congrArg Value.bool hkb)<|go ?_;cases hm;exact ⟨rfl,_,_,_,rfl,ab.fin (cm [(2,c1)]),ab.fo ah⟩
 | cons az a0=>
  obtain ⟨al,a1,a2⟩:=Ym hl;have hk:(ad:Int)<(aa.2.2.1.length:Int):=by omega
  have hkb:=decide_eq_true hk;rw [Zcs.eq_2] at hm;refine go ?_;refine Yc (congrArg Value.bool hkb)<|go ?_;refine lI al ((ac.ks ab).addr al) ?_;obtain ⟨_,a3,a4⟩:=(ac.ks ab).atN al;obtain ⟨⟨bf,bg,rfl,bh⟩,_⟩:=a3;refine lW a4.one<|go ?_;refine W8 (col:=af) [(az.length:Int)] 3 ?_;intro bi bj bk aw a5;obtain ⟨a6,hm⟩:=Z6 hm;replace ah:=ah.gr aw;refine U3 ah (a5.srcN (NB.int (k:=.i64))) a6 ?_;intro bm bn bo bp a7 a8;refine go ?_;replace ab:=(ab.grow aw).kpp a7;exact ⟨a0.length,by simp,rfl,⟨_,_,_,_,_,_,rfl,a1,hm,ab,a8,(Ys (congrArg (Value.int .i64) (Yp (Nat.lt_of_lt_of_le a2 (ac.ks ab).1.1))) rfl)⟩⟩
theorem Z1s:Wj prog 3 1 8:=⟨Tryz.t3,_,rfl,rfl,rfl,rfl,rfl⟩
def Zir (aa:List Int) (ab:Bool):Option R9:=
  if ab=true then (some (([]:List Int),4)) else (some (aa,0))
def Zgh (aa:List Int):List Int→(List Bool)→Option R9
  | [],ab=>(Zhj aa).bind fun ac=>if (!decide (ac.2=0))=true then (Zir aa true) else (Zir aa (decide (65536<ac.1)))
  | ad :: ae,ab=>(Zp ab ad).bind fun af=>if af=true then (some (([]:List Int),40)) else ((some (ab.set (Int.toNat ad) true)).bind fun ag=>(Zgh aa ae) ag)
termination_by structural x=>x
def Zgg (ab:List Int):List Rb→R2→Option R9
  | [],aa=>Zgh ab aa (List.replicate ab.length (false:Bool))
  | ac :: ad,aa=>Z3 ((0:Int)≤0∧0≤(aa.length:Int)∧(aa.length:Int)≤(aa.length:Int)∧(aa.length:Int)≤(aa.length:Int)) (Z3 (((aa.take (Int.toNat (aa.length:Int))).length+[ac.1].length) * 8≤140737488355328∧(aa.take (Int.toNat (aa.length:Int))).length+[ac.1].length≤maxLen) ((Zgg ab ad) ((aa.take (Int.toNat (aa.length:Int)))++[ac.1])))
termination_by structural x=>x
def Zlj (kk_L2:(Option R9)) (aa:Bool):Option R9:=
  if aa=true then (some (([]:List Int),3)) else kk_L2
def Zcn (ab:Ri) (ac:List Int) (aa:List Int):List Int→Option R9
  | []=>Z3 (aa.length * 1≤281474976710656∧aa.length≤maxLen) (Zgg aa ab ac)
  | ad :: ae=>if (decide (ad<0))=true then (Zlj (Zcn ab ac aa ae) true) else (Zlj (Zcn ab ac aa ae) (decide ((aa.length:Int)≤ad)))
termination_by structural x=>x
def Zgf (kk_L1:(Option R9)) (aa:Bool):Option R9:=
  if aa=true then (some (([]:List Int),3)) else kk_L1
def Zaj (ac:Ri) (ab:List Int) (aa:List Int):List Rb→Option R9
  | []=>Zcn ac ab aa ab
  | ad :: ae=>if (decide (ad.1<0))=true then (Zgf (Zaj ac ab aa ae) true) else (if (decide ((aa.length:Int)≤ad.1))=true then (Zgf (Zaj ac ab aa ae) true) else (if (decide (ad.2<0))=true then (Zgf (Zaj ac ab aa ae) true) else ((Zp aa ad.1).bind fun af=>Zgf (Zaj ac ab aa ae) (decide (af≤ad.2)))))
termination_by structural x=>x
def Zge (N:Nat) (aa:R0) (ab:Ri) (ad:List Int):Option R9:=
  (Vn N (aa.1,aa.2.1,aa.2.2.1,aa.2.2.2.1,aa.2.2.2.2)).bind fun ac=>if (!decide (ac=0))=true then (some (([]:List Int),ac)) else ((Ziv (aa.1,aa.2.1,aa.2.2.1,aa.2.2.2.1,aa.2.2.2.2)).bind fun ae=>Zaj ab ad ae ab)
theorem Zzd {N bx bz b0 b1 b2 b3:Nat} {b4 b5 b6 b7 a1 a2:Option Addr} {col:Ze} {w0:World} {af:R0} {ae:Ri} {ah:R2} {r:R9} (c1:Nat) (hm:Zge N af ae ah=some r) (bf:Sl Za.str col w0 b4 bx af.2.1) (bg:Sl (Za.slice Za.str) col w0 b5 bz af.2.2.1) (bh:Sl (Za.slice (Za.int .i64)) col w0 b6 b0 af.2.2.2.1) (bi:Sl (Za.slice (Za.pair (Za.pair Za.bool (Za.slice (Za.int .u32))) (Za.slice (Za.int .u32)))) col w0 b7 b1 af.2.2.2.2) (h1:Sl (Za.pair (Za.int .i64) (Za.int .i64)) col w0 a1 b2 ae) (h2:Sl (Za.int .i64) col w0 a2 b3 ah):
    Calls prog 56 #[(.agg #[.string af.1,.slice b4 af.2.1.length bx,.slice b5 af.2.2.1.length bz,.slice b6 af.2.2.2.1.length b0,.slice b7 af.2.2.2.2.length b1]),.slice a1 ae.length b2,.slice a2 ah.length b3] w0 (fun e w'=>∃ (col':Ze) (ra1:Option Addr) (rc2:Nat),e= .returned (.tuple #[.slice ra1 r.1.length rc2,.int .i64 r.2])∧Zf col w0 col' w'∧Zc (Za.int .i64) 3 c1 col' w' ra1 rc2 r.1):=by
 refine Zdu 6 7 (m:=121) (args:=[(.agg #[.string af.1,.slice b4 af.2.1.length bx,.slice b5 af.2.2.1.length bz,.slice b6 af.2.2.2.1.length b0,.slice b7 af.2.2.2.2.length b1]),.slice a1 ae.length b2,.slice a2 ah.length b3]) func56 rfl rfl rfl rfl rfl ?_;rw [Zge.eq_1] at hm;have aa:=St.start col w0;refine go ?_;refine Xv (col:=(Zk col)) 1 rfl ?_;intro ea c6 cu c7 bj;refine go ?_;refine lV _ (Xb isAgg27 sizeOf27 bj) ?_;obtain ⟨eb,c8,hm⟩:=bZ hm;replace bf:=bf.keep (Zl.start col w0);replace bg:=bg.keep (Zl.start col w0);replace bh:=bh.keep (Zl.start col w0);replace bi:=bi.keep (Zl.start col w0);replace aa:=aa.grow c7;refine Zh (Zia c8 (bf.ks aa) (bg.ks aa) (bh.ks aa) (bi.ks aa)) ?_;rintro _ c9 ⟨rfl,bk⟩;refine ⟨_,rfl,?_⟩;replace bk:Zf cu c6 cu c9:=.of_below bk;refine go ?_;replace h1:=h1.keep (Zl.start col w0);replace h2:=h2.keep (Zl.start col w0);replace bj:=bj.gr bk;replace aa:=aa.grow bk;refine Zq hm (fun hb hm=>go ?_) fun hb hm=>go ?_
 ·cases hm;exact ⟨rfl,_,none,0,rfl,aa.fin (cm []),Zc.nil⟩
 refine lV _ (Xb isAgg27 sizeOf27 bj) ?_;obtain ⟨ad,da,hm⟩:=bZ hm;refine Zh (Zzl 2 da (bf.ks aa) (bg.ks aa) (bh.ks aa) (bi.ks aa)) ?_;rintro _ ec ⟨ed,al,am,rfl,db,ab⟩;refine ⟨_,rfl,go ?_⟩;replace aa:=aa.grow db;refine Z9 [1,2,28,29,9,1000000] (fun n f b8=>∃ bm aw ax,n=ax.length∧ae.drop aw=ax∧Zaj ae ah ad ax=some r∧St w0 (Zk col) bm b8∧Zc (Za.int .i64) 3 2 bm b8 al am ad∧[30].map f=[.int .i64 aw]) ae.length ⟨_,0,_,rfl,rfl,hm,aa,ab,rfl⟩ ?_;clear hm;intro n f b8 hI;obtain ⟨bm,aw,ax,hn,hl,hm,aa,ab,hs⟩:=hI;subst hn;refine .lL [30] hs ?_
 cases ax with
 | nil=>
  have hk:¬ ((aw:Int)<(ae.length:Int)):=by have:=List.drop_eq_nil_iff.1 hl;omega
  have hkb:=decide_eq_false hk;rw [Zaj.eq_1] at hm;refine go ?_;refine X9 (congrArg Value.bool hkb)<|go ?_;refine Z9 [1,2,60,61,9,1000000] (fun n f bn=>∃ bo ay az,n=az.length∧ah.drop ay=az∧Zcn ae ah ad az=some r∧St w0 (Zk col) bo bn∧Zc (Za.int .i64) 3 2 bo bn al am ad∧[62].map f=[.int .i64 ay]) ah.length ⟨_,0,_,rfl,rfl,hm,aa,ab,rfl⟩ ?_;clear hm;intro n f bn hI;obtain ⟨bo,ay,az,hn,hl,hm,aa,ab,hs⟩:=hI;subst hn;refine .lL [62] hs ?_
  cases az with
  | nil=>
   have hk:¬ ((ay:Int)<(ah.length:Int)):=by have:=List.drop_eq_nil_iff.1 hl;omega
   have hkb:=decide_eq_false hk;rw [Zcn.eq_1] at hm;refine go ?_;refine X9 (congrArg Value.bool hkb)<|go ?_;obtain ⟨cv,hm⟩:=Z6 hm;refine T9 (col:=bo) (w:=bn) (r:=Za.bool) (n:=ad.length) (x0:=false) 3 rfl underlying151 Tryz.t4 rfl rfl rfl rfl rfl rfl rfl cv.1 cv.2 (Tx false) ?_;intro dc ee ef cw ai;refine go ?_;replace ab:=ab.gr cw;replace aa:=aa.grow cw;refine Z9 [14,78,79,9,1000000] (fun n f a0=>∃ ap an bp ac a3 a4,n=a4.length∧ae.drop a3=a4∧Zgg ad a4 ac=some r∧St w0 (Zk col) ap a0∧Zc Za.bool 4 3 ap a0 dc ad.length (List.replicate ad.length (false:Bool))∧Sl (Za.int .i64) ap a0 an bp ac∧Zc (Za.int .i64) 3 2 ap a0 al am ad∧[80,2].map f=[.int .i64 a3,.slice an ac.length bp]) ae.length ⟨_,_,_,_,0,_,rfl,rfl,hm,aa,ai,(h2.ks aa),ab,rfl⟩ ?_;clear hm;intro n f a0 hI;obtain ⟨ap,an,bp,ac,a3,a4,hn,hl,hm,aa,ai,aj,ab,hs⟩:=hI;subst hn;refine .lL [80,2] hs ?_
   cases a4 with
   | nil=>
    have hk:¬ ((a3:Int)<(ae.length:Int)):=by have:=List.drop_eq_nil_iff.1 hl;omega
    have hkb:=decide_eq_false hk;rw [Zgg.eq_1] at hm;refine go ?_;refine X9 (congrArg Value.bool hkb)<|go ?_;refine Z9 [9,95,96,1000000] (fun n f aq=>∃ ao a5 a6 ar a7 a8,n=a8.length∧ac.drop a7=a8∧Zgh ad a8 ar=some r∧St w0 (Zk col) ao aq∧Zc Za.bool 4 3 ao aq a5 a6 ar∧Zc (Za.int .i64) 3 2 ao aq al am ad∧Sl (Za.int .i64) ao aq an bp ac∧[97,14].map f=[.int .i64 a7,.slice a5 ar.length a6]) ac.length ⟨_,_,_,_,0,_,rfl,rfl,hm,aa,ai,ab,aj,rfl⟩ ?_;clear hm;intro n f aq hI;obtain ⟨ao,a5,a6,ar,a7,a8,hn,hl,hm,aa,bq,ab,aj,hs⟩:=hI;subst hn;refine .lL [97,14] hs ?_
    cases a8 with
    | nil=>
     have hk:¬ ((a7:Int)<(ac.length:Int)):=by have:=List.drop_eq_nil_iff.1 hl;omega
     have hkb:=decide_eq_false hk;rw [Zgh.eq_1] at hm;refine go ?_;refine X9 (congrArg Value.bool hkb)<|go ?_;obtain ⟨a9,dd,hm⟩:=bZ hm;refine Zh (Zro dd (ab.toSlF (Zg.int .i64))) ?_;rintro _ de ⟨rfl,br⟩;refine ⟨_,rfl,?_⟩;replace br:Zf ao aq ao de:=.of_below br;refine lM (.tuple #[.int .i64 a9.1,.int .i64 a9.2])<|lV (.int .i64 a9.1) (Xf rfl rfl)<|lV (.int .i64 a9.2) (Xf rfl rfl)<|Yx rfl<|Yx rfl<|Zm<|Zv ?_;replace ab:=ab.gr br;replace aa:=aa.grow br;refine Wp.cutK [9,1000000] (fun f b9=>∃ ca cb,Zir ad cb=some r∧St w0 (Zk col) ca b9∧Zc (Za.int .i64) 3 2 ca b9 al am ad∧[119].map f=[.bool cb]) ?_ ?_
     ·intro f b9 hJ;obtain ⟨ca,cb,hm,aa,ab,hs⟩:=hJ;rw [Zir.eq_1] at hm;refine .lL [119] hs ?_;refine Zq hm (fun hb hm=>go ?_) fun hb hm=>go ?_
      ·cases hm;exact ⟨rfl,_,none,0,rfl,aa.fin (cm []),Zc.nil⟩
      cases hm;exact ⟨rfl,_,_,_,rfl,aa.fin (cm [(2,c1)]),aa.fo ab⟩
     refine go ?_;refine X8 hm (fun cc hm=>go ?_) fun cc hm=>go ?_
     ·refine lV (.bool true) (Xr (congrArg Value.bool cc) rfl)<|Zm ?_;exact ⟨rfl,_,_,hm,aa,ab,rfl⟩
     refine lV (.bool (decide (65536<a9.1))) (Xh (congrArg Value.bool cc) rfl)<|Zm ?_;exact ⟨rfl,_,_,hm,aa,ab,rfl⟩
    | cons df dg=>
     obtain ⟨ag,dh,di⟩:=Ym hl;have hk:(a7:Int)<(ac.length:Int):=by omega
     have hkb:=decide_eq_true hk;rw [Zgh.eq_2] at hm;refine go ?_;refine Yc (congrArg Value.bool hkb)<|go ?_;refine lI ag (aj.addr ag)<|lW (aj.atInt ag) ?_;refine go ?_;obtain ⟨eg,au,hm⟩:=bZ hm;refine lI au (bq.addr au)<|lW (bq.atBool au)<|Zm ?_;refine Zq hm (fun hb hm=>go ?_) fun hb hm=>go ?_
     ·cases hm;exact ⟨rfl,_,none,0,rfl,aa.fin (cm []),Zc.nil⟩
     refine lI au (bq.addr au) ?_;obtain ⟨cd,bs,hm⟩:=bZ hm;have bs:cd=ar.set (Int.toNat df) true:=(Option.some.inj bs).symm;refine Zub (x1:=true) (v:=(.bool true)) bq au rfl sizeOf4 (Tx true) rfl rfl (by decide) ?_;intro eh ce dj cx;rw [← bs] at cx;refine .ld (d:=14) (v:=(.slice a5 cd.length a6)) (congrArg (fun n=>Value.slice a5 n a6) (show ar.length=cd.length by rw [bs,nS])) ?_;refine go ?_;replace ab:=ab.kp ce;replace aj:=aj.kp ce;replace aa:=aa.kp ce dj;exact ⟨dg.length,by simp,rfl,⟨_,_,_,_,_,_,rfl,dh,hm,aa,cx,ab,aj,(Ys (congrArg (Value.int .i64) (Yp (Nat.lt_of_lt_of_le di aj.1.1))) rfl)⟩⟩
   | cons bt dl=>
    obtain ⟨ag,dm,dn⟩:=Ym hl;have hk:(a3:Int)<(ae.length:Int):=by omega
    have hkb:=decide_eq_true hk;rw [Zgg.eq_2] at hm;refine go ?_;refine Yc (congrArg Value.bool hkb)<|go ?_;refine lI ag ((h1.ks aa).addr ag) ?_;obtain ⟨_,dp,dq⟩:=(h1.ks aa).atN ag;obtain ⟨_,_,rfl,dr,ds⟩:=Va dp;obtain ⟨rfl,_⟩:=dr;obtain ⟨rfl,_⟩:=ds;refine lV (.agg #[.int .i64 bt.1,.int .i64 bt.2]) (Xt isAgg142 sizeOf142 rfl rfl dq)<|Xj (col:=ap) #[.int .i64 0,.int .i64 0] 4 zeroValue142 ?_;intro ei ej bu bv dt;refine Zw dt ?_;intro ek bw du dv;refine Zm<|Wi (col:=bu) [(0,1),(1,1),(2,1),(3,1),(4,1),(5,1),(6,1),(7,0),(8,3),(9,2),(10,1)] (by kernel_rfl) (by kernel_rfl)<|xu rfl rfl (fun _=>Vu rfl) ?_;refine xu rfl rfl (fun _=>Vu rfl) ?_;refine xu rfl rfl (fun _=>Zay underlying33 rfl) ?_;refine xu rfl rfl (fun _=>Vu rfl) ?_;refine xu rfl rfl (fun _=>Zay underlying33 rfl) ?_;obtain ⟨ba,hm⟩:=Z6 hm;replace aj:=(aj.gr bv).kp bw;have av:=(aj.take (Int.toNat (ac.length:Int))).recap (show (ac.take (Int.toNat (ac.length:Int))).length≤(Int.toNat (ac.length:Int)) by rw [List.length_take (i:=(Int.toNat (ac.length:Int))) (l:=ac)];have:=ba.2;omega);refine xu (v:=.slice an (Int.toNat (ac.length:Int)) (Int.toNat (ac.length:Int))) rfl rfl (fun _=>Z4x underlying33 sizeOf3 rfl rfl rfl ba.2.1 ba.2.2.1 (by have:=aj.1.2;have:=ba.2.2.2;omega)) ?_;refine .ld (d:=89) (v:=(.slice an ((ac.take (Int.toNat (ac.length:Int))).length) (Int.toNat (ac.length:Int)))) (congrArg (fun n=>Value.slice an n (Int.toNat (ac.length:Int))) (show (Int.toNat (ac.length:Int))=(ac.take (Int.toNat (ac.length:Int))).length by rw [List.length_take (i:=(Int.toNat (ac.length:Int))) (l:=ac)];have:=ba.2;omega)) ?_;refine xF ⟨_,_,rfl⟩ ?_;refine xW (fun _ hC=>((dv.atN).nth (q:=0) rfl).gr (hC.bl bu)) ?_;refine xe rfl rfl ?_;intro el hC0;have hC:=hC0.bl bu;refine W8 (col:=bu) [bt.1] 5 ?_;intro em en cf bb cg;refine Zm<|X4 cf hC0 bb<|xe rfl rfl ?_;intro dw hC0;replace ai:=(((ai.gr bv).kp bw).gr hC).gr bb;replace ab:=(((ab.gr bv).kp bw).gr hC).gr bb;replace aa:=(((aa.grow bv).kp bw du).grow hC).grow bb;replace av:=(av.gr hC).gr bb;have hC:=hC0.bl cf;obtain ⟨cy,hm⟩:=Z6 hm;replace av:=av.gr hC;have dx:(Int.toNat (ac.length:Int))=(ac.take (Int.toNat (ac.length:Int))).length:=by have:=av.1.2;rw [List.length_take (i:=(Int.toNat (ac.length:Int))) (l:=ac)] at this ⊢;omega
    replace cg:=cg.gr hC;refine Z2t (col:=cf) (w:=dw) (r:=(Za.int .i64)) (c:=6) (c2:=6) 6 (xs:=ac.take (Int.toNat (ac.length:Int))) (ys:=[bt.1]) av dx (NB.int (k:=.i64)) (by simp) (cg.srcN (NB.int (k:=.i64))) rfl underlying33 Z1s rfl rfl rfl cy.1 cy.2 ?_;intro eo ep eq cz ch bc;refine Zm<|xk cz<|xu rfl rfl (fun _=>Zmv rfl) ?_;refine Wf ?_;replace ai:=(ai.gr hC).gr ch;replace ab:=(ab.gr hC).gr ch;replace aa:=(aa.grow hC).grow ch;intro er hC;replace hC:=hC.bl cz;refine go ?_;replace ai:=ai.gr hC;replace ai:=ai.froz 6 (by decide);replace bc:=bc.gr hC;replace bc:=(bc).toSlF (Zg.int .i64);replace ab:=ab.gr hC;replace ab:=ab.froz 6 (by decide);replace aa:=aa.grow hC;replace aa:=aa.froz 6 (by decide) (by decide);exact ⟨dl.length,by simp,rfl,⟨_,_,_,_,_,_,rfl,dm,hm,aa,ai,bc,ab,(Ys (congrArg (Value.int .i64) (Yp (Nat.lt_of_lt_of_le dn (h1.ks aa).1.1))) rfl)⟩⟩
  | cons dy c0=>
   obtain ⟨ag,dz,d0⟩:=Ym hl;have hk:(ay:Int)<(ah.length:Int):=by omega
   have hkb:=decide_eq_true hk;rw [Zcn.eq_2] at hm;refine go ?_;refine Yc (congrArg Value.bool hkb)<|go ?_;refine lI ag ((h2.ks aa).addr ag)<|lW ((h2.ks aa).atInt ag)<|Yx rfl<|Zm<|Zv ?_;refine Wp.cutK [1,2,60,61,62,9,1000000] (fun f ci=>∃ cj ck,Zlj (Zcn ae ah ad c0) ck=some r∧St w0 (Zk col) cj ci∧Zc (Za.int .i64) 3 2 cj ci al am ad∧[73].map f=[.bool ck]) ?_ ?_
   ·intro f ci hJ;obtain ⟨cj,ck,hm,aa,ab,hs⟩:=hJ;rw [Zlj.eq_1] at hm;refine .lL [73] hs ?_;refine Zq hm (fun hb hm=>go ?_) fun hb hm=>go ?_
    ·cases hm;exact ⟨rfl,_,none,0,rfl,aa.fin (cm []),Zc.nil⟩
    exact ⟨c0.length,by simp,rfl,⟨_,_,_,rfl,dz,hm,aa,ab,(Ys (congrArg (Value.int .i64) (Yp (Nat.lt_of_lt_of_le d0 (h2.ks aa).1.1))) rfl)⟩⟩
   refine go ?_;refine X8 hm (fun cl hm=>go ?_) fun cl hm=>go ?_
   ·refine lV (.bool true) (Xr (congrArg Value.bool cl) rfl)<|Zm ?_;exact ⟨rfl,_,_,hm,aa,ab,rfl⟩
   refine lV (.bool (decide ((ad.length:Int)≤dy))) (Xh (congrArg Value.bool cl) rfl)<|Zm ?_;exact ⟨rfl,_,_,hm,aa,ab,rfl⟩
 | cons bd c3=>
  obtain ⟨ag,d1,d2⟩:=Ym hl;have hk:(aw:Int)<(ae.length:Int):=by omega
  have hkb:=decide_eq_true hk;rw [Zaj.eq_2] at hm;refine go ?_;refine Yc (congrArg Value.bool hkb)<|go ?_;refine lI ag ((h1.ks aa).addr ag) ?_;obtain ⟨_,d3,d4⟩:=(h1.ks aa).atN ag;obtain ⟨_,_,rfl,d5,d6⟩:=Va d3;obtain ⟨rfl,_⟩:=d5;obtain ⟨rfl,_⟩:=d6;refine lV (.agg #[.int .i64 bd.1,.int .i64 bd.2]) (Xt isAgg142 sizeOf142 rfl rfl d4)<|Xj (col:=bm) #[.int .i64 0,.int .i64 0] 7 zeroValue142 ?_;intro es et ak c4 d7;refine Zw d7 ?_;intro eu c5 d8 be;refine Zm<|Zv ?_;replace ab:=(ab.gr c4).kp c5;replace aa:=(aa.grow c4).kp c5 d8;refine Wp.cutK [1,2,28,29,30,9,1000000] (fun f cn=>∃ co cp,Zgf (Zaj ae ah ad c3) cp=some r∧St w0 (Zk col) co cn∧Zc (Za.int .i64) 3 2 co cn al am ad∧[58].map f=[.bool cp]) ?_ ?_
  ·intro f cn hJ;obtain ⟨co,cp,hm,aa,ab,hs⟩:=hJ;rw [Zgf.eq_1] at hm;refine .lL [58] hs ?_;refine Zq hm (fun hb hm=>go ?_) fun hb hm=>go ?_
   ·cases hm;exact ⟨rfl,_,none,0,rfl,aa.fin (cm []),Zc.nil⟩
   exact ⟨c3.length,by simp,rfl,⟨_,_,_,rfl,d1,hm,aa,ab,(Ys (congrArg (Value.int .i64) (Yp (Nat.lt_of_lt_of_le d2 (h1.ks aa).1.1))) rfl)⟩⟩
  refine Un (col:=ak) (by kernel_rfl) (by kernel_rfl)<|qF ⟨_,_,rfl⟩ ?_;refine qW (fun _ hC=>((be.atN).nth (q:=0) rfl).gr (hC.bl ak)) ?_;refine go ?_;refine X8 hm (fun cq hm=>go ?_) fun cq hm=>go ?_
  ·refine qv (v:=(.bool true)) rfl (fun _ hC=>Xr (congrArg Value.bool cq) rfl) ?_;refine go ?_;refine qP 44 rfl rfl<|qP 44 rfl rfl<|qP 44 rfl rfl<|qv (v:=(.bool true)) rfl (fun _ hC=>Xr rfl rfl) ?_;refine go ?_;refine qP 49 rfl rfl<|qP 49 rfl rfl<|qP 49 rfl rfl<|qP 49 rfl rfl<|qP 49 rfl rfl<|qP 49 rfl rfl<|qP 49 rfl rfl<|qP 49 rfl rfl<|qv (v:=(.bool true)) rfl (fun _ hC=>Xr rfl rfl) ?_;refine Wv ?_;intro ew hC;replace hC:=hC.bl ak;replace ab:=ab.gr hC;replace aa:=aa.grow hC;exact ⟨rfl,_,_,hm,aa,ab,rfl⟩
  refine qF ⟨_,_,rfl⟩ ?_;refine go ?_;refine qW (fun _ hC=>((be.atN).nth (q:=0) rfl).gr (hC.bl ak)) ?_;refine go ?_;refine qv (v:=(.bool (decide ((ad.length:Int)≤bd.1)))) rfl (fun _ hC=>Xh (congrArg Value.bool cq) rfl) ?_;refine go ?_;refine X8 hm (fun cr hm=>go ?_) fun cr hm=>go ?_
  ·refine qv (v:=(.bool true)) rfl (fun _ hC=>Xr (congrArg Value.bool cr) rfl) ?_;refine go ?_;refine qP 49 rfl rfl<|qP 49 rfl rfl<|qP 49 rfl rfl<|qP 49 rfl rfl<|qP 49 rfl rfl<|qP 49 rfl rfl<|qP 49 rfl rfl<|qP 49 rfl rfl<|qv (v:=(.bool true)) rfl (fun _ hC=>Xr rfl rfl) ?_;refine Wv ?_;intro ey hC;replace hC:=hC.bl ak;replace ab:=ab.gr hC;replace aa:=aa.grow hC;exact ⟨rfl,_,_,hm,aa,ab,rfl⟩
  refine qF ⟨_,_,rfl⟩ ?_;refine go ?_;refine qW (fun _ hC=>((be.atN).nth (q:=1) rfl).gr (hC.bl ak)) ?_;refine go ?_;refine qv (v:=(.bool (decide (bd.2<0)))) rfl (fun _ hC=>Xh (congrArg Value.bool cr) rfl) ?_;refine go ?_;refine X8 hm (fun cs hm=>go ?_) fun cs hm=>go ?_
  ·refine qv (v:=(.bool true)) rfl (fun _ hC=>Xr (congrArg Value.bool cs) rfl) ?_;refine Wv ?_;intro ez hC;replace hC:=hC.bl ak;replace ab:=ab.gr hC;replace aa:=aa.grow hC;exact ⟨rfl,_,_,hm,aa,ab,rfl⟩
  refine qF ⟨_,_,rfl⟩ ?_;refine go ?_;refine qW (fun _ hC=>((be.atN).nth (q:=1) rfl).gr (hC.bl ak)) ?_;refine go ?_;refine qF ⟨_,_,rfl⟩ ?_;refine go ?_;refine qW (fun _ hC=>((be.atN).nth (q:=0) rfl).gr (hC.bl ak)) ?_;refine go ?_;obtain ⟨d9,ct,hm⟩:=bZ hm;refine qI ct (ab.addr ct) ?_;refine go ?_;refine qW (fun _ hC=>(ab.gr (hC.bl ak)).atInt ct) ?_;refine go ?_;refine qv (v:=(.bool (decide (d9≤bd.2)))) rfl (fun _ hC=>Xh (congrArg Value.bool cs) rfl) ?_;refine Wv ?_;intro e0 hC;replace hC:=hC.bl ak;replace ab:=ab.gr hC;replace aa:=aa.grow hC;exact ⟨rfl,_,_,hm,aa,ab,rfl⟩
def Zou:Option (List Rf):=
  some []
theorem Zzb (cy:Nat) (col:Ze) (w0:World) (r:List Rf) (hm:Zou=some r):
    Ze8 prog 2 57 [] (fun (y:List Int×R1) (col:Ze) (w:World) (args:List Value)=>∃ (a0:Option Addr) (ab:Nat) (a1_0_1:Option Addr) (c1_0_1:Nat) (ac:Option Addr) (ad:Nat),args=[.slice a0 y.1.length ab,.agg #[.bool y.2.1.1,.slice a1_0_1 y.2.1.2.length c1_0_1,.slice ac y.2.2.length ad]]∧Zc (Za.int .i64) 3 cy col w a0 ab y.1∧Sl (Za.int .u32) col w a1_0_1 c1_0_1 y.2.1.2∧Sl (Za.int .u32) col w ac ad y.2.2) r col w0:=by
 intro l J X hjs hxs hy aa;refine Zrr (mc:=1998) (m:=2) (args:=[.func (.yield l) #[] #[]]) func57 rfl rfl rfl rfl ?_;rw [Zou.eq_1] at hm;have hmk:Yg 1998 col w0 []:=.nil;refine X3 ?_;cases hm;refine ⟨_,[],rfl,hmk,?_⟩;intro ag ae af;replace aa:=hjs _ _ _ _ _ aa (ae.toP af rfl);exact ⟨⟨_,rfl⟩,_,.inl aa⟩
theorem Z1v:Wj prog 9 1 16:=⟨Tryz.t9,_,rfl,rfl,rfl,rfl,rfl⟩
def Zeu (aa:List ByteArray):Option R4:=
  Z3 ((([]:List ByteArray).length+aa.length) * 16≤140737488355328∧([]:List ByteArray).length+aa.length≤maxLen) (some (([]:List ByteArray)++aa))
theorem Zrp {ad:Nat} {a0:Option Addr} {col:Ze} {w0:World} {ac r:R4} (c1:Nat) (hm:Zeu ac=some r) (h0:Sl Za.str col w0 a0 ad ac):
    Calls prog 138 #[.slice a0 ac.length ad] w0 (fun e w'=>∃ (col':Ze) (ra1:Option Addr) (rc2:Nat),e= .returned ((.slice ra1 r.length rc2))∧Zf col w0 col' w'∧Zc Za.str 9 c1 col' w' ra1 rc2 r):=by
 refine Xm 2 (m:=8) func138 rfl rfl rfl rfl rfl ?_;rw [Zeu.eq_1] at hm;have aa:=St.start col w0;refine go ?_;replace h0:=h0.keep (Zl.start col w0);rcases Zpb h0 with ab | ab
 ·replace hm:some ([]:List ByteArray)=some r:=by have h0:=ab.2;subst h0;simpa [Z3,maxLen] using hm
  refine lv (v:=.bool a0.isNone) rfl rfl (Zht underlying22 rfl)<|.ld (d:=4) (v:=.bool true) (congrArg Value.bool ab.1)<|Zm<|Yc rfl<|go ?_;cases hm;exact ⟨rfl,_,none,0,rfl,aa.fin (cm []),Zc.nil⟩
 refine lv (v:=.bool a0.isNone) rfl rfl (Zht underlying22 rfl)<|.ld (d:=4) (v:=.bool false) (congrArg Value.bool ab)<|Zm<|X9 rfl<|go ?_;refine Zk8 (col:=(Zk col)) (r:=Za.str) 1 rfl underlying22 Z1v rfl ?_;intro aj ak al ae af;refine Wt rfl ?_;obtain ⟨ag,hm⟩:=Z6 hm;replace h0:=h0.gr ae;refine U3 af h0.srcC ag ?_;intro am an ao ap ah ai;refine go ?_;cases hm;replace aa:=(aa.grow ae).kpp ah;exact ⟨rfl,_,_,_,rfl,aa.fin (cm [(1,c1)]),aa.fo ai⟩
theorem Z1m:Wj prog 22 1 24:=⟨Tryz.t22,_,rfl,rfl,rfl,rfl,rfl⟩
theorem Z1n:Wj prog 33 1 24:=⟨Tryz.t33,_,rfl,rfl,rfl,rfl,rfl⟩
theorem Z1l:Wj prog 114 1 24:=⟨Tryz.t114,_,rfl,rfl,rfl,rfl,rfl⟩
def Zco (N:Nat) (ae:Int) (af:ByteArray) (ag:List ByteArray) (ah:List R4) (ai:List R2) (ac:List R6) (kk_L1:(Int→ByteArray→R4→(List R4)→Ra→(List R6)→Option R0)) (aj:List ByteArray) (ak:List Int):List R1→R6→Option R0
  | [],ab=>Z3 ((ac.length+[ab].length) * 24≤140737488355328∧ac.length+[ab].length≤maxLen) (kk_L1 (i64.wrap (ae+1)) af ag (ah++[aj]) (ai++[ak]) (ac++[ab]))
  | ad :: al,ab=>(V4 N ((ad.1.1,ad.1.2),ad.2) ((false,([]:List Int)),([]:List Int))).bind fun aa=>Z3 ((ab.length+[((aa.1.1,aa.1.2),aa.2)].length) * 56≤140737488355328∧ab.length+[((aa.1.1,aa.1.2),aa.2)].length≤maxLen) ((Zco N ae af ag ah ai ac kk_L1 aj ak al) (ab++[((aa.1.1,aa.1.2),aa.2)]))
termination_by structural x=>x
def Zbf (N:Nat) (aa:R0):Nat→Int→ByteArray→R4→(List R4)→Ra→(List R6)→Option R0
  | 0,_,_,_,_,_,_=>none
  | aj+1,ab,ag,ah,ac,ad,ai=>if (decide (ab<(aa.2.1.length:Int)))=true then ((Zp aa.2.2.1 ab).bind fun ak=>(Zeu ak).bind fun ae=>Z3 ((ac.length+[ae].length) * 24≤140737488355328∧ac.length+[ae].length≤maxLen) ((Zp aa.2.2.2.1 ab).bind fun al=>(Zdc al).bind fun af=>Z3 ((ad.length+[af].length) * 24≤140737488355328∧ad.length+[af].length≤maxLen) ((Zp aa.2.2.2.2 ab).bind fun am=>Zco N ab ag ah ac ad ai (Zbf N aa aj) ae af am ([]:List R1)))) else (some (ag,ah,ac,ad,ai))
termination_by structural x=>x
def Zgi (N:Nat) (aa:R0):Option R0:=
  (Zeu aa.2.1).bind fun ab=>Zbf N aa N 0 aa.1 ab ([]:List R4) ([]:List R2) ([]:List R6)
theorem Zze {N cd bz bu bi:Nat} {ce b0 bv bj:Option Addr} {col:Ze} {w0:World} {af r:R0} (c1 c2 c3 c4:Nat) (hm:Zgi N af=some r) (cv:Sl Za.str col w0 ce cd af.2.1) (cf:Sl (Za.slice Za.str) col w0 b0 bz af.2.2.1) (cg:Sl (Za.slice (Za.int .i64)) col w0 bv bu af.2.2.2.1) (ch:Sl (Za.slice (Za.pair (Za.pair Za.bool (Za.slice (Za.int .u32))) (Za.slice (Za.int .u32)))) col w0 bj bi af.2.2.2.2):
    Calls prog 58 #[(.agg #[.string af.1,.slice ce af.2.1.length cd,.slice b0 af.2.2.1.length bz,.slice bv af.2.2.2.1.length bu,.slice bj af.2.2.2.2.length bi])] w0 (fun e w'=>∃ (col':Ze) (ra1:Option Addr) (rc2:Nat) (ra4:Option Addr) (rc5:Nat) (ra7:Option Addr) (rc8:Nat) (ra10:Option Addr) (rc11:Nat),e= .returned ((.agg #[.string r.1,.slice ra1 r.2.1.length rc2,.slice ra4 r.2.2.1.length rc5,.slice ra7 r.2.2.2.1.length rc8,.slice ra10 r.2.2.2.2.length rc11]))∧Zf col w0 col' w'∧Zc Za.str 9 c1 col' w' ra1 rc2 r.2.1∧Zc (Za.row 9 Za.str) 22 c2 col' w' ra4 rc5 r.2.2.1∧Zc (Za.row 3 (Za.int .i64)) 33 c3 col' w' ra7 rc8 r.2.2.2.1∧Zc (Za.row 39 (Za.pair (Za.pair Za.bool (Za.row 95 (Za.int .u32))) (Za.row 95 (Za.int .u32)))) 114 c4 col' w' ra10 rc11 r.2.2.2.2):=by
 refine Y2 (m:=69) func58 rfl rfl rfl ?_;rw [Zgi.eq_1] at hm;have aa:=St.start col w0;refine go ?_;refine Xv (col:=(Zk col)) 1 rfl ?_;intro du f5 ea eb ab;refine Xj (col:=ea) #[.string (⟨#[]⟩),.slice none (([]:List ByteArray).length) 0,.slice none (([]:List R4).length) 0,.slice none (([]:List R2).length) 0,(.slice none (([]:List R6).length) 0)] 2 zeroValue27 ?_;intro dv f6 ec dw ac;refine go ?_;replace ab:=ab.gr dw;refine lV _ (Xb isAgg27 sizeOf27 ab)<|Xj (col:=ec) #[.string (⟨#[]⟩),.slice none (([]:List ByteArray).length) 0,.slice none (([]:List R4).length) 0,.slice none (([]:List R2).length) 0,(.slice none (([]:List R6).length) 0)] 3 zeroValue27 ?_;intro a4 f7 f8 cw ed;refine Zw ed ?_;intro f9 cx ee cy;refine go ?_;refine Xx ⟨_,_,rfl⟩ ?_;replace ab:=(ab.gr cw).kp cx;refine lW ((ab.atN).nth (q:=1) rfl) ?_;obtain ⟨b1,ef,hm⟩:=bZ hm;replace cv:=cv.keep (Zl.start col w0);replace aa:=(((aa.grow eb).grow dw).grow cw).kp cx ee;refine Zh (Zrp 4 ef (cv.ks aa)) ?_;rintro _ ga ⟨ci,b2,b3,rfl,cj,cz⟩;refine ⟨_,rfl,?_⟩;refine Xx ⟨_,_,rfl⟩ ?_;replace cy:=cy.gr cj;refine Zca (off:=1) (v:=(.slice b2 b1.length b3)) cy sizeOf22 rfl rfl (by intro u hu;simp only [Value.cells,List.mem_cons,List.not_mem_nil,or_false] at hu;subst hu;rfl) rfl rfl ?_;intro eg ck eh c0;replace c0:Zj 27 3 ci eg a4 #[.string af.1,.slice b2 b1.length b3,.slice b0 af.2.2.1.length bz,.slice bv af.2.2.2.1.length bu,.slice bj af.2.2.2.2.length bi]:=c0;refine go ?_;refine Xx ⟨_,_,rfl⟩ ?_;refine Zca (off:=2) (v:=(.slice none (([]:List R4).length) 0)) c0 sizeOf23 rfl rfl (by intro u hu;simp only [Value.cells,List.mem_cons,List.not_mem_nil,or_false] at hu;subst hu;rfl) rfl rfl ?_;intro ei cl ej c5;replace c5:Zj 27 3 ci ei a4 #[.string af.1,.slice b2 b1.length b3,.slice none (([]:List R4).length) 0,.slice bv af.2.2.2.1.length bu,.slice bj af.2.2.2.2.length bi]:=c5;refine Xx ⟨_,_,rfl⟩ ?_;refine Zca (off:=3) (v:=(.slice none (([]:List R2).length) 0)) c5 sizeOf24 rfl rfl (by intro u hu;simp only [Value.cells,List.mem_cons,List.not_mem_nil,or_false] at hu;subst hu;rfl) rfl rfl ?_;intro ek cn el c6
 replace c6:Zj 27 3 ci ek a4 #[.string af.1,.slice b2 b1.length b3,.slice none (([]:List R4).length) 0,.slice none (([]:List R2).length) 0,.slice bj af.2.2.2.2.length bi]:=c6;refine Xx ⟨_,_,rfl⟩ ?_;refine Zca (off:=4) (v:=(.slice none (([]:List R6).length) 0)) c6 sizeOf25 rfl rfl (by intro u hu;simp only [Value.cells,List.mem_cons,List.not_mem_nil,or_false] at hu;subst hu;rfl) rfl rfl ?_;intro em co en aj;replace aj:Zj 27 3 ci em a4 #[.string af.1,.slice b2 b1.length b3,.slice none (([]:List R4).length) 0,.slice none (([]:List R2).length) 0,(.slice none (([]:List R6).length) 0)]:=aj;refine go ?_;refine Xx ⟨_,_,rfl⟩ ?_;replace ab:=((((ab.gr cj).kp ck).kp cl).kp cn).kp co;refine lW ((ab.atN).nth (q:=1) rfl)<|go ?_;replace ac:=((((((ac.gr cw).kp cx).gr cj).kp ck).kp cl).kp cn).kp co;replace aa:=((((aa.grow cj).kp ck eh).kp cl ej).kp cn el).kp co en;replace cz:=(((cz.kp ck).kp cl).kp cn).kp co;refine Z9 [1,18,2,3,1000000] (fun n f a5=>∃ ak cp bd be bf ax c7 c8 ar cq cr au bk bm av bn,bn=n∧Zbf N af bn cp bd ax ar au av=some r∧St w0 (Zk col) ak a5∧Zj 27 1 ak a5 du #[.string af.1,.slice ce af.2.1.length cd,.slice b0 af.2.2.1.length bz,.slice bv af.2.2.2.1.length bu,.slice bj af.2.2.2.2.length bi]∧Zj 27 2 ak a5 dv #[.string (⟨#[]⟩),.slice none (([]:List ByteArray).length) 0,.slice none (([]:List R4).length) 0,.slice none (([]:List R2).length) 0,(.slice none (([]:List R6).length) 0)]∧Zc Za.str 9 4 ak a5 be bf ax∧Zc (Za.row 9 Za.str) 22 5 ak a5 c7 c8 ar∧Zc (Za.row 3 (Za.int .i64)) 33 6 ak a5 cq cr au∧Zc (Za.row 39 (Za.pair (Za.pair Za.bool (Za.row 95 (Za.int .u32))) (Za.row 95 (Za.int .u32)))) 114 7 ak a5 bk bm av∧Zj 27 3 ak a5 a4 #[.string bd,.slice be ax.length bf,.slice c7 ar.length c8,.slice cq au.length cr,.slice bk av.length bm]∧[19].map f=[.int .i64 cp]) N ⟨_,0,_,_,_,_,none,0,_,none,0,_,none,0,_,_,rfl,hm,aa,ab,ac,cz,Zc.nil,Zc.nil,Zc.nil,aj,rfl⟩ ?_;clear hm;intro n f a5 hI;obtain ⟨ak,cp,bd,be,bf,ax,c7,c8,ar,cq,cr,au,bk,bm,av,bn,hn,hm,aa,ab,ac,ad,ay,ah,ae,aj,hs⟩:=hI;subst hn;refine .lL [19] hs ?_;replace cf:=cf.keep (Zl.start col w0)
 replace cg:=cg.keep (Zl.start col w0);replace ch:=ch.keep (Zl.start col w0)
 cases bn with
 | zero=>rw [Zbf.eq_1] at hm;cases hm
 | succ bn=>
  rw [Zbf.eq_2] at hm;refine go ?_;refine Zq hm (fun hb hm=>go ?_) fun hb hm=>go ?_
  ·refine Wi (col:=ak) [(0,1),(1,0),(2,1),(3,0),(4,1),(5,1),(6,0),(7,3),(8,3),(9,2),(10,1),(11,2)] (by kernel_rfl) (by kernel_rfl)<|xF ⟨_,_,rfl⟩ ?_;refine xW (fun _ hC=>((aj.atN).nth (q:=2) rfl).gr (hC.bl ak)) ?_;refine xF ⟨_,_,rfl⟩ ?_;refine xW (fun _ hC=>((ab.atN).nth (q:=2) rfl).gr (hC.bl ak)) ?_;refine xu rfl rfl (fun _=>W1 rfl) ?_;obtain ⟨gb,ct,hm⟩:=bZ hm;refine xu rfl rfl (fun _=>We underlying23 sizeOf22 rfl rfl (Xl ct).1 (Xl ct).2.1 ((cf.ks aa).addr ct)) ?_;obtain ⟨_,eo,ep⟩:=(cf.ks aa).atN ct;obtain ⟨⟨gc,gd,rfl,c9⟩,_⟩:=eo;refine xW (fun _ hC=>ep.one.gr (hC.bl ak)) ?_;refine xe rfl rfl ?_;intro ge hC0;have hC:=hC0.bl ak;obtain ⟨az,eq,hm⟩:=bZ hm;replace c9:=c9.gr hC;refine Zh (Zrp 8 eq c9) ?_;rintro _ gf ⟨da,dx,dy,rfl,a6,db⟩;refine ⟨_,rfl,?_⟩;refine Zm<|X4 da hC0 a6<|xe rfl rfl ?_;intro gg hC0;replace ad:=(ad.gr hC).gr a6;replace ay:=(ay.gr hC).gr a6;replace ah:=(ah.gr hC).gr a6;replace ae:=(ae.gr hC).gr a6;replace ab:=(ab.gr hC).gr a6;replace ac:=(ac.gr hC).gr a6;replace aj:=(aj.gr hC).gr a6;replace aa:=(aa.grow hC).grow a6;have hC:=hC0.bl da;replace db:=db.gr hC;refine Sy (col:=da) (r:=(Za.row 9 Za.str)) (xs:=[az]) [.slice dx az.length dy] 8 (Wb.cons1 (cs:=[.slice dx az.length dy]) db.has Rows.nil0) ?_;intro gh gi dc a7 dd;refine Zm<|X4 dc hC0 a7<|xe rfl rfl ?_;intro er hC0;replace ad:=(ad.gr hC).gr a7;replace ay:=(ay.gr hC).gr a7;replace ah:=(ah.gr hC).gr a7;replace ae:=(ae.gr hC).gr a7;replace ab:=(ab.gr hC).gr a7;replace ac:=(ac.gr hC).gr a7;replace aj:=(aj.gr hC).gr a7;replace aa:=(aa.grow hC).grow a7;have hC:=hC0.bl dc;obtain ⟨dz,hm⟩:=Z6 hm;replace ay:=ay.gr hC;replace dd:=dd.gr hC;refine Zfq (col:=dc) (w:=er) (r:=(Za.row 9 Za.str)) (c:=5) (c2:=8) (ay.ex) (dd.srcC (by decide)) rfl underlying23 Z1m rfl rfl rfl dz.1 dz.2 (by decide) ?_;intro bw bx gj a0 bo de;refine Zm<|xk a0<|xF ⟨_,_,rfl⟩ ?_;refine xe rfl rfl ?_;intro gk hC0;replace ad:=(ad.gr hC).kpp bo;replace ah:=(ah.gr hC).kpp bo;replace ae:=(ae.gr hC).kpp bo;replace ab:=(ab.gr hC).kpp bo;replace ac:=(ac.gr hC).kpp bo;replace aj:=(aj.gr hC).kpp bo;replace aa:=(aa.grow hC).kpp bo;have hC:=hC0.bl a0;replace aj:=aj.gr hC
   refine Zca (off:=2) (v:=(.slice bw ((ar++[az]).length) bx)) aj sizeOf23 rfl rfl (by intro u hu;simp only [Value.cells,List.mem_cons,List.not_mem_nil,or_false] at hu;subst hu;rfl) rfl rfl ?_;intro es bp et al;replace al:Zj 27 3 a0 es a4 #[.string bd,.slice be ax.length bf,.slice bw ((ar++[az]).length) bx,.slice cq au.length cr,.slice bk av.length bm]:=al;refine Zm<|xk a0 ?_;replace de:=(de.gr hC).kp bp;have ag:=de.new;refine Wf ?_;replace ad:=(ad.gr hC).kp bp;replace ah:=(ah.gr hC).kp bp;replace ae:=(ae.gr hC).kp bp;replace ab:=(ab.gr hC).kp bp;replace ac:=(ac.gr hC).kp bp;replace aa:=(aa.grow hC).kp bp et;intro gl hC;replace hC:=hC.bl a0;refine Zv<|Wi (col:=a0) [(0,1),(1,0),(2,1),(3,0),(4,1),(5,1),(6,0),(7,3),(8,3),(9,2),(10,1),(11,2)] (by kernel_rfl) (by kernel_rfl)<|xF ⟨_,_,rfl⟩ ?_;replace al:=al.gr hC;refine xW (fun _ hC=>((al.atN).nth (q:=3) rfl).gr (hC.bl a0)) ?_;refine xF ⟨_,_,rfl⟩ ?_;replace ab:=ab.gr hC;refine xW (fun _ hC=>((ab.atN).nth (q:=3) rfl).gr (hC.bl a0)) ?_;refine xu rfl rfl (fun _=>W1 rfl) ?_;obtain ⟨gm,cu,hm⟩:=bZ hm;replace aa:=aa.grow hC;refine xu rfl rfl (fun _=>We underlying24 sizeOf33 rfl rfl (Xl cu).1 (Xl cu).2.1 ((cg.ks aa).addr cu)) ?_;obtain ⟨_,eu,ew⟩:=(cg.ks aa).atN cu;obtain ⟨⟨gp,gs,rfl,df⟩,_⟩:=eu;refine xW (fun _ hC=>ew.one.gr (hC.bl a0)) ?_;refine xe rfl rfl ?_;intro gt hC0;replace ad:=ad.gr hC;replace ag:=ag.gr hC;replace ah:=ah.gr hC;replace ae:=ae.gr hC;replace ac:=ac.gr hC;have hC:=hC0.bl a0;obtain ⟨a8,ey,hm⟩:=bZ hm;replace df:=df.gr hC;refine Zh (Zn0 9 ey df) ?_;rintro _ gu ⟨dg,d0,d1,rfl,a9,dh⟩;refine ⟨_,rfl,?_⟩;refine Zm<|X4 dg hC0 a9<|xe rfl rfl ?_;intro gv hC0;replace ad:=(ad.gr hC).gr a9;replace ag:=(ag.gr hC).gr a9;replace ah:=(ah.gr hC).gr a9;replace ae:=(ae.gr hC).gr a9;replace ab:=(ab.gr hC).gr a9;replace ac:=(ac.gr hC).gr a9;replace al:=(al.gr hC).gr a9;replace aa:=(aa.grow hC).grow a9;have hC:=hC0.bl dg;replace dh:=dh.gr hC;refine Sy (col:=dg) (r:=(Za.row 3 (Za.int .i64))) (xs:=[a8]) [.slice d0 a8.length d1] 9 (Wb.cons1 (cs:=[.slice d0 a8.length d1]) dh.has Rows.nil0) ?_;intro gw gx di ba dj;refine Zm<|X4 di hC0 ba<|xe rfl rfl ?_;intro ez hC0;replace ad:=(ad.gr hC).gr ba;replace ag:=(ag.gr hC).gr ba
   replace ah:=(ah.gr hC).gr ba;replace ae:=(ae.gr hC).gr ba;replace ab:=(ab.gr hC).gr ba;replace ac:=(ac.gr hC).gr ba;replace al:=(al.gr hC).gr ba;replace aa:=(aa.grow hC).grow ba;have hC:=hC0.bl di;obtain ⟨d2,hm⟩:=Z6 hm;replace ah:=ah.gr hC;replace dj:=dj.gr hC;refine Zfq (col:=di) (w:=ez) (r:=(Za.row 3 (Za.int .i64))) (c:=6) (c2:=9) (ah.ex) (dj.srcC (by decide)) rfl underlying24 Z1n rfl rfl rfl d2.1 d2.2 (by decide) ?_;intro b4 b5 gy b6 bq dl;refine Zm<|xk b6<|xF ⟨_,_,rfl⟩ ?_;refine xe rfl rfl ?_;intro gz hC0;replace ad:=(ad.gr hC).kpp bq;replace ag:=(ag.gr hC).kpp bq;replace ae:=(ae.gr hC).kpp bq;replace ab:=(ab.gr hC).kpp bq;replace ac:=(ac.gr hC).kpp bq;replace al:=(al.gr hC).kpp bq;replace aa:=(aa.grow hC).kpp bq;have hC:=hC0.bl b6;replace al:=al.gr hC;refine Zca (off:=3) (v:=(.slice b4 ((au++[a8]).length) b5)) al sizeOf24 rfl rfl (by intro u hu;simp only [Value.cells,List.mem_cons,List.not_mem_nil,or_false] at hu;subst hu;rfl) rfl rfl ?_;intro e0 br e1 ai;replace ai:Zj 27 3 b6 e0 a4 #[.string bd,.slice be ax.length bf,.slice bw ((ar++[az]).length) bx,.slice b4 ((au++[a8]).length) b5,.slice bk av.length bm]:=ai;refine Zm<|xk b6 ?_;replace dl:=(dl.gr hC).kp br;have am:=dl.new;refine Wf ?_;replace ad:=(ad.gr hC).kp br;replace ag:=(ag.gr hC).kp br;replace ae:=(ae.gr hC).kp br;replace ab:=(ab.gr hC).kp br;replace ac:=(ac.gr hC).kp br;replace aa:=(aa.grow hC).kp br e1;intro g0 hC;replace hC:=hC.bl b6;refine go ?_;refine Xx ⟨_,_,rfl⟩ ?_;replace ab:=ab.gr hC;refine lW ((ab.atN).nth (q:=4) rfl)<|Yf rfl ?_;obtain ⟨b7,dm,hm⟩:=bZ hm;replace aa:=aa.grow hC;refine lI dm ((ch.ks aa).addr dm) ?_;obtain ⟨_,e2,e3⟩:=(ch.ks aa).atN dm;obtain ⟨⟨e4,e5,rfl,ao⟩,_⟩:=e2;refine lW e3.one<|go ?_;replace ad:=ad.gr hC;replace ag:=ag.gr hC;replace am:=am.gr hC;replace ae:=ae.gr hC;replace ac:=ac.gr hC;replace ai:=ai.gr hC
   refine Z9 [1,18,19,2,3,48,49,1000000] (fun n f aw=>∃ an b8 b9 bb ca cb,n=cb.length∧b7.drop ca=cb∧Zco N cp bd ax ar au av (Zbf N af bn) az a8 cb bb=some r∧St w0 (Zk col) an aw∧Zj 27 1 an aw du #[.string af.1,.slice ce af.2.1.length cd,.slice b0 af.2.2.1.length bz,.slice bv af.2.2.2.1.length bu,.slice bj af.2.2.2.2.length bi]∧Zj 27 2 an aw dv #[.string (⟨#[]⟩),.slice none (([]:List ByteArray).length) 0,.slice none (([]:List R4).length) 0,.slice none (([]:List R2).length) 0,(.slice none (([]:List R6).length) 0)]∧Zc Za.str 9 4 an aw be bf ax∧Zc (Za.row 9 Za.str) 22 5 an aw bw bx (ar++[az])∧Zc (Za.row 3 (Za.int .i64)) 33 6 an aw b4 b5 (au++[a8])∧Zc (Za.row 39 (Za.pair (Za.pair Za.bool (Za.row 95 (Za.int .u32))) (Za.row 95 (Za.int .u32)))) 114 7 an aw bk bm av∧Zj 27 3 an aw a4 #[.string bd,.slice be ax.length bf,.slice bw ((ar++[az]).length) bx,.slice b4 ((au++[a8]).length) b5,.slice bk av.length bm]∧Sl (Za.pair (Za.pair Za.bool (Za.slice (Za.int .u32))) (Za.slice (Za.int .u32))) an aw e4 e5 b7∧Zc (Za.pair (Za.pair Za.bool (Za.row 95 (Za.int .u32))) (Za.row 95 (Za.int .u32))) 39 10 an aw b8 b9 bb∧[50,5].map f=[.int .i64 ca,.slice b8 bb.length b9]) b7.length ⟨_,none,0,_,0,_,rfl,rfl,hm,aa,ab,ac,ad,ag,am,ae,ai,ao,Zc.nil,rfl⟩ ?_;clear hm;intro n f aw hI;obtain ⟨an,b8,b9,bb,ca,cb,hn,hl,hm,aa,ab,ac,ad,ag,am,ae,ai,ao,bg,hs⟩:=hI;subst hn;refine .lL [50,5] hs ?_
   cases cb with
   | nil=>
    have hk:¬ ((ca:Int)<(b7.length:Int)):=by have:=List.drop_eq_nil_iff.1 hl;omega
    have hkb:=decide_eq_false hk;rw [Zco.eq_1] at hm;refine go ?_;refine X9 (congrArg Value.bool hkb)<|go ?_;refine Xz ai<|Wt rfl<|Sy (col:=an) (r:=(Za.row 39 (Za.pair (Za.pair Za.bool (Za.row 95 (Za.int .u32))) (Za.row 95 (Za.int .u32))))) (xs:=[bb]) [.slice b8 bb.length b9] 10 (Wb.cons1 (cs:=[.slice b8 bb.length b9]) bg.has Rows.nil0) ?_;intro g1 e6 e7 bh e8;obtain ⟨d3,hm⟩:=Z6 hm;replace ae:=ae.gr bh;refine Zfq (col:=e7) (w:=e6) (r:=(Za.row 39 (Za.pair (Za.pair Za.bool (Za.row 95 (Za.int .u32))) (Za.row 95 (Za.int .u32))))) (c:=7) (c2:=10) (ae.ex) (e8.srcC (by decide)) rfl underlying25 Z1l rfl rfl rfl d3.1 d3.2 (by decide) ?_;intro d4 d5 g2 e9 bs dn;refine Xx ⟨_,_,rfl⟩ ?_;replace ai:=(ai.gr bh).kpp bs;refine Zca (off:=4) (v:=(.slice d4 ((av++[bb]).length) d5)) ai sizeOf25 rfl rfl (by intro u hu;simp only [Value.cells,List.mem_cons,List.not_mem_nil,or_false] at hu;subst hu;rfl) rfl rfl ?_;intro fa bt fb dp;replace dp:Zj 27 3 e9 fa a4 #[.string bd,.slice be ax.length bf,.slice bw ((ar++[az]).length) bx,.slice b4 ((au++[a8]).length) b5,.slice d4 ((av++[bb]).length) d5]:=dp;replace dn:=dn.kp bt;have fc:=dn.new;refine go ?_;replace ad:=((ad.gr bh).kpp bs).kp bt;replace ag:=((ag.gr bh).kpp bs).kp bt;replace am:=((am.gr bh).kpp bs).kp bt;replace ab:=((ab.gr bh).kpp bs).kp bt;replace ac:=((ac.gr bh).kpp bs).kp bt;replace aa:=((aa.grow bh).kpp bs).kp bt fb;exact ⟨bn,by omega,rfl,⟨_,_,_,_,_,_,_,_,_,_,_,_,_,_,_,_,rfl,hm,aa,ab,ac,ad,ag,am,fc,dp,rfl⟩⟩
   | cons dq fd=>
    obtain ⟨dr,fe,ff⟩:=Ym hl;have hk:(ca:Int)<(b7.length:Int):=by omega
    have hkb:=decide_eq_true hk;rw [Zco.eq_2] at hm;refine go ?_;refine Yc (congrArg Value.bool hkb)<|go ?_;refine lI dr (ao.addr dr) ?_;obtain ⟨_,fg,fh⟩:=ao.atN dr;obtain ⟨_,_,rfl,fi,fj⟩:=Va fg;obtain ⟨_,_,rfl,fk,fl⟩:=Va fi;obtain ⟨rfl,_⟩:=fk;obtain ⟨⟨fm,fn,rfl,ds⟩,_⟩:=fl;obtain ⟨⟨fp,fq,rfl,dt⟩,_⟩:=fj;refine lV (.agg #[.bool dq.1.1,.slice fm dq.1.2.length fn,.slice fp dq.2.length fq]) (Xt isAgg39 sizeOf39 rfl rfl fh)<|Xj (col:=an) #[.bool false,.slice none (([]:List Int).length) 0,.slice none (([]:List Int).length) 0] 11 zeroValue39 ?_;intro g3 g4 g5 ap fr;refine Zw fr ?_;intro g6 aq ft fu;refine go ?_;refine lV _ (Xb isAgg39 sizeOf39 fu)<|lV (.agg #[.bool false,.slice none (([]:List Int).length) 0,.slice none (([]:List Int).length) 0]) (Yo (l:=[_,_]) (qs:=[(0,2),(2,1)]) underlying39 zeroValue39 ⟨rfl,sizeOf37,rfl,sizeOf35,trivial⟩ rfl) ?_;obtain ⟨a1,fv,hm⟩:=bZ hm;replace ds:=(ds.gr ap).kp aq;replace dt:=(dt.gr ap).kp aq;refine Zh (Zb2 12 13 fv ds dt Sl.nil Sl.nil) ?_;rintro _ g7 ⟨fw,d6,d7,d8,d9,rfl,a2,fx,fy⟩;refine ⟨_,rfl,?_⟩;have fz:=Xp.join (Xp.joinL (Tx a1.1.1) fx.has) fy.has (by decide) (by decide);replace ad:=((ad.gr ap).kp aq).gr a2;replace ad:=ad.recol 13 12 (by decide);replace ag:=((ag.gr ap).kp aq).gr a2;replace ag:=ag.recol 13 12 (by decide);replace am:=((am.gr ap).kp aq).gr a2;replace am:=am.recol 13 12 (by decide);replace ae:=((ae.gr ap).kp aq).gr a2;replace ae:=ae.recol 13 12 (by decide);replace ao:=((ao.gr ap).kp aq).gr a2;replace ao:=ao.recol 13 12 (by decide);replace bg:=((bg.gr ap).kp aq).gr a2;replace bg:=bg.recol 13 12 (by decide);replace ab:=((ab.gr ap).kp aq).gr a2;replace ab:=ab.recol 13 12 (by decide);replace ac:=((ac.gr ap).kp aq).gr a2;replace ac:=ac.recol 13 12 (by decide);replace ai:=((ai.gr ap).kp aq).gr a2;replace ai:=ai.recol 13 12 (by decide);replace aa:=((aa.grow ap).kp aq ft).grow a2;replace aa:=aa.recol 13 12 (by decide) (by decide)
    refine Sy (col:=(Xc 13 12 fw)) (r:=(Za.pair (Za.pair Za.bool (Za.row 95 (Za.int .u32))) (Za.row 95 (Za.int .u32)))) (xs:=[((a1.1.1,a1.1.2),a1.2)]) [(.agg #[.bool a1.1.1,.slice d6 a1.1.2.length d7,.slice d8 a1.2.length d9])] 12 (Wb.cons1 (cs:=[.bool a1.1.1,.slice d6 a1.1.2.length d7,.slice d8 a1.2.length d9]) fz Rows.nil0) ?_;intro g8 g9 ha a3 f0;obtain ⟨f1,hm⟩:=Z6 hm;replace bg:=bg.gr a3;refine U3 (c:=10) (c2:=12) bg (f0.srcC (by decide)) f1 ?_;intro hc hd he hf bc f2;refine go ?_;replace ad:=(ad.gr a3).kpp bc;replace ag:=(ag.gr a3).kpp bc;replace am:=(am.gr a3).kpp bc;replace ae:=(ae.gr a3).kpp bc;replace ao:=(ao.gr a3).kpp bc;replace ab:=(ab.gr a3).kpp bc;replace ac:=(ac.gr a3).kpp bc;replace ai:=(ai.gr a3).kpp bc;replace aa:=(aa.grow a3).kpp bc;exact ⟨fd.length,by simp,rfl,⟨_,_,_,_,_,_,rfl,fe,hm,aa,ab,ac,ad,ag,am,ae,ai,ao,f2,(Ys (congrArg (Value.int .i64) (Yp (Nat.lt_of_lt_of_le ff ao.1.1))) rfl)⟩⟩
  refine lV _ (Xb isAgg27 sizeOf27 aj)<|Zw ac ?_;intro hg cc f3 f4;refine go ?_;cases hm;replace ad:=ad.kp cc;replace ay:=ay.kp cc;replace ah:=ah.kp cc;replace ae:=ae.kp cc;replace aa:=aa.kp cc f3;exact ⟨rfl,_,ra f4.atN,_,_,_,_,_,_,_,_,_,rfl,aa.fin (cm [(4,c1),(5,c2),(6,c3),(7,c4)]),aa.fo ad,aa.fo ay,aa.fo ah,aa.fo ae⟩
def Zd4 (N:Nat) (aa:R0):List R5→Option (List Rf)
  | []=>some []
  | ac :: ad=>(Zgm N (aa.1,aa.2.1,aa.2.2.1,aa.2.2.2.1,aa.2.2.2.2) ac.2).bind fun ab=>(Zdc ac.2).bind fun ae=>((Zd4 N aa ad)).bind fun af=>some ((ae,((ab.1.1.1,ab.1.1.2),ab.1.2)) :: af)
termination_by structural x=>x
def Zli (N:Nat) (aa:List Int) (ab:R0):Option (List Rf):=
  (Zjo N aa).bind fun ac=>Zd4 N ab ac
theorem Zzc (N:Nat) (cy:Nat) (col:Ze) (w0:World) (g0:Nat) (af0:Option Addr) (capf0:Nat) (az:List Int) (hf0:Sl (Za.int .i64) col w0 af0 capf0 az) (hb0:Zj 33 450 col w0 g0 #[.slice af0 az.length capf0]) (g1:Nat) (a2:Option Addr) (a3:Nat) (a4:Option Addr) (a5:Nat) (a6:Option Addr) (a7:Nat) (a8:Option Addr) (a9:Nat) (ah:R0) (ab:Sl Za.str col w0 a2 a3 ah.2.1) (ac:Sl (Za.slice Za.str) col w0 a4 a5 ah.2.2.1) (ad:Sl (Za.slice (Za.int .i64)) col w0 a6 a7 ah.2.2.2.1) (ae:Sl (Za.slice (Za.pair (Za.pair Za.bool (Za.slice (Za.int .u32))) (Za.slice (Za.int .u32)))) col w0 a8 a9 ah.2.2.2.2) (hb1:Zj 27 450 col w0 g1 #[.string ah.1,.slice a2 ah.2.1.length a3,.slice a4 ah.2.2.1.length a5,.slice a6 ah.2.2.2.1.length a7,.slice a8 ah.2.2.2.2.length a9]) (r:List Rf) (hm:Zli N az ah=some r):
    Ze8 prog 2 59 [.pointer (some ⟨g0,0,none⟩),.pointer (some ⟨g1,0,none⟩)] (fun (y:List Int×R1) (col:Ze) (w:World) (args:List Value)=>∃ (a0:Option Addr) (bf:Nat) (a1_0_1:Option Addr) (c1_0_1:Nat) (bg:Option Addr) (bh:Nat),args=[.slice a0 y.1.length bf,.agg #[.bool y.2.1.1,.slice a1_0_1 y.2.1.2.length c1_0_1,.slice bg y.2.2.length bh]]∧Zc (Za.int .i64) 3 cy col w a0 bf y.1∧Sl (Za.int .u32) col w a1_0_1 c1_0_1 y.2.1.2∧Sl (Za.int .u32) col w bg bh y.2.2) r col w0:=by
 intro l J X hjs hxs hy aa;refine Zrr (mc:=1998) (m:=24) (args:=[.func (.yield l) #[] #[],.pointer (some ⟨g0,0,none⟩),.pointer (some ⟨g1,0,none⟩)]) func59 rfl rfl rfl rfl ?_;rw [Zli.eq_1] at hm;have hmk:Yg 1998 col w0 []:=.nil;refine go ?_;refine Zdw (col:=col) (v:=(.func (.yield l) #[] #[])) 1001 rfl rfl ?_;intro bi bq br ax af;replace hf0:=hf0.gr ax;replace ab:=ab.gr ax;replace ac:=ac.gr ax;replace ad:=ad.gr ax;replace ae:=ae.gr ax;replace hb0:=hb0.gr ax;replace hb1:=hb1.gr ax;replace hmk:=hmk.gr ax;replace aa:=hjs _ _ _ _ _ aa ax.toP;replace af:Zj 85 1001 br bq bi #[(.func (.yield l) #[] #[])]:=af;refine go ?_;refine lW hb0.at1 ?_;obtain ⟨bs,bt,hm⟩:=bZ hm;refine Zh (Zz7 1002 bt hf0) ?_;rintro _ cf ⟨bu,cg,rfl,aw,bv⟩;refine ⟨_,rfl,?_⟩;replace ab:=ab.gr aw;replace ac:=ac.gr aw;replace ad:=ad.gr aw;replace ae:=ae.gr aw;replace hf0:=hf0.gr aw;replace hb0:=hb0.gr aw;replace hb1:=hb1.gr aw;replace af:=af.gr aw;replace hmk:=hmk.gr aw;replace aa:=hjs _ _ _ _ _ aa aw.toP;refine go ?_;refine Znb (psl:=[10,11]) (arr:=(fun (y:Int×List Int) (col:Ze) (w:World) (args:List Value)=>∃ (a1:Option Addr) (bj:Nat),args=[.int .i64 y.1,.slice a1 y.2.length bj]∧Zc (Za.int .i64) 3 1002 col w a1 bj y.2)) (ys:=bs) (col:=bu) 1999 rfl bv rfl hmk rfl rfl (by rintro _ _ _ _ ⟨_,_,rfl,_⟩;rfl) (fun ys_ ag al=>∃ (r:List Rf),Zd4 N ah ys_=some r∧J r ag al∧Sl Za.str ag al a2 a3 ah.2.1∧Sl (Za.slice Za.str) ag al a4 a5 ah.2.2.1∧Sl (Za.slice (Za.int .i64)) ag al a6 a7 ah.2.2.2.1∧Sl (Za.slice (Za.pair (Za.pair Za.bool (Za.slice (Za.int .u32))) (Za.slice (Za.int .u32)))) ag al a8 a9 ah.2.2.2.2∧Zj 27 450 ag al g1 #[.string ah.1,.slice a2 ah.2.1.length a3,.slice a4 ah.2.2.1.length a5,.slice a6 ah.2.2.2.1.length a7,.slice a8 ah.2.2.2.2.length a9]∧Zj 85 1001 ag al bi #[(.func (.yield l) #[] #[])]∧Sl (Za.int .i64) ag al af0 capf0 az∧Zj 33 450 ag al g0 #[.slice af0 az.length capf0]) (fun c_ ag al=>(c_= .ret∧X ag al)) ?_ ?_ ⟨r,hm,aa,ab,ac,ad,ae,hb1,af,hf0,hb0⟩ ?_ ?_ ?_
 ·intro ys_ ag al col2_ w2_ hJ hk;obtain ⟨r,hm,aa,ab,ac,ad,ae,hb1,af,hf0,hb0⟩:=hJ;exact ⟨r,hm,(hjs _ _ _ _ _ aa (hk.mono fun _=>Zvw)),ab.kpp hk rfl,ac.kpp hk rfl,ad.kpp hk rfl,ae.kpp hk rfl,hb1.kpp hk rfl,af.kpp hk rfl,hf0.kpp hk rfl,hb0.kpp hk rfl⟩
 ·intro c_ ag al col2_ w2_ hX hk;obtain ⟨rfl,hX⟩:=hX;exact ⟨rfl,hxs _ _ _ _ hX (hk.mono fun _=>Zvw)⟩
 ·intro ch ci cj ck cl ag al args hJ hrec hmk harr;obtain ⟨r,hm,aa,ab,ac,ad,ae,hb1,af,hf0,hb0⟩:=hJ;rw [Zd4.eq_2] at hm;have hki:=Zt.refl (pC 1) ag al;obtain ⟨cn,co,rfl,aq⟩:=harr;refine go ?_;refine ⟨_,hrec,?_⟩;intro bw cp ar bk hrec2;replace ab:=ab.kp ar;replace ac:=ac.kp ar;replace ad:=ad.kp ar;replace ae:=ae.kp ar;replace aq:=aq.kp ar;replace hf0:=hf0.kp ar;replace hb1:=hb1.kp ar;replace af:=af.kp ar;replace hb0:=hb0.kp ar;replace hmk:=hmk.kp ar;replace hki:=hki.kp ar bk rfl;replace aa:=hjs _ _ _ _ _ aa (ar.toP bk rfl);have hrec:=hrec2;refine go ?_;refine lV _ (Xb isAgg27 sizeOf27 hb1)<|Wt rfl ?_;obtain ⟨au,bx,hm⟩:=bZ hm;refine Zh (Zzk 1003 1004 bx (ab.froz 1002) (ac.froz 1002) (ad.froz 1002) (ae.froz 1002) (aq.toSlF (Zg.int .i64))) ?_;rintro _ cq ⟨bz,ba,bb,bc,bd,rfl,am,ai,aj⟩;refine ⟨_,rfl,?_⟩;replace ai:=ai.thaw (Zy .u32) am ((Fz.refl (col:=ag)).froz 1002) (by decide);replace aj:=aj.thaw (Zy .u32) am ((Fz.refl (col:=ag)).froz 1002) (by decide);replace am:=am.thawR (col:=ag);generalize Z7 bw.heap.size ag bz=b0 at *;replace ab:=ab.gr am;replace ac:=ac.gr am;replace ad:=ad.gr am;replace ae:=ae.gr am;replace aq:=aq.gr am;replace hf0:=hf0.gr am;replace hb1:=hb1.gr am;replace af:=af.gr am;replace hb0:=hb0.gr am;replace hrec:=hrec.gr am;replace hmk:=hmk.gr am;replace hki:=hki.gr am;replace aa:=hjs _ _ _ _ _ aa am.toP;refine lM (.tuple #[(.agg #[.bool au.1.1.1,.slice ba au.1.1.2.length bb,.slice bc au.1.2.length bd]),.int .i64 au.2])<|lV (.agg #[.bool au.1.1.1,.slice ba au.1.1.2.length bb,.slice bc au.1.2.length bd]) (Xf rfl rfl)<|lV (.int .i64 au.2) (Xf rfl rfl)<|Xj (col:=b0) #[.bool false,.slice none (([]:List Int).length) 0,.slice none (([]:List Int).length) 0] 1005 zeroValue39 ?_;intro cr cs ay an b1;replace ab:=ab.gr an;replace ac:=ac.gr an;replace ad:=ad.gr an;replace ae:=ae.gr an;replace aq:=aq.gr an;replace ai:=ai.gr an;replace aj:=aj.gr an;replace hf0:=hf0.gr an;replace hb1:=hb1.gr an;replace af:=af.gr an;replace hb0:=hb0.gr an;replace hrec:=hrec.gr an;replace hmk:=hmk.gr an;replace hki:=hki.gr an;replace aa:=hjs _ _ _ _ _ aa an.toP;refine Zw b1 ?_;intro ct ao bm b2
  replace ab:=ab.kp ao;replace ac:=ac.kp ao;replace ad:=ad.kp ao;replace ae:=ae.kp ao;replace aq:=aq.kp ao;replace ai:=ai.kp ao;replace aj:=aj.kp ao;replace hf0:=hf0.kp ao;replace hb1:=hb1.kp ao;replace af:=af.kp ao;replace hb0:=hb0.kp ao;replace hrec:=hrec.kp ao;replace hmk:=hmk.kp ao;replace hki:=hki.kp ao bm rfl;replace aa:=hjs _ _ _ _ _ aa (ao.toP bm rfl);refine go ?_;refine Wi (col:=ay) [(0,0),(1,1),(3,0),(2,3),(4,2),(5,1)] (by kernel_rfl) (by kernel_rfl)<|xW (fun _ hC=>af.at1.gr (hC.bl ay)) ?_;refine xu rfl rfl (fun _=>Vu rfl) ?_;refine xv rfl rfl (fun _ hC=>Xb isAgg39 sizeOf39 (b2.gr (hC.bl ay))) ?_;refine xe rfl rfl ?_;intro b3 hC0;have hC:=hC0.bl ay;replace ab:=ab.gr hC;replace ac:=ac.gr hC;replace ad:=ad.gr hC;replace ae:=ae.gr hC;replace aq:=aq.gr hC;replace ai:=ai.gr hC;replace aj:=aj.gr hC;replace hf0:=hf0.gr hC;replace hb1:=hb1.gr hC;replace af:=af.gr hC;replace hb0:=hb0.gr hC;replace hrec:=hrec.gr hC;replace hmk:=hmk.gr hC;replace hki:=hki.gr hC;replace aa:=hjs _ _ _ _ _ aa hC.toP;obtain ⟨b4,b5,hm⟩:=bZ hm;refine Zh (Zn0 1006 b5 (aq.toSlF (Zg.int .i64))) ?_;rintro _ cu ⟨b6,bn,bo,rfl,ak,av⟩;refine ⟨_,rfl,?_⟩;replace av:=av.thaw (Zy .i64) ak ((Fz.refl (col:=ay)).froz 1002) (by decide);replace ak:=ak.thawR (col:=ay);generalize Z7 b3.heap.size ay b6=bp at *;replace ab:=ab.gr ak;replace ac:=ac.gr ak;replace ad:=ad.gr ak;replace ae:=ae.gr ak;replace ai:=ai.gr ak;replace aj:=aj.gr ak;replace hf0:=hf0.gr ak;replace hb1:=hb1.gr ak;replace af:=af.gr ak;replace hb0:=hb0.gr ak;replace hrec:=hrec.gr ak;replace hmk:=hmk.gr ak;replace hki:=hki.gr ak;replace aa:=hjs _ _ _ _ _ aa ak.toP;refine Zm<|X4 bp hC0 ak<|xe rfl rfl ?_;intro cv hC0;have hC:=hC0.bl bp;replace ab:=ab.gr hC;replace ac:=ac.gr hC;replace ad:=ad.gr hC;replace ae:=ae.gr hC;replace ai:=ai.gr hC;replace aj:=aj.gr hC;replace av:=av.gr hC;replace hf0:=hf0.gr hC;replace hb1:=hb1.gr hC;replace af:=af.gr hC;replace hb0:=hb0.gr hC;replace hrec:=hrec.gr hC;replace hmk:=hmk.gr hC;replace hki:=hki.gr hC;replace aa:=hjs _ _ _ _ _ aa hC.toP;replace ab:=ab.froz 1003;replace ac:=ac.froz 1003;replace ad:=ad.froz 1003;replace ae:=ae.froz 1003;replace ai:=(ai).toSlF (Zg.int .u32);replace aj:=aj.froz 1003 (by decide);replace av:=av.froz 1003 (by decide);replace hf0:=hf0.froz 1003
  replace hb1:=hb1.froz 1003 (by decide);replace af:=af.froz 1003 (by decide);replace hb0:=hb0.froz 1003 (by decide);replace hrec:=hrec.froz 1003 (by decide);replace hmk:=hmk.froz 1003 (by decide);replace hki:=hki.froz 1003 rfl;replace aa:=hjs _ _ _ _ _ aa ((Zt.refl _ _ _).froz 1003 rfl);replace ab:=ab.froz 1004;replace ac:=ac.froz 1004;replace ad:=ad.froz 1004;replace ae:=ae.froz 1004;replace ai:=ai.froz 1004;replace aj:=(aj).toSlF (Zg.int .u32);replace av:=av.froz 1004 (by decide);replace hf0:=hf0.froz 1004;replace hb1:=hb1.froz 1004 (by decide);replace af:=af.froz 1004 (by decide);replace hb0:=hb0.froz 1004 (by decide);replace hrec:=hrec.froz 1004 (by decide);replace hmk:=hmk.froz 1004 (by decide);replace hki:=hki.froz 1004 rfl;replace aa:=hjs _ _ _ _ _ aa ((Zt.refl _ _ _).froz 1004 rfl);replace ab:=ab.recol 1006 cy (by decide);replace ac:=ac.recol 1006 cy (by decide);replace ad:=ad.recol 1006 cy (by decide);replace ae:=ae.recol 1006 cy (by decide);replace ai:=ai.recol 1006 cy (by decide);replace aj:=aj.recol 1006 cy (by decide);replace av:=av.recolSelf cy (by decide);replace hf0:=hf0.recol 1006 cy (by decide);replace hb1:=hb1.recol 1006 cy (by decide);replace af:=af.recol 1006 cy (by decide);replace hb0:=hb0.recol 1006 cy (by decide);replace hrec:=hrec.recol 1006 cy (by decide);replace hmk:=hmk.recol 1006 cy (by decide);replace hki:=hki.recol 1006 cy rfl;replace aa:=hjs _ _ _ _ _ aa ((Zt.refl _ _ _).recol 1006 cy rfl);obtain ⟨b7,hc_68m,b8⟩:=bZ hm;cases b8;have hm:=hc_68m;refine ly2 rfl rfl rfl rfl (hy _ _ _ _ [.slice bn b4.length bo,(.agg #[.bool au.1.1.1,.slice ba au.1.1.2.length bb,.slice bc au.1.2.length bd])] aa ⟨bn,bo,ba,bb,bc,bd,rfl,av,ai,aj⟩) ?_;rintro _ cw ⟨be,ap,⟨rfl,hJ⟩ | ⟨rfl,hX⟩⟩
  ·refine ⟨_,rfl,?_⟩;replace ab:=ab.kpp ap;replace ac:=ac.kpp ap;replace ad:=ad.kpp ap;replace ae:=ae.kpp ap;replace hf0:=hf0.kpp ap;replace hb1:=hb1.kpp ap;replace af:=af.kpp ap;replace hb0:=hb0.kpp ap;replace hrec:=hrec.kpp ap;replace hmk:=hmk.kpp ap;replace hki:=hki.trans (ap.mono (by first | exact Zpj rfl | exact pCo_p1 rfl | exact pCo_pS rfl | exact fun _=>Zpi | exact fun _ h=>h | exact fun _ _=>rfl));have aa:=hJ;refine Zm<|xk be<|xu rfl rfl (fun _=>Zhu _ rfl) ?_;refine Wf ?_;intro cx hC;replace hC:=hC.bl be;replace ab:=ab.gr hC;replace ac:=ac.gr hC;replace ad:=ad.gr hC;replace ae:=ae.gr hC;replace hf0:=hf0.gr hC;replace hb1:=hb1.gr hC;replace af:=af.gr hC;replace hb0:=hb0.gr hC;replace hrec:=hrec.gr hC;replace hmk:=hmk.gr hC;replace hki:=hki.gr hC;replace aa:=hjs _ _ _ _ _ aa hC.toP;refine X9 rfl<|X3 ?_;exact ⟨_,hki,⟨b7,hm,aa,ab,ac,ad,ae,hb1,af,hf0,hb0⟩,hrec,hmk⟩
  refine ⟨_,rfl,?_⟩;replace hrec:=hrec.kpp ap;replace hmk:=hmk.kpp ap;replace hki:=hki.trans (ap.mono (by first | exact Zpj rfl | exact pCo_p1 rfl | exact pCo_pS rfl | exact fun _=>Zpi | exact fun _ h=>h | exact fun _ _=>rfl));have aa:=hX;refine Zm<|xk be<|xu rfl rfl (fun _=>Zhu _ rfl) ?_;refine Wf ?_;intro cz hC;replace hC:=hC.bl be;replace hrec:=hrec.gr hC;replace hmk:=hmk.gr hC;replace hki:=hki.gr hC;replace aa:=hxs _ _ _ _ aa hC.toP;refine Yc rfl<|W4 ?_;exact ⟨_,hki,⟨rfl,aa⟩,hrec,hmk⟩
 ·intro b9 ag al hJ hmk;obtain ⟨r,hm,aa,ab,ac,ad,ae,hb1,af,hf0,hb0⟩:=hJ;rw [Zd4.eq_1] at hm;cases hm;refine ⟨_,(b9 :: []),rfl,hmk,?_⟩;intro c0 ca cb;replace aa:=hjs _ _ _ _ _ aa (ca.toP cb rfl);exact ⟨⟨_,rfl⟩,_,.inl aa⟩
 intro c_ cc ag al hX hmk;obtain ⟨rfl,hX⟩:=hX;have aa:=hX;refine W4 ?_;refine ⟨_,(cc :: []),rfl,hmk,?_⟩;intro c1 cd ce;replace aa:=hxs _ _ _ _ aa (cd.toP ce rfl);exact ⟨⟨_,rfl⟩,_,.inr aa⟩
def Zgd (N:Nat) (aa:R0):Option (List Rf):=
  (Zge N (aa.1,aa.2.1,aa.2.2.1,aa.2.2.2.1,aa.2.2.2.2) ([]:List Rb) ([]:List Int)).bind fun ac=>if (!decide (ac.2=0))=true then Zou else ((Zgi N (aa.1,aa.2.1,aa.2.2.1,aa.2.2.2.1,aa.2.2.2.2)).bind fun ab=>Zli N ac.1 (ab.1,ab.2.1,ab.2.2.1,ab.2.2.2.1,ab.2.2.2.2))
theorem Zza {N bc bd be bf:Nat} {bg bh bi bj:Option Addr} {col:Ze} {w0:World} {ai:R0} {r:(List Rf)} (cy:Nat) (hm:Zgd N ai=some r) (ar:Sl Za.str col w0 bg bc ai.2.1) (au:Sl (Za.slice Za.str) col w0 bh bd ai.2.2.1) (av:Sl (Za.slice (Za.int .i64)) col w0 bi be ai.2.2.2.1) (aw:Sl (Za.slice (Za.pair (Za.pair Za.bool (Za.slice (Za.int .u32))) (Za.slice (Za.int .u32)))) col w0 bj bf ai.2.2.2.2):
    Calls prog 11 #[(.agg #[.string ai.1,.slice bg ai.2.1.length bc,.slice bh ai.2.2.1.length bd,.slice bi ai.2.2.2.1.length be,.slice bj ai.2.2.2.2.length bf])] w0 (fun e w'=>∃ (col':Ze) (rv1:Value),e= .returned (rv1)∧Zf col w0 col' w'∧It prog 2 rv1 (fun (y:List Int×R1) (col:Ze) (w:World) (args:List Value)=>∃ (a0:Option Addr) (bk:Nat) (a1_0_1:Option Addr) (c1_0_1:Nat) (bm:Option Addr) (bn:Nat),args=[.slice a0 y.1.length bk,.agg #[.bool y.2.1.1,.slice a1_0_1 y.2.1.2.length c1_0_1,.slice bm y.2.2.length bn]]∧Zc (Za.int .i64) 3 cy col w a0 bk y.1∧Sl (Za.int .u32) col w a1_0_1 c1_0_1 y.2.1.2∧Sl (Za.int .u32) col w bm bn y.2.2) r q0 col' w'):=by
 refine Xm 2 (m:=16) func11 rfl rfl rfl rfl rfl ?_;rw [Zgd.eq_1] at hm;have aa:=St.start col w0;refine go ?_;refine Xv (col:=(Zk col)) 1 rfl ?_;intro b9 ca cb bp ax;refine lv (v:=_) rfl rfl (V7 rfl)<|go ?_;refine lV _ (Xb isAgg27 sizeOf27 ax) ?_;obtain ⟨ak,bq,hm⟩:=bZ hm;replace ar:=ar.keep (Zl.start col w0);replace au:=au.keep (Zl.start col w0);replace av:=av.keep (Zl.start col w0);replace aw:=aw.keep (Zl.start col w0);replace aa:=aa.grow bp;refine Zh (Zzd 2 bq (ar.ks aa) (au.ks aa) (av.ks aa) (aw.ks aa) Sl.nil Sl.nil) ?_;rintro _ cc ⟨br,ao,ap,rfl,bo,ab⟩;refine ⟨_,rfl,?_⟩;refine lM (.tuple #[.slice ao ak.1.length ap,.int .i64 ak.2])<|lV (.slice ao ak.1.length ap) (Xf rfl rfl)<|lV (.int .i64 ak.2) (Xf rfl rfl)<|Za9 (col:=br) (v:=(.slice none (([]:List Int).length) 0)) 3 rfl zeroValue33 ?_;intro an bs az a1 a2;replace a2:Zj 33 3 az bs an #[.slice none (([]:List Int).length) 0]:=a2;refine Ut (v:=(.slice ao ak.1.length ap)) a2 sizeOf33 rfl rfl (by intro u hu;simp only [Value.cells,List.mem_cons,List.not_mem_nil,or_false] at hu;subst hu;rfl) rfl rfl ?_;intro bt a3 bu ac;replace ac:Zj 33 3 az bt an #[.slice ao ak.1.length ap]:=ac;refine go ?_;replace ax:=((ax.gr bo).gr a1).kp a3;replace aa:=((aa.grow bo).grow a1).kp a3 bu;replace ab:=(ab.gr a1).kp a3;refine Zq hm (fun hb hm=>go ?_) fun hb hm=>go ?_
 ·refine lA (.func (.func 57) #[] #[])<|go ?_;refine ⟨rfl,V1 w0.heap.size col az (fun n=>0),_,rfl,aa.fin (fun n=>0),57,[],rfl,call57,?_⟩;intro col9 w9 aj hk9;exact Zzb cy col9 w9 r hm
 refine lV _ (Xb isAgg27 sizeOf27 ax) ?_;obtain ⟨aq,bv,hm⟩:=bZ hm;refine Zh (Zze 4 5 6 7 bv (ar.ks aa) (au.ks aa) (av.ks aa) (aw.ks aa)) ?_;rintro _ cd ⟨bw,bx,bz,b0,b1,b2,b3,b4,b5,rfl,a4,ad,ae,af,ag⟩;refine ⟨_,rfl,?_⟩;refine Xj (col:=bw) #[.string (⟨#[]⟩),.slice none (([]:List ByteArray).length) 0,.slice none (([]:List R4).length) 0,.slice none (([]:List R2).length) 0,(.slice none (([]:List R6).length) 0)] 8 zeroValue27 ?_;intro ay ce b6 al b7;refine Zw b7 ?_;intro cf am b8 ah;refine go ?_;refine lV (.func (.func 59) #[] #[.pointer (some ⟨an,0,none⟩),.pointer (some ⟨ay,0,none⟩)]) (Zpt rfl rfl)<|lA (.func (.func 59) #[] #[.pointer (some ⟨an,0,none⟩),.pointer (some ⟨ay,0,none⟩)])<|go ?_;replace ab:=((ab.gr a4).gr al).kp am;replace ab:=(ab).toSlF (Zg.int .i64);replace ad:=(ad.gr al).kp am;replace ad:=ad.froz 2 (by decide);replace ae:=(ae.gr al).kp am;replace ae:=ae.froz 2 (by decide);replace af:=(af.gr al).kp am;replace af:=af.froz 2 (by decide);replace ag:=(ag.gr al).kp am;replace ag:=ag.froz 2 (by decide);replace ac:=((ac.gr a4).gr al).kp am;replace ac:=ac.froz 2 (by decide);replace ah:=ah.froz 2 (by decide);replace aa:=((aa.grow a4).grow al).kp am b8;replace aa:=aa.froz 2 (by decide) (by decide);replace ab:=ab.froz 4;replace ad:=(ad).toSlF Zg.str;replace ae:=ae.froz 4 (by decide);replace af:=af.froz 4 (by decide);replace ag:=ag.froz 4 (by decide);replace ac:=ac.froz 4 (by decide);replace ah:=ah.froz 4 (by decide);replace aa:=aa.froz 4 (by decide) (by decide);replace ab:=ab.froz 5;replace ad:=ad.froz 5;replace ae:=(ae).toSlF (Zg.row Zg.str);replace af:=af.froz 5 (by decide);replace ag:=ag.froz 5 (by decide);replace ac:=ac.froz 5 (by decide);replace ah:=ah.froz 5 (by decide);replace aa:=aa.froz 5 (by decide) (by decide);replace ab:=ab.froz 6;replace ad:=ad.froz 6;replace ae:=ae.froz 6;replace af:=(af).toSlF (Zg.row (Zg.int .i64));replace ag:=ag.froz 6 (by decide);replace ac:=ac.froz 6 (by decide);replace ah:=ah.froz 6 (by decide);replace aa:=aa.froz 6 (by decide) (by decide);replace ab:=ab.froz 7;replace ad:=ad.froz 7;replace ae:=ae.froz 7;replace af:=af.froz 7
 replace ag:=(ag).toSlF (Zg.row (Zg.pair (Zg.pair Zg.bool (Zg.row (Zg.int .u32))) (Zg.row (Zg.int .u32))));replace ac:=ac.froz 7 (by decide);replace ah:=ah.froz 7 (by decide);replace aa:=aa.froz 7 (by decide) (by decide);have a5:=aa.finBox (G:=(fun n=>bif Nat.beq n 3 then 450 else bif Nat.beq n 8 then 450 else 0)) ac (by decide) (by decide) (show (fun n=>bif Nat.beq n 3 then 450 else bif Nat.beq n 8 then 450 else 0) 3=450 from rfl);have a6:=aa.finSl (g:=(fun n=>bif Nat.beq n 3 then 450 else bif Nat.beq n 8 then 450 else 0)) rfl ab;have a7:=aa.finBox (G:=(fun n=>bif Nat.beq n 3 then 450 else bif Nat.beq n 8 then 450 else 0)) ah (by decide) (by decide) (show (fun n=>bif Nat.beq n 3 then 450 else bif Nat.beq n 8 then 450 else 0) 8=450 from rfl);have a8:=aa.finSl (g:=(fun n=>bif Nat.beq n 3 then 450 else bif Nat.beq n 8 then 450 else 0)) rfl ad;have a9:=aa.finSl (g:=(fun n=>bif Nat.beq n 3 then 450 else bif Nat.beq n 8 then 450 else 0)) rfl ae;have ba:=aa.finSl (g:=(fun n=>bif Nat.beq n 3 then 450 else bif Nat.beq n 8 then 450 else 0)) rfl af;have bb:=aa.finSl (g:=(fun n=>bif Nat.beq n 3 then 450 else bif Nat.beq n 8 then 450 else 0)) rfl ag;refine ⟨rfl,V1 w0.heap.size col (Xn 7 (Xn 6 (Xn 5 (Xn 4 (Xn 2 b6))))) (fun n=>bif Nat.beq n 3 then 450 else bif Nat.beq n 8 then 450 else 0),_,rfl,aa.fin (fun n=>bif Nat.beq n 3 then 450 else bif Nat.beq n 8 then 450 else 0),59,[.pointer (some ⟨an,0,none⟩),.pointer (some ⟨ay,0,none⟩)],rfl,call59,?_⟩;intro col9 w9 aj hk9;replace a5:=a5.itk aj hk9 rfl;replace a6:=a6.itk aj hk9 rfl;replace a7:=a7.itk aj hk9 rfl;replace a8:=a8.itk aj hk9 rfl;replace a9:=a9.itk aj hk9 rfl;replace ba:=ba.itk aj hk9 rfl;replace bb:=bb.itk aj hk9 rfl;exact Zzc N cy col9 w9 an ao ap ak.1 a6 a5 ay bx bz b0 b1 b2 b3 b4 b5 (aq.1,aq.2.1,aq.2.2.1,aq.2.2.2.1,aq.2.2.2.2) a8 a9 ba bb a7 r hm
/-! a network whose lists are its own -/
def Wy (x:QV):QV:=Zn (Zu x)
def V2 (n:Z2):Z2:=(n.1,n.2.1,n.2.2.1,n.2.2.2.1,n.2.2.2.2.map (List.map Wy))
theorem Zoa (x:QV):Zu (Wy x)=Zu x:=Y3 _
theorem Zn9 (T:List (List QV)) (v:Nat):(T.map (List.map Wy)).getD v []=(T.getD v []).map Wy:=by
 rw [List.getD_eq_getElem?_getD,List.getD_eq_getElem?_getD,List.getElem?_map]
 cases T[v]? with
 | none=>rfl
 | some t=>rfl
theorem Z03 (l:List QV):Wo (l.map Wy)=Wo l:=by
 rw [Wo,Wo,List.map_map]
 congr 1
 exact List.map_congr_left fun x _=>Zoa x
theorem Zr6 (c:Nat):∀ (m:Nat) (l:List QV),Uy c m (l.map Wy)=Uy c m l
 | 0,l=>rfl
 | m+1,l=>by rw [Uy,Uy,← List.map_take,← List.map_drop,Z03,Zr6 c m]
theorem Zr9 (vals:List R4) (P:List R2) (T:List (List QV)):∀ m v,So vals P (T.map (List.map Wy)) m v=So vals P T m v
 | 0,v=>rfl
 | m+1,v=>by rw [So,So,Zn9,List.length_map,Zr9 vals P T m]
theorem Zsa (vals:List R4) (P:List R2) (T:List (List QV)):∀ m v,Za0 vals P (T.map (List.map Wy)) m v=Za0 vals P T m v
 | 0,v=>rfl
 | m+1,v=>by rw [Za0,Za0,Zn9,Zr6,Zsa vals P T m]
theorem Z00 (T:List (List QV)):Za7 (T.map (List.map Wy))=Za7 T:=by
 rw [Za7,Za7,List.any_map]
 congr 1
 funext t
 show (t.map Wy).any V6=t.any V6
 rw [List.any_map]
 congr 1
 funext x
 show V6 (Wy x)=V6 x
 rw [V6,V6,Zoa]
theorem Z02 {N:Nat} {n:Z2} (hf:Yq N n):Yq N (V2 n) where
 ev:=⟨hf.ev.v,hf.ev.p,by show (n.2.2.2.2.map (List.map Wy)).length=_;rw [List.length_map];exact hf.ev.t,hf.ev.i,hf.ev.ne⟩
 le:=hf.le
 nm:=hf.nm
 sh:=(Zr9 _ _ _ _ _).trans hf.sh
 en:=(Z00 _).trans hf.en
 su:=(Zsa _ _ _ _ _).trans hf.su
 tw:=hf.tw
 or:=hf.or
theorem Z04 {n:Z2} {W:Nat} (hs:Wk n W) (hq:∀ t ∈ n.2.2.2.2,Yb (t.map Wy)≤W):Wk (V2 n) W:=by
 refine ⟨hs.nm,hs.vl,hs.pn,fun t ht=>?_,fun t ht=>?_,fun t ht x hx=>?_⟩
 ·obtain ⟨u,hu,rfl⟩:=List.mem_map.1 ht
  rw [List.length_map];exact hs.tl u hu
 ·obtain ⟨u,hu,rfl⟩:=List.mem_map.1 ht
  exact hq u hu
 ·obtain ⟨u,hu,rfl⟩:=List.mem_map.1 ht
  obtain ⟨y,hy,rfl⟩:=List.mem_map.1 hx
  exact ⟨Z8 _,Z8 _⟩
theorem Z01 (n:Z2) (w:List Int) (v:Nat):ent (V2 n) w v=ent n w v:=by
 have hr:∀ (ps:List Int) (r:Nat),Tj (V2 n) w ps r=Tj n w ps r:=fun ps=>by
  induction ps with
  | nil=>intro r;rfl
  | cons p ps ih=>intro r;rw [Tj,Tj,ih];rfl
 have hi:Y8 (V2 n) w v=Y8 n w v:=hr _ _
 have hT:Z1 (V2 n) w v=(Z1 n w v).map Wy:=by
  rw [Z1,Z1,hi,List.map_take,List.map_drop]
  show List.take (cnt n v) (List.drop (Y8 n w v * cnt n v) ((n.2.2.2.2.map (List.map Wy)).getD v []))=_
  rw [Zn9]
 rw [ent,ent,hT]
 generalize (w.getD v 0).toNat=j
 rw [List.getD_eq_getElem?_getD,List.getD_eq_getElem?_getD,List.getElem?_map]
 cases (Z1 n w v)[j]? with
 | none=>rfl
 | some x=>exact Zoa x
theorem Zr7 (n:Z2) (w:List Int):∀ m k q,Vz (V2 n) w m k q=Vz n w m k q
 | 0,k,q=>rfl
 | m+1,k,q=>by rw [Vz,Vz,Z01,Zr7 n w m]
section
variable {N W K:Nat} {n:Z2} (hf:Yq N n) (hs:Wk n W) (hr:Xi N (8 * K+40)) (hWK:1025 * (W+2)+4≤K) (hN:2000000<N)
include hf hs hr hWK hN
omit hf hs hN in
theorem Zr4 (v:Int) (m1:ByteArray) (m2:List ByteArray) (m3:List R4) (m4:List R2) (m5:List (List QV)) (h5:m5.length≤1048576) (kk:Int→ByteArray→List ByteArray→List R4→List R2→List (List QV)→Option Z2) (r1:List ByteArray) (r2:List Int):∀ (l out:List QV),(∀ x ∈ l,Vr x∧max x.1.2.length x.2.length≤W)→out.length+l.length≤1048576→
  Zco N v m1 m2 m3 m4 m5 kk r1 r2 l out=kk (i64.wrap (v+1)) m1 m2 (m3++[r1]) (m4++[r2]) (m5++[out++l.map Wy])
 | [],out,_,h2=>by
  rw [Zco.eq_1,Xg (by simp only [List.length_singleton,maxLen];omega),List.map_nil,List.append_nil]
 | x :: l,out,h1,h2=>by
  obtain ⟨x1,x2⟩:=h1 x List.mem_cons_self
  have hz:RV 0 ((false,([]:List Int)),([]:List Int)):=⟨by simp [Zo],by simp [Zo],by simp,by simp⟩
  have hz2:Zu ((false,([]:List Int)),([]:List Int))=0:=by rw [Zu];simp [Zr,Zb]
  have ad:V4 N ((x.1.1,x.1.2),x.2) ((false,([]:List Int)),([]:List Int))=some (Wy x):=by
   have:=Zb7 ((Zdk x1.1 x1.2).mono x2) hz (hr.mono (by omega))
   rwa [hz2,Rat.add_zero] at this
  rw [nC] at h2
  rw [Zco.eq_2,ad,oB,Xg (by simp only [List.length_singleton,maxLen];omega)]
  have ih:=Zr4 v m1 m2 m3 m4 m5 h5 kk r1 r2 l (out++[Wy x]) (fun y hy=>h1 y (List.mem_cons_of_mem _ hy)) (by rw [nA,List.length_singleton];omega)
  rw [List.append_assoc] at ih
  exact ih
omit hN in
theorem Zr3:∀ (f v:Nat),v≤n.2.1.length→n.2.1.length<f+v→Zbf N n f (v:Int) n.1 n.2.1 (n.2.2.1.take v) (n.2.2.2.1.take v) ((n.2.2.2.2.take v).map (List.map Wy))=some (V2 n)
 | 0,v,h1,h2=>by omega
 | f+1,v,h1,h2=>by
  have hv:=hf.ev.v;have hp:=hf.ev.p;have ht:=hf.ev.t;have hle:=hf.le
  rw [Zbf.eq_2]
  by_cases hk:v<n.2.1.length
  ·have a1:v<n.2.2.1.length:=by omega
   have a2:v<n.2.2.2.1.length:=by omega
   have a3:v<n.2.2.2.2.length:=by omega
   have c1:Zeu n.2.2.1[v]=some n.2.2.1[v]:=by
    have:=hs.vl _ (List.getElem_mem a1)
    rw [Zeu,Xg (by simp only [nN,maxLen];omega),List.nil_append]
   have c2:Zdc n.2.2.2.1[v]=some n.2.2.2.1[v]:=Zn6 (by have:=hs.pn.ls _ (List.getElem_mem a2);omega)
   have hmem:=fun x hx=>Zfj hf hs hk x (by rw [Yz a3];exact hx)
   have l2:=Zr4 hr hWK (v:Int) n.1 n.2.1 (n.2.2.1.take v) (n.2.2.2.1.take v) ((n.2.2.2.2.take v).map (List.map Wy)) (by rw [List.length_map,nK];omega) (Zbf N n f) n.2.2.1[v] n.2.2.2.1[v] n.2.2.2.2[v] [] hmem (by have:=hs.tl _ (List.getElem_mem a3);simpa using this)
   have ih:=Zr3 f (v+1) (by omega) (by omega)
   rw [List.take_succ_eq_append_getElem a1,List.take_succ_eq_append_getElem a2,List.take_succ_eq_append_getElem a3,List.map_append,List.map_singleton] at ih
   rw [if_pos (dT (by omega)),Xk a1,oB,c1,oB,Xg (by simp only [nK,List.length_singleton,maxLen];omega),Xk a2,oB,c2,oB,Xg (by simp only [nK,List.length_singleton,maxLen];omega),Xk a3,oB,l2,wS (by omega),List.nil_append]
   exact ih
  ·rw [if_neg (dF (by omega)),List.take_of_length_le (by omega),List.take_of_length_le (by omega),List.take_of_length_le (by omega)];rfl
theorem Z0z:Zgi N n=some (V2 n):=by
 have hle:=hf.le
 have h:=Zr3 hf hs hr hWK N 0 (Nat.zero_le _) (by omega)
 rw [List.take_zero,List.take_zero,List.take_zero,List.map_nil] at h
 rw [Zgi,Zeu,Xg (by simp only [nN,maxLen];omega),oB,List.nil_append]
 exact h
/-! how many -/
def X1 (n:Z2):List Nat:=n.2.2.1.map List.length
omit hs hr hWK hN in
theorem Zm6:∀ s ∈ X1 n,0<s:=fun s h=>by
 obtain ⟨l,hl,rfl⟩:=List.mem_map.1 h
 exact List.length_pos_iff.2 (hf.ev.ne l hl)
omit hr hWK hf hN hs in
theorem Zt7:∀ (l:List R4) (out:List Int),out.length+l.length≤1048576→Zcs l out=some (out++Vg (l.map List.length))
 | [],out,_=>by rw [Zcs.eq_1,List.map_nil,Vg,List.map_nil,List.append_nil]
 | x :: l,out,h=>by
  rw [nC] at h
  rw [Zcs.eq_2,Xg (by simp only [List.length_singleton,maxLen];omega),Zt7 l _ (by rw [nA,List.length_singleton];omega),List.append_assoc];rfl
theorem Z2r (hb:Ya (X1 n)≤65536):Zge N n [] []=some (Vg (X1 n),0):=by
 have hv:=hf.ev.v;have hle:=hf.le
 have hC:Vn N (n.1,n.2.1,n.2.2.1,n.2.2.2.1,n.2.2.2.2)=some 0:=Zrx hf hs (hr.mono (by omega)) hN
 have sz:Ziv (n.1,n.2.1,n.2.2.1,n.2.2.2.1,n.2.2.2.2)=some (Vg (X1 n)):=by
  have:=Zt7 n.2.2.1 [] (by simp only [nN];omega)
  rw [List.nil_append] at this
  rw [Ziv];exact this
 have hlen:(Vg (X1 n)).length=n.2.1.length:=by rw [Vg,X1,List.length_map,List.length_map,hv]
 have ct:=Zxn (Zm6 hf) hb
 rw [Zge,hC,oB,if_neg (by decide),sz,oB,Zaj.eq_1,Zcn.eq_1,Xg (by rw [hlen];simp only [maxLen];omega),Zgg.eq_1,Zgh.eq_1,ct,oB]
 dsimp only
 rw [if_neg (show ¬ (!decide ((0:Int)=0))=true by decide),decide_eq_false (by omega),Zir,if_neg (by decide)]
omit hs hr hWK hN in
theorem Zsx {w:List Int} (h:Zki (X1 n) w):X2 n w:=by
 have key:∀ (L:List R4) (w:List Int),Zki (L.map List.length) w→w.length=L.length∧∀ i,i<w.length→0≤w.getD i 0∧w.getD i 0<((L.getD i []).length:Int):=by
  intro L
  induction L with
  | nil=>
   intro w hw
   cases w with
   | nil=>exact ⟨rfl,fun i hi=>by simp at hi⟩
   | cons d w=>exact hw.elim
  | cons l L ih=>
   intro w hw
   cases w with
   | nil=>exact hw.elim
   | cons d w=>
    obtain ⟨h1,h2⟩:=ih w hw.2
    refine ⟨by rw [nC,nC,h1],fun i hi=>?_⟩
    cases i with
    | zero=>exact hw.1
    | succ i=>exact h2 i (by simpa using hi)
 obtain ⟨h1,h2⟩:=key n.2.2.1 w h
 exact ⟨by rw [h1,hf.ev.v],h2⟩
def Za3 (n:Z2):Nat→Nat→List (List Int×QV)
 | _,0=>[]
 | k,m+1=>(Y5 (X1 n) k,Zn (Vz n (Y5 (X1 n) k) n.2.1.length 0 1)) :: Za3 n (k+1) m
theorem Zqu (hq:∀ t ∈ n.2.2.2.2,Yb (t.map Wy)≤W) (hb:Ya (X1 n)≤65536):∀ (m k:Nat),k+m=Ya (X1 n)→Zd4 N (V2 n) (Zfp (X1 n) k m)=some (Za3 n k m)
 | 0,k,_=>rfl
 | m+1,k,h=>by
  have hf':=Z02 hf
  have hs':=Z04 hs hq
  have hC':=Zrx hf' hs' (hr.mono (by omega)) hN
  have hle:=hf.le
  have hd:=Zsx hf (Zod (X1 n) k (Zm6 hf) (by omega))
  obtain ⟨p,e,ch,cs⟩:=Z0r hf' hs' hr hWK hN hC' (Y5 (X1 n) k)
  have hin:(decide ((Y5 (X1 n) k).length=(V2 n).2.1.length)&&Vm (V2 n) (Y5 (X1 n) k) 0)=true:=by
   have:∀ (l:List Int) (j:Nat),(Y5 (X1 n) k).drop j=l→Vm (V2 n) l j=true:=by
    intro l
    induction l with
    | nil=>intro j _;rfl
    | cons x l ihl=>
     intro j hj
     have hjl:j<(Y5 (X1 n) k).length:=by
      rcases Nat.lt_or_ge j (Y5 (X1 n) k).length with h | h
      ·exact h
      ·rw [List.drop_eq_nil_of_le h] at hj;cases hj
     rw [List.drop_eq_getElem_cons hjl] at hj
     obtain ⟨a1,a2⟩:=List.cons.inj hj
     have hok:=hd.ok j hjl
     rw [Yz hjl,a1] at hok
     have hcn:cnt (V2 n) j=cnt n j:=rfl
     rw [Vm,ihl (j+1) a2,hcn,decide_eq_false (by omega),decide_eq_false (by omega)];rfl
   rw [this (Y5 (X1 n) k) 0 (by rw [List.drop_zero]),Bool.and_true]
   exact decide_eq_true hd.len
  rcases cs with ⟨_,h0⟩ | ⟨_,_,hp⟩
  ·rw [hin] at h0;cases h0
  ·have ch':Zgm N ((V2 n).1,(V2 n).2.1,(V2 n).2.2.1,(V2 n).2.2.2.1,(V2 n).2.2.2.2) (Y5 (X1 n) k)=some (p,e):=ch
   have hlen:(Y5 (X1 n) k).length≤1099511627776:=by rw [hd.len];omega
   rw [Zfp,Zd4.eq_2]
   dsimp only
   rw [ch',oB,Zn6 hlen,oB,Zqu hq hb m (k+1) (by omega),oB,hp,Zr7]
   rfl
theorem Z2q (hq:∀ t ∈ n.2.2.2.2,Yb (t.map Wy)≤W) (hb:Ya (X1 n)≤65536):Zgd N n=some (Za3 n 0 (Ya (X1 n))):=by
 have hle:=hf.le;have hv:=hf.ev.v
 have jc:Zge N (n.1,n.2.1,n.2.2.1,n.2.2.2.1,n.2.2.2.2) [] []=some (Vg (X1 n),0):=Z2r hf hs hr hWK hN hb
 have cp:Zgi N (n.1,n.2.1,n.2.2.1,n.2.2.2.1,n.2.2.2.2)=some (V2 n):=Z0z hf hs hr hWK hN
 have ra:=Z42 (N:=N) (Zm6 hf) (by rw [X1,List.length_map];omega) (by omega) hb
 rw [Zgd,jc,oB]
 dsimp only
 rw [if_neg (show ¬ (!decide ((0:Int)=0))=true by decide),cp,oB,Zli,ra,oB]
 exact Zqu hf hs hr hWK hN hq hb (Ya (X1 n)) 0 (by omega)
end
def Zan (N:Nat) (aa:R0):Nat→Int→Int→Option Bool
  | 0,_,_=>none
  | ae+1,ac,ab=>if (decide (ab<(aa.2.1.length:Int)))=true then ((Zp aa.2.2.1 ab).bind fun ad=>if (decide (300<(i64.wrap (ac * (ad.length:Int)))))=true then (some false) else ((Zan N aa ae) (i64.wrap (ac * (ad.length:Int))) (i64.wrap (ab+1)))) else (some true)
termination_by structural x=>x
def Zcq (N:Nat) (aa:R0) (ab:Bool):Option Bool:=
  if ab=true then (some false) else (Zan N aa N 1 0)
def Zcp (N:Nat) (aa:R0):Option Bool:=
  (Zd8 N (aa.1,aa.2.1,aa.2.2.1,aa.2.2.2.1,aa.2.2.2.2)).bind fun ab=>if ab=true then (Zcq N aa true) else ((Vn N (aa.1,aa.2.1,aa.2.2.1,aa.2.2.2.1,aa.2.2.2.2)).bind fun ac=>Zcq N aa (!decide (ac=0)))
theorem Zzi {N af ag ah ai:Nat} {aj ak al am:Option Addr} {col:Ze} {w0:World} {ab:R0} {r:Bool} (hm:Zcp N ab=some r) (an:Sl Za.str col w0 aj af ab.2.1) (ad:Sl (Za.slice Za.str) col w0 ak ag ab.2.2.1) (ao:Sl (Za.slice (Za.int .i64)) col w0 al ah ab.2.2.2.1) (ap:Sl (Za.slice (Za.pair (Za.pair Za.bool (Za.slice (Za.int .u32))) (Za.slice (Za.int .u32)))) col w0 am ai ab.2.2.2.2):
    Calls prog 10 #[(.agg #[.string ab.1,.slice aj ab.2.1.length af,.slice ak ab.2.2.1.length ag,.slice al ab.2.2.2.1.length ah,.slice am ab.2.2.2.2.length ai])] w0 (fun e w'=>e= .returned ((.bool r))∧Below w0.heap.size w0 w'):=by
 refine Xm 2 (m:=29) func10 rfl rfl rfl rfl rfl ?_;rw [Zcp.eq_1] at hm;have aa:=St.start col w0;refine go ?_;refine Xv (col:=(Zk col)) 1 rfl ?_;intro a4 a6 aq a7 ac;refine Zk7 rfl<|Zm<|Zv<|Zv ?_;replace an:=an.keep (Zl.start col w0);replace ad:=ad.keep (Zl.start col w0);replace ao:=ao.keep (Zl.start col w0);replace ap:=ap.keep (Zl.start col w0);replace aa:=aa.grow a7;refine Wp.cutK [1,1000000] (fun f av=>∃ aw ax,Zcq N ab ax=some r∧St w0 (Zk col) aw av∧Zj 27 1 aw av a4 #[.string ab.1,.slice aj ab.2.1.length af,.slice ak ab.2.2.1.length ag,.slice al ab.2.2.2.1.length ah,.slice am ab.2.2.2.2.length ai]∧[11].map f=[.bool ax]) ?_ ?_
 ·intro f av hJ;obtain ⟨aw,ax,hm,aa,ac,hs⟩:=hJ;rw [Zcq.eq_1] at hm;refine .lL [11] hs ?_;refine Zq hm (fun hb hm=>go ?_) fun hb hm=>go ?_
  ·cases hm;exact ⟨rfl,rfl,aa.below⟩
  refine Z9 [1,1000000] (fun n f ay=>∃ az a0 a1 ae,ae=n∧Zan N ab ae a0 a1=some r∧St w0 (Zk col) az ay∧Zj 27 1 az ay a4 #[.string ab.1,.slice aj ab.2.1.length af,.slice ak ab.2.2.1.length ag,.slice al ab.2.2.2.1.length ah,.slice am ab.2.2.2.2.length ai]∧[3,4].map f=[.int .i64 a0,.int .i64 a1]) N ⟨_,1,0,_,rfl,hm,aa,ac,rfl⟩ ?_;clear hm;intro n f ay hI;obtain ⟨az,a0,a1,ae,hn,hm,aa,ac,hs⟩:=hI;subst hn;refine .lL [3,4] hs ?_
  cases ae with
  | zero=>rw [Zan.eq_1] at hm;cases hm
  | succ ae=>
   rw [Zan.eq_2] at hm;refine go ?_;refine Xz ac ?_;refine go ?_;refine Zq hm (fun hb hm=>go ?_) fun hb hm=>go ?_
   ·refine Xz ac<|Yf rfl ?_;obtain ⟨be,a2,hm⟩:=bZ hm;refine lI a2 ((ad.ks aa).addr a2) ?_;obtain ⟨_,a8,a9⟩:=(ad.ks aa).atN a2;obtain ⟨⟨bf,bg,rfl,bh⟩,_⟩:=a8;refine lW a9.one<|go ?_;refine Zq hm (fun hb hm=>go ?_) fun hb hm=>go ?_
    ·cases hm;exact ⟨rfl,rfl,aa.below⟩
    exact ⟨ae,by omega,rfl,⟨_,_,_,_,rfl,hm,aa,ac,rfl⟩⟩
   cases hm;exact ⟨rfl,rfl,aa.below⟩
 refine Wq<|lV _ (Xb isAgg27 sizeOf27 ac) ?_;obtain ⟨bi,ba,hm⟩:=bZ hm;refine Zh (Zzh ba (an.ks aa) (ad.ks aa) (ao.ks aa) (ap.ks aa)) ?_;rintro _ a5 ⟨rfl,ar⟩;refine ⟨_,rfl,?_⟩;replace ar:Zf aq a6 aq a5:=.of_below ar;refine Yt rfl ?_;replace ac:=ac.gr ar;replace aa:=aa.grow ar;refine X8 hm (fun a3 hm=>go ?_) fun a3 hm=>go ?_
 ·refine lV (.bool true) (Xr (congrArg Value.bool a3) rfl)<|Zm ?_;exact ⟨rfl,_,_,hm,aa,ac,rfl⟩
 refine lV _ (Xb isAgg27 sizeOf27 ac)<|go ?_;obtain ⟨bb,bc,hm⟩:=bZ hm;refine Zh (Zia bc (an.ks aa) (ad.ks aa) (ao.ks aa) (ap.ks aa)) ?_;rintro _ bd ⟨rfl,au⟩;refine ⟨_,rfl,?_⟩;replace au:Zf aq a5 aq bd:=.of_below au;refine go ?_;refine lV (.bool (!decide (bb=0))) (Xh (congrArg Value.bool a3) rfl)<|Zm ?_;replace ac:=ac.gr au;replace aa:=aa.grow au;exact ⟨rfl,_,_,hm,aa,ac,rfl⟩
/-! a network that is gone through is small -/
theorem Zuv {N:Nat} {n:Z2} (h:(12:Int)<(n.2.1.length:Int)):∀ (f:Nat) (s i:Int),Ts N n f s i≠some false
 | 0,s,i=>by rw [Ts.eq_1];intro e;cases e
 | f+1,s,i=>by
  have fin:Zam N n s i (Ts N n f) false=some true:=by
   rw [Zam,if_neg (by decide),if_pos (dT h)];rfl
  rw [Ts.eq_2]
  by_cases hi:i<(n.2.2.2.2.length:Int)
  ·rw [if_pos (dT hi)]
   by_cases h13:i<13
   ·rw [decide_eq_true h13,Zam,if_pos rfl]
    cases Zp n.2.2.2.2 i with
    | none=>intro e;cases e
    | some t=>rw [oB];exact Zuv h f _ _
   ·rw [decide_eq_false h13,fin];intro e;cases e
  ·rw [if_neg (dF hi),fin];intro e;cases e
theorem Zxr {N:Nat} {n:Z2} (he:n.2.2.1.length=n.2.1.length) (hl:n.2.1.length≤1024):∀ (f v:Nat) (c:Int),v≤n.2.1.length→n.2.1.length<f+v→∃ b,Zan N n f c (v:Int)=some b
 | 0,v,c,h1,h2=>by omega
 | f+1,v,c,h1,h2=>by
  rw [Zan.eq_2]
  by_cases hv:v<n.2.1.length
  ·rw [if_pos (dT (by omega)),Xk (by omega),oB]
   generalize i64.wrap (c * _)=d
   by_cases hd:300<d
   ·rw [if_pos (dT hd)];exact ⟨_,rfl⟩
   ·rw [if_neg (dF hd),wS (by omega)]
    exact Zxr he hl f (v+1) d (by omega) (by omega)
  ·rw [if_neg (dF (by omega))];exact ⟨_,rfl⟩
theorem Z5l {N W:Nat} {n:Z2} (hs:Wk n W) (hb:Zh3 n) (hr:Xi N (8 * W+40)) (hN:2000000<N):∃ b,Zcp N n=some b∧(b=true→Vn N n=some 0∧Yq N n∧n.2.1.length≤12):=by
 obtain ⟨r,hm⟩:=Z3b (N:=N) (n:=n) (fun t ht=>⟨hb.tl t ht,hb.tm t ht⟩) hb.tn (by omega)
 have hm':Zd8 N (n.1,n.2.1,n.2.2.1,n.2.2.2.1,n.2.2.2.2)=some r:=hm
 obtain ⟨e,m1,fine⟩:=Z0s hs hr hN
 have m1':Vn N (n.1,n.2.1,n.2.2.1,n.2.2.2.1,n.2.2.2.2)=some e:=m1
 rw [Zcp,hm',oB]
 cases r with
 | true=>rw [if_pos rfl,Zcq,if_pos rfl];exact ⟨_,rfl,fun h=>Bool.noConfusion h⟩
 | false=>
  rw [if_neg (by decide),m1',oB,Zcq]
  by_cases h0:e=0
  ·have hf:=fine h0
   subst h0
   have h12:n.2.1.length≤12:=by
    rcases Nat.lt_or_ge 12 n.2.1.length with h | h
    ·rw [Zd8] at hm
     exact absurd hm (Zuv (by omega) _ _ _)
    ·exact h
   obtain ⟨b,hb2⟩:=Zxr (N:=N) hf.ev.v hf.le N 0 1 (Nat.zero_le _) (by omega)
   rw [if_neg (by decide)]
   exact ⟨b,hb2,fun _=>⟨by first | exact m1 | rfl,hf,h12⟩⟩
  ·rw [if_pos (by rw [decide_eq_false h0];rfl)];exact ⟨_,rfl,fun h=>Bool.noConfusion h⟩
theorem Zv4 {N W:Nat} {n:Z2} {w:List Int} (hf:Yq N n) (hs:Wk n W) (hw:X2 n w):∀ (m k:Nat) (q:Rat),k+m=n.2.1.length→qs q≤k * (W+1)+1→qs (Vz n w m k q)≤(k+m) * (W+1)+1
 | 0,k,q,_,h=>h
 | m+1,k,q,hk,h=>by
  have h1:=Ztb hf hw hs (k:=k) (by omega)
  have h2:=Zdi q (ent n w k)
  have:=Zv4 hf hs hw m (k+1) (q * ent n w k) (by omega) (by rw [Nat.add_mul,Nat.one_mul];omega)
  rw [Vz,show k+(m+1)=k+1+m by omega]
  exact this
theorem Zxs {N W:Nat} {n:Z2} (hf:Yq N n) (hs:Wk n W):∀ (f v c:Nat),v≤n.2.1.length→c≤300→Zan N n f (c:Int) (v:Int)=some true→c * Ya ((X1 n).drop v)≤300
 | 0,v,c,_,_,h=>by rw [Zan.eq_1] at h;cases h
 | f+1,v,c,h1,h2,h=>by
  have hv:=hf.ev.v;have hle:=hf.le
  have hsz:(X1 n).length=n.2.1.length:=by rw [X1,List.length_map,hv]
  rw [Zan.eq_2] at h
  by_cases hk:v<n.2.1.length
  ·have hk1:v<n.2.2.1.length:=by omega
   have hl:=hs.vl _ (List.getElem_mem hk1)
   have hm:c * n.2.2.1[v].length≤300 * 1048576:=Nat.mul_le_mul h2 hl
   have e:(c:Int) * (n.2.2.1[v].length:Int)=((c * n.2.2.1[v].length:Nat):Int):=(Int.natCast_mul _ _).symm
   rw [if_pos (dT (by omega)),Xk hk1,oB,e,Zz (by omega)] at h
   have hdr:(X1 n).drop v=n.2.2.1[v].length :: (X1 n).drop (v+1):=by
    rw [List.drop_eq_getElem_cons (by omega)]
    simp only [X1,List.getElem_map]
   by_cases h3:300<((c * n.2.2.1[v].length:Nat):Int)
   ·rw [if_pos (dT h3)] at h;cases h
   ·rw [if_neg (dF h3),wS (by omega)] at h
    have ih:=Zxs hf hs f (v+1) (c * n.2.2.1[v].length) (by omega) (by omega) h
    rw [hdr,Ya,← Nat.mul_assoc]
    exact ih
  ·rw [List.drop_eq_nil_of_le (by omega),Ya,Nat.mul_one];exact h2
theorem Z5m {N W:Nat} {n:Z2} (hf:Yq N n) (hs:Wk n W) (h:Zcp N n=some true):Ya (X1 n)≤300:=by
 rw [Zcp] at h
 have J:∀ b,Zcq N n b=some true→Ya (X1 n)≤300:=fun b hb=>by
  rw [Zcq] at hb
  cases b with
  | true=>rw [if_pos rfl] at hb;cases hb
  | false=>
   rw [if_neg (by decide)] at hb
   have:=Zxs hf hs N 0 1 (Nat.zero_le _) (by decide) hb
   rwa [List.drop_zero,Nat.one_mul] at this
 cases hm:Zd8 N (n.1,n.2.1,n.2.2.1,n.2.2.2.1,n.2.2.2.2) with
 | none=>rw [hm] at h;cases h
 | some r=>
  rw [hm,oB] at h
  cases r with
  | true=>rw [if_pos rfl] at h;exact J _ h
  | false=>
   rw [if_neg (by decide)] at h
   cases hc:Vn N (n.1,n.2.1,n.2.2.1,n.2.2.2.1,n.2.2.2.2) with
   | none=>rw [hc] at h;cases h
   | some e=>rw [hc,oB] at h;exact J _ h
/-! a common denominator -/
theorem Z1r:Wj prog 3 1 8:=⟨Tryz.t3,_,rfl,rfl,rfl,rfl,rfl⟩
def Zoz (N:Nat):Option R0:=
  (Zat N 4 5).bind fun aa=>(Zat N 1 5).bind fun ab=>(Zat N 9 10).bind fun ac=>(Zat N 1 10).bind fun ad=>(Zat N 1 10).bind fun ae=>(Zat N 9 10).bind fun af=>some (⟨#[114,97,105,110]⟩,([⟨#[114,97,105,110]⟩,⟨#[103,114,97,115,115]⟩]:List ByteArray),([([⟨#[110,111]⟩,⟨#[121,101,115]⟩]:List ByteArray),([⟨#[100,114,121]⟩,⟨#[119,101,116]⟩]:List ByteArray)]:List R4),[([]:List Int),[0]],[[((aa.1.1,aa.1.2),aa.2),((ab.1.1,ab.1.2),ab.2)],[((ac.1.1,ac.1.2),ac.2),((ad.1.1,ad.1.2),ad.2),((ae.1.1,ae.1.2),ae.2),((af.1.1,af.1.2),af.2)]])
theorem Zz5 {N:Nat} {col:Ze} {w0:World} {r:R0} (c1 c2 c3 c4:Nat) (hm:Zoz N=some r):
    Calls prog 52 #[] w0 (fun e w'=>∃ (col':Ze) (ra1:Option Addr) (rc2:Nat) (ra4:Option Addr) (rc5:Nat) (ra7:Option Addr) (rc8:Nat) (ra10:Option Addr) (rc11:Nat),e= .returned ((.agg #[.string r.1,.slice ra1 r.2.1.length rc2,.slice ra4 r.2.2.1.length rc5,.slice ra7 r.2.2.2.1.length rc8,.slice ra10 r.2.2.2.2.length rc11]))∧Zf col w0 col' w'∧Zc Za.str 9 c1 col' w' ra1 rc2 r.2.1∧Zc (Za.row 9 Za.str) 22 c2 col' w' ra4 rc5 r.2.2.1∧Zc (Za.row 3 (Za.int .i64)) 33 c3 col' w' ra7 rc8 r.2.2.2.1∧Zc (Za.row 39 (Za.pair (Za.pair Za.bool (Za.row 95 (Za.int .u32))) (Za.row 95 (Za.int .u32)))) 114 c4 col' w' ra10 rc11 r.2.2.2.2):=by
 refine Y2 (m:=18) func52 rfl rfl rfl ?_;rw [Zoz.eq_1] at hm;have aa:=St.start col w0;refine go ?_;refine Xj (col:=(Zk col)) #[.string (⟨#[]⟩),.slice none (([]:List ByteArray).length) 0,.slice none (([]:List R4).length) 0,.slice none (([]:List R2).length) 0,(.slice none (([]:List R6).length) 0)] 1 zeroValue27 ?_;intro ee ef cw cx ab;refine go ?_;refine Zk9 (col:=cw) ([⟨#[114,97,105,110]⟩,⟨#[103,114,97,115,115]⟩]:List ByteArray) 2 ?_;intro cy eg cz cq ac;refine Zk9 (col:=cz) ([⟨#[110,111]⟩,⟨#[121,101,115]⟩]:List ByteArray) 3 ?_;intro bc eh c0 bd be;refine Zk9 (col:=c0) ([⟨#[100,114,121]⟩,⟨#[119,101,116]⟩]:List ByteArray) 4 ?_;intro bf cr bg a8 c5;replace be:=be.gr a8;have c6:Xp (Za.row 9 Za.str) 3 bg cr [.slice bc (([⟨#[110,111]⟩,⟨#[121,101,115]⟩]:List ByteArray).length) 2] ([⟨#[110,111]⟩,⟨#[121,101,115]⟩]:List ByteArray):=be.has;have c7:Xp (Za.row 9 Za.str) 4 bg cr [.slice bf (([⟨#[100,114,121]⟩,⟨#[119,101,116]⟩]:List ByteArray).length) 2] ([⟨#[100,114,121]⟩,⟨#[119,101,116]⟩]:List ByteArray):=c5.has;have c8:=Wb.cons (cs:=[.slice bc (([⟨#[110,111]⟩,⟨#[121,101,115]⟩]:List ByteArray).length) 2]) c6 (Wb.cons1 (cs:=[.slice bf (([⟨#[100,114,121]⟩,⟨#[119,101,116]⟩]:List ByteArray).length) 2]) c7 Rows.nil0) (by decide) (by decide);replace ac:=(ac.gr bd).gr a8;replace ac:=ac.recol 3 4 (by decide);replace ab:=((ab.gr cq).gr bd).gr a8;replace ab:=ab.recol 3 4 (by decide);replace aa:=(((aa.grow cx).grow cq).grow bd).grow a8;replace aa:=aa.recol 3 4 (by decide) (by decide);refine Sy (col:=(Xc 3 4 bg)) (r:=(Za.row 9 Za.str)) (xs:=([([⟨#[110,111]⟩,⟨#[121,101,115]⟩]:List ByteArray),([⟨#[100,114,121]⟩,⟨#[119,101,116]⟩]:List ByteArray)]:List R4)) [.slice bc (([⟨#[110,111]⟩,⟨#[121,101,115]⟩]:List ByteArray).length) 2,.slice bf (([⟨#[100,114,121]⟩,⟨#[119,101,116]⟩]:List ByteArray).length) 2] 4 c8 ?_;intro c9 ei da bh ad;refine Zk8 (col:=da) (r:=(Za.int .i64)) 5 rfl underlying33 Z1r rfl ?_;intro bi ej db a9 bj;refine W8 (col:=db) [0] 6 ?_;intro bk ct bm a0 dc;replace bj:=bj.gr a0;have dd:Xp (Za.row 3 (Za.int .i64)) 5 bm ct [.slice bi (([]:List Int).length) 0] ([]:List Int):=bj.has;have de:Xp (Za.row 3 (Za.int .i64)) 6 bm ct [.slice bk ([0].length) 1] [0]:=dc.has;have df:=Wb.cons (cs:=[.slice bi (([]:List Int).length) 0]) dd (Wb.cons1 (cs:=[.slice bk ([0].length) 1]) de Rows.nil0) (by decide) (by decide);replace ac:=((ac.gr bh).gr a9).gr a0
 replace ac:=ac.recol 5 6 (by decide);replace ad:=(ad.gr a9).gr a0;replace ad:=ad.recol 5 6 (by decide);replace ab:=((ab.gr bh).gr a9).gr a0;replace ab:=ab.recol 5 6 (by decide);replace aa:=((aa.grow bh).grow a9).grow a0;replace aa:=aa.recol 5 6 (by decide) (by decide);refine Sy (col:=(Xc 5 6 bm)) (r:=(Za.row 3 (Za.int .i64))) (xs:=[([]:List Int),[0]]) [.slice bi (([]:List Int).length) 0,.slice bk ([0].length) 1] 6 df ?_;intro dg ek dh ba ak;obtain ⟨ae,di,hm⟩:=bZ hm;refine Zh (Zfh (col:=dh) 7 8 di) ?_;rintro _ el ⟨dj,bn,bo,bp,bq,rfl,a1,br,bs⟩;refine ⟨_,rfl,?_⟩;obtain ⟨af,dl,hm⟩:=bZ hm;refine Zh (Zfh (col:=dj) 9 10 dl) ?_;rintro _ cu ⟨bt,bu,bv,bw,bx,rfl,aq,bz,b0⟩;refine ⟨_,rfl,?_⟩;replace br:=br.gr aq;replace bs:=bs.gr aq;have dm:=Xp.join (Xp.joinL (Tx ae.1.1) br.has) bs.has (by decide) (by decide);replace ac:=((ac.gr ba).gr a1).gr aq;replace ac:=ac.recol 8 7 (by decide);replace ad:=((ad.gr ba).gr a1).gr aq;replace ad:=ad.recol 8 7 (by decide);replace ak:=(ak.gr a1).gr aq;replace ak:=ak.recol 8 7 (by decide);replace bz:=bz.recol 8 7 (by decide);replace b0:=b0.recol 8 7 (by decide);replace ab:=((ab.gr ba).gr a1).gr aq;replace ab:=ab.recol 8 7 (by decide);replace aa:=((aa.grow ba).grow a1).grow aq;replace aa:=aa.recol 8 7 (by decide) (by decide);have b1:Xp (Za.pair (Za.pair Za.bool (Za.row 95 (Za.int .u32))) (Za.row 95 (Za.int .u32))) 7 (Xc 8 7 bt) cu [.bool ae.1.1,.slice bn ae.1.2.length bo,.slice bp ae.2.length bq] ((ae.1.1,ae.1.2),ae.2):=dm;have dn:=Xp.join (Xp.joinL (Tx af.1.1) bz.has) b0.has (by decide) (by decide);replace ac:=ac.recol 10 9 (by decide);replace ad:=ad.recol 10 9 (by decide);replace ak:=ak.recol 10 9 (by decide);replace ab:=ab.recol 10 9 (by decide);replace aa:=aa.recol 10 9 (by decide) (by decide);replace b1:=b1.recol 10 9 (by decide);have dp:Xp (Za.pair (Za.pair Za.bool (Za.row 95 (Za.int .u32))) (Za.row 95 (Za.int .u32))) 9 (Xc 10 9 (Xc 8 7 bt)) cu [.bool af.1.1,.slice bu af.1.2.length bv,.slice bw af.2.length bx] ((af.1.1,af.1.2),af.2):=dn;have dq:=Wb.cons (cs:=[.bool ae.1.1,.slice bn ae.1.2.length bo,.slice bp ae.2.length bq]) b1 (Wb.cons1 (cs:=[.bool af.1.1,.slice bu af.1.2.length bv,.slice bw af.2.length bx]) dp Rows.nil0) (by decide) (by decide);replace ac:=ac.recol 7 9 (by decide);replace ad:=ad.recol 7 9 (by decide)
 replace ak:=ak.recol 7 9 (by decide);replace ab:=ab.recol 7 9 (by decide);replace aa:=aa.recol 7 9 (by decide) (by decide);refine Sy (col:=(Xc 7 9 (Xc 10 9 (Xc 8 7 bt)))) (r:=(Za.pair (Za.pair Za.bool (Za.row 95 (Za.int .u32))) (Za.row 95 (Za.int .u32)))) (xs:=[((ae.1.1,ae.1.2),ae.2),((af.1.1,af.1.2),af.2)]) [(.agg #[.bool ae.1.1,.slice bn ae.1.2.length bo,.slice bp ae.2.length bq]),(.agg #[.bool af.1.1,.slice bu af.1.2.length bv,.slice bw af.2.length bx])] 9 dq ?_;intro b2 em dr a2 al;obtain ⟨ag,ds,hm⟩:=bZ hm;refine Zh (Zfh (col:=dr) 11 12 ds) ?_;rintro _ en ⟨dt,b3,b4,b5,b6,rfl,ay,b7,b8⟩;refine ⟨_,rfl,?_⟩;obtain ⟨ah,du,hm⟩:=bZ hm;refine Zh (Zfh (col:=dt) 13 14 du) ?_;rintro _ eo ⟨dv,b9,ca,cb,cc,rfl,ap,a3,a4⟩;refine ⟨_,rfl,?_⟩;obtain ⟨ai,dw,hm⟩:=bZ hm;refine Zh (Zfh (col:=dv) 15 16 dw) ?_;rintro _ ep ⟨dx,cd,ce,cf,cg,rfl,ao,ar,au⟩;refine ⟨_,rfl,?_⟩;obtain ⟨aj,dy,hm⟩:=bZ hm;refine Zh (Zfh (col:=dx) 17 18 dy) ?_;rintro _ bb ⟨a5,ch,ci,cj,ck,rfl,am,av,aw⟩;refine ⟨_,rfl,?_⟩;replace b7:=((b7.gr ap).gr ao).gr am;replace b8:=((b8.gr ap).gr ao).gr am;have dz:=Xp.join (Xp.joinL (Tx ag.1.1) b7.has) b8.has (by decide) (by decide);replace ac:=((((ac.gr a2).gr ay).gr ap).gr ao).gr am;replace ac:=ac.recol 12 11 (by decide);replace ad:=((((ad.gr a2).gr ay).gr ap).gr ao).gr am;replace ad:=ad.recol 12 11 (by decide);replace ak:=((((ak.gr a2).gr ay).gr ap).gr ao).gr am;replace ak:=ak.recol 12 11 (by decide);replace al:=(((al.gr ay).gr ap).gr ao).gr am;replace al:=al.recol 12 11 (by decide);replace a3:=(a3.gr ao).gr am;replace a3:=a3.recol 12 11 (by decide);replace a4:=(a4.gr ao).gr am;replace a4:=a4.recol 12 11 (by decide);replace ar:=ar.gr am;replace ar:=ar.recol 12 11 (by decide);replace au:=au.gr am;replace au:=au.recol 12 11 (by decide);replace av:=av.recol 12 11 (by decide);replace aw:=aw.recol 12 11 (by decide);replace ab:=((((ab.gr a2).gr ay).gr ap).gr ao).gr am;replace ab:=ab.recol 12 11 (by decide);replace aa:=((((aa.grow a2).grow ay).grow ap).grow ao).grow am;replace aa:=aa.recol 12 11 (by decide) (by decide)
 have an:Xp (Za.pair (Za.pair Za.bool (Za.row 95 (Za.int .u32))) (Za.row 95 (Za.int .u32))) 11 (Xc 12 11 a5) bb [.bool ag.1.1,.slice b3 ag.1.2.length b4,.slice b5 ag.2.length b6] ((ag.1.1,ag.1.2),ag.2):=dz;have d0:=Xp.join (Xp.joinL (Tx ah.1.1) a3.has) a4.has (by decide) (by decide);replace ac:=ac.recol 14 13 (by decide);replace ad:=ad.recol 14 13 (by decide);replace ak:=ak.recol 14 13 (by decide);replace al:=al.recol 14 13 (by decide);replace ar:=ar.recol 14 13 (by decide);replace au:=au.recol 14 13 (by decide);replace av:=av.recol 14 13 (by decide);replace aw:=aw.recol 14 13 (by decide);replace ab:=ab.recol 14 13 (by decide);replace aa:=aa.recol 14 13 (by decide) (by decide);replace an:=an.recol 14 13 (by decide);have ax:Xp (Za.pair (Za.pair Za.bool (Za.row 95 (Za.int .u32))) (Za.row 95 (Za.int .u32))) 13 (Xc 14 13 (Xc 12 11 a5)) bb [.bool ah.1.1,.slice b9 ah.1.2.length ca,.slice cb ah.2.length cc] ((ah.1.1,ah.1.2),ah.2):=d0;have d1:=Xp.join (Xp.joinL (Tx ai.1.1) ar.has) au.has (by decide) (by decide);replace ac:=ac.recol 16 15 (by decide);replace ad:=ad.recol 16 15 (by decide);replace ak:=ak.recol 16 15 (by decide);replace al:=al.recol 16 15 (by decide);replace av:=av.recol 16 15 (by decide);replace aw:=aw.recol 16 15 (by decide);replace ab:=ab.recol 16 15 (by decide);replace aa:=aa.recol 16 15 (by decide) (by decide);replace an:=an.recol 16 15 (by decide);replace ax:=ax.recol 16 15 (by decide);have cl:Xp (Za.pair (Za.pair Za.bool (Za.row 95 (Za.int .u32))) (Za.row 95 (Za.int .u32))) 15 (Xc 16 15 (Xc 14 13 (Xc 12 11 a5))) bb [.bool ai.1.1,.slice cd ai.1.2.length ce,.slice cf ai.2.length cg] ((ai.1.1,ai.1.2),ai.2):=d1;have d2:=Xp.join (Xp.joinL (Tx aj.1.1) av.has) aw.has (by decide) (by decide);replace ac:=ac.recol 18 17 (by decide);replace ad:=ad.recol 18 17 (by decide);replace ak:=ak.recol 18 17 (by decide);replace al:=al.recol 18 17 (by decide);replace ab:=ab.recol 18 17 (by decide);replace aa:=aa.recol 18 17 (by decide) (by decide);replace an:=an.recol 18 17 (by decide);replace ax:=ax.recol 18 17 (by decide);replace cl:=cl.recol 18 17 (by decide);have d3:Xp (Za.pair (Za.pair Za.bool (Za.row 95 (Za.int .u32))) (Za.row 95 (Za.int .u32))) 17 (Xc 18 17 (Xc 16 15 (Xc 14 13 (Xc 12 11 a5)))) bb [.bool aj.1.1,.slice ch aj.1.2.length ci,.slice cj aj.2.length ck] ((aj.1.1,aj.1.2),aj.2):=d2
 have d4:=Wb.cons (cs:=[.bool ai.1.1,.slice cd ai.1.2.length ce,.slice cf ai.2.length cg]) cl (Wb.cons1 (cs:=[.bool aj.1.1,.slice ch aj.1.2.length ci,.slice cj aj.2.length ck]) d3 Rows.nil0) (by decide) (by decide);replace an:=an.recol 15 17 (by decide);replace ax:=ax.recol 15 17 (by decide);replace ac:=ac.recol 15 17 (by decide);replace ad:=ad.recol 15 17 (by decide);replace ak:=ak.recol 15 17 (by decide);replace al:=al.recol 15 17 (by decide);replace ab:=ab.recol 15 17 (by decide);replace aa:=aa.recol 15 17 (by decide) (by decide);have d5:=Wb.cons (cs:=[.bool ah.1.1,.slice b9 ah.1.2.length ca,.slice cb ah.2.length cc]) ax d4 (by decide) (by decide);replace an:=an.recol 13 17 (by decide);replace ac:=ac.recol 13 17 (by decide);replace ad:=ad.recol 13 17 (by decide);replace ak:=ak.recol 13 17 (by decide);replace al:=al.recol 13 17 (by decide);replace ab:=ab.recol 13 17 (by decide);replace aa:=aa.recol 13 17 (by decide) (by decide);have d6:=Wb.cons (cs:=[.bool ag.1.1,.slice b3 ag.1.2.length b4,.slice b5 ag.2.length b6]) an d5 (by decide) (by decide);replace ac:=ac.recol 11 17 (by decide);replace ad:=ad.recol 11 17 (by decide);replace ak:=ak.recol 11 17 (by decide);replace al:=al.recol 11 17 (by decide);replace ab:=ab.recol 11 17 (by decide);replace aa:=aa.recol 11 17 (by decide) (by decide);refine Sy (col:=(Xc 11 17 (Xc 13 17 (Xc 15 17 (Xc 18 17 (Xc 16 15 (Xc 14 13 (Xc 12 11 a5)))))))) (r:=(Za.pair (Za.pair Za.bool (Za.row 95 (Za.int .u32))) (Za.row 95 (Za.int .u32)))) (xs:=[((ag.1.1,ag.1.2),ag.2),((ah.1.1,ah.1.2),ah.2),((ai.1.1,ai.1.2),ai.2),((aj.1.1,aj.1.2),aj.2)]) [(.agg #[.bool ag.1.1,.slice b3 ag.1.2.length b4,.slice b5 ag.2.length b6]),(.agg #[.bool ah.1.1,.slice b9 ah.1.2.length ca,.slice cb ah.2.length cc]),(.agg #[.bool ai.1.1,.slice cd ai.1.2.length ce,.slice cf ai.2.length cg]),(.agg #[.bool aj.1.1,.slice ch aj.1.2.length ci,.slice cj aj.2.length ck])] 17 d6 ?_;intro cn cv co az d7;replace al:=al.gr az;have d8:Xp (Za.row 39 (Za.pair (Za.pair Za.bool (Za.row 95 (Za.int .u32))) (Za.row 95 (Za.int .u32)))) 9 co cv [.slice b2 ([((ae.1.1,ae.1.2),ae.2),((af.1.1,af.1.2),af.2)].length) 2] [((ae.1.1,ae.1.2),ae.2),((af.1.1,af.1.2),af.2)]:=al.has
 have d9:Xp (Za.row 39 (Za.pair (Za.pair Za.bool (Za.row 95 (Za.int .u32))) (Za.row 95 (Za.int .u32)))) 17 co cv [.slice cn ([((ag.1.1,ag.1.2),ag.2),((ah.1.1,ah.1.2),ah.2),((ai.1.1,ai.1.2),ai.2),((aj.1.1,aj.1.2),aj.2)].length) 4] [((ag.1.1,ag.1.2),ag.2),((ah.1.1,ah.1.2),ah.2),((ai.1.1,ai.1.2),ai.2),((aj.1.1,aj.1.2),aj.2)]:=d7.has;have ea:=Wb.cons (cs:=[.slice b2 ([((ae.1.1,ae.1.2),ae.2),((af.1.1,af.1.2),af.2)].length) 2]) d8 (Wb.cons1 (cs:=[.slice cn ([((ag.1.1,ag.1.2),ag.2),((ah.1.1,ah.1.2),ah.2),((ai.1.1,ai.1.2),ai.2),((aj.1.1,aj.1.2),aj.2)].length) 4]) d9 Rows.nil0) (by decide) (by decide);replace ac:=ac.gr az;replace ac:=ac.recol 9 17 (by decide);replace ad:=ad.gr az;replace ad:=ad.recol 9 17 (by decide);replace ak:=ak.gr az;replace ak:=ak.recol 9 17 (by decide);replace ab:=ab.gr az;replace ab:=ab.recol 9 17 (by decide);replace aa:=aa.grow az;replace aa:=aa.recol 9 17 (by decide) (by decide);refine Sy (col:=(Xc 9 17 co)) (r:=(Za.row 39 (Za.pair (Za.pair Za.bool (Za.row 95 (Za.int .u32))) (Za.row 95 (Za.int .u32))))) (xs:=[[((ae.1.1,ae.1.2),ae.2),((af.1.1,af.1.2),af.2)],[((ag.1.1,ag.1.2),ag.2),((ah.1.1,ah.1.2),ah.2),((ai.1.1,ai.1.2),ai.2),((aj.1.1,aj.1.2),aj.2)]]) [.slice b2 ([((ae.1.1,ae.1.2),ae.2),((af.1.1,af.1.2),af.2)].length) 2,.slice cn ([((ag.1.1,ag.1.2),ag.2),((ah.1.1,ah.1.2),ah.2),((ai.1.1,ai.1.2),ai.2),((aj.1.1,aj.1.2),aj.2)].length) 4] 17 ea ?_;intro eb eq er a6 cp;refine lV (.agg #[.string (⟨#[114,97,105,110]⟩),.slice cy (([⟨#[114,97,105,110]⟩,⟨#[103,114,97,115,115]⟩]:List ByteArray).length) 2,.slice c9 (([([⟨#[110,111]⟩,⟨#[121,101,115]⟩]:List ByteArray),([⟨#[100,114,121]⟩,⟨#[119,101,116]⟩]:List ByteArray)]:List R4).length) 2,.slice dg ([([]:List Int),[0]].length) 2,.slice eb ([[((ae.1.1,ae.1.2),ae.2),((af.1.1,af.1.2),af.2)],[((ag.1.1,ag.1.2),ag.2),((ah.1.1,ah.1.2),ah.2),((ai.1.1,ai.1.2),ai.2),((aj.1.1,aj.1.2),aj.2)]].length) 2]) (Yo (l:=[_,_,_,_,_]) (qs:=[(0,1),(1,1),(2,1),(3,1),(4,1)]) underlying27 zeroValue27 ⟨rfl,sizeOf9,rfl,sizeOf22,rfl,sizeOf23,rfl,sizeOf24,rfl,sizeOf25,trivial⟩ rfl) ?_;replace ab:=ab.gr a6;refine Zw ab ?_;intro es a7 ec ed;refine go ?_;cases hm;replace ac:=(ac.gr a6).kp a7;replace ad:=(ad.gr a6).kp a7;replace ak:=(ak.gr a6).kp a7;replace aa:=(aa.grow a6).kp a7 ec
 replace cp:=cp.kp a7;exact ⟨rfl,_,ra ed.atN,_,_,2,_,2,_,2,_,2,rfl,aa.fin (cm [(2,c1),(4,c2),(6,c3),(17,c4)]),aa.fo ac,aa.fo ad,aa.fo ak,aa.fo cp⟩
def Zjs (N:Nat):Nat→R2→Int→Int→Option R2
  | 0,_,_,_=>none
  | ae+1,ab,ac,aa=>if (decide (ac<aa))=true then ((Zp ab aa).bind fun af=>(Zp ab ac).bind fun ag=>(some (ab.set (Int.toNat ac) af)).bind fun ad=>(Zp ad aa).bind fun ai=>(some (ad.set (Int.toNat aa) ag)).bind fun ah=>(Zjs N ae) ah (i64.wrap (ac+1)) (i64.wrap (aa - 1))) else (some ab)
termination_by structural x=>x
def Zo1 (N:Nat) (aa:List Int):Option R2:=
  Zjs N N aa 0 (i64.wrap ((aa.length:Int) - 1))
theorem Z0i {N aa:Nat} {a0:Option Addr} {col:Ze} {w0:World} {af r:R2} (qc0:Nat) (hm:Zo1 N af=some r) (hd:Qj [qc0]=true) (h0:Zc (Za.int .u8) 5 qc0 col w0 a0 aa af):
    Calls prog 185 #[.slice a0 af.length aa] w0 (fun e w'=>∃ (col':Ze),e= .returned (.tuple #[])∧Zt (pS [qc0]) col w0 col' w'∧Zc (Za.int .u8) 5 qc0 col' w' a0 aa r∧r.length=af.length):=by
 refine Zfi (m:=28) (args:=[.slice a0 af.length aa]) func185 rfl rfl rfl rfl ?_;rw [Zo1.eq_1] at hm;have ab:=St.startL (l:=[qc0]) rfl col w0;replace h0:=h0.startL (Za6 hd 0 rfl) (Za5 hd 0 rfl);refine go ?_;refine Z9 [1000000] (fun n f au=>∃ ac ad an ao ai,ai=n∧Zjs N ai ad an ao=some r∧St w0 (Xw [qc0] col) ac au∧Zc (Za.int .u8) 5 440 ac au a0 aa ad∧ad.length=af.length∧ad.length=af.length∧[0,2,3].map f=[.slice a0 ad.length aa,.int .i64 an,.int .i64 ao]) N ⟨_,_,0,_,_,rfl,hm,ab,h0,rfl,rfl,rfl⟩ ?_;clear hm;intro n f au hI;obtain ⟨ac,ad,an,ao,ai,hn,hm,ab,ag,ay,az,hs⟩:=hI;subst hn;refine .lL [0,2,3] hs ?_
 cases ai with
 | zero=>rw [Zjs.eq_1] at hm;cases hm
 | succ ai=>
  rw [Zjs.eq_2] at hm;refine go ?_;refine Zq hm (fun hb hm=>go ?_) fun hb hm=>go ?_
  ·refine Wi (col:=ac) [(0,1),(1,1),(2,1),(3,1),(4,1),(5,1),(6,1),(7,0),(8,1),(9,1),(10,1),(11,0),(12,1),(13,2),(14,1),(15,2)] (by kernel_rfl) (by kernel_rfl)<|xu rfl rfl (fun _=>Vu rfl) ?_;refine xu rfl rfl (fun _=>W1 rfl) ?_;refine xu rfl rfl (fun _=>Vu rfl) ?_;refine xu rfl rfl (fun _=>W1 rfl) ?_;refine xu rfl rfl (fun _=>Vu rfl) ?_;refine xu rfl rfl (fun _=>W1 rfl) ?_;obtain ⟨av,ap,hm⟩:=bZ hm;refine xu rfl rfl (fun _=>We underlying164 sizeOf5 rfl rfl (Xl ap).1 (Xl ap).2.1 (ag.addr ap)) ?_;refine xW (fun _ hC=>(ag.gr (hC.bl ac)).atInt ap) ?_;refine xu rfl rfl (fun _=>Vu rfl) ?_;refine xu rfl rfl (fun _=>W1 rfl) ?_;obtain ⟨aw,ah,hm⟩:=bZ hm;refine xu rfl rfl (fun _=>We underlying164 sizeOf5 rfl rfl (Xl ah).1 (Xl ah).2.1 (ag.addr ah)) ?_;refine xW (fun _ hC=>(ag.gr (hC.bl ac)).atInt ah) ?_;refine xu rfl rfl (fun _=>We underlying164 sizeOf5 rfl rfl (Xl ah).1 (Xl ah).2.1 (ag.addr ah)) ?_;refine xe rfl rfl ?_;intro a6 hC0;have hC:=hC0.bl ac;obtain ⟨ae,aj,hm⟩:=bZ hm;have aj:ae=ad.set (Int.toNat an) av:=(Option.some.inj aj).symm;replace ag:=ag.gr hC;refine Y7 (x1:=av) ag ah ?_;intro a7 a1 a2 ak;rw [← aj] at ak;have a3:ae.length=af.length:=(show ad.length=ae.length by rw [aj,nS]).symm.trans ay;refine .ld (d:=0) (v:=(.slice a0 ae.length aa)) (congrArg (fun n=>Value.slice a0 n aa) (show ad.length=ae.length by rw [aj,nS])) ?_;refine .ld (d:=16) (v:=(.slice a0 ae.length aa)) (congrArg (fun n=>Value.slice a0 n aa) (show ad.length=ae.length by rw [aj,nS])) ?_;refine Zm<|xk ac ?_;obtain ⟨a8,aq,hm⟩:=bZ hm;refine xu rfl rfl (fun _=>We underlying164 sizeOf5 rfl rfl (Xl aq).1 (Xl aq).2.1 (ak.addr aq)) ?_;refine xe rfl rfl ?_;intro a9 hC0;replace ab:=(ab.grow hC).kp a1 a2;have hC:=hC0.bl ac;obtain ⟨al,am,hm⟩:=bZ hm;have am:al=ae.set (Int.toNat ao) aw:=(Option.some.inj am).symm;replace ak:=ak.gr hC;refine Y7 (x1:=aw) ak aq ?_;intro ba a4 a5 ar;rw [← am] at ar;have ax:al.length=af.length:=(show ae.length=al.length by rw [am,nS]).symm.trans a3;refine .ld (d:=0) (v:=(.slice a0 al.length aa)) (congrArg (fun n=>Value.slice a0 n aa) (show ae.length=al.length by rw [am,nS])) ?_;refine Zm<|xk ac<|Wf ?_;replace ab:=(ab.grow hC).kp a4 a5;intro bb hC;replace hC:=hC.bl ac;refine go ?_;replace ar:=ar.gr hC;replace ab:=ab.grow hC
   exact ⟨ai,by omega,rfl,⟨_,_,_,_,_,rfl,hm,ab,ar,ax,ax,rfl⟩⟩
  cases hm;exact ⟨rfl,_,rfl,ab.finL rfl (cm [(440,qc0)]),ab.foL ag,az⟩
def Zoy (ab:List Int) (aa:Int) (ac:Int) (kk_L2:(List Int→Int→Int→Option ByteArray)):Option ByteArray:=
  Z3 ((ab.length+[u8.wrap (48+(u8.wrap (Int.tmod aa 10)))].length) * 1≤140737488355328∧ab.length+[u8.wrap (48+(u8.wrap (Int.tmod aa 10)))].length≤maxLen) (kk_L2 (ab++[u8.wrap (48+(u8.wrap (Int.tmod aa 10)))]) (u32.wrap (Int.tdiv aa 10)) (i64.wrap (ac+1)))
def Zi3 (kk_L1:(List Int→R2→Option ByteArray)) (ab:List Int) (aa:List Int) (ac:Int) (ad:Int) (kk_L2:(List Int→Int→Int→Option ByteArray)) (ae:Bool):Option ByteArray:=
  if ae=true then (Zoy aa ac ad kk_L2) else (kk_L1 ab aa)
def Zbn (N:Nat) (kk_L1:(List Int→R2→Option ByteArray)) (aa:List Int):Nat→R2→Int→Int→Option ByteArray
  | 0,_,_,_=>none
  | ad+1,ae,ab,ac=>if (decide (ac<9))=true then (if (decide (0<(aa.length:Int)))=true then (Zi3 kk_L1 aa ae ab ac (Zbn N kk_L1 aa ad) true) else (Zi3 kk_L1 aa ae ab ac (Zbn N kk_L1 aa ad) (decide (0<ab)))) else (Zi3 kk_L1 aa ae ab ac (Zbn N kk_L1 aa ad) false)
termination_by structural x=>x
def Zbm (N:Nat):Nat→R2→R2→Option ByteArray
  | 0,_,_=>none
  | ad+1,aa,ab=>if (decide (0<(aa.length:Int)))=true then ((Zg1 N aa 1000000000).bind fun ac=>(Zc3 N ac.2).bind fun ae=>Zbn N (Zbm N ad) ae N ab ac.1 0) else ((Zo1 N ab).bind fun af=>some (Yl af))
termination_by structural x=>x
def Zi2 (N:Nat) (ab:List Int):Option ByteArray:=
  (Ud N ab).bind fun aa=>if (decide ((aa.length:Int)=0))=true then (some (⟨#[48]⟩)) else (Zbm N N aa ([]:List Int))
theorem Znv {N bc:Nat} {a0:Option Addr} {col:Ze} {w0:World} {a6:R2} {r:ByteArray} (hm:Zi2 N a6=some r) (h0:Sl (Za.int .u32) col w0 a0 bc a6):
    Calls prog 135 #[.slice a0 a6.length bc] w0 (fun e w'=>e= .returned ((.string r))∧Below w0.heap.size w0 w'):=by
 refine Xm 2 (m:=45) func135 rfl rfl rfl rfl rfl ?_;rw [Zi2.eq_1] at hm;have aa:=St.start col w0;refine go ?_;obtain ⟨bw,bi,hm⟩:=bZ hm;replace h0:=h0.keep (Zl.start col w0);refine Zh (Tc 1 bi (h0.ks aa)) ?_;rintro _ bx ⟨bz,b0,b1,rfl,bj,bk⟩;refine ⟨_,rfl,go ?_⟩;replace aa:=aa.grow bj;refine Zq hm (fun hb hm=>go ?_) fun hb hm=>go ?_
 ·cases hm;exact ⟨rfl,rfl,aa.below⟩
 refine Z9 [1000000] (fun n f av=>∃ aw ah ai am aj ak an ad,ad=n∧Zbm N ad am an=some r∧St w0 (Zk col) aw av∧Zc (Za.int .u32) 95 1 aw av ah ai am∧Zc (Za.int .u8) 5 2 aw av aj ak an∧[3,4].map f=[.slice ah am.length ai,.slice aj an.length ak]) N ⟨_,_,_,_,none,0,_,_,rfl,hm,aa,bk,Zc.nil,rfl⟩ ?_;clear hm;intro n f av hI;obtain ⟨aw,ah,ai,am,aj,ak,an,ad,hn,hm,aa,bm,ax,hs⟩:=hI;subst hn;refine .lL [3,4] hs ?_
 cases ad with
 | zero=>rw [Zbm.eq_1] at hm;cases hm
 | succ ad=>
  rw [Zbm.eq_2] at hm;refine go ?_;refine Zq hm (fun hb hm=>go ?_) fun hb hm=>go ?_
  ·obtain ⟨ay,bn,hm⟩:=bZ hm;refine Zh (Zrh 1 bn rfl bm) ?_;rintro _ b2 ⟨b3,rfl,bd,bo,be⟩;refine ⟨_,rfl,?_⟩;refine .ld (d:=3) (v:=(.slice ah ay.2.length ai)) (congrArg (fun n=>Value.slice ah n ai) (show am.length=ay.2.length from be.symm)) ?_;refine .ld (d:=15) (v:=(.slice ah ay.2.length ai)) (congrArg (fun n=>Value.slice ah n ai) (show am.length=ay.2.length from be.symm)) ?_;refine go ?_;obtain ⟨al,bp,hm⟩:=bZ hm;refine Zh (Znx 1 bp rfl bo) ?_;rintro _ b4 ⟨b5,a7,a8,rfl,bf,ab⟩;refine ⟨_,rfl,go ?_⟩;replace ax:=(ax.kpp bd).kpp bf;replace aa:=(aa.kpp bd).kpp bf;refine Z9 [3,1000000] (fun n f az=>∃ a1 ao ap af ac aq ag,ag=n∧Zbn N (Zbm N ad) al ag af ac aq=some r∧St w0 (Zk col) a1 az∧Zc (Za.int .u32) 95 1 a1 az a7 a8 al∧Zc (Za.int .u8) 5 2 a1 az ao ap af∧[4,5,6].map f=[.slice ao af.length ap,.int .u32 ac,.int .i64 aq]) N ⟨_,_,_,_,_,0,_,rfl,hm,aa,ab,ax,rfl⟩ ?_;clear hm;intro n f az hI;obtain ⟨a1,ao,ap,af,ac,aq,ag,hn,hm,aa,ab,ae,hs⟩:=hI;subst hn;refine .lL [4,5,6] hs ?_
   cases ag with
   | zero=>rw [Zbn.eq_1] at hm;cases hm
   | succ ag=>
    rw [Zbn.eq_2] at hm;refine Zv ?_;refine Wp.cutK [3,4,5,6,1000000] (fun f a2=>∃ ar,Zoy af ac aq (Zbn N (Zbm N ad) al ag)=some r∧St w0 (Zk col) ar a2∧Zc (Za.int .u32) 95 1 ar a2 a7 a8 al∧Zc (Za.int .u8) 5 2 ar a2 ao ap af) ?_ ?_
    ·intro f a2 hJ;obtain ⟨ar,hm,aa,ab,ae⟩:=hJ;rw [Zoy.eq_1] at hm;refine go ?_;refine lV (.int .u32 (Int.tmod ac 10)) (Ti ac 10 rfl rfl (by decide))<|go ?_;refine W8 (col:=ar) [u8.wrap (48+(u8.wrap (Int.tmod ac 10)))] 3 ?_;intro b6 b7 b8 a9 bq;obtain ⟨br,hm⟩:=Z6 hm;replace ae:=ae.gr a9;refine U3 ae (bq.srcN (NB.int (k:=.u8))) br ?_;intro b9 ca cb cc bg bs;refine go ?_;refine lV (.int .u32 (u32.wrap (Int.tdiv ac 10))) (Vf ac 10 rfl rfl (by decide))<|go ?_;replace ab:=(ab.gr a9).kpp bg;replace aa:=(aa.grow a9).kpp bg;exact ⟨ag,by omega,rfl,⟨_,_,_,_,_,_,_,rfl,hm,aa,ab,bs,rfl⟩⟩
    refine Zv ?_;refine Wp.cutK [3,4,5,6,1000000] (fun f a3=>∃ a4 ba,Zi3 (Zbm N ad) al af ac aq (Zbn N (Zbm N ad) al ag) ba=some r∧St w0 (Zk col) a4 a3∧Zc (Za.int .u32) 95 1 a4 a3 a7 a8 al∧Zc (Za.int .u8) 5 2 a4 a3 ao ap af∧[29].map f=[.bool ba]) ?_ ?_
    ·intro f a3 hJ;obtain ⟨a4,ba,hm,aa,ab,ae,hs⟩:=hJ;rw [Zi3.eq_1] at hm;refine .lL [29] hs ?_;refine Zq hm (fun hb hm=>?_) fun hb hm=>go ?_
     ·refine X3 ?_;exact ⟨rfl,_,hm,aa,ab,ae⟩
     exact ⟨ad,by omega,rfl,⟨_,_,_,_,_,_,_,_,rfl,hm,aa,ab,ae,rfl⟩⟩
    refine go ?_;refine X8 hm (fun a5 hm=>go ?_) fun a5 hm=>go ?_
    ·refine X8 hm (fun bb hm=>go ?_) fun bb hm=>go ?_
     ·refine lV (.bool true) (Xr (congrArg Value.bool bb) rfl)<|lV (.bool true) (Xr (congrArg Value.bool a5) rfl)<|Zm ?_;exact ⟨rfl,_,_,hm,aa,ab,ae,rfl⟩
     refine lV (.bool (decide (0<ac))) (Xh (congrArg Value.bool bb) rfl)<|lV (.bool (decide (0<ac))) (Xr (congrArg Value.bool a5) rfl)<|Zm ?_;exact ⟨rfl,_,_,hm,aa,ab,ae,rfl⟩
    refine Zfu 25 rfl rfl rfl rfl<|Zfu 25 rfl rfl rfl rfl<|go ?_;refine lV (.bool false) (Xh (congrArg Value.bool a5) rfl)<|Zm ?_;exact ⟨rfl,_,_,hm,aa,ab,ae,rfl⟩
  obtain ⟨au,bt,hm⟩:=bZ hm;refine Zh (Z0i 2 bt rfl ax) ?_;rintro _ cd ⟨ce,rfl,bu,bv,bh⟩;refine ⟨_,rfl,?_⟩;refine .ld (d:=4) (v:=(.slice aj au.length ak)) (congrArg (fun n=>Value.slice aj n ak) (show an.length=au.length from bh.symm)) ?_;refine .ld (d:=41) (v:=(.slice aj au.length ak)) (congrArg (fun n=>Value.slice aj n ak) (show an.length=au.length from bh.symm)) ?_;refine go ?_;refine lV (.string (Yl au)) (Zwj (c:=1) (c2:=1) (bv.srcN NB.int) underlying164 underlying5 underlying9 rfl)<|go ?_;cases hm;replace aa:=aa.kpp bu;exact ⟨rfl,rfl,aa.below⟩
def Zo2 (N:Nat) (aa:R3):Option ByteArray:=
  (Sf N (aa.1,aa.2)).bind fun ac=>if (decide (ac<0))=true then ((Zi2 N aa.2).bind fun ab=>Z3 ((⟨#[45]⟩:ByteArray).size+ab.size≤maxLen) (some ((⟨#[45]⟩)++ab))) else ((Zi2 N aa.2).bind fun ad=>some ad)
theorem Z0p {N aj:Nat} {ak:Option Addr} {col:Ze} {w0:World} {ae:R3} {r:ByteArray} (hm:Zo2 N ae=some r) (ac:Sl (Za.int .u32) col w0 ak aj ae.2):
    Calls prog 132 #[(.agg #[.bool ae.1,.slice ak ae.2.length aj])] w0 (fun e w'=>e= .returned ((.string r))∧Below w0.heap.size w0 w'):=by
 refine Xm 2 (m:=13) func132 rfl rfl rfl rfl rfl ?_;rw [Zo2.eq_1] at hm;have aa:=St.start col w0;refine go ?_;refine Xv (col:=(Zk col)) 1 rfl ?_;intro aw al ab am ad;refine go ?_;refine lV _ (Xb isAgg37 sizeOf37 ad) ?_;obtain ⟨ax,an,hm⟩:=bZ hm;replace ac:=ac.keep (Zl.start col w0);replace aa:=aa.grow am;refine Zh (Zdt an (ac.ks aa)) ?_;rintro _ ag ⟨rfl,af⟩;refine ⟨_,rfl,?_⟩;replace af:Zf ab al ab ag:=.of_below af;refine go ?_;replace ad:=ad.gr af;replace aa:=aa.grow af;refine Zq hm (fun hb hm=>go ?_) fun hb hm=>go ?_
 ·refine Xz ad ?_;obtain ⟨ao,ap,hm⟩:=bZ hm;refine Zh (Znv ap (ac.ks aa)) ?_;rintro _ aq ⟨rfl,ah⟩;refine ⟨_,rfl,?_⟩;replace ah:Zf ab ag ab aq:=.of_below ah;obtain ⟨ar,hm⟩:=Z6 hm;refine lV (.string ((⟨#[45]⟩)++ao)) (Zpq underlying9 rfl rfl ar)<|go ?_;cases hm;replace aa:=aa.grow ah;exact ⟨rfl,rfl,aa.below⟩
 refine Xz ad ?_;obtain ⟨ay,au,hm⟩:=bZ hm;refine Zh (Znv au (ac.ks aa)) ?_;rintro _ av ⟨rfl,ai⟩;refine ⟨_,rfl,?_⟩;replace ai:Zf ab ag ab av:=.of_below ai;refine go ?_;cases hm;replace aa:=aa.grow ai;exact ⟨rfl,rfl,aa.below⟩
def Zlh (aa:ByteArray):Option ByteArray:=
  some aa
def Zlg (N:Nat) (aa:R1):Option ByteArray:=
  (V5 N ((aa.1.1,aa.1.2),aa.2)).bind fun ae=>(Zah N aa.1.1 aa.1.2 ae).bind fun ab=>(Zo2 N (ab.1.1,ab.1.2)).bind fun ac=>(Zar N 1).bind fun af=>(Zcw N ab.2 af).bind fun ag=>if (!decide (ag=0))=true then ((Zi2 N ab.2).bind fun ad=>Z3 ((⟨#[47]⟩:ByteArray).size+ad.size≤maxLen) (Z3 (ac.size+((⟨#[47]⟩)++ad).size≤maxLen) (Zlh (ac++((⟨#[47]⟩)++ad))))) else (Zlh ac)
theorem Zrc {N ay az:Nat} {a0 a1:Option Addr} {col:Ze} {w0:World} {ai:R1} {r:ByteArray} (hm:Zlg N ai=some r) (an:Sl (Za.int .u32) col w0 a0 ay ai.1.2) (ap:Sl (Za.int .u32) col w0 a1 az ai.2):
    Calls prog 54 #[(.agg #[.bool ai.1.1,.slice a0 ai.1.2.length ay,.slice a1 ai.2.length az])] w0 (fun e w'=>e= .returned ((.string r))∧Below w0.heap.size w0 w'):=by
 refine Xm 2 (m:=28) func54 rfl rfl rfl rfl rfl ?_;rw [Zlg.eq_1] at hm;have aa:=St.start col w0;refine go ?_;refine Xv (col:=(Zk col)) 1 rfl ?_;intro bs bt al a6 ad;refine go ?_;refine Wi (col:=al) [(0,1),(1,1),(2,0),(3,1),(4,1),(5,0),(6,0),(7,3),(8,3),(9,2)] (by kernel_rfl) (by kernel_rfl)<|xF ⟨_,_,rfl⟩ ?_;refine xF (Tz ⟨_,_,rfl⟩) ?_;refine xW (fun _ hC=>((((ad.atN).part 0 2 _ rfl)).nth (q:=0) rfl).gr (hC.bl al)) ?_;refine xF ⟨_,_,rfl⟩ ?_;refine xF (Tz ⟨_,_,rfl⟩) ?_;refine xW (fun _ hC=>((((ad.atN).part 0 2 _ rfl)).nth (q:=1) rfl).gr (hC.bl al)) ?_;refine xv rfl rfl (fun _ hC=>Xb isAgg39 sizeOf39 (ad.gr (hC.bl al))) ?_;refine xe rfl rfl ?_;intro bu hC0;have hC:=hC0.bl al;obtain ⟨bv,a7,hm⟩:=bZ hm;replace an:=an.keep (Zl.start col w0);replace ap:=ap.keep (Zl.start col w0);replace aa:=(aa.grow a6).grow hC;refine Zh (Tb 2 a7 (an.ks aa) (ap.ks aa)) ?_;rintro _ bw ⟨aj,bx,bz,rfl,aq,ar⟩;refine ⟨_,rfl,?_⟩;refine Zm<|X4 aj hC0 aq<|xe rfl rfl ?_;intro a8 hC0;replace ad:=(ad.gr hC).gr aq;have hC:=hC0.bl aj;obtain ⟨a2,a9,hm⟩:=bZ hm;replace aa:=(aa.grow aq).grow hC;replace ar:=ar.gr hC;refine Zh (Zfe 3 4 a9 ((an.ks aa).froz 2) (ar.toSlF (Zg.int .u32))) ?_;rintro _ b0 ⟨ba,bb,bc,b1,b2,rfl,ag,ah,ab⟩;refine ⟨_,rfl,?_⟩;replace ah:=ah.thaw (Zy .u32) ag ((Fz.refl (col:=aj)).froz 2) (by decide);replace ab:=ab.thaw (Zy .u32) ag ((Fz.refl (col:=aj)).froz 2) (by decide);replace ag:=ag.thawR (col:=aj);generalize Z7 a8.heap.size aj ba=ae at *;refine Zm<|X4 ae hC0 ag<|xe rfl rfl ?_;intro b3 hC0;replace ad:=(ad.gr hC).gr ag;have hC:=hC0.bl ae;replace ad:=ad.gr hC;refine Zw ad ?_;intro b4 au bd ac;refine Zm<|xk ae<|Wf ?_;replace aa:=((aa.grow ag).grow hC).kp au bd;replace ah:=(ah.gr hC).kp au;replace ab:=(ab.gr hC).kp au;intro be hC;replace hC:=hC.bl ae;refine go ?_;refine Xx ⟨_,_,rfl⟩ ?_;replace ac:=ac.gr hC;refine lV (.agg #[.bool a2.1.1,.slice bb a2.1.2.length bc]) (Xt isAgg37 sizeOf37 rfl rfl ((ac.atN).part 0 2 _ rfl)) ?_;obtain ⟨bf,bg,hm⟩:=bZ hm;replace ah:=ah.gr hC;refine Zh (Z0p bg (ah.toSlF (Zg.int .u32))) ?_;rintro _ bh ⟨rfl,am⟩;refine ⟨_,rfl,?_⟩;replace am:Zf ae be ae bh:=.of_below am;refine lAT rfl<|Zm<|Zv ?_
 replace ab:=(ab.gr hC).gr am;replace aa:=(aa.grow hC).grow am;replace ac:=ac.gr am;refine Wp.cutK [1000000] (fun f a3=>∃ a4 av,Zlh av=some r∧St w0 (Zk col) a4 a3∧[3].map f=[.string av]) ?_ ?_
 ·intro f a3 hJ;obtain ⟨a4,av,hm,aa,hs⟩:=hJ;rw [Zlh.eq_1] at hm;refine .lL [3] hs<|go ?_;cases hm;exact ⟨rfl,rfl,aa.below⟩
 refine Zv<|Wi (col:=ae) [(0,1),(1,0),(2,3),(3,3),(4,1)] (by kernel_rfl) (by kernel_rfl)<|xF ⟨_,_,rfl⟩ ?_;refine xW (fun _ hC=>((ac.atN).nth (q:=2) rfl).gr (hC.bl ae)) ?_;refine xe rfl rfl ?_;intro b5 hC0;have hC:=hC0.bl ae;obtain ⟨b6,bi,hm⟩:=bZ hm;refine Zh (Zfg (col:=ae) 5 bi) ?_;rintro _ b7 ⟨af,b8,b9,rfl,ao,aw⟩;refine ⟨_,rfl,?_⟩;refine Zm<|X4 af hC0 ao<|xe rfl rfl ?_;intro bj hC0;replace ab:=(ab.gr hC).gr ao;replace ac:=(ac.gr hC).gr ao;replace aa:=(aa.grow hC).grow ao;have hC:=hC0.bl af;obtain ⟨ca,bk,hm⟩:=bZ hm;replace ab:=ab.gr hC;replace aw:=aw.gr hC;refine Zh (Zkv bk ((ab.toSlF (Zg.int .u32)).froz 5) ((aw.froz 4 (by decide)).toSlF (Zg.int .u32))) ?_;rintro _ bm ⟨rfl,ak⟩;refine ⟨_,rfl,?_⟩;replace ak:Zf af bj af bm:=.of_below ak;refine Zm<|X4 af hC0 ak<|xu rfl rfl (fun _=>Zpz _ _ rfl rfl) ?_;refine Wf ?_;replace ac:=(ac.gr hC).gr ak;replace aa:=(aa.grow hC).grow ak;intro bn hC;replace hC:=hC.bl af;replace ab:=(ab.gr ak).gr hC;replace ac:=ac.gr hC;replace aa:=aa.grow hC;refine Zq hm (fun hb hm=>go ?_) fun hb hm=>?_
 ·refine Xz ac ?_;obtain ⟨a5,bo,hm⟩:=bZ hm;refine Zh (Znv bo (ab.toSlF (Zg.int .u32))) ?_;rintro _ bp ⟨rfl,ax⟩;refine ⟨_,rfl,?_⟩;replace ax:Zf af bn af bp:=.of_below ax;obtain ⟨bq,hm⟩:=Z6 hm;refine lV (.string ((⟨#[47]⟩)++a5)) (Zpq underlying9 rfl rfl bq) ?_;obtain ⟨br,hm⟩:=Z6 hm;refine lV (.string (bf++((⟨#[47]⟩)++a5))) (Zpq underlying9 rfl rfl br)<|go ?_;replace aa:=aa.grow ax;exact ⟨rfl,_,_,hm,aa,rfl⟩
 refine X3 ?_;exact ⟨rfl,_,_,hm,aa,rfl⟩
def Zal (aa:Bool):Option Bool:=
  some aa
def Zov (N:Nat):Option Bool:=
  (Zoz N).bind fun aa=>(Q9 N (aa.1,aa.2.1,aa.2.2.1,aa.2.2.2.1,aa.2.2.2.2) [0,1]).bind fun ad=>(Zcb N (aa.1,aa.2.1,aa.2.2.1,aa.2.2.2.1,aa.2.2.2.2) (⟨#[49,49,49,48]⟩)).bind fun ac=>(Zcd N (aa.1,aa.2.1,aa.2.2.1,aa.2.2.2.1,aa.2.2.2.2) [1,0]).bind fun ab=>if (decide (ad.2=0))=true then (if (decide (ac.2.2=0))=true then (if (decide (ab.2=0))=true then (if (decide (ad.1=(⟨#[49,49,48,48,48]⟩)))=true then (if (decide (ac.2.1=3))=true then ((Zo0 N ac.1 [1,1]).bind fun ae=>if ae=true then ((Zlg N ((ab.1.1.1.1,ab.1.1.1.2),ab.1.1.2)).bind fun af=>if (decide (af=(⟨#[52,47,53]⟩)))=true then ((Zlg N ((ab.1.2.1.1,ab.1.2.1.2),ab.1.2.2)).bind fun ag=>Zal (decide (ag=(⟨#[52,49,47,53,48]⟩)))) else (Zal false)) else (Zal false)) else (Zal false)) else (Zal false)) else (Zal false)) else (Zal false)) else (Zal false)
theorem Zzg (N:Nat) (col:Ze) (w0:World) (r:Bool) (hm:Zov N=some r):
    Calls prog 9 #[] w0 (fun e w'=>e= .returned ((.bool r))∧Below w0.heap.size w0 w'):=by
 refine Xm 0 (m:=63) func9 rfl rfl rfl rfl rfl ?_;rw [Zov.eq_1] at hm;have ab:=St.start col w0;refine go ?_;obtain ⟨cq,bv,hm⟩:=bZ hm;refine lc rfl rfl (Zax call52) (Zz5 (col:=(Zk col)) 1 2 3 4 bv:) ?_;rintro _ cr ⟨bw,cs,ct,cu,cv,cw,cx,cy,cz,rfl,bx,ac,ad,ae,af⟩;refine ⟨_,rfl,?_⟩;refine Xj (col:=bw) #[.string (⟨#[]⟩),.slice none (([]:List ByteArray).length) 0,.slice none (([]:List R4).length) 0,.slice none (([]:List R2).length) 0,(.slice none (([]:List R6).length) 0)] 5 zeroValue27 ?_;intro c0 c1 bz a2 b0;refine Zw b0 ?_;intro c2 a3 b1 an;refine go ?_;refine lV _ (Xb isAgg27 sizeOf27 an)<|W8 (col:=bz) [0,1] 6 ?_;intro c3 b2 a4 au b3;obtain ⟨a5,b4,hm⟩:=bZ hm;replace ac:=((ac.gr a2).kp a3).gr au;replace ad:=((ad.gr a2).kp a3).gr au;replace ae:=((ae.gr a2).kp a3).gr au;replace af:=((af.gr a2).kp a3).gr au;refine Zh (Zq7 b4 (((((ac.toSlF Zg.str).froz 2).froz 3).froz 4).froz 6) (((((ad.froz 1 (by decide)).toSlF (Zg.row Zg.str)).froz 3).froz 4).froz 6) (((((ae.froz 1 (by decide)).froz 2 (by decide)).toSlF (Zg.row (Zg.int .i64))).froz 4).froz 6) (((((af.froz 1 (by decide)).froz 2 (by decide)).froz 3 (by decide)).toSlF (Zg.row (Zg.pair (Zg.pair Zg.bool (Zg.row (Zg.int .u32))) (Zg.row (Zg.int .u32))))).froz 6) (((((b3.froz 1 (by decide)).froz 2 (by decide)).froz 3 (by decide)).froz 4 (by decide)).toSlF (Zg.int .i64))) ?_;rintro _ bo ⟨rfl,aj⟩;refine ⟨_,rfl,?_⟩;replace aj:Zf a4 b2 a4 bo:=.of_below aj;refine lM (.tuple #[.string a5.1,.int .i64 a5.2])<|lV (.string a5.1) (Xf rfl rfl)<|lV (.int .i64 a5.2) (Xf rfl rfl)<|go ?_;replace an:=(an.gr au).gr aj;refine lV _ (Xb isAgg27 sizeOf27 an) ?_;obtain ⟨ak,b5,hm⟩:=bZ hm;replace ac:=ac.gr aj;replace ad:=ad.gr aj;replace ae:=ae.gr aj;replace af:=af.gr aj
 refine Zh (Zq6 7 b5 ((((ac.toSlF Zg.str).froz 2).froz 3).froz 4) ((((ad.froz 1 (by decide)).toSlF (Zg.row Zg.str)).froz 3).froz 4) ((((ae.froz 1 (by decide)).froz 2 (by decide)).toSlF (Zg.row (Zg.int .i64))).froz 4) ((((af.froz 1 (by decide)).froz 2 (by decide)).froz 3 (by decide)).toSlF (Zg.row (Zg.pair (Zg.pair Zg.bool (Zg.row (Zg.int .u32))) (Zg.row (Zg.int .u32)))))) ?_;rintro _ c4 ⟨b6,bp,bq,rfl,ag,ao⟩;refine ⟨_,rfl,?_⟩;replace ao:=ao.thaw (Zy .i64) ag (((((Fz.refl (col:=a4)).froz 1).froz 2).froz 3).froz 4) (by decide);replace ag:=ag.thawR (col:=a4);generalize Z7 bo.heap.size a4 b6=b7 at *;refine lM (.tuple #[.slice bp ak.1.length bq,.int .i64 ak.2.1,.int .i64 ak.2.2])<|lV (.slice bp ak.1.length bq) (Xf rfl rfl)<|lV (.int .i64 ak.2.1) (Xf rfl rfl)<|lV (.int .i64 ak.2.2) (Xf rfl rfl)<|go ?_;replace an:=an.gr ag;refine lV _ (Xb isAgg27 sizeOf27 an)<|W8 (col:=b7) [1,0] 8 ?_;intro c5 b8 av aw b9;obtain ⟨aa,ca,hm⟩:=bZ hm;replace ac:=(ac.gr ag).gr aw;replace ad:=(ad.gr ag).gr aw;replace ae:=(ae.gr ag).gr aw;replace af:=(af.gr ag).gr aw;refine Zh (Zq8 9 10 11 12 ca (((((ac.toSlF Zg.str).froz 2).froz 3).froz 4).froz 8) (((((ad.froz 1 (by decide)).toSlF (Zg.row Zg.str)).froz 3).froz 4).froz 8) (((((ae.froz 1 (by decide)).froz 2 (by decide)).toSlF (Zg.row (Zg.int .i64))).froz 4).froz 8) (((((af.froz 1 (by decide)).froz 2 (by decide)).froz 3 (by decide)).toSlF (Zg.row (Zg.pair (Zg.pair Zg.bool (Zg.row (Zg.int .u32))) (Zg.row (Zg.int .u32))))).froz 8) (((((b9.froz 1 (by decide)).froz 2 (by decide)).froz 3 (by decide)).froz 4 (by decide)).toSlF (Zg.int .i64))) ?_;rintro _ c6 ⟨cb,a6,a7,a8,a9,ba,bb,bc,bd,rfl,al,ap,aq,ah,ai⟩;refine ⟨_,rfl,?_⟩;replace ap:=ap.thaw (Zy .u32) al ((((((Fz.refl (col:=av)).froz 1).froz 2).froz 3).froz 4).froz 8) (by decide);replace aq:=aq.thaw (Zy .u32) al ((((((Fz.refl (col:=av)).froz 1).froz 2).froz 3).froz 4).froz 8) (by decide);replace ah:=ah.thaw (Zy .u32) al ((((((Fz.refl (col:=av)).froz 1).froz 2).froz 3).froz 4).froz 8) (by decide);replace ai:=ai.thaw (Zy .u32) al ((((((Fz.refl (col:=av)).froz 1).froz 2).froz 3).froz 4).froz 8) (by decide);replace al:=al.thawR (col:=av)
 generalize Z7 b8.heap.size av cb=cc at *;refine lM (.tuple #[(.agg #[.bool aa.1.1.1.1,.slice a6 aa.1.1.1.2.length a7,.slice a8 aa.1.1.2.length a9,.bool aa.1.2.1.1,.slice ba aa.1.2.1.2.length bb,.slice bc aa.1.2.2.length bd]),.int .i64 aa.2])<|lV (.agg #[.bool aa.1.1.1.1,.slice a6 aa.1.1.1.2.length a7,.slice a8 aa.1.1.2.length a9,.bool aa.1.2.1.1,.slice ba aa.1.2.1.2.length bb,.slice bc aa.1.2.2.length bd]) (Xf rfl rfl)<|lV (.int .i64 aa.2) (Xf rfl rfl)<|Xj (col:=cc) #[.bool false,.slice none (([]:List Int).length) 0,.slice none (([]:List Int).length) 0,.bool false,.slice none (([]:List Int).length) 0,.slice none (([]:List Int).length) 0] 13 zeroValue68 ?_;intro c7 c8 cd ax ce;refine Zw ce ?_;intro c9 ay cf az;refine Yx rfl<|Zm<|Zv ?_;replace ab:=(((((((((ab.grow bx).grow a2).kp a3 b1).grow au).grow aj).grow ag).grow aw).grow al).grow ax).kp ay cf;replace ao:=(((ao.gr aw).gr al).gr ax).kp ay;replace ap:=(ap.gr ax).kp ay;replace aq:=(aq.gr ax).kp ay;replace ah:=(ah.gr ax).kp ay;replace ai:=(ai.gr ax).kp ay;refine Wp.cutK [1000000] (fun f br=>∃ bs be,Zal be=some r∧St w0 (Zk col) bs br∧[0].map f=[.bool be]) ?_ ?_
 ·intro f br hJ;obtain ⟨bs,be,hm,ab,hs⟩:=hJ;rw [Zal.eq_1] at hm;refine .lL [0] hs<|W4 ?_;cases hm;exact ⟨rfl,rfl,ab.below⟩
 refine go ?_;refine X8 hm (fun bf hm=>go ?_) fun bf hm=>go ?_
 ·refine lV (.bool (decide (ak.2.2=0))) (Xr (congrArg Value.bool bf) rfl)<|Yt rfl ?_;refine X8 hm (fun bg hm=>go ?_) fun bg hm=>go ?_
  ·refine lV (.bool (decide (aa.2=0))) (Xr (congrArg Value.bool bg) rfl)<|Yt rfl ?_;refine X8 hm (fun bh hm=>go ?_) fun bh hm=>go ?_
   ·refine lV (.bool (decide (a5.1=(⟨#[49,49,48,48,48]⟩)))) (Xr (congrArg Value.bool bh) rfl)<|Yt rfl ?_;refine X8 hm (fun bi hm=>go ?_) fun bi hm=>go ?_
    ·refine lV (.bool (decide (ak.2.1=3))) (Xr (congrArg Value.bool bi) rfl)<|Yt rfl ?_;refine X8 hm (fun bj hm=>go ?_) fun bj hm=>go ?_
     ·refine W8 (col:=cd) [1,1] 16 ?_;intro da cg a0 ar ch;refine go ?_;obtain ⟨ci,cj,hm⟩:=bZ hm;replace ao:=ao.gr ar;refine Zh (Zz6 cj ((ao.toSlF (Zg.int .i64)).froz 16) ((ch.froz 7 (by decide)).toSlF (Zg.int .i64))) ?_;rintro _ bt ⟨rfl,am⟩;refine ⟨_,rfl,?_⟩;replace am:Zf a0 cg a0 bt:=.of_below am;refine lV (.bool ci) (Xr (congrArg Value.bool bj) rfl)<|Yt rfl ?_;replace ap:=(ap.gr ar).gr am;replace aq:=(aq.gr ar).gr am;replace ah:=(ah.gr ar).gr am;replace ai:=(ai.gr ar).gr am;replace az:=(az.gr ar).gr am;replace ab:=(ab.grow ar).grow am;refine X8 hm (fun bk hm=>go ?_) fun bk hm=>go ?_
      ·refine Xx ⟨_,_,rfl⟩ ?_;refine go ?_;refine lV (.agg #[.bool aa.1.1.1.1,.slice a6 aa.1.1.1.2.length a7,.slice a8 aa.1.1.2.length a9]) (Xt isAgg39 sizeOf39 rfl rfl ((az.atN).part 0 3 _ rfl))<|go ?_;obtain ⟨ck,cl,hm⟩:=bZ hm;refine Zh (Zrc cl ((ap.toSlF (Zg.int .u32)).froz 10) ((aq.froz 9 (by decide)).toSlF (Zg.int .u32))) ?_;rintro _ bu ⟨rfl,a1⟩;refine ⟨_,rfl,?_⟩;replace a1:Zf a0 bt a0 bu:=.of_below a1;refine go ?_;refine lV (.bool (decide (ck=(⟨#[52,47,53]⟩)))) (Xr (congrArg Value.bool bk) rfl)<|Yt rfl ?_;replace ah:=ah.gr a1;replace ai:=ai.gr a1;replace az:=az.gr a1;replace ab:=ab.grow a1;refine X8 hm (fun bm hm=>go ?_) fun bm hm=>go ?_
       ·refine Xx ⟨_,_,rfl⟩ ?_;refine go ?_;refine lV (.agg #[.bool aa.1.2.1.1,.slice ba aa.1.2.1.2.length bb,.slice bc aa.1.2.2.length bd]) (Xt isAgg39 sizeOf39 rfl rfl ((az.atN).part 3 3 _ rfl))<|go ?_;obtain ⟨cn,co,hm⟩:=bZ hm;refine Zh (Zrc co ((ah.toSlF (Zg.int .u32)).froz 12) ((ai.froz 11 (by decide)).toSlF (Zg.int .u32))) ?_;rintro _ cp ⟨rfl,bn⟩;refine ⟨_,rfl,?_⟩;replace bn:Zf a0 bu a0 cp:=.of_below bn;refine go ?_;refine lV (.bool (decide (cn=(⟨#[52,49,47,53,48]⟩)))) (Xr (congrArg Value.bool bm) rfl)<|go ?_;replace ab:=ab.grow bn;exact ⟨rfl,_,_,hm,ab,rfl⟩
       refine lV (.bool false) (Xh (congrArg Value.bool bm) rfl)<|go ?_;exact ⟨rfl,_,_,hm,ab,rfl⟩
      refine lV (.bool false) (Xh (congrArg Value.bool bk) rfl)<|Yt rfl<|lP 57 rfl rfl<|lP 57 rfl rfl<|lP 57 rfl rfl<|lP 57 rfl rfl<|lV (.bool false) (Xh rfl rfl)<|go ?_;exact ⟨rfl,_,_,hm,ab,rfl⟩
     refine lV (.bool false) (Xh (congrArg Value.bool bj) rfl)<|Yt rfl<|lP 51 rfl rfl<|lP 51 rfl rfl<|lP 51 rfl rfl<|lP 51 rfl rfl<|lV (.bool false) (Xh rfl rfl)<|Yt rfl<|lP 57 rfl rfl<|lP 57 rfl rfl<|lP 57 rfl rfl<|lP 57 rfl rfl<|lV (.bool false) (Xh rfl rfl)<|go ?_;exact ⟨rfl,_,_,hm,ab,rfl⟩
    refine lV (.bool false) (Xh (congrArg Value.bool bi) rfl)<|Yt rfl<|lP 46 rfl rfl<|lP 46 rfl rfl<|lP 46 rfl rfl<|lV (.bool false) (Xh rfl rfl)<|Yt rfl<|lP 51 rfl rfl<|lP 51 rfl rfl<|lP 51 rfl rfl<|lP 51 rfl rfl<|lV (.bool false) (Xh rfl rfl)<|Yt rfl<|lP 57 rfl rfl<|lP 57 rfl rfl<|lP 57 rfl rfl<|lP 57 rfl rfl<|lV (.bool false) (Xh rfl rfl)<|go ?_;exact ⟨rfl,_,_,hm,ab,rfl⟩
   refine lV (.bool false) (Xh (congrArg Value.bool bh) rfl)<|Yt rfl<|lP 42 rfl rfl<|lP 42 rfl rfl<|lV (.bool false) (Xh rfl rfl)<|Yt rfl<|lP 46 rfl rfl<|lP 46 rfl rfl<|lP 46 rfl rfl<|lV (.bool false) (Xh rfl rfl)<|Yt rfl<|lP 51 rfl rfl<|lP 51 rfl rfl<|lP 51 rfl rfl<|lP 51 rfl rfl<|lV (.bool false) (Xh rfl rfl)<|Yt rfl<|lP 57 rfl rfl<|lP 57 rfl rfl<|lP 57 rfl rfl<|lP 57 rfl rfl<|lV (.bool false) (Xh rfl rfl)<|go ?_;exact ⟨rfl,_,_,hm,ab,rfl⟩
  refine lV (.bool false) (Xh (congrArg Value.bool bg) rfl)<|Yt rfl<|lP 38 rfl rfl<|lP 38 rfl rfl<|lV (.bool false) (Xh rfl rfl)<|Yt rfl<|lP 42 rfl rfl<|lP 42 rfl rfl<|lV (.bool false) (Xh rfl rfl)<|Yt rfl<|lP 46 rfl rfl<|lP 46 rfl rfl<|lP 46 rfl rfl<|lV (.bool false) (Xh rfl rfl)<|Yt rfl<|lP 51 rfl rfl<|lP 51 rfl rfl<|lP 51 rfl rfl<|lP 51 rfl rfl<|lV (.bool false) (Xh rfl rfl)<|Yt rfl<|lP 57 rfl rfl<|lP 57 rfl rfl<|lP 57 rfl rfl<|lP 57 rfl rfl<|lV (.bool false) (Xh rfl rfl)<|go ?_;exact ⟨rfl,_,_,hm,ab,rfl⟩
 refine lV (.bool false) (Xh (congrArg Value.bool bf) rfl)<|Yt rfl<|lP 34 rfl rfl<|lP 34 rfl rfl<|lV (.bool false) (Xh rfl rfl)<|Yt rfl<|lP 38 rfl rfl<|lP 38 rfl rfl<|lV (.bool false) (Xh rfl rfl)<|Yt rfl<|lP 42 rfl rfl<|lP 42 rfl rfl<|lV (.bool false) (Xh rfl rfl)<|Yt rfl<|lP 46 rfl rfl<|lP 46 rfl rfl<|lP 46 rfl rfl<|lV (.bool false) (Xh rfl rfl)<|Yt rfl<|lP 51 rfl rfl<|lP 51 rfl rfl<|lP 51 rfl rfl<|lP 51 rfl rfl<|lV (.bool false) (Xh rfl rfl)<|Yt rfl<|lP 57 rfl rfl<|lP 57 rfl rfl<|lP 57 rfl rfl<|lP 57 rfl rfl<|lV (.bool false) (Xh rfl rfl)<|go ?_;exact ⟨rfl,_,_,hm,ab,rfl⟩
theorem Z50:Zov 3000000=some true:=by decide+kernel
def Zqf:Option Bool:=some true
theorem Z2s (col:Ze) (w0:World) (r:Bool) (hm:Zqf=some r):Calls prog 9 #[] w0 (fun e w'=>e= .returned ((.bool r))∧Below w0.heap.size w0 w'):=by
 cases hm;exact Zzg 3000000 col w0 true Z50

end Go.Proofs.YtkhnlgdenkikoaaGreat
