/-
  What functions of the program compute, as plain Lean functions (m_..), and proofs that they compute it (c_..). Printed by a program of the author; no conditions.
-/
import Derived.Test.YtbmjpjhbankpoaaGreatLearnScoreBFloat
import Derived.Test.YtbmjpjhbankpoaaGreatProg
import Derived.Test.YtbmjpjhbankpoaaGreatLearnScoreBBrief
import Derived.Test.YtbmjpjhbankpoaaGreatLearnScoreBMixD
import Derived.Test.YtbmjpjhbankpoaaGreatLearnScoreBThree
import Derived.Test.YtbmjpjhbankpoaaGreatLearnScoreBView
import Derived.Test.YtbmjpjhbankpoaaGreatLearnScoreF3
set_option linter.unusedVariables false
set_option maxRecDepth 100000
set_option maxHeartbeats 2000000
namespace Go.Proofs.YtbmjpjhbankpoaaGreat
open Go Go.RowKit
open Go.IntKind (i8 i16 i32 i64 u8 u16 u32 u64)
open Go.Proofs.Tryz

def Te (vals:List R5) (P:List R1) (T:List (List QV)):Nat→Nat→Int
 | 0,_=>0
 | m+1,v=>if 65536<Ya vals (P.getD v []) 1 * (vals.getD v []).length then 4 else if Ya vals (P.getD v []) 1 * (vals.getD v []).length≠(T.getD v []).length then 60 else Te vals P T m (v+1)
structure Vd (n:Z4) (W:Nat):Prop where
 nm:n.2.1.length≤1048575
 vl:∀ l ∈ n.2.2.1,l.length≤1048576
 pn:Zj4 n.2.2.2.1
 tl:∀ t ∈ n.2.2.2.2,t.length≤1048576
 tq:∀ t ∈ n.2.2.2.2,X5 t≤W
 lim:∀ t ∈ n.2.2.2.2,∀ x ∈ t,W3 x
structure Uy (n:Z4):Prop where
 v:n.2.2.1.length=n.2.1.length
 p:n.2.2.2.1.length=n.2.1.length
 t:n.2.2.2.2.length=n.2.1.length
 i:Vx n.2.2.2.1.length n.2.2.2.1=true
 ne:∀ l ∈ n.2.2.1,l≠[]
theorem Uy.par {n:Z4} (h:Uy n) {ps:List Int} (hp:ps ∈ n.2.2.2.1):∀ p ∈ ps,0≤p∧p<(n.2.2.1.length:Int):=by
 have:=Zrm h.i ps hp
 rw [h.p] at this
 rw [h.v];exact this
theorem Zsp {N W:Nat} {n:Z4} (hs:Vd n W) (he:Uy n):∀ (l:List (List QV)) (k:Nat),n.2.2.2.2.drop k=l→k≤n.2.1.length→Zae N n l k=if Te n.2.2.1 n.2.2.2.1 n.2.2.2.2 l.length k=0 then Zaf N n n.2.2.2.2 else some (Te n.2.2.1 n.2.2.2.1 n.2.2.2.2 l.length k)
 | [],k,_,_=>by rw [Zae.eq_1];rfl
 | t :: l,k,hd,hk=>by
  have ht:=he.t;have hv:=he.v;have hp:=he.p
  have hk1:k<n.2.2.2.2.length:=by
   rcases Nat.lt_or_ge k n.2.2.2.2.length with h | h
   ·exact h
   ·rw [List.drop_eq_nil_of_le h] at hd;cases hd
  have hd2:=List.drop_eq_getElem_cons hk1
  rw [hd] at hd2
  obtain ⟨hx,hl2⟩:=List.cons.inj hd2
  have kv:k<n.2.2.1.length:=by omega
  have kp:k<n.2.2.2.1.length:=by omega
  have r1:=Zoo n.2.2.1 (n.2.2.2.1[k]) 1 (by omega)
  have c1:=hs.vl _ (List.getElem_mem kv)
  have r2:=Zlq r1 c1
  have hrow:Zf1 n (k:Int)=some (Ya n.2.2.1 n.2.2.2.1[k] 1:Int):=by
   rw [Zf1,Zv kp,oB]
   exact Zso n hs.vl _ 1 (by omega) (he.par (List.getElem_mem kp))
  rw [Zae.eq_2]
  have hrow':Zf1 (n.1,n.2.1,n.2.2.1,n.2.2.2.1,n.2.2.2.2) (k:Int)=some (Ya n.2.2.1 n.2.2.2.1[k] 1:Int):=hrow
  rw [hrow',oB,Zv kv,oB,← Int.natCast_mul,Zs (by omega),nC,Te,Yr kp,Yr kv,Yr hk1,← hx]
  generalize Ya n.2.2.1 n.2.2.2.1[k] 1 * n.2.2.1[k].length=rc at *
  by_cases h1:65536<rc
  ·rw [if_pos (dT (by omega)),if_pos h1,if_neg (by decide)]
  ·rw [if_neg (dF (by omega)),if_neg h1]
   by_cases h2:rc=t.length
   ·rw [if_neg (by rw [decide_eq_true (by omega)];decide),if_neg (show ¬ rc≠t.length from fun h=>h h2)]
    exact Zsp hs he l (k+1) hl2.symm (by omega)
   ·rw [if_pos (by rw [decide_eq_false (by omega)];decide),if_pos h2,if_neg (by decide)]
theorem Zvi {N W:Nat} {n:Z4} (hN:1048577<N) (hs:Vd n W) (he:Uy n):∀ (m fuel v:Nat),m+v=n.2.1.length→m<fuel→
  Zas N n (n.2.2.1.map fun l=>(l.length:Int)) fuel (v:Int)=if Te n.2.2.1 n.2.2.2.1 n.2.2.2.2 m v=0 then Qu N n (n.2.2.1.map fun l=>(l.length:Int)) N 0 else some (Te n.2.2.1 n.2.2.2.1 n.2.2.2.2 m v)
 | 0,0,v,_,h=>by omega
 | 0,fuel+1,v,h1,_=>by
  rw [Zas.eq_2,if_neg (dF (by omega))];rfl
 | m+1,0,v,_,h=>by omega
 | m+1,fuel+1,v,h1,h2=>by
  have ht:=he.t;have hv:=he.v;have hp:=he.p;have hnm:=hs.nm
  have kt:v<n.2.2.2.2.length:=by omega
  have kv:v<n.2.2.1.length:=by omega
  have kp:v<n.2.2.2.1.length:=by omega
  have r1:=Zoo n.2.2.1 (n.2.2.2.1[v]) 1 (by omega)
  have c1:=hs.vl _ (List.getElem_mem kv)
  have c0:0<n.2.2.1[v].length:=List.length_pos_iff.2 (he.ne _ (List.getElem_mem kv))
  have r2:=Zlq r1 c1
  rw [Zas.eq_2,if_pos (dT (by omega)),Zv kp,oB,Zzg hs.vl he.ne (he.par (List.getElem_mem kp)) (hs.pn.ls _ (List.getElem_mem kp)) hN,oB,Zmj kv,oB,Z1s c0,oB,Te,Yr kp,Yr kv,Yr kt,← Int.natCast_mul,Zs (by omega)]
  generalize Ya n.2.2.1 n.2.2.2.1[v] 1 * n.2.2.1[v].length=rc at *
  by_cases h3:65536<rc
  ·rw [if_pos (dT (by omega)),if_pos h3,if_neg (by decide)]
  ·rw [if_neg (dF (by omega)),if_neg h3,Zv kt,oB]
   by_cases h4:rc=n.2.2.2.2[v].length
   ·rw [if_neg (by rw [decide_eq_true (by omega)];decide),if_neg (show ¬ rc≠n.2.2.2.2[v].length from fun h=>h h4),Zs (by omega)]
    exact Zvi hN hs he m fuel (v+1) (by omega) (by omega)
   ·rw [if_pos (by rw [decide_eq_false (by omega)];decide),if_pos h4,if_neg (by decide)]
def Vg (x:QV):Bool:=decide (Xl x<0)||decide (1<Xl x)
theorem Ztq {a b:Rat}:0<T8 a b↔b<a:=by
 rw [T8]
 by_cases h:a<b
 ·rw [if_pos h]
  constructor
  ·intro h2;omega
  ·intro h2;exact absurd (Rat.le_of_lt h2) (Rat.not_le.2 h)
 ·rw [if_neg h]
  by_cases h2:b<a
  ·simp [h2]
  ·simp [h2]
theorem Zl0 {a b:Rat}:T8 a b=0↔a=b:=by
 rw [T8]
 constructor
 ·intro h
  split at h
  ·cases h
  ·split at h
   ·cases h
   ·rename_i h1 h2
    exact Rat.le_antisymm (Rat.not_lt.1 h2) (Rat.not_lt.1 h1)
 ·rintro rfl
  rw [if_neg Rat.lt_irrefl,if_neg Rat.lt_irrefl]
theorem Zsm {N:Nat} (hr:Z5 N 8):Zfy N=some (Xc 1):=by
 rw [Zfy,Zrb (by omega) (by omega) (hr.mono (by omega)),oB,if_neg (by decide)]
 have:((1:Int):Rat) / ((1:Int):Rat)=1:=div_one _
 rw [this]
theorem Zva {N:Nat} (hr:Z5 N 8):Zg2 N=some (Xc 1):=by
 rw [Zg2,Z28 hr];rfl
theorem Zmg:RV 1 (Xc 1):=Zjt (by rw [Z1z];omega)
theorem Z1a {N k:Nat} {x:QV} (hx:RV k x) (hr:Z5 N (2 * k+16)):Zfz N x=some (Vg x):=by
 have h2:Zfn N ((x.1.1,x.1.2),x.2)=some (Zcg (Xl x)):=Z0c hx (hr.mono (by omega))
 rw [Zfz,h2,oB,Vg]
 by_cases h:Xl x<0
 ·rw [if_pos (dT (Zl1.2 h)),Zf0,decide_eq_true h,Bool.true_or]
 ·rw [if_neg (dF (fun h3=>h (Zl1.1 h3))),decide_eq_false h,Bool.false_or,Zsm (hr.mono (by omega)),oB,Zqz (a:=((x.1.1,x.1.2),x.2)) (b:=Xc 1) hx Zmg (hr.mono (by omega)),oB,Zf0,Qx]
  congr 1
  exact decide_eq_decide.2 Ztq
theorem Z2w {N k:Nat} {x:QV} (hx:RV k x) (hr:Z5 N (2 * k+16)):Zg3 N x=some (Vg x):=by
 have h2:Zgq N ((x.1.1,x.1.2),x.2)=some (Zcg (Xl x)):=Z2r hx (hr.mono (by omega))
 rw [Zg3,h2,oB,Vg]
 by_cases h:Xl x<0
 ·rw [if_pos (dT (Zl1.2 h)),Zg4,decide_eq_true h,Bool.true_or]
 ·rw [if_neg (dF (fun h3=>h (Zl1.1 h3))),decide_eq_false h,Bool.false_or,Zva (hr.mono (by omega)),oB,Zok (a:=((x.1.1,x.1.2),x.2)) (b:=Xc 1) hx Zmg (hr.mono (by omega)),oB,Zg4,Qx]
  congr 1
  exact decide_eq_decide.2 Ztq
def Vk (x:QV):QV:=if Zb x.2=0 then (x.1,[1]) else x
theorem Zq2 {x:QV} (h:W3 x):W3 (Vk x):=by
 rw [Vk];split
 ·exact ⟨h.1,.cons (by decide) .nil⟩
 ·exact h
theorem Zq3 (x:QV):Xl (Vk x)=Xl x:=by
 rw [Vk];split
 ·rename_i h
  rw [Xl,Xl]
  show mkRat (Zr x.1) (X6 [1])=mkRat (Zr x.1) (X6 x.2)
  rw [X6,X6,if_pos h]
  congr 1
 ·rfl
theorem Zz6 (x:QV):Vg (Vk x)=Vg x:=by rw [Vg,Vg,Zq3]
theorem Zz5 (x:QV):max (Vk x).1.2.length (Vk x).2.length≤max x.1.2.length x.2.length+1:=by
 rw [Vk];split
 ·show max x.1.2.length [(1:Int)].length≤_
  simp only [List.length_singleton];omega
 ·omega
theorem Zoa:∀ l:List QV,2 * l.length≤X5 l
 | []=>by simp [X5]
 | a :: l=>by rw [X5,nC];have:=Zoa l;omega
theorem Zn9:∀ l:List QV,X5 (l.map Vk)≤X5 l+l.length
 | []=>by simp [X5]
 | a :: l=>by
  rw [List.map_cons,X5,X5,nC]
  have:=Zn9 l;have:=Zz5 a;omega
theorem Ztr (a b:List QV):X5 (a++b)=X5 a+X5 b:=by
 induction a with
 | nil=>simp [X5]
 | cons x a ih=>rw [List.cons_append,X5,X5,ih];omega
theorem Ztu (l:List QV) (k:Nat):X5 (l.take k)≤X5 l:=by
 have:=Ztr (l.take k) (l.drop k)
 rw [List.take_append_drop] at this;omega
theorem Zts (l:List QV) (k:Nat):X5 (l.drop k)≤X5 l:=by
 have:=Ztr (l.take k) (l.drop k)
 rw [List.take_append_drop] at this;omega
theorem Z1y {l:List QV} {x:QV} (h:x ∈ l):max x.1.2.length x.2.length≤X5 l:=by
 induction l with
 | nil=>simp at h
 | cons y l ih=>
  rw [X5]
  rcases List.mem_cons.1 h with rfl | h
  ·omega
  ·have:=ih h;omega
theorem Zz8 {N k:Nat} {x:QV} (h:W3 x) (hk:max x.1.2.length x.2.length≤k) (hr:Z5 N k):Zft N x=some (Vk x):=by
 obtain ⟨r1,r2⟩:=hr
 rw [Zft,Zn3 h.2 (by omega) (by omega),oB,Vk]
 by_cases h0:Zb x.2=0
 ·rw [h0,Wg,if_pos (by decide),if_pos rfl,Zei (by decide) (by omega),oB,Zfu,show (1:Int).toNat=1 from rfl,V1]
 ·have:=Sk h0
  rw [if_neg (dF (by omega)),if_neg h0,Zfu]
theorem Zq8 {N W:Nat} (hr:Z5 N W):∀ (l out:List QV),(∀ x ∈ l,W3 x)→X5 l≤W→out.length+l.length≤1048576→Zbp N l out=some (out++l.map Vk)
 | [],out,_,_,_=>by rw [Zbp.eq_1];simp
 | x :: l,out,hl,hq,hlen=>by
  rw [X5] at hq
  rw [nC] at hlen
  have h1:Zft N ((x.1.1,x.1.2),x.2)=some (Vk x):=Zz8 (x:=x) (hl x List.mem_cons_self) (k:=W) (by omega) hr
  rw [Zbp.eq_2,h1,oB,Z6 (by simp only [List.length_singleton,maxLen];omega),Zq8 hr l _ (fun y hy=>hl y (List.mem_cons_of_mem _ hy)) (by omega) (by simp only [nA,List.length_singleton];omega)]
  simp
theorem Zq9 {N W:Nat} {l:List QV} (hr:Z5 N W) (hl:∀ x ∈ l,W3 x) (hq:X5 l≤W) (hlen:l.length≤1048576):Zfv N l=some (l.map Vk):=by
 rw [Zfv,Z6 (by simp only [maxLen];omega),Zq8 hr l [] hl hq (by simpa using hlen),List.nil_append]
theorem Zrk {N W:Nat} (hr:Z5 N (2 * W+16)):∀ (l:List QV) (k:Nat),(∀ x ∈ l,W3 x)→X5 l≤W→∃ j:Int,Zef N l k=some j∧(0≤j↔l.any Vg=true)
 | [],k,_,_=>⟨-1,rfl,by simp⟩
 | x :: l,k,hl,hq=>by
  rw [X5] at hq
  have hx:=hl x List.mem_cons_self
  have h1:Zfz N ((x.1.1,x.1.2),x.2)=some (Vg x):=Z1a (x:=x) (Zeo hx.1 hx.2) (hr.mono (by omega))
  rw [Zef.eq_2,h1,oB,List.any_cons]
  cases Vg x with
  | true=>rw [if_pos rfl];exact ⟨_,rfl,by simp⟩
  | false=>
   rw [if_neg (by decide)]
   obtain ⟨j,h1,h2⟩:=Zrk hr l (k+1) (fun y hy=>hl y (List.mem_cons_of_mem _ hy)) (by omega)
   exact ⟨j,h1,by rw [h2];simp⟩
def Ze0 (T:List (List QV)):Bool:=T.any fun t=>t.any Vg
theorem Zw1 (l:List QV):(l.map Vk).any Vg=l.any Vg:=by
 induction l with
 | nil=>rfl
 | cons x l ih=>rw [List.map_cons,List.any_cons,List.any_cons,ih,Zz6]
theorem Zse {N W:Nat} {n:Z4} (hr:Z5 N (4 * W+16)):∀ l:List (List QV),(∀ t ∈ l,t.length≤1048576∧X5 t≤W∧∀ x ∈ t,W3 x)→Zaf N n l=if Ze0 l=true then some 45 else Zbo N n n.2.2.2.2 0
 | [],_=>by rw [Zaf.eq_1];rfl
 | t :: l,h=>by
  obtain ⟨h1,h2,h3⟩:=h t List.mem_cons_self
  have hp:=Zoa t
  have hf:=Zn9 t
  obtain ⟨j,j1,j2⟩:=Zrk (N:=N) (W:=2 * W) (hr.mono (by omega)) (t.map Vk) 0 (fun x hx=>by
   obtain ⟨y,hy,rfl⟩:=List.mem_map.1 hx
   exact Zq2 (h3 y hy)) (by omega)
  rw [Zaf.eq_2,Zq9 (W:=W) (hr.mono (by omega)) h3 h2 h1,oB,Zll,Zlm,j1,oB,oB,Ze0,List.any_cons]
  rw [Zw1] at j2
  by_cases ho:t.any Vg=true
  ·rw [if_pos (dT (j2.2 ho)),ho,Bool.true_or,if_pos rfl]
  ·rw [if_neg (dF (fun h=>ho (j2.1 h))),Bool.eq_false_iff.2 ho,Bool.false_or]
   exact Zse hr l fun x hx=>h x (List.mem_cons_of_mem _ hx)
theorem Zuq {N W:Nat} {n:Z4} (sz:List Int) (hr:Z5 N (4 * W+16)) {v:Nat} (hv:v<n.2.2.2.2.length) (hvs:v<1048576) (h1:n.2.2.2.2[v].length≤1048576) (h2:X5 n.2.2.2.2[v]≤W) (h3:∀ x ∈ n.2.2.2.2[v],W3 x) (kk:Int→Option Int):∀ (m i:Nat),i≤n.2.2.2.2[v].length→n.2.2.2.2[v].length<m+i→
  Zd1 N n (v:Int) kk m (i:Int)=if ((n.2.2.2.2[v]).drop i).any Vg=true then some 45 else kk ((v:Int)+1)
 | 0,i,g1,g2=>by omega
 | m+1,i,g1,g2=>by
  rw [Zd1.eq_2,Zv hv,oB]
  by_cases hi:i<n.2.2.2.2[v].length
  ·have hx:=h3 _ (List.getElem_mem hi)
   have hm:=Z1y (List.getElem_mem hi)
   have e:Zg3 N (((n.2.2.2.2[v][i]).1.1,(n.2.2.2.2[v][i]).1.2),(n.2.2.2.2[v][i]).2)=some (Vg n.2.2.2.2[v][i]):=Z2w (x:=n.2.2.2.2[v][i]) (Zeo hx.1 hx.2) (hr.mono (by omega))
   rw [if_pos (dT (by omega)),Zv hi,oB,e,oB,List.drop_eq_getElem_cons hi,List.any_cons]
   cases Vg n.2.2.2.2[v][i] with
   | true=>rw [if_pos rfl,Bool.true_or,if_pos rfl]
   | false=>
    rw [if_neg (by decide),Bool.false_or,Zs (by omega)]
    exact Zuq sz hr hv hvs h1 h2 h3 kk m (i+1) (by omega) (by omega)
  ·rw [if_neg (dF (by omega)),List.drop_eq_nil_of_le (by omega),List.any_nil,if_neg (by decide),Zs (by omega)]
theorem Zup {N W:Nat} {n:Z4} (sz:List Int) (hs:Vd n W) (he:n.2.2.2.2.length=n.2.1.length) (hr:Z5 N (4 * W+16)) (hN:1048577<N):∀ (m fuel v:Nat),m+v=n.2.1.length→m<fuel→
  Qu N n sz fuel (v:Int)=if Ze0 (n.2.2.2.2.drop v)=true then some 45 else Zat N n sz N 0
 | 0,0,v,_,h=>by omega
 | 0,fuel+1,v,h1,_=>by
  rw [Qu.eq_2,if_neg (dF (by omega)),List.drop_eq_nil_of_le (by omega)];rfl
 | m+1,0,v,_,h=>by omega
 | m+1,fuel+1,v,h1,h2=>by
  have hv:v<n.2.2.2.2.length:=by omega
  have hnm:=hs.nm
  have hm:=List.getElem_mem hv
  rw [Qu.eq_2,if_pos (dT (by omega)),show (0:Int)=((0:Nat):Int) from rfl,Zuq sz hr hv (by omega) (hs.tl _ hm) (hs.tq _ hm) (hs.lim _ hm) _ N 0 (by omega) (by have:=hs.tl _ hm;omega),List.drop_zero,List.drop_eq_getElem_cons hv,Ze0,List.any_cons]
  cases n.2.2.2.2[v].any Vg with
  | true=>rw [if_pos rfl,Bool.true_or,if_pos rfl]
  | false=>
   rw [if_neg (by decide),Bool.false_or]
   exact Zup sz hs he hr hN m fuel (v+1) (by omega) (by omega)
def Tb (c:Nat):Nat→List QV→Bool
 | 0,_=>true
 | m+1,l=>decide (W1 (l.take c)=1)&&Tb c m (l.drop c)
def Zhu (c:Nat):Nat→List QV→List (List QV)
 | 0,_=>[]
 | m+1,l=>l.take c :: Zhu c m (l.drop c)
theorem Zqd (N:Nat) (l:List QV) (c:Nat) (hc:0<c) (hl:l.length≤1048576) (hcs:c≤1048576):∀ (m fuel i:Nat),i+m * c=l.length→m<fuel→Zca N l (c:Int) fuel (i:Int)=some (Zhu c m (l.drop i))
 | 0,0,i,_,h=>by omega
 | 0,fuel+1,i,h1,_=>by
  rw [Zca.eq_2,if_neg (dF (by omega))];rfl
 | m+1,0,i,_,h=>by omega
 | m+1,fuel+1,i,h1,h2=>by
  have h3:i+c+m * c=l.length:=by rw [Nat.add_mul,Nat.one_mul] at h1;omega
  have e:(if ((l.drop i).length:Int)<(c:Int) then ((l.drop i).length:Int) else (c:Int))=(c:Int):=by
   rw [List.length_drop]
   by_cases h:((l.length - i:Nat):Int)<(c:Int)
   ·omega
   ·rw [if_neg h]
  rw [Zca.eq_2,if_pos (dT (by omega)),Int.toNat_natCast,e,Zs (by omega),Z6 (by omega),Z6 (by omega),show (i:Int)+(c:Int)=((i+c:Nat):Int) by omega,Zqd N l c hc hl hcs m fuel (i+c) (by omega) (by omega),oB,Int.toNat_natCast,Zhu,List.drop_take,show i+c - i=c by omega,List.drop_drop]
theorem Z11 (l:List QV):W1 (l.map Vk)=W1 l:=by
 rw [W1,W1,List.map_map]
 congr 1
 exact List.map_congr_left fun x _=>Zq3 x
theorem Zs6 (c:Nat):∀ (m:Nat) (l:List QV),Tb c m (l.map Vk)=Tb c m l
 | 0,l=>rfl
 | m+1,l=>by rw [Tb,Tb,← List.map_take,← List.map_drop,Z11,Zs6 c m]
theorem Zsv {N W:Nat} (hr:Z5 N (4 * W+40)) (c:Nat) (b:Bool):∀ (m:Nat) (l:List QV),(∀ x ∈ l,W3 x)→X5 l≤W→Zc9 N (Zhu c m l) b=some (Tb c m l)
 | 0,l,_,_=>rfl
 | m+1,l,hl,hq=>by
  have ht:=Ztu l c
  have hd:=Zts l c
  obtain ⟨s1,s2⟩:=Zrf (N:=N) (l:=l.take c) (fun x hx=>hl x (List.mem_of_mem_take hx)) (hr.mono (by omega))
  rw [Zhu,Zc9.eq_2,s1,oB,Zsm (hr.mono (by omega)),oB,Zqz (a:=Xc _) (b:=Xc 1) (Zjt s2) Zmg (hr.mono (by omega)),oB,Qx,Qx,Tb]
  by_cases h:W1 (l.take c)=1
  ·rw [if_neg (by rw [Zl0.2 h];decide),decide_eq_true h,Bool.true_and]
   exact Zsv hr c b m _ (fun x hx=>hl x (List.mem_of_mem_drop hx)) (by omega)
  ·rw [if_pos (by rw [decide_eq_false (fun h2=>h (Zl0.1 h2))];decide),decide_eq_false h,Bool.false_and];rfl
theorem Z1c {N W c m:Nat} {l:List QV} (hr:Z5 N (4 * W+40)) (hl:∀ x ∈ l,W3 x) (hq:X5 l≤W) (hc:0<c) (hcs:c≤1048576) (hll:l.length≤1048576) (hm:m * c=l.length) (hN:1048577<N):Zib N l (c:Int)=some (Tb c m l):=by
 have hmc:m≤l.length:=by rw [← hm];exact Nat.le_mul_of_pos_right m hc
 rw [Zib,Zlg,if_neg (dF (by omega)),Zli,Zlh,show (0:Int)=((0:Nat):Int) from rfl,Zqd N l c hc hll hcs m N 0 (by omega) (by omega),oB,List.drop_zero]
 exact Zsv hr c false m l hl hq
theorem Zvm {N W c:Nat} {l:List QV} (hr:Z5 N (4 * W+40)) (hl:∀ x ∈ l,W3 x) (hq:X5 l≤W) (hc:0<c) (hcs:c≤1048576) (hll:l.length≤1048576) (hN:1048577<N):∀ (m fuel i:Nat),i+m * c=l.length→m<fuel→Zb7 N l (c:Int) fuel (i:Int)=some (Tb c m (l.drop i))
 | 0,0,i,_,h=>by omega
 | 0,fuel+1,i,h1,_=>by
  rw [Zb7.eq_2,if_neg (dF (by omega))];rfl
 | m+1,0,i,_,h=>by omega
 | m+1,fuel+1,i,h1,h2=>by
  have h3:i+c+m * c=l.length:=by rw [Nat.add_mul,Nat.one_mul] at h1;omega
  have ht:=Ztu (l.drop i) c
  have hd:=Zts l i
  have hlim:∀ x ∈ (l.drop i).take c,W3 x:=fun x hx=>hl x (List.mem_of_mem_drop (List.mem_of_mem_take hx))
  obtain ⟨_,s2⟩:=Zrf (N:=N) (l:=(l.drop i).take c) hlim (hr.mono (by omega))
  have hlen:((l.drop i).take c).length≤1048576:=by rw [nK,List.length_drop];omega
  rw [Zb7.eq_2,if_pos (dT (by omega)),Zs (by omega),Z6 (by omega),show (i:Int)+(c:Int)=((i+c:Nat):Int) by omega,Int.toNat_natCast,Int.toNat_natCast,List.drop_take,show i+c - i=c by omega,Z2s hlim (by omega) (by omega) (hr.mono (by omega)),oB,Zva (hr.mono (by omega)),oB,Zok (a:=Xc _) (b:=Xc 1) (Zjt s2) Zmg (hr.mono (by omega)),oB,Qx,Qx,Tb]
  by_cases h:W1 ((l.drop i).take c)=1
  ·rw [if_neg (by rw [Zl0.2 h];decide),decide_eq_true h,Bool.true_and,List.drop_drop]
   exact Zvm hr hl hq hc hcs hll hN m fuel (i+c) (by omega) (by omega)
  ·rw [if_pos (by rw [decide_eq_false (fun h2=>h (Zl0.1 h2))];decide),decide_eq_false h,Bool.false_and]
def Zhk (vals:List R5) (P:List R1) (T:List (List QV)):Nat→Nat→Int
 | 0,_=>0
 | m+1,v=>if Tb (vals.getD v []).length (Ya vals (P.getD v []) 1) (T.getD v [])=true then Zhk vals P T m (v+1) else 46
theorem Zmh {vals:List R5} {P:List R1} {T:List (List QV)}:∀ (m v:Nat),Te vals P T m v=0→∀ i,v≤i→i<v+m→Ya vals (P.getD i []) 1 * (vals.getD i []).length=(T.getD i []).length∧(T.getD i []).length≤65536
 | 0,v,_,i,h1,h2=>by omega
 | m+1,v,h,i,h1,h2=>by
  rw [Te] at h
  by_cases h3:65536<Ya vals (P.getD v []) 1 * (vals.getD v []).length
  ·rw [if_pos h3] at h;cases h
  ·rw [if_neg h3] at h
   by_cases h4:Ya vals (P.getD v []) 1 * (vals.getD v []).length=(T.getD v []).length
   ·rw [if_neg (show ¬ Ya vals (P.getD v []) 1 * (vals.getD v []).length≠(T.getD v []).length from fun h=>h h4)] at h
    rcases Nat.lt_or_ge v i with h5 | h5
    ·exact Zmh m (v+1) h i (by omega) (by omega)
    ·have:i=v:=by omega
     subst this
     exact ⟨h4,by omega⟩
   ·rw [if_pos h4] at h;cases h
theorem Zsq {N W:Nat} {n:Z4} (hs:Vd n W) (he:Uy n) (hsh:Te n.2.2.1 n.2.2.2.1 n.2.2.2.2 n.2.1.length 0=0) (hr:Z5 N (8 * W+40)) (hN:1048577<N):∀ (l:List (List QV)) (k:Nat),n.2.2.2.2.drop k=l→k≤n.2.1.length→Zbo N n l k=some (Zhk n.2.2.1 n.2.2.2.1 n.2.2.2.2 l.length k)
 | [],k,_,_=>rfl
 | t :: l,k,hd,hk=>by
  have ht:=he.t;have hv:=he.v;have hp:=he.p
  have hk1:k<n.2.2.2.2.length:=by
   rcases Nat.lt_or_ge k n.2.2.2.2.length with h | h
   ·exact h
   ·rw [List.drop_eq_nil_of_le h] at hd;cases hd
  have hd2:=List.drop_eq_getElem_cons hk1
  rw [hd] at hd2
  obtain ⟨hx,hl2⟩:=List.cons.inj hd2
  have kv:k<n.2.2.1.length:=by omega
  have kp:k<n.2.2.2.1.length:=by omega
  have hm:t ∈ n.2.2.2.2:=by rw [hx];exact List.getElem_mem hk1
  have c1:=hs.vl _ (List.getElem_mem kv)
  have c0:0<n.2.2.1[k].length:=List.length_pos_iff.2 (he.ne _ (List.getElem_mem kv))
  obtain ⟨s1,s2⟩:=Zmh _ 0 hsh k (by omega) (by omega)
  rw [Yr kv,Yr hk1,← hx] at s1
  rw [Yr hk1,← hx] at s2
  have hq:=hs.tq t hm
  have hp2:=Zoa t
  have hf:=Zn9 t
  rw [Zbo.eq_2,Zv kv,oB,Zq9 (W:=W) (hr.mono (by omega)) (hs.lim t hm) hq (hs.tl t hm),oB,
   Z1c (W:=2 * W) (m:=Ya n.2.2.1 (n.2.2.2.1.getD k []) 1) (hr.mono (by omega)) (fun x hx=>by
    obtain ⟨y,hy,rfl⟩:=List.mem_map.1 hx
    exact Zq2 (hs.lim t hm y hy)) (by omega) c0 c1 (by rw [List.length_map];omega) (by rw [List.length_map];exact s1) hN,oB,Zs6,nC,Zhk,Yr kv,Yr hk1,← hx]
  cases Tb n.2.2.1[k].length (Ya n.2.2.1 (n.2.2.2.1.getD k []) 1) t with
  | true=>
   rw [if_neg (by decide),if_pos rfl]
   exact Zsq hs he hsh hr hN l (k+1) hl2.symm (by omega)
  | false=>rw [if_pos (by decide),if_neg (by decide)]
theorem Zvl {N W:Nat} {n:Z4} (hs:Vd n W) (he:Uy n) (hsh:Te n.2.2.1 n.2.2.2.1 n.2.2.2.2 n.2.1.length 0=0) (hr:Z5 N (8 * W+40)) (hN:1048577<N):∀ (m fuel v:Nat),m+v=n.2.1.length→m<fuel→
  Zat N n (n.2.2.1.map fun l=>(l.length:Int)) fuel (v:Int)=some (Zhk n.2.2.1 n.2.2.2.1 n.2.2.2.2 m v)
 | 0,0,v,_,h=>by omega
 | 0,fuel+1,v,h1,_=>by
  rw [Zat.eq_2,if_neg (dF (by omega))];rfl
 | m+1,0,v,_,h=>by omega
 | m+1,fuel+1,v,h1,h2=>by
  have ht:=he.t;have hv:=he.v;have hp:=he.p;have hnm:=hs.nm
  have kt:v<n.2.2.2.2.length:=by omega
  have kv:v<n.2.2.1.length:=by omega
  have hm:=List.getElem_mem kt
  have c1:=hs.vl _ (List.getElem_mem kv)
  have c0:0<n.2.2.1[v].length:=List.length_pos_iff.2 (he.ne _ (List.getElem_mem kv))
  obtain ⟨s1,s2⟩:=Zmh _ 0 hsh v (by omega) (by omega)
  rw [Yr kv,Yr kt] at s1
  rw [Yr kt] at s2
  have hmc:Ya n.2.2.1 (n.2.2.2.1.getD v []) 1≤n.2.2.2.2[v].length:=by rw [← s1];exact Nat.le_mul_of_pos_right _ c0
  have hw:=Zvm (N:=N) (W:=W) (c:=n.2.2.1[v].length) (l:=n.2.2.2.2[v]) (hr.mono (by omega)) (hs.lim _ hm) (hs.tq _ hm) c0 c1 (hs.tl _ hm) hN (Ya n.2.2.1 (n.2.2.2.1.getD v []) 1) N 0 (by omega) (by omega)
  rw [List.drop_zero,show ((0:Nat):Int)=0 from rfl] at hw
  rw [Zat.eq_2,if_pos (dT (by omega)),Zv kt,oB,Zmj kv,oB,Zlf,hw,oB,Zhk,Yr kv,Yr kt]
  cases Tb n.2.2.1[v].length (Ya n.2.2.1 (n.2.2.2.1.getD v []) 1) n.2.2.2.2[v] with
  | true=>
   rw [if_neg (by decide),if_pos rfl,Zs (by omega)]
   exact Zvl hs he hsh hr hN m fuel (v+1) (by omega) (by omega)
  | false=>rw [if_pos (by decide),if_neg (by decide)]
structure Wb (N:Nat) (n:Z4):Prop where
 ev:Uy n
 le:n.2.1.length≤1024
 nm:Ta n.2.1 n.2.2.1 n.2.1.length 0=0
 sh:Te n.2.2.1 n.2.2.2.1 n.2.2.2.2 n.2.1.length 0=0
 en:Ze0 n.2.2.2.2=false
 su:Zhk n.2.2.1 n.2.2.2.1 n.2.2.2.2 n.2.1.length 0=0
 tw:Uj n.2.2.2.1=false
 or:∃ l,Q9 N n.2.2.2.1=some (l,0)∧Sw N n.2.2.2.1=some l∧Sv N n.2.2.2.1=some 0∧U0 n.2.2.2.1 l∧l.length=n.2.2.2.1.length
theorem Zze {N W:Nat} {n:Z4} (hs:Vd n W) (hr:Z5 N (8 * W+40)) (hN:2000000<N):∃ e,Sm N n=some e∧Zb4 N n=some e∧(e=0→Wb N n):=by
 have hnm:=hs.nm
 -- shapes of the lists
 have J:∀ b:Bool,(b=true→Zbn N n b=some 60∧Zb5 N n b=some 60):=fun b hb=>by
  subst hb
  exact ⟨by rw [Zbn,if_pos rfl],by rw [Zb5,if_pos rfl]⟩
 have J1:=J true rfl
 rw [Sm,Zb4]
 by_cases hv:n.2.2.1.length=n.2.1.length
 ·by_cases hp:n.2.2.2.1.length=n.2.1.length
  ·by_cases ht:n.2.2.2.2.length=n.2.1.length
   ·rw [if_neg (by rw [decide_eq_true (by omega)];decide),if_neg (by rw [decide_eq_true (by omega)];decide),if_neg (by rw [decide_eq_true (by omega)];decide),if_neg (by rw [decide_eq_true (by omega)];decide),show (!decide ((n.2.2.2.2.length:Int)=(n.2.1.length:Int)))=false by rw [decide_eq_true (by omega)];rfl,Zbn,Zb5,if_neg (show ¬ (false=true) by decide),if_neg (show ¬ (false=true) by decide)]
    by_cases hk:1024<n.2.1.length
    ·rw [if_pos (dT (by omega)),if_pos (dT (by omega))]
     exact ⟨4,rfl,rfl,fun h=>by cases h⟩
    ·rw [if_neg (dF (by omega)),if_neg (dF (by omega))]
     have nn:Zfw (n.1,n.2.1,n.2.2.1,n.2.2.2.1,n.2.2.2.2)=some (Ta n.2.1 n.2.2.1 n.2.1.length 0):=Z1e n hv
     have rn:=Zu3 N n hv (by omega) hs.vl (by omega) n.2.1.length N 0 (by omega) (by omega)
     rw [show ((0:Nat):Int)=0 from rfl] at rn
     rw [nn,oB,rn]
     by_cases hnms:Ta n.2.1 n.2.2.1 n.2.1.length 0=0
     ·rw [if_neg (by rw [decide_eq_true hnms];decide),if_pos hnms]
      obtain ⟨f,hf⟩:∃ f,N - n.2.1.length=f+1:=⟨N - n.2.1.length - 1,by omega⟩
      rw [hf,Ty.eq_2,if_neg (dF (by omega))]
      have hne:∀ l ∈ n.2.2.1,l≠[]:=fun l hl=>by
       obtain ⟨i,hi,rfl⟩:=List.mem_iff_getElem.1 hl
       have:=(Zsz _ 0 hnms i (by omega) (by omega)).1
       rw [Yr hi] at this;exact this
      have fin:∀ e,Q8 N n.2.2.2.1=some e→Sv N n.2.2.2.1=some e→e≠0→∃ e,((Q8 N n.2.2.2.1).bind fun r_17=>if (!decide (r_17=0))=true then some r_17 else Zae N n n.2.2.2.2 0)=some e∧((Sv N n.2.2.2.1).bind fun r_76=>if (!decide (r_76=0))=true then some r_76 else (Zd5 N (n.1,n.2.1,n.2.2.1,n.2.2.2.1,n.2.2.2.2)).bind fun r_80=>Zas N n r_80 N 0)=some e∧(e=0→Wb N n):=fun e h1 h2 h3=>by
       rw [h1,h2,oB,oB,if_pos (by rw [decide_eq_false h3];decide),if_pos (by rw [decide_eq_false h3];decide)]
       exact ⟨e,rfl,rfl,fun h=>absurd h h3⟩
      rcases Zvu hs.pn hN with ⟨e,D,R,h3⟩ | ⟨_,_,l,_,_,_,_,D,R⟩ | ⟨hI,hT,l,ho,hok,hmx,hle,D,R⟩
      ·exact fin e (by rw [Q8,D];rfl) R (by rcases h3 with h | h <;> omega)
      ·exact fin 42 (by rw [Q8,D];rfl) R (by decide)
      ·have D':Q8 N n.2.2.2.1=some 0:=by rw [Q8,D];rfl
       have he:Uy n:=⟨hv,hp,ht,hI,hne⟩
       have hsz:Zd5 N (n.1,n.2.1,n.2.2.1,n.2.2.2.1,n.2.2.2.2)=some (n.2.2.1.map fun l=>(l.length:Int)):=Z25 (n:=n) (by omega) (by omega)
       have ms:=Zsp (N:=N) hs he n.2.2.2.2 0 (by simp) (by omega)
       have rs:=Zvi (N:=N) (by omega) hs he n.2.1.length N 0 (by omega) (by omega)
       rw [show ((0:Nat):Int)=0 from rfl] at rs
       rw [D',R,oB,oB,if_neg (by decide),if_neg (by decide),hsz,oB,ms,rs,ht]
       by_cases hsh:Te n.2.2.1 n.2.2.2.1 n.2.2.2.2 n.2.1.length 0=0
       ·have me:=Zse (N:=N) (n:=n) (W:=W) (hr.mono (by omega)) n.2.2.2.2 (fun t h=>⟨hs.tl t h,hs.tq t h,hs.lim t h⟩)
        have re:=Zup (N:=N) (n.2.2.1.map fun l=>(l.length:Int)) hs ht (hr.mono (by omega)) (by omega) n.2.1.length N 0 (by omega) (by omega)
        rw [show ((0:Nat):Int)=0 from rfl,List.drop_zero] at re
        rw [if_pos hsh,if_pos hsh,me,re]
        by_cases hen:Ze0 n.2.2.2.2=true
        ·rw [if_pos hen,if_pos hen]
         exact ⟨45,rfl,rfl,fun h=>by cases h⟩
        ·have m6:=Zsq (N:=N) hs he hsh hr (by omega) n.2.2.2.2 0 (by simp) (by omega)
         have r6:=Zvl (N:=N) hs he hsh hr (by omega) n.2.1.length N 0 (by omega) (by omega)
         rw [show ((0:Nat):Int)=0 from rfl] at r6
         rw [if_neg hen,if_neg hen,m6,r6,ht]
         exact ⟨_,rfl,rfl,fun h=>⟨he,by omega,hnms,hsh,Bool.eq_false_iff.2 hen,h,hT,l,D,ho,R,hok,hle⟩⟩
       ·rw [if_neg hsh,if_neg hsh]
        exact ⟨_,rfl,rfl,fun h=>absurd h hsh⟩
     ·rw [if_pos (by rw [decide_eq_false hnms];decide),if_neg hnms]
      exact ⟨_,rfl,rfl,fun h=>absurd h hnms⟩
   ·rw [if_neg (by rw [decide_eq_true (by omega)];decide),if_neg (by rw [decide_eq_true (by omega)];decide),if_neg (by rw [decide_eq_true (by omega)];decide),if_neg (by rw [decide_eq_true (by omega)];decide),decide_eq_false (by omega)]
    exact ⟨60,J1.1,J1.2,fun h=>by cases h⟩
  ·rw [if_neg (by rw [decide_eq_true (by omega)];decide),if_pos (by rw [decide_eq_false (by omega)];decide),if_neg (by rw [decide_eq_true (by omega)];decide),if_pos (by rw [decide_eq_false (by omega)];decide)]
   exact ⟨60,J1.1,J1.2,fun h=>by cases h⟩
 ·rw [if_pos (by rw [decide_eq_false (by omega)];decide),if_pos (by rw [decide_eq_false (by omega)];decide)]
  exact ⟨60,J1.1,J1.2,fun h=>by cases h⟩
def cnt (n:Z4) (v:Nat):Nat:=(n.2.2.1.getD v []).length
def Q2 (n:Z4) (w:List Int):List Int→Nat→Nat
 | [],r=>r
 | p :: ps,r=>Q2 n w ps (r * cnt n p.toNat+(w.getD p.toNat 0).toNat)
def Uu (n:Z4) (w:List Int) (v:Nat):Nat:=Q2 n w (n.2.2.2.1.getD v []) 0
structure W2 (n:Z4) (w:List Int):Prop where
 len:w.length=n.2.1.length
 ok:∀ i,i<w.length→0≤w.getD i 0∧w.getD i 0<(cnt n i:Int)
theorem Zhv {n:Z4} (he:Uy n) {v:Nat} (hv:v<n.2.1.length):0<cnt n v:=by
 have h1:v<n.2.2.1.length:=by rw [he.v];exact hv
 rw [cnt,Yr h1]
 exact List.length_pos_iff.2 (he.ne _ (List.getElem_mem h1))
theorem Zjr {n:Z4} (he:Uy n):∀ (ps:List Int) (k:Nat),(∀ p ∈ ps,0≤p∧p<(n.2.1.length:Int))→k≤1099511627776→k≤Ya n.2.2.1 ps k
 | [],k,_,_=>Nat.le_refl _
 | p :: ps,k,hp,hk=>by
  have h1:=hp p List.mem_cons_self
  have h2:0<(n.2.2.1.getD p.toNat []).length:=Zhv he (by omega)
  rw [Ya]
  have h3:k≤min (k * (n.2.2.1.getD p.toNat []).length) 1099511627776:=Nat.le_min.2 ⟨Nat.le_mul_of_pos_right k h2,hk⟩
  exact Nat.le_trans h3 (Zjr he ps _ (fun q hq=>hp q (List.mem_cons_of_mem _ hq)) (Nat.min_le_right _ _))
theorem Zon {n:Z4} (he:Uy n) {w:List Int} (hw:W2 n w) {p:Int} {ps:List Int} {r k:Nat} (hp:∀ q ∈ p :: ps,0≤q∧q<(n.2.1.length:Int)) (hr:r<k) (hk:k≤65536) (hb:Ya n.2.2.1 (p :: ps) k≤65536):
  r * cnt n p.toNat+(w.getD p.toNat 0).toNat<k * cnt n p.toNat∧k * cnt n p.toNat≤65536∧Ya n.2.2.1 ps (k * cnt n p.toNat)≤65536:=by
 have h1:=hp p List.mem_cons_self
 have h2:=hw.ok p.toNat (by rw [hw.len];omega)
 have h3:r * cnt n p.toNat+cnt n p.toNat≤k * cnt n p.toNat:=by
  have:=Nat.mul_le_mul_right (cnt n p.toNat) (show r+1≤k by omega)
  rwa [Nat.add_mul,Nat.one_mul] at this
 rw [Ya] at hb
 have h4:=Zjr he ps (min (k * (n.2.2.1.getD p.toNat []).length) 1099511627776) (fun q hq=>hp q (List.mem_cons_of_mem _ hq)) (Nat.min_le_right _ _)
 have h5:k * (n.2.2.1.getD p.toNat []).length≤1099511627776:=by
  rcases Nat.le_total (k * (n.2.2.1.getD p.toNat []).length) 1099511627776 with h | h
  ·exact h
  ·rw [Nat.min_eq_right h] at h4 hb;omega
 rw [Nat.min_eq_left h5] at h4 hb
 exact ⟨by omega,Nat.le_trans h4 hb,hb⟩
theorem Zvb {n:Z4} (he:Uy n) {w:List Int} (hw:W2 n w):∀ (ps:List Int) (r k:Nat),(∀ q ∈ ps,0≤q∧q<(n.2.1.length:Int))→r<k→k≤65536→Ya n.2.2.1 ps k≤65536→Q2 n w ps r<Ya n.2.2.1 ps k
 | [],r,k,_,hr,_,_=>hr
 | p :: ps,r,k,hp,hr,hk,hb=>by
  obtain ⟨h1,h2,h3⟩:=Zon he hw hp hr hk hb
  have:=Zvb he hw ps _ _ (fun q hq=>hp q (List.mem_cons_of_mem _ hq)) h1 h2 h3
  rw [Q2,Ya,Nat.min_eq_left (by rw [cnt] at h2;omega)]
  exact this
section
variable {N:Nat} {n:Z4} (hf:Wb N n)
include hf
theorem Wb.pars {v:Nat} (hv:v<n.2.1.length):∀ p ∈ n.2.2.2.1.getD v [],0≤p∧p<(n.2.1.length:Int):=fun p hp=>by
 have h1:v<n.2.2.2.1.length:=by rw [hf.ev.p];exact hv
 rw [Yr h1] at hp
 have:=hf.ev.par (List.getElem_mem h1) p hp
 rwa [hf.ev.v] at this
theorem Wb.rows {v:Nat} (hv:v<n.2.1.length):Ya n.2.2.1 (n.2.2.2.1.getD v []) 1 * cnt n v=(n.2.2.2.2.getD v []).length∧(n.2.2.2.2.getD v []).length≤65536∧Ya n.2.2.1 (n.2.2.2.1.getD v []) 1≤65536:=by
 have h1:=Zmh _ 0 hf.sh v (Nat.zero_le _) (by omega)
 have h2:=Zhv hf.ev hv
 refine ⟨h1.1,h1.2,?_⟩
 have h3:Ya n.2.2.1 (n.2.2.2.1.getD v []) 1≤Ya n.2.2.1 (n.2.2.2.1.getD v []) 1 * cnt n v:=Nat.le_mul_of_pos_right _ h2
 have h4:Ya n.2.2.1 (n.2.2.2.1.getD v []) 1 * cnt n v≤65536:=by
  have:=h1.1;rw [cnt,this];exact h1.2
 omega
theorem Wb.row {w:List Int} (hw:W2 n w) {v:Nat} (hv:v<n.2.1.length):Uu n w v * cnt n v+cnt n v≤(n.2.2.2.2.getD v []).length∧Uu n w v<65536:=by
 obtain ⟨h1,h2,h3⟩:=hf.rows hv
 have h4:=Zvb hf.ev hw _ 0 1 (hf.pars hv) (by omega) (by omega) h3
 have h5:=Nat.mul_le_mul_right (cnt n v) (show Uu n w v+1≤Ya n.2.2.1 (n.2.2.2.1.getD v []) 1 from h4)
 rw [Nat.add_mul,Nat.one_mul,h1] at h5
 exact ⟨h5,Nat.lt_of_lt_of_le h4 h3⟩
end
theorem Zzt:Wi prog 3 1 8:=⟨Tryz.t3,_,rfl,rfl,rfl,rfl,rfl⟩
def Zja (aa:List Int):Option R1:=
  Z0 ((([]:List Int).length+aa.length) * 8≤140737488355328∧([]:List Int).length+aa.length≤maxLen) (some (([]:List Int)++aa))
theorem Zy3 {ad:Nat} {a0:Option Addr} {col:Ze} {w0:World} {ac r:R1} (c1:Nat) (hm:Zja ac=some r) (h0:Sl (Za.int .i64) col w0 a0 ad ac):
    Calls prog 143 #[.slice a0 ac.length ad] w0 (fun e w'=>∃ (col':Ze) (ra1:Option Addr) (rc2:Nat),e= .returned ((.slice ra1 r.length rc2))∧Zf col w0 col' w'∧Zc (Za.int .i64) 3 c1 col' w' ra1 rc2 r):=by
 refine Z1 2 (m:=8) func143 rfl rfl rfl rfl rfl ?_;rw [Zja.eq_1] at hm;have aa:=St.start col w0;refine go ?_;replace h0:=h0.keep (Zh.start col w0);rcases Zsy h0 with ab | ab
 ·replace hm:some ([]:List Int)=some r:=by have h0:=ab.2;subst h0;simpa [Z0,maxLen] using hm
  refine lv (v:=.bool a0.isNone) rfl rfl (Zl5 underlying40 rfl)<|.ld (d:=4) (v:=.bool true) (congrArg Value.bool ab.1)<|Zo<|Ye rfl<|go ?_;cases hm;exact ⟨rfl,_,none,0,rfl,aa.fin (cm []),Zc.nil⟩
 refine lv (v:=.bool a0.isNone) rfl rfl (Zl5 underlying40 rfl)<|.ld (d:=4) (v:=.bool false) (congrArg Value.bool ab)<|Zo<|Yd rfl<|go ?_;refine Znu (col:=(Zg col)) (r:=(Za.int .i64)) 1 rfl underlying40 Zzt rfl ?_;intro aj ak al ae af;refine Yi rfl ?_;obtain ⟨ag,hm⟩:=Z3 hm;replace h0:=h0.gr ae;refine Wk af h0.srcC ag ?_;intro am an ao ap ah ai;refine go ?_;cases hm;replace aa:=(aa.grow ae).kpp ah;exact ⟨rfl,_,_,_,rfl,aa.fin (cm [(1,c1)]),aa.fo ai⟩
theorem Zzh {l:List Int} (h:l.length≤1099511627776):Zja l=some l:=by
 rw [Zja,Z6 (by simp only [nN,maxLen];omega),List.nil_append]
def Zfq (aa:Nat) (kk_L2:(Nat→Option Int)) (ab:Bool):Option Int:=
  if ab=true then (some 71) else (kk_L2 (aa+1))
def Qp (ab:R0) (kk_L1:(Option Int)):List Int→Nat→Option Int
  | [],aa=>kk_L1
  | ac :: ad,aa=>if (decide (ac<(-1)))=true then (Zfq aa (Qp ab kk_L1 ad) true) else ((Zl ab.2.2.1 (aa:Int)).bind fun ae=>Zfq aa (Qp ab kk_L1 ad) (decide ((ae.length:Int)≤ac)))
termination_by structural x=>x
def Qo (aa:R0):List R1→Option Int
  | []=>some 0
  | ab :: ac=>if (!decide ((ab.length:Int)=(aa.2.1.length:Int)))=true then (some 71) else (Qp aa (Qo aa ac) ab 0)
termination_by structural x=>x
def Zbm (N:Nat) (aa:R0) (ac:R4):Option Int:=
  (Sm N (aa.1,aa.2.1,aa.2.2.1,aa.2.2.2.1,aa.2.2.2.2)).bind fun ab=>if (!decide (ab=0))=true then (some ab) else (Qo aa ac)
theorem Zxo {N ai aj ak al bc:Nat} {am an ao ap a1:Option Addr} {col:Ze} {w0:World} {aa:R0} {ae:R4} {r:Int} (hm:Zbm N aa ae=some r) (a2:Sl Za.str col w0 am ai aa.2.1) (aq:Sl (Za.slice Za.str) col w0 an aj aa.2.2.1) (a3:Sl (Za.slice (Za.int .i64)) col w0 ao ak aa.2.2.2.1) (a4:Sl (Za.slice (Za.pair (Za.pair Za.bool (Za.slice (Za.int .u32))) (Za.slice (Za.int .u32)))) col w0 ap al aa.2.2.2.2) (h1:Sl (Za.slice (Za.int .i64)) col w0 a1 bc ae):
    Calls prog 107 #[(.agg #[.string aa.1,.slice am aa.2.1.length ai,.slice an aa.2.2.1.length aj,.slice ao aa.2.2.2.1.length ak,.slice ap aa.2.2.2.2.length al]),.slice a1 ae.length bc] w0 (fun e w'=>e= .returned ((.int .i64 r))∧Below w0.heap.size w0 w'):=by
 refine Z1 4 (m:=48) func107 rfl rfl rfl rfl rfl ?_;rw [Zbm.eq_1] at hm;have ab:=St.start col w0;refine go ?_;refine Xe (col:=(Zg col)) 1 rfl ?_;intro a5 bh bd bi ac;refine go ?_;refine lV _ (Xd isAgg27 sizeOf27 ac) ?_;obtain ⟨bw,bj,hm⟩:=bZ hm;replace a2:=a2.keep (Zh.start col w0);replace aq:=aq.keep (Zh.start col w0);replace a3:=a3.keep (Zh.start col w0);replace a4:=a4.keep (Zh.start col w0);replace ab:=ab.grow bi;refine Zi (Zpm bj (a2.ks ab) (aq.ks ab) (a3.ks ab) (a4.ks ab)) ?_;rintro _ bk ⟨rfl,aw⟩;refine ⟨_,rfl,?_⟩;replace aw:Zf bd bh bd bk:=.of_below aw;refine go ?_;replace h1:=h1.keep (Zh.start col w0);replace ac:=ac.gr aw;replace ab:=ab.grow aw;refine Zm hm (fun hb hm=>go ?_) fun hb hm=>go ?_
 ·cases hm;exact ⟨rfl,rfl,ab.below⟩
 refine Zu [15,16,2,1000000] (fun n f a6=>∃ a7 ar au,n=au.length∧ae.drop ar=au∧Qo aa au=some r∧St w0 (Zg col) a7 a6∧Zk 27 1 a7 a6 a5 #[.string aa.1,.slice am aa.2.1.length ai,.slice an aa.2.2.1.length aj,.slice ao aa.2.2.2.1.length ak,.slice ap aa.2.2.2.2.length al]∧[17].map f=[.int .i64 ar]) ae.length ⟨_,0,_,rfl,rfl,hm,ab,ac,rfl⟩ ?_;clear hm;intro n f a6 hI;obtain ⟨a7,ar,au,hn,hl,hm,ab,ac,hs⟩:=hI;subst hn;refine .lL [17] hs ?_
 cases au with
 | nil=>
  have hk:¬ ((ar:Int)<(ae.length:Int)):=by have:=List.drop_eq_nil_iff.1 hl;omega
  have hkb:=decide_eq_false hk;rw [Qo.eq_1] at hm;refine go ?_;refine Yd (congrArg Value.bool hkb)<|go ?_;cases hm;exact ⟨rfl,rfl,ab.below⟩
 | cons ah a8=>
  obtain ⟨af,bm,bn⟩:=Yn hl;have hk:(ar:Int)<(ae.length:Int):=by omega
  have hkb:=decide_eq_true hk;rw [Qo.eq_2] at hm;refine go ?_;refine Ye (congrArg Value.bool hkb)<|go ?_;refine lI af ((h1.ks ab).addr af) ?_;obtain ⟨_,bo,bp⟩:=(h1.ks ab).atN af;obtain ⟨⟨be,bf,rfl,ad⟩,_⟩:=bo;refine lW bp.one<|go ?_;refine Z9 ac ?_;refine go ?_;refine Zm hm (fun hb hm=>go ?_) fun hb hm=>go ?_
  ·cases hm;exact ⟨rfl,rfl,ab.below⟩
  refine Zu [15,16,17,2,27,28,1000000] (fun n f ax=>∃ ay ag av,n=av.length∧ah.drop ag=av∧Qp aa (Qo aa a8) av ag=some r∧St w0 (Zg col) ay ax∧Zk 27 1 ay ax a5 #[.string aa.1,.slice am aa.2.1.length ai,.slice an aa.2.2.1.length aj,.slice ao aa.2.2.2.1.length ak,.slice ap aa.2.2.2.2.length al]∧Sl (Za.int .i64) ay ax be bf ah∧[29].map f=[.int .i64 ag]) ah.length ⟨_,0,_,rfl,rfl,hm,ab,ac,ad,rfl⟩ ?_;clear hm;intro n f ax hI;obtain ⟨ay,ag,av,hn,hl,hm,ab,ac,ad,hs⟩:=hI;subst hn;refine .lL [29] hs ?_
  cases av with
  | nil=>
   have hk:¬ ((ag:Int)<(ah.length:Int)):=by have:=List.drop_eq_nil_iff.1 hl;omega
   have hkb:=decide_eq_false hk;rw [Qp.eq_1] at hm;refine go ?_;refine Yd (congrArg Value.bool hkb)<|go ?_;exact ⟨a8.length,by simp,rfl,⟨_,_,_,rfl,bm,hm,ab,ac,(Yq (congrArg (Value.int .i64) (Yj (Nat.lt_of_lt_of_le bn (h1.ks ab).1.1))) rfl)⟩⟩
  | cons bq bg=>
   obtain ⟨af,br,bs⟩:=Yn hl;have hk:(ag:Int)<(ah.length:Int):=by omega
   have hkb:=decide_eq_true hk;rw [Qp.eq_2] at hm;refine go ?_;refine Ye (congrArg Value.bool hkb)<|go ?_;refine lI af (ad.addr af)<|lW (ad.atInt af)<|Yh rfl<|Yh rfl<|Zo<|Zt ?_;refine Wp.cutK [15,16,17,2,27,28,29,1000000] (fun f az=>∃ a0 a9,Zfq ag (Qp aa (Qo aa a8) bg) a9=some r∧St w0 (Zg col) a0 az∧Zk 27 1 a0 az a5 #[.string aa.1,.slice am aa.2.1.length ai,.slice an aa.2.2.1.length aj,.slice ao aa.2.2.2.1.length ak,.slice ap aa.2.2.2.2.length al]∧Sl (Za.int .i64) a0 az be bf ah∧[45].map f=[.bool a9]) ?_ ?_
   ·intro f az hJ;obtain ⟨a0,a9,hm,ab,ac,ad,hs⟩:=hJ;rw [Zfq.eq_1] at hm;refine .lL [45] hs ?_;refine Zm hm (fun hb hm=>go ?_) fun hb hm=>go ?_
    ·cases hm;exact ⟨rfl,rfl,ab.below⟩
    exact ⟨bg.length,by simp,rfl,⟨_,_,_,rfl,br,hm,ab,ac,ad,(Yq (congrArg (Value.int .i64) (Yj (Nat.lt_of_lt_of_le bs ad.1.1))) rfl)⟩⟩
   refine go ?_;refine Xu hm (fun ba hm=>go ?_) fun ba hm=>go ?_
   ·refine lV (.bool true) (Xg (congrArg Value.bool ba) rfl)<|Zo ?_;exact ⟨rfl,_,_,hm,ab,ac,ad,rfl⟩
   refine Xv ⟨_,_,rfl⟩ ?_;refine go ?_;refine lW ((ac.atN).nth (q:=2) rfl)<|go ?_;obtain ⟨bt,bb,hm⟩:=bZ hm;refine lI bb ((aq.ks ab).addr bb) ?_;refine go ?_;obtain ⟨_,bu,bv⟩:=(aq.ks ab).atN bb;obtain ⟨⟨bx,bz,rfl,b0⟩,_⟩:=bu;refine lW bv.one<|go ?_;refine lV (.bool (decide ((bt.length:Int)≤bq))) (Xt (congrArg Value.bool ba) rfl)<|Zo ?_;exact ⟨rfl,_,_,hm,ab,ac,ad,rfl⟩
def Zfi (aa:Nat) (kk_L2:(Nat→Option Int)) (ab:Bool):Option Int:=
  if ab=true then (some 71) else (kk_L2 (aa+1))
def Qk (ab:R0) (kk_L1:(Option Int)):List Int→Nat→Option Int
  | [],aa=>kk_L1
  | ac :: ad,aa=>if (decide (ac<(-1)))=true then (Zfi aa (Qk ab kk_L1 ad) true) else ((Zl ab.2.2.1 (aa:Int)).bind fun ae=>Zfi aa (Qk ab kk_L1 ad) (decide ((ae.length:Int)≤ac)))
termination_by structural x=>x
def Qj (aa:R0):List R1→Option Int
  | []=>some 0
  | ab :: ac=>if (!decide ((ab.length:Int)=(aa.2.1.length:Int)))=true then (some 71) else (Qk aa (Qj aa ac) ab 0)
termination_by structural x=>x
def Zh3 (N:Nat) (aa:R0) (ac:R4):Option Int:=
  (Sm N (aa.1,aa.2.1,aa.2.2.1,aa.2.2.2.1,aa.2.2.2.2)).bind fun ab=>if (!decide (ab=0))=true then (some ab) else (Qj aa ac)
theorem Zxd {N ai aj ak al bc:Nat} {am an ao ap a1:Option Addr} {col:Ze} {w0:World} {aa:R0} {ae:R4} {r:Int} (hm:Zh3 N aa ae=some r) (a2:Sl Za.str col w0 am ai aa.2.1) (aq:Sl (Za.slice Za.str) col w0 an aj aa.2.2.1) (a3:Sl (Za.slice (Za.int .i64)) col w0 ao ak aa.2.2.2.1) (a4:Sl (Za.slice (Za.pair (Za.pair Za.bool (Za.slice (Za.int .u32))) (Za.slice (Za.int .u32)))) col w0 ap al aa.2.2.2.2) (h1:Sl (Za.slice (Za.int .i64)) col w0 a1 bc ae):
    Calls prog 215 #[(.agg #[.string aa.1,.slice am aa.2.1.length ai,.slice an aa.2.2.1.length aj,.slice ao aa.2.2.2.1.length ak,.slice ap aa.2.2.2.2.length al]),.slice a1 ae.length bc] w0 (fun e w'=>e= .returned ((.int .i64 r))∧Below w0.heap.size w0 w'):=by
 refine Z1 4 (m:=48) func215 rfl rfl rfl rfl rfl ?_;rw [Zh3.eq_1] at hm;have ab:=St.start col w0;refine go ?_;refine Xe (col:=(Zg col)) 1 rfl ?_;intro a5 bh bd bi ac;refine go ?_;refine lV _ (Xd isAgg27 sizeOf27 ac) ?_;obtain ⟨bw,bj,hm⟩:=bZ hm;replace a2:=a2.keep (Zh.start col w0);replace aq:=aq.keep (Zh.start col w0);replace a3:=a3.keep (Zh.start col w0);replace a4:=a4.keep (Zh.start col w0);replace ab:=ab.grow bi;refine Zi (Zpm bj (a2.ks ab) (aq.ks ab) (a3.ks ab) (a4.ks ab)) ?_;rintro _ bk ⟨rfl,aw⟩;refine ⟨_,rfl,?_⟩;replace aw:Zf bd bh bd bk:=.of_below aw;refine go ?_;replace h1:=h1.keep (Zh.start col w0);replace ac:=ac.gr aw;replace ab:=ab.grow aw;refine Zm hm (fun hb hm=>go ?_) fun hb hm=>go ?_
 ·cases hm;exact ⟨rfl,rfl,ab.below⟩
 refine Zu [15,16,2,1000000] (fun n f a6=>∃ a7 ar au,n=au.length∧ae.drop ar=au∧Qj aa au=some r∧St w0 (Zg col) a7 a6∧Zk 27 1 a7 a6 a5 #[.string aa.1,.slice am aa.2.1.length ai,.slice an aa.2.2.1.length aj,.slice ao aa.2.2.2.1.length ak,.slice ap aa.2.2.2.2.length al]∧[17].map f=[.int .i64 ar]) ae.length ⟨_,0,_,rfl,rfl,hm,ab,ac,rfl⟩ ?_;clear hm;intro n f a6 hI;obtain ⟨a7,ar,au,hn,hl,hm,ab,ac,hs⟩:=hI;subst hn;refine .lL [17] hs ?_
 cases au with
 | nil=>
  have hk:¬ ((ar:Int)<(ae.length:Int)):=by have:=List.drop_eq_nil_iff.1 hl;omega
  have hkb:=decide_eq_false hk;rw [Qj.eq_1] at hm;refine go ?_;refine Yd (congrArg Value.bool hkb)<|go ?_;cases hm;exact ⟨rfl,rfl,ab.below⟩
 | cons ah a8=>
  obtain ⟨af,bm,bn⟩:=Yn hl;have hk:(ar:Int)<(ae.length:Int):=by omega
  have hkb:=decide_eq_true hk;rw [Qj.eq_2] at hm;refine go ?_;refine Ye (congrArg Value.bool hkb)<|go ?_;refine lI af ((h1.ks ab).addr af) ?_;obtain ⟨_,bo,bp⟩:=(h1.ks ab).atN af;obtain ⟨⟨be,bf,rfl,ad⟩,_⟩:=bo;refine lW bp.one<|go ?_;refine Z9 ac ?_;refine go ?_;refine Zm hm (fun hb hm=>go ?_) fun hb hm=>go ?_
  ·cases hm;exact ⟨rfl,rfl,ab.below⟩
  refine Zu [15,16,17,2,27,28,1000000] (fun n f ax=>∃ ay ag av,n=av.length∧ah.drop ag=av∧Qk aa (Qj aa a8) av ag=some r∧St w0 (Zg col) ay ax∧Zk 27 1 ay ax a5 #[.string aa.1,.slice am aa.2.1.length ai,.slice an aa.2.2.1.length aj,.slice ao aa.2.2.2.1.length ak,.slice ap aa.2.2.2.2.length al]∧Sl (Za.int .i64) ay ax be bf ah∧[29].map f=[.int .i64 ag]) ah.length ⟨_,0,_,rfl,rfl,hm,ab,ac,ad,rfl⟩ ?_;clear hm;intro n f ax hI;obtain ⟨ay,ag,av,hn,hl,hm,ab,ac,ad,hs⟩:=hI;subst hn;refine .lL [29] hs ?_
  cases av with
  | nil=>
   have hk:¬ ((ag:Int)<(ah.length:Int)):=by have:=List.drop_eq_nil_iff.1 hl;omega
   have hkb:=decide_eq_false hk;rw [Qk.eq_1] at hm;refine go ?_;refine Yd (congrArg Value.bool hkb)<|go ?_;exact ⟨a8.length,by simp,rfl,⟨_,_,_,rfl,bm,hm,ab,ac,(Yq (congrArg (Value.int .i64) (Yj (Nat.lt_of_lt_of_le bn (h1.ks ab).1.1))) rfl)⟩⟩
  | cons bq bg=>
   obtain ⟨af,br,bs⟩:=Yn hl;have hk:(ag:Int)<(ah.length:Int):=by omega
   have hkb:=decide_eq_true hk;rw [Qk.eq_2] at hm;refine go ?_;refine Ye (congrArg Value.bool hkb)<|go ?_;refine lI af (ad.addr af)<|lW (ad.atInt af)<|Yh rfl<|Yh rfl<|Zo<|Zt ?_;refine Wp.cutK [15,16,17,2,27,28,29,1000000] (fun f az=>∃ a0 a9,Zfi ag (Qk aa (Qj aa a8) bg) a9=some r∧St w0 (Zg col) a0 az∧Zk 27 1 a0 az a5 #[.string aa.1,.slice am aa.2.1.length ai,.slice an aa.2.2.1.length aj,.slice ao aa.2.2.2.1.length ak,.slice ap aa.2.2.2.2.length al]∧Sl (Za.int .i64) a0 az be bf ah∧[45].map f=[.bool a9]) ?_ ?_
   ·intro f az hJ;obtain ⟨a0,a9,hm,ab,ac,ad,hs⟩:=hJ;rw [Zfi.eq_1] at hm;refine .lL [45] hs ?_;refine Zm hm (fun hb hm=>go ?_) fun hb hm=>go ?_
    ·cases hm;exact ⟨rfl,rfl,ab.below⟩
    exact ⟨bg.length,by simp,rfl,⟨_,_,_,rfl,br,hm,ab,ac,ad,(Yq (congrArg (Value.int .i64) (Yj (Nat.lt_of_lt_of_le bs ad.1.1))) rfl)⟩⟩
   refine go ?_;refine Xu hm (fun ba hm=>go ?_) fun ba hm=>go ?_
   ·refine lV (.bool true) (Xg (congrArg Value.bool ba) rfl)<|Zo ?_;exact ⟨rfl,_,_,hm,ab,ac,ad,rfl⟩
   refine Xv ⟨_,_,rfl⟩ ?_;refine go ?_;refine lW ((ac.atN).nth (q:=2) rfl)<|go ?_;obtain ⟨bt,bb,hm⟩:=bZ hm;refine lI bb ((aq.ks ab).addr bb) ?_;refine go ?_;obtain ⟨_,bu,bv⟩:=(aq.ks ab).atN bb;obtain ⟨⟨bx,bz,rfl,b0⟩,_⟩:=bu;refine lW bv.one<|go ?_;refine lV (.bool (decide ((bt.length:Int)≤bq))) (Xt (congrArg Value.bool ba) rfl)<|Zo ?_;exact ⟨rfl,_,_,hm,ab,ac,ad,rfl⟩
def Zab (ac:R0) (aa:List Int) (kk_L1:(List Int→Option Rb)) (ad:List Int):List Int→Int→Option Rb
  | [],ab=>(Zl aa ab).bind fun ag=>(some (aa.set (Int.toNat ab) (i64.wrap (ag+1)))).bind fun ah=>kk_L1 ah
  | ae :: ai,ab=>(Zl ad ae).bind fun af=>if (decide (af<0))=true then (kk_L1 aa) else ((Zl ac.2.2.1 ae).bind fun aj=>(Zab ac aa kk_L1 ad ai) (i64.wrap ((i64.wrap (ab * (aj.length:Int)))+af)))
termination_by structural x=>x
def Qi (ab:R0) (aa:Int):List R1→R1→Option Rb
  | [],ac=>some (ac,0)
  | ae :: af,ac=>(Zl ab.2.2.2.1 aa).bind fun ag=>(Zja ag).bind fun ad=>Z0 ((ad.length+[aa].length) * 8≤140737488355328∧ad.length+[aa].length≤maxLen) (Zab ab ac (Qi ab aa af) ae (ad++[aa]) 0)
termination_by structural x=>x
def Zh2 (ab:R0) (ad:R4) (ac:Int) (ae:Bool):Option Rb:=
  if ae=true then (some (([]:List Int),3)) else ((Zl ab.2.2.2.2 ac).bind fun aa=>Z0 (aa.length * 8≤281474976710656∧aa.length≤maxLen) (Qi ab ac ad (List.replicate aa.length (0:Int))))
def Zfh (N:Nat) (aa:R0) (ac:R4) (ab:Int):Option Rb:=
  (Zh3 N (aa.1,aa.2.1,aa.2.2.1,aa.2.2.2.1,aa.2.2.2.2) ac).bind fun ad=>if (!decide (ad=0))=true then (some (([]:List Int),ad)) else (if (decide (ab<0))=true then (Zh2 aa ac ab true) else (Zh2 aa ac ab (decide ((aa.2.1.length:Int)≤ab))))
theorem Zxc {N al am an ao bj:Nat} {ap aq ar au a1:Option Addr} {col:Ze} {w0:World} {ab:R0} {ah:R4} {ad:Int} {r:Rb} (c1:Nat) (hm:Zfh N ab ah ad=some r) (bk:Sl Za.str col w0 ap al ab.2.1) (a0:Sl (Za.slice Za.str) col w0 aq am ab.2.2.1) (a2:Sl (Za.slice (Za.int .i64)) col w0 ar an ab.2.2.2.1) (a3:Sl (Za.slice (Za.pair (Za.pair Za.bool (Za.slice (Za.int .u32))) (Za.slice (Za.int .u32)))) col w0 au ao ab.2.2.2.2) (h1:Sl (Za.slice (Za.int .i64)) col w0 a1 bj ah):
    Calls prog 110 #[(.agg #[.string ab.1,.slice ap ab.2.1.length al,.slice aq ab.2.2.1.length am,.slice ar ab.2.2.2.1.length an,.slice au ab.2.2.2.2.length ao]),.slice a1 ah.length bj,.int .i64 ad] w0 (fun e w'=>∃ (col':Ze) (ra1:Option Addr) (rc2:Nat),e= .returned (.tuple #[.slice ra1 r.1.length rc2,.int .i64 r.2])∧Zf col w0 col' w'∧Zc (Za.int .i64) 3 c1 col' w' ra1 rc2 r.1):=by
 refine Zko 6 7 (m:=84) (args:=[(.agg #[.string ab.1,.slice ap ab.2.1.length al,.slice aq ab.2.2.1.length am,.slice ar ab.2.2.2.1.length an,.slice au ab.2.2.2.2.length ao]),.slice a1 ah.length bj,.int .i64 ad]) func110 rfl rfl rfl rfl rfl ?_;rw [Zfh.eq_1] at hm;have aa:=St.start col w0;refine go ?_;refine Xe (col:=(Zg col)) 1 rfl ?_;intro bm b5 bv b6 ac;refine go ?_;refine Z3r<|go ?_;refine lV _ (Xd isAgg27 sizeOf27 ac)<|Yi rfl ?_;obtain ⟨cx,b7,hm⟩:=bZ hm;replace bk:=bk.keep (Zh.start col w0);replace a0:=a0.keep (Zh.start col w0);replace a2:=a2.keep (Zh.start col w0);replace a3:=a3.keep (Zh.start col w0);replace h1:=h1.keep (Zh.start col w0);replace aa:=aa.grow b6;refine Zi (Zxd b7 (bk.ks aa) (a0.ks aa) (a2.ks aa) (a3.ks aa) (h1.ks aa)) ?_;rintro _ b8 ⟨rfl,ba⟩;refine ⟨_,rfl,?_⟩;replace ba:Zf bv b5 bv b8:=.of_below ba;refine go ?_;replace ac:=ac.gr ba;replace aa:=aa.grow ba;refine Zm hm (fun hb hm=>go ?_) fun hb hm=>?_
 ·cases hm;exact ⟨rfl,_,none,0,rfl,aa.fin (cm []),Zc.nil⟩
 refine Xr<|Zt<|Zt ?_;refine Wp.cutK [1,2,3,1000000] (fun f bb=>∃ bc bn,Zh2 ab ah ad bn=some r∧St w0 (Zg col) bc bb∧Zk 27 1 bc bb bm #[.string ab.1,.slice ap ab.2.1.length al,.slice aq ab.2.2.1.length am,.slice ar ab.2.2.2.1.length an,.slice au ab.2.2.2.2.length ao]∧[29].map f=[.bool bn]) ?_ ?_
 ·intro f bb hJ;obtain ⟨bc,bn,hm,aa,ac,hs⟩:=hJ;rw [Zh2.eq_1] at hm;refine .lL [29] hs ?_;refine Zm hm (fun hb hm=>go ?_) fun hb hm=>go ?_
  ·cases hm;exact ⟨rfl,_,none,0,rfl,aa.fin (cm []),Zc.nil⟩
  refine Z9 ac<|Xn rfl ?_;obtain ⟨b9,bo,hm⟩:=bZ hm;refine lI bo ((a3.ks aa).addr bo) ?_;obtain ⟨_,ca,cb⟩:=(a3.ks aa).atN bo;obtain ⟨⟨cy,cz,rfl,c0⟩,_⟩:=ca;refine lW cb.one<|go ?_;obtain ⟨bw,hm⟩:=Z3 hm;refine Si (col:=bc) (w:=bb) (r:=(Za.int .i64)) (n:=b9.length) (x0:=0) 2 rfl underlying40 Tryz.t3 rfl rfl rfl rfl rfl rfl rfl bw.1 bw.2 (Q1 .i64 0) ?_;intro c2 c3 c4 bx cc;refine go ?_;refine Z3m<|go ?_;replace ac:=ac.gr bx;replace aa:=aa.grow bx;refine Zu [2,3,37,38,1000000] (fun n f bd=>∃ be a4 av aw ai a5,n=a5.length∧ah.drop a4=a5∧Qi ab ad a5 ai=some r∧St w0 (Zg col) be bd∧Zk 27 1 be bd bm #[.string ab.1,.slice ap ab.2.1.length al,.slice aq ab.2.2.1.length am,.slice ar ab.2.2.2.1.length an,.slice au ab.2.2.2.2.length ao]∧Zc (Za.int .i64) 3 2 be bd av aw ai∧[39,9].map f=[.int .i64 a4,.slice av ai.length aw]) ah.length ⟨_,0,_,_,_,_,rfl,rfl,hm,aa,ac,cc,rfl⟩ ?_;clear hm;intro n f bd hI;obtain ⟨be,a4,av,aw,ai,a5,hn,hl,hm,aa,ac,ae,hs⟩:=hI;subst hn;refine .lL [39,9] hs ?_
  cases a5 with
  | nil=>
   have hk:¬ ((a4:Int)<(ah.length:Int)):=by have:=List.drop_eq_nil_iff.1 hl;omega
   have hkb:=decide_eq_false hk;rw [Qi.eq_1] at hm;refine go ?_;refine Yd (congrArg Value.bool hkb)<|go ?_;cases hm;exact ⟨rfl,_,_,_,rfl,aa.fin (cm [(2,c1)]),aa.fo ae⟩
  | cons bz bp=>
   obtain ⟨ak,b0,b1⟩:=Yn hl;have hk:(a4:Int)<(ah.length:Int):=by omega
   have hkb:=decide_eq_true hk;rw [Qi.eq_2] at hm;refine go ?_;refine Ye (congrArg Value.bool hkb)<|go ?_;refine lI ak ((h1.ks aa).addr ak) ?_;obtain ⟨_,cd,ce⟩:=(h1.ks aa).atN ak;obtain ⟨⟨cf,cg,rfl,af⟩,_⟩:=cd;refine lW ce.one<|go ?_;refine Z9 ac<|Xn rfl ?_;obtain ⟨c5,bq,hm⟩:=bZ hm;refine lI bq ((a2.ks aa).addr bq) ?_;obtain ⟨_,ch,ci⟩:=(a2.ks aa).atN bq;obtain ⟨⟨c6,c7,rfl,cj⟩,_⟩:=ch;refine lW ci.one ?_;obtain ⟨a6,ck,hm⟩:=bZ hm;refine Zi (Zy3 3 ck cj) ?_;rintro _ c8 ⟨cl,c9,da,rfl,bf,br⟩;refine ⟨_,rfl,?_⟩;refine Xn rfl<|W5 (col:=cl) [ad] 4 ?_;intro db dc dd a7 cn;obtain ⟨co,hm⟩:=Z3 hm;replace br:=br.gr a7;refine Wk br (cn.srcN (NB.int (k:=.i64))) co ?_;intro cp cq de df bg aj;refine go ?_;replace ae:=((ae.gr bf).gr a7).kpp bg;replace af:=((af.gr bf).gr a7).kpp bg;replace ac:=((ac.gr bf).gr a7).kpp bg;replace aa:=((aa.grow bf).grow a7).kpp bg;refine Zu [11,2,3,37,38,39,51,52,9,1000000] (fun n f ax=>∃ ag bh a8 a9,n=a9.length∧(a6++[ad]).drop a8=a9∧Zab ab ai (Qi ab ad bp) bz a9 bh=some r∧St w0 (Zg col) ag ax∧Sl (Za.int .i64) ag ax cf cg bz∧Zk 27 1 ag ax bm #[.string ab.1,.slice ap ab.2.1.length al,.slice aq ab.2.2.1.length am,.slice ar ab.2.2.2.1.length an,.slice au ab.2.2.2.2.length ao]∧Zc (Za.int .i64) 3 3 ag ax cp cq (a6++[ad])∧Zc (Za.int .i64) 3 2 ag ax av aw ai∧[53,12].map f=[.int .i64 a8,.int .i64 bh]) (a6++[ad]).length ⟨_,0,0,_,rfl,rfl,hm,aa,af,ac,aj,ae,rfl⟩ ?_;clear hm;intro n f ax hI;obtain ⟨ag,bh,a8,a9,hn,hl,hm,aa,af,ac,aj,ae,hs⟩:=hI;subst hn;refine .lL [53,12] hs ?_
   cases a9 with
   | nil=>
    have hk:¬ ((a8:Int)<((a6++[ad]).length:Int)):=by have:=List.drop_eq_nil_iff.1 hl;omega
    have hkb:=decide_eq_false hk;rw [Zab.eq_1] at hm;refine go ?_;refine Yd (congrArg Value.bool hkb)<|go ?_;obtain ⟨b2,ay,hm⟩:=bZ hm;refine lI ay (ae.addr ay)<|lW (ae.atInt ay) ?_;refine go ?_;refine lI ay (ae.addr ay) ?_;obtain ⟨bs,bi,hm⟩:=bZ hm;have bi:bs=ai.set (Int.toNat bh) (i64.wrap (b2+1)):=(Option.some.inj bi).symm;refine Yu (x1:=i64.wrap (b2+1)) ae ay ?_;intro dg b3 cr b4;rw [← bi] at b4;refine .ld (d:=9) (v:=(.slice av bs.length aw)) (congrArg (fun n=>Value.slice av n aw) (show ai.length=bs.length by rw [bi,nS])) ?_;refine go ?_;replace ac:=ac.kp b3;replace aa:=aa.kp b3 cr;exact ⟨bp.length,by simp,rfl,⟨_,_,_,_,_,_,rfl,b0,hm,aa,ac,b4,(Yq (congrArg (Value.int .i64) (Yj (Nat.lt_of_lt_of_le b1 (h1.ks aa).1.1))) rfl)⟩⟩
   | cons dh cs=>
    obtain ⟨ak,ct,cu⟩:=Yn hl;have hk:(a8:Int)<((a6++[ad]).length:Int):=by omega
    have hkb:=decide_eq_true hk;rw [Zab.eq_2] at hm;refine go ?_;refine Ye (congrArg Value.bool hkb)<|go ?_;refine lI ak (aj.addr ak)<|lW (aj.atInt ak) ?_;refine go ?_;obtain ⟨di,az,hm⟩:=bZ hm;refine lI az (af.addr az)<|lW (af.atInt az) ?_;refine go ?_;refine Zm hm (fun hb hm=>?_) fun hb hm=>?_
    ·refine Zjy (Zns rfl (Zns rfl (Zhx ?_)));refine go ?_;exact ⟨bp.length,by simp,rfl,⟨_,_,_,_,_,_,rfl,b0,hm,aa,ac,ae,(Yq (congrArg (Value.int .i64) (Yj (Nat.lt_of_lt_of_le b1 (h1.ks aa).1.1))) rfl)⟩⟩
    refine Xr<|Ys (col:=ag) (by kernel_rfl) (by kernel_rfl)<|go ?_;refine qF ⟨_,_,rfl⟩ ?_;refine qW (fun _ hC=>((ac.atN).nth (q:=2) rfl).gr (hC.bl ag)) ?_;refine go ?_;obtain ⟨dj,bt,hm⟩:=bZ hm;refine qI bt ((a0.ks aa).addr bt) ?_;obtain ⟨_,cv,cw⟩:=(a0.ks aa).atN bt;obtain ⟨⟨dl,dm,rfl,dn⟩,_⟩:=cv;refine qW (fun _ hC=>cw.one.gr (hC.bl ag)) ?_;refine go ?_;refine qI az (af.addr az)<|qW (fun _ hC=>(af.gr (hC.bl ag)).atInt az) ?_;refine go ?_;refine X9 ?_;intro dp hC;replace hC:=hC.bl ag;refine go ?_;replace af:=af.gr hC;replace aj:=aj.gr hC;replace ae:=ae.gr hC;replace ac:=ac.gr hC;replace aa:=aa.grow hC;exact ⟨cs.length,by simp,rfl,⟨_,_,_,_,rfl,ct,hm,aa,af,ac,aj,ae,(Yq (congrArg (Value.int .i64) (Yj (Nat.lt_of_lt_of_le cu aj.len))) rfl)⟩⟩
 refine go ?_;refine Xu hm (fun bu hm=>go ?_) fun bu hm=>go ?_
 ·refine lV (.bool true) (Xg (congrArg Value.bool bu) rfl)<|Zo ?_;exact ⟨rfl,_,_,hm,aa,ac,rfl⟩
 refine Xv ⟨_,_,rfl⟩ ?_;refine go ?_;refine lW ((ac.atN).nth (q:=1) rfl)<|go ?_;refine lV (.bool (decide ((ab.2.1.length:Int)≤ad))) (Xt (congrArg Value.bool bu) rfl)<|Zo ?_;exact ⟨rfl,_,_,hm,aa,ac,rfl⟩
def Zg8 (aa:Int) (kk_L2:(Int→Option Int)) (ab:Bool):Option Int:=
  if ab=true then (some 71) else (kk_L2 (i64.wrap (aa+1)))
def Za0 (N:Nat) (ac:R0) (ad:R4) (ab:Int) (kk_L1:(Int→Option Int)):Nat→Int→Option Int
  | 0,_=>none
  | ae+1,aa=>(Zl ad ab).bind fun af=>if (decide (aa<(af.length:Int)))=true then ((Zl af aa).bind fun ag=>if (decide (ag<(-1)))=true then (Zg8 aa (Za0 N ac ad ab kk_L1 ae) true) else ((Zl ac.2.2.1 aa).bind fun ah=>Zg8 aa (Za0 N ac ad ab kk_L1 ae) (decide ((ah.length:Int)≤ag)))) else (kk_L1 (i64.wrap (ab+1)))
termination_by structural x=>x
def Qw (N:Nat) (ab:R0) (aa:R4):Nat→Int→Option Int
  | 0,_=>none
  | ad+1,ac=>if (decide (ac<(aa.length:Int)))=true then ((Zl aa ac).bind fun ae=>if (!decide ((ae.length:Int)=(ab.2.1.length:Int)))=true then (some 71) else (Za0 N ab aa ac (Qw N ab aa ad) N 0)) else (some 0)
termination_by structural x=>x
def Zb8 (N:Nat) (aa:R0) (ac:R4):Option Int:=
  (Zb4 N (aa.1,aa.2.1,aa.2.2.1,aa.2.2.2.1,aa.2.2.2.2)).bind fun ab=>if (!decide (ab=0))=true then (some ab) else (Qw N aa ac N 0)
theorem Zyv {N ak al am an bb:Nat} {ao ap aq ar a1:Option Addr} {col:Ze} {w0:World} {ab:R0} {af:R4} {r:Int} (hm:Zb8 N ab af=some r) (ay:Sl Za.str col w0 ao ak ab.2.1) (au:Sl (Za.slice Za.str) col w0 ap al ab.2.2.1) (az:Sl (Za.slice (Za.int .i64)) col w0 aq am ab.2.2.2.1) (a0:Sl (Za.slice (Za.pair (Za.pair Za.bool (Za.slice (Za.int .u32))) (Za.slice (Za.int .u32)))) col w0 ar an ab.2.2.2.2) (h1:Sl (Za.slice (Za.int .i64)) col w0 a1 bb af):
    Calls prog 102 #[(.agg #[.string ab.1,.slice ao ab.2.1.length ak,.slice ap ab.2.2.1.length al,.slice aq ab.2.2.2.1.length am,.slice ar ab.2.2.2.2.length an]),.slice a1 af.length bb] w0 (fun e w'=>e= .returned ((.int .i64 r))∧Below w0.heap.size w0 w'):=by
 refine Z1 4 (m:=61) func102 rfl rfl rfl rfl rfl ?_;rw [Zb8.eq_1] at hm;have aa:=St.start col w0;refine go ?_;refine Xe (col:=(Zg col)) 1 rfl ?_;intro a2 bf bc bg ac;refine go ?_;refine lV _ (Xd isAgg27 sizeOf27 ac) ?_;obtain ⟨bw,bh,hm⟩:=bZ hm;replace ay:=ay.keep (Zh.start col w0);replace au:=au.keep (Zh.start col w0);replace az:=az.keep (Zh.start col w0);replace a0:=a0.keep (Zh.start col w0);replace aa:=aa.grow bg;refine Zi (Zyl bh (ay.ks aa) (au.ks aa) (az.ks aa) (a0.ks aa)) ?_;rintro _ bi ⟨rfl,aw⟩;refine ⟨_,rfl,?_⟩;replace aw:Zf bc bf bc bi:=.of_below aw;refine go ?_;replace h1:=h1.keep (Zh.start col w0);replace ac:=ac.gr aw;replace aa:=aa.grow aw;refine Zm hm (fun hb hm=>go ?_) fun hb hm=>go ?_
 ·cases hm;exact ⟨rfl,rfl,aa.below⟩
 refine Zu [1,2,1000000] (fun n f a3=>∃ ah av ag,ag=n∧Qw N ab af ag av=some r∧St w0 (Zg col) ah a3∧Zk 27 1 ah a3 a2 #[.string ab.1,.slice ao ab.2.1.length ak,.slice ap ab.2.2.1.length al,.slice aq ab.2.2.2.1.length am,.slice ar ab.2.2.2.2.length an]∧[6].map f=[.int .i64 av]) N ⟨_,0,_,rfl,hm,aa,ac,rfl⟩ ?_;clear hm;intro n f a3 hI;obtain ⟨ah,av,ag,hn,hm,aa,ac,hs⟩:=hI;subst hn;refine .lL [6] hs ?_
 cases ag with
 | zero=>rw [Qw.eq_1] at hm;cases hm
 | succ ag=>
  rw [Qw.eq_2] at hm;refine go ?_;refine Zm hm (fun hb hm=>go ?_) fun hb hm=>go ?_
  ·refine Ys (col:=ah) (by kernel_rfl) (by kernel_rfl)<|go ?_;obtain ⟨bx,a4,hm⟩:=bZ hm;refine qI a4 ((h1.ks aa).addr a4) ?_;obtain ⟨_,bj,bk⟩:=(h1.ks aa).atN a4;obtain ⟨⟨bz,b0,rfl,b1⟩,_⟩:=bj;refine qW (fun _ hC=>bk.one.gr (hC.bl ah)) ?_;refine go ?_;refine qF ⟨_,_,rfl⟩ ?_;refine qW (fun _ hC=>((ac.atN).nth (q:=1) rfl).gr (hC.bl ah)) ?_;refine go ?_;refine X9 ?_;intro b2 hC;replace hC:=hC.bl ah;replace ac:=ac.gr hC;replace aa:=aa.grow hC;refine Zm hm (fun hb hm=>go ?_) fun hb hm=>go ?_
   ·cases hm;exact ⟨rfl,rfl,aa.below⟩
   refine Zu [1,2,6,1000000] (fun n f a5=>∃ ad ax ai,ai=n∧Za0 N ab af av (Qw N ab af ag) ai ax=some r∧St w0 (Zg col) ad a5∧Zk 27 1 ad a5 a2 #[.string ab.1,.slice ao ab.2.1.length ak,.slice ap ab.2.2.1.length al,.slice aq ab.2.2.2.1.length am,.slice ar ab.2.2.2.2.length an]∧[7].map f=[.int .i64 ax]) N ⟨_,0,_,rfl,hm,aa,ac,rfl⟩ ?_;clear hm;intro n f a5 hI;obtain ⟨ad,ax,ai,hn,hm,aa,ac,hs⟩:=hI;subst hn;refine .lL [7] hs ?_
   cases ai with
   | zero=>rw [Za0.eq_1] at hm;cases hm
   | succ ai=>
    rw [Za0.eq_2] at hm;refine go ?_;obtain ⟨b3,ae,hm⟩:=bZ hm;refine lI ae ((h1.ks aa).addr ae) ?_;obtain ⟨_,bm,bn⟩:=(h1.ks aa).atN ae;obtain ⟨⟨b4,b5,rfl,b6⟩,_⟩:=bm;refine lW bn.one<|go ?_;refine Zm hm (fun hb hm=>?_) fun hb hm=>go ?_
    ·refine Xr<|Zt<|Zck<|Zt ?_;refine Wp.cutK [1,2,6,7,1000000] (fun f a6=>∃ a7 a8,Zg8 ax (Za0 N ab af av (Qw N ab af ag) ai) a8=some r∧St w0 (Zg col) a7 a6∧Zk 27 1 a7 a6 a2 #[.string ab.1,.slice ao ab.2.1.length ak,.slice ap ab.2.2.1.length al,.slice aq ab.2.2.2.1.length am,.slice ar ab.2.2.2.2.length an]∧[60].map f=[.bool a8]) ?_ ?_
     ·intro f a6 hJ;obtain ⟨a7,a8,hm,aa,ac,hs⟩:=hJ;rw [Zg8.eq_1] at hm;refine .lL [60] hs ?_;refine Zm hm (fun hb hm=>go ?_) fun hb hm=>go ?_
      ·cases hm;exact ⟨rfl,rfl,aa.below⟩
      exact ⟨ai,by omega,rfl,⟨_,_,_,rfl,hm,aa,ac,rfl⟩⟩
     refine Ys (col:=ad) (by kernel_rfl) (by kernel_rfl)<|go ?_;refine qI ae ((h1.ks aa).addr ae) ?_;obtain ⟨_,bo,bp⟩:=(h1.ks aa).atN ae;obtain ⟨⟨b7,b8,rfl,bd⟩,_⟩:=bo;refine qW (fun _ hC=>bp.one.gr (hC.bl ad)) ?_;refine go ?_;obtain ⟨bq,aj,hm⟩:=bZ hm;refine qI aj (bd.addr aj)<|qW (fun _ hC=>(bd.gr (hC.bl ad)).atInt aj) ?_;refine go ?_;refine Xu hm (fun a9 hm=>go ?_) fun a9 hm=>go ?_
     ·refine qv (v:=(.bool true)) rfl (fun _ hC=>Xg (congrArg Value.bool a9) rfl) ?_;refine X9 ?_;intro b9 hC;replace hC:=hC.bl ad;replace ac:=ac.gr hC;replace aa:=aa.grow hC;exact ⟨rfl,_,_,hm,aa,ac,rfl⟩
     refine qI ae ((h1.ks aa).addr ae) ?_;refine go ?_;obtain ⟨_,br,bs⟩:=(h1.ks aa).atN ae;obtain ⟨⟨ca,cb,rfl,be⟩,_⟩:=br;refine qW (fun _ hC=>bs.one.gr (hC.bl ad)) ?_;refine go ?_;refine qI aj (be.addr aj) ?_;refine go ?_;refine qW (fun _ hC=>(be.gr (hC.bl ad)).atInt aj) ?_;refine go ?_;refine qF ⟨_,_,rfl⟩ ?_;refine go ?_;refine qW (fun _ hC=>((ac.atN).nth (q:=2) rfl).gr (hC.bl ad)) ?_;refine go ?_;obtain ⟨bt,ba,hm⟩:=bZ hm;refine qI ba ((au.ks aa).addr ba) ?_;refine go ?_;obtain ⟨_,bu,bv⟩:=(au.ks aa).atN ba;obtain ⟨⟨cc,cd,rfl,ce⟩,_⟩:=bu;refine qW (fun _ hC=>bv.one.gr (hC.bl ad)) ?_;refine go ?_;refine qv (v:=(.bool (decide ((bt.length:Int)≤bq)))) rfl (fun _ hC=>Xt (congrArg Value.bool a9) rfl) ?_;refine X9 ?_;intro cf hC;replace hC:=hC.bl ad;replace ac:=ac.gr hC;replace aa:=aa.grow hC;exact ⟨rfl,_,_,hm,aa,ac,rfl⟩
    exact ⟨ag,by omega,rfl,⟨_,_,_,rfl,hm,aa,ac,rfl⟩⟩
  cases hm;exact ⟨rfl,rfl,aa.below⟩
def Zed (N:Nat) (ab:R0) (ac:List Int) (ad:Int):Nat→Int→Option Bool
  | 0,_=>none
  | af+1,aa=>(Zl ab.2.2.2.1 ad).bind fun ae=>if (decide (aa<(ae.length:Int)))=true then ((Zl ae aa).bind fun ag=>(Zl ac ag).bind fun ah=>if (decide (ah<0))=true then (some false) else ((Zed N ab ac ad af) (i64.wrap (aa+1)))) else (some true)
termination_by structural x=>x
def Zha (N:Nat) (ac:R0) (aa:List Int) (ab:Int):Option Bool:=
  (Zl aa ab).bind fun ad=>if (decide (ad<0))=true then (some false) else (Zed N ac aa ab N 0)
theorem Zyx {N ah ai aj ak ay:Nat} {al am an ao a1:Option Addr} {col:Ze} {w0:World} {aa:R0} {ag:R1} {ap:Int} {r:Bool} (hm:Zha N aa ag ap=some r) (a7:Sl Za.str col w0 al ah aa.2.1) (a8:Sl (Za.slice Za.str) col w0 am ai aa.2.2.1) (ac:Sl (Za.slice (Za.int .i64)) col w0 an aj aa.2.2.2.1) (a9:Sl (Za.slice (Za.pair (Za.pair Za.bool (Za.slice (Za.int .u32))) (Za.slice (Za.int .u32)))) col w0 ao ak aa.2.2.2.2) (h1:Sl (Za.int .i64) col w0 a1 ay ag):
    Calls prog 211 #[(.agg #[.string aa.1,.slice al aa.2.1.length ah,.slice am aa.2.2.1.length ai,.slice an aa.2.2.2.1.length aj,.slice ao aa.2.2.2.2.length ak]),.slice a1 ag.length ay,.int .i64 ap] w0 (fun e w'=>e= .returned ((.bool r))∧Below w0.heap.size w0 w'):=by
 refine Z1 6 (m:=35) func211 rfl rfl rfl rfl rfl ?_;rw [Zha.eq_1] at hm;have ab:=St.start col w0;refine go ?_;refine Xe (col:=(Zg col)) 1 rfl ?_;intro a0 ba bb a2 af;refine go ?_;obtain ⟨bc,aq,hm⟩:=bZ hm;replace h1:=h1.keep (Zh.start col w0);replace ab:=ab.grow a2;refine lI aq ((h1.ks ab).addr aq)<|lW ((h1.ks ab).atInt aq) ?_;refine go ?_;replace ac:=ac.keep (Zh.start col w0);refine Zm hm (fun hb hm=>go ?_) fun hb hm=>go ?_
 ·cases hm;exact ⟨rfl,rfl,ab.below⟩
 refine Zu [1,2,3,1000000] (fun n f ar=>∃ au av ad,ad=n∧Zed N aa ag ap ad av=some r∧St w0 (Zg col) au ar∧Zk 27 1 au ar a0 #[.string aa.1,.slice al aa.2.1.length ah,.slice am aa.2.2.1.length ai,.slice an aa.2.2.2.1.length aj,.slice ao aa.2.2.2.2.length ak]∧[7].map f=[.int .i64 av]) N ⟨_,0,_,rfl,hm,ab,af,rfl⟩ ?_;clear hm;intro n f ar hI;obtain ⟨au,av,ad,hn,hm,ab,af,hs⟩:=hI;subst hn;refine .lL [7] hs ?_
 cases ad with
 | zero=>rw [Zed.eq_1] at hm;cases hm
 | succ ad=>
  rw [Zed.eq_2] at hm;refine go ?_;refine Z9 af<|Xn rfl ?_;obtain ⟨bd,ae,hm⟩:=bZ hm;refine lI ae ((ac.ks ab).addr ae) ?_;obtain ⟨_,a3,a4⟩:=(ac.ks ab).atN ae;obtain ⟨⟨be,bf,rfl,bg⟩,_⟩:=a3;refine lW a4.one<|go ?_;refine Zm hm (fun hb hm=>go ?_) fun hb hm=>go ?_
  ·refine Z9 af<|Xn rfl<|lI ae ((ac.ks ab).addr ae) ?_;obtain ⟨_,a5,a6⟩:=(ac.ks ab).atN ae;obtain ⟨⟨bh,bi,rfl,az⟩,_⟩:=a5;refine lW a6.one<|Xn rfl ?_;obtain ⟨bj,aw,hm⟩:=bZ hm;refine lI aw (az.addr aw)<|lW (az.atInt aw) ?_;obtain ⟨bk,ax,hm⟩:=bZ hm;refine lI ax ((h1.ks ab).addr ax)<|lW ((h1.ks ab).atInt ax) ?_;refine go ?_;refine Zm hm (fun hb hm=>go ?_) fun hb hm=>go ?_
   ·cases hm;exact ⟨rfl,rfl,ab.below⟩
   exact ⟨ad,by omega,rfl,⟨_,_,_,rfl,hm,ab,af,rfl⟩⟩
  cases hm;exact ⟨rfl,rfl,ab.below⟩
def Zd4 (N:Nat) (aa:R0) (ac:Int) (ad:List Int):Nat→Int→Int→Option Int
  | 0,_,_=>none
  | ah+1,ae,ab=>(Zl aa.2.2.2.1 ac).bind fun af=>if (decide (ab<(af.length:Int)))=true then ((Zl af ab).bind fun ag=>(Zl aa.2.2.1 ag).bind fun ai=>(Zl ad ag).bind fun aj=>(Zd4 N aa ac ad ah) (i64.wrap ((i64.wrap (ae * (ai.length:Int)))+aj)) (i64.wrap (ab+1))) else (some ae)
termination_by structural x=>x
def Zld (N:Nat) (aa:R0) (ab:Int) (ac:List Int):Option Int:=
  Zd4 N aa ab ac N 0 0
theorem Zyq {N aj ak al am a0:Nat} {an ao ap aq a2:Option Addr} {col:Ze} {w0:World} {aa:R0} {ar:Int} {ah:R1} {r:Int} (hm:Zld N aa ar ah=some r) (bb:Sl Za.str col w0 an aj aa.2.1) (ai:Sl (Za.slice Za.str) col w0 ao ak aa.2.2.1) (ae:Sl (Za.slice (Za.int .i64)) col w0 ap al aa.2.2.2.1) (bc:Sl (Za.slice (Za.pair (Za.pair Za.bool (Za.slice (Za.int .u32))) (Za.slice (Za.int .u32)))) col w0 aq am aa.2.2.2.2) (h2:Sl (Za.int .i64) col w0 a2 a0 ah):
    Calls prog 243 #[(.agg #[.string aa.1,.slice an aa.2.1.length aj,.slice ao aa.2.2.1.length ak,.slice ap aa.2.2.2.1.length al,.slice aq aa.2.2.2.2.length am]),.int .i64 ar,.slice a2 ah.length a0] w0 (fun e w'=>e= .returned ((.int .i64 r))∧Below w0.heap.size w0 w'):=by
 refine Z1 6 (m:=42) func243 rfl rfl rfl rfl rfl ?_;rw [Zld.eq_1] at hm;have ab:=St.start col w0;refine go ?_;refine Xe (col:=(Zg col)) 1 rfl ?_;intro a3 bd be a4 ac;refine go ?_;replace ab:=ab.grow a4;refine Zu [1,2,3,1000000] (fun n f au=>∃ ad av aw af,af=n∧Zd4 N aa ar ah af av aw=some r∧St w0 (Zg col) ad au∧Zk 27 1 ad au a3 #[.string aa.1,.slice an aa.2.1.length aj,.slice ao aa.2.2.1.length ak,.slice ap aa.2.2.2.1.length al,.slice aq aa.2.2.2.2.length am]∧[7,8].map f=[.int .i64 av,.int .i64 aw]) N ⟨_,0,0,_,rfl,hm,ab,ac,rfl⟩ ?_;clear hm;intro n f au hI;obtain ⟨ad,av,aw,af,hn,hm,ab,ac,hs⟩:=hI;subst hn;refine .lL [7,8] hs ?_;replace ai:=ai.keep (Zh.start col w0);replace ae:=ae.keep (Zh.start col w0);replace h2:=h2.keep (Zh.start col w0)
 cases af with
 | zero=>rw [Zd4.eq_1] at hm;cases hm
 | succ af=>
  rw [Zd4.eq_2] at hm;refine go ?_;refine Z9 ac<|Xn rfl ?_;obtain ⟨bf,ag,hm⟩:=bZ hm;refine lI ag ((ae.ks ab).addr ag) ?_;obtain ⟨_,a5,a6⟩:=(ae.ks ab).atN ag;obtain ⟨⟨bg,bh,rfl,bi⟩,_⟩:=a5;refine lW a6.one<|go ?_;refine Zm hm (fun hb hm=>go ?_) fun hb hm=>go ?_
  ·refine Z9 ac<|Xn rfl<|lI ag ((ae.ks ab).addr ag) ?_;obtain ⟨_,a7,a8⟩:=(ae.ks ab).atN ag;obtain ⟨⟨bj,bk,rfl,a1⟩,_⟩:=a7;refine lW a8.one<|Xn rfl ?_;obtain ⟨bm,ax,hm⟩:=bZ hm;refine lI ax (a1.addr ax)<|lW (a1.atInt ax) ?_;refine go ?_;refine Ys (col:=ad) (by kernel_rfl) (by kernel_rfl)<|go ?_;refine qF ⟨_,_,rfl⟩ ?_;refine qW (fun _ hC=>((ac.atN).nth (q:=2) rfl).gr (hC.bl ad)) ?_;refine go ?_;obtain ⟨bn,ay,hm⟩:=bZ hm;refine qI ay ((ai.ks ab).addr ay) ?_;obtain ⟨_,a9,ba⟩:=(ai.ks ab).atN ay;obtain ⟨⟨bo,bp,rfl,bq⟩,_⟩:=a9;refine qW (fun _ hC=>ba.one.gr (hC.bl ad)) ?_;refine go ?_;obtain ⟨br,az,hm⟩:=bZ hm;refine qI az ((h2.ks ab).addr az)<|qW (fun _ hC=>((h2.ks ab).gr (hC.bl ad)).atInt az) ?_;refine go ?_;refine X9 ?_;intro bs hC;replace hC:=hC.bl ad;refine go ?_;replace ac:=ac.gr hC;replace ab:=ab.grow hC;exact ⟨af,by omega,rfl,⟨_,_,_,_,rfl,hm,ab,ac,rfl⟩⟩
  cases hm;exact ⟨rfl,rfl,ab.below⟩
def Zhb (N:Nat) (aa:R0) (ab:Int) (ac:List Int):Option Int:=
  (Zld N (aa.1,aa.2.1,aa.2.2.1,aa.2.2.2.1,aa.2.2.2.2) ab ac).bind fun ad=>(Zl aa.2.2.1 ab).bind fun ae=>(Zl ac ab).bind fun af=>some (i64.wrap ((i64.wrap (ad * (ae.length:Int)))+af))
theorem Zyy {N ak al am an ao:Nat} {ap aq ar au a2:Option Addr} {col:Ze} {w0:World} {ac:R0} {av:Int} {ae:R1} {r:Int} (hm:Zhb N ac av ae=some r) (af:Sl Za.str col w0 ap ak ac.2.1) (ad:Sl (Za.slice Za.str) col w0 aq al ac.2.2.1) (ag:Sl (Za.slice (Za.int .i64)) col w0 ar am ac.2.2.2.1) (ah:Sl (Za.slice (Za.pair (Za.pair Za.bool (Za.slice (Za.int .u32))) (Za.slice (Za.int .u32)))) col w0 au an ac.2.2.2.2) (h2:Sl (Za.int .i64) col w0 a2 ao ae):
    Calls prog 155 #[(.agg #[.string ac.1,.slice ap ac.2.1.length ak,.slice aq ac.2.2.1.length al,.slice ar ac.2.2.2.1.length am,.slice au ac.2.2.2.2.length an]),.int .i64 av,.slice a2 ae.length ao] w0 (fun e w'=>e= .returned ((.int .i64 r))∧Below w0.heap.size w0 w'):=by
 refine Z1 6 (m:=23) func155 rfl rfl rfl rfl rfl ?_;rw [Zhb.eq_1] at hm;have aa:=St.start col w0;refine go ?_;refine Xe (col:=(Zg col)) 1 rfl ?_;intro a3 a4 ab ax aw;refine go ?_;refine Ys (col:=ab) (by kernel_rfl) (by kernel_rfl)<|qv rfl (fun _ hC=>Xd isAgg27 sizeOf27 (aw.gr (hC.bl ab))) ?_;refine go ?_;obtain ⟨ay,az,hm⟩:=bZ hm;replace af:=af.keep (Zh.start col w0);replace ad:=ad.keep (Zh.start col w0);replace ag:=ag.keep (Zh.start col w0);replace ah:=ah.keep (Zh.start col w0);replace h2:=h2.keep (Zh.start col w0);replace aa:=aa.grow ax;refine qc (v:=(.int .i64 ay)) rfl (fun _ hC=>⟨_,_,Zl4 call243 rfl rfl rfl,(Zyq az ((af.ks aa).gr (hC.bl ab)) ((ad.ks aa).gr (hC.bl ab)) ((ag.ks aa).gr (hC.bl ab)) ((ah.ks aa).gr (hC.bl ab)) ((h2.ks aa).gr (hC.bl ab)):).mono fun _ _ h=>⟨h.1,hC.trans (.of_below h.2)⟩⟩) ?_;refine qF ⟨_,_,rfl⟩ ?_;refine qW (fun _ hC=>((aw.atN).nth (q:=2) rfl).gr (hC.bl ab)) ?_;refine go ?_;obtain ⟨a5,ai,hm⟩:=bZ hm;refine qI ai ((ad.ks aa).addr ai) ?_;obtain ⟨_,a0,a1⟩:=(ad.ks aa).atN ai;obtain ⟨⟨a6,a7,rfl,a8⟩,_⟩:=a0;refine qW (fun _ hC=>a1.one.gr (hC.bl ab)) ?_;refine go ?_;obtain ⟨a9,aj,hm⟩:=bZ hm;refine qI aj ((h2.ks aa).addr aj)<|qW (fun _ hC=>((h2.ks aa).gr (hC.bl ab)).atInt aj) ?_;refine go ?_;refine X9 ?_;intro ba hC;replace hC:=hC.bl ab;refine Wh ?_;cases hm;replace aa:=aa.grow hC;exact ⟨rfl,rfl,aa.below⟩
def Zi8 (aa:Int) (kk_L1:(List Int→Int→Option R1)) (ab:List Int):Option R1:=
  kk_L1 ab (i64.wrap (aa+1))
def Za1 (N:Nat) (aa:R0) (ab:R4) (ac:Int):Nat→R1→Int→Option R1
  | 0,_,_=>none
  | af+1,ad,ae=>if (decide (ae<(ab.length:Int)))=true then ((Zl ab ae).bind fun ag=>(Zha N (aa.1,aa.2.1,aa.2.2.1,aa.2.2.2.1,aa.2.2.2.2) ag ac).bind fun ai=>if ai=true then ((Zhb N (aa.1,aa.2.1,aa.2.2.1,aa.2.2.2.1,aa.2.2.2.2) ac ag).bind fun ah=>(Zl ad ah).bind fun aj=>(some (ad.set (Int.toNat ah) (i64.wrap (aj+1)))).bind fun ak=>Zi8 ae (Za1 N aa ab ac af) ak) else (Zi8 ae (Za1 N aa ab ac af) ad)) else (some ad)
termination_by structural x=>x
def Zg9 (N:Nat) (ab:R0) (ad:R4) (ac:Int):Option R1:=
  (Zl ab.2.2.2.2 ac).bind fun aa=>Z0 (aa.length * 8≤281474976710656∧aa.length≤maxLen) (Za1 N ab ad ac N (List.replicate aa.length (0:Int)) 0)
theorem Zyw {N an ao ap aq bc:Nat} {ar au av aw a1:Option Addr} {col:Ze} {w0:World} {ab:R0} {ak:R4} {ax:Int} {r:R1} (c1:Nat) (hm:Zg9 N ab ak ax=some r) (ay:Sl Za.str col w0 ar an ab.2.1) (az:Sl (Za.slice Za.str) col w0 au ao ab.2.2.1) (a0:Sl (Za.slice (Za.int .i64)) col w0 av ap ab.2.2.2.1) (ag:Sl (Za.slice (Za.pair (Za.pair Za.bool (Za.slice (Za.int .u32))) (Za.slice (Za.int .u32)))) col w0 aw aq ab.2.2.2.2) (h1:Sl (Za.slice (Za.int .i64)) col w0 a1 bc ak):
    Calls prog 103 #[(.agg #[.string ab.1,.slice ar ab.2.1.length an,.slice au ab.2.2.1.length ao,.slice av ab.2.2.2.1.length ap,.slice aw ab.2.2.2.2.length aq]),.slice a1 ak.length bc,.int .i64 ax] w0 (fun e w'=>∃ (col':Ze) (ra1:Option Addr) (rc2:Nat),e= .returned ((.slice ra1 r.length rc2))∧Zf col w0 col' w'∧Zc (Za.int .i64) 3 c1 col' w' ra1 rc2 r):=by
 refine Z1 6 (m:=48) func103 rfl rfl rfl rfl rfl ?_;rw [Zg9.eq_1] at hm;have aa:=St.start col w0;refine go ?_;refine Xe (col:=(Zg col)) 1 rfl ?_;intro bd bk bm bn ad;refine go ?_;refine Z9 ad<|Xn rfl ?_;obtain ⟨bo,a8,hm⟩:=bZ hm;replace ag:=ag.keep (Zh.start col w0);replace aa:=aa.grow bn;refine lI a8 ((ag.ks aa).addr a8) ?_;obtain ⟨_,bp,bq⟩:=(ag.ks aa).atN a8;obtain ⟨⟨b4,b5,rfl,b6⟩,_⟩:=bp;refine lW bq.one<|go ?_;obtain ⟨be,hm⟩:=Z3 hm;refine Si (col:=bm) (w:=bk) (r:=(Za.int .i64)) (n:=bo.length) (x0:=0) 2 rfl underlying40 Tryz.t3 rfl rfl rfl rfl rfl rfl rfl be.1 be.2 (Q1 .i64 0) ?_;intro b7 b8 b9 bf br;refine go ?_;replace ad:=ad.gr bf;replace aa:=aa.grow bf;refine Zu [1,2,3,1000000] (fun n f a2=>∃ ac al am ah a3 af,af=n∧Za1 N ab ak ax af ah a3=some r∧St w0 (Zg col) ac a2∧Zk 27 1 ac a2 bd #[.string ab.1,.slice ar ab.2.1.length an,.slice au ab.2.2.1.length ao,.slice av ab.2.2.2.1.length ap,.slice aw ab.2.2.2.2.length aq]∧Zc (Za.int .i64) 3 2 ac a2 al am ah∧[7,8].map f=[.slice al ah.length am,.int .i64 a3]) N ⟨_,_,_,_,0,_,rfl,hm,aa,ad,br,rfl⟩ ?_;clear hm;intro n f a2 hI;obtain ⟨ac,al,am,ah,a3,af,hn,hm,aa,ad,ae,hs⟩:=hI;subst hn;refine .lL [7,8] hs ?_;replace ay:=ay.keep (Zh.start col w0);replace az:=az.keep (Zh.start col w0);replace a0:=a0.keep (Zh.start col w0);replace h1:=h1.keep (Zh.start col w0)
 cases af with
 | zero=>rw [Za1.eq_1] at hm;cases hm
 | succ af=>
  rw [Za1.eq_2] at hm;refine go ?_;refine Zm hm (fun hb hm=>?_) fun hb hm=>go ?_
  ·refine Xr<|Zt ?_;refine Wp.cutK [1,2,3,8,1000000] (fun f a4=>∃ a5 a9 ba a6,Zi8 a3 (Za1 N ab ak ax af) a6=some r∧St w0 (Zg col) a5 a4∧Zk 27 1 a5 a4 bd #[.string ab.1,.slice ar ab.2.1.length an,.slice au ab.2.2.1.length ao,.slice av ab.2.2.2.1.length ap,.slice aw ab.2.2.2.2.length aq]∧Zc (Za.int .i64) 3 2 a5 a4 a9 ba a6∧[7].map f=[.slice a9 a6.length ba]) ?_ ?_
   ·intro f a4 hJ;obtain ⟨a5,a9,ba,a6,hm,aa,ad,bs,hs⟩:=hJ;rw [Zi8.eq_1] at hm;refine .lL [7] hs<|go ?_;exact ⟨af,by omega,rfl,⟨_,_,_,_,_,_,rfl,hm,aa,ad,bs,rfl⟩⟩
   refine go ?_;refine Ys (col:=ac) (by kernel_rfl) (by kernel_rfl)<|qv rfl (fun _ hC=>Xd isAgg27 sizeOf27 (ad.gr (hC.bl ac))) ?_;refine go ?_;obtain ⟨ca,ai,hm⟩:=bZ hm;refine qI ai ((h1.ks aa).addr ai) ?_;obtain ⟨_,bt,bu⟩:=(h1.ks aa).atN ai;obtain ⟨⟨cb,cc,rfl,bv⟩,_⟩:=bt;refine qW (fun _ hC=>bu.one.gr (hC.bl ac)) ?_;refine go ?_;obtain ⟨bw,bx,hm⟩:=bZ hm;refine qc (v:=(.bool bw)) rfl (fun _ hC=>⟨_,_,Zl4 call211 rfl rfl rfl,(Zyx bx ((ay.ks aa).gr (hC.bl ac)) ((az.ks aa).gr (hC.bl ac)) ((a0.ks aa).gr (hC.bl ac)) ((ag.ks aa).gr (hC.bl ac)) (bv.gr (hC.bl ac)):).mono fun _ _ h=>⟨h.1,hC.trans (.of_below h.2)⟩⟩) ?_;refine go ?_;refine X9 ?_;intro cd hC;replace hC:=hC.bl ac;refine go ?_;replace ae:=ae.gr hC;replace ad:=ad.gr hC;replace aa:=aa.grow hC;refine Zm hm (fun hb hm=>?_) fun hb hm=>?_
   ·refine Zt<|Ys (col:=ac) (by kernel_rfl) (by kernel_rfl)<|qv rfl (fun _ hC=>Xd isAgg27 sizeOf27 (ad.gr (hC.bl ac))) ?_;refine go ?_;refine qI ai ((h1.ks aa).addr ai) ?_;obtain ⟨_,bz,b0⟩:=(h1.ks aa).atN ai;obtain ⟨⟨ce,cf,rfl,b1⟩,_⟩:=bz;refine qW (fun _ hC=>b0.one.gr (hC.bl ac)) ?_;obtain ⟨bg,b2,hm⟩:=bZ hm;refine qc (v:=(.int .i64 bg)) rfl (fun _ hC=>⟨_,_,Zl4 call155 rfl rfl rfl,(Zyy b2 ((ay.ks aa).gr (hC.bl ac)) ((az.ks aa).gr (hC.bl ac)) ((a0.ks aa).gr (hC.bl ac)) ((ag.ks aa).gr (hC.bl ac)) (b1.gr (hC.bl ac)):).mono fun _ _ h=>⟨h.1,hC.trans (.of_below h.2)⟩⟩) ?_;refine go ?_;refine X9 ?_;intro cg hC;replace hC:=hC.bl ac;refine go ?_;obtain ⟨bh,aj,hm⟩:=bZ hm;replace ae:=ae.gr hC;refine lI aj (ae.addr aj)<|lW (ae.atInt aj) ?_;refine go ?_;refine lI aj (ae.addr aj) ?_;obtain ⟨bb,a7,hm⟩:=bZ hm;have a7:bb=ah.set (Int.toNat bg) (i64.wrap (bh+1)):=(Option.some.inj a7).symm;refine Yu (x1:=i64.wrap (bh+1)) ae aj ?_;intro ch bi b3 bj;rw [← a7] at bj;refine .ld (d:=7) (v:=(.slice al bb.length am)) (congrArg (fun n=>Value.slice al n am) (show ah.length=bb.length by rw [a7,nS])) ?_;refine Zo ?_;replace ad:=(ad.gr hC).kp bi;replace aa:=(aa.grow hC).kp bi b3;exact ⟨rfl,_,_,_,_,hm,aa,ad,bj,rfl⟩
   refine Xr ?_;exact ⟨rfl,_,_,_,_,hm,aa,ad,ae,rfl⟩
  cases hm;exact ⟨rfl,_,_,_,rfl,aa.fin (cm [(2,c1)]),aa.fo ae⟩
def Zcc (ab:Int):List Int→Nat→Option Int
  | [],aa=>some (-1)
  | ac :: ad,aa=>if (decide (ab=ac))=true then (some (aa:Int)) else ((Zcc ab ad) (aa+1))
termination_by structural x=>x
def Zln (aa:List Int) (ab:Int):Option Int:=
  Zcc ab aa 0
theorem Zy8 {ag:Nat} {a0:Option Addr} {col:Ze} {w0:World} {ab:R1} {ae r:Int} (hm:Zln ab ae=some r) (h0:Sl (Za.int .i64) col w0 a0 ag ab):
    Calls prog 214 #[.slice a0 ab.length ag,.int .i64 ae] w0 (fun e w'=>e= .returned ((.int .i64 r))∧Below w0.heap.size w0 w'):=by
 refine Z1 4 (m:=19) func214 rfl rfl rfl rfl rfl ?_;rw [Zln.eq_1] at hm;have aa:=St.start col w0;refine go ?_;refine Zu [0,1,7,1000000] (fun n f ah=>∃ ai ac ad,n=ad.length∧ab.drop ac=ad∧Zcc ae ad ac=some r∧St w0 (Zg col) ai ah∧[8].map f=[.int .i64 ac]) ab.length ⟨_,0,_,rfl,rfl,hm,aa,rfl⟩ ?_;clear hm;intro n f ah hI;obtain ⟨ai,ac,ad,hn,hl,hm,aa,hs⟩:=hI;subst hn;refine .lL [8] hs ?_;replace h0:=h0.keep (Zh.start col w0)
 cases ad with
 | nil=>
  have hk:¬ ((ac:Int)<(ab.length:Int)):=by have:=List.drop_eq_nil_iff.1 hl;omega
  have hkb:=decide_eq_false hk;rw [Zcc.eq_1] at hm;refine go ?_;refine Yd (congrArg Value.bool hkb)<|go ?_;cases hm;exact ⟨rfl,rfl,aa.below⟩
 | cons am aj=>
  obtain ⟨af,ak,al⟩:=Yn hl;have hk:(ac:Int)<(ab.length:Int):=by omega
  have hkb:=decide_eq_true hk;rw [Zcc.eq_2] at hm;refine go ?_;refine Ye (congrArg Value.bool hkb)<|go ?_;refine lI af ((h0.ks aa).addr af)<|lW ((h0.ks aa).atInt af) ?_;refine go ?_;refine Zm hm (fun hb hm=>go ?_) fun hb hm=>go ?_
  ·cases hm;exact ⟨rfl,rfl,aa.below⟩
  exact ⟨aj.length,by simp,rfl,⟨_,_,_,rfl,ak,hm,aa,(Yq (congrArg (Value.int .i64) (Yj (Nat.lt_of_lt_of_le al (h0.ks aa).1.1))) rfl)⟩⟩
def Zjb (aa:List Int) (ab:Int):Option Bool:=
  (Zln aa ab).bind fun ac=>some (decide (0≤ac))
theorem Zy5 {ad:Nat} {a0:Option Addr} {col:Ze} {w0:World} {ab:R1} {ae:Int} {r:Bool} (hm:Zjb ab ae=some r) (h0:Sl (Za.int .i64) col w0 a0 ad ab):
    Calls prog 108 #[.slice a0 ab.length ad,.int .i64 ae] w0 (fun e w'=>e= .returned ((.bool r))∧Below w0.heap.size w0 w'):=by
 refine Z1 4 (m:=9) func108 rfl rfl rfl rfl rfl ?_;rw [Zjb.eq_1] at hm;have aa:=St.start col w0;refine go ?_;obtain ⟨ah,af,hm⟩:=bZ hm;replace h0:=h0.keep (Zh.start col w0);refine Zi (Zy8 af (h0.ks aa)) ?_;rintro _ ag ⟨rfl,ac⟩;refine ⟨_,rfl,?_⟩;replace ac:Zf (Zg col) w0 (Zg col) ag:=.of_below ac;refine go ?_;cases hm;replace aa:=aa.grow ac;exact ⟨rfl,rfl,aa.below⟩
/-! which observations may be -/
def Wn (n:Z4):List Int→Nat→Bool
 | [],_=>true
 | x :: l,k=>decide (-1≤x)&&(decide (x<(cnt n k:Int))&&Wn n l (k+1))
def Td (n:Z4) (r:List R1):Bool:=r.all fun row=>decide (row.length=n.2.1.length)&&Wn n row 0
theorem Zsb {n:Z4} (kk:Option Int):∀ (l:List Int) (k:Nat),k+l.length≤n.2.2.1.length→Qp n kk l k=if Wn n l k=true then kk else some 71
 | [],k,_=>by rw [Qp.eq_1,Wn,if_pos rfl]
 | x :: l,k,h=>by
  simp only [nC] at h
  have ih:=Zsb (n:=n) kk l (k+1) (by omega)
  have hat:Zl n.2.2.1 (k:Int)=some (n.2.2.1.getD k []):=Wf (l:=n.2.2.1) [] (j:=k) (by omega)
  have hc:cnt n k=(n.2.2.1.getD k []).length:=rfl
  rw [Qp.eq_2,Wn]
  by_cases h1:x< -1
  ·rw [if_pos (dT h1),Zfq,if_pos rfl,decide_eq_false (show ¬ -1≤x by omega)];rfl
  ·rw [if_neg (dF h1),hat,oB,decide_eq_true (show -1≤x by omega),Bool.true_and,Zfq]
   by_cases h2:x<(cnt n k:Int)
   ·rw [decide_eq_true h2,decide_eq_false (by omega),if_neg (by decide),Bool.true_and];exact ih
   ·rw [decide_eq_false h2,decide_eq_true (by omega),if_pos rfl];rfl
theorem Znx {n:Z4} (hv:n.2.2.1.length=n.2.1.length):∀ r:List R1,Qo n r=some (if Td n r=true then 0 else 71)
 | []=>by rw [Qo.eq_1];rfl
 | row :: r=>by
  have ih:=Znx hv r
  rw [Qo.eq_2,Td,List.all_cons]
  by_cases h:row.length=n.2.1.length
  ·rw [if_neg (by rw [decide_eq_true (by omega)];decide),Zsb _ row 0 (by omega),decide_eq_true h,Bool.true_and]
   by_cases h2:Wn n row 0=true
   ·rw [if_pos h2,h2,Bool.true_and];exact ih
   ·rw [if_neg h2,Bool.eq_false_iff.2 h2];rfl
  ·rw [if_pos (by rw [decide_eq_false (by omega)];rfl),decide_eq_false h];rfl
theorem Zqw {n:Z4} (kk:Option Int):∀ (l:List Int) (k:Nat),k+l.length≤n.2.2.1.length→Qk n kk l k=if Wn n l k=true then kk else some 71
 | [],k,_=>by rw [Qk.eq_1,Wn,if_pos rfl]
 | x :: l,k,h=>by
  simp only [nC] at h
  have ih:=Zqw (n:=n) kk l (k+1) (by omega)
  have hat:Zl n.2.2.1 (k:Int)=some (n.2.2.1.getD k []):=Wf (l:=n.2.2.1) [] (j:=k) (by omega)
  have hc:cnt n k=(n.2.2.1.getD k []).length:=rfl
  rw [Qk.eq_2,Wn]
  by_cases h1:x< -1
  ·rw [if_pos (dT h1),Zfi,if_pos rfl,decide_eq_false (show ¬ -1≤x by omega)];rfl
  ·rw [if_neg (dF h1),hat,oB,decide_eq_true (show -1≤x by omega),Bool.true_and,Zfi]
   by_cases h2:x<(cnt n k:Int)
   ·rw [decide_eq_true h2,decide_eq_false (by omega),if_neg (by decide),Bool.true_and];exact ih
   ·rw [decide_eq_false h2,decide_eq_true (by omega),if_pos rfl];rfl
theorem Zqv {n:Z4} (hv:n.2.2.1.length=n.2.1.length):∀ r:List R1,Qj n r=some (if Td n r=true then 0 else 71)
 | []=>by rw [Qj.eq_1];rfl
 | row :: r=>by
  have ih:=Zqv hv r
  rw [Qj.eq_2,Td,List.all_cons]
  by_cases h:row.length=n.2.1.length
  ·rw [if_neg (by rw [decide_eq_true (by omega)];decide),Zqw _ row 0 (by omega),decide_eq_true h,Bool.true_and]
   by_cases h2:Wn n row 0=true
   ·rw [if_pos h2,h2,Bool.true_and];exact ih
   ·rw [if_neg h2,Bool.eq_false_iff.2 h2];rfl
  ·rw [if_pos (by rw [decide_eq_false (by omega)];rfl),decide_eq_false h];rfl
theorem Zvn {N:Nat} {n:Z4} {r:List R1} {i:Nat} (hi:i<r.length) (hl:r[i].length=n.2.2.1.length) (hb:n.2.2.1.length≤1048576) (hr:r.length≤1048576) (kk:Int→Option Int):∀ (f v:Nat),v≤r[i].length→r[i].length<f+v→Za0 N n r (i:Int) kk f (v:Int)=if Wn n (r[i].drop v) v=true then kk ((i:Int)+1) else some 71
 | 0,v,h1,h2=>by omega
 | f+1,v,h1,h2=>by
  rw [Za0.eq_2,Zv hi,oB]
  by_cases hv:v<r[i].length
  ·have hat:Zl n.2.2.1 (v:Int)=some (n.2.2.1.getD v []):=Wf (l:=n.2.2.1) [] (j:=v) (by omega)
   have hc:cnt n v=(n.2.2.1.getD v []).length:=rfl
   have ih:=Zvn (N:=N) hi hl hb hr kk f (v+1) (by omega) (by omega)
   rw [if_pos (dT (by omega)),Zv hv,oB,List.drop_eq_getElem_cons hv,Wn]
   by_cases h3:r[i][v]< -1
   ·rw [if_pos (dT h3),Zg8,if_pos rfl,decide_eq_false (show ¬ -1≤r[i][v] by omega)];rfl
   ·rw [if_neg (dF h3),hat,oB,decide_eq_true (show -1≤r[i][v] by omega),Bool.true_and,Zg8]
    by_cases h4:r[i][v]<(cnt n v:Int)
    ·rw [decide_eq_true h4,decide_eq_false (by omega),if_neg (by decide),Bool.true_and,wS (by omega)];exact ih
    ·rw [decide_eq_false h4,decide_eq_true (by omega),if_pos rfl];rfl
  ·rw [if_neg (dF (by omega)),List.drop_eq_nil_of_le (by omega),Wn,if_pos rfl,Zs (by omega)]
theorem Zor {N:Nat} {n:Z4} {r:List R1} (hv:n.2.2.1.length=n.2.1.length) (hb:n.2.2.1.length≤1048576) (hr:r.length≤1048576) (hN:1048577<N):∀ (f i:Nat),i≤r.length→r.length<f+i→Qw N n r f (i:Int)=some (if Td n (r.drop i)=true then 0 else 71)
 | 0,i,h1,h2=>by omega
 | f+1,i,h1,h2=>by
  rw [Qw.eq_2]
  by_cases hi:i<r.length
  ·have ih:=Zor hv hb hr hN f (i+1) (by omega) (by omega)
   rw [if_pos (dT (by omega)),Zv hi,oB,List.drop_eq_getElem_cons hi,Td,List.all_cons]
   by_cases h:r[i].length=n.2.1.length
   ·have h2:=Zvn (N:=N) hi (by omega) hb hr (Qw N n r f) N 0 (Nat.zero_le _) (by omega)
    rw [List.drop_zero] at h2
    rw [if_neg (by rw [decide_eq_true (by omega)];decide),decide_eq_true h,Bool.true_and]
    refine h2.trans ?_
    by_cases h3:Wn n r[i] 0=true
    ·rw [if_pos h3,h3,Bool.true_and];exact ih
    ·rw [if_neg h3,Bool.eq_false_iff.2 h3];rfl
   ·rw [if_pos (by rw [decide_eq_false (by omega)];rfl),decide_eq_false h];rfl
  ·rw [if_neg (dF (by omega)),List.drop_eq_nil_of_le (by omega)];rfl
/-! observations of which all is known -/
def Qa (r:List R1):Bool:=r.all fun row=>row.all fun x=>decide (0≤x)
theorem Zr8 (v:Int):∀ (l:List Int) (k:Nat),∃ j:Int,Zcc v l k=some j∧(0≤j↔v ∈ l)
 | [],k=>⟨-1,Zcc.eq_1 ..,by simp⟩
 | x :: l,k=>by
  rw [Zcc.eq_2]
  by_cases h:v=x
  ·exact ⟨k,by rw [if_pos (dT h)],by rw [h];simp⟩
  ·obtain ⟨j,h1,h2⟩:=Zr8 v l (k+1)
   exact ⟨j,by rw [if_neg (dF h),h1],by rw [h2,List.mem_cons];simp [h]⟩
theorem Zrv (l:List Int) (v:Int):Zjb l v=some (decide (v ∈ l)):=by
 obtain ⟨j,h1,h2⟩:=Zr8 v l 0
 rw [Zjb,Zln,h1,oB]
 simp only [h2]
theorem Zu4 {n:Z4}:∀ {l:List Int} {k:Nat},Wn n l k=true→∀ x ∈ l,-1≤x
 | x :: l,k,h,y,hy=>by
  rw [Wn,Bool.and_eq_true,Bool.and_eq_true,decide_eq_true_eq] at h
  rcases List.mem_cons.1 hy with rfl | hy
  ·exact h.1
  ·exact Zu4 h.2.2 y hy
theorem Zu5 {n:Z4}:∀ {l:List Int} {k:Nat},Wn n l k=true→∀ i,i<l.length→l.getD i 0<(cnt n (k+i):Int)
 | x :: l,k,h,0,_=>by
  rw [Wn,Bool.and_eq_true,Bool.and_eq_true,decide_eq_true_eq,decide_eq_true_eq] at h
  exact h.2.1
 | x :: l,k,h,i+1,hi=>by
  rw [Wn,Bool.and_eq_true,Bool.and_eq_true] at h
  have:=Zu5 h.2.2 i (by simpa using hi)
  rw [show k+1+i=k+(i+1) by omega] at this
  exact this
theorem Zrg {n:Z4} {l:List Int} {k:Nat} (h:Wn n l k=true):(l.all fun x=>decide (0≤x))= !decide ((-1:Int) ∈ l):=by
 have hg:=Zu4 h
 by_cases hm:(-1:Int) ∈ l
 ·rw [decide_eq_true hm,Bool.not_true,Bool.eq_false_iff]
  intro h2
  have:=List.all_eq_true.1 h2 _ hm
  simp at this
 ·rw [decide_eq_false hm,Bool.not_false]
  refine List.all_eq_true.2 fun x hx=>?_
  have h1:=hg x hx
  have h2:x≠ -1:=fun e=>hm (e ▸ hx)
  exact decide_eq_true (by omega)
theorem Z2x {n:Z4} {r:List R1} (h:Td n r=true) (hf:Qa r=true):∀ row ∈ r,W2 n row:=fun row hr=>by
 have h1:=List.all_eq_true.1 h row hr
 have h2:=List.all_eq_true.1 hf row hr
 rw [Bool.and_eq_true,decide_eq_true_eq] at h1
 refine ⟨h1.1,fun i hi=>⟨?_,?_⟩⟩
 ·rw [Yr hi]
  have:=List.all_eq_true.1 h2 _ (List.getElem_mem hi)
  simpa using this
 ·have:=Zu5 h1.2 i hi
  rwa [Nat.zero_add] at this
/-! how often -/
def Ws (n:Z4) (v:Nat) (row:List Int):Nat:=Uu n row v * cnt n v+(row.getD v 0).toNat
def Wc (n:Z4) (v:Nat) (r:List R1):List Int:=(List.range (n.2.2.2.2.getD v []).length).map fun i=>((r.countP fun row=>decide (Ws n v row=i):Nat):Int)
theorem Zqh (n:Z4) (v:Nat):List.replicate (n.2.2.2.2.getD v []).length (0:Int)=Wc n v []:=by
 refine List.ext_getElem (by simp only [Wc,List.length_replicate,List.length_map,List.length_range]) fun i h1 h2=>?_
 simp only [Wc,List.getElem_replicate,List.getElem_map,List.countP_nil];rfl
theorem Zqi (n:Z4) (v:Nat) (pre:List R1) (row:List Int) (h:Ws n v row<(n.2.2.2.2.getD v []).length):(Wc n v pre).set (Ws n v row) (((pre.countP fun q=>decide (Ws n v q=Ws n v row):Nat):Int)+1)=Wc n v (pre++[row]):=by
 refine List.ext_getElem (by simp only [Wc,nS,List.length_map]) fun i h1 h2=>?_
 simp only [Wc,List.getElem_set,List.getElem_map,List.getElem_range,List.countP_append,List.countP_singleton]
 by_cases hi:Ws n v row=i
 ·subst hi;rw [if_pos rfl,if_pos (dT rfl)];rfl
 ·rw [if_neg hi,if_neg (dF hi),Nat.add_zero]
theorem Zqg (n:Z4) (v:Nat) (r:List R1) {i:Nat} (h:i<(n.2.2.2.2.getD v []).length):Zl (Wc n v r) (i:Int)=some ((r.countP fun q=>decide (Ws n v q=i):Nat):Int):=by
 rw [Zv (by rw [Wc,List.length_map,List.length_range];exact h)]
 simp only [Wc,List.getElem_map,List.getElem_range]
section
variable {N:Nat} {n:Z4} (hf:Wb N n)
include hf
theorem Ztk {v:Nat} (hv:v<n.2.1.length) {row:List Int} (hw:W2 n row):Ws n v row<(n.2.2.2.2.getD v []).length:=by
 have h1:=hf.row hw hv
 have h2:=hw.ok v (by rw [hw.len];exact hv)
 rw [Ws];omega
theorem Ztj {v:Nat} (hv:v<n.2.1.length) {row:List Int} (hw:W2 n row) {c:List Int} {x:Int} (hx:Zl c ((Ws n v row:Nat):Int)=some x) (hx2:0≤x∧x≤1048576) (kk:List Int→Option Rb):∀ (ps:List Int) (r k:Nat),(∀ q ∈ ps,0≤q∧q<(n.2.1.length:Int))→r<k→k≤65536→Ya n.2.2.1 ps k≤65536→Q2 n row ps r=Uu n row v→
  Zab n c kk row (ps++[(v:Int)]) (r:Int)=kk (c.set (Ws n v row) (x+1))
 | [],r,k,_,_,_,_,e=>by
  rw [Q2] at e
  subst e
  have hrow:=hf.row hw hv
  have hrows:=hf.rows hv
  have hwv:=hw.ok v (by rw [hw.len];exact hv)
  have e3:i64.wrap ((Uu n row v:Int) * ((n.2.2.1.getD v []).length:Int))=((Uu n row v * cnt n v:Nat):Int):=by
   rw [show ((n.2.2.1.getD v []).length:Int)=((cnt n v:Nat):Int) from rfl,← Int.natCast_mul]
   exact Zs (by omega)
  have e4:i64.wrap (((Uu n row v * cnt n v:Nat):Int)+row.getD v 0)=((Ws n v row:Nat):Int):=by
   rw [Ws,Int.natCast_add,show (((row.getD v 0).toNat:Nat):Int)=row.getD v 0 by omega]
   exact Zs (by omega)
  rw [List.nil_append,Zab.eq_2,Wf 0 (by rw [hw.len];exact hv),oB,if_neg (dF (by omega)),Wf [] (by rw [hf.ev.v];exact hv),oB,e3,e4,Zab.eq_1,hx,oB,oB,Zs (by omega),Int.toNat_natCast]
 | p :: ps,r,k,hp,hr,hk,hb,e=>by
  obtain ⟨c1,c2,c3⟩:=Zon hf.ev hw hp hr hk hb
  rw [Q2] at e
  have hpp:=hp p List.mem_cons_self
  have hwp:=hw.ok p.toNat (by rw [hw.len];omega)
  have g5:r * cnt n p.toNat≤k * cnt n p.toNat:=Nat.mul_le_mul_right _ (by omega)
  have q1:Zl n.2.2.1 p=some (n.2.2.1.getD p.toNat []):=by
   have:=Wf (l:=n.2.2.1) [] (j:=p.toNat) (by rw [hf.ev.v];omega)
   rwa [show ((p.toNat:Nat):Int)=p by omega] at this
  have q2:Zl row p=some (row.getD p.toNat 0):=by
   have:=Wf (l:=row) 0 (j:=p.toNat) (by rw [hw.len];omega)
   rwa [show ((p.toNat:Nat):Int)=p by omega] at this
  have e1:i64.wrap ((r:Int) * ((n.2.2.1.getD p.toNat []).length:Int))=((r * cnt n p.toNat:Nat):Int):=by
   rw [show ((n.2.2.1.getD p.toNat []).length:Int)=((cnt n p.toNat:Nat):Int) from rfl,← Int.natCast_mul]
   exact Zs (by omega)
  have e2:i64.wrap (((r * cnt n p.toNat:Nat):Int)+row.getD p.toNat 0)=((r * cnt n p.toNat+(row.getD p.toNat 0).toNat:Nat):Int):=by
   rw [Int.natCast_add,show (((row.getD p.toNat 0).toNat:Nat):Int)=row.getD p.toNat 0 by omega]
   exact Zs (by omega)
  rw [List.cons_append,Zab.eq_2,q2,oB,if_neg (dF (by omega)),q1,oB,e1,e2]
  exact Ztj hv hw hx hx2 kk ps _ _ (fun q hq=>hp q (List.mem_cons_of_mem _ hq)) c1 c2 c3 e
theorem Zti {v:Nat} (hv:v<n.2.1.length) (hps:(n.2.2.2.1.getD v []).length≤1048576):∀ (l pre:List R1),(∀ row ∈ l,W2 n row)→pre.length+l.length≤1048576→Qi n (v:Int) l (Wc n v pre)=some (Wc n v (pre++l),0)
 | [],pre,_,_=>by rw [Qi.eq_1,List.append_nil]
 | row :: l,pre,h,hl=>by
  rw [nC] at hl
  have hw:=h row List.mem_cons_self
  have hpl:=Ztk hf hv hw
  have hle:=List.countP_le_length (p:=fun q=>decide (Ws n v q=Ws n v row)) (l:=pre)
  have ih:=Zti hv hps l (pre++[row]) (fun q hq=>h q (List.mem_cons_of_mem _ hq)) (by rw [nA,List.length_singleton];omega)
  rw [List.append_assoc,List.singleton_append] at ih
  obtain ⟨h1,h2,h3⟩:=hf.rows hv
  have L2:=Ztj hf hv hw (Zqg n v pre hpl) ⟨by omega,by omega⟩ (Qi n (v:Int) l) (n.2.2.2.1.getD v []) 0 1 (hf.pars hv) (by omega) (by omega) h3 rfl
  rw [Zqi n v pre row hpl] at L2
  rw [Qi.eq_2,Wf [] (by rw [hf.ev.p];exact hv),oB,Zzh (by omega),oB,Z6 (by simp only [List.length_singleton,maxLen];omega)]
  exact L2.trans ih
theorem Z1u {v:Nat} (hv:v<n.2.1.length) (hps:(n.2.2.2.1.getD v []).length≤1048576) {r:List R1} (hC:Sm N n=some 0) (hw:Td n r=true) (hr:∀ row ∈ r,W2 n row) (hl:r.length≤1048576):Zfh N n r (v:Int)=some (Wc n v r,0):=by
 have hC':Sm N (n.1,n.2.1,n.2.2.1,n.2.2.2.1,n.2.2.2.2)=some 0:=hC
 have dw:Zh3 N (n.1,n.2.1,n.2.2.1,n.2.2.2.1,n.2.2.2.2) r=some 0:=by
  rw [Zh3,hC',oB,if_neg (by decide)]
  have:=Zqv (n:=n) hf.ev.v r
  rw [if_pos hw] at this
  exact this
 have hL:=(hf.rows hv).2.1
 rw [Zfh,dw,oB,if_neg (by decide),if_neg (dF (by omega)),decide_eq_false (by omega),Zh2,if_neg (by decide),Wf [] (by rw [hf.ev.t];exact hv),oB,Z6 (by simp only [maxLen];omega),Zqh]
 have:=Zti hf hv hps r [] hr (by simpa using hl)
 rwa [List.nil_append] at this
/-! the document -/
theorem Zvd {v:Nat} (hv:v<n.2.1.length) (hps:(n.2.2.2.1.getD v []).length≤1048576) {w:List Int} (hw:W2 n w):∀ (f i r k:Nat),i≤(n.2.2.2.1.getD v []).length→(n.2.2.2.1.getD v []).length<f+i→r<k→k≤65536→Ya n.2.2.1 ((n.2.2.2.1.getD v []).drop i) k≤65536→Q2 n w ((n.2.2.2.1.getD v []).drop i) r=Uu n w v→
  Zd4 N n (v:Int) w f (r:Int) (i:Int)=some ((Uu n w v:Nat):Int)
 | 0,i,r,k,h1,h2,_,_,_,_=>by omega
 | f+1,i,r,k,h1,h2,g1,g2,g3,g4=>by
  rw [Zd4.eq_2,Wf [] (by rw [hf.ev.p];exact hv),oB]
  by_cases hi:i<(n.2.2.2.1.getD v []).length
  ·have hp:∀ q ∈ (n.2.2.2.1.getD v []).drop i,0≤q∧q<(n.2.1.length:Int):=fun q hq=>hf.pars hv q (List.mem_of_mem_drop hq)
   rw [List.drop_eq_getElem_cons hi] at g3 hp g4
   obtain ⟨c1,c2,c3⟩:=Zon hf.ev hw hp g1 g2 g3
   rw [Q2] at g4
   generalize he:(n.2.2.2.1.getD v [])[i]=p at *
   have hpp:=hp p List.mem_cons_self
   have hwp:=hw.ok p.toNat (by rw [hw.len];omega)
   have g5:r * cnt n p.toNat≤k * cnt n p.toNat:=Nat.mul_le_mul_right _ (by omega)
   have q1:Zl n.2.2.1 p=some (n.2.2.1.getD p.toNat []):=by
    have:=Wf (l:=n.2.2.1) [] (j:=p.toNat) (by rw [hf.ev.v];omega)
    rwa [show ((p.toNat:Nat):Int)=p by omega] at this
   have q2:Zl w p=some (w.getD p.toNat 0):=by
    have:=Wf (l:=w) 0 (j:=p.toNat) (by rw [hw.len];omega)
    rwa [show ((p.toNat:Nat):Int)=p by omega] at this
   have e1:i64.wrap ((r:Int) * ((n.2.2.1.getD p.toNat []).length:Int))=((r * cnt n p.toNat:Nat):Int):=by
    rw [show ((n.2.2.1.getD p.toNat []).length:Int)=((cnt n p.toNat:Nat):Int) from rfl,← Int.natCast_mul]
    exact Zs (by omega)
   have e2:i64.wrap (((r * cnt n p.toNat:Nat):Int)+w.getD p.toNat 0)=((r * cnt n p.toNat+(w.getD p.toNat 0).toNat:Nat):Int):=by
    rw [Int.natCast_add,show (((w.getD p.toNat 0).toNat:Nat):Int)=w.getD p.toNat 0 by omega]
    exact Zs (by omega)
   rw [if_pos (dT (by omega)),Zv hi,he,oB,q1,oB,q2,oB,e1,e2,wS (by omega)]
   exact Zvd hv hps hw f (i+1) _ _ (by omega) (by omega) c1 c2 c3 g4
  ·rw [List.drop_eq_nil_of_le (by omega),Q2] at g4
   rw [if_neg (dF (by omega)),g4]
theorem Z2z {v:Nat} (hv:v<n.2.1.length) (hps:(n.2.2.2.1.getD v []).length≤1048576) {w:List Int} (hw:W2 n w) (hN:1048577<N):Zhb N n (v:Int) w=some ((Ws n v w:Nat):Int):=by
 obtain ⟨h1,h2,h3⟩:=hf.rows hv
 have R:=Zvd hf hv hps hw N 0 0 1 (Nat.zero_le _) (by omega) (by omega) (by omega) (by rw [List.drop_zero];exact h3) (by rw [List.drop_zero];rfl)
 have R':Zld N (n.1,n.2.1,n.2.2.1,n.2.2.2.1,n.2.2.2.2) (v:Int) w=some ((Uu n w v:Nat):Int):=R
 have hrow:=hf.row hw hv
 have hwv:=hw.ok v (by rw [hw.len];exact hv)
 have e3:i64.wrap ((Uu n w v:Int) * ((n.2.2.1.getD v []).length:Int))=((Uu n w v * cnt n v:Nat):Int):=by
  rw [show ((n.2.2.1.getD v []).length:Int)=((cnt n v:Nat):Int) from rfl,← Int.natCast_mul]
  exact Zs (by omega)
 have e4:i64.wrap (((Uu n w v * cnt n v:Nat):Int)+w.getD v 0)=((Ws n v w:Nat):Int):=by
  rw [Ws,Int.natCast_add,show (((w.getD v 0).toNat:Nat):Int)=w.getD v 0 by omega]
  exact Zs (by omega)
 rw [Zhb,R',oB,Wf [] (by rw [hf.ev.v];exact hv),oB,Wf 0 (by rw [hw.len];exact hv),oB,e3,e4]
theorem Z2u {v:Nat} (hv:v<n.2.1.length) (hps:(n.2.2.2.1.getD v []).length≤1048576) {w:List Int} (hw:W2 n w) (hN:1048577<N):Zha N n w (v:Int)=some true:=by
 have hwv:=hw.ok v (by rw [hw.len];exact hv)
 have L:∀ (f i:Nat),i≤(n.2.2.2.1.getD v []).length→(n.2.2.2.1.getD v []).length<f+i→Zed N n w (v:Int) f (i:Int)=some true:=by
  intro f
  induction f with
  | zero=>intro i h1 h2;omega
  | succ f ih=>
   intro i h1 h2
   rw [Zed.eq_2,Wf [] (by rw [hf.ev.p];exact hv),oB]
   by_cases hi:i<(n.2.2.2.1.getD v []).length
   ·have hp:=hf.pars hv _ (List.getElem_mem hi)
    have hwp:=hw.ok ((n.2.2.2.1.getD v [])[i]).toNat (by rw [hw.len];omega)
    have q2:Zl w (n.2.2.2.1.getD v [])[i]=some (w.getD ((n.2.2.2.1.getD v [])[i]).toNat 0):=by
     have:=Wf (l:=w) 0 (j:=((n.2.2.2.1.getD v [])[i]).toNat) (by rw [hw.len];omega)
     rwa [show ((((n.2.2.2.1.getD v [])[i]).toNat:Nat):Int)=(n.2.2.2.1.getD v [])[i] by omega] at this
    rw [if_pos (dT (by omega)),Zv hi,oB,q2,oB,if_neg (dF (by omega)),wS (by omega)]
    exact ih (i+1) (by omega) (by omega)
   ·rw [if_neg (dF (by omega))]
 rw [Zha,Wf 0 (by rw [hw.len];exact hv),oB,if_neg (dF (by omega))]
 exact L N 0 (Nat.zero_le _) (by omega)
theorem Zuh {v:Nat} (hv:v<n.2.1.length) (hps:(n.2.2.2.1.getD v []).length≤1048576) {r:List R1} (hr:∀ row ∈ r,W2 n row) (hl:r.length≤1048576) (hN:1048577<N):∀ (f i:Nat),i≤r.length→r.length<f+i→Za1 N n r (v:Int) f (Wc n v (r.take i)) (i:Int)=some (Wc n v r)
 | 0,i,h1,h2=>by omega
 | f+1,i,h1,h2=>by
  rw [Za1.eq_2]
  by_cases hi:i<r.length
  ·have hw:=hr _ (List.getElem_mem hi)
   have hpl:=Ztk hf hv hw
   have hle:=List.countP_le_length (p:=fun q=>decide (Ws n v q=Ws n v r[i])) (l:=r.take i)
   rw [nK] at hle
   have kn:Zha N (n.1,n.2.1,n.2.2.1,n.2.2.2.1,n.2.2.2.2) r[i] (v:Int)=some true:=Z2u hf hv hps hw hN
   have pc:Zhb N (n.1,n.2.1,n.2.2.1,n.2.2.2.1,n.2.2.2.2) (v:Int) r[i]=some ((Ws n v r[i]:Nat):Int):=Z2z hf hv hps hw hN
   have ih:=Zuh hv hps hr hl hN f (i+1) (by omega) (by omega)
   rw [List.take_succ_eq_append_getElem hi,← Zqi n v _ _ hpl] at ih
   rw [if_pos (dT (by omega)),Zv hi,oB,kn,oB,if_pos rfl,pc,oB,Zqg n v _ hpl,oB,oB,Int.toNat_natCast,Zi8,wS (by omega),Zs (by omega)]
   exact ih
  ·rw [if_neg (dF (by omega)),List.take_of_length_le (by omega)]
theorem Z2h {v:Nat} (hv:v<n.2.1.length) (hps:(n.2.2.2.1.getD v []).length≤1048576) {r:List R1} (hr:∀ row ∈ r,W2 n row) (hl:r.length≤1048576) (hN:1048577<N):Zg9 N n r (v:Int)=some (Wc n v r):=by
 have hL:=(hf.rows hv).2.1
 have:=Zuh hf hv hps hr hl hN N 0 (Nat.zero_le _) (by omega)
 rw [List.take_zero,← Zqh] at this
 rw [Zg9,Wf [] (by rw [hf.ev.t];exact hv),oB,Z6 (by simp only [maxLen];omega)]
 exact this
end
def Zfp (N:Nat) (ab:Int):Option R2:=
  (Zfm N ab 1).bind fun aa=>some ((aa.1.1.1,aa.1.1.2),aa.1.2)
theorem Zxn {N:Nat} {col:Ze} {w0:World} {ai:Int} {r:R2} (c1 c2:Nat) (hm:Zfp N ai=some r):
    Calls prog 109 #[.int .i64 ai] w0 (fun e w'=>∃ (col':Ze) (ra1:Option Addr) (rc2:Nat) (ra4:Option Addr) (rc5:Nat),e= .returned ((.agg #[.bool r.1.1,.slice ra1 r.1.2.length rc2,.slice ra4 r.2.length rc5]))∧Zf col w0 col' w'∧Zc (Za.int .u32) 79 c1 col' w' ra1 rc2 r.1.2∧Zc (Za.int .u32) 79 c2 col' w' ra4 rc5 r.2):=by
 refine Yt (m:=11) func109 rfl rfl rfl ?_;rw [Zfp.eq_1] at hm;have ab:=St.start col w0;refine go ?_;refine Xs (col:=(Zg col)) #[.bool false,.slice none (([]:List Int).length) 0,.slice none (([]:List Int).length) 0] 1 zeroValue47 ?_;intro az a0 ao ap ae;refine go ?_;obtain ⟨aa,aq,hm⟩:=bZ hm;refine Zi (Zpk (col:=ao) 2 3 aq) ?_;rintro _ a1 ⟨ar,aj,ak,al,am,rfl,an,af,ag⟩;refine ⟨_,rfl,?_⟩;refine lM (.tuple #[(.agg #[.bool aa.1.1.1,.slice aj aa.1.1.2.length ak,.slice al aa.1.2.length am]),.int .i64 aa.2])<|lV (.agg #[.bool aa.1.1.1,.slice aj aa.1.1.2.length ak,.slice al aa.1.2.length am]) (Xq rfl rfl)<|lV (.int .i64 aa.2) (Xq rfl rfl)<|Xs (col:=ar) #[.bool false,.slice none (([]:List Int).length) 0,.slice none (([]:List Int).length) 0] 4 zeroValue47 ?_;intro a2 a3 a4 ac au;refine Xa au ?_;intro a5 ad av aw;refine go ?_;refine lV _ (Xd isAgg47 sizeOf47 aw) ?_;replace ae:=((ae.gr an).gr ac).kp ad;refine Xa ae ?_;intro a6 ah ax ay;refine go ?_;cases hm;replace ab:=((((ab.grow ap).grow an).grow ac).kp ad av).kp ah ax;replace af:=((af.gr ac).kp ad).kp ah;replace ag:=((ag.gr ac).kp ad).kp ah;exact ⟨rfl,_,ra ay.atN,_,_,_,_,_,rfl,ab.fin (cm [(2,c1),(3,c2)]),ab.fo af,ab.fo ag⟩
def Zcb (N:Nat) (ab:List Int) (ac:Int):Nat→Int→Option R4
  | 0,_=>none
  | ad+1,aa=>if (decide (aa<(ab.length:Int)))=true then (Z0 ((0:Int)≤aa∧aa≤(ab.length:Int)) (Z0 ((0:Int)≤aa∧aa≤(i64.wrap (aa+(if ((ab.drop (Int.toNat aa)).length:Int)<ac then ((ab.drop (Int.toNat aa)).length:Int) else ac)))∧(i64.wrap (aa+(if ((ab.drop (Int.toNat aa)).length:Int)<ac then ((ab.drop (Int.toNat aa)).length:Int) else ac)))≤(i64.wrap (aa+(if ((ab.drop (Int.toNat aa)).length:Int)<ac then ((ab.drop (Int.toNat aa)).length:Int) else ac)))∧(i64.wrap (aa+(if ((ab.drop (Int.toNat aa)).length:Int)<ac then ((ab.drop (Int.toNat aa)).length:Int) else ac)))≤(ab.length:Int)) (((Zcb N ab ac ad) (i64.wrap (aa+ac))).bind fun ae=>some ((ab.take (Int.toNat (i64.wrap (aa+(if ((ab.drop (Int.toNat aa)).length:Int)<ac then ((ab.drop (Int.toNat aa)).length:Int) else ac))))).drop (Int.toNat aa) :: ae)))) else (some [])
termination_by structural x=>x
def Zlj (N:Nat) (aa:List Int) (ab:Int):Option R4:=
  Zcb N aa ab N 0
theorem Zy2 (N:Nat) (col:Ze) (w0:World) (g0:Nat) (af0:Option Addr) (capf0:Nat) (ab:List Int) (hf0:Sl (Za.int .i64) col w0 af0 capf0 ab) (hb0:Zk 40 450 col w0 g0 #[.slice af0 ab.length capf0]) (g1:Nat) (ac:Int) (hb1:Zk 3 450 col w0 g1 #[.int .i64 ac]) (r:List R1) (hm:Zlj N ab ac=some r):
    Zmw prog 1 216 [.pointer (some ⟨g0,0,none⟩),.pointer (some ⟨g1,0,none⟩)] (fun (y:List Int) (col:Ze) (w:World) (args:List Value)=>∃ (a0:Option Addr) (ak:Nat),args=[.slice a0 y.length ak]∧Sl (Za.int .i64) col w a0 ak y) r col w0:=by
 intro l J X hjs hxs hy ad;refine Zkn (m:=31) (args:=[.func (.yield l) #[] #[],.pointer (some ⟨g0,0,none⟩),.pointer (some ⟨g1,0,none⟩)]) func216 rfl rfl rfl rfl ?_;rw [Zlj.eq_1] at hm;refine go ?_;refine Zu [0,1,2,1000000] (fun n f ah=>∃ ae r aa af,af=n∧Zcb N ab ac af aa=some r∧J r ae ah∧Sl (Za.int .i64) ae ah af0 capf0 ab∧Zk 40 450 ae ah g0 #[.slice af0 ab.length capf0]∧Zk 3 450 ae ah g1 #[.int .i64 ac]∧[4].map f=[.int .i64 aa]) N ⟨_,_,0,_,rfl,hm,ad,hf0,hb0,hb1,rfl⟩ ?_;clear hm;intro n f ah hI;obtain ⟨ae,r,aa,af,hn,hm,ad,hf0,hb0,hb1,hs⟩:=hI;subst hn;refine .lL [4] hs ?_
 cases af with
 | zero=>rw [Zcb.eq_1] at hm;cases hm
 | succ af=>
  rw [Zcb.eq_2] at hm;refine go ?_;refine lW hb0.at1<|go ?_;refine Zm hm (fun hb hm=>go ?_) fun hb hm=>go ?_
  ·refine Ys (col:=ae) (by kernel_rfl) (by kernel_rfl)<|qW (fun _ hC=>hb1.at1.gr (hC.bl ae)) ?_;refine qW (fun _ hC=>hb0.at1.gr (hC.bl ae)) ?_;refine go ?_;obtain ⟨al,hm⟩:=Z3 hm;have ap:=hf0.drop (sz:=1) rfl (Int.toNat aa);refine qv (v:=.slice (if capf0=(Int.toNat aa) then af0 else af0.map (·.add ((Int.toNat aa) * 1))) (ab.length - (Int.toNat aa)) (capf0 - (Int.toNat aa))) rfl (fun _ hC=>Zua underlying40 sizeOf3 rfl rfl al.1 al.2) ?_;generalize (if capf0=(Int.toNat aa) then af0 else af0.map (·.add ((Int.toNat aa) * 1)))=am at *;refine .ld (d:=16) (v:=(.slice am ((ab.drop (Int.toNat aa)).length) (capf0 - (Int.toNat aa)))) (congrArg (fun n=>Value.slice am n (capf0 - (Int.toNat aa))) (List.length_drop (i:=(Int.toNat aa)) (l:=ab)).symm) ?_;refine go ?_;refine qv (v:=(.int .i64 (if ((ab.drop (Int.toNat aa)).length:Int)<ac then ((ab.drop (Int.toNat aa)).length:Int) else ac))) rfl (fun _ hC=>Zl9 ac ((ab.drop (Int.toNat aa)).length:Int) rfl rfl) ?_;refine go ?_;refine X9 ?_;intro aq hC;replace hC:=hC.bl ae;replace hf0:=hf0.gr hC;replace hb0:=hb0.gr hC;replace hb1:=hb1.gr hC;replace ad:=hjs _ _ _ _ _ ad hC.toP;refine go ?_;refine lM (.func (.yield l) #[] #[])<|lW hb0.at1<|go ?_;obtain ⟨ag,hm⟩:=Z3 hm;have an:=((hf0.take (Int.toNat (i64.wrap (aa+(if ((ab.drop (Int.toNat aa)).length:Int)<ac then ((ab.drop (Int.toNat aa)).length:Int) else ac))))).recap (show (ab.take (Int.toNat (i64.wrap (aa+(if ((ab.drop (Int.toNat aa)).length:Int)<ac then ((ab.drop (Int.toNat aa)).length:Int) else ac))))).length≤(Int.toNat (i64.wrap (aa+(if ((ab.drop (Int.toNat aa)).length:Int)<ac then ((ab.drop (Int.toNat aa)).length:Int) else ac)))) by rw [List.length_take (i:=(Int.toNat (i64.wrap (aa+(if ((ab.drop (Int.toNat aa)).length:Int)<ac then ((ab.drop (Int.toNat aa)).length:Int) else ac))))) (l:=ab)];have:=ag.2;omega)).drop (sz:=1) rfl (Int.toNat aa);refine lv (v:=.slice (if (Int.toNat (i64.wrap (aa+(if ((ab.drop (Int.toNat aa)).length:Int)<ac then ((ab.drop (Int.toNat aa)).length:Int) else ac))))=(Int.toNat aa) then af0 else af0.map (·.add ((Int.toNat aa) * 1))) ((Int.toNat (i64.wrap (aa+(if ((ab.drop (Int.toNat aa)).length:Int)<ac then ((ab.drop (Int.toNat aa)).length:Int) else ac)))) - (Int.toNat aa)) ((Int.toNat (i64.wrap (aa+(if ((ab.drop (Int.toNat aa)).length:Int)<ac then ((ab.drop (Int.toNat aa)).length:Int) else ac)))) - (Int.toNat aa))) rfl rfl (Zuc underlying40 sizeOf3 rfl rfl rfl rfl ag.1 ag.2.1 ag.2.2.1 (by have:=hf0.1.2;have:=ag.2.2.2;omega)) ?_
   generalize (if (Int.toNat (i64.wrap (aa+(if ((ab.drop (Int.toNat aa)).length:Int)<ac then ((ab.drop (Int.toNat aa)).length:Int) else ac))))=(Int.toNat aa) then af0 else af0.map (·.add ((Int.toNat aa) * 1)))=ai at *;refine .ld (d:=28) (v:=(.slice ai (((ab.take (Int.toNat (i64.wrap (aa+(if ((ab.drop (Int.toNat aa)).length:Int)<ac then ((ab.drop (Int.toNat aa)).length:Int) else ac))))).drop (Int.toNat aa)).length) ((Int.toNat (i64.wrap (aa+(if ((ab.drop (Int.toNat aa)).length:Int)<ac then ((ab.drop (Int.toNat aa)).length:Int) else ac)))) - (Int.toNat aa)))) (congrArg (fun n=>Value.slice ai n ((Int.toNat (i64.wrap (aa+(if ((ab.drop (Int.toNat aa)).length:Int)<ac then ((ab.drop (Int.toNat aa)).length:Int) else ac)))) - (Int.toNat aa))) (show (Int.toNat (i64.wrap (aa+(if ((ab.drop (Int.toNat aa)).length:Int)<ac then ((ab.drop (Int.toNat aa)).length:Int) else ac)))) - (Int.toNat aa)=((ab.take (Int.toNat (i64.wrap (aa+(if ((ab.drop (Int.toNat aa)).length:Int)<ac then ((ab.drop (Int.toNat aa)).length:Int) else ac))))).drop (Int.toNat aa)).length by rw [List.length_drop (i:=(Int.toNat aa)) (l:=ab.take (Int.toNat (i64.wrap (aa+(if ((ab.drop (Int.toNat aa)).length:Int)<ac then ((ab.drop (Int.toNat aa)).length:Int) else ac))))),List.length_take (i:=(Int.toNat (i64.wrap (aa+(if ((ab.drop (Int.toNat aa)).length:Int)<ac then ((ab.drop (Int.toNat aa)).length:Int) else ac))))) (l:=ab)];have:=ag.2;omega)) ?_;obtain ⟨ar,hc_14m,ao⟩:=bZ hm;cases ao;have hm:=hc_14m;refine ly1 rfl rfl rfl (hy _ _ _ _ [(.slice ai (((ab.take (Int.toNat (i64.wrap (aa+(if ((ab.drop (Int.toNat aa)).length:Int)<ac then ((ab.drop (Int.toNat aa)).length:Int) else ac))))).drop (Int.toNat aa)).length) ((Int.toNat (i64.wrap (aa+(if ((ab.drop (Int.toNat aa)).length:Int)<ac then ((ab.drop (Int.toNat aa)).length:Int) else ac)))) - (Int.toNat aa)))] ad ⟨ai,((Int.toNat (i64.wrap (aa+(if ((ab.drop (Int.toNat aa)).length:Int)<ac then ((ab.drop (Int.toNat aa)).length:Int) else ac)))) - (Int.toNat aa)),rfl,an⟩) ?_;rintro _ au ⟨av,aj,⟨rfl,hJ⟩ | ⟨rfl,hX⟩⟩
   ·refine ⟨_,rfl,?_⟩;have ad:=hJ;refine go ?_;refine Yd rfl<|go ?_;replace hb1:=hb1.kpp aj;refine lW hb1.at1<|go ?_;replace hf0:=hf0.kpp aj;replace hb0:=hb0.kpp aj;exact ⟨af,by omega,rfl,⟨_,_,_,_,rfl,hm,ad,hf0,hb0,hb1,rfl⟩⟩
   refine ⟨_,rfl,?_⟩;have ad:=hX;refine go ?_;refine Ye rfl<|Wh ?_;exact ⟨rfl,⟨_,rfl⟩,_,.inr ad⟩
  cases hm;exact ⟨rfl,⟨_,rfl⟩,_,.inl ad⟩
def Zlk (N:Nat) (aa:List Int) (ab:Int):Option R4:=
  Zlj N aa ab
def Zi9 (N:Nat) (ab:List Int) (aa:Int):Option R4:=
  if (decide (aa<1))=true then none else (Zlk N ab aa)
theorem Zy1 {N aa:Nat} {a0:Option Addr} {col:Ze} {w0:World} {ac:R1} {ad:Int} {r:R4} (hm:Zi9 N ac ad=some r) (h0:Sl (Za.int .i64) col w0 a0 aa ac):
    Calls prog 111 #[.slice a0 ac.length aa,.int .i64 ad] w0 (fun e w'=>∃ (col':Ze) (rv1:Value),e= .returned (rv1)∧Zf col w0 col' w'∧It prog 1 rv1 (fun (y:List Int) (col:Ze) (w:World) (args:List Value)=>∃ (a0:Option Addr) (aa:Nat),args=[.slice a0 y.length aa]∧Sl (Za.int .i64) col w a0 aa y) r q0 col' w'):=by
 refine Z1 4 (m:=9) func111 rfl rfl rfl rfl rfl ?_;rw [Zi9.eq_1] at hm;have ab:=St.start col w0;refine go ?_;refine Zhy (col:=(Zg col)) (v:=(.slice a0 ac.length aa)) 1 rfl rfl ?_;intro af ap an aq ae;replace ae:Zk 40 1 an ap af #[.slice a0 ac.length aa]:=ae;refine Zhy (col:=an) (v:=(.int .i64 ad)) 2 rfl rfl ?_;intro ag ar au ao ah;replace ah:Zk 3 2 au ar ag #[.int .i64 ad]:=ah;refine lv (v:=_) rfl rfl (S0 rfl)<|Zo<|Zt ?_;replace h0:=h0.keep (Zh.start col w0);replace ab:=(ab.grow aq).grow ao;replace ae:=ae.gr ao;refine Wp.cutK [2,3,1000000] (fun f aj=>∃ ai,Zlk N ac ad=some r∧St w0 (Zg col) ai aj∧Zk 40 1 ai aj af #[.slice a0 ac.length aa]∧Zk 3 2 ai aj ag #[.int .i64 ad]) ?_ ?_
 ·intro f aj hJ;obtain ⟨ai,hm,ab,ae,ah⟩:=hJ;rw [Zlk.eq_1] at hm;refine go ?_;refine lV (.func (.func 216) #[] #[.pointer (some ⟨af,0,none⟩),.pointer (some ⟨ag,0,none⟩)]) (Zt2 rfl rfl)<|lA (.func (.func 216) #[] #[.pointer (some ⟨af,0,none⟩),.pointer (some ⟨ag,0,none⟩)])<|go ?_;have ak:=ab.finBox (G:=(fun n=>bif Nat.beq n 1 then 450 else bif Nat.beq n 2 then 450 else 0)) ae (by decide) (by decide) (show (fun n=>bif Nat.beq n 1 then 450 else bif Nat.beq n 2 then 450 else 0) 1=450 from rfl);have h0f:=ab.finSl (g:=(fun n=>bif Nat.beq n 1 then 450 else bif Nat.beq n 2 then 450 else 0)) rfl (h0.ks ab);have al:=ab.finBox (G:=(fun n=>bif Nat.beq n 1 then 450 else bif Nat.beq n 2 then 450 else 0)) ah (by decide) (by decide) (show (fun n=>bif Nat.beq n 1 then 450 else bif Nat.beq n 2 then 450 else 0) 2=450 from rfl);refine ⟨rfl,Vv w0.heap.size col ai (fun n=>bif Nat.beq n 1 then 450 else bif Nat.beq n 2 then 450 else 0),_,rfl,ab.fin (fun n=>bif Nat.beq n 1 then 450 else bif Nat.beq n 2 then 450 else 0),216,[.pointer (some ⟨af,0,none⟩),.pointer (some ⟨ag,0,none⟩)],rfl,call216,?_⟩;intro col9 w9 am hk9;replace ak:=ak.itk am hk9 rfl;replace h0f:=h0f.itk am hk9 rfl;replace al:=al.itk am hk9 rfl;exact Zy2 N col9 w9 af a0 aa ac h0f ak ag ad al r hm
 refine go ?_;refine lW ah.at1<|go ?_;refine Zm hm (fun hb hm=>?_) fun hb hm=>?_
 ·cases hm
 refine Xr ?_;exact ⟨rfl,_,hm,ab,ae,ah⟩
def Zbk (N:Nat) (ae:List ByteArray) (af:Bool) (ag:List Int) (ah:List Int) (kk_L3:(Bool→R1→R1→Option (R2×Int))):List Int→Int→R1→Option (R2×Int)
  | [],aa,ab=>(Zc6 N (i64.wrap ((i64.wrap (aa+(ae.length:Int))) - 1))).bind fun aj=>(Zfl N (false,ab) (false,aj)).bind fun ac=>(Zfk N ((af,ag),ah) ((ac.1.1.1,ac.1.1.2),ac.1.2)).bind fun ad=>kk_L3 ad.1.1 ad.1.2 ad.2
  | ai :: ak,aa,ab=>(Zc6 N ai).bind fun al=>(Sn N ab al).bind fun am=>(Zbk N ae af ag ah kk_L3 ak) (i64.wrap (aa+ai)) am
termination_by structural x=>x
def Qn (N:Nat) (ae:Int) (kk_L2:(Int→Bool→R1→R1→Option (R2×Int))) (aa:List ByteArray):List R1→Bool→R1→R1→Option (R2×Int)
  | [],ab,ac,ad=>kk_L2 (i64.wrap (ae+1)) ab ac ad
  | af :: ag,ab,ac,ad=>(Zc6 N (i64.wrap ((aa.length:Int) - 1))).bind fun ah=>Zbk N aa ab ac ad (Qn N ae kk_L2 aa ag) af 0 ah
termination_by structural x=>x
def Ts (N:Nat) (aa:R0) (ac:R4):Nat→Int→Bool→R1→R1→Option (R2×Int)
  | 0,_,_,_,_=>none
  | ah+1,ab,ad,ae,af=>if (decide (ab<(aa.2.1.length:Int)))=true then ((Zfh N (aa.1,aa.2.1,aa.2.2.1,aa.2.2.2.1,aa.2.2.2.2) ac ab).bind fun ai=>(Zl aa.2.2.1 ab).bind fun ag=>(Zi9 N ai.1 (ag.length:Int)).bind fun aj=>Qn N ab (Ts N aa ac ah) ag aj ad ae af) else (some (((ad,ae),af),0))
termination_by structural x=>x
def Qm (N:Nat) (ab:R0) (ac:R4):List R1→Bool→R1→R1→Option (R2×Int)
  | [],ad,ae,af=>(Zfp N 1).bind fun aa=>Ts N ab ac N 0 aa.1.1 aa.1.2 aa.2
  | ag :: ah,ad,ae,af=>(Zjb ag (-1)).bind fun ai=>if ai=true then (some (((false,([]:List Int)),([]:List Int)),72)) else ((Qm N ab ac ah) ad ae af)
termination_by structural x=>x
def U5 (N:Nat) (aa:R0) (ab:R4):Option (R2×Int):=
  (Zbm N (aa.1,aa.2.1,aa.2.2.1,aa.2.2.2.1,aa.2.2.2.2) ab).bind fun ac=>if (!decide (ac=0))=true then (some (((false,([]:List Int)),([]:List Int)),ac)) else (Qm N aa ab ab false ([]:List Int) ([]:List Int))
theorem Zm4 {N bj bk bm bn cf:Nat} {bo bp bq br a1:Option Addr} {col:Ze} {w0:World} {aa:R0} {a3:R4} {r:(R2×Int)} (c1 c2:Nat) (hm:U5 N aa a3=some r) (ae:Sl Za.str col w0 bo bj aa.2.1) (ac:Sl (Za.slice Za.str) col w0 bp bk aa.2.2.1) (af:Sl (Za.slice (Za.int .i64)) col w0 bq bm aa.2.2.2.1) (ag:Sl (Za.slice (Za.pair (Za.pair Za.bool (Za.slice (Za.int .u32))) (Za.slice (Za.int .u32)))) col w0 br bn aa.2.2.2.2) (h1:Sl (Za.slice (Za.int .i64)) col w0 a1 cf a3):
    Calls prog 40 #[(.agg #[.string aa.1,.slice bo aa.2.1.length bj,.slice bp aa.2.2.1.length bk,.slice bq aa.2.2.2.1.length bm,.slice br aa.2.2.2.2.length bn]),.slice a1 a3.length cf] w0 (fun e w'=>∃ (col':Ze) (ra1:Option Addr) (rc2:Nat) (ra4:Option Addr) (rc5:Nat),e= .returned (.tuple #[(.agg #[.bool r.1.1.1,.slice ra1 r.1.1.2.length rc2,.slice ra4 r.1.2.length rc5]),.int .i64 r.2])∧Zf col w0 col' w'∧Zc (Za.int .u32) 79 c1 col' w' ra1 rc2 r.1.1.2∧Zc (Za.int .u32) 79 c2 col' w' ra4 rc5 r.1.2):=by
 refine Zp9 (m:=96) (args:=[(.agg #[.string aa.1,.slice bo aa.2.1.length bj,.slice bp aa.2.2.1.length bk,.slice bq aa.2.2.2.1.length bm,.slice br aa.2.2.2.2.length bn]),.slice a1 a3.length cf]) func40 rfl rfl rfl ?_;rw [U5.eq_1] at hm;have ab:=St.start col w0;replace ae:=ae.keep (Zh.start col w0);replace ac:=ac.keep (Zh.start col w0);replace af:=af.keep (Zh.start col w0);replace ag:=ag.keep (Zh.start col w0);replace h1:=h1.keep (Zh.start col w0);have hmk:Yg 499 (Zg col) w0 []:=.nil;refine go ?_;refine Xe (col:=(Zg col)) 1 rfl ?_;intro c6 ga eb cg ad;refine Xs (col:=eb) #[.bool false,.slice none (([]:List Int).length) 0,.slice none (([]:List Int).length) 0] 2 zeroValue47 ?_;intro c7 ec di b7 ah;refine go ?_;replace ad:=ad.gr b7;refine lV _ (Xd isAgg27 sizeOf27 ad)<|Yi rfl ?_;obtain ⟨gb,ed,hm⟩:=bZ hm;replace ae:=(ae.gr cg).gr b7;replace ac:=(ac.gr cg).gr b7;replace af:=(af.gr cg).gr b7;replace ag:=(ag.gr cg).gr b7;replace h1:=(h1.gr cg).gr b7;refine Zi (Zxo ed ae ac af ag h1) ?_;rintro _ ee ⟨rfl,bs⟩;refine ⟨_,rfl,?_⟩;replace bs:Zf di ec di ee:=.of_below bs;refine go ?_;replace hmk:=((hmk.gr cg).gr b7).gr bs;replace ab:=((ab.grow cg).grow b7).grow bs;replace h1:=h1.gr bs;replace ae:=ae.gr bs;replace ac:=ac.gr bs;replace af:=af.gr bs;replace ag:=ag.gr bs;replace ad:=ad.gr bs;replace ah:=ah.gr bs;refine Zm hm (fun hb hm=>go ?_) fun hb hm=>go ?_
 ·refine lV (.agg #[.bool false,.slice none (([]:List Int).length) 0,.slice none (([]:List Int).length) 0]) (Wl (l:=[_,_]) (qs:=[(0,2),(2,1)]) underlying47 zeroValue47 ⟨rfl,sizeOf45,rfl,sizeOf43,trivial⟩ rfl)<|Xn rfl<|Xa ah ?_;intro gc dw ef dj;refine go ?_;cases hm;replace hmk:=hmk.kp dw;refine ⟨_,[],rfl,hmk,?_⟩;intro gd dx eg;replace ab:=(ab.kp dw ef).kp dx eg;replace dj:=dj.kp dx;exact ⟨_,Zmc rfl rfl isAgg47 sizeOf47 rfl rfl dj.atN rfl rfl,Vv w0.heap.size col di (fun n=>0),none,0,none,0,rfl,ab.fin (fun n=>0),Zc.nil,Zc.nil⟩
 refine Zu [1,2,28,29,4,1000000] (fun n f be=>∃ a4 cl cj b1 b2 bu b3 b4 bv cn,n=cn.length∧a3.drop cl=cn∧Qm N aa a3 cn cj bu bv=some r∧St w0 (Zg col) a4 be∧Sl (Za.slice (Za.int .i64)) a4 be a1 cf a3∧Sl Za.str a4 be bo bj aa.2.1∧Sl (Za.slice Za.str) a4 be bp bk aa.2.2.1∧Sl (Za.slice (Za.int .i64)) a4 be bq bm aa.2.2.2.1∧Sl (Za.slice (Za.pair (Za.pair Za.bool (Za.slice (Za.int .u32))) (Za.slice (Za.int .u32)))) a4 be br bn aa.2.2.2.2∧Zk 27 1 a4 be c6 #[.string aa.1,.slice bo aa.2.1.length bj,.slice bp aa.2.2.1.length bk,.slice bq aa.2.2.2.1.length bm,.slice br aa.2.2.2.2.length bn]∧Zc (Za.int .u32) 79 3 a4 be b1 b2 bu∧Zc (Za.int .u32) 79 4 a4 be b3 b4 bv∧Zk 47 2 a4 be c7 #[.bool cj,.slice b1 bu.length b2,.slice b3 bv.length b4]∧Yg 499 a4 be []∧[30].map f=[.int .i64 cl]) a3.length ⟨_,0,_,none,0,_,none,0,_,_,rfl,rfl,hm,ab,h1,ae,ac,af,ag,ad,Zc.nil,Zc.nil,ah,hmk,rfl⟩ ?_;clear hm;intro n f be hI;obtain ⟨a4,cl,cj,b1,b2,bu,b3,b4,bv,cn,hn,hl,hm,ab,h1,ae,ac,af,ag,ad,ai,aj,ah,hmk,hs⟩:=hI;subst hn;refine .lL [30] hs ?_
 cases cn with
 | nil=>
  have hk:¬ ((cl:Int)<(a3.length:Int)):=by have:=List.drop_eq_nil_iff.1 hl;omega
  have hkb:=decide_eq_false hk;rw [Qm.eq_1] at hm;refine go ?_;refine Yd (congrArg Value.bool hkb)<|go ?_;obtain ⟨ge,eh,hm⟩:=bZ hm;refine Zi (Zxn (col:=a4) 5 6 eh) ?_;rintro _ gf ⟨ei,gg,gh,gi,gj,rfl,bt,dl,dm⟩;refine ⟨_,rfl,?_⟩;refine Xs (col:=ei) #[.bool false,.slice none (([]:List Int).length) 0,.slice none (([]:List Int).length) 0] 7 zeroValue47 ?_;intro dn gk gl bf ej;refine Xa ej ?_;intro gm bg ek al;refine go ?_;refine Xv ⟨_,_,rfl⟩ ?_;replace ad:=((ad.gr bt).gr bf).kp bg;refine lW ((ad.atN).nth (q:=1) rfl)<|go ?_;replace h1:=((h1.gr bt).gr bf).kp bg;replace ae:=((ae.gr bt).gr bf).kp bg;replace ac:=((ac.gr bt).gr bf).kp bg;replace af:=((af.gr bt).gr bf).kp bg;replace ag:=((ag.gr bt).gr bf).kp bg;replace ai:=((ai.gr bt).gr bf).kp bg;replace aj:=((aj.gr bt).gr bf).kp bg;replace ah:=((ah.gr bt).gr bf).kp bg;replace hmk:=((hmk.gr bt).gr bf).kp bg;replace ab:=((ab.grow bt).grow bf).kp bg ek;replace dl:=(dl.gr bf).kp bg;replace dm:=(dm.gr bf).kp bg;refine Zu [1,2,4,41,9] (fun n f a9=>∃ a5 co c8 cp cq cr cs ct cu c9 b8,b8=n∧Ts N aa a3 b8 co c8 cr cu=some r∧St w0 (Zg col) a5 a9∧Sl (Za.slice (Za.int .i64)) a5 a9 a1 cf a3∧Sl Za.str a5 a9 bo bj aa.2.1∧Sl (Za.slice Za.str) a5 a9 bp bk aa.2.2.1∧Sl (Za.slice (Za.int .i64)) a5 a9 bq bm aa.2.2.2.1∧Sl (Za.slice (Za.pair (Za.pair Za.bool (Za.slice (Za.int .u32))) (Za.slice (Za.int .u32)))) a5 a9 br bn aa.2.2.2.2∧Zk 27 1 a5 a9 c6 #[.string aa.1,.slice bo aa.2.1.length bj,.slice bp aa.2.2.1.length bk,.slice bq aa.2.2.2.1.length bm,.slice br aa.2.2.2.2.length bn]∧Zc (Za.int .u32) 79 3 a5 a9 b1 b2 bu∧Zc (Za.int .u32) 79 4 a5 a9 b3 b4 bv∧Zk 47 2 a5 a9 c7 #[.bool cj,.slice b1 bu.length b2,.slice b3 bv.length b4]∧Zc (Za.int .u32) 79 5 a5 a9 cp cq cr∧Zc (Za.int .u32) 79 6 a5 a9 cs ct cu∧Zk 47 7 a5 a9 dn #[.bool c8,.slice cp cr.length cq,.slice cs cu.length ct]∧Yg 499 a5 a9 c9∧[42,1000000].map f=[.int .i64 co,enc c9]) N ⟨_,0,_,_,_,_,_,_,_,_,_,rfl,hm,ab,h1,ae,ac,af,ag,ad,ai,aj,ah,dl,dm,al,hmk,rfl⟩ ?_;clear hm;intro n f a9 hI
  obtain ⟨a5,co,c8,cp,cq,cr,cs,ct,cu,c9,b8,hn,hm,ab,h1,ae,ac,af,ag,ad,ai,aj,ah,bw,bx,al,hmk,hs⟩:=hI;subst hn;refine .lL [42,1000000] hs ?_
  cases b8 with
  | zero=>rw [Ts.eq_1] at hm;cases hm
  | succ b8=>
   rw [Ts.eq_2] at hm;refine go ?_;refine Zm hm (fun hb hm=>go ?_) fun hb hm=>go ?_
   ·refine lV _ (Xd isAgg27 sizeOf27 ad)<|go ?_;obtain ⟨da,el,hm⟩:=bZ hm;refine Zi (Zxc 8 el ae ac af ag h1) ?_;rintro _ gp ⟨em,dy,dz,rfl,bd,cv⟩;refine ⟨_,rfl,?_⟩;refine lM (.tuple #[.slice dy da.1.length dz,.int .i64 da.2])<|lV (.slice dy da.1.length dz) (Xq rfl rfl)<|lV (.int .i64 da.2) (Xq rfl rfl)<|go ?_;refine Xv ⟨_,_,rfl⟩ ?_;replace ad:=ad.gr bd;refine lW ((ad.atN).nth (q:=2) rfl)<|Xn rfl ?_;obtain ⟨ch,dp,hm⟩:=bZ hm;replace ac:=ac.gr bd;refine lI dp (ac.addr dp) ?_;obtain ⟨_,en,eo⟩:=ac.atN dp;obtain ⟨⟨gs,gt,rfl,gu⟩,_⟩:=en;refine lW eo.one<|go ?_;refine Zkx (col:=em) (v:=(.int .i64 0)) 9 rfl zeroValue3 ?_;intro db ep d0 ba dq;replace dq:Zk 3 9 d0 ep db #[.int .i64 0]:=dq;refine Ze4 (v:=(.int .i64 ch.length)) dq sizeOf3 rfl rfl (by intro u hu;simp only [Value.cells,List.mem_cons,List.not_mem_nil,or_false] at hu;subst hu;rfl) rfl rfl ?_;intro eq bb er ak;replace ak:Zk 3 9 d0 eq db #[.int .i64 ch.length]:=ak;refine go ?_;refine lW ak.at1 ?_;replace h1:=((h1.gr bd).gr ba).kp bb;replace h1:=h1.froz 8;replace ae:=((ae.gr bd).gr ba).kp bb;replace ae:=ae.froz 8;replace ac:=(ac.gr ba).kp bb;replace ac:=ac.froz 8;replace af:=((af.gr bd).gr ba).kp bb;replace af:=af.froz 8;replace ag:=((ag.gr bd).gr ba).kp bb;replace ag:=ag.froz 8;replace ai:=((ai.gr bd).gr ba).kp bb;replace ai:=ai.froz 8 (by decide);replace aj:=((aj.gr bd).gr ba).kp bb;replace aj:=aj.froz 8 (by decide);replace bw:=((bw.gr bd).gr ba).kp bb;replace bw:=bw.froz 8 (by decide);replace bx:=((bx.gr bd).gr ba).kp bb;replace bx:=bx.froz 8 (by decide);replace cv:=(cv.gr ba).kp bb;replace cv:=(cv).toSlF (Zj.int .i64);replace ad:=(ad.gr ba).kp bb;replace ad:=ad.froz 8 (by decide);replace ah:=((ah.gr bd).gr ba).kp bb;replace ah:=ah.froz 8 (by decide);replace al:=((al.gr bd).gr ba).kp bb;replace al:=al.froz 8 (by decide);replace ak:=ak.froz 8 (by decide);replace hmk:=((hmk.gr bd).gr ba).kp bb;replace hmk:=hmk.froz 8 (by decide);replace ab:=((ab.grow bd).grow ba).kp bb er;replace ab:=ab.froz 8 (by decide) (by decide);obtain ⟨es,et,hm⟩:=bZ hm;refine Zi (Zy1 et cv) ?_;rintro _ gv ⟨eu,gw,rfl,bc,ew⟩
    refine ⟨_,rfl,go ?_⟩;replace h1:=h1.gr bc;replace ae:=ae.gr bc;replace ac:=ac.gr bc;replace af:=af.gr bc;replace ag:=ag.gr bc;replace ai:=ai.gr bc;replace aj:=aj.gr bc;replace bw:=bw.gr bc;replace bx:=bx.gr bc;replace ad:=ad.gr bc;replace ah:=ah.gr bc;replace al:=al.gr bc;replace ak:=ak.gr bc;replace hmk:=hmk.gr bc;replace ab:=ab.grow bc;refine Zwr (psl:=[61]) (arr:=(fun (y:List Int) (col:Ze) (w:World) (args:List Value)=>∃ (a0:Option Addr) (d1:Nat),args=[.slice a0 y.length d1]∧Sl (Za.int .i64) col w a0 d1 y)) (ys:=es) (col:=eu) 498 rfl ew rfl hmk rfl rfl (by rintro _ _ _ _ ⟨_,_,rfl,_⟩;rfl) (fun ys_ ap ar=>∃ (b9:Bool) (ca:Option Addr) (cb:Nat) (bz:List Int) (cc:Option Addr) (cd:Nat) (b0:List Int),Qn N co (Ts N aa a3 b8) ch ys_ b9 bz b0=some r∧St w0 (Zg col) ap ar∧Sl (Za.slice (Za.int .i64)) ap ar a1 cf a3∧Zk 3 9 ap ar db #[.int .i64 ch.length]∧Sl Za.str ap ar bo bj aa.2.1∧Sl (Za.slice Za.str) ap ar bp bk aa.2.2.1∧Sl (Za.slice (Za.int .i64)) ap ar bq bm aa.2.2.2.1∧Sl (Za.slice (Za.pair (Za.pair Za.bool (Za.slice (Za.int .u32))) (Za.slice (Za.int .u32)))) ap ar br bn aa.2.2.2.2∧Zk 27 1 ap ar c6 #[.string aa.1,.slice bo aa.2.1.length bj,.slice bp aa.2.2.1.length bk,.slice bq aa.2.2.2.1.length bm,.slice br aa.2.2.2.2.length bn]∧Zc (Za.int .u32) 79 3 ap ar b1 b2 bu∧Zc (Za.int .u32) 79 4 ap ar b3 b4 bv∧Zk 47 2 ap ar c7 #[.bool cj,.slice b1 bu.length b2,.slice b3 bv.length b4]∧Zc (Za.int .u32) 79 5 ap ar ca cb bz∧Zc (Za.int .u32) 79 6 ap ar cc cd b0∧Zk 47 7 ap ar dn #[.bool b9,.slice ca bz.length cb,.slice cc b0.length cd]) (fun _ _ _=>False) ?_ ?_ ⟨c8,cp,cq,cr,cs,ct,cu,hm,ab,h1,ak,ae,ac,af,ag,ad,ai,aj,ah,bw,bx,al⟩ ?_ ?_ ?_
    ·intro ys_ ap ar col2_ w2_ hJ hk;obtain ⟨b9,ca,cb,bz,cc,cd,b0,hm,ab,h1,ak,ae,ac,af,ag,ad,ai,aj,ah,a6,a7,al⟩:=hJ;exact ⟨b9,ca,cb,bz,cc,cd,b0,hm,ab.kpp hk rfl rfl,h1.kpp hk rfl,ak.kpp hk rfl,ae.kpp hk rfl,ac.kpp hk rfl,af.kpp hk rfl,ag.kpp hk rfl,ad.kpp hk rfl,ai.kpp hk rfl rfl,aj.kpp hk rfl rfl,ah.kpp hk rfl,a6.kpp hk rfl rfl,a7.kpp hk rfl rfl,al.kpp hk rfl⟩
    ·intro _ _ _ _ _ h _;exact h
    ·intro ey gx ez cw e0 ap ar args hJ hrec hmk harr;obtain ⟨b9,ca,cb,bz,cc,cd,b0,hm,ab,h1,ak,ae,ac,af,ag,ad,ai,aj,ah,a6,a7,al⟩:=hJ;rw [Qn.eq_2] at hm;have hki:=Zx.refl (pC 1) ap ar;obtain ⟨e1,e2,rfl,bi⟩:=harr;refine go ?_;refine ⟨_,hrec,?_⟩;intro gy e3 a2 d2 hrec2;have hrec:=hrec2;refine go ?_;replace ak:=ak.kp a2;refine lW ak.at1<|go ?_;obtain ⟨gz,e4,hm⟩:=bZ hm;refine Zi (Zm5 (col:=ap) 10 e4) ?_;rintro _ g0 ⟨g1,g2,g3,rfl,ay,e5⟩;refine ⟨_,rfl,go ?_⟩;replace h1:=(h1.kp a2).gr ay;replace ae:=(ae.kp a2).gr ay;replace ac:=(ac.kp a2).gr ay;replace af:=(af.kp a2).gr ay;replace ag:=(ag.kp a2).gr ay;replace ai:=(ai.kp a2).gr ay;replace aj:=(aj.kp a2).gr ay;replace a6:=(a6.kp a2).gr ay;replace a7:=(a7.kp a2).gr ay;replace bi:=(bi.kp a2).gr ay;replace ad:=(ad.kp a2).gr ay;replace ah:=(ah.kp a2).gr ay;replace al:=(al.kp a2).gr ay;replace hmk:=(hmk.kp a2).gr ay;replace hki:=(hki.kp a2 d2 rfl).gr ay;replace ab:=(ab.kp a2 d2).grow ay;replace ak:=ak.gr ay;replace hrec:=hrec.gr ay
     refine Zu [1,13,2,4,41,42,65,66,9,1000000] (fun n f aq=>∃ am dr dc dd cx cy cz,n=cz.length∧cw.drop cy=cz∧Zbk N ch b9 bz b0 (Qn N co (Ts N aa a3 b8) ch e0) cz dr cx=some r∧St w0 (Zg col) am aq∧Sl (Za.slice (Za.int .i64)) am aq a1 cf a3∧Zk 3 9 am aq db #[.int .i64 ch.length]∧Zc (Za.int .u32) 79 10 am aq dc dd cx∧Sl Za.str am aq bo bj aa.2.1∧Sl (Za.slice Za.str) am aq bp bk aa.2.2.1∧Sl (Za.slice (Za.int .i64)) am aq bq bm aa.2.2.2.1∧Sl (Za.slice (Za.pair (Za.pair Za.bool (Za.slice (Za.int .u32))) (Za.slice (Za.int .u32)))) am aq br bn aa.2.2.2.2∧Zk 27 1 am aq c6 #[.string aa.1,.slice bo aa.2.1.length bj,.slice bp aa.2.2.1.length bk,.slice bq aa.2.2.2.1.length bm,.slice br aa.2.2.2.2.length bn]∧Zc (Za.int .u32) 79 3 am aq b1 b2 bu∧Zc (Za.int .u32) 79 4 am aq b3 b4 bv∧Zk 47 2 am aq c7 #[.bool cj,.slice b1 bu.length b2,.slice b3 bv.length b4]∧Sl (Za.int .i64) am aq e1 e2 cw∧Zc (Za.int .u32) 79 5 am aq ca cb bz∧Zc (Za.int .u32) 79 6 am aq cc cd b0∧Zk 47 7 am aq dn #[.bool b9,.slice ca bz.length cb,.slice cc b0.length cd]∧Y7 498 am aq ey e3∧Yg 499 am aq ez∧Zx (pC 1) ap ar am aq∧[67,15,16].map f=[.int .i64 cy,.int .i64 dr,.slice dc cx.length dd]) cw.length ⟨_,0,_,_,_,0,_,rfl,rfl,hm,ab,h1,ak,e5,ae,ac,af,ag,ad,ai,aj,ah,bi,a6,a7,al,hrec,hmk,hki,rfl⟩ ?_;clear hm;intro n f aq hI;obtain ⟨am,dr,dc,dd,cx,cy,cz,hn,hl,hm,ab,h1,ak,ck,ae,ac,af,ag,ad,ai,aj,ah,bi,a6,a7,al,hrec,hmk,hki,hs⟩:=hI;subst hn;refine .lL [67,15,16] hs ?_
     cases cz with
     | nil=>
      have hk:¬ ((cy:Int)<(cw.length:Int)):=by have:=List.drop_eq_nil_iff.1 hl;omega
      have hkb:=decide_eq_false hk;rw [Zbk.eq_1] at hm;refine go ?_;refine Yd (congrArg Value.bool hkb)<|go ?_;refine lV (.agg #[.bool false,.slice dc cx.length dd]) (Wl (l:=[_,_]) (qs:=[(0,1),(1,1)]) underlying45 zeroValue45 ⟨rfl,sizeOf4,rfl,sizeOf43,trivial⟩ rfl)<|Xn rfl<|lW ak.at1<|go ?_;obtain ⟨e6,e7,hm⟩:=bZ hm;refine Zi (Zm5 (col:=am) 11 e7) ?_;rintro _ e8 ⟨de,e9,fa,rfl,az,fb⟩;refine ⟨_,rfl,?_⟩;refine lV (.agg #[.bool false,.slice e9 e6.length fa]) (Wl (l:=[_,_]) (qs:=[(0,1),(1,1)]) underlying45 zeroValue45 ⟨rfl,sizeOf4,rfl,sizeOf43,trivial⟩ rfl) ?_;obtain ⟨ce,fc,hm⟩:=bZ hm;replace ck:=ck.gr az;refine Zi (Zpj 12 13 fc ((ck.toSlF (Zj.int .u32)).froz 11) ((fb.froz 10 (by decide)).toSlF (Zj.int .u32))) ?_;rintro _ g4 ⟨fd,d3,d4,d5,d6,rfl,an,c0,c3⟩;refine ⟨_,rfl,?_⟩;replace c0:=c0.thaw (Z2 .u32) an (((Fz.refl (col:=de)).froz 10).froz 11) (by decide);replace c3:=c3.thaw (Z2 .u32) an (((Fz.refl (col:=de)).froz 10).froz 11) (by decide);replace an:=an.thawR (col:=de);generalize Z7 e8.heap.size de fd=fe at *;refine lM (.tuple #[(.agg #[.bool ce.1.1.1,.slice d3 ce.1.1.2.length d4,.slice d5 ce.1.2.length d6]),.int .i64 ce.2])<|lV (.agg #[.bool ce.1.1.1,.slice d3 ce.1.1.2.length d4,.slice d5 ce.1.2.length d6]) (Xq rfl rfl)<|lV (.int .i64 ce.2) (Xq rfl rfl)<|Xs (col:=fe) #[.bool false,.slice none (([]:List Int).length) 0,.slice none (([]:List Int).length) 0] 14 zeroValue47 ?_;intro g5 g6 df au ff;refine Xa ff ?_;intro fg av d7 fh;refine go ?_;replace al:=(((al.gr az).gr an).gr au).kp av;refine lV _ (Xd isAgg47 sizeOf47 al)<|lV _ (Xd isAgg47 sizeOf47 fh) ?_;obtain ⟨ds,fi,hm⟩:=bZ hm;replace a6:=(((a6.gr az).gr an).gr au).kp av;replace a7:=(((a7.gr az).gr an).gr au).kp av;replace c0:=(c0.gr au).kp av;replace c3:=(c3.gr au).kp av
      refine Zi (Zxf 15 16 fi ((((a6.toSlF (Zj.int .u32)).froz 6).froz 12).froz 13) ((((a7.froz 5 (by decide)).toSlF (Zj.int .u32)).froz 12).froz 13) ((((c0.froz 5 (by decide)).froz 6 (by decide)).toSlF (Zj.int .u32)).froz 13) ((((c3.froz 5 (by decide)).froz 6 (by decide)).froz 12 (by decide)).toSlF (Zj.int .u32))) ?_;rintro _ g7 ⟨fj,fk,fl,fm,fn,rfl,aw,b5,b6⟩;refine ⟨_,rfl,?_⟩;replace b5:=b5.thaw (Z2 .u32) aw (((((Fz.refl (col:=df)).froz 5).froz 6).froz 12).froz 13) (by decide);replace b6:=b6.thaw (Z2 .u32) aw (((((Fz.refl (col:=df)).froz 5).froz 6).froz 12).froz 13) (by decide);replace aw:=aw.thawR (col:=df);generalize Z7 fg.heap.size df fj=g8 at *;replace al:=al.gr aw;refine Xa al ?_;intro g9 a8 d8 c4;refine Zo ?_;replace h1:=(((((h1.gr az).gr an).gr au).kp av).gr aw).kp a8;replace h1:=h1.recol 15 5 (by decide);replace ae:=(((((ae.gr az).gr an).gr au).kp av).gr aw).kp a8;replace ae:=ae.recol 15 5 (by decide);replace ac:=(((((ac.gr az).gr an).gr au).kp av).gr aw).kp a8;replace ac:=ac.recol 15 5 (by decide);replace af:=(((((af.gr az).gr an).gr au).kp av).gr aw).kp a8;replace af:=af.recol 15 5 (by decide);replace ag:=(((((ag.gr az).gr an).gr au).kp av).gr aw).kp a8;replace ag:=ag.recol 15 5 (by decide);replace ai:=(((((ai.gr az).gr an).gr au).kp av).gr aw).kp a8;replace ai:=ai.recol 15 5 (by decide);replace aj:=(((((aj.gr az).gr an).gr au).kp av).gr aw).kp a8;replace aj:=aj.recol 15 5 (by decide);replace b5:=b5.kp a8;replace b5:=b5.recolSelf 5 (by decide);replace b6:=b6.kp a8;replace b6:=b6.recol 15 5 (by decide);replace ak:=(((((ak.gr az).gr an).gr au).kp av).gr aw).kp a8;replace ak:=ak.recol 15 5 (by decide);replace ad:=(((((ad.gr az).gr an).gr au).kp av).gr aw).kp a8;replace ad:=ad.recol 15 5 (by decide);replace ah:=(((((ah.gr az).gr an).gr au).kp av).gr aw).kp a8;replace ah:=ah.recol 15 5 (by decide);replace c4:=c4.recol 15 5 (by decide);replace hrec:=(((((hrec.gr az).gr an).gr au).kp av).gr aw).kp a8;replace hrec:=hrec.recol 15 5 (by decide);replace hmk:=(((((hmk.gr az).gr an).gr au).kp av).gr aw).kp a8;replace hmk:=hmk.recol 15 5 (by decide)
      replace hki:=(((((hki.gr az).gr an).gr au).kp av d7 rfl).gr aw).kp a8 d8 rfl;replace hki:=hki.recol 15 5 rfl;replace ab:=(((((ab.grow az).grow an).grow au).kp av d7).grow aw).kp a8 d8;replace ab:=ab.recol 15 5 (by decide) (by decide);replace h1:=h1.recol 16 6 (by decide);replace ae:=ae.recol 16 6 (by decide);replace ac:=ac.recol 16 6 (by decide);replace af:=af.recol 16 6 (by decide);replace ag:=ag.recol 16 6 (by decide);replace ai:=ai.recol 16 6 (by decide);replace aj:=aj.recol 16 6 (by decide);replace b5:=b5.recol 16 6 (by decide);replace b6:=b6.recolSelf 6 (by decide);replace ak:=ak.recol 16 6 (by decide);replace ad:=ad.recol 16 6 (by decide);replace ah:=ah.recol 16 6 (by decide);replace c4:=c4.recol 16 6 (by decide);replace hrec:=hrec.recol 16 6 (by decide);replace hmk:=hmk.recol 16 6 (by decide);replace hki:=hki.recol 16 6 rfl;replace ab:=ab.recol 16 6 (by decide) (by decide);exact ⟨_,hki,⟨ds.1.1,fk,fl,ds.1.2,fm,fn,ds.2,hm,ab,h1,ak,ae,ac,af,ag,ad,ai,aj,ah,b5,b6,c4⟩,hrec,hmk⟩
     | cons ha fp=>
      obtain ⟨ci,fq,fr⟩:=Yn hl;have hk:(cy:Int)<(cw.length:Int):=by omega
      have hkb:=decide_eq_true hk;rw [Zbk.eq_2] at hm;refine go ?_;refine Ye (congrArg Value.bool hkb)<|go ?_;refine lI ci (bi.addr ci)<|lW (bi.atInt ci) ?_;refine go ?_;obtain ⟨hc,ft,hm⟩:=bZ hm;refine Zi (Zm5 (col:=am) 17 ft) ?_;rintro _ fu ⟨dt,hd,he,rfl,ax,fv⟩;refine ⟨_,rfl,?_⟩;obtain ⟨hf,fw,hm⟩:=bZ hm;replace ck:=ck.gr ax;refine Zi (Zex 18 fw ((ck.toSlF (Zj.int .u32)).froz 17) ((fv.froz 10 (by decide)).toSlF (Zj.int .u32))) ?_;rintro _ hg ⟨fx,hh,hi,rfl,ao,c5⟩;refine ⟨_,rfl,?_⟩;replace c5:=c5.thaw (Z2 .u32) ao (((Fz.refl (col:=dt)).froz 10).froz 17) (by decide);replace ao:=ao.thawR (col:=dt);generalize Z7 fu.heap.size dt fx=hj at *;refine go ?_;replace h1:=(h1.gr ax).gr ao;replace h1:=h1.recol 18 10 (by decide);replace ae:=(ae.gr ax).gr ao;replace ae:=ae.recol 18 10 (by decide);replace ac:=(ac.gr ax).gr ao;replace ac:=ac.recol 18 10 (by decide);replace af:=(af.gr ax).gr ao;replace af:=af.recol 18 10 (by decide);replace ag:=(ag.gr ax).gr ao;replace ag:=ag.recol 18 10 (by decide);replace ai:=(ai.gr ax).gr ao;replace ai:=ai.recol 18 10 (by decide);replace aj:=(aj.gr ax).gr ao;replace aj:=aj.recol 18 10 (by decide);replace bi:=(bi.gr ax).gr ao;replace bi:=bi.recol 18 10 (by decide);replace a6:=(a6.gr ax).gr ao;replace a6:=a6.recol 18 10 (by decide);replace a7:=(a7.gr ax).gr ao;replace a7:=a7.recol 18 10 (by decide);replace c5:=c5.recolSelf 10 (by decide);replace ak:=(ak.gr ax).gr ao;replace ak:=ak.recol 18 10 (by decide);replace ad:=(ad.gr ax).gr ao;replace ad:=ad.recol 18 10 (by decide);replace ah:=(ah.gr ax).gr ao;replace ah:=ah.recol 18 10 (by decide);replace al:=(al.gr ax).gr ao;replace al:=al.recol 18 10 (by decide);replace hrec:=(hrec.gr ax).gr ao;replace hrec:=hrec.recol 18 10 (by decide);replace hmk:=(hmk.gr ax).gr ao;replace hmk:=hmk.recol 18 10 (by decide);replace hki:=(hki.gr ax).gr ao;replace hki:=hki.recol 18 10 rfl;replace ab:=(ab.grow ax).grow ao;replace ab:=ab.recol 18 10 (by decide) (by decide);exact ⟨fp.length,by simp,rfl,⟨_,_,_,_,_,_,_,rfl,fq,hm,ab,h1,ak,c5,ae,ac,af,ag,ad,ai,aj,ah,bi,a6,a7,al,hrec,hmk,hki,(Yq (congrArg (Value.int .i64) (Yj (Nat.lt_of_lt_of_le fr bi.1.1))) rfl)⟩⟩
    ·intro ho ap ar hJ hmk;obtain ⟨b9,ca,cb,bz,cc,cd,b0,hm,ab,h1,ak,ae,ac,af,ag,ad,ai,aj,ah,a6,a7,al⟩:=hJ;rw [Qn.eq_1] at hm;refine go ?_;exact ⟨b8,by omega,rfl,⟨_,_,_,_,_,_,_,_,_,_,_,rfl,hm,ab,h1,ae,ac,af,ag,ad,ai,aj,ah,a6,a7,al,hmk,rfl⟩⟩
    intro _ _ _ _ h;exact h.elim
   refine lV _ (Xd isAgg47 sizeOf47 al)<|Xa ah ?_;intro hp dg fy du;refine go ?_;cases hm;replace hmk:=hmk.kp dg;refine ⟨_,c9,rfl,hmk,?_⟩;intro hq dh fz;replace bw:=(bw.kp dg).kp dh;replace bx:=(bx.kp dg).kp dh;replace ab:=(ab.kp dg fy).kp dh fz;replace du:=du.kp dh;exact ⟨_,Zmc rfl rfl isAgg47 sizeOf47 rfl rfl du.atN rfl rfl,Vv w0.heap.size col a5 (fun n=>bif Nat.beq n 5 then c1 else bif Nat.beq n 6 then c2 else 0),cp,cq,cs,ct,rfl,ab.fin (fun n=>bif Nat.beq n 5 then c1 else bif Nat.beq n 6 then c2 else 0),ab.finOwn (g:=(fun n=>bif Nat.beq n 5 then c1 else bif Nat.beq n 6 then c2 else 0)) rfl bw (by decide) (by decide) rfl,ab.finOwn (g:=(fun n=>bif Nat.beq n 5 then c1 else bif Nat.beq n 6 then c2 else 0)) rfl bx (by decide) (by decide) rfl⟩
 | cons hr f0=>
  obtain ⟨ci,f1,f2⟩:=Yn hl;have hk:(cl:Int)<(a3.length:Int):=by omega
  have hkb:=decide_eq_true hk;rw [Qm.eq_2] at hm;refine go ?_;refine Ye (congrArg Value.bool hkb)<|go ?_;refine lI ci (h1.addr ci) ?_;obtain ⟨_,f3,f4⟩:=h1.atN ci;obtain ⟨⟨ht,hv,rfl,f5⟩,_⟩:=f3;refine lW f4.one<|go ?_;obtain ⟨hw,f6,hm⟩:=bZ hm;refine Zi (Zy5 f6 f5) ?_;rintro _ f7 ⟨rfl,bh⟩;refine ⟨_,rfl,?_⟩;replace bh:Zf a4 be a4 f7:=.of_below bh;refine Zo ?_;replace h1:=h1.gr bh;replace ae:=ae.gr bh;replace ac:=ac.gr bh;replace af:=af.gr bh;replace ag:=ag.gr bh;replace ai:=ai.gr bh;replace aj:=aj.gr bh;replace ad:=ad.gr bh;replace ah:=ah.gr bh;replace hmk:=hmk.gr bh;replace ab:=ab.grow bh;refine Zm hm (fun hb hm=>go ?_) fun hb hm=>go ?_
  ·refine lV (.agg #[.bool false,.slice none (([]:List Int).length) 0,.slice none (([]:List Int).length) 0]) (Wl (l:=[_,_]) (qs:=[(0,2),(2,1)]) underlying47 zeroValue47 ⟨rfl,sizeOf45,rfl,sizeOf43,trivial⟩ rfl)<|Xa ah ?_;intro hx d9 f8 dv;refine go ?_;cases hm;replace hmk:=hmk.kp d9;refine ⟨_,[],rfl,hmk,?_⟩;intro hy ea f9;replace ab:=(ab.kp d9 f8).kp ea f9;replace dv:=dv.kp ea;exact ⟨_,Zmc rfl rfl isAgg47 sizeOf47 rfl rfl dv.atN rfl rfl,Vv w0.heap.size col a4 (fun n=>0),none,0,none,0,rfl,ab.fin (fun n=>0),Zc.nil,Zc.nil⟩
  exact ⟨f0.length,by simp,rfl,⟨_,_,_,_,_,_,_,_,_,_,rfl,f1,hm,ab,h1,ae,ac,af,ag,ad,ai,aj,ah,hmk,(Yq (congrArg (Value.int .i64) (Yj (Nat.lt_of_lt_of_le f2 h1.1.1))) rfl)⟩⟩
def Ziw (N:Nat) (aa:R2):Option R2:=
  (Su N ((aa.1.1,aa.1.2),aa.2)).bind fun ac=>(Zdv N (aa.1.1,aa.1.2) ac).bind fun ab=>some ((ab.1.1,ab.1.2),ab.2)
theorem Zya {N al au:Nat} {am av:Option Addr} {col:Ze} {w0:World} {ab r:R2} (c1 c2:Nat) (hm:Ziw N ab=some r) (ah:Sl (Za.int .u32) col w0 am al ab.1.2) (an:Sl (Za.int .u32) col w0 av au ab.2):
    Calls prog 106 #[(.agg #[.bool ab.1.1,.slice am ab.1.2.length al,.slice av ab.2.length au])] w0 (fun e w'=>∃ (col':Ze) (ra1:Option Addr) (rc2:Nat) (ra4:Option Addr) (rc5:Nat),e= .returned ((.agg #[.bool r.1.1,.slice ra1 r.1.2.length rc2,.slice ra4 r.2.length rc5]))∧Zf col w0 col' w'∧Zc (Za.int .u32) 79 c1 col' w' ra1 rc2 r.1.2∧Zc (Za.int .u32) 79 c2 col' w' ra4 rc5 r.2):=by
 refine Yt (m:=8) func106 rfl rfl rfl ?_;rw [Ziw.eq_1] at hm;have aa:=St.start col w0;refine go ?_;refine Xe (col:=(Zg col)) 1 rfl ?_;intro a4 a5 ax ay ai;refine Xs (col:=ax) #[.bool false,.slice none (([]:List Int).length) 0,.slice none (([]:List Int).length) 0] 2 zeroValue47 ?_;intro a6 a7 aj aw ac;refine go ?_;refine W9 (col:=aj) [(0,1),(1,0),(2,0),(3,3),(4,3),(5,2)] (by kernel_rfl) (by kernel_rfl)<|xF ⟨_,_,rfl⟩ ?_;replace ai:=ai.gr aw;refine xv (v:=(.agg #[.bool ab.1.1,.slice am ab.1.2.length al])) rfl rfl (fun _ hC=>Y1 isAgg45 sizeOf45 rfl rfl (((ai.atN).part 0 2 _ rfl).gr (hC.bl aj))) ?_;refine xv rfl rfl (fun _ hC=>Xd isAgg47 sizeOf47 (ai.gr (hC.bl aj))) ?_;refine xe rfl rfl ?_;intro a8 hC0;have hC:=hC0.bl aj;obtain ⟨a9,az,hm⟩:=bZ hm;replace ah:=ah.keep (Zh.start col w0);replace an:=an.keep (Zh.start col w0);replace aa:=((aa.grow ay).grow aw).grow hC;refine Zi (Zct 3 az (ah.ks aa) (an.ks aa)) ?_;rintro _ ba ⟨ag,bb,bc,rfl,ao,ap⟩;refine ⟨_,rfl,?_⟩;refine Zo<|X1 ag hC0 ao<|xe rfl rfl ?_;intro a0 hC0;replace ac:=(ac.gr hC).gr ao;have hC:=hC0.bl ag;obtain ⟨bd,a1,hm⟩:=bZ hm;replace aa:=(aa.grow ao).grow hC;replace ap:=ap.gr hC;refine Zi (Znc 4 5 a1 ((ah.ks aa).froz 3) (ap.toSlF (Zj.int .u32))) ?_;rintro _ be ⟨a2,bf,bg,bh,bi,rfl,ad,ae,af⟩;refine ⟨_,rfl,?_⟩;replace ae:=ae.thaw (Z2 .u32) ad ((Fz.refl (col:=ag)).froz 3) (by decide);replace af:=af.thaw (Z2 .u32) ad ((Fz.refl (col:=ag)).froz 3) (by decide);replace ad:=ad.thawR (col:=ag);generalize Z7 a0.heap.size ag a2=ak at *;refine Zo<|X1 ak hC0 ad<|xe rfl rfl ?_;intro bj hC0;replace ac:=(ac.gr hC).gr ad;have hC:=hC0.bl ak;replace ac:=ac.gr hC;refine Xa ac ?_;intro bk aq a3 ar;refine Zo<|xk ak<|Wu ?_;replace aa:=((aa.grow ad).grow hC).kp aq a3;replace ae:=(ae.gr hC).kp aq;replace af:=(af.gr hC).kp aq;intro bm hC;replace hC:=hC.bl ak;refine Wh ?_;cases hm;replace ae:=ae.gr hC;replace af:=af.gr hC;replace ar:=ar.gr hC;replace aa:=aa.grow hC;exact ⟨rfl,_,ra ar.atN,_,_,_,_,_,rfl,aa.fin (cm [(4,c1),(5,c2)]),aa.fo ae,aa.fo af⟩
def Zaz (N:Nat) (ac:R4) (aa:Int) (kk_L1:(Bool→R1→R1→Int→Option (R2×Int))):Nat→Bool→R1→R1→Int→Option (R2×Int)
  | 0,_,_,_,_=>none
  | ah+1,ad,ae,af,ab=>(Zl ac aa).bind fun ag=>if (decide (ab<(ag.length:Int)))=true then ((Zl ag ab).bind fun ai=>if (decide (ai<0))=true then (some (((false,([]:List Int)),([]:List Int)),72)) else ((Zaz N ac aa kk_L1 ah) ad ae af (i64.wrap (ab+1)))) else (kk_L1 ad ae af (i64.wrap (aa+1)))
termination_by structural x=>x
def Zeb (N:Nat) (ad:List Int) (aa:List ByteArray) (ae:List Int) (ab:Int) (kk_L4:(List Int→Int→R1→Option (R2×Int))):Nat→Int→Int→R1→Option (R2×Int)
  | 0,_,_,_=>none
  | ai+1,af,ac,ag=>if (decide (ac<(i64.wrap (ab+(aa.length:Int)))))=true then ((Zl ad ac).bind fun ah=>(Zec N ah).bind fun aj=>(Sq N ag aj).bind fun ak=>(Zeb N ad aa ae ab kk_L4 ai) (i64.wrap (af+ah)) (i64.wrap (ac+1)) ak) else ((Zec N (i64.wrap ((i64.wrap (af+(aa.length:Int))) - 1))).bind fun al=>(Sq N ae al).bind fun am=>kk_L4 am (i64.wrap (ab+(aa.length:Int))) ag)
termination_by structural x=>x
def Qv (N:Nat) (ad:Int) (kk_L3:(List Int→Int→R1→Option (R2×Int))) (aa:List Int) (ab:List ByteArray):Nat→R1→Int→R1→Option (R2×Int)
  | 0,_,_,_=>none
  | ag+1,ae,ac,af=>if (decide (ac<(aa.length:Int)))=true then ((Zec N (i64.wrap ((ab.length:Int) - 1))).bind fun ah=>(Sq N af ah).bind fun ai=>Zeb N aa ab ae ac (Qv N ad kk_L3 aa ab ag) N 0 ac ai) else (kk_L3 ae (i64.wrap (ad+1)) af)
termination_by structural x=>x
def T0 (N:Nat) (aa:R0) (ad:R4):Nat→R1→Int→R1→Option (R2×Int)
  | 0,_,_,_=>none
  | ag+1,ae,ab,af=>if (decide (ab<(aa.2.1.length:Int)))=true then ((Zg9 N (aa.1,aa.2.1,aa.2.2.1,aa.2.2.2.1,aa.2.2.2.2) ad ab).bind fun ah=>(Zl aa.2.2.1 ab).bind fun ai=>Qv N ab (T0 N aa ad ag) ah ai N ae 0 af) else ((Ziw N ((false,af),ae)).bind fun ac=>some (((ac.1.1,ac.1.2),ac.2),0))
termination_by structural x=>x
def Sx (N:Nat) (ab:R0) (aa:R4):Nat→Bool→R1→R1→Int→Option (R2×Int)
  | 0,_,_,_,_=>none
  | ad+1,ae,af,ag,ac=>if (decide (ac<(aa.length:Int)))=true then (Zaz N aa ac (Sx N ab aa ad) N ae af ag 0) else (T0 N ab aa N [1] 0 [1])
termination_by structural x=>x
def Tz (N:Nat) (aa:R0) (ab:R4):Option (R2×Int):=
  (Zb8 N (aa.1,aa.2.1,aa.2.2.1,aa.2.2.2.1,aa.2.2.2.2) ab).bind fun ac=>if (!decide (ac=0))=true then (some (((false,([]:List Int)),([]:List Int)),ac)) else (Sx N aa ab N false ([]:List Int) ([]:List Int) 0)
theorem Zp6 {N a2 a3 a4 a5 br:Nat} {a6 a7 a8 a9 a1:Option Addr} {col:Ze} {w0:World} {aa:R0} {ar:R4} {r:(R2×Int)} (c1 c2:Nat) (hm:Tz N aa ar=some r) (af:Sl Za.str col w0 a6 a2 aa.2.1) (ac:Sl (Za.slice Za.str) col w0 a7 a3 aa.2.2.1) (ag:Sl (Za.slice (Za.int .i64)) col w0 a8 a4 aa.2.2.2.1) (ah:Sl (Za.slice (Za.pair (Za.pair Za.bool (Za.slice (Za.int .u32))) (Za.slice (Za.int .u32)))) col w0 a9 a5 aa.2.2.2.2) (h1:Sl (Za.slice (Za.int .i64)) col w0 a1 br ar):
    Calls prog 39 #[(.agg #[.string aa.1,.slice a6 aa.2.1.length a2,.slice a7 aa.2.2.1.length a3,.slice a8 aa.2.2.2.1.length a4,.slice a9 aa.2.2.2.2.length a5]),.slice a1 ar.length br] w0 (fun e w'=>∃ (col':Ze) (ra1:Option Addr) (rc2:Nat) (ra4:Option Addr) (rc5:Nat),e= .returned (.tuple #[(.agg #[.bool r.1.1.1,.slice ra1 r.1.1.2.length rc2,.slice ra4 r.1.2.length rc5]),.int .i64 r.2])∧Zf col w0 col' w'∧Zc (Za.int .u32) 79 c1 col' w' ra1 rc2 r.1.1.2∧Zc (Za.int .u32) 79 c2 col' w' ra4 rc5 r.1.2):=by
 refine Yt (m:=112) func39 rfl rfl rfl ?_;rw [Tz.eq_1] at hm;have ab:=St.start col w0;refine go ?_;refine Xe (col:=(Zg col)) 1 rfl ?_;intro b6 er dp bw ad;refine Xs (col:=dp) #[.bool false,.slice none (([]:List Int).length) 0,.slice none (([]:List Int).length) 0] 2 zeroValue47 ?_;intro b7 dq dh bs ae;refine go ?_;replace ad:=ad.gr bs;refine lV _ (Xd isAgg27 sizeOf27 ad)<|Yi rfl ?_;obtain ⟨es,dr,hm⟩:=bZ hm;replace af:=((af.keep (Zh.start col w0)).gr bw).gr bs;replace ac:=((ac.keep (Zh.start col w0)).gr bw).gr bs;replace ag:=((ag.keep (Zh.start col w0)).gr bw).gr bs;replace ah:=((ah.keep (Zh.start col w0)).gr bw).gr bs;replace h1:=((h1.keep (Zh.start col w0)).gr bw).gr bs;refine Zi (Zyv dr af ac ag ah h1) ?_;rintro _ ds ⟨rfl,bg⟩;refine ⟨_,rfl,?_⟩;replace bg:Zf dh dq dh ds:=.of_below bg;refine go ?_;replace ab:=((ab.grow bw).grow bs).grow bg;replace h1:=h1.gr bg;replace af:=af.gr bg;replace ac:=ac.gr bg;replace ag:=ag.gr bg;replace ah:=ah.gr bg;replace ad:=ad.gr bg;replace ae:=ae.gr bg;refine Zm hm (fun hb hm=>go ?_) fun hb hm=>go ?_
 ·refine lV (.agg #[.bool false,.slice none (([]:List Int).length) 0,.slice none (([]:List Int).length) 0]) (Wl (l:=[_,_]) (qs:=[(0,2),(2,1)]) underlying47 zeroValue47 ⟨rfl,sizeOf45,rfl,sizeOf43,trivial⟩ rfl)<|Xn rfl<|Xa ae ?_;intro et dt du dv;refine go ?_;cases hm;replace ab:=ab.kp dt du;exact ⟨rfl,_,Za4 dv.atN,_,none,0,none,0,rfl,ab.fin (cm []),Zc.nil,Zc.nil⟩
 refine Zu [1,2,4,1000000] (fun n f bc=>∃ ba bx bm bn bh bo bp bi cg bt,bt=n∧Sx N aa ar bt bx bh bi cg=some r∧St w0 (Zg col) ba bc∧Sl (Za.slice (Za.int .i64)) ba bc a1 br ar∧Sl Za.str ba bc a6 a2 aa.2.1∧Sl (Za.slice Za.str) ba bc a7 a3 aa.2.2.1∧Sl (Za.slice (Za.int .i64)) ba bc a8 a4 aa.2.2.2.1∧Sl (Za.slice (Za.pair (Za.pair Za.bool (Za.slice (Za.int .u32))) (Za.slice (Za.int .u32)))) ba bc a9 a5 aa.2.2.2.2∧Zk 27 1 ba bc b6 #[.string aa.1,.slice a6 aa.2.1.length a2,.slice a7 aa.2.2.1.length a3,.slice a8 aa.2.2.2.1.length a4,.slice a9 aa.2.2.2.2.length a5]∧Zc (Za.int .u32) 79 3 ba bc bm bn bh∧Zc (Za.int .u32) 79 4 ba bc bo bp bi∧Zk 47 2 ba bc b7 #[.bool bx,.slice bm bh.length bn,.slice bo bi.length bp]∧[7].map f=[.int .i64 cg]) N ⟨_,_,none,0,_,none,0,_,0,_,rfl,hm,ab,h1,af,ac,ag,ah,ad,Zc.nil,Zc.nil,ae,rfl⟩ ?_;clear hm;intro n f bc hI;obtain ⟨ba,bx,bm,bn,bh,bo,bp,bi,cg,bt,hn,hm,ab,h1,af,ac,ag,ah,ad,ai,aj,ae,hs⟩:=hI;subst hn;refine .lL [7] hs ?_
 cases bt with
 | zero=>rw [Sx.eq_1] at hm;cases hm
 | succ bt=>
  rw [Sx.eq_2] at hm;refine go ?_;refine Zm hm (fun hb hm=>go ?_) fun hb hm=>go ?_
  ·refine Zu [1,2,4,7,1000000] (fun n f bd=>∃ be cu cv cw ch cx cy ci cz bz,bz=n∧Zaz N ar cg (Sx N aa ar bt) bz cu ch ci cz=some r∧St w0 (Zg col) be bd∧Sl (Za.slice (Za.int .i64)) be bd a1 br ar∧Sl Za.str be bd a6 a2 aa.2.1∧Sl (Za.slice Za.str) be bd a7 a3 aa.2.2.1∧Sl (Za.slice (Za.int .i64)) be bd a8 a4 aa.2.2.2.1∧Sl (Za.slice (Za.pair (Za.pair Za.bool (Za.slice (Za.int .u32))) (Za.slice (Za.int .u32)))) be bd a9 a5 aa.2.2.2.2∧Zk 27 1 be bd b6 #[.string aa.1,.slice a6 aa.2.1.length a2,.slice a7 aa.2.2.1.length a3,.slice a8 aa.2.2.2.1.length a4,.slice a9 aa.2.2.2.2.length a5]∧Zc (Za.int .u32) 79 3 be bd cv cw ch∧Zc (Za.int .u32) 79 4 be bd cx cy ci∧Zk 47 2 be bd b7 #[.bool cu,.slice cv ch.length cw,.slice cx ci.length cy]∧[8].map f=[.int .i64 cz]) N ⟨_,_,_,_,_,_,_,_,0,_,rfl,hm,ab,h1,af,ac,ag,ah,ad,ai,aj,ae,rfl⟩ ?_;clear hm;intro n f bd hI;obtain ⟨be,cu,cv,cw,ch,cx,cy,ci,cz,bz,hn,hm,ab,h1,af,ac,ag,ah,ad,di,dj,ae,hs⟩:=hI;subst hn;refine .lL [8] hs ?_
   cases bz with
   | zero=>rw [Zaz.eq_1] at hm;cases hm
   | succ bz=>
    rw [Zaz.eq_2] at hm;refine go ?_;obtain ⟨eu,b0,hm⟩:=bZ hm;refine lI b0 (h1.addr b0) ?_;obtain ⟨_,dw,dx⟩:=h1.atN b0;obtain ⟨⟨ew,ey,rfl,ez⟩,_⟩:=dw;refine lW dx.one<|go ?_;refine Zm hm (fun hb hm=>go ?_) fun hb hm=>go ?_
    ·refine lI b0 (h1.addr b0) ?_;obtain ⟨_,dy,dz⟩:=h1.atN b0;obtain ⟨⟨e0,e1,rfl,dl⟩,_⟩:=dy;refine lW dz.one<|Xn rfl ?_;obtain ⟨e2,c0,hm⟩:=bZ hm;refine lI c0 (dl.addr c0)<|lW (dl.atInt c0) ?_;refine go ?_;refine Zm hm (fun hb hm=>go ?_) fun hb hm=>go ?_
     ·refine lV (.agg #[.bool false,.slice none (([]:List Int).length) 0,.slice none (([]:List Int).length) 0]) (Wl (l:=[_,_]) (qs:=[(0,2),(2,1)]) underlying47 zeroValue47 ⟨rfl,sizeOf45,rfl,sizeOf43,trivial⟩ rfl)<|Xa ae ?_;intro e3 d0 d1 d2;refine go ?_;cases hm;replace ab:=ab.kp d0 d1;exact ⟨rfl,_,Za4 d2.atN,_,none,0,none,0,rfl,ab.fin (cm []),Zc.nil,Zc.nil⟩
     exact ⟨bz,by omega,rfl,⟨_,_,_,_,_,_,_,_,_,_,rfl,hm,ab,h1,af,ac,ag,ah,ad,di,dj,ae,rfl⟩⟩
    exact ⟨bt,by omega,rfl,⟨_,_,_,_,_,_,_,_,_,_,rfl,hm,ab,h1,af,ac,ag,ah,ad,di,dj,ae,rfl⟩⟩
  refine W5 (col:=ba) [1] 5 ?_;intro e4 e5 d3 bj c3;refine go ?_;refine W5 (col:=d3) [1] 6 ?_;intro e6 e7 e8 bf d4;refine go ?_;replace h1:=(h1.gr bj).gr bf;replace af:=(af.gr bj).gr bf;replace ac:=(ac.gr bj).gr bf;replace ag:=(ag.gr bj).gr bf;replace ah:=(ah.gr bj).gr bf;replace ai:=(ai.gr bj).gr bf;replace aj:=(aj.gr bj).gr bf;replace ad:=(ad.gr bj).gr bf;replace ae:=(ae.gr bj).gr bf;replace ab:=(ab.grow bj).grow bf;replace c3:=c3.gr bf;refine Zu [1,2,4,1000000] (fun n f au=>∃ al cj ck b8 b9 ca cb b1 bq,bq=n∧T0 N aa ar bq b8 b9 b1=some r∧St w0 (Zg col) al au∧Sl (Za.slice (Za.int .i64)) al au a1 br ar∧Zc (Za.int .u32) 79 6 al au cj ck b8∧Sl Za.str al au a6 a2 aa.2.1∧Sl (Za.slice Za.str) al au a7 a3 aa.2.2.1∧Sl (Za.slice (Za.int .i64)) al au a8 a4 aa.2.2.2.1∧Sl (Za.slice (Za.pair (Za.pair Za.bool (Za.slice (Za.int .u32))) (Za.slice (Za.int .u32)))) al au a9 a5 aa.2.2.2.2∧Zk 27 1 al au b6 #[.string aa.1,.slice a6 aa.2.1.length a2,.slice a7 aa.2.2.1.length a3,.slice a8 aa.2.2.2.1.length a4,.slice a9 aa.2.2.2.2.length a5]∧Zc (Za.int .u32) 79 3 al au bm bn bh∧Zc (Za.int .u32) 79 4 al au bo bp bi∧Zk 47 2 al au b7 #[.bool bx,.slice bm bh.length bn,.slice bo bi.length bp]∧Zc (Za.int .u32) 79 5 al au ca cb b1∧[10,11,9].map f=[.slice cj b8.length ck,.int .i64 b9,.slice ca b1.length cb]) N ⟨_,_,1,_,0,_,1,_,_,rfl,hm,ab,h1,d4,af,ac,ag,ah,ad,ai,aj,ae,c3,rfl⟩ ?_;clear hm;intro n f au hI;obtain ⟨al,cj,ck,b8,b9,ca,cb,b1,bq,hn,hm,ab,h1,cl,af,ac,ag,ah,ad,ai,aj,ae,cn,hs⟩:=hI;subst hn;refine .lL [10,11,9] hs ?_
  cases bq with
  | zero=>rw [T0.eq_1] at hm;cases hm
  | succ bq=>
   rw [T0.eq_2] at hm;refine go ?_;refine Z9 ad ?_;refine go ?_;refine Zm hm (fun hb hm=>go ?_) fun hb hm=>go ?_
   ·refine lV _ (Xd isAgg27 sizeOf27 ad)<|go ?_;obtain ⟨cc,d5,hm⟩:=bZ hm;refine Zi (Zyw 7 d5 af ac ag ah h1) ?_;rintro _ e9 ⟨fa,dm,dn,rfl,bb,ak⟩;refine ⟨_,rfl,go ?_⟩;refine Xv ⟨_,_,rfl⟩ ?_;replace ad:=ad.gr bb;refine lW ((ad.atN).nth (q:=2) rfl)<|Xn rfl ?_;obtain ⟨c4,c5,hm⟩:=bZ hm;replace ac:=ac.gr bb;refine lI c5 (ac.addr c5) ?_;obtain ⟨_,d6,d7⟩:=ac.atN c5;obtain ⟨⟨fb,fc,rfl,fd⟩,_⟩:=d6;refine lW d7.one<|go ?_;replace h1:=h1.gr bb;replace cl:=cl.gr bb;replace af:=af.gr bb;replace ag:=ag.gr bb;replace ah:=ah.gr bb;replace ai:=ai.gr bb;replace aj:=aj.gr bb;replace cn:=cn.gr bb;replace ae:=ae.gr bb;replace ab:=ab.grow bb;refine Zu [1,11,12,13,2,4,1000000] (fun n f av=>∃ an co cp b2 cq c6 c7 cr bu,bu=n∧Qv N b9 (T0 N aa ar bq) cc c4 bu b2 cq cr=some r∧St w0 (Zg col) an av∧Sl (Za.slice (Za.int .i64)) an av a1 br ar∧Zc (Za.int .u32) 79 6 an av co cp b2∧Zc (Za.int .i64) 3 7 an av dm dn cc∧Sl Za.str an av a6 a2 aa.2.1∧Sl (Za.slice Za.str) an av a7 a3 aa.2.2.1∧Sl (Za.slice (Za.int .i64)) an av a8 a4 aa.2.2.2.1∧Sl (Za.slice (Za.pair (Za.pair Za.bool (Za.slice (Za.int .u32))) (Za.slice (Za.int .u32)))) an av a9 a5 aa.2.2.2.2∧Zk 27 1 an av b6 #[.string aa.1,.slice a6 aa.2.1.length a2,.slice a7 aa.2.2.1.length a3,.slice a8 aa.2.2.2.1.length a4,.slice a9 aa.2.2.2.2.length a5]∧Zc (Za.int .u32) 79 3 an av bm bn bh∧Zc (Za.int .u32) 79 4 an av bo bp bi∧Zk 47 2 an av b7 #[.bool bx,.slice bm bh.length bn,.slice bo bi.length bp]∧Zc (Za.int .u32) 79 5 an av c6 c7 cr∧[10,14,9].map f=[.slice co b2.length cp,.int .i64 cq,.slice c6 cr.length c7]) N ⟨_,_,_,_,0,_,_,_,_,rfl,hm,ab,h1,cl,ak,af,ac,ag,ah,ad,ai,aj,ae,cn,rfl⟩ ?_;clear hm;intro n f av hI;obtain ⟨an,co,cp,b2,cq,c6,c7,cr,bu,hn,hm,ab,h1,ax,ak,af,ac,ag,ah,ad,ai,aj,ae,cs,hs⟩:=hI;subst hn;refine .lL [10,14,9] hs ?_
    cases bu with
    | zero=>rw [Qv.eq_1] at hm;cases hm
    | succ bu=>
     rw [Qv.eq_2] at hm;refine go ?_;refine Zm hm (fun hb hm=>go ?_) fun hb hm=>go ?_
     ·obtain ⟨fe,d8,hm⟩:=bZ hm;refine Zi (Zne (col:=an) 8 d8) ?_;rintro _ d9 ⟨c8,ff,fg,rfl,ay,ea⟩;refine ⟨_,rfl,?_⟩;obtain ⟨fh,eb,hm⟩:=bZ hm;replace cs:=cs.gr ay;refine Zi (Zey 9 eb ((cs.toSlF (Zj.int .u32)).froz 8) ((ea.froz 5 (by decide)).toSlF (Zj.int .u32))) ?_;rintro _ fi ⟨ec,fj,fk,rfl,ao,c9⟩;refine ⟨_,rfl,?_⟩;replace c9:=c9.thaw (Z2 .u32) ao (((Fz.refl (col:=c8)).froz 5).froz 8) (by decide);replace ao:=ao.thawR (col:=c8);generalize Z7 d9.heap.size c8 ec=fl at *;refine go ?_;replace h1:=(h1.gr ay).gr ao;replace ax:=(ax.gr ay).gr ao;replace ak:=(ak.gr ay).gr ao;replace af:=(af.gr ay).gr ao;replace ac:=(ac.gr ay).gr ao;replace ag:=(ag.gr ay).gr ao;replace ah:=(ah.gr ay).gr ao;replace ai:=(ai.gr ay).gr ao;replace aj:=(aj.gr ay).gr ao;replace ad:=(ad.gr ay).gr ao;replace ae:=(ae.gr ay).gr ao;replace ab:=(ab.grow ay).grow ao;refine Zu [1,10,11,12,13,14,2,4,1000000] (fun n f aw=>∃ am da db dc dd ct b3,b3=n∧Zeb N cc c4 b2 cq (Qv N b9 (T0 N aa ar bq) cc c4 bu) b3 da db ct=some r∧St w0 (Zg col) am aw∧Sl (Za.slice (Za.int .i64)) am aw a1 br ar∧Zc (Za.int .u32) 79 6 am aw co cp b2∧Zc (Za.int .i64) 3 7 am aw dm dn cc∧Sl Za.str am aw a6 a2 aa.2.1∧Sl (Za.slice Za.str) am aw a7 a3 aa.2.2.1∧Sl (Za.slice (Za.int .i64)) am aw a8 a4 aa.2.2.2.1∧Sl (Za.slice (Za.pair (Za.pair Za.bool (Za.slice (Za.int .u32))) (Za.slice (Za.int .u32)))) am aw a9 a5 aa.2.2.2.2∧Zk 27 1 am aw b6 #[.string aa.1,.slice a6 aa.2.1.length a2,.slice a7 aa.2.2.1.length a3,.slice a8 aa.2.2.2.1.length a4,.slice a9 aa.2.2.2.2.length a5]∧Zc (Za.int .u32) 79 3 am aw bm bn bh∧Zc (Za.int .u32) 79 4 am aw bo bp bi∧Zk 47 2 am aw b7 #[.bool bx,.slice bm bh.length bn,.slice bo bi.length bp]∧Zc (Za.int .u32) 79 9 am aw dc dd ct∧[15,16,9].map f=[.int .i64 da,.int .i64 db,.slice dc ct.length dd]) N ⟨_,0,_,_,_,_,_,rfl,hm,ab,h1,ax,ak,af,ac,ag,ah,ad,ai,aj,ae,c9,rfl⟩ ?_;clear hm;intro n f aw hI
      obtain ⟨am,da,db,dc,dd,ct,b3,hn,hm,ab,h1,ax,ak,af,ac,ag,ah,ad,ai,aj,ae,bk,hs⟩:=hI;subst hn;refine .lL [15,16,9] hs ?_
      cases b3 with
      | zero=>rw [Zeb.eq_1] at hm;cases hm
      | succ b3=>
       rw [Zeb.eq_2] at hm;refine go ?_;refine Zm hm (fun hb hm=>go ?_) fun hb hm=>go ?_
       ·obtain ⟨fm,b4,hm⟩:=bZ hm;refine lI b4 (ak.addr b4)<|lW (ak.atInt b4) ?_;refine go ?_;refine lI b4 (ak.addr b4)<|lW (ak.atInt b4) ?_;obtain ⟨fn,ed,hm⟩:=bZ hm;refine Zi (Zne (col:=am) 10 ed) ?_;rintro _ ee ⟨de,fp,fq,rfl,az,ef⟩;refine ⟨_,rfl,?_⟩;obtain ⟨fr,eg,hm⟩:=bZ hm;replace bk:=bk.gr az;refine Zi (Zey 11 eg ((bk.toSlF (Zj.int .u32)).froz 10) ((ef.froz 9 (by decide)).toSlF (Zj.int .u32))) ?_;rintro _ ft ⟨eh,fu,fv,rfl,ap,cd⟩;refine ⟨_,rfl,?_⟩;replace cd:=cd.thaw (Z2 .u32) ap (((Fz.refl (col:=de)).froz 9).froz 10) (by decide);replace ap:=ap.thawR (col:=de);generalize Z7 ee.heap.size de eh=fw at *;refine go ?_;replace h1:=(h1.gr az).gr ap;replace h1:=h1.recol 11 9 (by decide);replace ax:=(ax.gr az).gr ap;replace ax:=ax.recol 11 9 (by decide);replace ak:=(ak.gr az).gr ap;replace ak:=ak.recol 11 9 (by decide);replace af:=(af.gr az).gr ap;replace af:=af.recol 11 9 (by decide);replace ac:=(ac.gr az).gr ap;replace ac:=ac.recol 11 9 (by decide);replace ag:=(ag.gr az).gr ap;replace ag:=ag.recol 11 9 (by decide);replace ah:=(ah.gr az).gr ap;replace ah:=ah.recol 11 9 (by decide);replace ai:=(ai.gr az).gr ap;replace ai:=ai.recol 11 9 (by decide);replace aj:=(aj.gr az).gr ap;replace aj:=aj.recol 11 9 (by decide);replace cd:=cd.recolSelf 9 (by decide);replace ad:=(ad.gr az).gr ap;replace ad:=ad.recol 11 9 (by decide);replace ae:=(ae.gr az).gr ap;replace ae:=ae.recol 11 9 (by decide);replace ab:=(ab.grow az).grow ap;replace ab:=ab.recol 11 9 (by decide) (by decide);exact ⟨b3,by omega,rfl,⟨_,_,_,_,_,_,_,rfl,hm,ab,h1,ax,ak,af,ac,ag,ah,ad,ai,aj,ae,cd,rfl⟩⟩
       obtain ⟨fx,ei,hm⟩:=bZ hm;refine Zi (Zne (col:=am) 12 ei) ?_;rintro _ ej ⟨df,fy,fz,rfl,a0,ek⟩;refine ⟨_,rfl,?_⟩;obtain ⟨f0,el,hm⟩:=bZ hm;replace ax:=ax.gr a0;refine Zi (Zey 13 el ((ax.toSlF (Zj.int .u32)).froz 12) ((ek.froz 6 (by decide)).toSlF (Zj.int .u32))) ?_;rintro _ f1 ⟨em,f2,f3,rfl,aq,bv⟩;refine ⟨_,rfl,?_⟩;replace bv:=bv.thaw (Z2 .u32) aq (((Fz.refl (col:=df)).froz 6).froz 12) (by decide);replace aq:=aq.thawR (col:=df);generalize Z7 ej.heap.size df em=f4 at *;refine go ?_;replace h1:=(h1.gr a0).gr aq;replace h1:=h1.recol 13 6 (by decide);replace ak:=(ak.gr a0).gr aq;replace ak:=ak.recol 13 6 (by decide);replace af:=(af.gr a0).gr aq;replace af:=af.recol 13 6 (by decide);replace ac:=(ac.gr a0).gr aq;replace ac:=ac.recol 13 6 (by decide);replace ag:=(ag.gr a0).gr aq;replace ag:=ag.recol 13 6 (by decide);replace ah:=(ah.gr a0).gr aq;replace ah:=ah.recol 13 6 (by decide);replace ai:=(ai.gr a0).gr aq;replace ai:=ai.recol 13 6 (by decide);replace aj:=(aj.gr a0).gr aq;replace aj:=aj.recol 13 6 (by decide);replace bk:=(bk.gr a0).gr aq;replace bk:=bk.recol 13 6 (by decide);replace bv:=bv.recolSelf 6 (by decide);replace ad:=(ad.gr a0).gr aq;replace ad:=ad.recol 13 6 (by decide);replace ae:=(ae.gr a0).gr aq;replace ae:=ae.recol 13 6 (by decide);replace ab:=(ab.grow a0).grow aq;replace ab:=ab.recol 13 6 (by decide) (by decide);replace h1:=h1.recol 9 5 (by decide);replace ak:=ak.recol 9 5 (by decide);replace af:=af.recol 9 5 (by decide);replace ac:=ac.recol 9 5 (by decide);replace ag:=ag.recol 9 5 (by decide);replace ah:=ah.recol 9 5 (by decide);replace ai:=ai.recol 9 5 (by decide);replace aj:=aj.recol 9 5 (by decide);replace bk:=bk.recolSelf 5 (by decide);replace bv:=bv.recol 9 5 (by decide);replace ad:=ad.recol 9 5 (by decide);replace ae:=ae.recol 9 5 (by decide);replace ab:=ab.recol 9 5 (by decide) (by decide);exact ⟨bu,by omega,rfl,⟨_,_,_,_,_,_,_,_,_,rfl,hm,ab,h1,bv,ak,af,ac,ag,ah,ad,ai,aj,ae,bk,rfl⟩⟩
     exact ⟨bq,by omega,rfl,⟨_,_,_,_,_,_,_,_,_,rfl,hm,ab,h1,ax,af,ac,ag,ah,ad,ai,aj,ae,cs,rfl⟩⟩
   refine lV (.agg #[.bool false,.slice ca b1.length cb]) (Wl (l:=[_,_]) (qs:=[(0,1),(1,1)]) underlying45 zeroValue45 ⟨rfl,sizeOf4,rfl,sizeOf43,trivial⟩ rfl)<|Yi rfl<|lV (.agg #[.bool false,.slice ca b1.length cb,.slice cj b8.length ck]) (Wl (l:=[_,_]) (qs:=[(0,2),(2,1)]) underlying47 zeroValue47 ⟨rfl,sizeOf45,rfl,sizeOf43,trivial⟩ rfl) ?_;obtain ⟨f5,en,hm⟩:=bZ hm;refine Zi (Zya 14 15 en ((cn.toSlF (Zj.int .u32)).froz 6) ((cl.froz 5 (by decide)).toSlF (Zj.int .u32))) ?_;rintro _ f6 ⟨eo,f7,f8,f9,ga,rfl,b5,ce,cf⟩;refine ⟨_,rfl,?_⟩;replace ce:=ce.thaw (Z2 .u32) b5 (((Fz.refl (col:=al)).froz 5).froz 6) (by decide);replace cf:=cf.thaw (Z2 .u32) b5 (((Fz.refl (col:=al)).froz 5).froz 6) (by decide);replace b5:=b5.thawR (col:=al);generalize Z7 au.heap.size al eo=gb at *;replace ae:=ae.gr b5;refine Xa ae ?_;intro gc dg ep eq;refine go ?_;cases hm;replace ab:=(ab.grow b5).kp dg ep;replace ce:=ce.kp dg;replace cf:=cf.kp dg;exact ⟨rfl,_,Za4 eq.atN,_,_,_,_,_,rfl,ab.fin (cm [(14,c1),(15,c2)]),ab.fo ce,ab.fo cf⟩
def Yy:List Int→Nat
 | []=>1
 | x :: l=>Xj x.toNat * Yy l
def Yp:List Int→Nat
 | []=>0
 | x :: l=>x.toNat+Yp l
def Ug (k:Nat):List R1→Nat→Nat
 | [],O=>O
 | q :: l,O=>Ug k l (O * (Xj (k - 1) * Yy q))
def Vz (k:Nat):List R1→Nat→Nat
 | [],U=>U
 | q :: l,U=>Vz k l (U * Xj (Yp q+k - 1))
def U1 (n:Z4) (v:Nat) (r:List R1) (j m:Nat):List R1:=(List.range' j m).map fun i=>((Wc n v r).drop (i * cnt n v)).take (cnt n v)
def Y2 (n:Z4) (v:Nat):Nat:=Ya n.2.2.1 (n.2.2.2.1.getD v []) 1
def T6 (n:Z4) (r:List R1):Nat→Nat→Nat→Nat
 | 0,_,O=>O
 | m+1,v,O=>T6 n r m (v+1) (Ug (cnt n v) (U1 n v r 0 (Y2 n v)) O)
def Tf (n:Z4) (r:List R1):Nat→Nat→Nat→Nat
 | 0,_,U=>U
 | m+1,v,U=>Tf n r m (v+1) (Vz (cnt n v) (U1 n v r 0 (Y2 n v)) U)
/-! how long they are -/
theorem Zku:∀ l:List Int,(∀ x ∈ l,x≤1048576)→(Zd (Yy l)).length≤13 * 0+Yp l+l.length+1
 | [],_=>by rw [Yy,V1];simp
 | x :: l,h=>by
  have hx:=h x List.mem_cons_self
  have h1:=Um x.toNat (by omega)
  have h2:=Wz (Xj x.toNat) (Yy l)
  have h3:=Zku l fun y hy=>h y (List.mem_cons_of_mem _ hy)
  rw [Yy,Yp,nC];omega
theorem Zhj {c:Nat}:∀ l:List Int,(∀ x ∈ l,x≤(c:Int))→Yp l≤c * l.length
 | [],_=>by simp [Yp]
 | x :: l,h=>by
  have hx:=h x List.mem_cons_self
  have h3:=Zhj l fun y hy=>h y (List.mem_cons_of_mem _ hy)
  rw [Yp,nC,Nat.mul_add,Nat.mul_one];omega
structure Zj0 (k:Nat) (q:List Int):Prop where
 len:q.length=k
 ge:∀ x ∈ q,0≤x∧x≤12
section
variable {N:Nat} (hr:Z5 N 4294967296)
include hr
theorem Zvx {vals:List ByteArray} {k:Nat} (hk:vals.length=k) (hk1:1≤k) (hkb:k≤65536) (kk:Bool→List Int→List Int→Option (QV×Int)) {O U:Nat} (hU:U≠0) (hOl:(Zd O).length≤1100000000) (hUl:(Zd U).length≤1100000000):∀ (q:List Int) (t o:Nat),(∀ x ∈ q,0≤x∧x≤12)→t+12 * q.length≤786432→(Zd o).length+13 * q.length≤1048576→
  Zbk N vals (Xc (mkRat (O:Int) U)).1.1 (Xc (mkRat (O:Int) U)).1.2 (Xc (mkRat (O:Int) U)).2 kk q (t:Int) (Zd o)=kk (Xc (mkRat ((O * (o * Yy q):Nat):Int) (U * Xj (t+Yp q+k - 1)))).1.1 (Xc (mkRat ((O * (o * Yy q):Nat):Int) (U * Xj (t+Yp q+k - 1)))).1.2 (Xc (mkRat ((O * (o * Yy q):Nat):Int) (U * Xj (t+Yp q+k - 1)))).2
 | [],t,o,_,ht,ho=>by
  obtain ⟨r1,r2⟩:=hr
  have e1:i64.wrap (i64.wrap ((t:Int)+(vals.length:Int)) - 1)=((t+k - 1:Nat):Int):=by
   simp only [nN] at ht
   rw [hk,Zs (x:=(t:Int)+(k:Int)) (by omega),Zs (by omega)];omega
  simp only [nN] at ht ho
  have hb:=Um (t+k - 1) (by omega)
  have nw:=Zra (N:=N) (a:=(false,Zd o)) (b:=(false,Zd (Xj (t+k - 1)))) (k:=1048576) (l:=1048576) (Zw _) (Zw _) (show (Zd o).length≤1048576 by omega) (show (Zd (Xj (t+k - 1))).length≤1048576 by omega) ⟨by omega,by omega⟩
  have z:Zr ((false,Zd (Xj (t+k - 1))):ZV)≠0:=by rw [Zco];have:=Zkt (t+k - 1);omega
  rw [if_neg z,Zco,Zco] at nw
  have e2:(((o:Nat):Int):Rat) / (((Xj (t+k - 1):Nat):Int):Rat)=mkRat (o:Int) (Xj (t+k - 1)):=(Rat.mkRat_eq_div _ _).symm
  rw [e2] at nw
  have q1:qs (mkRat (O:Int) U)≤1100000000:=Zjn (by rw [Int.natAbs_natCast];exact hOl) hUl (by omega)
  have q2:qs (mkRat (o:Int) (Xj (t+k - 1)))≤1048576:=Zjn (by rw [Int.natAbs_natCast];omega) (by omega) (by omega)
  have ml:=Zz9 (N:=N) (Zjt q1) (Zjt q2) ⟨by omega,by omega⟩
  rw [Qx,Qx,Rat.mkRat_mul_mkRat] at ml
  have ml':Zfk N (((Xc (mkRat (O:Int) U)).1.1,(Xc (mkRat (O:Int) U)).1.2),(Xc (mkRat (O:Int) U)).2) (((Xc (mkRat (o:Int) (Xj (t+k - 1)))).1.1,(Xc (mkRat (o:Int) (Xj (t+k - 1)))).1.2),(Xc (mkRat (o:Int) (Xj (t+k - 1)))).2)=_:=ml
  rw [Zbk.eq_1,e1,Znv (by omega) (by omega),oB,nw,oB]
  dsimp only
  rw [ml',oB,Yy,Yp,Nat.mul_one,Nat.add_zero,Int.natCast_mul]
 | x :: q,t,o,hq,ht,ho=>by
  rw [nC] at ht ho
  obtain ⟨r1,r2⟩:=id hr
  obtain ⟨x0,x1⟩:=hq x List.mem_cons_self
  obtain ⟨d,rfl⟩:∃ d:Nat,x=(d:Int):=⟨x.toNat,by omega⟩
  have hd:=Um d (by omega)
  have hl:=Wz o (Xj d)
  have ih:=Zvx hk hk1 hkb kk hU hOl hUl q (t+d) (o * Xj d) (fun y hy=>hq y (List.mem_cons_of_mem _ hy)) (by omega) (by omega)
  rw [Zbk.eq_2,Znv (by omega) (by omega),oB,Zji (Zw _) (Zw _) (by omega) (by omega),oB,Zy,Zy,Zs (by omega),← Int.natCast_add]
  refine ih.trans ?_
  rw [Yy,Yp,Int.toNat_natCast,Nat.mul_assoc o,Nat.add_assoc t]
theorem Zvw {vals:List ByteArray} {k:Nat} (hk:vals.length=k) (hk1:1≤k) (hkb:k≤65536) (v:Nat) (hv:v≤1048576) (kk:Int→Bool→List Int→List Int→Option (QV×Int)):∀ (l:List R1) (O U:Nat),(∀ q ∈ l,Zj0 k q)→U≠0→(Zd O).length+15 * (k * l.length)≤1100000000→(Zd U).length+15 * (k * l.length)≤1100000000→
  Qn N (v:Int) kk vals l (Xc (mkRat (O:Int) U)).1.1 (Xc (mkRat (O:Int) U)).1.2 (Xc (mkRat (O:Int) U)).2=kk ((v+1:Nat):Int) (Xc (mkRat (Ug k l O:Int) (Vz k l U))).1.1 (Xc (mkRat (Ug k l O:Int) (Vz k l U))).1.2 (Xc (mkRat (Ug k l O:Int) (Vz k l U))).2
 | [],O,U,_,_,_,_=>by rw [Qn.eq_1,wS (by omega),Ug,Vz]
 | q :: l,O,U,hq,hU,hO,hUl=>by
  rw [nC,Nat.mul_add,Nat.mul_one] at hO hUl
  obtain ⟨r1,r2⟩:=id hr
  have hc:=hq q List.mem_cons_self
  have e1:i64.wrap ((vals.length:Int) - 1)=((k - 1:Nat):Int):=by rw [hk,Zs (by omega)];omega
  have hk2:=Um (k - 1) (by omega)
  have hs:=Zhj (c:=12) q fun x hx=>(hc.ge x hx).2
  have hp:=Zku q fun x hx=>by have:=hc.ge x hx;omega
  have l1:=Wz O (Xj (k - 1) * Yy q)
  have l2:=Wz (Xj (k - 1)) (Yy q)
  have l3:=Wz U (Xj (Yp q+k - 1))
  have l4:=Um (Yp q+k - 1) (by have:=hc.len;omega)
  have hlen:=hc.len
  have ih:=Zvw hk hk1 hkb v hv kk l (O * (Xj (k - 1) * Yy q)) (U * Xj (Yp q+k - 1)) (fun y hy=>hq y (List.mem_cons_of_mem _ hy)) (Nat.mul_ne_zero hU (Zkt _)) (by omega) (by omega)
  have L4:=Zvx hr hk hk1 hkb (Qn N (v:Int) kk vals l) hU (show (Zd O).length≤1100000000 by omega) (show (Zd U).length≤1100000000 by omega) q 0 (Xj (k - 1)) hc.ge (by omega) (by omega)
  rw [Qn.eq_2,e1,Znv (by omega) (by omega),oB]
  refine Eq.trans L4 ?_
  rw [Nat.zero_add,Ug,Vz]
  exact ih
omit hr in
theorem Zru {c:List Int} {k:Nat} (hk1:1≤k) (hc:c.length≤65536) {R:Nat} (hR:R * k=c.length):∀ (m j f:Nat),j+m=R→m<f→Zcb N c (k:Int) f ((j * k:Nat):Int)=some ((List.range' j m).map fun i=>(c.drop (i * k)).take k)
 | m,j,0,_,h=>by omega
 | 0,j,f+1,hj,_=>by
  have:j * k=c.length:=by rw [← hR,← hj,Nat.add_zero]
  rw [Zcb.eq_2,if_neg (dF (by omega))];rfl
 | m+1,j,f+1,hj,hf=>by
  have h1:(j+1) * k≤R * k:=Nat.mul_le_mul_right k (by omega)
  have h2:(j+1) * k=j * k+k:=by rw [Nat.add_mul,Nat.one_mul]
  have hdl:(c.drop (j * k)).length=c.length - j * k:=List.length_drop
  have e1:(if ((c.drop (j * k)).length:Int)<(k:Int) then ((c.drop (j * k)).length:Int) else (k:Int))=(k:Int):=if_neg (by rw [hdl];omega)
  have ih:=Zru hk1 hc hR m (j+1) f (by omega) (by omega)
  rw [Zcb.eq_2,if_pos (dT (by omega)),Z6 (by omega),Int.toNat_natCast,e1,← Int.natCast_add,Zs (by omega),← h2,Z6 (by omega),Int.toNat_natCast,ih,oB,List.range'_succ,List.map_cons,List.drop_take,h2,Nat.add_sub_cancel_left]
end
section
variable {N:Nat} {n:Z4} (hf:Wb N n) (hr:Z5 N 4294967296) {r:List R1} (hR:∀ row ∈ r,W2 n row) (hl:r.length≤12)
include hf hR hl
omit hf hR in
theorem Zqf {v:Nat}:∀ x ∈ Wc n v r,0≤x∧x≤12:=fun x hx=>by
 obtain ⟨i,_,rfl⟩:=List.mem_map.1 hx
 have:=List.countP_le_length (p:=fun q=>decide (Ws n v q=i)) (l:=r)
 omega
omit hR hl in
theorem Zkp {v:Nat} (hv:v<n.2.1.length):Y2 n v * cnt n v=(Wc n v r).length∧(Wc n v r).length≤65536:=by
 have h:=hf.rows hv
 have e:(Wc n v r).length=(n.2.2.2.2.getD v []).length:=by rw [Wc,List.length_map,List.length_range]
 rw [e]
 exact ⟨h.1,h.2.1⟩
omit hR in
theorem Znj {v:Nat} (hv:v<n.2.1.length) {j m:Nat} (hj:j+m≤Y2 n v):∀ q ∈ U1 n v r j m,Zj0 (cnt n v) q:=fun q hq=>by
 obtain ⟨i,hi,rfl⟩:=List.mem_map.1 hq
 have hi:=List.mem_range'_1.1 hi
 have hc:=Zkp hf (r:=r) hv
 have h1:(i+1) * cnt n v≤Y2 n v * cnt n v:=Nat.mul_le_mul_right _ (by omega)
 rw [Nat.add_mul,Nat.one_mul] at h1
 exact ⟨by rw [nK,List.length_drop];omega,fun x hx=>Zqf hl x (List.mem_of_mem_drop (List.mem_of_mem_take hx))⟩
include hr
omit hf hR hl hr in
theorem Zlx {k:Nat} (hk1:1≤k) (hkb:k≤65536):∀ (l:List R1) (O:Nat),(∀ q ∈ l,Zj0 k q)→(Zd (Ug k l O)).length≤(Zd O).length+15 * (k * l.length)
 | [],O,_=>by rw [Ug];omega
 | q :: l,O,hq=>by
  have hc:=hq q List.mem_cons_self
  have hk2:=Um (k - 1) (by omega)
  have hs:=Zhj (c:=12) q fun x hx=>(hc.ge x hx).2
  have hp:=Zku q fun x hx=>by have:=hc.ge x hx;omega
  have l1:=Wz O (Xj (k - 1) * Yy q)
  have l2:=Wz (Xj (k - 1)) (Yy q)
  have hlen:=hc.len
  have ih:=Zlx hk1 hkb l (O * (Xj (k - 1) * Yy q)) fun y hy=>hq y (List.mem_cons_of_mem _ hy)
  rw [Ug,nC,Nat.mul_add,Nat.mul_one]
  omega
omit hf hR hl hr in
theorem Zmo {k:Nat} (hk1:1≤k) (hkb:k≤65536):∀ (l:List R1) (U:Nat),(∀ q ∈ l,Zj0 k q)→(Zd (Vz k l U)).length≤(Zd U).length+15 * (k * l.length)
 | [],U,_=>by rw [Vz];omega
 | q :: l,U,hq=>by
  have hc:=hq q List.mem_cons_self
  have hs:=Zhj (c:=12) q fun x hx=>(hc.ge x hx).2
  have hlen:=hc.len
  have l3:=Wz U (Xj (Yp q+k - 1))
  have l4:=Um (Yp q+k - 1) (by omega)
  have ih:=Zmo hk1 hkb l (U * Xj (Yp q+k - 1)) fun y hy=>hq y (List.mem_cons_of_mem _ hy)
  rw [Vz,nC,Nat.mul_add,Nat.mul_one]
  omega
omit hf hR hl hr in
theorem Zmp {k:Nat}:∀ (l:List R1) (U:Nat),U≠0→Vz k l U≠0
 | [],U,h=>h
 | q :: l,U,h=>by rw [Vz];exact Zmp l _ (Nat.mul_ne_zero h (Zkt _))
omit hf hR hl hr in
theorem Zni (n:Z4) (v:Nat) (r:List R1) (j m:Nat):(U1 n v r j m).length=m:=by rw [U1,List.length_map,List.length_range']
variable (hC:Sm N n=some 0) (hw:Td n r=true) (hps:∀ v,(n.2.2.2.1.getD v []).length≤1048576)
include hC hw hps
theorem Zvv:∀ (f m v O U:Nat),v+m=n.2.1.length→m<f→U≠0→(Zd O).length+983040 * m≤1100000000→(Zd U).length+983040 * m≤1100000000→
  Ts N n r f (v:Int) (Xc (mkRat (O:Int) U)).1.1 (Xc (mkRat (O:Int) U)).1.2 (Xc (mkRat (O:Int) U)).2=some (Xc (mkRat (T6 n r m v O:Int) (Tf n r m v U)),0)
 | 0,m,v,O,U,h1,h2,_,_,_=>by omega
 | f+1,0,v,O,U,h1,h2,_,_,_=>by
  rw [Ts.eq_2,if_neg (dF (by omega)),T6,Tf]
 | f+1,m+1,v,O,U,h1,h2,hU,hO,hUl=>by
  obtain ⟨r1,r2⟩:=id hr
  have hle:=hf.le
  have hv:v<n.2.1.length:=by omega
  have hcp:=Zhv hf.ev hv
  obtain ⟨c1,c2⟩:=Zkp hf (r:=r) hv
  have hkb:cnt n v≤65536:=by
   have hrw:0<Y2 n v:=by
    have:=Zjr hf.ev (n.2.2.2.1.getD v []) 1 (hf.pars hv) (by omega)
    exact this
   have:=Nat.le_mul_of_pos_left (cnt n v) hrw
   omega
  have hq:=Znj hf hl hv (j:=0) (m:=Y2 n v) (by omega)
  have hch:=Zru (N:=N) (c:=Wc n v r) hcp c2 c1 (Y2 n v) 0 N (by omega) (by
   have:=Nat.le_mul_of_pos_right (Y2 n v) hcp
   omega)
  rw [Nat.zero_mul] at hch
  have ct:Zfh N (n.1,n.2.1,n.2.2.1,n.2.2.2.1,n.2.2.2.2) r (v:Int)=some (Wc n v r,0):=Z1u hf hv (hps v) hC hw hR (by omega)
  have hcl:=Zni n v r 0 (Y2 n v)
  have o1:=Zlx hcp hkb _ O hq
  have u1:=Zmo hcp hkb _ U hq
  have e15:cnt n v * Y2 n v≤65536:=by rw [Nat.mul_comm,c1];exact c2
  rw [hcl] at o1 u1
  have ih:=Zvv f m (v+1) (Ug (cnt n v) (U1 n v r 0 (Y2 n v)) O) (Vz (cnt n v) (U1 n v r 0 (Y2 n v)) U) (by omega) (by omega) (Zmp _ _ hU) (by omega) (by omega)
  have L3:=Zvw hr (vals:=n.2.2.1.getD v []) (k:=cnt n v) rfl hcp hkb v (by omega) (Ts N n r f) (U1 n v r 0 (Y2 n v)) O U hq hU (by rw [hcl];omega) (by rw [hcl];omega)
  have hch':Zi9 N (Wc n v r) ((n.2.2.1.getD v []).length:Int)=some (U1 n v r 0 (Y2 n v)):=by
   rw [Zi9,if_neg (dF (by have:cnt n v=(n.2.2.1.getD v []).length:=rfl;omega)),Zlk,Zlj]
   exact hch
  rw [Ts.eq_2,if_pos (dT (by omega)),ct,oB,Wf [] (by rw [hf.ev.v];exact hv),oB]
  dsimp only
  rw [hch',oB,T6,Tf]
  exact L3.trans ih
theorem Z1w (hfu:Qa r=true):U5 N n r=some (Xc (mkRat (T6 n r n.2.1.length 0 1:Int) (Tf n r n.2.1.length 0 1)),0):=by
 obtain ⟨r1,r2⟩:=id hr
 have hle:=hf.le
 have hC':Sm N (n.1,n.2.1,n.2.2.1,n.2.2.2.1,n.2.2.2.2)=some 0:=hC
 have lw:Zbm N (n.1,n.2.1,n.2.2.1,n.2.2.2.1,n.2.2.2.2) r=some 0:=by
  rw [Zbm,hC',oB,if_neg (by decide)]
  have:=Znx (n:=n) hf.ev.v r
  rw [if_pos hw] at this
  exact this
 have L1:∀ l:List R1,(∀ row ∈ l,Wn n row 0=true)→Qa l=true→∀ a b c,Qm N n r l a b c=(Zfp N 1).bind fun q=>Ts N n r N 0 q.1.1 q.1.2 q.2:=by
  intro l
  induction l with
  | nil=>intro _ _ a b c;rw [Qm.eq_1]
  | cons row l ih=>
   intro h1 h2 a b c
   rw [Qa,List.all_cons,Bool.and_eq_true,Zrg (h1 row List.mem_cons_self),Bool.not_eq_true'] at h2
   rw [Qm.eq_2,Zrv,oB,h2.1,if_neg (by decide)]
   exact ih (fun q hq=>h1 q (List.mem_cons_of_mem _ hq)) h2.2 a b c
 have wh:Zfp N 1=some (Xc (mkRat ((1:Nat):Int) 1)):=by
  have:=Zrb (N:=N) (a:=1) (b:=1) (by omega) (by omega) ⟨by omega,by omega⟩
  rw [if_neg (by decide)] at this
  rw [Zfp,this,oB]
  have e:(((1:Int):Rat) / ((1:Int):Rat))=mkRat ((1:Nat):Int) 1:=by rw [Rat.mkRat_eq_div];rfl
  rw [e]
 have l1:(Zd 1).length=1:=by rw [V1];rfl
 have L2:=Zvv hf hr hR hl hC hw hps N n.2.1.length 0 1 1 (by omega) (by omega) (by decide) (by omega) (by omega)
 rw [U5,lw,oB,if_neg (by decide),L1 r (fun row h=>by
  have:=List.all_eq_true.1 hw row h
  rw [Bool.and_eq_true] at this
  exact this.2) hfu,wh,oB]
 exact L2
end
theorem Zqy (x:Int):∀ l:List Int,Yy (l++[x])=Yy l * Xj x.toNat
 | []=>by show Xj x.toNat * 1=1 * Xj x.toNat;omega
 | y :: l=>by rw [List.cons_append,Yy,Zqy x l,Yy,Nat.mul_assoc]
theorem Zv5 (x:Int):∀ l:List Int,Yp (l++[x])=Yp l+x.toNat
 | []=>by show x.toNat+0=0+x.toNat;omega
 | y :: l=>by rw [List.cons_append,Yp,Zv5 x l,Yp,Nat.add_assoc]
theorem Z2q {N K O U:Nat} (hU:U≠0) (hO:(Zd O).length≤K) (hUl:(Zd U).length≤K) (hr:Z5 N (2 * K+2)):Ziw N ((false,Zd O),Zd U)=some (Xc (mkRat (O:Int) U)):=by
 have hrv:RV K (((false,Zd O),Zd U):QV):=⟨Zw _,Zw _,hO,hUl⟩
 have hd:X6 (Zd U)=U:=Zqu hU
 rw [Ziw,Zjq hrv (hr.mono (by omega)),oB,hd,Zol (k:=K) (l:=K) (Zw _) (Zw _) (by rw [Zy];exact hU) hO hUl (hr.mono (by omega)),oB,Zco,Zy]
section
variable {N:Nat} (hr:Z5 N 4294967296)
include hr
theorem Zvg {c:List Int} (hcl:c.length≤65536) (hc:∀ x ∈ c,0≤x∧x≤12) {vals:List ByteArray} {k:Nat} (hk:vals.length=k) (hk1:1≤k) {s:Nat} (hs:s+k≤c.length) (kk:List Int→Int→List Int→Option (QV×Int)) {O U:Nat} (hUl:(Zd U).length≤1100000000) (hOl:(Zd O).length≤1100000000):
  ∀ (f j:Nat),j≤k→k<f+j→(Zd (O * Yy ((c.drop s).take j))).length≤(Zd O).length+13 * j+1→
  Zeb N c vals (Zd U) (s:Int) kk f ((Yp ((c.drop s).take j):Nat):Int) ((s+j:Nat):Int) (Zd (O * Yy ((c.drop s).take j)))=
   kk (Zd (U * Xj (Yp ((c.drop s).take k)+k - 1))) ((s+k:Nat):Int) (Zd (O * Yy ((c.drop s).take k)))
 | 0,j,h1,h2,_=>by omega
 | f+1,j,h1,h2,h3=>by
  obtain ⟨r1,r2⟩:=id hr
  have e1:i64.wrap ((s:Int)+(vals.length:Int))=((s+k:Nat):Int):=by rw [hk,Zs (by omega)];omega
  have hsum:Yp ((c.drop s).take j)≤12 * j:=by
   have h:=Zhj (c:=12) ((c.drop s).take j) fun x hx=>(hc x (List.mem_of_mem_drop (List.mem_of_mem_take hx))).2
   rw [nK] at h
   have:min j (c.drop s).length≤j:=Nat.min_le_left _ _
   omega
  rw [Zeb.eq_2,e1]
  by_cases hj:j<k
  ·have hsj:s+j<c.length:=by omega
   have hx:=hc _ (List.getElem_mem hsj)
   obtain ⟨d,hd⟩:∃ d:Nat,c[s+j]=(d:Int):=⟨(c[s+j]).toNat,by omega⟩
   have htk:(c.drop s).take (j+1)=(c.drop s).take j++[(d:Int)]:=by
    rw [List.take_succ_eq_append_getElem (by rw [List.length_drop];omega),List.getElem_drop,hd]
   have hfd:=Um d (by omega)
   have hfd12:d≤12:=by omega
   have l1:=Wz (O * Yy ((c.drop s).take j)) (Xj d)
   have e2:O * Yy ((c.drop s).take (j+1))=O * Yy ((c.drop s).take j) * Xj d:=by rw [htk,Zqy,Int.toNat_natCast,Nat.mul_assoc]
   have e3:Yp ((c.drop s).take (j+1))=Yp ((c.drop s).take j)+d:=by rw [htk,Zv5,Int.toNat_natCast]
   have ih:=Zvg hcl hc hk hk1 hs kk hUl hOl f (j+1) (by omega) (by omega) (by rw [e2];omega)
   rw [e2,e3] at ih
   rw [if_pos (dT (by omega)),Zv hsj,oB,hd,Zoj (by omega) (by omega),oB,Zhh (Zw _) (Zw _) (by omega) (by omega),oB,Zy,Zy,Zs (by omega),wS (by omega),← Int.natCast_add]
   exact ih
  ·have hj:j=k:=by omega
   subst hj
   have e4:i64.wrap (i64.wrap (((Yp ((c.drop s).take j):Nat):Int)+(vals.length:Int)) - 1)=((Yp ((c.drop s).take j)+j - 1:Nat):Int):=by
    rw [hk,Zs (x:=((Yp ((c.drop s).take j):Nat):Int)+(j:Int)) (by omega),Zs (by omega)];omega
   have hfu:=Um (Yp ((c.drop s).take j)+j - 1) (by omega)
   rw [if_neg (dF (by omega)),e4,Zoj (by omega) (by omega),oB,Zhh (Zw _) (Zw _) (by omega) (by omega),oB,Zy,Zy]
theorem Zvf {c:List Int} (hcl:c.length≤65536) (hc:∀ x ∈ c,0≤x∧x≤12) {vals:List ByteArray} {k:Nat} (hk:vals.length=k) (hk1:1≤k) {R:Nat} (hR:R * k=c.length) (v:Nat) (hv:v≤1048576) (kk:List Int→Int→List Int→Option (QV×Int)):
  ∀ (m j f O U:Nat),j+m=R→m<f→(Zd O).length+15 * (k * m)≤1100000000→(Zd U).length+15 * (k * m)≤1100000000→
  Qv N (v:Int) kk c vals f (Zd U) ((j * k:Nat):Int) (Zd O)=kk (Zd (Vz k ((List.range' j m).map fun i=>(c.drop (i * k)).take k) U)) ((v+1:Nat):Int) (Zd (Ug k ((List.range' j m).map fun i=>(c.drop (i * k)).take k) O))
 | m,j,0,O,U,_,h,_,_=>by omega
 | 0,j,f+1,O,U,hj,_,_,_=>by
  have:j * k=c.length:=by rw [← hR,← hj,Nat.add_zero]
  rw [Qv.eq_2,if_neg (dF (by omega)),wS (by omega)];rfl
 | m+1,j,f+1,O,U,hj,hf,hO,hU=>by
  obtain ⟨r1,r2⟩:=id hr
  rw [Nat.mul_add,Nat.mul_one] at hO hU
  have h1:(j+1) * k≤R * k:=Nat.mul_le_mul_right k (by omega)
  have h2:(j+1) * k=j * k+k:=by rw [Nat.add_mul,Nat.one_mul]
  have hkc:k≤65536:=by omega
  have e1:i64.wrap ((vals.length:Int) - 1)=((k - 1:Nat):Int):=by rw [hk,Zs (by omega)];omega
  have hk2:=Um (k - 1) (by omega)
  have l0:=Wz O (Xj (k - 1))
  have hq:∀ x ∈ (c.drop (j * k)).take k,0≤x∧x≤12:=fun x hx=>hc x (List.mem_of_mem_drop (List.mem_of_mem_take hx))
  have hql:((c.drop (j * k)).take k).length=k:=by rw [nK,List.length_drop];omega
  have hs:=Zhj (c:=12) _ fun x hx=>(hq x hx).2
  have hp:=Zku _ fun x hx=>show x≤1048576 by have:=hq x hx;omega
  rw [hql] at hs hp
  have l1:=Wz (O * Xj (k - 1)) (Yy ((c.drop (j * k)).take k))
  have l3:=Wz U (Xj (Yp ((c.drop (j * k)).take k)+k - 1))
  have l4:=Um (Yp ((c.drop (j * k)).take k)+k - 1) (by omega)
  have L5:=Zvg hr hcl hc hk hk1 (s:=j * k) (by omega) (Qv N (v:Int) kk c vals f) (O:=O * Xj (k - 1)) (U:=U) (by omega) (by omega) N 0 (Nat.zero_le _) (by omega) (by rw [List.take_zero,Yy,Nat.mul_one];omega)
  rw [List.take_zero,Yy,Yp,Nat.mul_one,Nat.add_zero,← h2] at L5
  have ih:=Zvf hcl hc hk hk1 hR v hv kk m (j+1) f (O * Xj (k - 1) * Yy ((c.drop (j * k)).take k)) (U * Xj (Yp ((c.drop (j * k)).take k)+k - 1)) (by omega) (by omega) (by omega) (by omega)
  rw [Qv.eq_2,if_pos (dT (by omega)),e1,Zoj (by omega) (by omega),oB,Zhh (Zw _) (Zw _) (by omega) (by omega),oB,Zy,Zy]
  refine Eq.trans L5 (ih.trans ?_)
  rw [List.range'_succ,List.map_cons,Ug,Vz,Nat.mul_assoc O]
end
section
variable {N:Nat} {n:Z4} (hf:Wb N n) (hr:Z5 N 4294967296) {r:List R1} (hR:∀ row ∈ r,W2 n row) (hl:r.length≤12) (hps:∀ v,(n.2.2.2.1.getD v []).length≤1048576)
include hf hr hR hl hps
theorem Zve:∀ (f m v O U:Nat),v+m=n.2.1.length→m<f→U≠0→(Zd O).length+983040 * m≤1100000000→(Zd U).length+983040 * m≤1100000000→
  T0 N n r f (Zd U) (v:Int) (Zd O)=some (Xc (mkRat (T6 n r m v O:Int) (Tf n r m v U)),0)
 | 0,m,v,O,U,h1,h2,_,_,_=>by omega
 | f+1,0,v,O,U,h1,h2,hU,hO,hUl=>by
  obtain ⟨r1,r2⟩:=id hr
  rw [T0.eq_2,if_neg (dF (by omega)),Z2q (K:=1100000000) hU (by omega) (by omega) ⟨by omega,by omega⟩,oB,T6,Tf]
 | f+1,m+1,v,O,U,h1,h2,hU,hO,hUl=>by
  obtain ⟨r1,r2⟩:=id hr
  have hle:=hf.le
  have hv:v<n.2.1.length:=by omega
  have hcp:=Zhv hf.ev hv
  obtain ⟨c1,c2⟩:=Zkp hf (r:=r) hv
  have hrw:0<Y2 n v:=Zjr hf.ev (n.2.2.2.1.getD v []) 1 (hf.pars hv) (by omega)
  have hkb:cnt n v≤65536:=by
   have:=Nat.le_mul_of_pos_left (cnt n v) hrw
   omega
  have hrb:Y2 n v≤65536:=by
   have:=Nat.le_mul_of_pos_right (Y2 n v) hcp
   omega
  have hq:=Znj hf hl hv (j:=0) (m:=Y2 n v) (by omega)
  have ct:Zg9 N (n.1,n.2.1,n.2.2.1,n.2.2.2.1,n.2.2.2.2) r (v:Int)=some (Wc n v r):=Z2h hf hv (hps v) hR (by omega) (by omega)
  have hcl:=Zni n v r 0 (Y2 n v)
  have o1:=Zlx hcp hkb _ O hq
  have u1:=Zmo hcp hkb _ U hq
  have e15:cnt n v * Y2 n v≤65536:=by rw [Nat.mul_comm,c1];exact c2
  rw [hcl] at o1 u1
  have ih:=Zve f m (v+1) (Ug (cnt n v) (U1 n v r 0 (Y2 n v)) O) (Vz (cnt n v) (U1 n v r 0 (Y2 n v)) U) (by omega) (by omega) (Zmp _ _ hU) (by omega) (by omega)
  have L4:=Zvf hr c2 (Zqf hl) (vals:=n.2.2.1.getD v []) (k:=cnt n v) rfl hcp c1 v (by omega) (T0 N n r f) (Y2 n v) 0 N O U (by omega) (by omega) (by omega) (by omega)
  rw [Nat.zero_mul] at L4
  rw [T0.eq_2,if_pos (dT (by omega)),ct,oB,Wf [] (by rw [hf.ev.v];exact hv),oB,T6,Tf]
  exact Eq.trans L4 ih
theorem Z20 (hC:Zb4 N n=some 0) (hw:Td n r=true) (hfu:Qa r=true):Tz N n r=some (Xc (mkRat (T6 n r n.2.1.length 0 1:Int) (Tf n r n.2.1.length 0 1)),0):=by
 obtain ⟨r1,r2⟩:=id hr
 have hle:=hf.le
 have hvl:=hf.ev.v
 have hC':Zb4 N (n.1,n.2.1,n.2.2.1,n.2.2.2.1,n.2.2.2.2)=some 0:=hC
 have lw:Zb8 N (n.1,n.2.1,n.2.2.1,n.2.2.2.1,n.2.2.2.2) r=some 0:=by
  rw [Zb8,hC',oB,if_neg (by decide)]
  have:=Zor (N:=N) (r:=r) hf.ev.v (by omega) (by omega) (by omega) N 0 (Nat.zero_le _) (by omega)
  rw [List.drop_zero,if_pos hw] at this
  exact this
 have l1:(Zd 1).length=1:=by rw [V1];rfl
 have L3:=Zve hf hr hR hl hps N n.2.1.length 0 1 1 (by omega) (by omega) (by decide) (by omega) (by omega)
 rw [V1] at L3
 have hL2:∀ (i:Nat) (hi:i<r.length) (kk:Bool→List Int→List Int→Int→Option (QV×Int)) (f v:Nat) (a:Bool) (b c:List Int),v≤r[i].length→r[i].length<f+v→Zaz N r (i:Int) kk f a b c (v:Int)=kk a b c ((i+1:Nat):Int):=by
  intro i hi kk f
  induction f with
  | zero=>intro v a b c h1 h2;omega
  | succ f ih=>
   intro v a b c h1 h2
   have hlen:=(hR _ (List.getElem_mem hi)).len
   rw [Zaz.eq_2,Zv hi,oB]
   by_cases hv:v<r[i].length
   ·have hx:=(hR _ (List.getElem_mem hi)).ok v hv
    rw [Yr hv] at hx
    rw [if_pos (dT (by omega)),Zv hv,oB,if_neg (dF (by omega)),wS (by omega)]
    exact ih (v+1) a b c (by omega) (by omega)
   ·rw [if_neg (dF (by omega)),wS (by omega)]
 have hL1:∀ (f i:Nat) (a:Bool) (b c:List Int),i≤r.length→r.length<f+i→Sx N n r f a b c (i:Int)=T0 N n r N [1] 0 [1]:=by
  intro f
  induction f with
  | zero=>intro i a b c h1 h2;omega
  | succ f ih=>
   intro i a b c h1 h2
   rw [Sx.eq_2]
   by_cases hi:i<r.length
   ·have hlen:=(hR _ (List.getElem_mem hi)).len
    rw [if_pos (dT (by omega))]
    refine Eq.trans (hL2 i hi _ N 0 a b c (Nat.zero_le _) (by omega)) ?_
    exact ih (i+1) a b c (by omega) (by omega)
   ·rw [if_neg (dF (by omega))]
 rw [Tz,lw,oB,if_neg (by decide)]
 exact Eq.trans (hL1 N 0 _ _ _ (Nat.zero_le _) (by omega)) L3
end
abbrev Zmy:=ByteArray×List ByteArray×List R5×List R1×List (List QV)
def U3 {α:Type} (ms l:List α):Nat×List α:=(l.length,l++ms)
structure Zcq (n:Zmy):Prop where
 nm:n.2.1.length≤1048576
 vn:n.2.2.1.length≤1048576
 vl:∀ l ∈ n.2.2.1,l.length≤1048576
 pn:n.2.2.2.1.length≤1048576
 pl:∀ l ∈ n.2.2.2.1,l.length≤1048576
 tn:n.2.2.2.2.length≤1048576
 tl:∀ t ∈ n.2.2.2.2,t.length≤1048576
 tm:∀ t ∈ n.2.2.2.2,∀ x ∈ t,x.1.2.length≤1048576∧x.2.length≤1048576
theorem Z3i {α:Type} (ms l:List α):Uw (U3 ms l)=l:=by rw [Uw,U3];exact List.take_left
def Zdp (N:Nat) (ab:List Int) (ac:List Int):Nat→Int→Option Bool
  | 0,_=>none
  | ad+1,aa=>if (decide (aa<(ab.length:Int)))=true then ((Zl ab aa).bind fun ae=>(Zl ac aa).bind fun af=>if (!decide (ae=af))=true then (some false) else ((Zdp N ab ac ad) (i64.wrap (aa+1)))) else (some true)
termination_by structural x=>x
def Zgi (N:Nat) (aa:List Int) (ab:List Int):Option Bool:=
  if (!decide ((aa.length:Int)=(ab.length:Int)))=true then (some false) else (Zdp N aa ab N 0)
theorem Zpv {N ai aj:Nat} {a0 a1:Option Addr} {col:Ze} {w0:World} {ad ae:R1} {r:Bool} (hm:Zgi N ad ae=some r) (h0:Sl (Za.int .u32) col w0 a0 ai ad) (h1:Sl (Za.int .u32) col w0 a1 aj ae):
    Calls prog 116 #[.slice a0 ad.length ai,.slice a1 ae.length aj] w0 (fun e w'=>e= .returned ((.bool r))∧Below w0.heap.size w0 w'):=by
 refine Z1 4 (m:=26) func116 rfl rfl rfl rfl rfl ?_;rw [Zgi.eq_1] at hm;have aa:=St.start col w0;refine go ?_;replace h0:=h0.keep (Zh.start col w0);replace h1:=h1.keep (Zh.start col w0);refine Zm hm (fun hb hm=>go ?_) fun hb hm=>go ?_
 ·cases hm;exact ⟨rfl,rfl,aa.below⟩
 refine Zu [0,1,1000000] (fun n f ak=>∃ ab af ac,ac=n∧Zdp N ad ae ac af=some r∧St w0 (Zg col) ab ak∧[5].map f=[.int .i64 af]) N ⟨_,0,_,rfl,hm,aa,rfl⟩ ?_;clear hm;intro n f ak hI;obtain ⟨ab,af,ac,hn,hm,aa,hs⟩:=hI;subst hn;refine .lL [5] hs ?_
 cases ac with
 | zero=>rw [Zdp.eq_1] at hm;cases hm
 | succ ac=>
  rw [Zdp.eq_2] at hm;refine go ?_;refine Zm hm (fun hb hm=>go ?_) fun hb hm=>go ?_
  ·refine Ys (col:=ab) (by kernel_rfl) (by kernel_rfl)<|go ?_;obtain ⟨al,ag,hm⟩:=bZ hm;refine qI ag ((h0.ks aa).addr ag)<|qW (fun _ hC=>((h0.ks aa).gr (hC.bl ab)).atInt ag) ?_;refine go ?_;obtain ⟨am,ah,hm⟩:=bZ hm;refine qI ah ((h1.ks aa).addr ah)<|qW (fun _ hC=>((h1.ks aa).gr (hC.bl ab)).atInt ah) ?_;refine go ?_;refine X9 ?_;intro an hC;replace hC:=hC.bl ab;replace aa:=aa.grow hC;refine Zm hm (fun hb hm=>go ?_) fun hb hm=>go ?_
   ·cases hm;exact ⟨rfl,rfl,aa.below⟩
   exact ⟨ac,by omega,rfl,⟨_,_,_,rfl,hm,aa,rfl⟩⟩
  cases hm;exact ⟨rfl,rfl,aa.below⟩
def Zit (aa:Bool):Option Bool:=
  some aa
def Zk9 (N:Nat) (aa:R3) (ab:R3):Option Bool:=
  if (decide (aa.1=ab.1))=true then ((Zgi N aa.2 ab.2).bind fun ac=>Zit ac) else (Zit false)
theorem Zx7 {N aj ak:Nat} {al am:Option Addr} {col:Ze} {w0:World} {ab ac:R3} {r:Bool} (hm:Zk9 N ab ac=some r) (ae:Sl (Za.int .u32) col w0 al aj ab.2) (af:Sl (Za.int .u32) col w0 am ak ac.2):
    Calls prog 115 #[(.agg #[.bool ab.1,.slice al ab.2.length aj]),(.agg #[.bool ac.1,.slice am ac.2.length ak])] w0 (fun e w'=>e= .returned ((.bool r))∧Below w0.heap.size w0 w'):=by
 refine Z1 4 (m:=17) func115 rfl rfl rfl rfl rfl ?_;rw [Zk9.eq_1] at hm;have aa:=St.start col w0;refine go ?_;refine Xe (col:=(Zg col)) 1 rfl ?_;intro a0 a1 au av ad;refine Xe (col:=au) 2 rfl ?_;intro a2 aw an ao ap;refine Zcw rfl<|Zo<|Zt ?_;replace ae:=ae.keep (Zh.start col w0);replace af:=af.keep (Zh.start col w0);replace aa:=(aa.grow av).grow ao;replace ad:=ad.gr ao;refine Wp.cutK [1000000] (fun f aq=>∃ ar ag,Zit ag=some r∧St w0 (Zg col) ar aq∧[4].map f=[.bool ag]) ?_ ?_
 ·intro f aq hJ;obtain ⟨ar,ag,hm,aa,hs⟩:=hJ;rw [Zit.eq_1] at hm;refine .lL [4] hs<|Wh ?_;cases hm;exact ⟨rfl,rfl,aa.below⟩
 refine Wa<|Z9 ad<|Z9 ap ?_;refine go ?_;refine Xu hm (fun ah hm=>go ?_) fun ah hm=>go ?_
 ·refine Xv ⟨_,_,rfl⟩ ?_;refine go ?_;refine lW ((ad.atN).nth (q:=1) rfl)<|go ?_;refine Xv ⟨_,_,rfl⟩ ?_;refine go ?_;refine lW ((ap.atN).nth (q:=1) rfl)<|go ?_;obtain ⟨ax,ay,hm⟩:=bZ hm;refine Zi (Zpv ay (ae.ks aa) (af.ks aa)) ?_;rintro _ az ⟨rfl,ai⟩;refine ⟨_,rfl,?_⟩;replace ai:Zf an aw an az:=.of_below ai;refine lV (.bool ax) (Xg (congrArg Value.bool ah) rfl)<|go ?_;replace aa:=aa.grow ai;exact ⟨rfl,_,_,hm,aa,rfl⟩
 refine lV (.bool false) (Xt (congrArg Value.bool ah) rfl)<|go ?_;exact ⟨rfl,_,_,hm,aa,rfl⟩
def Ziy (aa:Bool):Option Bool:=
  some aa
def Zb1 (N:Nat) (aa:R2) (ab:R2):Option Bool:=
  (Zk9 N (aa.1.1,aa.1.2) (ab.1.1,ab.1.2)).bind fun ac=>if ac=true then ((Zgi N aa.2 ab.2).bind fun ad=>Ziy ad) else (Ziy false)
theorem Zkk {N ah au ai av:Nat} {aj aw ak ax:Option Addr} {col:Ze} {w0:World} {ab ac:R2} {r:Bool} (hm:Zb1 N ab ac=some r) (al:Sl (Za.int .u32) col w0 aj ah ab.1.2) (am:Sl (Za.int .u32) col w0 aw au ab.2) (an:Sl (Za.int .u32) col w0 ak ai ac.1.2) (ao:Sl (Za.int .u32) col w0 ax av ac.2):
    Calls prog 41 #[(.agg #[.bool ab.1.1,.slice aj ab.1.2.length ah,.slice aw ab.2.length au]),(.agg #[.bool ac.1.1,.slice ak ac.1.2.length ai,.slice ax ac.2.length av])] w0 (fun e w'=>e= .returned ((.bool r))∧Below w0.heap.size w0 w'):=by
 refine Z1 4 (m:=17) func41 rfl rfl rfl rfl rfl ?_;rw [Zb1.eq_1] at hm;have aa:=St.start col w0;refine go ?_;refine Xe (col:=(Zg col)) 1 rfl ?_;intro a9 ba a2 a3 ad;refine Xe (col:=a2) 2 rfl ?_;intro bb a4 af ay ag;refine Zcw rfl<|Zo<|Zt ?_;replace al:=al.keep (Zh.start col w0);replace am:=am.keep (Zh.start col w0);replace an:=an.keep (Zh.start col w0);replace ao:=ao.keep (Zh.start col w0);replace aa:=(aa.grow a3).grow ay;replace ad:=ad.gr ay;refine Wp.cutK [1000000] (fun f az=>∃ a0 ap,Ziy ap=some r∧St w0 (Zg col) a0 az∧[4].map f=[.bool ap]) ?_ ?_
 ·intro f az hJ;obtain ⟨a0,ap,hm,aa,hs⟩:=hJ;rw [Ziy.eq_1] at hm;refine .lL [4] hs<|Wh ?_;cases hm;exact ⟨rfl,rfl,aa.below⟩
 refine Wa<|Xv ⟨_,_,rfl⟩ ?_;refine lV (.agg #[.bool ab.1.1,.slice aj ab.1.2.length ah]) (Y1 isAgg45 sizeOf45 rfl rfl ((ad.atN).part 0 2 _ rfl))<|Xv ⟨_,_,rfl⟩ ?_;refine lV (.agg #[.bool ac.1.1,.slice ak ac.1.2.length ai]) (Y1 isAgg45 sizeOf45 rfl rfl ((ag.atN).part 0 2 _ rfl)) ?_;obtain ⟨bc,a5,hm⟩:=bZ hm;refine Zi (Zx7 a5 (al.ks aa) (an.ks aa)) ?_;rintro _ a1 ⟨rfl,ae⟩;refine ⟨_,rfl,?_⟩;replace ae:Zf af a4 af a1:=.of_below ae;refine Y0 rfl ?_;replace ad:=ad.gr ae;replace ag:=ag.gr ae;replace aa:=aa.grow ae;refine Xu hm (fun aq hm=>go ?_) fun aq hm=>go ?_
 ·refine Xv ⟨_,_,rfl⟩ ?_;refine go ?_;refine lW ((ad.atN).nth (q:=2) rfl)<|go ?_;refine Xv ⟨_,_,rfl⟩ ?_;refine go ?_;refine lW ((ag.atN).nth (q:=2) rfl)<|go ?_;obtain ⟨a6,a7,hm⟩:=bZ hm;refine Zi (Zpv a7 (am.ks aa) (ao.ks aa)) ?_;rintro _ a8 ⟨rfl,ar⟩;refine ⟨_,rfl,?_⟩;replace ar:Zf af a1 af a8:=.of_below ar;refine lV (.bool a6) (Xg (congrArg Value.bool aq) rfl)<|go ?_;replace aa:=aa.grow ar;exact ⟨rfl,_,_,hm,aa,rfl⟩
 refine lV (.bool false) (Xt (congrArg Value.bool aq) rfl)<|go ?_;exact ⟨rfl,_,_,hm,aa,rfl⟩
/-! fractions that are the same -/
theorem Zvo {N:Nat} {l:List Int} (hl:l.length≤1099511627776):∀ (f i:Nat),i≤l.length→l.length<f+i→Zdp N l l f (i:Int)=some true
 | 0,i,h1,h2=>by omega
 | f+1,i,h1,h2=>by
  rw [Zdp.eq_2]
  by_cases hi:i<l.length
  ·rw [if_pos (dT (by omega)),Zv hi,oB,oB,if_neg (by rw [decide_eq_true rfl];decide),wS (by omega)]
   exact Zvo hl f (i+1) (by omega) (by omega)
  ·rw [if_neg (dF (by omega))]
theorem Zvp {N:Nat} {l:List Int} (hl:l.length≤1099511627776) (hN:1099511627777<N):Zgi N l l=some true:=by
 rw [Zgi,if_neg (by rw [decide_eq_true rfl];decide)]
 exact Zvo hl N 0 (Nat.zero_le _) (by omega)
theorem Zos {N:Nat} {x:QV} (h:x.1.2.length≤1099511627776∧x.2.length≤1099511627776) (hN:1099511627777<N):Zb1 N ((x.1.1,x.1.2),x.2) ((x.1.1,x.1.2),x.2)=some true:=by
 rw [Zb1,Zk9,if_pos (dT rfl),Zvp h.1 hN,oB,Zit,oB,if_pos rfl,Zvp h.2 hN,oB,Ziy]
def Zjz (x:QV×Int):Prop:=x.1.1.2.length≤1099511627776∧x.1.2.length≤1099511627776
theorem Z1n {q:Rat} {K:Nat} (h:qs q≤K) (hK:K≤1099511627776) (e:Int):Zjz (Xc q,e):=
 ⟨Nat.le_trans (Nat.le_max_left _ _) (Nat.le_trans h hK),Nat.le_trans (Nat.le_max_right _ _) (Nat.le_trans h hK)⟩
theorem Zzs:Wi prog 22 1 24:=⟨Tryz.t22,_,rfl,rfl,rfl,rfl,rfl⟩
theorem Zzx:Wi prog 40 1 24:=⟨Tryz.t40,_,rfl,rfl,rfl,rfl,rfl⟩
theorem Zzz:Wi prog 56 1 24:=⟨Tryz.t56,_,rfl,rfl,rfl,rfl,rfl⟩
def Zd9 (N:Nat) (af:R0) (ag:ByteArray) (ah:List ByteArray) (ai:List R5) (aj:List R1) (ac:List R7) (ad:Int) (kk_L3:(ByteArray→R5→(List R5)→R4→Rd→Int→Option R0)):Nat→Int→R7→Option R0
  | 0,_,_=>none
  | al+1,ae,ab=>(Zl af.2.2.2.2 ad).bind fun ak=>if (decide (ae<(ak.length:Int)))=true then ((Zl ak ae).bind fun aa=>Z0 ((([]:List Int).length+aa.1.2.length) * 4≤140737488355328∧([]:List Int).length+aa.1.2.length≤maxLen) (Z0 ((([]:List Int).length+aa.2.length) * 4≤140737488355328∧([]:List Int).length+aa.2.length≤maxLen) (Z0 ((ab.length+[((aa.1.1,([]:List Int)++aa.1.2),([]:List Int)++aa.2)].length) * 56≤140737488355328∧ab.length+[((aa.1.1,([]:List Int)++aa.1.2),([]:List Int)++aa.2)].length≤maxLen) ((Zd9 N af ag ah ai aj ac ad kk_L3 al) (i64.wrap (ae+1)) (ab++[((aa.1.1,([]:List Int)++aa.1.2),([]:List Int)++aa.2)]))))) else (Z0 ((ac.length+[ab].length) * 24≤140737488355328∧ac.length+[ab].length≤maxLen) (kk_L3 ag ah ai aj (ac++[ab]) (i64.wrap (ad+1))))
termination_by structural x=>x
def Zay (N:Nat) (aa:R0):Nat→ByteArray→R5→(List R5)→R4→Rd→Int→Option R0
  | 0,_,_,_,_,_,_=>none
  | ah+1,ab,ac,ad,ae,af,ag=>if (decide (ag<(aa.2.2.2.2.length:Int)))=true then (Zd9 N aa ab ac ad ae af ag (Zay N aa ah) N 0 ([]:List R2)) else (some (ab,ac,ad,ae,af))
termination_by structural x=>x
def Zd8 (N:Nat) (ab:R0):Nat→ByteArray→R5→(List R5)→R4→Rd→Int→Option R0
  | 0,_,_,_,_,_,_=>none
  | ai+1,ae,af,ag,ac,ah,ad=>if (decide (ad<(ab.2.2.2.1.length:Int)))=true then ((Zl ab.2.2.2.1 ad).bind fun aa=>Z0 ((([]:List Int).length+aa.length) * 8≤140737488355328∧([]:List Int).length+aa.length≤maxLen) (Z0 ((ac.length+[([]:List Int)++aa].length) * 24≤140737488355328∧ac.length+[([]:List Int)++aa].length≤maxLen) ((Zd8 N ab ai) ae af ag (ac++[([]:List Int)++aa]) ah (i64.wrap (ad+1))))) else (Zay N ab N ae af ag ac ah 0)
termination_by structural x=>x
def Zd7 (N:Nat) (ab:R0):Nat→ByteArray→R5→(List R5)→R4→Rd→Int→Option R0
  | 0,_,_,_,_,_,_=>none
  | ai+1,ae,af,ac,ag,ah,ad=>if (decide (ad<(ab.2.2.1.length:Int)))=true then ((Zl ab.2.2.1 ad).bind fun aa=>Z0 ((([]:List ByteArray).length+aa.length) * 16≤140737488355328∧([]:List ByteArray).length+aa.length≤maxLen) (Z0 ((ac.length+[([]:List ByteArray)++aa].length) * 24≤140737488355328∧ac.length+[([]:List ByteArray)++aa].length≤maxLen) ((Zd7 N ab ai) ae af (ac++[([]:List ByteArray)++aa]) ag ah (i64.wrap (ad+1))))) else (Zd8 N ab N ae af ac ag ah 0)
termination_by structural x=>x
def Zb6 (N:Nat) (aa:R0):Option R0:=
  Z0 ((([]:List ByteArray).length+aa.2.1.length) * 16≤140737488355328∧([]:List ByteArray).length+aa.2.1.length≤maxLen) (Zd7 N aa N aa.1 (([]:List ByteArray)++aa.2.1) ([]:List R5) ([]:List R1) ([]:List R7) 0)
theorem Zp5 {N b5 bk bm b6:Nat} {b7 a9 ba b8:Option Addr} {col:Ze} {w0:World} {ae r:R0} (c1 c2 c3 c4:Nat) (hm:Zb6 N ae=some r) (eb:Sl Za.str col w0 b7 b5 ae.2.1) (dj:Sl (Za.slice Za.str) col w0 a9 bk ae.2.2.1) (dl:Sl (Za.slice (Za.int .i64)) col w0 ba bm ae.2.2.2.1) (b9:Sl (Za.slice (Za.pair (Za.pair Za.bool (Za.slice (Za.int .u32))) (Za.slice (Za.int .u32)))) col w0 b8 b6 ae.2.2.2.2):
    Calls prog 37 #[(.agg #[.string ae.1,.slice b7 ae.2.1.length b5,.slice a9 ae.2.2.1.length bk,.slice ba ae.2.2.2.1.length bm,.slice b8 ae.2.2.2.2.length b6])] w0 (fun e w'=>∃ (col':Ze) (ra1:Option Addr) (rc2:Nat) (ra4:Option Addr) (rc5:Nat) (ra7:Option Addr) (rc8:Nat) (ra10:Option Addr) (rc11:Nat),e= .returned ((.agg #[.string r.1,.slice ra1 r.2.1.length rc2,.slice ra4 r.2.2.1.length rc5,.slice ra7 r.2.2.2.1.length rc8,.slice ra10 r.2.2.2.2.length rc11]))∧Zf col w0 col' w'∧Zc Za.str 9 c1 col' w' ra1 rc2 r.2.1∧Zc (Za.row 9 Za.str) 22 c2 col' w' ra4 rc5 r.2.2.1∧Zc (Za.row 3 (Za.int .i64)) 40 c3 col' w' ra7 rc8 r.2.2.2.1∧Zc (Za.row 47 (Za.pair (Za.pair Za.bool (Za.row 79 (Za.int .u32))) (Za.row 79 (Za.int .u32)))) 56 c4 col' w' ra10 rc11 r.2.2.2.2):=by
 refine Yt (m:=109) func37 rfl rfl rfl ?_;rw [Zb6.eq_1] at hm;have aa:=St.start col w0;refine go ?_;refine Xe (col:=(Zg col)) 1 rfl ?_;intro ca hx fz f0 ab;refine Xs (col:=fz) #[.string (⟨#[]⟩),.slice none (([]:List ByteArray).length) 0,.slice none (([]:List R5).length) 0,.slice none (([]:List R1).length) 0,(.slice none (([]:List R7).length) 0)] 2 zeroValue27 ?_;intro dm hy f1 e8 ac;refine go ?_;refine Xv ⟨_,_,rfl⟩ ?_;replace ab:=ab.gr e8;refine lW ((ab.atN).nth (q:=0) rfl)<|lV (.agg #[.string ae.1,.slice none (([]:List ByteArray).length) 0,.slice none (([]:List R5).length) 0,.slice none (([]:List R1).length) 0,(.slice none (([]:List R7).length) 0)]) (Wl (l:=[_,_,_,_,_]) (qs:=[(0,1),(1,1),(2,1),(3,1),(4,1)]) underlying27 zeroValue27 ⟨rfl,sizeOf9,rfl,sizeOf22,rfl,sizeOf23,rfl,sizeOf24,rfl,sizeOf25,trivial⟩ rfl)<|Xs (col:=f1) #[.string (⟨#[]⟩),.slice none (([]:List ByteArray).length) 0,.slice none (([]:List R5).length) 0,.slice none (([]:List R1).length) 0,(.slice none (([]:List R7).length) 0)] 3 zeroValue27 ?_;intro au hz h0 ec f2;refine Xa f2 ?_;intro h1 ed f3 dn;refine go ?_;refine Z9 dn<|Xv ⟨_,_,rfl⟩ ?_;replace ab:=(ab.gr ec).kp ed;refine lW ((ab.atN).nth (q:=1) rfl) ?_;obtain ⟨f4,hm⟩:=Z3 hm;replace eb:=eb.keep (Zh.start col w0);replace aa:=(((aa.grow f0).grow e8).grow ec).kp ed f3;refine Wk (c:=4) Zc.nil (eb.ks aa).srcC f4 ?_;intro e9 fa h2 f5 dp ee;refine Xv ⟨_,_,rfl⟩ ?_;replace dn:=dn.kpp dp;refine Zcx (off:=1) (v:=(.slice e9 ((([]:List ByteArray)++ae.2.1).length) fa)) dn sizeOf22 rfl rfl (by intro u hu;simp only [Value.cells,List.mem_cons,List.not_mem_nil,or_false] at hu;subst hu;rfl) rfl rfl ?_;intro f6 dq f7 ad;replace ad:Zk 27 3 f5 f6 au #[.string ae.1,.slice e9 ((([]:List ByteArray)++ae.2.1).length) fa,.slice none (([]:List R5).length) 0,.slice none (([]:List R1).length) 0,(.slice none (([]:List R7).length) 0)]:=ad;refine go ?_;replace ac:=(((ac.gr ec).kp ed).kpp dp).kp dq;replace ab:=(ab.kpp dp).kp dq;replace aa:=(aa.kpp dp).kp dq f7;replace ee:=ee.kp dq
 refine Zu [1,2,3,1000000] (fun n f a2=>∃ ag dr ds dt cq cr ct bn du dv cu dw dx cv cw cb,cb=n∧Zd7 N ae cb dr cq bn cu cv cw=some r∧St w0 (Zg col) ag a2∧Zk 27 1 ag a2 ca #[.string ae.1,.slice b7 ae.2.1.length b5,.slice a9 ae.2.2.1.length bk,.slice ba ae.2.2.2.1.length bm,.slice b8 ae.2.2.2.2.length b6]∧Zk 27 2 ag a2 dm #[.string (⟨#[]⟩),.slice none (([]:List ByteArray).length) 0,.slice none (([]:List R5).length) 0,.slice none (([]:List R1).length) 0,(.slice none (([]:List R7).length) 0)]∧Zc Za.str 9 4 ag a2 ds dt cq∧Zc (Za.row 9 Za.str) 22 5 ag a2 cr ct bn∧Zc (Za.row 3 (Za.int .i64)) 40 6 ag a2 du dv cu∧Zc (Za.row 47 (Za.pair (Za.pair Za.bool (Za.row 79 (Za.int .u32))) (Za.row 79 (Za.int .u32)))) 56 7 ag a2 dw dx cv∧Zk 27 3 ag a2 au #[.string dr,.slice ds cq.length dt,.slice cr bn.length ct,.slice du cu.length dv,.slice dw cv.length dx]∧[4].map f=[.int .i64 cw]) N ⟨_,_,_,_,_,none,0,_,none,0,_,none,0,_,0,_,rfl,hm,aa,ab,ac,ee,Zc.nil,Zc.nil,Zc.nil,ad,rfl⟩ ?_;clear hm;intro n f a2 hI;obtain ⟨ag,dr,ds,dt,cq,cr,ct,bn,du,dv,cu,dw,dx,cv,cw,cb,hn,hm,aa,ab,ac,am,a3,an,ao,ad,hs⟩:=hI;subst hn;refine .lL [4] hs ?_;replace dj:=dj.keep (Zh.start col w0);replace dl:=dl.keep (Zh.start col w0);replace b9:=b9.keep (Zh.start col w0)
 cases cb with
 | zero=>rw [Zd7.eq_1] at hm;cases hm
 | succ cb=>
  rw [Zd7.eq_2] at hm;refine go ?_;refine Z9 ab ?_;refine go ?_;refine Zm hm (fun hb hm=>go ?_) fun hb hm=>go ?_
  ·refine Zwo (col:=ag) (pS [8]) [(0,1),(1,5),(2,1),(3,1),(4,0),(5,1),(6,1),(7,0),(8,4),(9,3),(10,2),(11,1),(12,2)] (by kernel_rfl) (by kernel_rfl)<|Sb (v:=(.pointer ((some (⟨au,0,none⟩:Addr)).map (·.add 2)))) rfl rfl (fun _=>Us (sz:=1) (off:=2) underlying27 rfl sizeOf23 (by decide) rfl rfl ⟨_,_,rfl⟩) ?_;refine xsD (v:=(.slice cr bn.length ct)) rfl rfl (fun _ hC=>Qy isAgg23 rfl (((ad.dk hC rfl rfl).atN).nth (q:=2) (v:=(.slice cr bn.length ct)) rfl)) ?_;refine Sb (v:=(.slice none (([]:List ByteArray).length) 0)) rfl rfl (fun _=>Uh rfl) ?_;refine Sb (v:=(.pointer ((some (⟨ca,0,none⟩:Addr)).map (·.add 2)))) rfl rfl (fun _=>Us (sz:=1) (off:=2) underlying27 rfl sizeOf23 (by decide) rfl rfl ⟨_,_,rfl⟩) ?_;refine Zmt (v:=(.slice a9 ae.2.2.1.length bk)) rfl rfl (fun _ hC=>Qy isAgg23 rfl (((ab.atN).nth (q:=2) (v:=(.slice a9 ae.2.2.1.length bk)) rfl).gr (hC.bl ag))) ?_;refine Sb (v:=(.int .i64 cw)) rfl rfl (fun _=>Uh rfl) ?_;obtain ⟨cc,dy,hm⟩:=bZ hm;refine Sb (v:=(Xz a9 (Int.toNat cw * 1))) rfl rfl (fun _=>Wt underlying23 sizeOf22 rfl rfl (Xy dy).1 (Xy dy).2.1 ((dj.ks aa).addr dy)) ?_;obtain ⟨_,f8,f9⟩:=(dj.ks aa).atN dy;obtain ⟨⟨ga,gb,rfl,ef⟩,_⟩:=f8;refine Zmt (v:=(.slice ga cc.length gb)) rfl rfl (fun _ hC=>Qy isAgg22 rfl (f9.one.gr (hC.bl ag))) ?_;refine Zcl rfl rfl ?_;intro gc hC0;have hC:=hC0.bl ag;replace am:=am.gr hC;replace a3:=a3.gr hC;replace an:=an.gr hC;replace ao:=ao.gr hC;replace ef:=ef.gr hC;replace ab:=ab.gr hC;replace ac:=ac.gr hC;replace ad:=ad.gr hC;replace aa:=aa.grow hC;have eg:Zx (pS [8]) ag a2 ag gc:=hC.toP;obtain ⟨gd,hm⟩:=Z3 hm;refine Wk (c:=8) Zc.nil ef.srcC gd ?_;intro fb fc eh bv bb ei;replace am:=am.kpp bb;replace a3:=a3.kpp bb;replace an:=an.kpp bb;replace ao:=ao.kpp bb;replace ab:=ab.kpp bb;replace ac:=ac.kpp bb;replace ad:=ad.kpp bb;replace eg:=eg.trans (bb.mono (by first | exact Ztf rfl | exact pS_p1 rfl | exact pS_pS rfl));refine Zo ?_;refine ⟨fun w'=>Zf bv eh bv w',fun w'=>∃ c',Zx (pS [8]) bv eh c' w',Zf.refl _ _,fun _ h=>⟨_,h.toP⟩,fun h=>absurd h (by decide),fun _ _ ⟨c9,h⟩=>⟨c9,eg.trans h⟩,?_⟩;refine Zcl rfl rfl ?_;intro ge hC0;have hC:=hC0.bl bv;replace aa:=(aa.kpp bb).grow hC;replace am:=am.gr hC;replace a3:=a3.gr hC;replace an:=an.gr hC;replace ao:=ao.gr hC;replace ei:=ei.gr hC;replace ab:=ab.gr hC;replace ac:=ac.gr hC;replace ad:=ad.gr hC
   have ej:Zx (pS [8]) bv eh bv ge:=hC.toP;refine Zcy (col:=bv) (r:=(Za.row 9 Za.str)) (xs:=[([]:List ByteArray)++cc]) [.slice fb ((([]:List ByteArray)++cc).length) fc] 8 (Vj.cons1 (cs:=[.slice fb ((([]:List ByteArray)++cc).length) fc]) ei.has Rows.nil0) ?_;intro h3 fd cx a4 ek;replace ej:=ej.gr a4;refine Zo ?_;refine ⟨fun w'=>Zf cx fd cx w',fun w'=>∃ c',Zx (pS [8]) cx fd c' w',Zf.refl _ _,fun _ h=>⟨_,h.toP⟩,fun _ _ h=>Ul hC0 a4 h,fun _ _ ⟨c9,h⟩=>⟨c9,ej.trans h⟩,?_⟩;refine Zcl rfl rfl ?_;intro gf hC0;have hC:=hC0.bl cx;obtain ⟨fe,hm⟩:=Z3 hm;replace a3:=(a3.gr a4).gr hC;replace ek:=ek.gr hC;refine Zhz (col:=cx) (w:=gf) (r:=(Za.row 9 Za.str)) (c:=5) (c2:=8) (a3.ex) (ek.srcC (by decide)) rfl underlying23 Zzs rfl rfl rfl fe.1 fe.2 (by decide) ?_;intro ff fg fh bc bw el;refine Zo ?_;refine ⟨fun w'=>Zf bc fh bc w',fun w'=>∃ c',Zx (pS [8]) bc fh c' w',Zf.refl _ _,fun _ h=>⟨_,h.toP⟩,fun h=>absurd h (by decide),fun h=>absurd h (by decide),?_⟩;refine Sb (v:=(.pointer ((some (⟨au,0,none⟩:Addr)).map (·.add 2)))) rfl rfl (fun _=>Us (sz:=1) (off:=2) underlying27 rfl sizeOf23 (by decide) rfl rfl ⟨_,_,rfl⟩) ?_;refine Zcl rfl rfl ?_;intro h4 hC0;replace am:=((am.gr a4).gr hC).kpp bw;replace an:=((an.gr a4).gr hC).kpp bw;replace ao:=((ao.gr a4).gr hC).kpp bw;replace ab:=((ab.gr a4).gr hC).kpp bw;replace ac:=((ac.gr a4).gr hC).kpp bw;replace ad:=((ad.gr a4).gr hC).kpp bw;replace aa:=((aa.grow a4).grow hC).kpp bw;have hC:=hC0.bl bc;replace ad:=ad.gr hC;refine Zcx (off:=2) (v:=(.slice ff ((bn++[([]:List ByteArray)++cc]).length) fg)) ad sizeOf23 rfl rfl (by intro u hu;simp only [Value.cells,List.mem_cons,List.not_mem_nil,or_false] at hu;subst hu;rfl) rfl rfl ?_;intro em bx gg cy;replace cy:Zk 27 3 bc em au #[.string dr,.slice ds cq.length dt,.slice ff ((bn++[([]:List ByteArray)++cc]).length) fg,.slice du cu.length dv,.slice dw cv.length dx]:=cy;refine Zo ?_;refine ⟨fun w'=>Zf bc em bc w',fun w'=>∃ c',Zx (pS [8]) bc em c' w',Zf.refl _ _,fun _ h=>⟨_,h.toP⟩,fun h=>absurd h (by decide),fun h=>absurd h (by decide),?_⟩;replace el:=(el.gr hC).kp bx;have en:=el.new;refine Zwt ?_;replace am:=(am.gr hC).kp bx;replace an:=(an.gr hC).kp bx;replace ao:=(ao.gr hC).kp bx;replace ab:=(ab.gr hC).kp bx;replace ac:=(ac.gr hC).kp bx;replace aa:=(aa.grow hC).kp bx gg;intro h5 hC;replace hC:=hC.bl bc;refine go ?_
   replace am:=am.gr hC;replace en:=en.gr hC;replace an:=an.gr hC;replace ao:=ao.gr hC;replace ab:=ab.gr hC;replace ac:=ac.gr hC;replace cy:=cy.gr hC;replace aa:=aa.grow hC;exact ⟨cb,by omega,rfl,⟨_,_,_,_,_,_,_,_,_,_,_,_,_,_,_,_,rfl,hm,aa,ab,ac,am,en,an,ao,cy,rfl⟩⟩
  refine Zu [1,2,3,1000000] (fun n f a5=>∃ ah dz d0 d1 cz d2 d3 c0 c5 c6 bo d4 d5 c7 c8 cd,cd=n∧Zd8 N ae cd dz cz c0 bo c7 c8=some r∧St w0 (Zg col) ah a5∧Zk 27 1 ah a5 ca #[.string ae.1,.slice b7 ae.2.1.length b5,.slice a9 ae.2.2.1.length bk,.slice ba ae.2.2.2.1.length bm,.slice b8 ae.2.2.2.2.length b6]∧Zk 27 2 ah a5 dm #[.string (⟨#[]⟩),.slice none (([]:List ByteArray).length) 0,.slice none (([]:List R5).length) 0,.slice none (([]:List R1).length) 0,(.slice none (([]:List R7).length) 0)]∧Zc Za.str 9 4 ah a5 d0 d1 cz∧Zc (Za.row 9 Za.str) 22 5 ah a5 d2 d3 c0∧Zc (Za.row 3 (Za.int .i64)) 40 6 ah a5 c5 c6 bo∧Zc (Za.row 47 (Za.pair (Za.pair Za.bool (Za.row 79 (Za.int .u32))) (Za.row 79 (Za.int .u32)))) 56 7 ah a5 d4 d5 c7∧Zk 27 3 ah a5 au #[.string dz,.slice d0 cz.length d1,.slice d2 c0.length d3,.slice c5 bo.length c6,.slice d4 c7.length d5]∧[6].map f=[.int .i64 c8]) N ⟨_,_,_,_,_,_,_,_,_,_,_,_,_,_,0,_,rfl,hm,aa,ab,ac,am,a3,an,ao,ad,rfl⟩ ?_;clear hm;intro n f a5 hI;obtain ⟨ah,dz,d0,d1,cz,d2,d3,c0,c5,c6,bo,d4,d5,c7,c8,cd,hn,hm,aa,ab,ac,ap,aq,a6,ar,ad,hs⟩:=hI;subst hn;refine .lL [6] hs ?_
  cases cd with
  | zero=>rw [Zd8.eq_1] at hm;cases hm
  | succ cd=>
   rw [Zd8.eq_2] at hm;refine go ?_;refine Z9 ab ?_;refine go ?_;refine Zm hm (fun hb hm=>go ?_) fun hb hm=>go ?_
   ·refine Zwo (col:=ah) (pS [9]) [(0,1),(1,5),(2,1),(3,1),(4,0),(5,1),(6,1),(7,0),(8,4),(9,3),(10,2),(11,1),(12,2)] (by kernel_rfl) (by kernel_rfl)<|Sb (v:=(.pointer ((some (⟨au,0,none⟩:Addr)).map (·.add 3)))) rfl rfl (fun _=>Us (sz:=1) (off:=3) underlying27 rfl sizeOf24 (by decide) rfl rfl ⟨_,_,rfl⟩) ?_;refine xsD (v:=(.slice c5 bo.length c6)) rfl rfl (fun _ hC=>Qy isAgg24 rfl (((ad.dk hC rfl rfl).atN).nth (q:=3) (v:=(.slice c5 bo.length c6)) rfl)) ?_;refine Sb (v:=(.slice none (([]:List Int).length) 0)) rfl rfl (fun _=>Uh rfl) ?_;refine Sb (v:=(.pointer ((some (⟨ca,0,none⟩:Addr)).map (·.add 3)))) rfl rfl (fun _=>Us (sz:=1) (off:=3) underlying27 rfl sizeOf24 (by decide) rfl rfl ⟨_,_,rfl⟩) ?_;refine Zmt (v:=(.slice ba ae.2.2.2.1.length bm)) rfl rfl (fun _ hC=>Qy isAgg24 rfl (((ab.atN).nth (q:=3) (v:=(.slice ba ae.2.2.2.1.length bm)) rfl).gr (hC.bl ah))) ?_;refine Sb (v:=(.int .i64 c8)) rfl rfl (fun _=>Uh rfl) ?_;obtain ⟨ce,d6,hm⟩:=bZ hm;refine Sb (v:=(Xz ba (Int.toNat c8 * 1))) rfl rfl (fun _=>Wt underlying24 sizeOf40 rfl rfl (Xy d6).1 (Xy d6).2.1 ((dl.ks aa).addr d6)) ?_;obtain ⟨_,gh,gi⟩:=(dl.ks aa).atN d6;obtain ⟨⟨gj,gk,rfl,eo⟩,_⟩:=gh;refine Zmt (v:=(.slice gj ce.length gk)) rfl rfl (fun _ hC=>Qy isAgg40 rfl (gi.one.gr (hC.bl ah))) ?_;refine Zcl rfl rfl ?_;intro gl hC0;have hC:=hC0.bl ah;replace ap:=ap.gr hC;replace aq:=aq.gr hC;replace a6:=a6.gr hC;replace ar:=ar.gr hC;replace eo:=eo.gr hC;replace ab:=ab.gr hC;replace ac:=ac.gr hC;replace ad:=ad.gr hC;replace aa:=aa.grow hC;have ep:Zx (pS [9]) ah a5 ah gl:=hC.toP;obtain ⟨gm,hm⟩:=Z3 hm;refine Wk (c:=9) Zc.nil eo.srcC gm ?_;intro fi fj eq bz bd er;replace ap:=ap.kpp bd;replace aq:=aq.kpp bd;replace a6:=a6.kpp bd;replace ar:=ar.kpp bd;replace ab:=ab.kpp bd;replace ac:=ac.kpp bd;replace ad:=ad.kpp bd;replace ep:=ep.trans (bd.mono (by first | exact Ztf rfl | exact pS_p1 rfl | exact pS_pS rfl));refine Zo ?_;refine ⟨fun w'=>Zf bz eq bz w',fun w'=>∃ c',Zx (pS [9]) bz eq c' w',Zf.refl _ _,fun _ h=>⟨_,h.toP⟩,fun h=>absurd h (by decide),fun _ _ ⟨c9,h⟩=>⟨c9,ep.trans h⟩,?_⟩;refine Zcl rfl rfl ?_;intro gp hC0;have hC:=hC0.bl bz;replace aa:=(aa.kpp bd).grow hC;replace ap:=ap.gr hC;replace aq:=aq.gr hC;replace a6:=a6.gr hC;replace ar:=ar.gr hC;replace er:=er.gr hC;replace ab:=ab.gr hC;replace ac:=ac.gr hC
    replace ad:=ad.gr hC;have es:Zx (pS [9]) bz eq bz gp:=hC.toP;refine Zcy (col:=bz) (r:=(Za.row 3 (Za.int .i64))) (xs:=[([]:List Int)++ce]) [.slice fi ((([]:List Int)++ce).length) fj] 9 (Vj.cons1 (cs:=[.slice fi ((([]:List Int)++ce).length) fj]) er.has Rows.nil0) ?_;intro h6 fk da a7 et;replace es:=es.gr a7;refine Zo ?_;refine ⟨fun w'=>Zf da fk da w',fun w'=>∃ c',Zx (pS [9]) da fk c' w',Zf.refl _ _,fun _ h=>⟨_,h.toP⟩,fun _ _ h=>Ul hC0 a7 h,fun _ _ ⟨c9,h⟩=>⟨c9,es.trans h⟩,?_⟩;refine Zcl rfl rfl ?_;intro gs hC0;have hC:=hC0.bl da;obtain ⟨fl,hm⟩:=Z3 hm;replace a6:=(a6.gr a7).gr hC;replace et:=et.gr hC;refine Zhz (col:=da) (w:=gs) (r:=(Za.row 3 (Za.int .i64))) (c:=6) (c2:=9) (a6.ex) (et.srcC (by decide)) rfl underlying24 Zzx rfl rfl rfl fl.1 fl.2 (by decide) ?_;intro fm fn fp be b0 eu;refine Zo ?_;refine ⟨fun w'=>Zf be fp be w',fun w'=>∃ c',Zx (pS [9]) be fp c' w',Zf.refl _ _,fun _ h=>⟨_,h.toP⟩,fun h=>absurd h (by decide),fun h=>absurd h (by decide),?_⟩;refine Sb (v:=(.pointer ((some (⟨au,0,none⟩:Addr)).map (·.add 3)))) rfl rfl (fun _=>Us (sz:=1) (off:=3) underlying27 rfl sizeOf24 (by decide) rfl rfl ⟨_,_,rfl⟩) ?_;refine Zcl rfl rfl ?_;intro h7 hC0;replace ap:=((ap.gr a7).gr hC).kpp b0;replace aq:=((aq.gr a7).gr hC).kpp b0;replace ar:=((ar.gr a7).gr hC).kpp b0;replace ab:=((ab.gr a7).gr hC).kpp b0;replace ac:=((ac.gr a7).gr hC).kpp b0;replace ad:=((ad.gr a7).gr hC).kpp b0;replace aa:=((aa.grow a7).grow hC).kpp b0;have hC:=hC0.bl be;replace ad:=ad.gr hC;refine Zcx (off:=3) (v:=(.slice fm ((bo++[([]:List Int)++ce]).length) fn)) ad sizeOf24 rfl rfl (by intro u hu;simp only [Value.cells,List.mem_cons,List.not_mem_nil,or_false] at hu;subst hu;rfl) rfl rfl ?_;intro ew b1 gt db;replace db:Zk 27 3 be ew au #[.string dz,.slice d0 cz.length d1,.slice d2 c0.length d3,.slice fm ((bo++[([]:List Int)++ce]).length) fn,.slice d4 c7.length d5]:=db;refine Zo ?_;refine ⟨fun w'=>Zf be ew be w',fun w'=>∃ c',Zx (pS [9]) be ew c' w',Zf.refl _ _,fun _ h=>⟨_,h.toP⟩,fun h=>absurd h (by decide),fun h=>absurd h (by decide),?_⟩;replace eu:=(eu.gr hC).kp b1;have ey:=eu.new;refine Zwt ?_;replace ap:=(ap.gr hC).kp b1;replace aq:=(aq.gr hC).kp b1;replace ar:=(ar.gr hC).kp b1;replace ab:=(ab.gr hC).kp b1
    replace ac:=(ac.gr hC).kp b1;replace aa:=(aa.grow hC).kp b1 gt;intro h8 hC;replace hC:=hC.bl be;refine go ?_;replace ap:=ap.gr hC;replace aq:=aq.gr hC;replace ey:=ey.gr hC;replace ar:=ar.gr hC;replace ab:=ab.gr hC;replace ac:=ac.gr hC;replace db:=db.gr hC;replace aa:=aa.grow hC;exact ⟨cd,by omega,rfl,⟨_,_,_,_,_,_,_,_,_,_,_,_,_,_,_,_,rfl,hm,aa,ab,ac,ap,aq,ey,ar,db,rfl⟩⟩
   refine Zu [1,2,3,1000000] (fun n f bf=>∃ bg cf cg ch bp ci cj bq ck cl br dc dd bh d7 b2,b2=n∧Zay N ae b2 cf bp bq br bh d7=some r∧St w0 (Zg col) bg bf∧Zk 27 1 bg bf ca #[.string ae.1,.slice b7 ae.2.1.length b5,.slice a9 ae.2.2.1.length bk,.slice ba ae.2.2.2.1.length bm,.slice b8 ae.2.2.2.2.length b6]∧Zk 27 2 bg bf dm #[.string (⟨#[]⟩),.slice none (([]:List ByteArray).length) 0,.slice none (([]:List R5).length) 0,.slice none (([]:List R1).length) 0,(.slice none (([]:List R7).length) 0)]∧Zc Za.str 9 4 bg bf cg ch bp∧Zc (Za.row 9 Za.str) 22 5 bg bf ci cj bq∧Zc (Za.row 3 (Za.int .i64)) 40 6 bg bf ck cl br∧Zc (Za.row 47 (Za.pair (Za.pair Za.bool (Za.row 79 (Za.int .u32))) (Za.row 79 (Za.int .u32)))) 56 7 bg bf dc dd bh∧Zk 27 3 bg bf au #[.string cf,.slice cg bp.length ch,.slice ci bq.length cj,.slice ck br.length cl,.slice dc bh.length dd]∧[8].map f=[.int .i64 d7]) N ⟨_,_,_,_,_,_,_,_,_,_,_,_,_,_,0,_,rfl,hm,aa,ab,ac,ap,aq,a6,ar,ad,rfl⟩ ?_;clear hm;intro n f bf hI;obtain ⟨bg,cf,cg,ch,bp,ci,cj,bq,ck,cl,br,dc,dd,bh,d7,b2,hn,hm,aa,ab,ac,ai,aj,ak,al,ad,hs⟩:=hI;subst hn;refine .lL [8] hs ?_
   cases b2 with
   | zero=>rw [Zay.eq_1] at hm;cases hm
   | succ b2=>
    rw [Zay.eq_2] at hm;refine go ?_;refine Z9 ab ?_;refine go ?_;refine Zm hm (fun hb hm=>go ?_) fun hb hm=>go ?_
    ·refine Zu [1,2,3,8,1000000] (fun n f a8=>∃ av ez de df bi cn,cn=n∧Zd9 N ae cf bp bq br bh d7 (Zay N ae b2) cn ez bi=some r∧St w0 (Zg col) av a8∧Zk 27 1 av a8 ca #[.string ae.1,.slice b7 ae.2.1.length b5,.slice a9 ae.2.2.1.length bk,.slice ba ae.2.2.2.1.length bm,.slice b8 ae.2.2.2.2.length b6]∧Zk 27 2 av a8 dm #[.string (⟨#[]⟩),.slice none (([]:List ByteArray).length) 0,.slice none (([]:List R5).length) 0,.slice none (([]:List R1).length) 0,(.slice none (([]:List R7).length) 0)]∧Zc Za.str 9 4 av a8 cg ch bp∧Zc (Za.row 9 Za.str) 22 5 av a8 ci cj bq∧Zc (Za.row 3 (Za.int .i64)) 40 6 av a8 ck cl br∧Zc (Za.row 47 (Za.pair (Za.pair Za.bool (Za.row 79 (Za.int .u32))) (Za.row 79 (Za.int .u32)))) 56 7 av a8 dc dd bh∧Zk 27 3 av a8 au #[.string cf,.slice cg bp.length ch,.slice ci bq.length cj,.slice ck br.length cl,.slice dc bh.length dd]∧Zc (Za.pair (Za.pair Za.bool (Za.row 79 (Za.int .u32))) (Za.row 79 (Za.int .u32))) 47 10 av a8 de df bi∧[10,9].map f=[.int .i64 ez,.slice de bi.length df]) N ⟨_,0,none,0,_,_,rfl,hm,aa,ab,ac,ai,aj,ak,al,ad,Zc.nil,rfl⟩ ?_;clear hm;intro n f a8 hI;obtain ⟨av,ez,de,df,bi,cn,hn,hm,aa,ab,ac,ai,aj,ak,al,ad,bs,hs⟩:=hI;subst hn;refine .lL [10,9] hs ?_
     cases cn with
     | zero=>rw [Zd9.eq_1] at hm;cases hm
     | succ cn=>
      rw [Zd9.eq_2] at hm;refine go ?_;refine Z9 ab<|Xn rfl ?_;obtain ⟨h9,co,hm⟩:=bZ hm;refine lI co ((b9.ks aa).addr co) ?_;obtain ⟨_,gu,gv⟩:=(b9.ks aa).atN co;obtain ⟨⟨ia,ib,rfl,ic⟩,_⟩:=gu;refine lW gv.one<|go ?_;refine Zm hm (fun hb hm=>go ?_) fun hb hm=>go ?_
      ·refine Z9 ab<|Xn rfl<|lI co ((b9.ks aa).addr co) ?_;obtain ⟨_,gw,gx⟩:=(b9.ks aa).atN co;obtain ⟨⟨id,ie,rfl,fq⟩,_⟩:=gw;refine lW gx.one<|Xn rfl ?_;obtain ⟨af,e0,hm⟩:=bZ hm;refine lI e0 (fq.addr e0) ?_;obtain ⟨_,gy,gz⟩:=fq.atN e0;obtain ⟨_,_,rfl,g0,g1⟩:=W8 gy;obtain ⟨_,_,rfl,g2,g3⟩:=W8 g0;obtain ⟨rfl,_⟩:=g2;obtain ⟨⟨g4,g5,rfl,e1⟩,_⟩:=g3;obtain ⟨⟨fr,ft,rfl,e2⟩,_⟩:=g1;refine lV (.agg #[.bool af.1.1,.slice g4 af.1.2.length g5,.slice fr af.2.length ft]) (Y1 isAgg47 sizeOf47 rfl rfl gz)<|Xs (col:=av) #[.bool false,.slice none (([]:List Int).length) 0,.slice none (([]:List Int).length) 0] 11 zeroValue47 ?_;intro fu ig ih aw g6;refine Xa g6 ?_;intro ii ax g7 d8;refine go ?_;refine Xv ⟨_,_,rfl⟩ ?_;refine Xv (Zhi ⟨_,_,rfl⟩) ?_;refine lW ((((d8.atN).part 0 2 _ rfl)).nth (q:=1) rfl) ?_;obtain ⟨g8,hm⟩:=Z3 hm;replace e1:=(e1.gr aw).kp ax;refine Wk (c:=12) Zc.nil e1.srcC g8 ?_;intro dg dh ij g9 ay e3;refine Xv ⟨_,_,rfl⟩ ?_;refine Xv (Zhi ⟨_,_,rfl⟩) ?_;replace d8:=d8.kpp ay;refine Zcx (off:=1) (v:=(.slice dg ((([]:List Int)++af.1.2).length) dh)) d8 sizeOf43 rfl rfl (by intro u hu;simp only [Value.cells,List.mem_cons,List.not_mem_nil,or_false] at hu;subst hu;rfl) rfl rfl ?_;intro ha az hc cp;replace cp:Zk 47 11 g9 ha fu #[.bool af.1.1,.slice dg ((([]:List Int)++af.1.2).length) dh,.slice fr af.2.length ft]:=cp;refine go ?_;refine Z9 cp ?_;obtain ⟨hd,hm⟩:=Z3 hm;replace e2:=(((e2.gr aw).kp ax).kpp ay).kp az;refine Wk (c:=13) Zc.nil e2.srcC hd ?_;intro d9 ea ik fv a0 e4;refine Xv ⟨_,_,rfl⟩ ?_;replace cp:=cp.kpp a0;refine Zcx (off:=2) (v:=(.slice d9 ((([]:List Int)++af.2).length) ea)) cp sizeOf43 rfl rfl (by intro u hu;simp only [Value.cells,List.mem_cons,List.not_mem_nil,or_false] at hu;subst hu;rfl) rfl rfl ?_;intro he a1 hf e5;replace e5:Zk 47 11 fv he fu #[.bool af.1.1,.slice dg ((([]:List Int)++af.1.2).length) dh,.slice d9 ((([]:List Int)++af.2).length) ea]:=e5;refine go ?_;refine lV _ (Xd isAgg47 sizeOf47 e5) ?_;replace e3:=((e3.kp az).kpp a0).kp a1;replace e4:=e4.kp a1;have hg:=Wj.join (Wj.joinL (Zui af.1.1) e3.has) e4.has (by decide) (by decide)
       replace ai:=(((((ai.gr aw).kp ax).kpp ay).kp az).kpp a0).kp a1;replace ai:=ai.recol 13 12 (by decide);replace aj:=(((((aj.gr aw).kp ax).kpp ay).kp az).kpp a0).kp a1;replace aj:=aj.recol 13 12 (by decide);replace ak:=(((((ak.gr aw).kp ax).kpp ay).kp az).kpp a0).kp a1;replace ak:=ak.recol 13 12 (by decide);replace al:=(((((al.gr aw).kp ax).kpp ay).kp az).kpp a0).kp a1;replace al:=al.recol 13 12 (by decide);replace bs:=(((((bs.gr aw).kp ax).kpp ay).kp az).kpp a0).kp a1;replace bs:=bs.recol 13 12 (by decide);replace ab:=(((((ab.gr aw).kp ax).kpp ay).kp az).kpp a0).kp a1;replace ab:=ab.recol 13 12 (by decide);replace ac:=(((((ac.gr aw).kp ax).kpp ay).kp az).kpp a0).kp a1;replace ac:=ac.recol 13 12 (by decide);replace ad:=(((((ad.gr aw).kp ax).kpp ay).kp az).kpp a0).kp a1;replace ad:=ad.recol 13 12 (by decide);replace aa:=(((((aa.grow aw).kp ax g7).kpp ay).kp az hc).kpp a0).kp a1 hf;replace aa:=aa.recol 13 12 (by decide) (by decide);refine Zcy (col:=(X0 13 12 fv)) (r:=(Za.pair (Za.pair Za.bool (Za.row 79 (Za.int .u32))) (Za.row 79 (Za.int .u32)))) (xs:=[((af.1.1,([]:List Int)++af.1.2),([]:List Int)++af.2)]) [(.agg #[.bool af.1.1,.slice dg ((([]:List Int)++af.1.2).length) dh,.slice d9 ((([]:List Int)++af.2).length) ea])] 12 (Vj.cons1 (cs:=[.bool af.1.1,.slice dg ((([]:List Int)++af.1.2).length) dh,.slice d9 ((([]:List Int)++af.2).length) ea]) hg Rows.nil0) ?_;intro il im io bj hh;obtain ⟨hi,hm⟩:=Z3 hm;replace bs:=bs.gr bj;refine Wk (c:=10) (c2:=12) bs (hh.srcC (by decide)) hi ?_;intro ip iq ir it bt hj;refine go ?_;replace ai:=(ai.gr bj).kpp bt;replace aj:=(aj.gr bj).kpp bt;replace ak:=(ak.gr bj).kpp bt;replace al:=(al.gr bj).kpp bt;replace ab:=(ab.gr bj).kpp bt;replace ac:=(ac.gr bj).kpp bt;replace ad:=(ad.gr bj).kpp bt;replace aa:=(aa.grow bj).kpp bt;exact ⟨cn,by omega,rfl,⟨_,_,_,_,_,_,rfl,hm,aa,ab,ac,ai,aj,ak,al,ad,hj,rfl⟩⟩
      refine Z9 ad<|Yi rfl<|Zcy (col:=av) (r:=(Za.row 47 (Za.pair (Za.pair Za.bool (Za.row 79 (Za.int .u32))) (Za.row 79 (Za.int .u32))))) (xs:=[bi]) [.slice de bi.length df] 10 (Vj.cons1 (cs:=[.slice de bi.length df]) bs.has Rows.nil0) ?_;intro iu hk hl bu ho;obtain ⟨fw,hm⟩:=Z3 hm;replace al:=al.gr bu;refine Zhz (col:=hl) (w:=hk) (r:=(Za.row 47 (Za.pair (Za.pair Za.bool (Za.row 79 (Za.int .u32))) (Za.row 79 (Za.int .u32))))) (c:=7) (c2:=10) (al.ex) (ho.srcC (by decide)) rfl underlying25 Zzz rfl rfl rfl fw.1 fw.2 (by decide) ?_;intro fx fy iv hp b3 e6;refine Xv ⟨_,_,rfl⟩ ?_;replace ad:=(ad.gr bu).kpp b3;refine Zcx (off:=4) (v:=(.slice fx ((bh++[bi]).length) fy)) ad sizeOf25 rfl rfl (by intro u hu;simp only [Value.cells,List.mem_cons,List.not_mem_nil,or_false] at hu;subst hu;rfl) rfl rfl ?_;intro hq b4 hr e7;replace e7:Zk 27 3 hp hq au #[.string cf,.slice cg bp.length ch,.slice ci bq.length cj,.slice ck br.length cl,.slice fx ((bh++[bi]).length) fy]:=e7;replace e6:=e6.kp b4;have ht:=e6.new;refine go ?_;replace ai:=((ai.gr bu).kpp b3).kp b4;replace aj:=((aj.gr bu).kpp b3).kp b4;replace ak:=((ak.gr bu).kpp b3).kp b4;replace ab:=((ab.gr bu).kpp b3).kp b4;replace ac:=((ac.gr bu).kpp b3).kp b4;replace aa:=((aa.grow bu).kpp b3).kp b4 hr;exact ⟨b2,by omega,rfl,⟨_,_,_,_,_,_,_,_,_,_,_,_,_,_,_,_,rfl,hm,aa,ab,ac,ai,aj,ak,ht,e7,rfl⟩⟩
    refine lV _ (Xd isAgg27 sizeOf27 ad)<|Xa ac ?_;intro iw di hv hw;refine go ?_;cases hm;replace ai:=ai.kp di;replace aj:=aj.kp di;replace ak:=ak.kp di;replace al:=al.kp di;replace aa:=aa.kp di hv;exact ⟨rfl,_,ra hw.atN,_,_,_,_,_,_,_,_,_,rfl,aa.fin (cm [(4,c1),(5,c2),(6,c3),(7,c4)]),aa.fo ai,aa.fo aj,aa.fo ak,aa.fo al⟩
def Zdw (N:Nat) (ab:List ByteArray) (ac:List ByteArray):Nat→Int→Option Bool
  | 0,_=>none
  | ad+1,aa=>if (decide (aa<(ab.length:Int)))=true then ((Zl ab aa).bind fun ae=>(Zl ac aa).bind fun af=>if (!decide (ae=af))=true then (some false) else ((Zdw N ab ac ad) (i64.wrap (aa+1)))) else (some true)
termination_by structural x=>x
def Zgr (N:Nat) (aa:List ByteArray) (ab:List ByteArray):Option Bool:=
  if (!decide ((aa.length:Int)=(ab.length:Int)))=true then (some false) else (Zdw N aa ab N 0)
theorem Zp1 {N ai aj:Nat} {a0 a1:Option Addr} {col:Ze} {w0:World} {ad ae:R5} {r:Bool} (hm:Zgr N ad ae=some r) (h0:Sl Za.str col w0 a0 ai ad) (h1:Sl Za.str col w0 a1 aj ae):
    Calls prog 219 #[.slice a0 ad.length ai,.slice a1 ae.length aj] w0 (fun e w'=>e= .returned ((.bool r))∧Below w0.heap.size w0 w'):=by
 refine Z1 4 (m:=26) func219 rfl rfl rfl rfl rfl ?_;rw [Zgr.eq_1] at hm;have aa:=St.start col w0;refine go ?_;replace h0:=h0.keep (Zh.start col w0);replace h1:=h1.keep (Zh.start col w0);refine Zm hm (fun hb hm=>go ?_) fun hb hm=>go ?_
 ·cases hm;exact ⟨rfl,rfl,aa.below⟩
 refine Zu [0,1,1000000] (fun n f ak=>∃ ab af ac,ac=n∧Zdw N ad ae ac af=some r∧St w0 (Zg col) ab ak∧[5].map f=[.int .i64 af]) N ⟨_,0,_,rfl,hm,aa,rfl⟩ ?_;clear hm;intro n f ak hI;obtain ⟨ab,af,ac,hn,hm,aa,hs⟩:=hI;subst hn;refine .lL [5] hs ?_
 cases ac with
 | zero=>rw [Zdw.eq_1] at hm;cases hm
 | succ ac=>
  rw [Zdw.eq_2] at hm;refine go ?_;refine Zm hm (fun hb hm=>go ?_) fun hb hm=>go ?_
  ·refine Ys (col:=ab) (by kernel_rfl) (by kernel_rfl)<|go ?_;obtain ⟨al,ag,hm⟩:=bZ hm;refine qI ag ((h0.ks aa).addr ag)<|qW (fun _ hC=>((h0.ks aa).gr (hC.bl ab)).atStr ag) ?_;refine go ?_;obtain ⟨am,ah,hm⟩:=bZ hm;refine qI ah ((h1.ks aa).addr ah)<|qW (fun _ hC=>((h1.ks aa).gr (hC.bl ab)).atStr ah) ?_;refine go ?_;refine X9 ?_;intro an hC;replace hC:=hC.bl ab;replace aa:=aa.grow hC;refine Zm hm (fun hb hm=>go ?_) fun hb hm=>go ?_
   ·cases hm;exact ⟨rfl,rfl,aa.below⟩
   exact ⟨ac,by omega,rfl,⟨_,_,_,rfl,hm,aa,rfl⟩⟩
  cases hm;exact ⟨rfl,rfl,aa.below⟩

end Go.Proofs.YtbmjpjhbankpoaaGreat
