/-
  Rows within rows: an element is taken out and put back; what is owned goes over into a row; a row and what was appended behind it. Over any program.
-/
import Derived.Test.YtdpdogdkolblnaaGreatDoorQueryAskBOwnOps
namespace Go.Proofs.YtdpdogdkolblnaaGreatDoor
open Go Go.RowKit
open Go.IntKind (i8 i16 i32 i64 u8 u16 u32 u64)

section
variable {α:Type} {r:Za α} {e c d c2 i:Nat} {col col':Zd} {w w':World} {a a':Option Addr} {cap cap' n:Nat} {xs ys zs:List α} {bs b1 b2 b3:List Nat} {cs:List Value} {x:α}

theorem Ul:Xo c col (b1++b2)↔Xo c col b1∧Xo c col b2∧∀ b ∈ b1,b ∉ b2:=by
 unfold Xo
 rw [List.nodup_append]
 constructor
 ·rintro ⟨⟨h1,h2,h3⟩,h4⟩
  exact ⟨⟨h1,fun b hb=>h4 b (by simp [hb])⟩,⟨h2,fun b hb=>h4 b (by simp [hb])⟩,fun b hb hb'=>h3 b hb b hb' rfl⟩
 ·rintro ⟨⟨h1,h4⟩,⟨h2,h5⟩,h3⟩
  exact ⟨⟨h1,h2,fun b hb b' hb' e=>h3 b hb (by rw [e];exact hb')⟩,fun b hb=>(List.mem_append.1 hb).elim (h4 b) (h5 b)⟩
theorem Zk1 (h1:Xo c col b1) (h2:Xo d col b2) (hne:c≠d):∀ b ∈ b1,b ∉ b2:=fun b hb hb'=>hne (by rw [← h1.2 b hb,h2.2 b hb'])
theorem Xo.rc (h:Xo c col bs) (hi:c≠d):Xo c (Xh d i col) bs:=⟨h.1,fun b hb=>by rw [Zcy (by rw [h.2 b hb];exact hi),h.2 b hb]⟩
theorem Xo.rcS (h:Xo d col bs):Xo c (Xh d c col) bs:=⟨h.1,fun b hb=>Zln (h.2 b hb)⟩
theorem Xo.perm (h:Xo c col bs) (hp:bs.Perm b1):Xo c col b1:=⟨hp.nodup_iff.1 h.1,fun b hb=>h.2 b (hp.mem_iff.2 hb)⟩

/-! ### parts of a struct -/
section
variable {β:Type} {s:Za β} {c1 cs2:List Value} {y:β}
theorem Xc.joinR (h:Xc r c col w c1 x) (k:s.rd col w cs2 y []):Xc (Za.pair r s) c col w (c1++cs2) (x,y):=by
 obtain ⟨bs,h1,h2⟩:=h
 exact ⟨bs,⟨c1,cs2,bs,[],rfl,by simp,h1,k⟩,h2⟩
theorem Xc.joinL (h:r.rd col w c1 x []) (k:Xc s c col w cs2 y):Xc (Za.pair r s) c col w (c1++cs2) (x,y):=by
 obtain ⟨bs,h1,h2⟩:=k
 exact ⟨bs,⟨c1,cs2,[],bs,rfl,rfl,h,h1⟩,h2⟩
theorem Xc.join (h:Xc r c col w c1 x) (k:Xc s d col w cs2 y) (hne:c≠d) (hd:d≠0):Xc (Za.pair r s) c (Xh d c col) w (c1++cs2) (x,y):=by
 obtain ⟨b1,h1,h2⟩:=h
 obtain ⟨b2,k1,k2⟩:=k
 exact ⟨b1++b2,⟨c1,cs2,b1,b2,rfl,rfl,r.keep h1 (Zl.recol d c hd) fun _ _=>rfl,s.keep k1 (Zl.recol d c hd) fun _ _=>rfl⟩,Ul.2 ⟨h2.rc hne,k2.rcS,Zk1 h2 k2 hne⟩⟩
theorem Xc.parts (h:Xc (Za.pair r s) c col w cs (x,y)):∃ c1 cs2,cs=c1++cs2∧Xc r c col w c1 x∧Xc s c col w cs2 y:=by
 obtain ⟨bs,⟨c1,cs2,b1,b2,rfl,rfl,h1,h2⟩,h3⟩:=h
 obtain ⟨m1,m2,_⟩:=Ul.1 h3
 exact ⟨c1,cs2,rfl,⟨b1,h1,m1⟩,⟨b2,h2,m2⟩⟩
end
theorem Xc.int {k:IntKind} {x:Int} (h:Xc (Za.int k) c col w cs x):cs=[.int k x]:=by obtain ⟨_,h,_⟩:=h;exact h.1
theorem Xc.bool {x:Bool} (h:Xc Za.bool c col w cs x):cs=[.bool x]:=by obtain ⟨_,h,_⟩:=h;exact h.1
theorem Xc.str {x:ByteArray} (h:Xc Za.str c col w cs x):cs=[.string x]:=by obtain ⟨_,h,_⟩:=h;exact h.1
theorem Xc.row (h:Xc (Za.row e r) c col w cs xs):∃ a cap,cs=[.slice a xs.length cap]∧Zc r e c col w a cap xs:=by obtain ⟨bs,⟨a,cap,h1,h2⟩,h3⟩:=h;exact ⟨a,cap,h1,bs,h2,h3⟩

/-! ### an element is taken out -/
def Wh (r:Za α) (e c:Nat) (col:Zd) (w:World) (a:Option Addr) (cap:Nat) (xs:List α) (j:Nat) (cs:List Value):Prop:=
 ∃ g b1 b3 fl1 fl3,w.ownsRow 0 e r.sz (.slice a xs.length cap) xs.length (fl1++cs++fl3)∧(Value.slice a xs.length cap).ownBlock=some g∧Rows r col w fl1 (xs.take j) b1∧Rows r col w fl3 (xs.drop (j+1)) b3∧cs.length=r.sz∧j<xs.length∧Xo c col (g :: (b1++b3))

theorem Wh.loc {j:Nat}:V8 i (fun col w=>Wh r e i col w a cap xs j cs):=by
 rintro col w col' w' ⟨g,b1,b3,fl1,fl3,h1,h2,h3,h4,h5,h6,h7⟩ _ hs hk
 have hlt:∀ b ∈ g :: (b1++b3),b<w.heap.size:=by
  intro b hb
  simp only [List.mem_cons,List.mem_append] at hb
  rcases hb with rfl | hb | hb
  ·exact (h1.lt _ h2).2
  ·exact h3.lt b hb
  ·exact h4.lt b hb
 refine ⟨g,b1,b3,fl1,fl3,⟨h1.1,?_⟩,h2,h3.keep hs fun b hb=>(hk b (hlt b (by simp [hb])) (h7.2 b (by simp [hb]))).2,h4.keep hs fun b hb=>(hk b (hlt b (by simp [hb])) (h7.2 b (by simp [hb]))).2,h5,h6,h7.loc hlt hk⟩
 rcases h1.2 with h | ⟨g',cp,cur,hv,hb,hhg,rest⟩
 ·exact .inl h
 ·rw [hv] at h2
  simp only [Value.ownBlock,Option.some.injEq] at h2
  subst h2
  exact .inr ⟨g',cp,cur,hv,hb,by rw [(hk g' (hlt g' (by simp)) (h7.2 g' (by simp))).2];exact hhg,rest⟩
theorem Wh.gr {j:Nat} (h:Wh r e i col w a cap xs j cs) (hg:Zg col w col' w'):Wh r e i col' w' a cap xs j cs:=Wh.loc.gr h hg
theorem Wh.kpp {j:Nat} {p:Nat→Bool} (h:Wh r e i col w a cap xs j cs) (hk:Zs p col w col' w') (h0:p 0=false:=by rfl) (hi:p i=false:=by rfl):Wh r e i col' w' a cap xs j cs:=Wh.loc.kpp h hk h0 hi
theorem Zc.open_ {j:Int} {x0:α} (d:Nat) (h:Zc r e c col w a cap xs) (hc:c≠0) (hj:Zq xs j=some x0):∃ cs col',Zs (p1 c) col w col' w∧Wh r e c col' w a cap xs j.toNat cs∧Xc r d col' w cs x0:=by
 obtain ⟨h0,h1,h2⟩:=Yb hj
 obtain ⟨bs,⟨fl,b0,h3,h4,rfl⟩,h5⟩:=h
 rcases h3.2 with ⟨_,hn⟩ | ⟨g,cp,cur,hv,_⟩
 ·omega
 ·simp only [Value.slice.injEq] at hv
  obtain ⟨rfl,_,rfl⟩:=hv
  have hlt:j.toNat<xs.length:=by omega
  obtain ⟨k1,k3,rfl,q1,q2⟩:=h4.split j.toNat
  have hdrop:xs.drop j.toNat=x0 :: xs.drop (j.toNat+1):=by
   rw [List.drop_eq_getElem_cons hlt]
   congr 1
   rw [List.getElem?_eq_getElem hlt] at h2;exact Option.some.inj h2
  rw [hdrop] at q2
  obtain ⟨cs,fl',k2,k4,q3,rfl,q4,q5⟩:=q2
  have hm:Xo c col (g :: (k1++(k2++k4))):=by simpa [Value.ownBlock] using h5
  obtain ⟨m0,m1,m01⟩:=Ul (b1:=[g]).1 (by simpa using hm)
  obtain ⟨m1,m2,m12⟩:=Ul.1 m1
  obtain ⟨m2,m3,m23⟩:=Ul.1 m2
  have hst:Zl col w (fun k=>if k ∈ k2 then d else col k) w:=fun k _ h0=>⟨by
   show (if k ∈ k2 then d else col k)=0
   rw [if_neg]
   ·exact h0
   ·intro hk;exact hc (by rw [← m2.2 k hk,h0]),rfl⟩
  have hfl:fl=fl.take (j.toNat * r.sz)++cs++fl':=by rw [List.append_assoc,← q3,List.take_append_drop]
  refine ⟨cs,fun k=>if k ∈ k2 then d else col k,⟨Nat.le_refl _,fun k _ hp=>?_,fun _ _ _=>rfl,Xt.refl _⟩,
   ⟨g,k1,k4,fl.take (j.toNat * r.sz),fl',by rw [← hfl];exact h3,rfl,q1.keep hst fun _ _=>rfl,q5.keep hst fun _ _=>rfl,r.len q4,hlt,?_,fun b hb=>?_⟩,⟨k2,r.keep q4 hst fun _ _=>rfl,m2.1,fun b hb=>by simp [hb]⟩⟩
  ·show (if k ∈ k2 then d else col k)=col k
   rw [if_neg]
   intro hk;rw [m2.2 k hk,Zod] at hp;cases hp
  ·refine (Ul (b1:=[g]).2 ⟨m0,Ul.2 ⟨m1,m3,fun b hb hb'=>m12 b hb (by simp [hb'])⟩,fun b hb hb'=>m01 b hb ?_⟩).1
   simp only [List.mem_append] at hb' ⊢
   exact hb'.elim .inl fun h=>.inr (.inr h)
  ·show (if b ∈ k2 then d else col b)=c
   rw [if_neg]
   ·apply hm.2
    simp only [List.mem_cons,List.mem_append] at hb ⊢
    rcases hb with h | h | h <;> simp [h]
   ·intro hb2
    simp only [List.mem_cons,List.mem_append] at hb
    rcases hb with rfl | hb | hb
    ·exact m01 b (by simp) (by simp [hb2])
    ·exact m12 b hb (by simp [hb2])
    ·exact m23 b hb2 hb

theorem Wh.rowB {j:Nat} {b':List Nat} (h:Wh r e c col w a cap xs j cs) (hx:r.rd col w cs x b'):∃ g b1 b3,X6 r e col w a cap (xs.set j x) (g :: (b1++b'++b3))∧Xo c col (g :: (b1++b3)):=by
 obtain ⟨g,b1,b3,fl1,fl3,h1,h2,h3,h4,h5,h6,h7⟩:=h
 refine ⟨g,b1,b3,⟨fl1++cs++fl3,b1++b'++b3,by rw [List.length_set];exact h1,?_,by rw [List.length_set,h2];simp⟩,h7⟩
 have hset:xs.set j x=xs.take j++[x]++xs.drop (j+1):=by
  rw [List.set_eq_take_append_cons_drop,if_pos h6];simp
 rw [hset]
 have h5:Rows r col w cs [x] b':=⟨cs,[],b',[],by simp,by simp,hx,⟨rfl,rfl⟩⟩
 exact (h3.append h5).append h4
theorem Wh.close {j:Nat} (h:Wh r e c col w a cap xs j cs) (hx:Xc r d col w cs x) (hne:d≠c) (hd:d≠0):Zc r e c (Xh d c col) w a cap (xs.set j x):=by
 obtain ⟨b',k1,k2⟩:=hx
 obtain ⟨g,b1,b3,h1,h2⟩:=h.rowB k1
 refine ⟨_,h1.keep (Zl.recol d c hd) fun _ _=>rfl,Xo.perm (b1:=g :: (b1++b'++b3)) (bs:=(g :: (b1++b3))++b') (Ul.2 ⟨h2.rc (Ne.symm hne),k2.rcS,Zk1 h2 k2 (Ne.symm hne)⟩) ?_⟩
 rw [List.cons_append,List.append_assoc,List.append_assoc]
 exact (List.perm_cons _).2 ((List.perm_append_left_iff _).2 List.perm_append_comm)
theorem Wh.atN {j:Nat} (h:Wh r e c col w a cap xs j cs):Vg w (X5 a (j * r.sz)) cs:=by
 obtain ⟨g,b1,b3,fl1,fl3,h1,h2,h3,h4,h5,h6,h7⟩:=h
 rcases h1.2 with ⟨_,hn⟩ | ⟨g',cp,cur,hv,_⟩
 ·omega
 ·simp only [Value.slice.injEq] at hv
  obtain ⟨rfl,_,rfl⟩:=hv
  have hl:=h3.length
  rw [List.length_take,Nat.min_eq_left (by omega)] at hl
  refine ⟨g',0+j * r.sz,by simp [X5,Vc],fun q v hq=>?_⟩
  have hlt:=(List.getElem?_eq_some_iff.1 hq).1
  have:=h1.cells (g:=g') rfl (j * r.sz+q) v (by rw [List.append_assoc,List.getElem?_append_right (by omega),hl,Nat.add_sub_cancel_left,List.getElem?_append_left hlt];exact hq)
  rw [Vc] at this
  rw [Nat.add_assoc];exact this
theorem Wh.store {P:Program} {f:Fr} {T t:Nat} {p:String} {af:Array Edge} {px y:Operand} {v:Value} {sz j:Nat} (h:Wh r e c col w a cap xs j cs) (hc:c≠0)
  (hsz:r.sz=sz) (hs:∀ w,(sizeOf T).run P w= .ok sz w) (hv:v.cells.size=sz) (h1:∀ u ∈ v.cells.toList,u.oneCell'=true) (hx:ev f px=X5 a (j * sz)) (hy:ev f y=v):
  ∃ w',(execOp (ev f) ⟨none,.store T px y,t,p,af,none⟩).run P w= .ok .skip w'∧Xe c col w col w'∧Xt w w'∧Wh r e c col w' a cap xs j v.cells.toList:=by
 subst hsz
 obtain ⟨g,b1,b3,fl1,fl3,h1',h2,h3,h4,h5,h6,h7⟩:=h
 rcases h1'.2 with ⟨_,hn⟩ | ⟨g',cp,cur,hv',hb,hh,hle,hm,hcs,ht⟩
 ·omega
 ·simp only [Value.slice.injEq] at hv'
  obtain ⟨rfl,_,rfl⟩:=hv'
  have hgg:g=g':=by simpa [Value.ownBlock] using h2.symm
  subst hgg
  have hlv:v.cells.toList.length=r.sz:=by simpa using hv
  have hl:=h3.length
  rw [List.length_take,Nat.min_eq_left (by omega)] at hl
  have hmul:j * r.sz+r.sz≤xs.length * r.sz:=by
   have:=Nat.mul_le_mul_right r.sz (show j+1≤xs.length by omega)
   rw [Nat.add_mul] at this;omega
  have hmul2:xs.length * r.sz≤cap * r.sz:=Nat.mul_le_mul_right _ hle
  have hrun:=run_storeCells_at P g (j * r.sz) e v.cells.toList 0 cur w hh (by rw [hlv];omega) h1
  simp only [Nat.add_zero,hlv] at hrun
  have hne:∀ b,b ∈ b1++b3→b≠g:=fun b hb e'=>(List.nodup_cons.1 h7.1).1 (e' ▸ hb)
  have hk:Zl col w col (w.setRow g (cur.toList.take (j * r.sz)++v.cells.toList++cur.toList.drop (j * r.sz+r.sz)).toArray):=fun k _ hk=>⟨hk,setRow_other w g k _ (fun e'=>hc (by rw [← h7.2 g (by simp),← e',hk]))⟩
  refine ⟨w.setRow g (cur.toList.take (j * r.sz)++v.cells.toList++cur.toList.drop (j * r.sz+r.sz)).toArray,?_,⟨by simp [World.setRow],fun _ _=>rfl,fun k _ hk=>setRow_other w g k _ (fun e'=>hk (by rw [e'];exact h7.2 g (by simp)))⟩,⟨rfl,rfl,rfl⟩,
   g,b1,b3,fl1,fl3,⟨?_,.inr ⟨g,cap,_,rfl,Nat.zero_le _,setRow_heap w g cur _ e _ hh,hle,hm,?_,?_⟩⟩,rfl,h3.keep hk fun b hb=>setRow_other w g b _ (hne b (by simp [hb])),h4.keep hk fun b hb=>setRow_other w g b _ (hne b (by simp [hb])),hlv,h6,h7⟩
  ·simp only [execOp,hx,hy,X5,Option.map_some,Vc,Nat.zero_add,Instr.storeAt,Instr.sureAddr,storeVar]
   simp [hs,hv,hrun]
  ·have:=h1'.1
   simp only [List.length_append] at this ⊢;omega
  ·have hlen:cur.toList.length=cap * r.sz:=by simp [hcs]
   simp only [List.size_toArray,List.length_append,List.length_take,List.length_drop,hlen,hlv];omega
  ·have hlen:cur.toList.length=cap * r.sz:=by simp [hcs]
   have h8:cur.toList.take (j * r.sz)=fl1:=by
    have:=congrArg (List.take (j * r.sz)) ht
    rw [List.take_take,Nat.min_eq_left (by omega),List.append_assoc,List.take_left' hl] at this
    exact this
   have h9:(cur.toList.drop (j * r.sz+r.sz)).take (xs.length * r.sz - (j * r.sz+r.sz))=fl3:=by
    rw [← List.drop_take,ht,List.append_assoc,List.drop_append,List.drop_eq_nil_of_le (by omega),hl,List.drop_append,List.drop_eq_nil_of_le (by omega),h5]
    simp
   rw [h8,List.append_assoc,List.take_append,List.take_of_length_le (by omega),hl,List.take_append,List.take_of_length_le (by omega),hlv,show xs.length * r.sz - j * r.sz - r.sz=xs.length * r.sz - (j * r.sz+r.sz) by omega,h9]
   simp

/-! ### append:what is owned goes over;what was there stays -/
def Qa (r:Za α) (c c2:Nat) (col:Zd) (w:World) (a:Option Addr) (ys:List α):Prop:=∃ bs,Ziq r col w a ys bs∧Xo c2 col bs∧((bs=[]∧c=c2)∨c≠c2∧c2≠0)
theorem Sl.srcC (h:Sl r col w a cap ys):Qa r c c col w a ys:=⟨[],h.src,.nil,.inl ⟨rfl,rfl⟩⟩
theorem Zc.srcC (h:Zc r e c2 col w a cap ys) (hne:c≠c2∧c2≠0):Qa r c c2 col w a ys:=by
 obtain ⟨bs,h1,h2⟩:=h
 obtain ⟨b2,rfl,h3⟩:=h1.src
 exact ⟨b2,h3,(Ul.1 h2).2.1,.inr hne⟩

def Sg (r:Za α) (e c:Nat) (col:Zd) (w:World) (a:Option Addr) (n cap:Nat) (a':Option Addr) (cap':Nat) (ys:List α):Prop:=
 n≤ys.length∧((a'=a∧cap'=cap∧Zc r e c col w a cap ys)∨∃ bs bs',X6 r e col w a cap (ys.take n) bs∧X6 r e col w a' cap' ys bs'∧Xo c col bs∧Xo c col bs'∧∀ g ∈ (Value.slice a' ys.length cap').ownBlock.toList,g ∉ bs)

theorem Sg.loc:V8 i (fun col w=>Sg r e i col w a n cap a' cap' ys):=by
 rintro col w col' w' ⟨hn,h⟩ hsz hs hk
 refine ⟨hn,?_⟩
 rcases h with ⟨h1,h2,h3⟩ | ⟨bs,bs',h1,h2,h3,h4,h5⟩
 ·exact .inl ⟨h1,h2,Zc.loc h3 hsz hs hk⟩
 ·exact .inr ⟨bs,bs',h1.keep hs fun b hb=>(hk b (h1.lt b hb) (h3.2 b hb)).2,h2.keep hs fun b hb=>(hk b (h2.lt b hb) (h4.2 b hb)).2,h3.loc h1.lt hk,h4.loc h2.lt hk,h5⟩
theorem Zc.ext (h:Zc r e c col w a cap xs):Sg r e c col w a xs.length cap a cap xs:=⟨Nat.le_refl _,.inl ⟨rfl,rfl,h⟩⟩
theorem Sg.new (h:Sg r e c col w a n cap a' cap' ys):Zc r e c col w a' cap' ys:=by
 rcases h.2 with ⟨rfl,rfl,h3⟩ | ⟨bs,bs',_,h2,_,h4,_⟩
 ·exact h3
 ·exact ⟨bs',h2,h4⟩

theorem Sg.append {P:Program} {f:Fr} {T t:Nat} {dst:Option Nat} {p:String} {af:Array Edge} {x y:Operand} {a2:Option Addr} {cap2 sz bytes:Nat}
  (h:Sg r e c col w a n cap a' cap' ys) (hc:c≠0) (h2:Qa r c c2 col w a2 zs) (hT:P.underlying T=some (.slice e)) (he:Wa P e sz bytes) (hsz:r.sz=sz) (hx:ev f x= .slice a' ys.length cap') (hy:ev f y= .slice a2 zs.length cap2)
  (hb:(ys.length+zs.length) * bytes≤140737488355328) (hl:ys.length+zs.length≤maxLen):
  ∃ a1 cap1 w' col',(execOp (ev f) ⟨dst,.call { callee:=.builtin .append,args:=#[x,y],argTypes:=#[T,T] },t,p,af,none⟩).run P w= .ok (.value (.slice a1 (ys++zs).length cap1)) w'∧
   Zs (p2 c c2) col w col' w'∧Sg r e c col' w' a n cap a1 cap1 (ys++zs):=by
 obtain ⟨hn,h⟩:=h
 obtain ⟨bz,hz1,hz2,hz3⟩:=h2
 -- what was appended: a row (its blocks bs'); the old one, beside it
 obtain ⟨bs',h1,hm,hold⟩:∃ bs',X6 r e col w a' cap' ys bs'∧Xo c col bs'∧((a'=a∧cap'=cap)∨∃ bs,X6 r e col w a cap (ys.take n) bs∧Xo c col bs∧∀ g ∈ (Value.slice a' ys.length cap').ownBlock.toList,g ∉ bs):=by
  rcases h with ⟨q1,q2,bs',q3,q4⟩ | ⟨bs,bs',q1,q2,q3,q4,q5⟩
  ·exact ⟨bs',by rw [q1,q2];exact q3,q4,.inl ⟨q1,q2⟩⟩
  ·exact ⟨bs',q2,q4,.inr ⟨bs,q1,q3,q5⟩⟩
 have hdis:∀ b ∈ bs',b ∉ bz:=fun b hb=>by
  rcases hz3 with ⟨rfl,_⟩ | hz3
  ·simp
  ·exact Zk1 hm hz2 hz3.1 b hb
 have hc2:c2≠0:=by
  rcases hz3 with ⟨_,rfl⟩ | hz3
  ·exact hc
  ·exact hz3.2
 obtain ⟨a1,cap1,w',gs,b2,k1,rfl,hgs,k3,k4,k5,k6,k7⟩:=h1.append (P:=P) (t:=t) (dst:=dst) (p:=p) (af:=af) hm.1 (fun b hb=>by rw [hm.2 b hb];exact hc) hdis hz1 hT he hsz hx hy hb hl
 obtain ⟨mg,m2,mg2⟩:=Ul.1 hm
 have hlen:(ys++zs).take n=ys.take n:=List.take_append_of_le_length hn
 have hlen':n≤(ys++zs).length:=by rw [List.length_append];omega
 have hlt:∀ b ∈ b2++bz,b<w.heap.size:=fun b hb=>by
  rcases List.mem_append.1 hb with hb | hb
  ·exact h1.lt b (by simp [hb])
  ·rcases hz1 with ⟨_,rfl⟩ | ⟨_,_,_,_,hr,_⟩
   ·simp at hb
   ·exact hr.lt b hb
 have hself:∀ (col:Zd) k,col k=c→Xh c2 c col k=c:=fun col k hk=>by
  by_cases hcc:c=c2
  ·subst hcc;exact Zln hk
  ·rw [Zcy (by rw [hk];exact hcc)];exact hk
 have hzc:∀ col1:Zd,(∀ k,k<w.heap.size→col1 k=col k)→Xo c (Xh c2 c col1) (b2++bz):=fun col1 hcol=>by
  rw [Ul]
  refine ⟨⟨m2.1,fun b hb=>hself _ _ ?_⟩,⟨hz2.1,fun b hb=>Zln ?_⟩,fun b hb=>hdis b (by simp [hb])⟩
  ·rw [hcol b (hlt b (by simp [hb]))];exact m2.2 b hb
  ·rw [hcol b (hlt b (by simp [hb]))];exact hz2.2 b hb
 have hkeep:∀ col1:Zd,(∀ k,k<w.heap.size→col1 k=col k)→Zs (p2 c c2) col w (Xh c2 c col1) w':=fun col1 hcol=>
  ⟨k3,fun k hk hp=>by
   simp only [p2,Bool.or_eq_false_iff] at hp
   have h8:col k≠c2:=by intro he;rw [he] at hp;simp at hp
   rw [Zcy (by rw [hcol k hk];exact h8),hcol k hk],
  fun k hk hp=>k4 k hk fun hg=>by
   rw [mg.2 k hg] at hp;simp [p2] at hp,k5⟩
 have hold':∀ col1:Zd,(∀ k,k<w.heap.size→col1 k=col k)→∀ bs,X6 r e col w a cap (ys.take n) bs→Xo c col bs→(∀ g ∈ gs,g ∉ bs)→X6 r e (Xh c2 c col1) w' a cap (ys.take n) bs∧Xo c (Xh c2 c col1) bs:=fun col1 hcol bs q1 q2 q3=>by
  refine ⟨X6.keep (col':=Xh c2 c col1) (q1.keep (col':=col1) (w':=w') (fun k hk h0=>⟨(hcol k hk).trans h0,k4 k hk fun hg=>?_⟩) fun b hb=>k4 b (q1.lt b hb) fun hg=>q3 b hg hb) (Zl.recol c2 c hc2) fun _ _=>rfl,q2.1,fun b hb=>hself _ _ (by rw [hcol b (q1.lt b hb)];exact q2.2 b hb)⟩
  exact hc (by rw [← mg.2 k hg,h0])
 rcases k7 with ⟨rfl,rfl,k8⟩ | ⟨k8,k9,k10⟩
 ·-- in place
  refine ⟨_,_,w',Xh c2 c col,k1,hkeep col fun _ _=>rfl,hlen',?_⟩
  have hnew:X6 r e (Xh c2 c col) w' a1 cap1 (ys++zs) (gs++(b2++bz)):=k8.keep (Zl.recol c2 c hc2) fun _ _=>rfl
  have hmn:Xo c (Xh c2 c col) (gs++(b2++bz)):=Ul.2 ⟨⟨mg.1,fun b hb=>hself _ _ (mg.2 b hb)⟩,hzc col fun _ _=>rfl,fun b hb hb'=>by
   rcases List.mem_append.1 hb' with hb' | hb'
   ·exact mg2 b hb hb'
   ·exact hdis b (by simp [hb]) hb'⟩
  rcases hold with ⟨rfl,rfl⟩ | ⟨bs,q1,q2,q3⟩
  ·exact .inl ⟨rfl,rfl,_,hnew,hmn⟩
  ·obtain ⟨q4,q5⟩:=hold' col (fun _ _=>rfl) bs q1 q2 (by rw [hgs];exact q3)
   refine .inr ⟨bs,_,by rw [hlen];exact q4,hnew,q5,hmn,fun g hg=>q3 g ?_⟩
   rcases a1 with _ | _
   ·simp [Value.ownBlock] at hg
   ·simpa [Value.ownBlock] using hg
 ·-- in a new block
  have hp:∀ k,k<w.heap.size→Xw col w c k=col k:=fun k hk=>by simp [Xw,hk]
  refine ⟨_,_,w',Xh c2 c (Xw col w c),k1,hkeep _ hp,hlen',.inr ?_⟩
  have hnew:X6 r e (Xh c2 c (Xw col w c)) w' a1 cap1 (ys++zs) (w.heap.size :: (b2++bz)):=(k10 _ hp).keep (Zl.recol c2 c hc2) fun _ _=>rfl
  have hmn:Xo c (Xh c2 c (Xw col w c)) (w.heap.size :: (b2++bz)):=by
   refine (Ul (b1:=[w.heap.size])).2 ⟨⟨by simp,fun b hb=>hself _ _ ?_⟩,hzc _ hp,fun b hb hb'=>?_⟩
   ·simp only [List.mem_singleton] at hb;subst hb;simp [Xw]
   ·simp only [List.mem_singleton] at hb;subst hb;exact Nat.lt_irrefl _ (hlt _ hb')
  have hblk:∀ g ∈ (Value.slice a1 (ys++zs).length cap1).ownBlock.toList,g=w.heap.size:=by
   obtain ⟨_,_,_,_,h9⟩:=hnew
   intro g hg
   cases hq:(Value.slice a1 (ys++zs).length cap1).ownBlock with
   | none=>rw [hq] at hg;simp at hg
   | some g'=>
    rw [hq] at hg h9
    simp only [Option.toList_some,List.cons_append,List.nil_append,List.cons.injEq] at h9
    simp only [Option.toList_some,List.mem_singleton] at hg
    rw [hg,h9.1]
  rcases hold with ⟨rfl,rfl⟩ | ⟨bs,q1,q2,q3⟩
  ·obtain ⟨bs,s1,_,s2⟩:=h1.take n
   have s3:=hm.sub s1
   refine ⟨bs,_,?_,hnew,⟨s3.1,fun b hb=>hself _ _ (by rw [hp b (s2.lt b hb)];exact s3.2 b hb)⟩,hmn,fun g hg hb=>?_⟩
   ·rw [hlen]
    exact X6.keep (col':=Xh c2 c (Xw col w c)) (s2.keep (col':=Xw col w c) (w':=w') (fun k hk h0=>⟨(hp k hk).trans h0,k9 k hk⟩) fun b hb=>k9 b (s2.lt b hb)) (Zl.recol c2 c hc2) fun _ _=>rfl
   ·rw [hblk g hg] at hb;exact Nat.lt_irrefl _ (s2.lt _ hb)
  ·obtain ⟨q4,q5⟩:=hold' (Xw col w c) hp bs q1 q2 (by rw [hgs];exact q3)
   refine ⟨bs,_,by rw [hlen];exact q4,hnew,q5,hmn,fun g hg hb=>?_⟩
   rw [hblk g hg] at hb;exact Nat.lt_irrefl _ (q1.lt _ hb)

theorem Zc.appendM {P:Program} {f:Fr} {T t:Nat} {dst:Option Nat} {p:String} {af:Array Edge} {x y:Operand} {a2:Option Addr} {cap2 sz bytes:Nat}
  (h:Zc r e c col w a cap xs) (hc:c≠0) (h2:Qa r c c2 col w a2 zs) (hT:P.underlying T=some (.slice e)) (he:Wa P e sz bytes) (hsz:r.sz=sz) (hx:ev f x= .slice a xs.length cap) (hy:ev f y= .slice a2 zs.length cap2)
  (hb:(xs.length+zs.length) * bytes≤140737488355328) (hl:xs.length+zs.length≤maxLen):
  ∃ a1 cap1 w' col',(execOp (ev f) ⟨dst,.call { callee:=.builtin .append,args:=#[x,y],argTypes:=#[T,T] },t,p,af,none⟩).run P w= .ok (.value (.slice a1 (xs++zs).length cap1)) w'∧
   Zs (p2 c c2) col w col' w'∧Zc r e c col' w' a1 cap1 (xs++zs):=by
 obtain ⟨a1,cap1,w',col',h1,h3,h4⟩:=h.ext.append (t:=t) (dst:=dst) (p:=p) (af:=af) hc h2 hT he hsz hx hy hb hl
 exact ⟨a1,cap1,w',col',h1,h3,h4.new⟩

def Ex (r:Za α) (e c:Nat) (col:Zd) (w:World) (a:Option Addr) (cap:Nat) (xs:List α) (a':Option Addr) (cap':Nat) (ys:List α):Prop:=ys.take xs.length=xs∧Sg r e c col w a xs.length cap a' cap' ys
theorem Ex.loc:V8 i (fun col w=>Ex r e i col w a cap xs a' cap' ys):=fun ⟨h1,h2⟩ hs hk hh=>⟨h1,Sg.loc h2 hs hk hh⟩
theorem Ex.kp (h:Ex r e i col w a cap xs a' cap' ys) (hk:Xe c col w col' w') (hc:c≠0:=by decide) (hi:i≠c:=by decide):Ex r e i col' w' a cap xs a' cap' ys:=Ex.loc.kp h hk hc hi
theorem Ex.gr (h:Ex r e i col w a cap xs a' cap' ys) (hg:Zg col w col' w'):Ex r e i col' w' a cap xs a' cap' ys:=Ex.loc.gr h hg
theorem Zc.ex (h:Zc r e c col w a cap xs):Ex r e c col w a cap xs a cap xs:=⟨by simp,h.ext⟩
theorem Ex.new (h:Ex r e c col w a cap xs a' cap' ys):Zc r e c col w a' cap' ys:=h.2.new
theorem Ex.append {P:Program} {f:Fr} {T t:Nat} {dst:Option Nat} {p:String} {af:Array Edge} {x y:Operand} {a2:Option Addr} {cap2 sz bytes:Nat}
  (h:Ex r e c col w a cap xs a' cap' ys) (hc:c≠0) (h2:Qa r c c2 col w a2 zs) (hT:P.underlying T=some (.slice e)) (he:Wa P e sz bytes) (hsz:r.sz=sz) (hx:ev f x= .slice a' ys.length cap') (hy:ev f y= .slice a2 zs.length cap2)
  (hb:(ys.length+zs.length) * bytes≤140737488355328) (hl:ys.length+zs.length≤maxLen):
  ∃ a1 cap1 w' col',(execOp (ev f) ⟨dst,.call { callee:=.builtin .append,args:=#[x,y],argTypes:=#[T,T] },t,p,af,none⟩).run P w= .ok (.value (.slice a1 (ys++zs).length cap1)) w'∧
   Zs (p2 c c2) col w col' w'∧Ex r e c col' w' a cap xs a1 cap1 (ys++zs):=by
 obtain ⟨a1,cap1,w',col',h1,h3,h4⟩:=h.2.append (t:=t) (dst:=dst) (p:=p) (af:=af) hc h2 hT he hsz hx hy hb hl
 exact ⟨a1,cap1,w',col',h1,h3,by rw [List.take_append_of_le_length h.2.1];exact h.1,h4⟩

/-! readings of what stays,part by part -/
theorem W4 {β:Type} {s:Za β} {x:α} {y:β} (h:(Za.pair r s).rd col w cs (x,y) []):∃ c1 c2,cs=c1++c2∧r.rd col w c1 x []∧s.rd col w c2 y []:=by
 obtain ⟨c1,c2,b1,b2,h1,h2,h3,h4⟩:=h
 have:=congrArg List.length h2
 simp only [List.length_nil,List.length_append] at this
 obtain rfl:b1=[]:=List.eq_nil_of_length_eq_zero (by omega)
 obtain rfl:b2=[]:=List.eq_nil_of_length_eq_zero (by omega)
 exact ⟨c1,c2,h1,h3,h4⟩
theorem W5 {β:Type} {s:Za β} {c1 d1:List Value} {x:α} {y:β} (h:r.rd col w c1 x []) (k:s.rd col w d1 y []):(Za.pair r s).rd col w (c1++d1) (x,y) []:=⟨c1,d1,[],[],rfl,rfl,h,k⟩
theorem Z28:(Za.row e r).rd col w [.slice none 0 0] [] []:=⟨none,0,rfl,X6.nil⟩
theorem Wh.addr {j:Nat} (h:Wh r e c col w a cap xs j cs):∃ b o,a=some ⟨b,o,none⟩:=by
 obtain ⟨g,b1,b3,fl1,fl3,h1,h2,h3,h4,h5,h6,h7⟩:=h
 rcases h1.2 with ⟨_,hn⟩ | ⟨g',cp,cur,hv,_⟩
 ·omega
 ·simp only [Value.slice.injEq] at hv
  exact ⟨g',0,hv.1⟩
end
end Go.Proofs.YtdpdogdkolblnaaGreatDoor
