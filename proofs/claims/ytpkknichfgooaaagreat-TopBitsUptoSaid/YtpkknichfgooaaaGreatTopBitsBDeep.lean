/-
  Rows within rows: an element is taken out and put back; what is owned goes over into a row; a row and what was appended behind it. Over any program.
-/
import Derived.Test.YtpkknichfgooaaaGreatTopBitsBOwnOps
namespace Go.Proofs.YtpkknichfgooaaaGreat
open Go Go.RowKit
open List renaming mem_append→aY,mem_cons→bK,append_assoc→bB,length_set→eF,cons_append→cK,length_take→cC,length_append→bT,drop_append→fA,drop_eq_nil_of_le→aI,take_append→eD,take_of_length_le→bG,take_append_of_le_length→gH,mem_singleton→bD,eq_nil_of_length_eq_zero→cJ
open Nat renaming min_eq_left→aZ,mul_le_mul_right→aX,lt_irrefl→hY
open Option renaming toList_some→dQ
open Go.IntKind (i8 i16 i32 i64 u8 u16 u32 u64)

section
variable {α:Type} {r:Zc α} {e c d c2 i:Nat} {col col':Zg} {w w':World} {a a':Option Addr} {cap cap' n:Nat} {xs ys zs:List α} {bs b1 b2 b3:List Nat} {cs:List Value} {x:α}

theorem Sa:X8 c col (b1++b2)↔X8 c col b1∧X8 c col b2∧∀ b ∈ b1,b ∉ b2:=by
 unfold X8
 rw [List.nodup_append]
 constructor
 ·rintro ⟨⟨k,l,m⟩,j⟩
  exact ⟨⟨k,fun b f=>j b (by simp [f])⟩,⟨l,fun b f=>j b (by simp [f])⟩,fun b f g=>m b f b g rfl⟩
 ·rintro ⟨⟨k,j⟩,⟨l,o⟩,m⟩
  exact ⟨⟨k,l,fun b f p g e=>m b f (by rw [e];exact g)⟩,fun b f=>(aY.1 f).elim (j b) (o b)⟩
theorem Zpg (h1:X8 c col b1) (h2:X8 d col b2) (hne:c≠d):∀ b ∈ b1,b ∉ b2:=fun b g f=>hne (by rw [← h1.2 b g,h2.2 b f])
theorem X8.rc (h:X8 c col bs) (hi:c≠d):X8 c (Xq d i col) bs:=⟨h.1,fun b f=>by rw [Zg4 (by rw [h.2 b f];exact hi),h.2 b f]⟩
theorem X8.rcS (h:X8 d col bs):X8 c (Xq d c col) bs:=⟨h.1,fun b f=>Zp2 (h.2 b f)⟩
theorem X8.perm (h:X8 c col bs) (hp:bs.Perm b1):X8 c col b1:=⟨hp.nodup_iff.1 h.1,fun b f=>h.2 b (hp.mem_iff.2 f)⟩

/-! ### parts of a struct -/
section
variable {β:Type} {s:Zc β} {c1 cs2:List Value} {y:β}
theorem Ys.joinL (h:r.rd col w c1 x []) (k:Ys s c col w cs2 y):Ys (Zc.pair r s) c col w (c1++cs2) (x,y):=by
 obtain ⟨bs,b,f⟩:=k
 exact ⟨bs,⟨c1,cs2,[],bs,rfl,rfl,h,b⟩,f⟩
theorem Ys.join (h:Ys r c col w c1 x) (k:Ys s d col w cs2 y) (hne:c≠d) (hd:d≠0):Ys (Zc.pair r s) c (Xq d c col) w (c1++cs2) (x,y):=by
 obtain ⟨b1,g,b⟩:=h
 obtain ⟨b2,j,f⟩:=k
 exact ⟨b1++b2,⟨c1,cs2,b1,b2,rfl,rfl,r.keep g (Yu.recol d c hd) fun _ _=>rfl,s.keep j (Yu.recol d c hd) fun _ _=>rfl⟩,Sa.2 ⟨b.rc hne,f.rcS,Zpg b f hne⟩⟩
theorem Ys.parts (h:Ys (Zc.pair r s) c col w cs (x,y)):∃ c1 cs2,cs=c1++cs2∧Ys r c col w c1 x∧Ys s c col w cs2 y:=by
 obtain ⟨bs,⟨c1,cs2,b1,b2,rfl,rfl,b,f⟩,g⟩:=h
 obtain ⟨j,k,_⟩:=Sa.1 g
 exact ⟨c1,cs2,rfl,⟨b1,b,j⟩,⟨b2,f,k⟩⟩
end
theorem Ys.bool {x:Bool} (h:Ys Zc.bool c col w cs x):cs=[.bool x]:=by obtain ⟨_,h,_⟩:=h;exact h.1
theorem Ys.slice (h:Ys (Zc.slice r) c col w cs xs):∃ a cap,cs=[.slice a xs.length cap]∧Sl r col w a cap xs:=by obtain ⟨_,h,_⟩:=h;exact h.1
theorem Ys.row (h:Ys (Zc.row e r) c col w cs xs):∃ a cap,cs=[.slice a xs.length cap]∧Zb r e c col w a cap xs:=by obtain ⟨bs,⟨a,cap,b,f⟩,g⟩:=h;exact ⟨a,cap,b,bs,f,g⟩

/-! ### an element is taken out -/
def W9 (r:Zc α) (e c:Nat) (col:Zg) (w:World) (a:Option Addr) (cap:Nat) (xs:List α) (j:Nat) (cs:List Value):Prop:=
 ∃ g b1 b3 fl1 fl3,w.ownsRow 0 e r.sz (.slice a xs.length cap) xs.length (fl1++cs++fl3)∧(Value.slice a xs.length cap).ownBlock=some g∧Rows r col w fl1 (xs.take j) b1∧Rows r col w fl3 (xs.drop (j+1)) b3∧cs.length=r.sz∧j<xs.length∧X8 c col (g :: (b1++b3))

theorem W9.loc {j:Nat}:Tk i (fun col w=>W9 r e i col w a cap xs j cs):=by
 rintro col w col' w' ⟨g,b1,b3,u,v,q,l,A,B,G,H,m⟩ _ C o
 have k:∀ b ∈ g :: (b1++b3),b<w.heap.size:=by
  intro b f
  simp only [bK,aY] at f
  rcases f with rfl | f | f
  ·exact (q.lt _ l).2
  ·exact A.lt b f
  ·exact B.lt b f
 refine ⟨g,b1,b3,u,v,⟨q.1,?_⟩,l,A.keep C fun b f=>(o b (k b (by simp [f])) (m.2 b (by simp [f]))).2,B.keep C fun b f=>(o b (k b (by simp [f])) (m.2 b (by simp [f]))).2,G,H,m.loc k o⟩
 rcases q.2 with h | ⟨p,I,D,E,f,F,t⟩
 ·exact .inl h
 ·rw [E] at l
  simp only [Value.ownBlock,Option.some.injEq] at l
  subst l
  exact .inr ⟨p,I,D,E,f,by rw [(o p (k p (by simp)) (m.2 p (by simp))).2];exact F,t⟩
theorem W9.gr {j:Nat} (h:W9 r e i col w a cap xs j cs) (hg:Zl col w col' w'):W9 r e i col' w' a cap xs j cs:=W9.loc.gr h hg
theorem W9.kpp {j:Nat} {p:Nat→Bool} (h:W9 r e i col w a cap xs j cs) (hk:Zu p col w col' w') (h0:p 0=false:=by rfl) (hi:p i=false:=by rfl):W9 r e i col' w' a cap xs j cs:=W9.loc.kpp h hk h0 hi
theorem Zb.open_ {j:Int} {x0:α} (d:Nat) (h:Zb r e c col w a cap xs) (hc:c≠0) (hj:Zn xs j=some x0):∃ cs col',Zu (p1 c) col w col' w∧W9 r e c col' w a cap xs j.toNat cs∧Ys r d col' w cs x0:=by
 obtain ⟨B,X,F⟩:=Xo hj
 obtain ⟨bs,⟨C,Y,G,Q,rfl⟩,R⟩:=h
 rcases G.2 with ⟨_,Z⟩ | ⟨g,cp,W,H,_⟩
 ·omega
 ·simp only [Value.slice.injEq] at H
  obtain ⟨rfl,_,rfl⟩:=H
  have o:j.toNat<xs.length:=by omega
  obtain ⟨I,k3,rfl,q1,J⟩:=Q.split j.toNat
  have u:xs.drop j.toNat=x0 :: xs.drop (j.toNat+1):=by
   rw [List.drop_eq_getElem_cons o]
   congr 1
   rw [List.getElem?_eq_getElem o] at F;exact Option.some.inj F
  rw [u] at J
  obtain ⟨cs,fl',l,K,S,rfl,L,T⟩:=J
  have M:X8 c col (g :: (I++(l++K))):=by simpa [Value.ownBlock] using R
  obtain ⟨U,D,v⟩:=Sa (b1:=[g]).1 (by simpa using M)
  obtain ⟨D,p,A⟩:=Sa.1 D
  obtain ⟨p,V,N⟩:=Sa.1 p
  have q:Yu col w (fun k=>if k ∈ l then d else col k) w:=fun k _ B=>⟨by
   show (if k ∈ l then d else col k)=0
   rw [if_neg]
   ·exact B
   ·intro E;exact hc (by rw [← p.2 k E,B]),rfl⟩
  have O:C=C.take (j.toNat * r.sz)++cs++fl':=by rw [bB,← S,List.take_append_drop]
  refine ⟨cs,fun k=>if k ∈ l then d else col k,⟨Nat.le_refl _,fun k _ P=>?_,fun _ _ _=>rfl,Yn.refl _⟩,
   ⟨g,I,K,C.take (j.toNat * r.sz),fl',by rw [← O];exact G,rfl,q1.keep q fun _ _=>rfl,T.keep q fun _ _=>rfl,r.len L,o,?_,fun b f=>?_⟩,⟨l,r.keep L q fun _ _=>rfl,p.1,fun b f=>by simp [f]⟩⟩
  ·show (if k ∈ l then d else col k)=col k
   rw [if_neg]
   intro E;rw [p.2 k E,Zsu] at P;cases P
  ·refine (Sa (b1:=[g]).2 ⟨U,Sa.2 ⟨D,V,fun b f m=>A b f (by simp [m])⟩,fun b f m=>v b f ?_⟩).1
   simp only [aY] at m ⊢
   exact m.elim .inl fun h=>.inr (.inr h)
  ·show (if b ∈ l then d else col b)=c
   rw [if_neg]
   ·apply M.2
    simp only [bK,aY] at f ⊢
    rcases f with h | h | h <;> simp [h]
   ·intro t
    simp only [bK,aY] at f
    rcases f with rfl | f | f
    ·exact v b (by simp) (by simp [t])
    ·exact A b f (by simp [t])
    ·exact N b t f

theorem W9.rowB {j:Nat} {b':List Nat} (h:W9 r e c col w a cap xs j cs) (hx:r.rd col w cs x b'):∃ g b1 b3,Yt r e col w a cap (xs.set j x) (g :: (b1++b'++b3))∧X8 c col (g :: (b1++b3)):=by
 obtain ⟨g,b1,b3,f,k,m,o,p,q,l,t,u⟩:=h
 refine ⟨g,b1,b3,⟨f++cs++k,b1++b'++b3,by rw [eF];exact m,?_,by rw [eF,o];simp⟩,u⟩
 have b:xs.set j x=xs.take j++[x]++xs.drop (j+1):=by
  rw [List.set_eq_take_append_cons_drop,if_pos t];simp
 rw [b]
 have l:Rows r col w cs [x] b':=⟨cs,[],b',[],by simp,by simp,hx,⟨rfl,rfl⟩⟩
 exact (p.append l).append q
theorem W9.close {j:Nat} (h:W9 r e c col w a cap xs j cs) (hx:Ys r d col w cs x) (hne:d≠c) (hd:d≠0):Zb r e c (Xq d c col) w a cap (xs.set j x):=by
 obtain ⟨b,l,f⟩:=hx
 obtain ⟨g,b1,b3,m,k⟩:=h.rowB l
 refine ⟨_,m.keep (Yu.recol d c hd) fun _ _=>rfl,X8.perm (b1:=g :: (b1++b++b3)) (bs:=(g :: (b1++b3))++b) (Sa.2 ⟨k.rc (Ne.symm hne),f.rcS,Zpg k f (Ne.symm hne)⟩) ?_⟩
 rw [cK,bB,bB]
 exact (List.perm_cons _).2 ((List.perm_append_left_iff _).2 List.perm_append_comm)
theorem W9.atN {j:Nat} (h:W9 r e c col w a cap xs j cs):V2 w (X5 a (j * r.sz)) cs:=by
 obtain ⟨g,b1,b3,t,u,b,B,p,C,D,E,F⟩:=h
 rcases b.2 with ⟨_,G⟩ | ⟨f,H,A,k,_⟩
 ·omega
 ·simp only [Value.slice.injEq] at k
  obtain ⟨rfl,_,rfl⟩:=k
  have l:=p.length
  rw [cC,aZ (by omega)] at l
  refine ⟨f,0+j * r.sz,by simp [X5,Vh],fun q v m=>?_⟩
  have o:=(List.getElem?_eq_some_iff.1 m).1
  have:=b.cells (g:=f) rfl (j * r.sz+q) v (by rw [bB,List.getElem?_append_right (by omega),l,Nat.add_sub_cancel_left,List.getElem?_append_left o];exact m)
  rw [Vh] at this
  rw [Nat.add_assoc];exact this
theorem W9.store {P:Program} {f:Fr} {T t:Nat} {p:String} {af:Array Edge} {px y:Operand} {v:Value} {sz j:Nat} (h:W9 r e c col w a cap xs j cs) (hc:c≠0)
  (hsz:r.sz=sz) (hs:∀ w,(sizeOf T).run P w= .ok sz w) (hv:v.cells.size=sz) (h1:∀ u ∈ v.cells.toList,u.oneCell'=true) (hx:ev f px=X5 a (j * sz)) (hy:ev f y=v):
  ∃ w',(execOp (ev f) ⟨none,.store T px y,t,p,af,none⟩).run P w= .ok .skip w'∧Yh c col w col w'∧Yn w w'∧W9 r e c col w' a cap xs j v.cells.toList:=by
 subst hsz
 obtain ⟨g,b1,b3,fl1,fl3,F,Q,K,R,S,U,D⟩:=h
 rcases F.2 with ⟨_,Z⟩ | ⟨g',cp,l,G,q,L,H,V,I,M⟩
 ·omega
 ·simp only [Value.slice.injEq] at G
  obtain ⟨rfl,_,rfl⟩:=G
  have N:g=g':=by simpa [Value.ownBlock] using Q.symm
  subst N
  have m:v.cells.toList.length=r.sz:=by simpa using hv
  have E:=K.length
  rw [cC,aZ (by omega)] at E
  have W:j * r.sz+r.sz≤xs.length * r.sz:=by
   have:=aX r.sz (show j+1≤xs.length by omega)
   rw [Nat.add_mul] at this;omega
  have O:xs.length * r.sz≤cap * r.sz:=aX _ H
  have A:=run_storeCells_at P g (j * r.sz) e v.cells.toList 0 l w L (by rw [m];omega) h1
  simp only [Nat.add_zero,m] at A
  have J:∀ b,b ∈ b1++b3→b≠g:=fun b q B=>(List.nodup_cons.1 D.1).1 (B ▸ q)
  have o:Yu col w col (w.setRow g (l.toList.take (j * r.sz)++v.cells.toList++l.toList.drop (j * r.sz+r.sz)).toArray):=fun k _ o=>⟨o,setRow_other w g k _ (fun B=>hc (by rw [← D.2 g (by simp),← B,o]))⟩
  refine ⟨w.setRow g (l.toList.take (j * r.sz)++v.cells.toList++l.toList.drop (j * r.sz+r.sz)).toArray,?_,⟨by simp [World.setRow],fun _ _=>rfl,fun k _ o=>setRow_other w g k _ (fun B=>o (by rw [B];exact D.2 g (by simp)))⟩,⟨rfl,rfl,rfl⟩,
   g,b1,b3,fl1,fl3,⟨?_,.inr ⟨g,cap,_,rfl,Nat.zero_le _,setRow_heap w g l _ e _ L,H,V,?_,?_⟩⟩,rfl,K.keep o fun b q=>setRow_other w g b _ (J b (by simp [q])),R.keep o fun b q=>setRow_other w g b _ (J b (by simp [q])),m,U,D⟩
  ·simp only [execOp,hx,hy,X5,Option.map_some,Vh,Nat.zero_add,Instr.storeAt,Instr.sureAddr,storeVar]
   simp [hs,hv,A]
  ·have:=F.1
   simp only [bT] at this ⊢;omega
  ·have C:l.toList.length=cap * r.sz:=by simp [I]
   simp only [List.size_toArray,bT,cC,List.length_drop,C,m];omega
  ·have C:l.toList.length=cap * r.sz:=by simp [I]
   have X:l.toList.take (j * r.sz)=fl1:=by
    have:=congrArg (List.take (j * r.sz)) M
    rw [List.take_take,aZ (by omega),bB,List.take_left' E] at this
    exact this
   have Y:(l.toList.drop (j * r.sz+r.sz)).take (xs.length * r.sz - (j * r.sz+r.sz))=fl3:=by
    rw [← List.drop_take,M,bB,fA,aI (by omega),E,fA,aI (by omega),S]
    simp
   rw [X,bB,eD,bG (by omega),E,eD,bG (by omega),m,show xs.length * r.sz - j * r.sz - r.sz=xs.length * r.sz - (j * r.sz+r.sz) by omega,Y]
   simp

/-! ### append:what is owned goes over;what was there stays -/
def Qm (r:Zc α) (c c2:Nat) (col:Zg) (w:World) (a:Option Addr) (ys:List α):Prop:=∃ bs,Zns r col w a ys bs∧X8 c2 col bs∧((bs=[]∧c=c2)∨c≠c2∧c2≠0)
theorem Sl.srcC (h:Sl r col w a cap ys):Qm r c c col w a ys:=⟨[],h.src,.nil,.inl ⟨rfl,rfl⟩⟩
theorem Zb.srcC (h:Zb r e c2 col w a cap ys) (hne:c≠c2∧c2≠0):Qm r c c2 col w a ys:=by
 obtain ⟨bs,b,f⟩:=h
 obtain ⟨b2,rfl,g⟩:=b.src
 exact ⟨b2,g,(Sa.1 f).2.1,.inr hne⟩

def Zay (r:Zc α) (e c:Nat) (col:Zg) (w:World) (a:Option Addr) (n cap:Nat) (a':Option Addr) (cap':Nat) (ys:List α):Prop:=
 n≤ys.length∧((a'=a∧cap'=cap∧Zb r e c col w a cap ys)∨∃ bs bs',Yt r e col w a cap (ys.take n) bs∧Yt r e col w a' cap' ys bs'∧X8 c col bs∧X8 c col bs'∧∀ g ∈ (Value.slice a' ys.length cap').ownBlock.toList,g ∉ bs)

theorem Zay.loc:Tk i (fun col w=>Zay r e i col w a n cap a' cap' ys):=by
 rintro col w col' w' ⟨t,h⟩ o m f
 refine ⟨t,?_⟩
 rcases h with ⟨g,j,l⟩ | ⟨bs,p,g,j,l,q,u⟩
 ·exact .inl ⟨g,j,Zb.loc l o m f⟩
 ·exact .inr ⟨bs,p,g.keep m fun b k=>(f b (g.lt b k) (l.2 b k)).2,j.keep m fun b k=>(f b (j.lt b k) (q.2 b k)).2,l.loc g.lt f,q.loc j.lt f,u⟩
theorem Zb.ext (h:Zb r e c col w a cap xs):Zay r e c col w a xs.length cap a cap xs:=⟨Nat.le_refl _,.inl ⟨rfl,rfl,h⟩⟩
theorem Zay.new (h:Zay r e c col w a n cap a' cap' ys):Zb r e c col w a' cap' ys:=by
 rcases h.2 with ⟨rfl,rfl,f⟩ | ⟨bs,b,_,g,_,j,_⟩
 ·exact f
 ·exact ⟨b,g,j⟩

theorem Zay.append {P:Program} {f:Fr} {T t:Nat} {dst:Option Nat} {p:String} {af:Array Edge} {x y:Operand} {a2:Option Addr} {cap2 sz bytes:Nat}
  (h:Zay r e c col w a n cap a' cap' ys) (hc:c≠0) (h2:Qm r c c2 col w a2 zs) (hT:P.underlying T=some (.slice e)) (he:Wk P e sz bytes) (hsz:r.sz=sz) (hx:ev f x= .slice a' ys.length cap') (hy:ev f y= .slice a2 zs.length cap2)
  (hb:(ys.length+zs.length) * bytes≤140737488355328) (hl:ys.length+zs.length≤maxLen):
  ∃ a1 cap1 w' col',(execOp (ev f) ⟨dst,.call { callee:=.builtin .append,args:=#[x,y],argTypes:=#[T,T] },t,p,af,none⟩).run P w= .ok (.value (.slice a1 (ys++zs).length cap1)) w'∧
   Zu (p2 c c2) col w col' w'∧Zay r e c col' w' a n cap a1 cap1 (ys++zs):=by
 obtain ⟨hn,h⟩:=h
 obtain ⟨bz,Y,N,E⟩:=h2
 -- what was appended: a row (its blocks q); the old one, beside it
 obtain ⟨q,h1,O,Q⟩:∃ q,Yt r e col w a' cap' ys q∧X8 c col q∧((a'=a∧cap'=cap)∨∃ bs,Yt r e col w a cap (ys.take n) bs∧X8 c col bs∧∀ g ∈ (Value.slice a' ys.length cap').ownBlock.toList,g ∉ bs):=by
  rcases h with ⟨q1,B,q,D,G⟩ | ⟨bs,q,q1,B,D,G,R⟩
  ·exact ⟨q,by rw [q1,B];exact D,G,.inl ⟨q1,B⟩⟩
  ·exact ⟨q,B,G,.inr ⟨bs,q1,D,R⟩⟩
 have H:∀ b ∈ q,b ∉ bz:=fun b hb=>by
  rcases E with ⟨rfl,_⟩ | E
  ·simp
  ·exact Zpg O N E.1 b hb
 have J:c2≠0:=by
  rcases E with ⟨_,rfl⟩ | E
  ·exact hc
  ·exact E.2
 obtain ⟨a1,cap1,w',gs,b2,k1,rfl,Z,k3,k4,k5,k6,k7⟩:=h1.append (P:=P) (t:=t) (dst:=dst) (p:=p) (af:=af) O.1 (fun b hb=>by rw [O.2 b hb];exact hc) H Y hT he hsz hx hy hb hl
 obtain ⟨V,m2,a9⟩:=Sa.1 O
 have I:(ys++zs).take n=ys.take n:=gH hn
 have K:n≤(ys++zs).length:=by rw [bT];omega
 have S:∀ b ∈ b2++bz,b<w.heap.size:=fun b hb=>by
  rcases aY.1 hb with hb | hb
  ·exact h1.lt b (by simp [hb])
  ·rcases Y with ⟨_,rfl⟩ | ⟨_,_,_,_,hr,_⟩
   ·simp at hb
   ·exact hr.lt b hb
 have u:∀ (col:Zg) k,col k=c→Xq c2 c col k=c:=fun col k o=>by
  by_cases hcc:c=c2
  ·subst hcc;exact Zp2 o
  ·rw [Zg4 (by rw [o];exact hcc)];exact o
 have a0:∀ j:Zg,(∀ k,k<w.heap.size→j k=col k)→X8 c (Xq c2 c j) (b2++bz):=fun j m=>by
  rw [Sa]
  refine ⟨⟨m2.1,fun b hb=>u _ _ ?_⟩,⟨N.1,fun b hb=>Zp2 ?_⟩,fun b hb=>H b (by simp [hb])⟩
  ·rw [m b (S b (by simp [hb]))];exact m2.2 b hb
  ·rw [m b (S b (by simp [hb]))];exact N.2 b hb
 have L:∀ j:Zg,(∀ k,k<w.heap.size→j k=col k)→Zu (p2 c c2) col w (Xq c2 c j) w':=fun j m=>
  ⟨k3,fun k o v=>by
   simp only [p2,Bool.or_eq_false_iff] at v
   have h8:col k≠c2:=by intro he;rw [he] at v;simp at v
   rw [Zg4 (by rw [m k o];exact h8),m k o],
  fun k o v=>k4 k o fun l=>by
   rw [V.2 k l] at v;simp [p2] at v,k5⟩
 have M:∀ j:Zg,(∀ k,k<w.heap.size→j k=col k)→∀ bs,Yt r e col w a cap (ys.take n) bs→X8 c col bs→(∀ g ∈ gs,g ∉ bs)→Yt r e (Xq c2 c j) w' a cap (ys.take n) bs∧X8 c (Xq c2 c j) bs:=fun j m bs q1 B D=>by
  refine ⟨Yt.keep (col':=Xq c2 c j) (q1.keep (col':=j) (w':=w') (fun k o W=>⟨(m k o).trans W,k4 k o fun l=>?_⟩) fun b hb=>k4 b (q1.lt b hb) fun l=>D b l hb) (Yu.recol c2 c J) fun _ _=>rfl,B.1,fun b hb=>u _ _ (by rw [m b (q1.lt b hb)];exact B.2 b hb)⟩
  exact hc (by rw [← V.2 k l,W])
 rcases k7 with ⟨rfl,rfl,k8⟩ | ⟨k8,k9,b5⟩
 ·-- in place
  refine ⟨_,_,w',Xq c2 c col,k1,L col fun _ _=>rfl,K,?_⟩
  have A:Yt r e (Xq c2 c col) w' a1 cap1 (ys++zs) (gs++(b2++bz)):=k8.keep (Yu.recol c2 c J) fun _ _=>rfl
  have F:X8 c (Xq c2 c col) (gs++(b2++bz)):=Sa.2 ⟨⟨V.1,fun b hb=>u _ _ (V.2 b hb)⟩,a0 col fun _ _=>rfl,fun b hb C=>by
   rcases aY.1 C with C | C
   ·exact a9 b hb C
   ·exact H b (by simp [hb]) C⟩
  rcases Q with ⟨rfl,rfl⟩ | ⟨bs,q1,B,D⟩
  ·exact .inl ⟨rfl,rfl,_,A,F⟩
  ·obtain ⟨G,R⟩:=M col (fun _ _=>rfl) bs q1 B (by rw [Z];exact D)
   refine .inr ⟨bs,_,by rw [I];exact G,A,R,F,fun g l=>D g ?_⟩
   rcases a1 with _ | _
   ·simp [Value.ownBlock] at l
   ·simpa [Value.ownBlock] using l
 ·-- in a new block
  have v:∀ k,k<w.heap.size→Yz col w c k=col k:=fun k o=>by simp [Yz,o]
  refine ⟨_,_,w',Xq c2 c (Yz col w c),k1,L _ v,K,.inr ?_⟩
  have A:Yt r e (Xq c2 c (Yz col w c)) w' a1 cap1 (ys++zs) (w.heap.size :: (b2++bz)):=(b5 _ v).keep (Yu.recol c2 c J) fun _ _=>rfl
  have F:X8 c (Xq c2 c (Yz col w c)) (w.heap.size :: (b2++bz)):=by
   refine (Sa (b1:=[w.heap.size])).2 ⟨⟨by simp,fun b hb=>u _ _ ?_⟩,a0 _ v,fun b hb C=>?_⟩
   ·simp only [bD] at hb;subst hb;simp [Yz]
   ·simp only [bD] at hb;subst hb;exact hY _ (S _ C)
  have U:∀ g ∈ (Value.slice a1 (ys++zs).length cap1).ownBlock.toList,g=w.heap.size:=by
   obtain ⟨_,_,_,_,h9⟩:=A
   intro g l
   cases hq:(Value.slice a1 (ys++zs).length cap1).ownBlock with
   | none=>rw [hq] at l;simp at l
   | some g'=>
    rw [hq] at l h9
    simp only [dQ,cK,List.nil_append,List.cons.injEq] at h9
    simp only [dQ,bD] at l
    rw [l,h9.1]
  rcases Q with ⟨rfl,rfl⟩ | ⟨bs,q1,B,D⟩
  ·obtain ⟨bs,s1,_,X⟩:=h1.take n
   have s3:=O.sub s1
   refine ⟨bs,_,?_,A,⟨s3.1,fun b hb=>u _ _ (by rw [v b (X.lt b hb)];exact s3.2 b hb)⟩,F,fun g l hb=>?_⟩
   ·rw [I]
    exact Yt.keep (col':=Xq c2 c (Yz col w c)) (X.keep (col':=Yz col w c) (w':=w') (fun k o W=>⟨(v k o).trans W,k9 k o⟩) fun b hb=>k9 b (X.lt b hb)) (Yu.recol c2 c J) fun _ _=>rfl
   ·rw [U g l] at hb;exact hY _ (X.lt _ hb)
  ·obtain ⟨G,R⟩:=M (Yz col w c) v bs q1 B (by rw [Z];exact D)
   refine ⟨bs,_,by rw [I];exact G,A,R,F,fun g l hb=>?_⟩
   rw [U g l] at hb;exact hY _ (q1.lt _ hb)

theorem Zb.appendM {P:Program} {f:Fr} {T t:Nat} {dst:Option Nat} {p:String} {af:Array Edge} {x y:Operand} {a2:Option Addr} {cap2 sz bytes:Nat}
  (h:Zb r e c col w a cap xs) (hc:c≠0) (h2:Qm r c c2 col w a2 zs) (hT:P.underlying T=some (.slice e)) (he:Wk P e sz bytes) (hsz:r.sz=sz) (hx:ev f x= .slice a xs.length cap) (hy:ev f y= .slice a2 zs.length cap2)
  (hb:(xs.length+zs.length) * bytes≤140737488355328) (hl:xs.length+zs.length≤maxLen):
  ∃ a1 cap1 w' col',(execOp (ev f) ⟨dst,.call { callee:=.builtin .append,args:=#[x,y],argTypes:=#[T,T] },t,p,af,none⟩).run P w= .ok (.value (.slice a1 (xs++zs).length cap1)) w'∧
   Zu (p2 c c2) col w col' w'∧Zb r e c col' w' a1 cap1 (xs++zs):=by
 obtain ⟨a1,cap1,w',col',b,g,j⟩:=h.ext.append (t:=t) (dst:=dst) (p:=p) (af:=af) hc h2 hT he hsz hx hy hb hl
 exact ⟨a1,cap1,w',col',b,g,j.new⟩

def Ex (r:Zc α) (e c:Nat) (col:Zg) (w:World) (a:Option Addr) (cap:Nat) (xs:List α) (a':Option Addr) (cap':Nat) (ys:List α):Prop:=ys.take xs.length=xs∧Zay r e c col w a xs.length cap a' cap' ys
theorem Ex.loc:Tk i (fun col w=>Ex r e i col w a cap xs a' cap' ys):=fun ⟨b,f⟩ g j k=>⟨b,Zay.loc f g j k⟩
theorem Ex.kp (h:Ex r e i col w a cap xs a' cap' ys) (hk:Yh c col w col' w') (hc:c≠0:=by decide) (hi:i≠c:=by decide):Ex r e i col' w' a cap xs a' cap' ys:=Ex.loc.kp h hk hc hi
theorem Ex.gr (h:Ex r e i col w a cap xs a' cap' ys) (hg:Zl col w col' w'):Ex r e i col' w' a cap xs a' cap' ys:=Ex.loc.gr h hg
theorem Zb.ex (h:Zb r e c col w a cap xs):Ex r e c col w a cap xs a cap xs:=⟨by simp,h.ext⟩
theorem Ex.new (h:Ex r e c col w a cap xs a' cap' ys):Zb r e c col w a' cap' ys:=h.2.new
theorem Ex.append {P:Program} {f:Fr} {T t:Nat} {dst:Option Nat} {p:String} {af:Array Edge} {x y:Operand} {a2:Option Addr} {cap2 sz bytes:Nat}
  (h:Ex r e c col w a cap xs a' cap' ys) (hc:c≠0) (h2:Qm r c c2 col w a2 zs) (hT:P.underlying T=some (.slice e)) (he:Wk P e sz bytes) (hsz:r.sz=sz) (hx:ev f x= .slice a' ys.length cap') (hy:ev f y= .slice a2 zs.length cap2)
  (hb:(ys.length+zs.length) * bytes≤140737488355328) (hl:ys.length+zs.length≤maxLen):
  ∃ a1 cap1 w' col',(execOp (ev f) ⟨dst,.call { callee:=.builtin .append,args:=#[x,y],argTypes:=#[T,T] },t,p,af,none⟩).run P w= .ok (.value (.slice a1 (ys++zs).length cap1)) w'∧
   Zu (p2 c c2) col w col' w'∧Ex r e c col' w' a cap xs a1 cap1 (ys++zs):=by
 obtain ⟨a1,cap1,w',col',b,g,j⟩:=h.2.append (t:=t) (dst:=dst) (p:=p) (af:=af) hc h2 hT he hsz hx hy hb hl
 exact ⟨a1,cap1,w',col',b,g,by rw [gH h.2.1];exact h.1,j⟩

/-! readings of what stays,part by part -/
theorem Yw {β:Type} {s:Zc β} {x:α} {y:β} (h:(Zc.pair r s).rd col w cs (x,y) []):∃ c1 c2,cs=c1++c2∧r.rd col w c1 x []∧s.rd col w c2 y []:=by
 obtain ⟨c1,c2,b1,b2,b,f,g,j⟩:=h
 have:=congrArg List.length f
 simp only [List.length_nil,bT] at this
 obtain rfl:b1=[]:=cJ (by omega)
 obtain rfl:b2=[]:=cJ (by omega)
 exact ⟨c1,c2,b,g,j⟩
theorem Vz {β:Type} {s:Zc β} {c1 d1:List Value} {x:α} {y:β} (h:r.rd col w c1 x []) (k:s.rd col w d1 y []):(Zc.pair r s).rd col w (c1++d1) (x,y) []:=⟨c1,d1,[],[],rfl,rfl,h,k⟩
theorem Z0g:(Zc.row e r).rd col w [.slice none 0 0] [] []:=⟨none,0,rfl,Yt.nil⟩
theorem W9.addr {j:Nat} (h:W9 r e c col w a cap xs j cs):∃ b o,a=some ⟨b,o,none⟩:=by
 obtain ⟨g,b1,b3,m,p,k,t,u,v,A,B,C⟩:=h
 rcases k.2 with ⟨_,D⟩ | ⟨l,E,q,f,_⟩
 ·omega
 ·simp only [Value.slice.injEq] at f
  exact ⟨l,0,f.1⟩
end
end Go.Proofs.YtpkknichfgooaaaGreat
