/-
  Ranges over functions: what a function that is gone over hands on ('It'), the rule for the statement ('wrange'), a call's end where such loops were in it. Also: a region that draws its order and whose last operation alone turns the world. Over any program.
-/
import Derived.Test.YthclpfhncgpnmaaGreatJointTableBLOps
namespace Go.Proofs.YthclpfhncgpnmaaGreat
open Go Go.RowKit
open Nat renaming ble→dA,blt→aX,beq→aJ,eq_of_beq_eq_true→aW,le_refl→bB
open List renaming nodup_cons→cQ
open Go.IntKind (i8 i16 i32 i64 u8 u16 u32 u64)

section
variable {α:Type} {r:Za α} {p q:Nat→Bool} {e c i:Nat} {col col' col'':Zd} {w w' w'':World} {xs:List α}

/-! the book-keeping of a loop over a function -/
def Wt (c:Nat) (col:Zd) (w:World) (l:Nat) (rc:Loop):Prop:=col l=c∧w.heap[l]?=some (.loop rc)
def Yp (mc:Nat) (col:Zd) (w:World) (ds:List Nat):Prop:=ds.Nodup∧∀ D ∈ ds,col D=mc∧w.heap[D]?=some (.deferred (some []))

theorem Wt.kpp {l:Nat} {rc:Loop} (h:Wt i col w l rc) (hk:Z5 p col w col' w') (hi:p i=false:=by rfl):Wt i col' w' l rc:=by
 have b:=(Array.getElem?_eq_some_iff.1 h.2).1
 exact ⟨(hk.tint l b (by rw [h.1];exact hi)).trans h.1,by rw [hk.block l b (by rw [h.1];exact hi)];exact h.2⟩
theorem Wt.kp {l:Nat} {rc:Loop} (h:Wt i col w l rc) (hk:X3 c col w col' w') (hi:i≠c:=by decide):Wt i col' w' l rc:=by
 have b:=(Array.getElem?_eq_some_iff.1 h.2).1
 exact ⟨(hk.tint l b).trans h.1,by rw [hk.block l b (by rw [h.1];exact hi)];exact h.2⟩
theorem Wt.gr {l:Nat} {rc:Loop} (h:Wt i col w l rc) (hg:Zn col w col' w'):Wt i col' w' l rc:=h.kp (hg.keep (i+1)) (by omega)
theorem Wt.froz {l:Nat} {rc:Loop} (c:Nat) (h:Wt i col w l rc) (hi:i≠c:=by decide):Wt i (X5 c col) w l rc:=⟨by unfold X5;rw [h.1,if_neg hi],h.2⟩
theorem Yp.kpp {mc:Nat} {ds:List Nat} (h:Yp mc col w ds) (hk:Z5 p col w col' w') (hi:p mc=false:=by rfl):Yp mc col' w' ds:=
 ⟨h.1,fun D k=>by
  obtain ⟨g,j⟩:=h.2 D k
  have b:=(Array.getElem?_eq_some_iff.1 j).1
  exact ⟨(hk.tint D b (by rw [g];exact hi)).trans g,by rw [hk.block D b (by rw [g];exact hi)];exact j⟩⟩
theorem Yp.kp {mc:Nat} {ds:List Nat} (h:Yp mc col w ds) (hk:X3 c col w col' w') (hi:mc≠c:=by decide):Yp mc col' w' ds:=
 ⟨h.1,fun D k=>by
  obtain ⟨g,j⟩:=h.2 D k
  have b:=(Array.getElem?_eq_some_iff.1 j).1
  exact ⟨(hk.tint D b).trans g,by rw [hk.block D b (by rw [g];exact hi)];exact j⟩⟩
theorem Yp.gr {mc:Nat} {ds:List Nat} (h:Yp mc col w ds) (hg:Zn col w col' w'):Yp mc col' w' ds:=h.kp (hg.keep (mc+1)) (by omega)
theorem Yp.froz {mc:Nat} {ds:List Nat} (c:Nat) (h:Yp mc col w ds) (hi:mc≠c):Yp mc (X5 c col) w ds:=
 ⟨h.1,fun D b=>by
  obtain ⟨g,j⟩:=h.2 D b
  exact ⟨by unfold X5;rw [g,if_neg hi],j⟩⟩
theorem Yp.nil {mc:Nat}:Yp mc col w []:=⟨List.nodup_nil,fun _ h=>by cases h⟩

def pI (lv:Nat):Nat→Bool:=fun c=>(dA 500 c&&aX c 999)||(aJ lv 2&&dA 1000 c)
def Zba (lv rc:Nat):Nat→Bool:=fun c=>aJ c rc||pI lv c
def pC (lv:Nat):Nat→Bool:=fun c=>(aX 0 c&&aX c 450)||(dA 490 c&&aX c 499)||(aJ lv 1&&dA 1000 c)
def q0:Nat→Bool:=fun c=>aJ c 0||aJ c 450
def q1:Nat→Bool:=fun c=>aJ c 450
def qz:Nat→Bool:=fun c=>aJ c 0

theorem Zl6 {c:Nat} (h:pC 1 c=false):pC 2 c=false:=by
 simp only [pC,Bool.or_eq_false_iff] at h ⊢;exact ⟨h.1,rfl⟩
theorem Zx3 {c:Nat} (h:pI 2 c=false):Zba 1 1999 c=false:=by
 simp only [pI,Zba,Bool.or_eq_false_iff] at h ⊢
 have b:dA 1000 c=false:=by have:=h.2;simpa using this
 refine ⟨?_,h.1,by simp⟩
 cases hb:aJ c 1999
 ·rfl
 ·rw [aW hb] at b;cases b
theorem Zx2 {lv rc c:Nat} (h:Zba lv rc c=false):pI lv c=false:=by
 simp only [Zba,Bool.or_eq_false_iff] at h;exact h.2

def Zel (P:Program) (lv:Nat) (gf:Nat) (lb:List Value) {Y:Type} (arr:Y→Zd→World→List Value→Prop) (ys:List Y) (col:Zd) (w:World):Prop:=
 ∀ (l:Nat) (J:List Y→Zd→World→Prop) (X:Zd→World→Prop),
  (∀ ys col w col' w',J ys col w→Z5 (pI lv) col w col' w'→J ys col' w')→(∀ col w col' w',X col w→Z5 (pI lv) col w col' w'→X col' w')→
  (∀ y ys col w args,J (y :: ys) col w→arr y col w args→YieldAt (Y3 none) 0 P l args.toArray w (fun e w'=>∃ col',Z5 (pC lv) col w col' w'∧((e= .returned (.bool true)∧J ys col' w')∨(e= .returned (.bool false)∧X col' w'))))→
  J ys col w→Calls P gf (Value.func (.yield l) #[] #[] :: lb).toArray w (fun e w'=>(∃ v,e= .returned v)∧∃ col',J [] col' w'∨X col' w')

def It (P:Program) (lv:Nat) (v:Value) {Y:Type} (arr:Y→Zd→World→List Value→Prop) (ys:List Y) (p:Nat→Bool) (col:Zd) (w:World):Prop:=
 ∃ gf lb,v= .func (.func gf) #[] lb.toArray∧(∀ args w,(callFunc gf args).run P w= .ok (.enter gf args) w)∧
  ∀ col' w',w.heap.size≤w'.heap.size→(∀ k,k<w.heap.size→p (col k)=true→col' k=col k∧w'.heap[k]?=w.heap[k]?)→Zel P lv gf lb arr ys col' w'

theorem It.step {lv:Nat} {P:Program} {v:Value} {Y:Type} {arr:Y→Zd→World→List Value→Prop} {ys:List Y} (h:It P lv v arr ys q col w) (hs:w.heap.size≤w'.heap.size)
  (hk:∀ k,k<w.heap.size→q (col k)=true→col' k=col k∧w'.heap[k]?=w.heap[k]?):It P lv v arr ys q col' w':=by
 obtain ⟨u,y,A,B,D⟩:=h
 refine ⟨u,y,A,B,fun g F j n=>D g F (Nat.le_trans hs j) fun k b o=>?_⟩
 obtain ⟨s,G⟩:=hk k b o
 obtain ⟨H,I⟩:=n k (Nat.lt_of_lt_of_le b hs) (by rw [s];exact o)
 exact ⟨H.trans s,I.trans G⟩
section
variable {P:Program} {v:Value} {Y:Type} {arr:Y→Zd→World→List Value→Prop} {ys:List Y}
theorem It.gr {lv:Nat} (h:It P lv v arr ys q col w) (hg:Zn col w col' w'):It P lv v arr ys q col' w':=
 h.step hg.below.size fun k b _=>⟨hg.tint k b,hg.below.block k b⟩
end
end

/-! ### the statement -/
section
variable {P:Program} {m:Nat} {N R:Fr→World→Prop} {E:Nat→Fr→World→Prop} {f:Fr} {w:World} {col:Zd}

def Zmk (f:Fr):List Nat→List Value→Fr
 | p :: ps,v :: vs=>Zmk (Z4 f p v) ps vs
 | _,_=>f

theorem Wd.args {a:Act}:∀ (ps:List Nat) (vs:List Value) (f:Fr) (t:Array Value),t.size=m→m≤1000000→(∀ x,x<1000000→t.getD x undef=f x)→(ps.all fun x=>aX x m)=true→f 1000000=enc []→
  Wd m { tmps:=(ps.zip vs).foldl (fun t (q:Nat×Value)=>t.setIfInBounds q.1 q.2) t,defers:=[] } (Zmk f ps vs)
 | [],_,f,t,b,j,k,_,n=>⟨j,b,k,by simp only [Zmk,n,Zcr,Za8];rfl⟩
 | p :: ps,[],f,t,b,j,k,_,n=>⟨j,b,k,by simp only [Zmk,n,Zcr,Za8];rfl⟩
 | p :: ps,v :: vs,f,t,b,j,k,o,n=>by
  simp only [List.all_cons,Bool.and_eq_true,Nat.blt_eq] at o
  refine Wd.args (a:=a) ps vs (Z4 f p v) (t.setIfInBounds p v) (by simpa using b) j (fun x u=>?_) o.2 ?_
  ·have h:=k x u
   unfold Z4
   cases g:aJ x p
   ·have s:p≠x:=by intro e;subst e;simp at g
    simp only [Array.getD_eq_getD_getElem?,cond_false] at h ⊢
    rw [Array.getElem?_setIfInBounds_ne s];exact h
   ·have:=aW g;subst this
    simp [b,o.1]
  ·have g:aJ 1000000 p=false:=by
    cases g:aJ 1000000 p
    ·rfl
    ·have:=aW g;omega
   simp only [Z4,g,cond_false];exact n

theorem X3.put {c:Nat} {l:Nat} {o:Obj} (hl:col l=c):X3 c col w col (w.putObj l o):=
 ⟨by simp,fun _ _=>rfl,fun k _ b=>World.putObj_heap_other (fun e=>b (by rw [e];exact hl))⟩
theorem Ya.put {l:Nat} {o:Obj}:Ya w (w.putObj l o):=⟨rfl,rfl,rfl⟩

theorem Wt.put {c l:Nat} {rc rc':Loop} (h:Wt c col w l rc):Wt c col (w.putObj l (.loop rc')) l rc':=⟨h.1,World.putObj_heap_same (Array.getElem?_eq_some_iff.1 h.2).1⟩

theorem Zmm {lv mc:Nat} {g:Operand} {psl:List Nat} {assign body:Code} {Y:Type} {v:Value} {arr:Y→Zd→World→List Value→Prop} {ys:List Y} {q:Nat→Bool} {ds:List Nat} (rk:Nat)
  (hg:ev f g=v) (hit:It P lv v arr ys q col w) (h0:f 1000000=enc ds) (hmk:Yp mc col w ds) (hrk:(pC lv rk&&(!pI lv rk&&(!aJ mc rk&&!pI lv mc)))=true) (hps:(psl.all fun x=>aX x m)=true)
  (harr:∀ y col w args,arr y col w args→args.length=psl.length)
  (J:List Y→Zd→World→Prop) (X:Code→Zd→World→Prop)
  (hJ:∀ ys col w col' w',J ys col w→Z5 (Zba lv rk) col w col' w'→J ys col' w') (hX:∀ c col w col' w',X c col w→Z5 (Zba lv rk) col w col' w'→X c col' w')
  (hJ0:J ys col w)
  (hround:∀ l rc ds y ys col w args,J (y :: ys) col w→Wt rk col w l rc→Yp mc col w ds→arr y col w args→
   Wp P m (some l) assign (fun f' w1=>∃ col1,Wt rk col1 w1 l rc∧∀ w2 rc,X3 rk col1 w1 col1 w2→Ya w1 w2→Wt rk col1 w2 l rc→
     Wp P m (some l) body (fun _ w'=>∃ col',Z5 (pC lv) col w col' w'∧J ys col' w'∧Wt rk col' w' l rc∧Yp mc col' w' ds)
      (fun _ w'=>∃ col',Z5 (pC lv) col w col' w'∧X .ret col' w'∧Wt rk col' w' l rc∧Yp mc col' w' ds)
      (fun i _ w'=>∃ col',Z5 (pC lv) col w col' w'∧X (.exit i) col' w'∧Wt rk col' w' l rc∧Yp mc col' w' ds) f' w2)
    (fun _ _=>False) (fun _ _ _=>False) (Zmk (Z4 f 1000000 (enc [])) psl args) w)
  (hdone:∀ D col' w',J [] col' w'→Yp mc col' w' (D :: ds)→N (Z4 f 1000000 (enc (D :: ds))) w')
  (hstop:∀ c D col' w',X c col' w'→Yp mc col' w' (D :: ds)→Wp P m none c N R E (Z4 f 1000000 (enc (D :: ds))) w'):
  Wp P m none (.rangeFunc g psl.toArray assign body) N R E f w:=by
 intro a M
 simp only [Bool.and_eq_true,Bool.not_eq_true'] at hrk
 obtain ⟨b2,V,A,a9⟩:=hrk
 replace A:mc≠rk:=fun e=>by rw [e,show aJ rk rk=true from Nat.beq_refl rk] at A;cases A
 obtain ⟨gf,W,rfl,b8,a7⟩:=hit
 refine wpIn_rangeFunc fun fn d1=>?_
 obtain ⟨j,s⟩:∃ j:LoopState→Option Code→Loop,j=fun st pe=>{ state:=st,pending:=pe,fn,tmps:=a.tmps,params:=psl.toArray,assign,body,defers:=w.heap.size }:=⟨_,rfl⟩
 let w1:=(w.alloc (.deferred (some []))).alloc (.loop (j .ready none))
 let col1:Zd:=fun k=>if k<w.heap.size then col k else if k=w.heap.size then mc else rk
 have O:Zn col w col1 w1:=⟨((Below.refl _ w).alloc (bB _) _).alloc (by simp) _,fun k n=>by simp [col1,n]⟩
 have b9:Wt rk col1 w1 (w.heap.size+1) (j .ready none):=⟨by show (if _ then _ else if _ then _ else _)=rk;rw [if_neg (by omega),if_neg (by omega)],by
  have:=World.alloc_heap_new (w.alloc (.deferred (some []))) (.loop (j .ready none));rwa [World.size_alloc] at this⟩
 have c0:w1.heap[w.heap.size]?=some (.deferred (some [])):=(Below.heap_alloc _ _ _ (by simp)).trans (World.alloc_heap_new w _)
 have c1:Yp mc col1 w1 (w.heap.size :: ds):=by
  have B:=hmk.gr O
  refine ⟨cQ.2 ⟨fun h=>?_,B.1⟩,fun D hD=>?_⟩
  ·have:=(Array.getElem?_eq_some_iff.1 (hmk.2 _ h).2).1;omega
  ·rcases List.mem_cons.1 hD with rfl | hD
   ·exact ⟨by simp [col1],c0⟩
   ·exact B.2 D hD
 have c2:a.defers=Za8 ds:=by rw [M.defers,h0,Zcr]
 have c3:a.eval g= .func (.func gf) #[] W.toArray:=by rw [M.eval];exact hg
 refine ⟨w.heap.size+1,[{ target:=.collected w.heap.size,args:=#[] }],w1,{ target:=.fn (.func gf) W.toArray,args:=#[.func (.yield (w.heap.size+1)) #[] #[]] },w1,gf,
  #[.func (.yield (w.heap.size+1)) #[] #[]]++W.toArray,w1,?_,?_,?_,?_,fun h=>(by cases h),?_⟩
 ·rw [show (Y3 none).round=none from rfl]
  simp only [w1];rw [s];exact run_enterLoop_outer _ _ _ _ _
 ·simp only [resolve,c3]
  simp [go_sem]
 ·intro f' b0;trivial
 ·simp [invoke,go_sem,b8]
 ·have c4:=a7 col1 w1 O.below.size (fun k n _=>⟨O.tint k n,O.below.block k n⟩)
  have b5:#[Value.func (.yield (w.heap.size+1)) #[] #[]]++W.toArray=(Value.func (.yield (w.heap.size+1)) #[] #[] :: W).toArray:=by simp
  rw [b5]
  refine Zqe ((c4 (w.heap.size+1) (fun ys col w'=>J ys col w'∧Wt rk col w' (w.heap.size+1) (j .ready none)∧Yp mc col w' (w.heap.size :: ds))
   (fun col w'=>∃ c,X c col w'∧Wt rk col w' (w.heap.size+1) (j .done (some c))∧Yp mc col w' (w.heap.size :: ds)) ?_ ?_ ?_ ⟨hJ _ _ _ _ _ hJ0 O.toP,b9,c1⟩).mono ?_) none _
  ·rintro ys col w col' w' ⟨B,F,H⟩ n
   exact ⟨hJ _ _ _ _ _ B (n.mono fun _=>Zx2),F.kpp n V,H.kpp n a9⟩
  ·rintro col w col' w' ⟨c,B,F,H⟩ n
   exact ⟨c,hX _ _ _ _ _ B (n.mono fun _=>Zx2),F.kpp n V,H.kpp n a9⟩
  ·rintro y ys col w' args ⟨B,F,H⟩ hy
   have b6:=harr _ _ _ _ hy
   have b1:=run_yield (P:=P) (args:=args.toArray) F.2 (by rw [s];simp [b6])
   rw [s] at b1
   refine ⟨fn,_,assign,body,b1,roundIn_of_wpIn trivial ?_⟩
   have I:=Wd.args (a:=a) psl args (Z4 f 1000000 (enc [])) a.tmps M.size M.small (fun x hx=>by
    rw [M.get x hx];unfold Z4
    have:aJ x 1000000=false:=by
     cases Q:aJ x 1000000
     ·rfl
     ·have:=aW Q;omega
    rw [this];rfl) hps (by simp [Z4])
   have b7:(psl.toArray.zip args.toArray).foldl (fun tmps (x:Tmp×Value)=>tmps.setIfInBounds x.1 x.2) a.tmps=(psl.zip args).foldl (fun t (q:Nat×Value)=>t.setIfInBounds q.1 q.2) a.tmps:=by
    rw [← Array.foldl_toList];simp
   have a8:(psl.toArray.zip args.toArray).foldl (fun tmps x=>match x with | (t,a)=>tmps.setIfInBounds t a) a.tmps=(psl.zip args).foldl (fun t (q:Nat×Value)=>t.setIfInBounds q.1 q.2) a.tmps:=b7
   rw [show (Y3 none).inRound (w.heap.size+1)=Y3 (some (w.heap.size+1)) from rfl]
   have c6:=hround (w.heap.size+1) (j .ready none) (w.heap.size :: ds) y ys col w' args B F H hy
   refine wpIn_mono (by rw [a8];exact c6 _ I) ?_
   intro e a1 w2 G
   cases e with
   | normal=>
    obtain ⟨f',b0,col1,Z,G⟩:=G
    refine ⟨_,run_beginRound Z.2 (by rw [s]),?_⟩
    have Q:=G _ _ (X3.put (o:=.loop { j .ready none with state:=.busy }) Z.1) Ya.put (Z.put) _ b0
    refine wpIn_mono Q ?_
    have fin:∀ (b:Option Code) (col':Zd) (u:World),Z5 (pC lv) col w' col' u→Wt rk col' u (w.heap.size+1) { j .ready none with state:=.busy }→Yp mc col' u (w.heap.size :: ds)→
      (Instr.endRound (w.heap.size+1) b).run P u= .ok (.bool b.isNone) (u.putObj (w.heap.size+1) (.loop (j (if b.isNone then .ready else .done) b)))∧
      Z5 (pC lv) col w' col' (u.putObj (w.heap.size+1) (.loop (j (if b.isNone then .ready else .done) b)))∧
      Z5 (Zba lv rk) col' u col' (u.putObj (w.heap.size+1) (.loop (j (if b.isNone then .ready else .done) b)))∧
      Wt rk col' (u.putObj (w.heap.size+1) (.loop (j (if b.isNone then .ready else .done) b))) (w.heap.size+1) (j (if b.isNone then .ready else .done) b)∧
      Yp mc col' (u.putObj (w.heap.size+1) (.loop (j (if b.isNone then .ready else .done) b))) (w.heap.size :: ds):=by
     intro b col' u S L T
     have h5:=run_endRound (P:=P) b L.2
     have n:=X3.put (w:=u) (o:=.loop (j (if b.isNone then .ready else .done) b)) L.1
     refine ⟨by rw [s] at h5 ⊢;exact h5,S.kp n Ya.put b2,n.toP Ya.put (by simp [Zba]),L.put,T.kp n A⟩
    intro e a3 u U
    cases e with
    | normal=>
     obtain ⟨_,_,col',S,L,T,k4⟩:=U
     obtain ⟨q1,q2,q3,q4,q5⟩:=fin none col' u S T k4
     exact ⟨_,_,q1,col',q2,.inl ⟨rfl,hJ _ _ _ _ _ L q3,q4,q5⟩⟩
    | ret=>
     obtain ⟨_,_,col',S,L,T,k4⟩:=U
     obtain ⟨q1,q2,q3,q4,q5⟩:=fin (some .ret) col' u S T k4
     exact ⟨_,_,q1,col',q2,.inr ⟨rfl,.ret,hX _ _ _ _ _ L q3,q4,q5⟩⟩
    | exit i=>
     obtain ⟨_,_,col',S,L,T,k4⟩:=U
     obtain ⟨q1,q2,q3,q4,q5⟩:=fin (some (.exit i)) col' u S T k4
     exact ⟨_,_,q1,col',q2,.inr ⟨rfl,.exit i,hX _ _ _ _ _ L q3,q4,q5⟩⟩
    | goto l=>exact U.elim
    | panic c=>exact U.elim
    | outgrown=>exact U.elim
   | ret=>obtain ⟨_,_,h⟩:=G;exact h.elim
   | exit i=>obtain ⟨_,_,h⟩:=G;exact h.elim
   | goto l=>exact G.elim
   | panic c=>exact G.elim
   | outgrown=>exact G.elim
  ·rintro e w' ⟨⟨v,rfl⟩,col',G⟩
   have I:∀ D,Wd m { a with defers:=[{ target:=.collected D,args:=#[] }]++a.defers } (Z4 f 1000000 (enc (D :: ds))):=fun D=>by
    refine ⟨M.small,M.size,fun t ht=>?_,?_⟩
    ·have Q:aJ t 1000000=false:=by
      cases Q:aJ t 1000000
      ·rfl
      ·have:=aW Q;omega
     simp only [Z4,Q,cond_false];exact M.get t ht
    ·simp [Z4,Zcr,Za8,c2]
   rcases G with ⟨B,F,H⟩ | ⟨c,B,F,H⟩
   ·refine ⟨none,_,by rw [run_endLoop F.2 (by rw [s];simp),s],?_⟩
    have n:=X3.put (w:=w') (o:=.loop { j .ready none with state:=.exhausted }) F.1
    rw [s] at n
    exact ⟨_,I _,hdone _ _ _ (hJ _ _ _ _ _ B (n.toP Ya.put (by simp [Zba]))) (H.kp n A)⟩
   ·refine ⟨some c,_,by rw [run_endLoop F.2 (by rw [s];simp),s],?_⟩
    have n:=X3.put (w:=w') (o:=.loop { j .done (some c) with state:=.exhausted }) F.1
    rw [s] at n
    exact hstop c _ _ _ (hX _ _ _ _ _ B (n.toP Ya.put (by simp [Zba]))) (H.kp n A) _ (I _)

/-! ### a call of yield -/
section
variable {m:Nat} {ops:Array Oper} {K:Fr→World→Prop} {rest:List Oper} {d t:Nat} {p:String} {af:Array Edge} {ts:Array TypeId} {l:Nat} {x0 x1 x2:Operand} {v1 v2:Value} {C:Ending→World→Prop}
theorem ly1 {rd:Option Nat} (hd:aX d m=true) (hx:ev f x0= .func (.yield l) #[] #[]) (h1:ev f x1=v1) (hc:YieldAt (Y3 none) 0 P l #[v1] w C)
  (k:∀ e w',C e w'→∃ v,e= .returned v∧Zy P m rd ops K rest (Z4 f d v) w'):Zy P m rd ops K (⟨some d,.call { callee:=.value x0,args:=#[x1],argTypes:=ts },t,p,af,none⟩ :: rest) f w:=
 Zwq (o:=⟨some d,.call { callee:=.value x0,args:=#[x1],argTypes:=ts },t,p,af,none⟩) rfl rfl hd (by subst h1;simp [execOp,resolve,hx,Deferred.ofValue,invoke,Instr.yield]) hc k
theorem ly2 {rd:Option Nat} (hd:aX d m=true) (hx:ev f x0= .func (.yield l) #[] #[]) (h1:ev f x1=v1) (h2:ev f x2=v2) (hc:YieldAt (Y3 none) 0 P l #[v1,v2] w C)
  (k:∀ e w',C e w'→∃ v,e= .returned v∧Zy P m rd ops K rest (Z4 f d v) w'):Zy P m rd ops K (⟨some d,.call { callee:=.value x0,args:=#[x1,x2],argTypes:=ts },t,p,af,none⟩ :: rest) f w:=
 Zwq (o:=⟨some d,.call { callee:=.value x0,args:=#[x1,x2],argTypes:=ts },t,p,af,none⟩) rfl rfl hd (by subst h1 h2;simp [execOp,resolve,hx,Deferred.ofValue,invoke,Instr.yield]) hc k
end

/-! ### a row that was read as what stays,for a call:taken back -/
def Za.flat {α:Type} (r:Za α):Prop:=∀ {col w col' w' cs x bs},r.rd col w cs x bs→(∀ b ∈ bs,w'.heap[b]?=w.heap[b]?)→r.rd col' w' cs x bs
theorem Z3 (k:IntKind):(Za.int k).flat:=fun h _=>h
theorem Zkg:Za.bool.flat:=fun h _=>h
theorem Zam {α β:Type} {r:Za α} {s:Za β} (h:r.flat) (k:s.flat):(Za.pair r s).flat:=fun ⟨o,u,y,A,B,g,D,F⟩ n=>⟨o,u,y,A,B,g,h D fun b j=>n b (by rw [g];simp [j]),k F fun b j=>n b (by rw [g];simp [j])⟩
section
variable {α:Type} {r:Za α} {e i c:Nat} {col colz col':Zd} {w w':World} {xs:List α} {a:Option Addr} {cap:Nat} {x:α} {cs:List Value}
theorem Rows.flat (hf:r.flat) {colA colB:Zd} {wA wB:World}:∀ {xs:List α} {fl:List Value} {bs:List Nat},Rows r colA wA fl xs bs→(∀ b ∈ bs,wB.heap[b]?=wA.heap[b]?)→Rows r colB wB fl xs bs
 | [],_,_,h,_=>h
 | _ :: _,_,_,⟨cs,k,o,s,h,g,u,y⟩,n=>⟨cs,k,o,s,h,g,hf u fun b j=>n b (by rw [g];simp [j]),Rows.flat hf y fun b j=>n b (by rw [g];simp [j])⟩
theorem Ye.flat (hf:r.flat) {bs:List Nat} (h:Ye r e col w a cap xs bs) (hh:∀ b ∈ bs,w'.heap[b]?=w.heap[b]?):Ye r e col' w' a cap xs bs:=by
 obtain ⟨u,y,k,A,rfl⟩:=h
 refine ⟨u,y,⟨k.1,?_⟩,A.flat hf fun b j=>hh b (by simp [j]),rfl⟩
 rcases k.2 with h | ⟨g,B,n,o,j,s,rest⟩
 ·exact .inl h
 ·exact .inr ⟨g,B,n,o,j,by rw [hh g (by rw [o];simp [Value.ownBlock])];exact s,rest⟩
theorem Zan {e:TypeId} (h:r.flat):(Za.row e r).flat:=fun ⟨a,cap,b,g⟩ j=>⟨a,cap,b,g.flat h j⟩
def Fz (colz col:Zd):Prop:=∀ k,colz k≠0→colz k=col k
theorem Fz.refl:Fz col col:=fun _ _=>rfl
theorem Fz.froz (c:Nat) (h:Fz colz col):Fz (X5 c colz) col:=fun k b=>by
 unfold X5 at b ⊢
 split at b
 ·exact absurd rfl b
 ·rename_i g;rw [if_neg g];exact h k b
theorem Zn.thawR (h:Zn colz w col' w'):Zn col w (Xj w.heap.size col col') w':=⟨h.below,fun k b=>by simp [Xj,b]⟩
theorem X1.thaw {bs:List Nat} (h:X1 i col' bs) (hg:Zn colz w col' w') (hz:Fz colz col) (hi:i≠0:=by decide):X1 i (Xj w.heap.size col col') bs:=⟨h.1,fun g b=>by
 unfold Xj;split
 ·rename_i j
  have k:=h.2 g b
  have n:=hg.tint g j
  rw [← hz g (by rw [← n,k];exact hi),← n,k]
 ·exact h.2 g b⟩
theorem Zc.thaw (hf:r.flat) (h:Zc r e i col' w' a cap xs) (hg:Zn colz w col' w') (hz:Fz colz col) (hi:i≠0:=by decide):Zc r e i (Xj w.heap.size col col') w' a cap xs:=by
 obtain ⟨b,g,j⟩:=h
 exact ⟨b,g.flat hf fun _ _=>rfl,j.thaw hg hz hi⟩
end

/-! ### integers that came in -/
section
variable {α:Type} {r:Za α} {p:Nat→Bool} {e i c d:Nat} {col col':Zd} {w w':World} {xs:List α} {a:Option Addr} {cap:Nat}
theorem Wt.recol {l:Nat} {rc:Loop} (c d:Nat) (hc:i≠c∧c≠0:=by decide) (h:Wt i col w l rc):Wt i (X7 c d col) w l rc:=⟨by unfold X7;rw [h.1,if_neg hc.1],h.2⟩
theorem Yp.recol {mc:Nat} {ds:List Nat} (c d:Nat) (hc:mc≠c∧c≠0) (h:Yp mc col w ds):Yp mc (X7 c d col) w ds:=
 ⟨h.1,fun D b=>by
  obtain ⟨g,j⟩:=h.2 D b
  exact ⟨by unfold X7;rw [g,if_neg hc.1],j⟩⟩
theorem St.finBox {w0:World} {g:Nat} {cs:Array Value} {G:Nat→Nat} (h:St w0 (Zf col) col' w') (ho:Zj e i col' w' g cs) (h0:i≠0) (h9:i≠999) (hc:G i=c):Zj e c (Vh w0.heap.size col col' G) w' g cs:=by
 refine ⟨?_,ho.2⟩
 unfold Vh;split
 ·rename_i j;have b:=h.oldc g j;rw [ho.1] at b;unfold Zf at b;split at b <;> omega
 ·rw [ho.1,hc]
theorem Zj.itk {g:Nat} {cs:Array Value} {q:Nat→Bool} (h:Zj e i col w g cs) (_:w.heap.size≤w'.heap.size) (hk:∀ k,k<w.heap.size→q (col k)=true→col' k=col k∧w'.heap[k]?=w.heap[k]?) (hq:q i=true):Zj e i col' w' g cs:=by
 have b:=(Array.getElem?_eq_some_iff.1 h.2).1
 obtain ⟨j,n⟩:=hk g b (by rw [h.1];exact hq)
 exact ⟨j.trans h.1,n.trans h.2⟩
theorem Sl.itk {q:Nat→Bool} (h:Sl r col w a cap xs) (_:w.heap.size≤w'.heap.size) (hk:∀ k,k<w.heap.size→q (col k)=true→col' k=col k∧w'.heap[k]?=w.heap[k]?) (hq:q 0=true):Sl r col' w' a cap xs:=
 h.keep fun k b g=>by
  obtain ⟨j,n⟩:=hk k b (by rw [g];exact hq)
  exact ⟨j.trans g,n⟩
theorem It.keep {lv:Nat} {P:Program} {v:Value} {Y:Type} {arr:Y→Zd→World→List Value→Prop} {ys:List Y} (h:It P lv v arr ys qz col w) (hk:Yg col w col' w):It P lv v arr ys qz col' w:=
 h.step (bB _) fun k b j=>by
  have g:col k=0:=aW j
  obtain ⟨n,o⟩:=hk k b g
  exact ⟨n.trans g.symm,rfl⟩
end
section
variable {P:Program} {f:Fr} {w:World} {t fn:Nat} {dst:Option Nat} {p:String} {af:Array Edge} {x1 x2 x3:Operand} {v1 v2 v3:Value}
theorem Zy3 (h1:ev f x1=v1):(execOp (ev f) ⟨dst,.makeFunc (.func fn) #[] #[x1],t,p,af,none⟩).run P w= .ok (.value (.func (.func fn) #[] #[v1])) w:=by
 subst h1;simp [execOp,Instr.makeFunc]
theorem Zrw (h1:ev f x1=v1) (h2:ev f x2=v2):(execOp (ev f) ⟨dst,.makeFunc (.func fn) #[] #[x1,x2],t,p,af,none⟩).run P w= .ok (.value (.func (.func fn) #[] #[v1,v2])) w:=by
 subst h1 h2;simp [execOp,Instr.makeFunc]
end

/-! ### a call's end:the Za8 are taken -/
theorem X3.refl (c:Nat) (col:Zd) (w:World):X3 c col w col w:=⟨bB _,fun _ _=>rfl,fun _ _ _=>rfl⟩

theorem Zv8 {mc:Nat} {fn:Func} {tmps:Array Value} {C:Ending→World→Prop} {v:Value} (hr:∀ w,(results fn tmps).run P w= .ok v w):
  ∀ (ds:List Nat) (w:World),Yp mc col w ds→(∀ w',X3 mc col w col w'→Ya w w'→C (.returned v) w')→LeavesInM (Y3 none) 0 P fn tmps C (Za8 ds) .returning w
 | [],w,_,h=>⟨v,hr w,h w (X3.refl _ _ _) ⟨rfl,rfl,rfl⟩⟩
 | D :: ds,w,n,h=>by
  obtain ⟨g,b⟩:=n
  obtain ⟨u,y⟩:=b D (by simp)
  have A:=X3.put (w:=w) (o:=.deferred none) u
  refine ⟨(by intro h;cases h),.inl ⟨D,_,rfl,run_takeDeferred y,Zv8 hr ds _ ⟨(cQ.1 g).2,fun E j=>?_⟩ fun w' k s=>h w' (A.trans k) ⟨s.1,s.2.1,s.2.2⟩⟩⟩
  obtain ⟨B,F⟩:=b E (by simp [j])
  exact ⟨B,(World.putObj_heap_other (fun e=>(cQ.1 g).1 (by rw [← e];exact j))).trans F⟩

abbrev Zj3 (mc:Nat) (col:Zd) (w:World) (f:Fr) (C:World→Prop):Prop:=∃ ds,f 1000000=enc ds∧Yp mc col w ds∧∀ w',X3 mc col w col w'→Ya w w'→C w'

theorem Zv7 {mc:Nat} {fn:Func} {a:Act} {C:Ending→World→Prop} {v:Value} (ha:Wd m a f) (hr:∀ w,(results fn a.tmps).run P w= .ok v w) (h:∃ col,Zj3 mc col w f fun w=>C (.returned v) w):
  LeavesInM (Y3 none) 0 P fn a.tmps C a.defers .returning w:=by
 obtain ⟨col,b,g,j,k⟩:=h
 rw [ha.defers,g,Zcr]
 exact Zv8 hr b w j k

theorem Ztt {mc:Nat} {g:FuncId} {fn:Func} {c:Code} {args:List Value} {C:Ending→World→Prop} (hf:P.funcs[g]?=some fn) (hb:fn.body=some c) (hm:fn.ntmps=m) (hl:(dA args.length m&&dA m 1000000)=true)
  (hr:fn.results=#[]) (h:Wp P m none c (fun f w=>∃ col,Zj3 mc col w f fun w=>C (.returned (.tuple #[])) w) (fun f w=>∃ col,Zj3 mc col w f fun w=>C (.returned (.tuple #[])) w) (fun _ _ _=>False) (Z4 (Tn args 0) 1000000 (enc [])) w):Calls P g args.toArray w C:=
 Zco _ hf hb hm hl (fun _ _ _ b j=>Zv7 b (fun w=>by rw [results_none hr]) j) h
theorem Ztu {mc:Nat} {g:FuncId} {fn:Func} {c:Code} {args:List Value} {C:Ending→World→Prop} (r:Nat) (hf:P.funcs[g]?=some fn) (hb:fn.body=some c) (hm:fn.ntmps=m) (hl:(dA args.length m&&dA m 1000000)=true)
  (hr:fn.results=#[.tmp r]) (hlt:aX r 1000000=true) (h:Wp P m none c (fun f w=>∃ col,Zj3 mc col w f fun w=>C (.returned (f r)) w) (fun f w=>∃ col,Zj3 mc col w f fun w=>C (.returned (f r)) w) (fun _ _ _=>False) (Z4 (Tn args 0) 1000000 (enc [])) w):Calls P g args.toArray w C:=
 Zco _ hf hb hm hl (fun _ _ _ b j=>Zv7 b (fun w=>by rw [results_tmp hr,b.get _ (by simpa using hlt)]) j) h
end

/-! ### a region that draws its order,whose last operation alone turns the world -/
section
variable {P:Program} {m:Nat} {rd:Option Nat} {f:Fr} {col:Zd} {w:World}

end
end Go.Proofs.YthclpfhncgpnmaaGreat
