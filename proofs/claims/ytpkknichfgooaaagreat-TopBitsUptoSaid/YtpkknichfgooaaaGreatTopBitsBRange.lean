/-
  Ranges over functions: what a function that is gone over hands on ('It'), the rule for the statement ('wrange'), a call's end where such loops were in it. Also: a region that draws its order and whose last operation alone turns the world. Over any program.
-/
import Derived.Test.YtpkknichfgooaaaGreatTopBitsBLOps
namespace Go.Proofs.YtpkknichfgooaaaGreat
open Go Go.RowKit
open Nat renaming ble→cV,blt→aR,beq→aH,eq_of_beq_eq_true→aQ
open List renaming nodup_cons→cQ
open Go.IntKind (i8 i16 i32 i64 u8 u16 u32 u64)

section
variable {α:Type} {r:Zc α} {p q:Nat→Bool} {e c i:Nat} {col col' col'':Zg} {w w' w'':World} {xs:List α}

/-! the book-keeping of a loop over a function -/
def Wl (c:Nat) (col:Zg) (w:World) (l:Nat) (rc:Loop):Prop:=col l=c∧w.heap[l]?=some (.loop rc)
def Yq (mc:Nat) (col:Zg) (w:World) (ds:List Nat):Prop:=ds.Nodup∧∀ D ∈ ds,col D=mc∧w.heap[D]?=some (.deferred (some []))

theorem Wl.kpp {l:Nat} {rc:Loop} (h:Wl i col w l rc) (hk:Zu p col w col' w') (hi:p i=false:=by rfl):Wl i col' w' l rc:=by
 have b:=(Array.getElem?_eq_some_iff.1 h.2).1
 exact ⟨(hk.tint l b (by rw [h.1];exact hi)).trans h.1,by rw [hk.block l b (by rw [h.1];exact hi)];exact h.2⟩
theorem Wl.kp {l:Nat} {rc:Loop} (h:Wl i col w l rc) (hk:Yh c col w col' w') (hi:i≠c:=by decide):Wl i col' w' l rc:=by
 have b:=(Array.getElem?_eq_some_iff.1 h.2).1
 exact ⟨(hk.tint l b).trans h.1,by rw [hk.block l b (by rw [h.1];exact hi)];exact h.2⟩
theorem Wl.gr {l:Nat} {rc:Loop} (h:Wl i col w l rc) (hg:Zl col w col' w'):Wl i col' w' l rc:=h.kp (hg.keep (i+1)) (by omega)
theorem Wl.froz {l:Nat} {rc:Loop} (c:Nat) (h:Wl i col w l rc) (hi:i≠c:=by decide):Wl i (Xg c col) w l rc:=⟨by unfold Xg;rw [h.1,if_neg hi],h.2⟩
theorem Yq.kpp {mc:Nat} {ds:List Nat} (h:Yq mc col w ds) (hk:Zu p col w col' w') (hi:p mc=false:=by rfl):Yq mc col' w' ds:=
 ⟨h.1,fun D k=>by
  obtain ⟨g,j⟩:=h.2 D k
  have b:=(Array.getElem?_eq_some_iff.1 j).1
  exact ⟨(hk.tint D b (by rw [g];exact hi)).trans g,by rw [hk.block D b (by rw [g];exact hi)];exact j⟩⟩
theorem Yq.kp {mc:Nat} {ds:List Nat} (h:Yq mc col w ds) (hk:Yh c col w col' w') (hi:mc≠c:=by decide):Yq mc col' w' ds:=
 ⟨h.1,fun D k=>by
  obtain ⟨g,j⟩:=h.2 D k
  have b:=(Array.getElem?_eq_some_iff.1 j).1
  exact ⟨(hk.tint D b).trans g,by rw [hk.block D b (by rw [g];exact hi)];exact j⟩⟩
theorem Yq.gr {mc:Nat} {ds:List Nat} (h:Yq mc col w ds) (hg:Zl col w col' w'):Yq mc col' w' ds:=h.kp (hg.keep (mc+1)) (by omega)
theorem Yq.froz {mc:Nat} {ds:List Nat} (c:Nat) (h:Yq mc col w ds) (hi:mc≠c):Yq mc (Xg c col) w ds:=
 ⟨h.1,fun D b=>by
  obtain ⟨g,j⟩:=h.2 D b
  exact ⟨by unfold Xg;rw [g,if_neg hi],j⟩⟩
theorem Yq.nil {mc:Nat}:Yq mc col w []:=⟨List.nodup_nil,fun _ h=>by cases h⟩

def pI (lv:Nat):Nat→Bool:=fun c=>(cV 500 c&&aR c 999)||(aH lv 2&&cV 1000 c)
def Zbu (lv rc:Nat):Nat→Bool:=fun c=>aH c rc||pI lv c
def pC (lv:Nat):Nat→Bool:=fun c=>(aR 0 c&&aR c 450)||(cV 490 c&&aR c 499)||(aH lv 1&&cV 1000 c)
def q0:Nat→Bool:=fun c=>aH c 0||aH c 450
def q1:Nat→Bool:=fun c=>aH c 450||aH c 451
theorem Zbr {c:Nat} (h:pC 1 c=false):pC 2 c=false:=by
 simp only [pC,Bool.or_eq_false_iff] at h ⊢;exact ⟨h.1,rfl⟩
theorem Zzl {c:Nat} (h:pI 2 c=false):Zbu 1 1999 c=false:=by
 simp only [pI,Zbu,Bool.or_eq_false_iff] at h ⊢
 have b:cV 1000 c=false:=by have:=h.2;simpa using this
 refine ⟨?_,h.1,by simp⟩
 cases hb:aH c 1999
 ·rfl
 ·rw [aQ hb] at b;cases b
theorem Zzk {lv rc c:Nat} (h:Zbu lv rc c=false):pI lv c=false:=by
 simp only [Zbu,Bool.or_eq_false_iff] at h;exact h.2

def Zg9 (P:Program) (lv:Nat) (gf:Nat) (lb:List Value) {Y:Type} (arr:Y→Zg→World→List Value→Prop) (ys:List Y) (col:Zg) (w:World):Prop:=
 ∀ (l:Nat) (J:List Y→Zg→World→Prop) (X:Zg→World→Prop),
  (∀ ys col w col' w',J ys col w→Zu (pI lv) col w col' w'→J ys col' w')→(∀ col w col' w',X col w→Zu (pI lv) col w col' w'→X col' w')→
  (∀ y ys col w args,J (y :: ys) col w→arr y col w args→YieldAt (Yy none) 0 P l args.toArray w (fun e w'=>∃ col',Zu (pC lv) col w col' w'∧((e= .returned (.bool true)∧J ys col' w')∨(e= .returned (.bool false)∧X col' w'))))→
  J ys col w→Calls P gf (Value.func (.yield l) #[] #[] :: lb).toArray w (fun e w'=>(∃ v,e= .returned v)∧∃ col',J [] col' w'∨X col' w')

def It (P:Program) (lv:Nat) (v:Value) {Y:Type} (arr:Y→Zg→World→List Value→Prop) (ys:List Y) (p:Nat→Bool) (col:Zg) (w:World):Prop:=
 ∃ gf lb,v= .func (.func gf) #[] lb.toArray∧(∀ args w,(callFunc gf args).run P w= .ok (.enter gf args) w)∧
  ∀ col' w',w.heap.size≤w'.heap.size→(∀ k,k<w.heap.size→p (col k)=true→col' k=col k∧w'.heap[k]?=w.heap[k]?)→Zg9 P lv gf lb arr ys col' w'

theorem It.step {lv:Nat} {P:Program} {v:Value} {Y:Type} {arr:Y→Zg→World→List Value→Prop} {ys:List Y} (h:It P lv v arr ys q col w) (hs:w.heap.size≤w'.heap.size)
  (hk:∀ k,k<w.heap.size→q (col k)=true→col' k=col k∧w'.heap[k]?=w.heap[k]?):It P lv v arr ys q col' w':=by
 obtain ⟨u,y,A,B,D⟩:=h
 refine ⟨u,y,A,B,fun g F j n=>D g F (Nat.le_trans hs j) fun k b o=>?_⟩
 obtain ⟨s,G⟩:=hk k b o
 obtain ⟨H,I⟩:=n k (Nat.lt_of_lt_of_le b hs) (by rw [s];exact o)
 exact ⟨H.trans s,I.trans G⟩
section
variable {P:Program} {v:Value} {Y:Type} {arr:Y→Zg→World→List Value→Prop} {ys:List Y}
theorem It.gr {lv:Nat} (h:It P lv v arr ys q col w) (hg:Zl col w col' w'):It P lv v arr ys q col' w':=
 h.step hg.below.size fun k b _=>⟨hg.tint k b,hg.below.block k b⟩
end
end

/-! ### the statement -/
section
variable {P:Program} {m:Nat} {N R:Fr→World→Prop} {E:Nat→Fr→World→Prop} {f:Fr} {w:World} {col:Zg}

def Zni (f:Fr):List Nat→List Value→Fr
 | p :: ps,v :: vs=>Zni (Z3 f p v) ps vs
 | _,_=>f

theorem Y8.args {a:Act}:∀ (ps:List Nat) (vs:List Value) (f:Fr) (t:Array Value),t.size=m→m≤1000000→(∀ x,x<1000000→t.getD x undef=f x)→(ps.all fun x=>aR x m)=true→f 1000000=enc []→
  Y8 m { tmps:=(ps.zip vs).foldl (fun t (q:Nat×Value)=>t.setIfInBounds q.1 q.2) t,defers:=[] } (Zni f ps vs)
 | [],_,f,t,b,j,k,_,n=>⟨j,b,k,by simp only [Zni,n,Zdg,Zc2];rfl⟩
 | p :: ps,[],f,t,b,j,k,_,n=>⟨j,b,k,by simp only [Zni,n,Zdg,Zc2];rfl⟩
 | p :: ps,v :: vs,f,t,b,j,k,o,n=>by
  simp only [List.all_cons,Bool.and_eq_true,Nat.blt_eq] at o
  refine Y8.args (a:=a) ps vs (Z3 f p v) (t.setIfInBounds p v) (by simpa using b) j (fun x u=>?_) o.2 ?_
  ·have h:=k x u
   unfold Z3
   cases g:aH x p
   ·have s:p≠x:=by intro e;subst e;simp at g
    simp only [Array.getD_eq_getD_getElem?,cond_false] at h ⊢
    rw [Array.getElem?_setIfInBounds_ne s];exact h
   ·have:=aQ g;subst this
    simp [b,o.1]
  ·have g:aH 1000000 p=false:=by
    cases g:aH 1000000 p
    ·rfl
    ·have:=aQ g;omega
   simp only [Z3,g,cond_false];exact n

theorem Yh.put {c:Nat} {l:Nat} {o:Obj} (hl:col l=c):Yh c col w col (w.putObj l o):=
 ⟨by simp,fun _ _=>rfl,fun k _ b=>World.putObj_heap_other (fun e=>b (by rw [e];exact hl))⟩
theorem Yn.put {l:Nat} {o:Obj}:Yn w (w.putObj l o):=⟨rfl,rfl,rfl⟩

theorem Wl.put {c l:Nat} {rc rc':Loop} (h:Wl c col w l rc):Wl c col (w.putObj l (.loop rc')) l rc':=⟨h.1,World.putObj_heap_same (Array.getElem?_eq_some_iff.1 h.2).1⟩

theorem Znk {lv mc:Nat} {g:Operand} {psl:List Nat} {assign body:Code} {Y:Type} {v:Value} {arr:Y→Zg→World→List Value→Prop} {ys:List Y} {q:Nat→Bool} {ds:List Nat} (rk:Nat)
  (hg:ev f g=v) (hit:It P lv v arr ys q col w) (h0:f 1000000=enc ds) (hmk:Yq mc col w ds) (hrk:(pC lv rk&&(!pI lv rk&&(!aH mc rk&&!pI lv mc)))=true) (hps:(psl.all fun x=>aR x m)=true)
  (harr:∀ y col w args,arr y col w args→args.length=psl.length)
  (J:List Y→Zg→World→Prop) (X:Code→Zg→World→Prop)
  (hJ:∀ ys col w col' w',J ys col w→Zu (Zbu lv rk) col w col' w'→J ys col' w') (hX:∀ c col w col' w',X c col w→Zu (Zbu lv rk) col w col' w'→X c col' w')
  (hJ0:J ys col w)
  (hround:∀ l rc ds y ys col w args,J (y :: ys) col w→Wl rk col w l rc→Yq mc col w ds→arr y col w args→
   Wp P m (some l) assign (fun f' w1=>∃ col1,Wl rk col1 w1 l rc∧∀ w2 rc,Yh rk col1 w1 col1 w2→Yn w1 w2→Wl rk col1 w2 l rc→
     Wp P m (some l) body (fun _ w'=>∃ col',Zu (pC lv) col w col' w'∧J ys col' w'∧Wl rk col' w' l rc∧Yq mc col' w' ds)
      (fun _ w'=>∃ col',Zu (pC lv) col w col' w'∧X .ret col' w'∧Wl rk col' w' l rc∧Yq mc col' w' ds)
      (fun i _ w'=>∃ col',Zu (pC lv) col w col' w'∧X (.exit i) col' w'∧Wl rk col' w' l rc∧Yq mc col' w' ds) f' w2)
    (fun _ _=>False) (fun _ _ _=>False) (Zni (Z3 f 1000000 (enc [])) psl args) w)
  (hdone:∀ D col' w',J [] col' w'→Yq mc col' w' (D :: ds)→N (Z3 f 1000000 (enc (D :: ds))) w')
  (hstop:∀ c D col' w',X c col' w'→Yq mc col' w' (D :: ds)→Wp P m none c N R E (Z3 f 1000000 (enc (D :: ds))) w'):
  Wp P m none (.rangeFunc g psl.toArray assign body) N R E f w:=by
 intro a M
 simp only [Bool.and_eq_true,Bool.not_eq_true'] at hrk
 obtain ⟨b2,V,A,a9⟩:=hrk
 replace A:mc≠rk:=fun e=>by rw [e,show aH rk rk=true from Nat.beq_refl rk] at A;cases A
 obtain ⟨gf,W,rfl,b8,a7⟩:=hit
 refine wpIn_rangeFunc fun fn d1=>?_
 obtain ⟨j,s⟩:∃ j:LoopState→Option Code→Loop,j=fun st pe=>{ state:=st,pending:=pe,fn,tmps:=a.tmps,params:=psl.toArray,assign,body,defers:=w.heap.size }:=⟨_,rfl⟩
 let w1:=(w.alloc (.deferred (some []))).alloc (.loop (j .ready none))
 let col1:Zg:=fun k=>if k<w.heap.size then col k else if k=w.heap.size then mc else rk
 have O:Zl col w col1 w1:=⟨((Below.refl _ w).alloc (Nat.le_refl _) _).alloc (by simp) _,fun k n=>by simp [col1,n]⟩
 have b9:Wl rk col1 w1 (w.heap.size+1) (j .ready none):=⟨by show (if _ then _ else if _ then _ else _)=rk;rw [if_neg (by omega),if_neg (by omega)],by
  have:=World.alloc_heap_new (w.alloc (.deferred (some []))) (.loop (j .ready none));rwa [World.size_alloc] at this⟩
 have c0:w1.heap[w.heap.size]?=some (.deferred (some [])):=(Below.heap_alloc _ _ _ (by simp)).trans (World.alloc_heap_new w _)
 have c1:Yq mc col1 w1 (w.heap.size :: ds):=by
  have B:=hmk.gr O
  refine ⟨cQ.2 ⟨fun h=>?_,B.1⟩,fun D hD=>?_⟩
  ·have:=(Array.getElem?_eq_some_iff.1 (hmk.2 _ h).2).1;omega
  ·rcases List.mem_cons.1 hD with rfl | hD
   ·exact ⟨by simp [col1],c0⟩
   ·exact B.2 D hD
 have c2:a.defers=Zc2 ds:=by rw [M.defers,h0,Zdg]
 have c3:a.eval g= .func (.func gf) #[] W.toArray:=by rw [M.eval];exact hg
 refine ⟨w.heap.size+1,[{ target:=.collected w.heap.size,args:=#[] }],w1,{ target:=.fn (.func gf) W.toArray,args:=#[.func (.yield (w.heap.size+1)) #[] #[]] },w1,gf,
  #[.func (.yield (w.heap.size+1)) #[] #[]]++W.toArray,w1,?_,?_,?_,?_,fun h=>(by cases h),?_⟩
 ·rw [show (Yy none).round=none from rfl]
  simp only [w1];rw [s];exact run_enterLoop_outer _ _ _ _ _
 ·simp only [resolve,c3]
  simp [go_sem]
 ·intro f' b0;trivial
 ·simp [invoke,go_sem,b8]
 ·have c4:=a7 col1 w1 O.below.size (fun k n _=>⟨O.tint k n,O.below.block k n⟩)
  have b5:#[Value.func (.yield (w.heap.size+1)) #[] #[]]++W.toArray=(Value.func (.yield (w.heap.size+1)) #[] #[] :: W).toArray:=by simp
  rw [b5]
  refine Zq9 ((c4 (w.heap.size+1) (fun ys col w'=>J ys col w'∧Wl rk col w' (w.heap.size+1) (j .ready none)∧Yq mc col w' (w.heap.size :: ds))
   (fun col w'=>∃ c,X c col w'∧Wl rk col w' (w.heap.size+1) (j .done (some c))∧Yq mc col w' (w.heap.size :: ds)) ?_ ?_ ?_ ⟨hJ _ _ _ _ _ hJ0 O.toP,b9,c1⟩).mono ?_) none _
  ·rintro ys col w col' w' ⟨B,F,H⟩ n
   exact ⟨hJ _ _ _ _ _ B (n.mono fun _=>Zzk),F.kpp n V,H.kpp n a9⟩
  ·rintro col w col' w' ⟨c,B,F,H⟩ n
   exact ⟨c,hX _ _ _ _ _ B (n.mono fun _=>Zzk),F.kpp n V,H.kpp n a9⟩
  ·rintro y ys col w' args ⟨B,F,H⟩ hy
   have b6:=harr _ _ _ _ hy
   have b1:=run_yield (P:=P) (args:=args.toArray) F.2 (by rw [s];simp [b6])
   rw [s] at b1
   refine ⟨fn,_,assign,body,b1,roundIn_of_wpIn trivial ?_⟩
   have I:=Y8.args (a:=a) psl args (Z3 f 1000000 (enc [])) a.tmps M.size M.small (fun x hx=>by
    rw [M.get x hx];unfold Z3
    have:aH x 1000000=false:=by
     cases Q:aH x 1000000
     ·rfl
     ·have:=aQ Q;omega
    rw [this];rfl) hps (by simp [Z3])
   have b7:(psl.toArray.zip args.toArray).foldl (fun tmps (x:Tmp×Value)=>tmps.setIfInBounds x.1 x.2) a.tmps=(psl.zip args).foldl (fun t (q:Nat×Value)=>t.setIfInBounds q.1 q.2) a.tmps:=by
    rw [← Array.foldl_toList];simp
   have a8:(psl.toArray.zip args.toArray).foldl (fun tmps x=>match x with | (t,a)=>tmps.setIfInBounds t a) a.tmps=(psl.zip args).foldl (fun t (q:Nat×Value)=>t.setIfInBounds q.1 q.2) a.tmps:=b7
   rw [show (Yy none).inRound (w.heap.size+1)=Yy (some (w.heap.size+1)) from rfl]
   have c6:=hround (w.heap.size+1) (j .ready none) (w.heap.size :: ds) y ys col w' args B F H hy
   refine wpIn_mono (by rw [a8];exact c6 _ I) ?_
   intro e a1 w2 G
   cases e with
   | normal=>
    obtain ⟨f',b0,col1,Z,G⟩:=G
    refine ⟨_,run_beginRound Z.2 (by rw [s]),?_⟩
    have Q:=G _ _ (Yh.put (o:=.loop { j .ready none with state:=.busy }) Z.1) Yn.put (Z.put) _ b0
    refine wpIn_mono Q ?_
    have fin:∀ (b:Option Code) (col':Zg) (u:World),Zu (pC lv) col w' col' u→Wl rk col' u (w.heap.size+1) { j .ready none with state:=.busy }→Yq mc col' u (w.heap.size :: ds)→
      (Instr.endRound (w.heap.size+1) b).run P u= .ok (.bool b.isNone) (u.putObj (w.heap.size+1) (.loop (j (if b.isNone then .ready else .done) b)))∧
      Zu (pC lv) col w' col' (u.putObj (w.heap.size+1) (.loop (j (if b.isNone then .ready else .done) b)))∧
      Zu (Zbu lv rk) col' u col' (u.putObj (w.heap.size+1) (.loop (j (if b.isNone then .ready else .done) b)))∧
      Wl rk col' (u.putObj (w.heap.size+1) (.loop (j (if b.isNone then .ready else .done) b))) (w.heap.size+1) (j (if b.isNone then .ready else .done) b)∧
      Yq mc col' (u.putObj (w.heap.size+1) (.loop (j (if b.isNone then .ready else .done) b))) (w.heap.size :: ds):=by
     intro b col' u S L T
     have h5:=run_endRound (P:=P) b L.2
     have n:=Yh.put (w:=u) (o:=.loop (j (if b.isNone then .ready else .done) b)) L.1
     refine ⟨by rw [s] at h5 ⊢;exact h5,S.kp n Yn.put b2,n.toP Yn.put (by simp [Zbu]),L.put,T.kp n A⟩
    intro e a3 u U
    cases e with
    | normal=>
     obtain ⟨_,_,col',S,L,T,k4⟩:=U
     obtain ⟨q1,q2,q3,q4,q5⟩:=fin none col' u S T k4
     exact ⟨_,_,q1,col',q2,.inl ⟨rfl,hJ _ _ _ _ _ L q3,q4,q5⟩⟩
    | ret=>
     obtain ⟨_,_,col',S,L,T,k4⟩:=U
     obtain ⟨q1,q2,q3,q4,q5⟩:=fin (some .ret) col' u S T k4
     exact ⟨_,_,q1,col',q2,.inr ⟨rfl,.ret,hX _ _ _ _ _ L q3,q4,q5⟩⟩
    | exit i=>
     obtain ⟨_,_,col',S,L,T,k4⟩:=U
     obtain ⟨q1,q2,q3,q4,q5⟩:=fin (some (.exit i)) col' u S T k4
     exact ⟨_,_,q1,col',q2,.inr ⟨rfl,.exit i,hX _ _ _ _ _ L q3,q4,q5⟩⟩
    | goto l=>exact U.elim
    | panic c=>exact U.elim
    | outgrown=>exact U.elim
   | ret=>obtain ⟨_,_,h⟩:=G;exact h.elim
   | exit i=>obtain ⟨_,_,h⟩:=G;exact h.elim
   | goto l=>exact G.elim
   | panic c=>exact G.elim
   | outgrown=>exact G.elim
  ·rintro e w' ⟨⟨v,rfl⟩,col',G⟩
   have I:∀ D,Y8 m { a with defers:=[{ target:=.collected D,args:=#[] }]++a.defers } (Z3 f 1000000 (enc (D :: ds))):=fun D=>by
    refine ⟨M.small,M.size,fun t ht=>?_,?_⟩
    ·have Q:aH t 1000000=false:=by
      cases Q:aH t 1000000
      ·rfl
      ·have:=aQ Q;omega
     simp only [Z3,Q,cond_false];exact M.get t ht
    ·simp [Z3,Zdg,Zc2,c2]
   rcases G with ⟨B,F,H⟩ | ⟨c,B,F,H⟩
   ·refine ⟨none,_,by rw [run_endLoop F.2 (by rw [s];simp),s],?_⟩
    have n:=Yh.put (w:=w') (o:=.loop { j .ready none with state:=.exhausted }) F.1
    rw [s] at n
    exact ⟨_,I _,hdone _ _ _ (hJ _ _ _ _ _ B (n.toP Yn.put (by simp [Zbu]))) (H.kp n A)⟩
   ·refine ⟨some c,_,by rw [run_endLoop F.2 (by rw [s];simp),s],?_⟩
    have n:=Yh.put (w:=w') (o:=.loop { j .done (some c) with state:=.exhausted }) F.1
    rw [s] at n
    exact hstop c _ _ _ (hX _ _ _ _ _ B (n.toP Yn.put (by simp [Zbu]))) (H.kp n A) _ (I _)

/-! ### a call of yield -/
section
variable {m:Nat} {ops:Array Oper} {K:Fr→World→Prop} {rest:List Oper} {d t:Nat} {p:String} {af:Array Edge} {ts:Array TypeId} {l:Nat} {x0 x1 x2:Operand} {v1 v2:Value} {C:Ending→World→Prop}
theorem ly1 {rd:Option Nat} (hd:aR d m=true) (hx:ev f x0= .func (.yield l) #[] #[]) (h1:ev f x1=v1) (hc:YieldAt (Yy none) 0 P l #[v1] w C)
  (k:∀ e w',C e w'→∃ v,e= .returned v∧Zv P m rd ops K rest (Z3 f d v) w'):Zv P m rd ops K (⟨some d,.call { callee:=.value x0,args:=#[x1],argTypes:=ts },t,p,af,none⟩ :: rest) f w:=
 Zyj (o:=⟨some d,.call { callee:=.value x0,args:=#[x1],argTypes:=ts },t,p,af,none⟩) rfl rfl hd (by subst h1;simp [execOp,resolve,hx,Deferred.ofValue,invoke,Instr.yield]) hc k
theorem ly2 {rd:Option Nat} (hd:aR d m=true) (hx:ev f x0= .func (.yield l) #[] #[]) (h1:ev f x1=v1) (h2:ev f x2=v2) (hc:YieldAt (Yy none) 0 P l #[v1,v2] w C)
  (k:∀ e w',C e w'→∃ v,e= .returned v∧Zv P m rd ops K rest (Z3 f d v) w'):Zv P m rd ops K (⟨some d,.call { callee:=.value x0,args:=#[x1,x2],argTypes:=ts },t,p,af,none⟩ :: rest) f w:=
 Zyj (o:=⟨some d,.call { callee:=.value x0,args:=#[x1,x2],argTypes:=ts },t,p,af,none⟩) rfl rfl hd (by subst h1 h2;simp [execOp,resolve,hx,Deferred.ofValue,invoke,Instr.yield]) hc k
end

/-! ### a row that was read as what stays,for a call:taken back -/
def Zc.flat {α:Type} (r:Zc α):Prop:=∀ {col w col' w' cs x bs},r.rd col w cs x bs→(∀ b ∈ bs,w'.heap[b]?=w.heap[b]?)→r.rd col' w' cs x bs
theorem Zt (k:IntKind):(Zc.int k).flat:=fun h _=>h
section
variable {α:Type} {r:Zc α} {e i c:Nat} {col colz col':Zg} {w w':World} {xs:List α} {a:Option Addr} {cap:Nat} {x:α} {cs:List Value}
theorem Rows.flat (hf:r.flat) {colA colB:Zg} {wA wB:World}:∀ {xs:List α} {fl:List Value} {bs:List Nat},Rows r colA wA fl xs bs→(∀ b ∈ bs,wB.heap[b]?=wA.heap[b]?)→Rows r colB wB fl xs bs
 | [],_,_,h,_=>h
 | _ :: _,_,_,⟨cs,k,o,s,h,g,u,y⟩,n=>⟨cs,k,o,s,h,g,hf u fun b j=>n b (by rw [g];simp [j]),Rows.flat hf y fun b j=>n b (by rw [g];simp [j])⟩
theorem Yt.flat (hf:r.flat) {bs:List Nat} (h:Yt r e col w a cap xs bs) (hh:∀ b ∈ bs,w'.heap[b]?=w.heap[b]?):Yt r e col' w' a cap xs bs:=by
 obtain ⟨u,y,k,A,rfl⟩:=h
 refine ⟨u,y,⟨k.1,?_⟩,A.flat hf fun b j=>hh b (by simp [j]),rfl⟩
 rcases k.2 with h | ⟨g,B,n,o,j,s,rest⟩
 ·exact .inl h
 ·exact .inr ⟨g,B,n,o,j,by rw [hh g (by rw [o];simp [Value.ownBlock])];exact s,rest⟩
def Fz (colz col:Zg):Prop:=∀ k,colz k≠0→colz k=col k
theorem Fz.refl:Fz col col:=fun _ _=>rfl
theorem Fz.froz (c:Nat) (h:Fz colz col):Fz (Xg c colz) col:=fun k b=>by
 unfold Xg at b ⊢
 split at b
 ·exact absurd rfl b
 ·rename_i g;rw [if_neg g];exact h k b
theorem Zl.thawR (h:Zl colz w col' w'):Zl col w (Z2 w.heap.size col col') w':=⟨h.below,fun k b=>by simp [Z2,b]⟩
theorem X8.thaw {bs:List Nat} (h:X8 i col' bs) (hg:Zl colz w col' w') (hz:Fz colz col) (hi:i≠0:=by decide):X8 i (Z2 w.heap.size col col') bs:=⟨h.1,fun g b=>by
 unfold Z2;split
 ·rename_i j
  have k:=h.2 g b
  have n:=hg.tint g j
  rw [← hz g (by rw [← n,k];exact hi),← n,k]
 ·exact h.2 g b⟩
theorem Zb.thaw (hf:r.flat) (h:Zb r e i col' w' a cap xs) (hg:Zl colz w col' w') (hz:Fz colz col) (hi:i≠0:=by decide):Zb r e i (Z2 w.heap.size col col') w' a cap xs:=by
 obtain ⟨b,g,j⟩:=h
 exact ⟨b,g.flat hf fun _ _=>rfl,j.thaw hg hz hi⟩
end

/-! ### integers that came in -/
section
variable {α:Type} {r:Zc α} {p:Nat→Bool} {e i c d:Nat} {col col':Zg} {w w':World} {xs:List α} {a:Option Addr} {cap:Nat}
theorem Wl.recol {l:Nat} {rc:Loop} (c d:Nat) (hc:i≠c∧c≠0:=by decide) (h:Wl i col w l rc):Wl i (Xq c d col) w l rc:=⟨by unfold Xq;rw [h.1,if_neg hc.1],h.2⟩
theorem Yq.recol {mc:Nat} {ds:List Nat} (c d:Nat) (hc:mc≠c∧c≠0) (h:Yq mc col w ds):Yq mc (Xq c d col) w ds:=
 ⟨h.1,fun D b=>by
  obtain ⟨g,j⟩:=h.2 D b
  exact ⟨by unfold Xq;rw [g,if_neg hc.1],j⟩⟩
theorem St.finBox {w0:World} {g:Nat} {cs:Array Value} {G:Nat→Nat} (h:St w0 (Zk col) col' w') (ho:Zi e i col' w' g cs) (h0:i≠0) (h9:i≠999) (hc:G i=c):Zi e c (Uc w0.heap.size col col' G) w' g cs:=by
 refine ⟨?_,ho.2⟩
 unfold Uc;split
 ·rename_i j;have b:=h.oldc g j;rw [ho.1] at b;unfold Zk at b;split at b <;> omega
 ·rw [ho.1,hc]
theorem Zi.itk {g:Nat} {cs:Array Value} {q:Nat→Bool} (h:Zi e i col w g cs) (_:w.heap.size≤w'.heap.size) (hk:∀ k,k<w.heap.size→q (col k)=true→col' k=col k∧w'.heap[k]?=w.heap[k]?) (hq:q i=true):Zi e i col' w' g cs:=by
 have b:=(Array.getElem?_eq_some_iff.1 h.2).1
 obtain ⟨j,n⟩:=hk g b (by rw [h.1];exact hq)
 exact ⟨j.trans h.1,n.trans h.2⟩
theorem Sl.itk {q:Nat→Bool} (h:Sl r col w a cap xs) (_:w.heap.size≤w'.heap.size) (hk:∀ k,k<w.heap.size→q (col k)=true→col' k=col k∧w'.heap[k]?=w.heap[k]?) (hq:q 0=true):Sl r col' w' a cap xs:=
 h.keep fun k b g=>by
  obtain ⟨j,n⟩:=hk k b (by rw [g];exact hq)
  exact ⟨j.trans g,n⟩
end
section
variable {P:Program} {f:Fr} {w:World} {t fn:Nat} {dst:Option Nat} {p:String} {af:Array Edge} {x1 x2 x3:Operand} {v1 v2 v3:Value}
theorem Zpx (h1:ev f x1=v1):(execOp (ev f) ⟨dst,.makeFunc (.func fn) #[] #[x1],t,p,af,none⟩).run P w= .ok (.value (.func (.func fn) #[] #[v1])) w:=by
 subst h1;simp [execOp,Instr.makeFunc]
theorem Zs8 (h1:ev f x1=v1) (h2:ev f x2=v2):(execOp (ev f) ⟨dst,.makeFunc (.func fn) #[] #[x1,x2],t,p,af,none⟩).run P w= .ok (.value (.func (.func fn) #[] #[v1,v2])) w:=by
 subst h1 h2;simp [execOp,Instr.makeFunc]
end

/-! ### a call's end:the Zc2 are taken -/
theorem Yh.refl (c:Nat) (col:Zg) (w:World):Yh c col w col w:=⟨Nat.le_refl _,fun _ _=>rfl,fun _ _ _=>rfl⟩

theorem Zx6 {mc:Nat} {fn:Func} {tmps:Array Value} {C:Ending→World→Prop} {v:Value} (hr:∀ w,(results fn tmps).run P w= .ok v w):
  ∀ (ds:List Nat) (w:World),Yq mc col w ds→(∀ w',Yh mc col w col w'→Yn w w'→C (.returned v) w')→LeavesInM (Yy none) 0 P fn tmps C (Zc2 ds) .returning w
 | [],w,_,h=>⟨v,hr w,h w (Yh.refl _ _ _) ⟨rfl,rfl,rfl⟩⟩
 | D :: ds,w,n,h=>by
  obtain ⟨g,b⟩:=n
  obtain ⟨u,y⟩:=b D (by simp)
  have A:=Yh.put (w:=w) (o:=.deferred none) u
  refine ⟨(by intro h;cases h),.inl ⟨D,_,rfl,run_takeDeferred y,Zx6 hr ds _ ⟨(cQ.1 g).2,fun E j=>?_⟩ fun w' k s=>h w' (A.trans k) ⟨s.1,s.2.1,s.2.2⟩⟩⟩
  obtain ⟨B,F⟩:=b E (by simp [j])
  exact ⟨B,(World.putObj_heap_other (fun e=>(cQ.1 g).1 (by rw [← e];exact j))).trans F⟩

abbrev Zkp (mc:Nat) (col:Zg) (w:World) (f:Fr) (C:World→Prop):Prop:=∃ ds,f 1000000=enc ds∧Yq mc col w ds∧∀ w',Yh mc col w col w'→Yn w w'→C w'

theorem Zx5 {mc:Nat} {fn:Func} {a:Act} {C:Ending→World→Prop} {v:Value} (ha:Y8 m a f) (hr:∀ w,(results fn a.tmps).run P w= .ok v w) (h:∃ col,Zkp mc col w f fun w=>C (.returned v) w):
  LeavesInM (Yy none) 0 P fn a.tmps C a.defers .returning w:=by
 obtain ⟨col,b,g,j,k⟩:=h
 rw [ha.defers,g,Zdg]
 exact Zx6 hr b w j k

theorem Zvh {mc:Nat} {g:FuncId} {fn:Func} {c:Code} {args:List Value} {C:Ending→World→Prop} (hf:P.funcs[g]?=some fn) (hb:fn.body=some c) (hm:fn.ntmps=m) (hl:(cV args.length m&&cV m 1000000)=true)
  (hr:fn.results=#[]) (h:Wp P m none c (fun f w=>∃ col,Zkp mc col w f fun w=>C (.returned (.tuple #[])) w) (fun f w=>∃ col,Zkp mc col w f fun w=>C (.returned (.tuple #[])) w) (fun _ _ _=>False) (Z3 (Sn args 0) 1000000 (enc [])) w):Calls P g args.toArray w C:=
 Zdd _ hf hb hm hl (fun _ _ _ b j=>Zx5 b (fun w=>by rw [results_none hr]) j) h
theorem Z5q {mc:Nat} {g:FuncId} {fn:Func} {c:Code} {args:List Value} {C:Ending→World→Prop} (r:Nat) (hf:P.funcs[g]?=some fn) (hb:fn.body=some c) (hm:fn.ntmps=m) (hl:(cV args.length m&&cV m 1000000)=true)
  (hr:fn.results=#[.tmp r]) (hlt:aR r 1000000=true) (h:Wp P m none c (fun f w=>∃ col,Zkp mc col w f fun w=>C (.returned (f r)) w) (fun f w=>∃ col,Zkp mc col w f fun w=>C (.returned (f r)) w) (fun _ _ _=>False) (Z3 (Sn args 0) 1000000 (enc [])) w):Calls P g args.toArray w C:=
 Zdd _ hf hb hm hl (fun _ _ _ b j=>Zx5 b (fun w=>by rw [results_tmp hr,b.get _ (by simpa using hlt)]) j) h
end

/-! ### a region that draws its order,whose last operation alone turns the world -/
section
variable {P:Program} {m:Nat} {rd:Option Nat} {f:Fr} {col:Zg} {w:World}

end
end Go.Proofs.YtpkknichfgooaaaGreat
