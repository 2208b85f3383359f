/-
  Ranges over functions: what a function that is gone over hands on ('It'), the rule for the statement ('wrange'), a call's end where such loops were in it. Also: a region that draws its order and whose last operation alone turns the world. Over any program.
-/
import Derived.Test.YtdpdogdkolblnaaGreatDoorQueryAskBLOps
namespace Go.Proofs.YtdpdogdkolblnaaGreatDoor
open Go Go.RowKit
open Go.IntKind (i8 i16 i32 i64 u8 u16 u32 u64)

section
variable {α:Type} {r:Za α} {p q:Nat→Bool} {e c i:Nat} {col col' col'':Zd} {w w' w'':World} {xs:List α}

/-! the book-keeping of a loop over a function -/
def W1 (c:Nat) (col:Zd) (w:World) (l:Nat) (rc:Loop):Prop:=col l=c∧w.heap[l]?=some (.loop rc)
def Y8 (mc:Nat) (col:Zd) (w:World) (ds:List Nat):Prop:=ds.Nodup∧∀ D ∈ ds,col D=mc∧w.heap[D]?=some (.deferred (some []))

theorem W1.kpp {l:Nat} {rc:Loop} (h:W1 i col w l rc) (hk:Zs p col w col' w') (hi:p i=false:=by rfl):W1 i col' w' l rc:=by
 have hlt:=(Array.getElem?_eq_some_iff.1 h.2).1
 exact ⟨(hk.tint l hlt (by rw [h.1];exact hi)).trans h.1,by rw [hk.block l hlt (by rw [h.1];exact hi)];exact h.2⟩
theorem W1.kp {l:Nat} {rc:Loop} (h:W1 i col w l rc) (hk:Xe c col w col' w') (hi:i≠c:=by decide):W1 i col' w' l rc:=by
 have hlt:=(Array.getElem?_eq_some_iff.1 h.2).1
 exact ⟨(hk.tint l hlt).trans h.1,by rw [hk.block l hlt (by rw [h.1];exact hi)];exact h.2⟩
theorem W1.gr {l:Nat} {rc:Loop} (h:W1 i col w l rc) (hg:Zg col w col' w'):W1 i col' w' l rc:=h.kp (hg.keep (i+1)) (by omega)
theorem Y8.kpp {mc:Nat} {ds:List Nat} (h:Y8 mc col w ds) (hk:Zs p col w col' w') (hi:p mc=false:=by rfl):Y8 mc col' w' ds:=
 ⟨h.1,fun D hD=>by
  obtain ⟨h1,h2⟩:=h.2 D hD
  have hlt:=(Array.getElem?_eq_some_iff.1 h2).1
  exact ⟨(hk.tint D hlt (by rw [h1];exact hi)).trans h1,by rw [hk.block D hlt (by rw [h1];exact hi)];exact h2⟩⟩
theorem Y8.kp {mc:Nat} {ds:List Nat} (h:Y8 mc col w ds) (hk:Xe c col w col' w') (hi:mc≠c:=by decide):Y8 mc col' w' ds:=
 ⟨h.1,fun D hD=>by
  obtain ⟨h1,h2⟩:=h.2 D hD
  have hlt:=(Array.getElem?_eq_some_iff.1 h2).1
  exact ⟨(hk.tint D hlt).trans h1,by rw [hk.block D hlt (by rw [h1];exact hi)];exact h2⟩⟩
theorem Y8.gr {mc:Nat} {ds:List Nat} (h:Y8 mc col w ds) (hg:Zg col w col' w'):Y8 mc col' w' ds:=h.kp (hg.keep (mc+1)) (by omega)
theorem Y8.nil {mc:Nat}:Y8 mc col w []:=⟨List.nodup_nil,fun _ h=>by cases h⟩

def pI (lv:Nat):Nat→Bool:=fun c=>(Nat.ble 500 c&&Nat.blt c 999)||(Nat.beq lv 2&&Nat.ble 1000 c)
def Za9 (lv rc:Nat):Nat→Bool:=fun c=>Nat.beq c rc||pI lv c
def pC (lv:Nat):Nat→Bool:=fun c=>(Nat.blt 0 c&&Nat.blt c 450)||(Nat.ble 490 c&&Nat.blt c 499)||(Nat.beq lv 1&&Nat.ble 1000 c)
def q0:Nat→Bool:=fun c=>Nat.beq c 0||Nat.beq c 450
def q1:Nat→Bool:=fun c=>Nat.beq c 450||Nat.beq c 451
def qz:Nat→Bool:=fun c=>Nat.beq c 0

theorem Z19 {c:Nat} (h:pC 1 c=false):pC 2 c=false:=by
 simp only [pC,Bool.or_eq_false_iff] at h ⊢;exact ⟨h.1,rfl⟩
theorem Zta {lv rc c:Nat} (h:Za9 lv rc c=false):pI lv c=false:=by
 simp only [Za9,Bool.or_eq_false_iff] at h;exact h.2

def Zl8 (P:Program) (lv:Nat) (gf:Nat) (lb:List Value) {Y:Type} (arr:Y→Zd→World→List Value→Prop) (ys:List Y) (col:Zd) (w:World):Prop:=
 ∀ (l:Nat) (J:List Y→Zd→World→Prop) (X:Zd→World→Prop),
  (∀ ys col w col' w',J ys col w→Zs (pI lv) col w col' w'→J ys col' w')→(∀ col w col' w',X col w→Zs (pI lv) col w col' w'→X col' w')→
  (∀ y ys col w args,J (y :: ys) col w→arr y col w args→YieldAt (X7 none) 0 P l args.toArray w (fun e w'=>∃ col',Zs (pC lv) col w col' w'∧((e= .returned (.bool true)∧J ys col' w')∨(e= .returned (.bool false)∧X col' w'))))→
  J ys col w→Calls P gf (Value.func (.yield l) #[] #[] :: lb).toArray w (fun e w'=>(∃ v,e= .returned v)∧∃ col',J [] col' w'∨X col' w')

def It (P:Program) (lv:Nat) (v:Value) {Y:Type} (arr:Y→Zd→World→List Value→Prop) (ys:List Y) (p:Nat→Bool) (col:Zd) (w:World):Prop:=
 ∃ gf lb,v= .func (.func gf) #[] lb.toArray∧(∀ args w,(callFunc gf args).run P w= .ok (.enter gf args) w)∧
  ∀ col' w',w.heap.size≤w'.heap.size→(∀ k,k<w.heap.size→p (col k)=true→col' k=col k∧w'.heap[k]?=w.heap[k]?)→Zl8 P lv gf lb arr ys col' w'

end

/-! ### the statement -/
section
variable {P:Program} {m:Nat} {N R:Fr→World→Prop} {E:Nat→Fr→World→Prop} {f:Fr} {w:World} {col:Zd}

def Zii (f:Fr):List Nat→List Value→Fr
 | p :: ps,v :: vs=>Zii (Zu f p v) ps vs
 | _,_=>f

theorem Yl.args {a:Act}:∀ (ps:List Nat) (vs:List Value) (f:Fr) (t:Array Value),t.size=m→m≤1000000→(∀ x,x<1000000→t.getD x undef=f x)→(ps.all fun x=>Nat.blt x m)=true→f 1000000=enc []→
  Yl m { tmps:=(ps.zip vs).foldl (fun t (q:Nat×Value)=>t.setIfInBounds q.1 q.2) t,defers:=[] } (Zii f ps vs)
 | [],_,f,t,hs,hm,hg,_,h0=>⟨hm,hs,hg,by simp only [Zii,h0,Zah,Q1];rfl⟩
 | p :: ps,[],f,t,hs,hm,hg,_,h0=>⟨hm,hs,hg,by simp only [Zii,h0,Zah,Q1];rfl⟩
 | p :: ps,v :: vs,f,t,hs,hm,hg,hp,h0=>by
  simp only [List.all_cons,Bool.and_eq_true,Nat.blt_eq] at hp
  refine Yl.args (a:=a) ps vs (Zu f p v) (t.setIfInBounds p v) (by simpa using hs) hm (fun x hx=>?_) hp.2 ?_
  ·have h:=hg x hx
   unfold Zu
   cases hb:Nat.beq x p
   ·have hne:p≠x:=by intro e;subst e;simp at hb
    simp only [Array.getD_eq_getD_getElem?,cond_false] at h ⊢
    rw [Array.getElem?_setIfInBounds_ne hne];exact h
   ·have:=Nat.eq_of_beq_eq_true hb;subst this
    simp [hs,hp.1]
  ·have hb:Nat.beq 1000000 p=false:=by
    cases hb:Nat.beq 1000000 p
    ·rfl
    ·have:=Nat.eq_of_beq_eq_true hb;omega
   simp only [Zu,hb,cond_false];exact h0

theorem Xe.put {c:Nat} {l:Nat} {o:Obj} (hl:col l=c):Xe c col w col (w.putObj l o):=
 ⟨by simp,fun _ _=>rfl,fun k _ hk=>World.putObj_heap_other (fun e=>hk (by rw [e];exact hl))⟩
theorem Xt.put {l:Nat} {o:Obj}:Xt w (w.putObj l o):=⟨rfl,rfl,rfl⟩

theorem W1.put {c l:Nat} {rc rc':Loop} (h:W1 c col w l rc):W1 c col (w.putObj l (.loop rc')) l rc':=⟨h.1,World.putObj_heap_same (Array.getElem?_eq_some_iff.1 h.2).1⟩

theorem Zvo {lv mc:Nat} {g:Operand} {psl:List Nat} {assign body:Code} {Y:Type} {v:Value} {arr:Y→Zd→World→List Value→Prop} {ys:List Y} {q:Nat→Bool} {ds:List Nat} (rk:Nat)
  (hg:ev f g=v) (hit:It P lv v arr ys q col w) (h0:f 1000000=enc ds) (hmk:Y8 mc col w ds) (hrk:(pC lv rk&&(!pI lv rk&&(!Nat.beq mc rk&&!pI lv mc)))=true) (hps:(psl.all fun x=>Nat.blt x m)=true)
  (harr:∀ y col w args,arr y col w args→args.length=psl.length)
  (J:List Y→Zd→World→Prop) (X:Code→Zd→World→Prop)
  (hJ:∀ ys col w col' w',J ys col w→Zs (Za9 lv rk) col w col' w'→J ys col' w') (hX:∀ c col w col' w',X c col w→Zs (Za9 lv rk) col w col' w'→X c col' w')
  (hJ0:J ys col w)
  (hround:∀ l rc ds y ys col w args,J (y :: ys) col w→W1 rk col w l rc→Y8 mc col w ds→arr y col w args→
   Wp P m (some l) assign (fun f' w1=>∃ col1,W1 rk col1 w1 l rc∧∀ w2 rc,Xe rk col1 w1 col1 w2→Xt w1 w2→W1 rk col1 w2 l rc→
     Wp P m (some l) body (fun _ w'=>∃ col',Zs (pC lv) col w col' w'∧J ys col' w'∧W1 rk col' w' l rc∧Y8 mc col' w' ds)
      (fun _ w'=>∃ col',Zs (pC lv) col w col' w'∧X .ret col' w'∧W1 rk col' w' l rc∧Y8 mc col' w' ds)
      (fun i _ w'=>∃ col',Zs (pC lv) col w col' w'∧X (.exit i) col' w'∧W1 rk col' w' l rc∧Y8 mc col' w' ds) f' w2)
    (fun _ _=>False) (fun _ _ _=>False) (Zii (Zu f 1000000 (enc [])) psl args) w)
  (hdone:∀ D col' w',J [] col' w'→Y8 mc col' w' (D :: ds)→N (Zu f 1000000 (enc (D :: ds))) w')
  (hstop:∀ c D col' w',X c col' w'→Y8 mc col' w' (D :: ds)→Wp P m none c N R E (Zu f 1000000 (enc (D :: ds))) w'):
  Wp P m none (.rangeFunc g psl.toArray assign body) N R E f w:=by
 intro a ha
 simp only [Bool.and_eq_true,Bool.not_eq_true'] at hrk
 obtain ⟨hrk1,hrk2,hrk3,hmc⟩:=hrk
 replace hrk3:mc≠rk:=fun e=>by rw [e,show Nat.beq rk rk=true from Nat.beq_refl rk] at hrk3;cases hrk3
 obtain ⟨gf,lb,rfl,hcf,hgoes⟩:=hit
 refine wpIn_rangeFunc fun fn hfn=>?_
 obtain ⟨rec,hrec⟩:∃ rec:LoopState→Option Code→Loop,rec=fun st pe=>{ state:=st,pending:=pe,fn,tmps:=a.tmps,params:=psl.toArray,assign,body,defers:=w.heap.size }:=⟨_,rfl⟩
 let w1:=(w.alloc (.deferred (some []))).alloc (.loop (rec .ready none))
 let col1:Zd:=fun k=>if k<w.heap.size then col k else if k=w.heap.size then mc else rk
 have hg1:Zg col w col1 w1:=⟨((Below.refl _ w).alloc (Nat.le_refl _) _).alloc (by simp) _,fun k hk=>by simp [col1,hk]⟩
 have hL1:W1 rk col1 w1 (w.heap.size+1) (rec .ready none):=⟨by show (if _ then _ else if _ then _ else _)=rk;rw [if_neg (by omega),if_neg (by omega)],by
  have:=World.alloc_heap_new (w.alloc (.deferred (some []))) (.loop (rec .ready none));rwa [World.size_alloc] at this⟩
 have hD1:w1.heap[w.heap.size]?=some (.deferred (some [])):=(Below.heap_alloc _ _ _ (by simp)).trans (World.alloc_heap_new w _)
 have hM1:Y8 mc col1 w1 (w.heap.size :: ds):=by
  have h1:=hmk.gr hg1
  refine ⟨List.nodup_cons.2 ⟨fun h=>?_,h1.1⟩,fun D hD=>?_⟩
  ·have:=(Array.getElem?_eq_some_iff.1 (hmk.2 _ h).2).1;omega
  ·rcases List.mem_cons.1 hD with rfl | hD
   ·exact ⟨by simp [col1],hD1⟩
   ·exact h1.2 D hD
 have hfd:a.defers=Q1 ds:=by rw [ha.defers,h0,Zah]
 have hev:a.eval g= .func (.func gf) #[] lb.toArray:=by rw [ha.eval];exact hg
 refine ⟨w.heap.size+1,[{ target:=.collected w.heap.size,args:=#[] }],w1,{ target:=.fn (.func gf) lb.toArray,args:=#[.func (.yield (w.heap.size+1)) #[] #[]] },w1,gf,
  #[.func (.yield (w.heap.size+1)) #[] #[]]++lb.toArray,w1,?_,?_,?_,?_,fun h=>(by cases h),?_⟩
 ·rw [show (X7 none).round=none from rfl]
  simp only [w1];rw [hrec];exact run_enterLoop_outer _ _ _ _ _
 ·simp only [resolve,hev]
  simp [go_sem]
 ·intro f' hf';trivial
 ·simp [invoke,go_sem,hcf]
 ·have hgo:=hgoes col1 w1 hg1.below.size (fun k hk _=>⟨hg1.tint k hk,hg1.below.block k hk⟩)
  have happ:#[Value.func (.yield (w.heap.size+1)) #[] #[]]++lb.toArray=(Value.func (.yield (w.heap.size+1)) #[] #[] :: lb).toArray:=by simp
  rw [happ]
  refine Zmw ((hgo (w.heap.size+1) (fun ys col w'=>J ys col w'∧W1 rk col w' (w.heap.size+1) (rec .ready none)∧Y8 mc col w' (w.heap.size :: ds))
   (fun col w'=>∃ c,X c col w'∧W1 rk col w' (w.heap.size+1) (rec .done (some c))∧Y8 mc col w' (w.heap.size :: ds)) ?_ ?_ ?_ ⟨hJ _ _ _ _ _ hJ0 hg1.toP,hL1,hM1⟩).mono ?_) none _
  ·rintro ys col w col' w' ⟨h1,h2,h3⟩ hk
   exact ⟨hJ _ _ _ _ _ h1 (hk.mono fun _=>Zta),h2.kpp hk hrk2,h3.kpp hk hmc⟩
  ·rintro col w col' w' ⟨c,h1,h2,h3⟩ hk
   exact ⟨c,hX _ _ _ _ _ h1 (hk.mono fun _=>Zta),h2.kpp hk hrk2,h3.kpp hk hmc⟩
  ·rintro y ys col w' args ⟨h1,h2,h3⟩ hy
   have hlen:=harr _ _ _ _ hy
   have hyr:=run_yield (P:=P) (args:=args.toArray) h2.2 (by rw [hrec];simp [hlen])
   rw [hrec] at hyr
   refine ⟨fn,_,assign,body,hyr,roundIn_of_wpIn trivial ?_⟩
   have hfit:=Yl.args (a:=a) psl args (Zu f 1000000 (enc [])) a.tmps ha.size ha.small (fun x hx=>by
    rw [ha.get x hx];unfold Zu
    have:Nat.beq x 1000000=false:=by
     cases hb:Nat.beq x 1000000
     ·rfl
     ·have:=Nat.eq_of_beq_eq_true hb;omega
    rw [this];rfl) hps (by simp [Zu])
   have hzip:(psl.toArray.zip args.toArray).foldl (fun tmps (x:Tmp×Value)=>tmps.setIfInBounds x.1 x.2) a.tmps=(psl.zip args).foldl (fun t (q:Nat×Value)=>t.setIfInBounds q.1 q.2) a.tmps:=by
    rw [← Array.foldl_toList];simp
   have hzip':(psl.toArray.zip args.toArray).foldl (fun tmps x=>match x with | (t,a)=>tmps.setIfInBounds t a) a.tmps=(psl.zip args).foldl (fun t (q:Nat×Value)=>t.setIfInBounds q.1 q.2) a.tmps:=hzip
   rw [show (X7 none).inRound (w.heap.size+1)=X7 (some (w.heap.size+1)) from rfl]
   have hr0:=hround (w.heap.size+1) (rec .ready none) (w.heap.size :: ds) y ys col w' args h1 h2 h3 hy
   refine wpIn_mono (by rw [hzip'];exact hr0 _ hfit) ?_
   intro e a1 w2 hq
   cases e with
   | normal=>
    obtain ⟨f',hf',col1,hq1,hq⟩:=hq
    refine ⟨_,run_beginRound hq1.2 (by rw [hrec]),?_⟩
    have hb:=hq _ _ (Xe.put (o:=.loop { rec .ready none with state:=.busy }) hq1.1) Xt.put (hq1.put) _ hf'
    refine wpIn_mono hb ?_
    have fin:∀ (jump:Option Code) (col':Zd) (w3:World),Zs (pC lv) col w' col' w3→W1 rk col' w3 (w.heap.size+1) { rec .ready none with state:=.busy }→Y8 mc col' w3 (w.heap.size :: ds)→
      (Instr.endRound (w.heap.size+1) jump).run P w3= .ok (.bool jump.isNone) (w3.putObj (w.heap.size+1) (.loop (rec (if jump.isNone then .ready else .done) jump)))∧
      Zs (pC lv) col w' col' (w3.putObj (w.heap.size+1) (.loop (rec (if jump.isNone then .ready else .done) jump)))∧
      Zs (Za9 lv rk) col' w3 col' (w3.putObj (w.heap.size+1) (.loop (rec (if jump.isNone then .ready else .done) jump)))∧
      W1 rk col' (w3.putObj (w.heap.size+1) (.loop (rec (if jump.isNone then .ready else .done) jump))) (w.heap.size+1) (rec (if jump.isNone then .ready else .done) jump)∧
      Y8 mc col' (w3.putObj (w.heap.size+1) (.loop (rec (if jump.isNone then .ready else .done) jump))) (w.heap.size :: ds):=by
     intro jump col' w3 k1 k2 k3
     have h5:=run_endRound (P:=P) jump k2.2
     have hk:=Xe.put (w:=w3) (o:=.loop (rec (if jump.isNone then .ready else .done) jump)) k2.1
     refine ⟨by rw [hrec] at h5 ⊢;exact h5,k1.kp hk Xt.put hrk1,hk.toP Xt.put (by simp [Za9]),k2.put,k3.kp hk hrk3⟩
    intro e a3 w3 hp
    cases e with
    | normal=>
     obtain ⟨_,_,col',k1,k2,k3,k4⟩:=hp
     obtain ⟨q1,q2,q3,q4,q5⟩:=fin none col' w3 k1 k3 k4
     exact ⟨_,_,q1,col',q2,.inl ⟨rfl,hJ _ _ _ _ _ k2 q3,q4,q5⟩⟩
    | ret=>
     obtain ⟨_,_,col',k1,k2,k3,k4⟩:=hp
     obtain ⟨q1,q2,q3,q4,q5⟩:=fin (some .ret) col' w3 k1 k3 k4
     exact ⟨_,_,q1,col',q2,.inr ⟨rfl,.ret,hX _ _ _ _ _ k2 q3,q4,q5⟩⟩
    | exit i=>
     obtain ⟨_,_,col',k1,k2,k3,k4⟩:=hp
     obtain ⟨q1,q2,q3,q4,q5⟩:=fin (some (.exit i)) col' w3 k1 k3 k4
     exact ⟨_,_,q1,col',q2,.inr ⟨rfl,.exit i,hX _ _ _ _ _ k2 q3,q4,q5⟩⟩
    | goto l=>exact hp.elim
    | panic c=>exact hp.elim
    | outgrown=>exact hp.elim
   | ret=>obtain ⟨_,_,h⟩:=hq;exact h.elim
   | exit i=>obtain ⟨_,_,h⟩:=hq;exact h.elim
   | goto l=>exact hq.elim
   | panic c=>exact hq.elim
   | outgrown=>exact hq.elim
  ·rintro e w' ⟨⟨v,rfl⟩,col',hq⟩
   have hfit:∀ D,Yl m { a with defers:=[{ target:=.collected D,args:=#[] }]++a.defers } (Zu f 1000000 (enc (D :: ds))):=fun D=>by
    refine ⟨ha.small,ha.size,fun t ht=>?_,?_⟩
    ·have hb:Nat.beq t 1000000=false:=by
      cases hb:Nat.beq t 1000000
      ·rfl
      ·have:=Nat.eq_of_beq_eq_true hb;omega
     simp only [Zu,hb,cond_false];exact ha.get t ht
    ·simp [Zu,Zah,Q1,hfd]
   rcases hq with ⟨h1,h2,h3⟩ | ⟨c,h1,h2,h3⟩
   ·refine ⟨none,_,by rw [run_endLoop h2.2 (by rw [hrec];simp),hrec],?_⟩
    have hk:=Xe.put (w:=w') (o:=.loop { rec .ready none with state:=.exhausted }) h2.1
    rw [hrec] at hk
    exact ⟨_,hfit _,hdone _ _ _ (hJ _ _ _ _ _ h1 (hk.toP Xt.put (by simp [Za9]))) (h3.kp hk hrk3)⟩
   ·refine ⟨some c,_,by rw [run_endLoop h2.2 (by rw [hrec];simp),hrec],?_⟩
    have hk:=Xe.put (w:=w') (o:=.loop { rec .done (some c) with state:=.exhausted }) h2.1
    rw [hrec] at hk
    exact hstop c _ _ _ (hX _ _ _ _ _ h1 (hk.toP Xt.put (by simp [Za9]))) (h3.kp hk hrk3) _ (hfit _)

/-! ### a call of yield -/
section
variable {m:Nat} {ops:Array Oper} {K:Fr→World→Prop} {rest:List Oper} {d t:Nat} {p:String} {af:Array Edge} {ts:Array TypeId} {l:Nat} {x0 x1 x2:Operand} {v1 v2:Value} {C:Ending→World→Prop}
theorem ly1 {rd:Option Nat} (hd:Nat.blt d m=true) (hx:ev f x0= .func (.yield l) #[] #[]) (h1:ev f x1=v1) (hc:YieldAt (X7 none) 0 P l #[v1] w C)
  (k:∀ e w',C e w'→∃ v,e= .returned v∧Zp P m rd ops K rest (Zu f d v) w'):Zp P m rd ops K (⟨some d,.call { callee:=.value x0,args:=#[x1],argTypes:=ts },t,p,af,none⟩ :: rest) f w:=
 Zr2 (o:=⟨some d,.call { callee:=.value x0,args:=#[x1],argTypes:=ts },t,p,af,none⟩) rfl rfl hd (by subst h1;simp [execOp,resolve,hx,Deferred.ofValue,invoke,Instr.yield]) hc k
theorem ly2 {rd:Option Nat} (hd:Nat.blt d m=true) (hx:ev f x0= .func (.yield l) #[] #[]) (h1:ev f x1=v1) (h2:ev f x2=v2) (hc:YieldAt (X7 none) 0 P l #[v1,v2] w C)
  (k:∀ e w',C e w'→∃ v,e= .returned v∧Zp P m rd ops K rest (Zu f d v) w'):Zp P m rd ops K (⟨some d,.call { callee:=.value x0,args:=#[x1,x2],argTypes:=ts },t,p,af,none⟩ :: rest) f w:=
 Zr2 (o:=⟨some d,.call { callee:=.value x0,args:=#[x1,x2],argTypes:=ts },t,p,af,none⟩) rfl rfl hd (by subst h1 h2;simp [execOp,resolve,hx,Deferred.ofValue,invoke,Instr.yield]) hc k
end

/-! ### a row that was read as what stays,for a call:taken back -/
def Za.flat {α:Type} (r:Za α):Prop:=∀ {col w col' w' cs x bs},r.rd col w cs x bs→(∀ b ∈ bs,w'.heap[b]?=w.heap[b]?)→r.rd col' w' cs x bs
theorem Xs (k:IntKind):(Za.int k).flat:=fun h _=>h
theorem Z0d:Za.str.flat:=fun h _=>h
section
variable {α:Type} {r:Za α} {e i c:Nat} {col colz col':Zd} {w w':World} {xs:List α} {a:Option Addr} {cap:Nat} {x:α} {cs:List Value}
theorem Rows.flat (hf:r.flat) {colA colB:Zd} {wA wB:World}:∀ {xs:List α} {fl:List Value} {bs:List Nat},Rows r colA wA fl xs bs→(∀ b ∈ bs,wB.heap[b]?=wA.heap[b]?)→Rows r colB wB fl xs bs
 | [],_,_,h,_=>h
 | _ :: _,_,_,⟨cs,fl',b1,b2,h,hb,h1,h2⟩,hh=>⟨cs,fl',b1,b2,h,hb,hf h1 fun b hm=>hh b (by rw [hb];simp [hm]),Rows.flat hf h2 fun b hm=>hh b (by rw [hb];simp [hm])⟩
theorem X6.flat (hf:r.flat) {bs:List Nat} (h:X6 r e col w a cap xs bs) (hh:∀ b ∈ bs,w'.heap[b]?=w.heap[b]?):X6 r e col' w' a cap xs bs:=by
 obtain ⟨fl,b2,h1,h2,rfl⟩:=h
 refine ⟨fl,b2,⟨h1.1,?_⟩,h2.flat hf fun b hb=>hh b (by simp [hb]),rfl⟩
 rcases h1.2 with h | ⟨g,cp,cur,hv,hb,hhg,rest⟩
 ·exact .inl h
 ·exact .inr ⟨g,cp,cur,hv,hb,by rw [hh g (by rw [hv];simp [Value.ownBlock])];exact hhg,rest⟩
def Fz (colz col:Zd):Prop:=∀ k,colz k≠0→colz k=col k
theorem Fz.refl:Fz col col:=fun _ _=>rfl
theorem Fz.froz (c:Nat) (h:Fz colz col):Fz (Yi c colz) col:=fun k hk=>by
 unfold Yi at hk ⊢
 split at hk
 ·exact absurd rfl hk
 ·rename_i hc;rw [if_neg hc];exact h k hk
theorem Zg.thawR (h:Zg colz w col' w'):Zg col w (Xn w.heap.size col col') w':=⟨h.below,fun k hk=>by simp [Xn,hk]⟩
theorem Xo.thaw {bs:List Nat} (h:Xo i col' bs) (hg:Zg colz w col' w') (hz:Fz colz col) (hi:i≠0:=by decide):Xo i (Xn w.heap.size col col') bs:=⟨h.1,fun g hg'=>by
 unfold Xn;split
 ·rename_i hlt
  have h4:=h.2 g hg'
  have h5:=hg.tint g hlt
  rw [← hz g (by rw [← h5,h4];exact hi),← h5,h4]
 ·exact h.2 g hg'⟩
theorem Zc.thaw (hf:r.flat) (h:Zc r e i col' w' a cap xs) (hg:Zg colz w col' w') (hz:Fz colz col) (hi:i≠0:=by decide):Zc r e i (Xn w.heap.size col col') w' a cap xs:=by
 obtain ⟨bs,h1,h2⟩:=h
 exact ⟨bs,h1.flat hf fun _ _=>rfl,h2.thaw hg hz hi⟩
end

/-! ### integers that came in -/
section
variable {α:Type} {r:Za α} {p:Nat→Bool} {e i c d:Nat} {col col':Zd} {w w':World} {xs:List α} {a:Option Addr} {cap:Nat}
theorem St.finBox {w0:World} {g:Nat} {cs:Array Value} {G:Nat→Nat} (h:St w0 (Zi col) col' w') (ho:Ze e i col' w' g cs) (h0:i≠0) (h9:i≠999) (hc:G i=c):Ze e c (Vv w0.heap.size col col' G) w' g cs:=by
 refine ⟨?_,ho.2⟩
 unfold Vv;split
 ·rename_i hlt;have h4:=h.oldc g hlt;rw [ho.1] at h4;unfold Zi at h4;split at h4 <;> omega
 ·rw [ho.1,hc]
theorem Ze.itk {g:Nat} {cs:Array Value} {q:Nat→Bool} (h:Ze e i col w g cs) (_:w.heap.size≤w'.heap.size) (hk:∀ k,k<w.heap.size→q (col k)=true→col' k=col k∧w'.heap[k]?=w.heap[k]?) (hq:q i=true):Ze e i col' w' g cs:=by
 have hlt:=(Array.getElem?_eq_some_iff.1 h.2).1
 obtain ⟨h1,h2⟩:=hk g hlt (by rw [h.1];exact hq)
 exact ⟨h1.trans h.1,h2.trans h.2⟩
theorem Sl.itk {q:Nat→Bool} (h:Sl r col w a cap xs) (_:w.heap.size≤w'.heap.size) (hk:∀ k,k<w.heap.size→q (col k)=true→col' k=col k∧w'.heap[k]?=w.heap[k]?) (hq:q 0=true):Sl r col' w' a cap xs:=
 h.keep fun k hlt h0=>by
  obtain ⟨h1,h2⟩:=hk k hlt (by rw [h0];exact hq)
  exact ⟨h1.trans h0,h2⟩
end
section
variable {P:Program} {f:Fr} {w:World} {t fn:Nat} {dst:Option Nat} {p:String} {af:Array Edge} {x1 x2 x3:Operand} {v1 v2 v3:Value}
theorem Ztt (h1:ev f x1=v1):(execOp (ev f) ⟨dst,.makeFunc (.func fn) #[] #[x1],t,p,af,none⟩).run P w= .ok (.value (.func (.func fn) #[] #[v1])) w:=by
 subst h1;simp [execOp,Instr.makeFunc]
theorem Z2r (h1:ev f x1=v1) (h2:ev f x2=v2):(execOp (ev f) ⟨dst,.makeFunc (.func fn) #[] #[x1,x2],t,p,af,none⟩).run P w= .ok (.value (.func (.func fn) #[] #[v1,v2])) w:=by
 subst h1 h2;simp [execOp,Instr.makeFunc]
end

/-! ### a call's end:the Q1 are taken -/
theorem Xe.refl (c:Nat) (col:Zd) (w:World):Xe c col w col w:=⟨Nat.le_refl _,fun _ _=>rfl,fun _ _ _=>rfl⟩

theorem Zrq {mc:Nat} {fn:Func} {tmps:Array Value} {C:Ending→World→Prop} {v:Value} (hr:∀ w,(results fn tmps).run P w= .ok v w):
  ∀ (ds:List Nat) (w:World),Y8 mc col w ds→(∀ w',Xe mc col w col w'→Xt w w'→C (.returned v) w')→LeavesInM (X7 none) 0 P fn tmps C (Q1 ds) .returning w
 | [],w,_,h=>⟨v,hr w,h w (Xe.refl _ _ _) ⟨rfl,rfl,rfl⟩⟩
 | D :: ds,w,hm,h=>by
  obtain ⟨hn,hall⟩:=hm
  obtain ⟨h1,h2⟩:=hall D (by simp)
  have hk:=Xe.put (w:=w) (o:=.deferred none) h1
  refine ⟨(by intro h;cases h),.inl ⟨D,_,rfl,run_takeDeferred h2,Zrq hr ds _ ⟨(List.nodup_cons.1 hn).2,fun E hE=>?_⟩ fun w' k s=>h w' (hk.trans k) ⟨s.1,s.2.1,s.2.2⟩⟩⟩
  obtain ⟨h3,h4⟩:=hall E (by simp [hE])
  exact ⟨h3,(World.putObj_heap_other (fun e=>(List.nodup_cons.1 hn).1 (by rw [← e];exact hE))).trans h4⟩

abbrev Zl6 (mc:Nat) (col:Zd) (w:World) (f:Fr) (C:World→Prop):Prop:=∃ ds,f 1000000=enc ds∧Y8 mc col w ds∧∀ w',Xe mc col w col w'→Xt w w'→C w'

theorem Z05 {mc:Nat} {fn:Func} {a:Act} {C:Ending→World→Prop} {v:Value} (ha:Yl m a f) (hr:∀ w,(results fn a.tmps).run P w= .ok v w) (h:∃ col,Zl6 mc col w f fun w=>C (.returned v) w):
  LeavesInM (X7 none) 0 P fn a.tmps C a.defers .returning w:=by
 obtain ⟨col,ds,h0,h1,h2⟩:=h
 rw [ha.defers,h0,Zah]
 exact Zrq hr ds w h1 h2

theorem Zyz {mc:Nat} {g:FuncId} {fn:Func} {c:Code} {args:List Value} {C:Ending→World→Prop} (r:Nat) (hf:P.funcs[g]?=some fn) (hb:fn.body=some c) (hm:fn.ntmps=m) (hl:(Nat.ble args.length m&&Nat.ble m 1000000)=true)
  (hr:fn.results=#[.tmp r]) (hlt:Nat.blt r 1000000=true) (h:Wp P m none c (fun f w=>∃ col,Zl6 mc col w f fun w=>C (.returned (f r)) w) (fun f w=>∃ col,Zl6 mc col w f fun w=>C (.returned (f r)) w) (fun _ _ _=>False) (Zu (U7 args 0) 1000000 (enc [])) w):Calls P g args.toArray w C:=
 Zbl _ hf hb hm hl (fun _ _ _ h1 h2=>Z05 h1 (fun w=>by rw [results_tmp hr,h1.get _ (by simpa using hlt)]) h2) h
end

/-! ### a region that draws its order,whose last operation alone turns the world -/
section
variable {P:Program} {m:Nat} {rd:Option Nat} {f:Fr} {col:Zd} {w:World}

end
end Go.Proofs.YtdpdogdkolblnaaGreatDoor
