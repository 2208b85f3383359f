/-
  Ranges over functions: what a function that is gone over hands on ('It'), the rule for the statement ('wrange'), a call's end where such loops were in it. Also: a region that draws its order and whose last operation alone turns the world. Over any program.
-/
import Derived.Test.YtnfegieaaaigmaaGreatDoorLexApartBLOps
namespace Go.Proofs.YtnfegieaaaigmaaGreatDoor
open Go Go.RowKit

section
variable {α : Type} {r : Rep α} {p q : Nat → Bool} {e c i : Nat} {col col' col'' : Col} {w w' w'' : World} {xs : List α}

/-! the book-keeping of a loop over a function -/
def Rec (c : Nat) (col : Col) (w : World) (l : Nat) (rc : Loop) : Prop := col l = c ∧ w.heap[l]? = some (.loop rc)
def Marks (mc : Nat) (col : Col) (w : World) (ds : List Nat) : Prop := ds.Nodup ∧ ∀ D ∈ ds, col D = mc ∧ w.heap[D]? = some (.deferred (some []))

theorem Rec.kpp {l : Nat} {rc : Loop} (h : Rec i col w l rc) (hk : KeepP p col w col' w') (hi : p i = false := by rfl) : Rec i col' w' l rc := by
 have hlt := (Array.getElem?_eq_some_iff.1 h.2).1
 exact ⟨(hk.tint l hlt (by rw [h.1]; exact hi)).trans h.1, by rw [hk.block l hlt (by rw [h.1]; exact hi)]; exact h.2⟩
theorem Rec.kp {l : Nat} {rc : Loop} (h : Rec i col w l rc) (hk : Keep c col w col' w') (hi : i ≠ c := by decide) : Rec i col' w' l rc := by
 have hlt := (Array.getElem?_eq_some_iff.1 h.2).1
 exact ⟨(hk.tint l hlt).trans h.1, by rw [hk.block l hlt (by rw [h.1]; exact hi)]; exact h.2⟩
theorem Rec.gr {l : Nat} {rc : Loop} (h : Rec i col w l rc) (hg : Grow col w col' w') : Rec i col' w' l rc := h.kp (hg.keep (i + 1)) (by omega)
theorem Marks.kpp {mc : Nat} {ds : List Nat} (h : Marks mc col w ds) (hk : KeepP p col w col' w') (hi : p mc = false := by rfl) : Marks mc col' w' ds :=
 ⟨h.1, fun D hD => by
  obtain ⟨h1, h2⟩ := h.2 D hD
  have hlt := (Array.getElem?_eq_some_iff.1 h2).1
  exact ⟨(hk.tint D hlt (by rw [h1]; exact hi)).trans h1, by rw [hk.block D hlt (by rw [h1]; exact hi)]; exact h2⟩⟩
theorem Marks.kp {mc : Nat} {ds : List Nat} (h : Marks mc col w ds) (hk : Keep c col w col' w') (hi : mc ≠ c := by decide) : Marks mc col' w' ds :=
 ⟨h.1, fun D hD => by
  obtain ⟨h1, h2⟩ := h.2 D hD
  have hlt := (Array.getElem?_eq_some_iff.1 h2).1
  exact ⟨(hk.tint D hlt).trans h1, by rw [hk.block D hlt (by rw [h1]; exact hi)]; exact h2⟩⟩
theorem Marks.gr {mc : Nat} {ds : List Nat} (h : Marks mc col w ds) (hg : Grow col w col' w') : Marks mc col' w' ds := h.kp (hg.keep (mc + 1)) (by omega)
theorem Marks.nil {mc : Nat} : Marks mc col w [] := ⟨List.nodup_nil, fun _ h => by cases h⟩

def pI (lv : Nat) : Nat → Bool := fun c => (Nat.ble 500 c && Nat.blt c 999) || (Nat.beq lv 2 && Nat.ble 1000 c)
def pSt (lv rc : Nat) : Nat → Bool := fun c => Nat.beq c rc || pI lv c
def pC (lv : Nat) : Nat → Bool := fun c => (Nat.blt 0 c && Nat.blt c 450) || (Nat.ble 490 c && Nat.blt c 499) || (Nat.beq lv 1 && Nat.ble 1000 c)
def q0 : Nat → Bool := fun c => Nat.beq c 0 || Nat.beq c 450
def q1 : Nat → Bool := fun c => Nat.beq c 450 || Nat.beq c 451
def qz : Nat → Bool := fun c => Nat.beq c 0

theorem pC_21 {c : Nat} (h : pC 1 c = false) : pC 2 c = false := by
 simp only [pC, Bool.or_eq_false_iff] at h ⊢; exact ⟨h.1, rfl⟩
theorem pSt_it {lv rc c : Nat} (h : pSt lv rc c = false) : pI lv c = false := by
 simp only [pSt, Bool.or_eq_false_iff] at h; exact h.2

def Goes (P : Program) (lv : Nat) (gf : Nat) (lb : List Value) {Y : Type} (arr : Y → Col → World → List Value → Prop) (ys : List Y) (col : Col) (w : World) : Prop :=
 ∀ (l : Nat) (J : List Y → Col → World → Prop) (X : Col → World → Prop),
  (∀ ys col w col' w', J ys col w → KeepP (pI lv) col w col' w' → J ys col' w') → (∀ col w col' w', X col w → KeepP (pI lv) col w col' w' → X col' w') →
  (∀ y ys col w args, J (y :: ys) col w → arr y col w args → YieldAt (fen none) 0 P l args.toArray w (fun e w' => ∃ col', KeepP (pC lv) col w col' w' ∧ ((e = .returned (.bool true) ∧ J ys col' w') ∨ (e = .returned (.bool false) ∧ X col' w')))) →
  J ys col w → Calls P gf (Value.func (.yield l) #[] #[] :: lb).toArray w (fun e w' => (∃ v, e = .returned v) ∧ ∃ col', J [] col' w' ∨ X col' w')

def It (P : Program) (lv : Nat) (v : Value) {Y : Type} (arr : Y → Col → World → List Value → Prop) (ys : List Y) (p : Nat → Bool) (col : Col) (w : World) : Prop :=
 ∃ gf lb, v = .func (.func gf) #[] lb.toArray ∧ (∀ args w, (callFunc gf args).run P w = .ok (.enter gf args) w) ∧
  ∀ col' w', w.heap.size ≤ w'.heap.size → (∀ k, k < w.heap.size → p (col k) = true → col' k = col k ∧ w'.heap[k]? = w.heap[k]?) → Goes P lv gf lb arr ys col' w'

end

/-! ### the statement -/
section
variable {P : Program} {m : Nat} {N R : Fr → World → Prop} {E : Nat → Fr → World → Prop} {f : Fr} {w : World} {col : Col}

def updArgs (f : Fr) : List Nat → List Value → Fr
 | p :: ps, v :: vs => updArgs (upd f p v) ps vs
 | _, _ => f

theorem Fits.args {a : Act} : ∀ (ps : List Nat) (vs : List Value) (f : Fr) (t : Array Value), t.size = m → m ≤ 1000000 → (∀ x, x < 1000000 → t.getD x undef = f x) → (ps.all fun x => Nat.blt x m) = true → f 1000000 = enc [] →
  Fits m { tmps := (ps.zip vs).foldl (fun t (q : Nat × Value) => t.setIfInBounds q.1 q.2) t, defers := [] } (updArgs f ps vs)
 | [], _, f, t, hs, hm, hg, _, h0 => ⟨hm, hs, hg, by simp only [updArgs, h0, dec_enc, marks]; rfl⟩
 | p :: ps, [], f, t, hs, hm, hg, _, h0 => ⟨hm, hs, hg, by simp only [updArgs, h0, dec_enc, marks]; rfl⟩
 | p :: ps, v :: vs, f, t, hs, hm, hg, hp, h0 => by
  simp only [List.all_cons, Bool.and_eq_true, Nat.blt_eq] at hp
  refine Fits.args (a := a) ps vs (upd f p v) (t.setIfInBounds p v) (by simpa using hs) hm (fun x hx => ?_) hp.2 ?_
  ·have h := hg x hx
   unfold upd
   cases hb : Nat.beq x p
   ·have hne : p ≠ x := by intro e; subst e; simp at hb
    simp only [Array.getD_eq_getD_getElem?, cond_false] at h ⊢
    rw [Array.getElem?_setIfInBounds_ne hne]; exact h
   ·have := Nat.eq_of_beq_eq_true hb; subst this
    simp [hs, hp.1]
  ·have hb : Nat.beq 1000000 p = false := by
    cases hb : Nat.beq 1000000 p
    ·rfl
    ·have := Nat.eq_of_beq_eq_true hb; omega
   simp only [upd, hb, cond_false]; exact h0

theorem Keep.put {c : Nat} {l : Nat} {o : Obj} (hl : col l = c) : Keep c col w col (w.putObj l o) :=
 ⟨by simp, fun _ _ => rfl, fun k _ hk => World.putObj_heap_other (fun e => hk (by rw [e]; exact hl))⟩
theorem Still.put {l : Nat} {o : Obj} : Still w (w.putObj l o) := ⟨rfl, rfl, rfl⟩

theorem Rec.put {c l : Nat} {rc rc' : Loop} (h : Rec c col w l rc) : Rec c col (w.putObj l (.loop rc')) l rc' := ⟨h.1, World.putObj_heap_same (Array.getElem?_eq_some_iff.1 h.2).1⟩

theorem wrange {lv mc : Nat} {g : Operand} {psl : List Nat} {assign body : Code} {Y : Type} {v : Value} {arr : Y → Col → World → List Value → Prop} {ys : List Y} {q : Nat → Bool} {ds : List Nat} (rk : Nat)
  (hg : ev f g = v) (hit : It P lv v arr ys q col w) (h0 : f 1000000 = enc ds) (hmk : Marks mc col w ds) (hrk : (pC lv rk && (!pI lv rk && (!Nat.beq mc rk && !pI lv mc))) = true) (hps : (psl.all fun x => Nat.blt x m) = true)
  (harr : ∀ y col w args, arr y col w args → args.length = psl.length)
  (J : List Y → Col → World → Prop) (X : Code → Col → World → Prop)
  (hJ : ∀ ys col w col' w', J ys col w → KeepP (pSt lv rk) col w col' w' → J ys col' w') (hX : ∀ c col w col' w', X c col w → KeepP (pSt lv rk) col w col' w' → X c col' w')
  (hJ0 : J ys col w)
  (hround : ∀ l rc ds y ys col w args, J (y :: ys) col w → Rec rk col w l rc → Marks mc col w ds → arr y col w args →
   Wp P m (some l) assign (fun f' w1 => ∃ col1, Rec rk col1 w1 l rc ∧ ∀ w2 rc, Keep rk col1 w1 col1 w2 → Still w1 w2 → Rec rk col1 w2 l rc →
     Wp P m (some l) body (fun _ w' => ∃ col', KeepP (pC lv) col w col' w' ∧ J ys col' w' ∧ Rec rk col' w' l rc ∧ Marks mc col' w' ds)
      (fun _ w' => ∃ col', KeepP (pC lv) col w col' w' ∧ X .ret col' w' ∧ Rec rk col' w' l rc ∧ Marks mc col' w' ds)
      (fun i _ w' => ∃ col', KeepP (pC lv) col w col' w' ∧ X (.exit i) col' w' ∧ Rec rk col' w' l rc ∧ Marks mc col' w' ds) f' w2)
    (fun _ _ => False) (fun _ _ _ => False) (updArgs (upd f 1000000 (enc [])) psl args) w)
  (hdone : ∀ D col' w', J [] col' w' → Marks mc col' w' (D :: ds) → N (upd f 1000000 (enc (D :: ds))) w')
  (hstop : ∀ c D col' w', X c col' w' → Marks mc col' w' (D :: ds) → Wp P m none c N R E (upd f 1000000 (enc (D :: ds))) w') :
  Wp P m none (.rangeFunc g psl.toArray assign body) N R E f w := by
 intro a ha
 simp only [Bool.and_eq_true, Bool.not_eq_true'] at hrk
 obtain ⟨hrk1, hrk2, hrk3, hmc⟩ := hrk
 replace hrk3 : mc ≠ rk := fun e => by rw [e, show Nat.beq rk rk = true from Nat.beq_refl rk] at hrk3; cases hrk3
 obtain ⟨gf, lb, rfl, hcf, hgoes⟩ := hit
 refine wpIn_rangeFunc fun fn hfn => ?_
 obtain ⟨rec, hrec⟩ : ∃ rec : LoopState → Option Code → Loop, rec = fun st pe => { state := st, pending := pe, fn, tmps := a.tmps, params := psl.toArray, assign, body, defers := w.heap.size } := ⟨_, rfl⟩
 let w1 := (w.alloc (.deferred (some []))).alloc (.loop (rec .ready none))
 let col1 : Col := fun k => if k < w.heap.size then col k else if k = w.heap.size then mc else rk
 have hg1 : Grow col w col1 w1 := ⟨((Below.refl _ w).alloc (Nat.le_refl _) _).alloc (by simp) _, fun k hk => by simp [col1, hk]⟩
 have hL1 : Rec rk col1 w1 (w.heap.size + 1) (rec .ready none) := ⟨by show (if _ then _ else if _ then _ else _) = rk; rw [if_neg (by omega), if_neg (by omega)], by
  have := World.alloc_heap_new (w.alloc (.deferred (some []))) (.loop (rec .ready none)); rwa [World.size_alloc] at this⟩
 have hD1 : w1.heap[w.heap.size]? = some (.deferred (some [])) := (Below.heap_alloc _ _ _ (by simp)).trans (World.alloc_heap_new w _)
 have hM1 : Marks mc col1 w1 (w.heap.size :: ds) := by
  have h1 := hmk.gr hg1
  refine ⟨List.nodup_cons.2 ⟨fun h => ?_, h1.1⟩, fun D hD => ?_⟩
  ·have := (Array.getElem?_eq_some_iff.1 (hmk.2 _ h).2).1; omega
  ·rcases List.mem_cons.1 hD with rfl | hD
   ·exact ⟨by simp [col1], hD1⟩
   ·exact h1.2 D hD
 have hfd : a.defers = marks ds := by rw [ha.defers, h0, dec_enc]
 have hev : a.eval g = .func (.func gf) #[] lb.toArray := by rw [ha.eval]; exact hg
 refine ⟨w.heap.size + 1, [{ target := .collected w.heap.size, args := #[] }], w1, { target := .fn (.func gf) lb.toArray, args := #[.func (.yield (w.heap.size + 1)) #[] #[]] }, w1, gf,
  #[.func (.yield (w.heap.size + 1)) #[] #[]] ++ lb.toArray, w1, ?_, ?_, ?_, ?_, fun h => (by cases h), ?_⟩
 ·rw [show (fen none).round = none from rfl]
  simp only [w1]; rw [hrec]; exact run_enterLoop_outer _ _ _ _ _
 ·simp only [resolve, hev]
  simp [go_sem]
 ·intro f' hf'; trivial
 ·simp [invoke, go_sem, hcf]
 ·have hgo := hgoes col1 w1 hg1.below.size (fun k hk _ => ⟨hg1.tint k hk, hg1.below.block k hk⟩)
  have happ : #[Value.func (.yield (w.heap.size + 1)) #[] #[]] ++ lb.toArray = (Value.func (.yield (w.heap.size + 1)) #[] #[] :: lb).toArray := by simp
  rw [happ]
  refine calls_fen ((hgo (w.heap.size + 1) (fun ys col w' => J ys col w' ∧ Rec rk col w' (w.heap.size + 1) (rec .ready none) ∧ Marks mc col w' (w.heap.size :: ds))
   (fun col w' => ∃ c, X c col w' ∧ Rec rk col w' (w.heap.size + 1) (rec .done (some c)) ∧ Marks mc col w' (w.heap.size :: ds)) ?_ ?_ ?_ ⟨hJ _ _ _ _ _ hJ0 hg1.toP, hL1, hM1⟩).mono ?_) none _
  ·rintro ys col w col' w' ⟨h1, h2, h3⟩ hk
   exact ⟨hJ _ _ _ _ _ h1 (hk.mono fun _ => pSt_it), h2.kpp hk hrk2, h3.kpp hk hmc⟩
  ·rintro col w col' w' ⟨c, h1, h2, h3⟩ hk
   exact ⟨c, hX _ _ _ _ _ h1 (hk.mono fun _ => pSt_it), h2.kpp hk hrk2, h3.kpp hk hmc⟩
  ·rintro y ys col w' args ⟨h1, h2, h3⟩ hy
   have hlen := harr _ _ _ _ hy
   have hyr := run_yield (P := P) (args := args.toArray) h2.2 (by rw [hrec]; simp [hlen])
   rw [hrec] at hyr
   refine ⟨fn, _, assign, body, hyr, roundIn_of_wpIn trivial ?_⟩
   have hfit := Fits.args (a := a) psl args (upd f 1000000 (enc [])) a.tmps ha.size ha.small (fun x hx => by
    rw [ha.get x hx]; unfold upd
    have : Nat.beq x 1000000 = false := by
     cases hb : Nat.beq x 1000000
     ·rfl
     ·have := Nat.eq_of_beq_eq_true hb; omega
    rw [this]; rfl) hps (by simp [upd])
   have hzip : (psl.toArray.zip args.toArray).foldl (fun tmps (x : Tmp × Value) => tmps.setIfInBounds x.1 x.2) a.tmps = (psl.zip args).foldl (fun t (q : Nat × Value) => t.setIfInBounds q.1 q.2) a.tmps := by
    rw [← Array.foldl_toList]; simp
   have hzip' : (psl.toArray.zip args.toArray).foldl (fun tmps x => match x with | (t, a) => tmps.setIfInBounds t a) a.tmps = (psl.zip args).foldl (fun t (q : Nat × Value) => t.setIfInBounds q.1 q.2) a.tmps := hzip
   rw [show (fen none).inRound (w.heap.size + 1) = fen (some (w.heap.size + 1)) from rfl]
   have hr0 := hround (w.heap.size + 1) (rec .ready none) (w.heap.size :: ds) y ys col w' args h1 h2 h3 hy
   refine wpIn_mono (by rw [hzip']; exact hr0 _ hfit) ?_
   intro e a1 w2 hq
   cases e with
   | normal =>
    obtain ⟨f', hf', col1, hq1, hq⟩ := hq
    refine ⟨_, run_beginRound hq1.2 (by rw [hrec]), ?_⟩
    have hb := hq _ _ (Keep.put (o := .loop { rec .ready none with state := .busy }) hq1.1) Still.put (hq1.put) _ hf'
    refine wpIn_mono hb ?_
    have fin : ∀ (jump : Option Code) (col' : Col) (w3 : World), KeepP (pC lv) col w' col' w3 → Rec rk col' w3 (w.heap.size + 1) { rec .ready none with state := .busy } → Marks mc col' w3 (w.heap.size :: ds) →
      (Instr.endRound (w.heap.size + 1) jump).run P w3 = .ok (.bool jump.isNone) (w3.putObj (w.heap.size + 1) (.loop (rec (if jump.isNone then .ready else .done) jump))) ∧
      KeepP (pC lv) col w' col' (w3.putObj (w.heap.size + 1) (.loop (rec (if jump.isNone then .ready else .done) jump))) ∧
      KeepP (pSt lv rk) col' w3 col' (w3.putObj (w.heap.size + 1) (.loop (rec (if jump.isNone then .ready else .done) jump))) ∧
      Rec rk col' (w3.putObj (w.heap.size + 1) (.loop (rec (if jump.isNone then .ready else .done) jump))) (w.heap.size + 1) (rec (if jump.isNone then .ready else .done) jump) ∧
      Marks mc col' (w3.putObj (w.heap.size + 1) (.loop (rec (if jump.isNone then .ready else .done) jump))) (w.heap.size :: ds) := by
     intro jump col' w3 k1 k2 k3
     have h5 := run_endRound (P := P) jump k2.2
     have hk := Keep.put (w := w3) (o := .loop (rec (if jump.isNone then .ready else .done) jump)) k2.1
     refine ⟨by rw [hrec] at h5 ⊢; exact h5, k1.kp hk Still.put hrk1, hk.toP Still.put (by simp [pSt]), k2.put, k3.kp hk hrk3⟩
    intro e a3 w3 hp
    cases e with
    | normal =>
     obtain ⟨_, _, col', k1, k2, k3, k4⟩ := hp
     obtain ⟨q1, q2, q3, q4, q5⟩ := fin none col' w3 k1 k3 k4
     exact ⟨_, _, q1, col', q2, .inl ⟨rfl, hJ _ _ _ _ _ k2 q3, q4, q5⟩⟩
    | ret =>
     obtain ⟨_, _, col', k1, k2, k3, k4⟩ := hp
     obtain ⟨q1, q2, q3, q4, q5⟩ := fin (some .ret) col' w3 k1 k3 k4
     exact ⟨_, _, q1, col', q2, .inr ⟨rfl, .ret, hX _ _ _ _ _ k2 q3, q4, q5⟩⟩
    | exit i =>
     obtain ⟨_, _, col', k1, k2, k3, k4⟩ := hp
     obtain ⟨q1, q2, q3, q4, q5⟩ := fin (some (.exit i)) col' w3 k1 k3 k4
     exact ⟨_, _, q1, col', q2, .inr ⟨rfl, .exit i, hX _ _ _ _ _ k2 q3, q4, q5⟩⟩
    | goto l => exact hp.elim
    | panic c => exact hp.elim
    | outgrown => exact hp.elim
   | ret => obtain ⟨_, _, h⟩ := hq; exact h.elim
   | exit i => obtain ⟨_, _, h⟩ := hq; exact h.elim
   | goto l => exact hq.elim
   | panic c => exact hq.elim
   | outgrown => exact hq.elim
  ·rintro e w' ⟨⟨v, rfl⟩, col', hq⟩
   have hfit : ∀ D, Fits m { a with defers := [{ target := .collected D, args := #[] }] ++ a.defers } (upd f 1000000 (enc (D :: ds))) := fun D => by
    refine ⟨ha.small, ha.size, fun t ht => ?_, ?_⟩
    ·have hb : Nat.beq t 1000000 = false := by
      cases hb : Nat.beq t 1000000
      ·rfl
      ·have := Nat.eq_of_beq_eq_true hb; omega
     simp only [upd, hb, cond_false]; exact ha.get t ht
    ·simp [upd, dec_enc, marks, hfd]
   rcases hq with ⟨h1, h2, h3⟩ | ⟨c, h1, h2, h3⟩
   ·refine ⟨none, _, by rw [run_endLoop h2.2 (by rw [hrec]; simp), hrec], ?_⟩
    have hk := Keep.put (w := w') (o := .loop { rec .ready none with state := .exhausted }) h2.1
    rw [hrec] at hk
    exact ⟨_, hfit _, hdone _ _ _ (hJ _ _ _ _ _ h1 (hk.toP Still.put (by simp [pSt]))) (h3.kp hk hrk3)⟩
   ·refine ⟨some c, _, by rw [run_endLoop h2.2 (by rw [hrec]; simp), hrec], ?_⟩
    have hk := Keep.put (w := w') (o := .loop { rec .done (some c) with state := .exhausted }) h2.1
    rw [hrec] at hk
    exact hstop c _ _ _ (hX _ _ _ _ _ h1 (hk.toP Still.put (by simp [pSt]))) (h3.kp hk hrk3) _ (hfit _)

/-! ### a call of yield -/
section
variable {m : Nat} {ops : Array Oper} {K : Fr → World → Prop} {rest : List Oper} {d t : Nat} {p : String} {af : Array Edge} {ts : Array TypeId} {l : Nat} {x0 x1 x2 : Operand} {v1 v2 : Value} {C : Ending → World → Prop}
theorem ly2 {rd : Option Nat} (hd : Nat.blt d m = true) (hx : ev f x0 = .func (.yield l) #[] #[]) (h1 : ev f x1 = v1) (h2 : ev f x2 = v2) (hc : YieldAt (fen none) 0 P l #[v1, v2] w C)
  (k : ∀ e w', C e w' → ∃ v, e = .returned v ∧ WpL P m rd ops K rest (upd f d v) w') : WpL P m rd ops K (⟨some d, .call { callee := .value x0, args := #[x1, x2], argTypes := ts }, t, p, af, none⟩ :: rest) f w :=
 lround (o := ⟨some d, .call { callee := .value x0, args := #[x1, x2], argTypes := ts }, t, p, af, none⟩) rfl rfl hd (by subst h1 h2; simp [execOp, resolve, hx, Deferred.ofValue, invoke, Instr.yield]) hc k
end

/-! ### a row that was read as what stays, for a call: taken back -/

/-! ### integers that came in -/
section
variable {α : Type} {r : Rep α} {p : Nat → Bool} {e i c d : Nat} {col col' : Col} {w w' : World} {xs : List α} {a : Option Addr} {cap : Nat}
theorem St.finBox {w0 : World} {g : Nat} {cs : Array Value} {G : Nat → Nat} (h : St w0 (col0 col) col' w') (ho : Box e i col' w' g cs) (h0 : i ≠ 0) (h9 : i ≠ 999) (hc : G i = c) : Box e c (colF w0.heap.size col col' G) w' g cs := by
 refine ⟨?_, ho.2⟩
 unfold colF; split
 ·rename_i hlt; have h4 := h.oldc g hlt; rw [ho.1] at h4; unfold col0 at h4; split at h4 <;> omega
 ·rw [ho.1, hc]
theorem Box.itk {g : Nat} {cs : Array Value} {q : Nat → Bool} (h : Box e i col w g cs) (_ : w.heap.size ≤ w'.heap.size) (hk : ∀ k, k < w.heap.size → q (col k) = true → col' k = col k ∧ w'.heap[k]? = w.heap[k]?) (hq : q i = true) : Box e i col' w' g cs := by
 have hlt := (Array.getElem?_eq_some_iff.1 h.2).1
 obtain ⟨h1, h2⟩ := hk g hlt (by rw [h.1]; exact hq)
 exact ⟨h1.trans h.1, h2.trans h.2⟩
end
section
variable {P : Program} {f : Fr} {w : World} {t fn : Nat} {dst : Option Nat} {p : String} {af : Array Edge} {x1 x2 x3 : Operand} {v1 v2 v3 : Value}
theorem r_func1 (h1 : ev f x1 = v1) : (execOp (ev f) ⟨dst, .makeFunc (.func fn) #[] #[x1], t, p, af, none⟩).run P w = .ok (.value (.func (.func fn) #[] #[v1])) w := by
 subst h1; simp [execOp, Instr.makeFunc]
end

/-! ### a call's end: the marks are taken -/
theorem Keep.refl (c : Nat) (col : Col) (w : World) : Keep c col w col w := ⟨Nat.le_refl _, fun _ _ => rfl, fun _ _ _ => rfl⟩

end

/-! ### a region that draws its order, whose last operation alone turns the world -/
section
variable {P : Program} {m : Nat} {rd : Option Nat} {f : Fr} {col : Col} {w : World}

end
end Go.Proofs.YtnfegieaaaigmaaGreatDoor
