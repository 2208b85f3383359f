/-
  A region that draws its order, in which one variable is made at a time that is left open: its operations in one order that stands for all; the variable's making stands ahead of its first use. Over any program.
-/
import Derived.Test.YtgkofjmeopbkbaaGraphToldBTwo
namespace Go.Proofs.Ytgkofjmeopbkbaa
open Go Go.RowKit

/-- Kind 4: an operation that makes a variable; nobody looks at it but who waits for it. -/
def okF (l : List Oper) (ms : List Nat) (x y : Nat × Nat) : Bool :=
  let a := bit (ms.getD y.1 0) x.1
  !(bit (ms.getD x.1 0) y.1) && !(Nat.beq x.1 y.1) && (Nat.blt x.2 2 || a || (Nat.beq x.2 3 && Nat.beq y.2 4)) && (Nat.blt y.2 2 || (Nat.ble 2 x.2 || (a || (Nat.beq x.2 1 || (Nat.beq y.2 3 || Nat.beq y.2 4))))) &&
    (a || (match l[x.1]?, l[y.1]? with | some u, some v => u.apart l.toArray v && v.apart l.toArray u | _, _ => false))
/-- What a class of worlds has: it may grow; what is new then may be the variable. -/
def Good (C : World → Prop) (F : Nat → Prop) : Prop := (∀ w, C w → F w.heap.size) ∧ ∀ w o, C w → C (w.alloc o)
/-- The variable as it was made. -/
def ZAt (cs : Array Value) (T : TypeId) (g : Nat) (w : World) : Prop := w.heap[g]? = some (.cells cs T (0, 0))
theorem ZAt.lt {cs : Array Value} {T : TypeId} {g : Nat} {w : World} (h : ZAt cs T g w) : g < w.heap.size := (Array.getElem?_eq_some_iff.1 h).1
theorem ZAt.alloc {cs : Array Value} {T : TypeId} {g : Nat} {w : World} {o : Obj} (h : ZAt cs T g w) : ZAt cs T g (w.alloc o) := (Below.heap_alloc _ _ _ h.lt).trans h
theorem Good.z {C : World → Prop} {F : Nat → Prop} {cs : Array Value} {T : TypeId} {g : Nat} (h : Good C F) : Good (fun w => C w ∧ ZAt cs T g w) F := ⟨fun w hw => h.1 w hw.1, fun w o hw => ⟨h.2 w o hw.1, hw.2.alloc⟩⟩

section
variable {P : Program} {m : Nat} {rd : Option Nat} {ops : Array Oper} {Q : Exit → Act → World → Prop}
/-- It makes a variable. -/
def FreeOp (P : Program) (o : Oper) (cs : Array Value) (T : TypeId) : Prop := o.guard = none ∧ ∀ ev w, (execOp ev o).run P w = .ok (.value (.pointer (some ⟨w.heap.size, 0, none⟩))) (w.alloc (.cells cs T (0, 0)))

def MixF (P : Program) (rd : Option Nat) (ops : Array Oper) (Q : Exit → Act → World → Prop) : List (Nat × Nat) → (World → Prop) → (Nat → Prop) → Act → Prop
  | [], C, _, a => ∀ w, C w → Q .normal a w
  | (i, k) :: r, C, F, a =>
    if k = 4 then ∃ o cs T, ops[i]? = some o ∧ FreeOp P o cs T ∧ ∀ g, F g → MixF P rd ops Q r (fun w => C w ∧ ZAt cs T g w) F (a.put o.dst (.pointer (some ⟨g, 0, none⟩)))
    else if 2 ≤ k then ∀ w, C w → wpOpIn (fen rd) 0 P ops Q i (fun a' w' => ∃ (C' : World → Prop) (F' : Nat → Prop), C' w' ∧ Good C' F' ∧ (k = 3 → (∀ w, C' w → C w) ∧ (∀ b, b < w.heap.size → w'.heap[b]? = w.heap[b]?) ∧ ∀ g, g < w.heap.size → F g → F' g) ∧ MixF P rd ops Q r C' F' a') a w
    else rdOp P ops (fun w => k = 1 ∨ C w) i (MixF P rd ops Q r C F) a

theorem okF_spec {l : List Oper} {ms : List Nat} {x y : Nat × Nat} (h : okF l ms x y = true) :
    bit (ms.getD x.1 0) y.1 = false ∧ x.1 ≠ y.1 ∧ (2 ≤ x.2 → bit (ms.getD y.1 0) x.1 = true ∨ (x.2 = 3 ∧ y.2 = 4)) ∧ (2 ≤ y.2 → x.2 < 2 → bit (ms.getD y.1 0) x.1 = true ∨ x.2 = 1 ∨ y.2 = 3 ∨ y.2 = 4) ∧
    (bit (ms.getD y.1 0) x.1 = true ∨ ∃ u v, l[x.1]? = some u ∧ l[y.1]? = some v ∧ u.apart l.toArray v = true ∧ v.apart l.toArray u = true) := by
  simp only [okF, Bool.and_eq_true, Bool.not_eq_true', Bool.or_eq_true, Nat.blt_eq, Nat.ble_eq] at h
  obtain ⟨⟨⟨⟨h1, h2⟩, h3⟩, h4⟩, h5⟩ := h
  refine ⟨h1, fun e => ?_, fun hx => ?_, fun hy hx => ?_, ?_⟩
  · rw [e] at h2; simp at h2
  · rcases h3 with (h3 | h3) | ⟨h3, h3'⟩
    · omega
    · exact .inl h3
    · exact .inr ⟨Nat.eq_of_beq_eq_true h3, Nat.eq_of_beq_eq_true h3'⟩
  · rcases h4 with h4 | h4 | h4 | h4 | h4 | h4
    · omega
    · omega
    · exact .inl h4
    · exact .inr (.inl (Nat.eq_of_beq_eq_true h4))
    · exact .inr (.inr (.inl (Nat.eq_of_beq_eq_true h4)))
    · exact .inr (.inr (.inr (Nat.eq_of_beq_eq_true h4)))
  · rcases h5 with h5 | h5
    · exact .inl h5
    · right
      cases hu : l[x.1]? with
      | none => rw [hu] at h5; simp at h5
      | some u =>
        cases hv : l[y.1]? with
        | none => rw [hu, hv] at h5; simp at h5
        | some v =>
          rw [hu, hv] at h5
          simp only [Bool.and_eq_true] at h5
          exact ⟨u, v, rfl, rfl, h5.1, h5.2⟩

/-- The other way round: an operation that is apart from x does the same where x's value is already in its place. -/
theorem wpOpIn_apart' {i : Nat} {x o : Oper} {v : Value} {a : Act} {w : World} {K : Act → World → Prop} (hnd : ∀ (j : Nat) (o : Oper), ops[j]? = some o → noDefer o.op = true) (hselo : ∀ cs b, o.op ≠ .select cs b)
    (hQ : ∀ c a w, ¬ Q (.panic c) a w) (ho : ops[i]? = some o) (hap : x.apart ops o = true) (h : wpOpIn (fen rd) 0 P ops Q i K a w) :
    wpOpIn (fen rd) 0 P ops Q i (fun a' w' => ∃ a1, a' = a1.put x.dst v ∧ K a1 w') (a.put x.dst v) w := by
  obtain ⟨h1, h2, h3⟩ := Oper.apart_spec hap
  have hcomm : ∀ (a : Act) u, (a.put x.dst v).put o.dst u = (a.put o.dst u).put x.dst v := fun a u => Act.put_comm a v u h2
  unfold wpOpIn at *
  have hno := hnd i o ho
  simp only [ho] at *
  rw [wanted_put o a x.dst v h1]
  split
  · rename_i hw
    simp only [hw, if_true] at h
    refine ⟨fun _ _ => trivial, ?_⟩
    have h' := h.2
    change Oper.uponIn _ _ _ _ _ _ _ ((o.semAt rd a.eval).run P w) at h'
    show Oper.uponIn _ _ _ _ _ _ _ ((o.semAt rd (a.put x.dst v).eval).run P w)
    rw [sem_eq hno] at h' ⊢
    rw [execOp_put o hselo a x.dst v h1]
    generalize (execOp a.eval o).run P w = r at *
    cases r with
    | ok n w' =>
      cases n <;> simp only [Oper.uponIn] at h' ⊢
      case value u => exact ⟨_, hcomm a u, h'⟩
      case skip => exact ⟨_, hcomm a undef, h'⟩
      case defer d =>
        refine ⟨({ a with defers := d :: a.defers } : Act).put o.dst undef, ?_, h'⟩
        rw [← hcomm]
        cases x.dst <;> cases o.dst <;> rfl
      case enter f args =>
        refine ⟨h'.1, CallsIn.mono h'.2 fun e w'' he => ?_⟩
        cases e with
        | returned u => exact ⟨_, hcomm a u, he⟩
        | panicked c => exact absurd he (hQ _ _ _)
        | outgrown => exact he
      case row row args => exact ⟨h'.1, RowsIn.mono h'.2 fun u w'' he => ⟨_, hcomm a u, he⟩⟩
      case round l f tmps assign body =>
        refine ⟨h'.1, RoundIn.mono h'.2 fun e w'' he => ?_⟩
        cases e with
        | returned u => exact ⟨_, hcomm a u, he⟩
        | panicked c => exact absurd he (hQ _ _ _)
        | outgrown => exact he
    | halt x w' =>
      cases x <;> simp only [Oper.uponIn] at h' ⊢
      exact absurd h' (hQ _ _ _)
  · rename_i hw
    simp only [hw] at h
    exact ⟨fun _ _ => trivial, _, hcomm a undef, h.2⟩

theorem rdOp_put {l : List Oper} {C C' : World → Prop} {x u : Oper} {i : Nat} {v : Value} {K K' : Act → Prop} {a : Act} (hselu : ∀ cs b, u.op ≠ .select cs b) (hu : l.toArray[i]? = some u) (hap : x.apart l.toArray u = true) (hC : ∀ w, C' w → C w) (hK : ∀ a, K a → K' (a.put x.dst v)) (h : rdOp P l.toArray C i K a) :
    rdOp P l.toArray C' i K' (a.put x.dst v) := by
  obtain ⟨h1, h2, h3⟩ := Oper.apart_spec hap
  unfold rdOp at h ⊢
  simp only [hu] at h ⊢
  rw [wanted_put u a x.dst v h1]
  rcases h with ⟨g1, val, g2, g3⟩ | ⟨g1, g3⟩
  · refine .inl ⟨g1, val, fun w hw => by rw [execOp_put u hselu a x.dst v h1]; exact g2 w (hC w hw), ?_⟩
    rw [Act.put_comm a v val h2]; exact hK _ g3
  · refine .inr ⟨g1, ?_⟩
    rw [Act.put_comm a v undef h2]; exact hK _ g3

/-- The variable was made at once. -/
theorem MixF.done {l : List Oper} {ms : List Nat} (hnd : ∀ (j : Nat) (o : Oper), l.toArray[j]? = some o → noDefer o.op = true) (hsel : ∀ (j : Nat) (o : Oper), l.toArray[j]? = some o → ∀ cs b, o.op ≠ .select cs b)
    (hQ : ∀ c a w, ¬ Q (.panic c) a w) (i : Nat) (o : Oper) (cs : Array Value) (T : TypeId) (ho : l.toArray[i]? = some o) (hf : FreeOp P o cs T) (g : Nat) (r2 : List (Nat × Nat)) :
    ∀ (r1 : List (Nat × Nat)) (C : World → Prop) (F : Nat → Prop) (a : Act), (r1 ++ (i, 4) :: r2).Pairwise (fun x y => okF l ms x y = true) → (∀ x ∈ r1, bit (ms.getD i 0) x.1 = false) → F g →
      MixF P rd l.toArray Q (r1 ++ (i, 4) :: r2) C F a → MixF P rd l.toArray Q (r1 ++ r2) (fun w => C w ∧ ZAt cs T g w) F (a.put o.dst (.pointer (some ⟨g, 0, none⟩))) := by
  intro r1
  induction r1 with
  | nil =>
    intro C F a _ _ hF h
    simp only [List.nil_append, MixF, if_true] at h
    obtain ⟨o', cs', T', h1, h2, h3⟩ := h
    rw [ho] at h1; cases h1
    have e : cs' = cs ∧ T' = T := by
      have q1 := h2.2 (fun _ => undef) default
      have q2 := hf.2 (fun _ => undef) default
      rw [q1] at q2
      simp only [Result.ok.injEq, true_and] at q2
      have := congrArg (fun w : World => w.heap[(default : World).heap.size]?) q2
      simp only [World.alloc_heap_new, Option.some.injEq, Obj.cells.injEq] at this
      exact ⟨this.1, this.2.1⟩
    obtain ⟨rfl, rfl⟩ := e
    exact h3 g hF
  | cons x r ih =>
    intro C F a hp hx hF h
    obtain ⟨x, kx⟩ := x
    simp only [List.cons_append, List.pairwise_cons] at hp
    obtain ⟨q1, q2, q3, q4, q5⟩ := okF_spec (hp.1 (i, 4) (by simp))
    have hxi := hx (x, kx) (by simp)
    simp only at q1 q2 q3 q4 q5 hxi
    obtain ⟨u, v, hu, hv, hap, hap'⟩ := q5.resolve_left (by rw [hxi]; simp)
    have hu' : l.toArray[x]? = some u := by simpa using hu
    have hv' : l.toArray[i]? = some v := by simpa using hv
    rw [ho] at hv'; cases hv'
    have hkx : kx < 2 ∨ kx = 3 := by
      rcases Nat.lt_or_ge kx 2 with h | h
      · exact .inl h
      · rcases q3 h with h3 | h3
        · rw [hxi] at h3; cases h3
        · exact .inr h3.1
    simp only [List.cons_append, MixF] at h ⊢
    rcases hkx with hkx | rfl
    · rw [if_neg (by omega), if_neg (by omega)] at h ⊢
      exact rdOp_put (hsel x u hu') hu' hap' (fun w hw => hw.imp id fun h => h.1) (fun a' h => ih C F a' hp.2 (fun y hy => hx y (by simp [hy])) hF h) h
    · rw [if_neg (by decide), if_pos (by decide)] at h ⊢
      intro w ⟨hC, hZ⟩
      refine wpOpIn_mono (fun a' w' ⟨a1, e, C', F', k1, k2, k3, k4⟩ => ?_) (wpOpIn_apart' hnd (hsel x u hu') hQ hu' hap' (h w hC))
      obtain ⟨k5, k6, k7⟩ := k3 rfl
      have hZ' : ZAt cs T g w' := (k6 g hZ.lt).trans hZ
      refine ⟨fun w => C' w ∧ ZAt cs T g w, F', ⟨k1, hZ'⟩, k2.z, fun _ => ⟨fun w hw => ⟨k5 w hw.1, hw.2⟩, k6, k7⟩, ?_⟩
      rw [e]
      exact ih C' F' a1 hp.2 (fun y hy => hx y (by simp [hy])) (k7 g hZ.lt hF) k4

theorem MixF.pull {l : List Oper} {ms : List Nat} (hnd : ∀ (j : Nat) (o : Oper), l.toArray[j]? = some o → noDefer o.op = true) (hsel : ∀ (j : Nat) (o : Oper), l.toArray[j]? = some o → ∀ cs b, o.op ≠ .select cs b)
    (hQ : ∀ c a w, ¬ Q (.panic c) a w) (i k : Nat) (hk4 : k ≠ 4) (r2 : List (Nat × Nat)) : ∀ (r1 : List (Nat × Nat)) (C : World → Prop) (F : Nat → Prop) (a : Act) (w : World), (r1 ++ (i, k) :: r2).Pairwise (fun x y => okF l ms x y = true) → (∀ x ∈ r1, bit (ms.getD i 0) x.1 = false) → Good C F → C w →
      MixF P rd l.toArray Q (r1 ++ (i, k) :: r2) C F a → wpOpIn (fen rd) 0 P l.toArray Q i (fun a' w' => ∃ (C' : World → Prop) (F' : Nat → Prop), C' w' ∧ Good C' F' ∧ ((k < 2 ∨ k = 3) → ∀ w, C' w → C w) ∧ MixF P rd l.toArray Q (r1 ++ r2) C' F' a') a w := by
  intro r1
  induction r1 with
  | nil =>
    intro C F a w _ _ hG hC h
    simp only [List.nil_append, MixF] at h
    rw [if_neg hk4] at h
    split at h
    · rename_i hk
      exact wpOpIn_mono (fun a' w' ⟨C', F', h1, h2, h3, h4⟩ => ⟨C', F', h1, h2, fun h => (h3 (by omega)).1, h4⟩) (h w hC)
    · rename_i hk
      exact wpOpIn_mono (fun a' w' ⟨h1, h2⟩ => ⟨C, F, h1 ▸ hC, hG, fun _ _ h => h, h2⟩) (rdOp_in hnd (.inr hC) h)
  | cons x r ih =>
    intro C F a w hp hx hG hC h
    obtain ⟨x, kx⟩ := x
    simp only [List.cons_append, List.pairwise_cons] at hp
    obtain ⟨q1, q2, q3, q4, q5⟩ := okF_spec (hp.1 (i, k) (by simp))
    have hxi := hx (x, kx) (by simp)
    simp only at q1 q2 q3 q4 q5 hxi
    have hkx : kx < 2 := by
      rcases Nat.lt_or_ge kx 2 with h | h
      · exact h
      · rcases q3 h with h3 | h3
        · rw [h3] at hxi; cases hxi
        · exact absurd h3.2 hk4
    obtain ⟨u, v, hu, hv, hap, _⟩ := q5.resolve_left (by rw [hxi]; simp)
    have hu' : l.toArray[x]? = some u := by simpa using hu
    have hv' : l.toArray[i]? = some v := by simpa using hv
    simp only [List.cons_append, MixF] at h ⊢
    rw [if_neg (by omega), if_neg (by omega)] at h
    unfold rdOp at h
    simp only [hu'] at h
    have fin : ∀ (val : Value), ((Region.wanted u (yielded l.toArray a.tmps) = true ∧ ∀ w, (kx = 1 ∨ C w) → (execOp a.eval u).run P w = .ok (.value val) w) ∨ (Region.wanted u (yielded l.toArray a.tmps) = false ∧ val = undef)) →
        MixF P rd l.toArray Q (r ++ (i, k) :: r2) C F (a.put u.dst val) → wpOpIn (fen rd) 0 P l.toArray Q i (fun a' w' => ∃ (C' : World → Prop) (F' : Nat → Prop), C' w' ∧ Good C' F' ∧ ((k < 2 ∨ k = 3) → ∀ w, C' w → C w) ∧
          MixF P rd l.toArray Q ((x, kx) :: (r ++ r2)) C' F' a') a w := by
      intro val hval hm
      have h1 := ih C F (a.put u.dst val) w hp.2 (fun y hy => hx y (by simp [hy])) hG hC hm
      have h2 := wpOpIn_apart hnd (hsel x u hu') (hsel i v hv') hQ hv' hap h1
      refine wpOpIn_mono (fun a' w' ⟨⟨e1, e2⟩, C', F', h3, h3', h4, h5⟩ => ⟨C', F', h3, h3', h4, ?_⟩) h2
      simp only [MixF]
      rw [if_neg (by omega), if_neg (by omega)]
      unfold rdOp
      simp only [hu']
      rw [e2, e1]
      rcases hval with ⟨g1, g2⟩ | ⟨g1, rfl⟩
      · refine .inl ⟨g1, val, fun w hw => g2 w ?_, h5⟩
        rcases hw with hw | hw
        · exact .inl hw
        · by_cases hk : k < 2
          · exact .inr (h4 (.inl hk) w hw)
          · rcases q4 (by omega) hkx with h6 | h6 | h6 | h6
            · rw [h6] at hxi; cases hxi
            · exact .inl h6
            · exact .inr (h4 (.inr h6) w hw)
            · exact absurd h6 hk4
      · exact .inr ⟨g1, h5⟩
    have fin2 := fun val h1 h2 => by have := fin val h1 h2; simpa only [MixF] using this
    rcases h with ⟨g1, val, g2, g3⟩ | ⟨g1, g3⟩
    · exact fin2 val (.inl ⟨g1, g2⟩) g3
    · exact fin2 undef (.inr ⟨g1, rfl⟩) g3

end

/-! ### colours: what is new bears none that anybody has -/
section
variable {col c3 : Col} {w w2 w3 : World}
end

section
variable {P : Program} {m : Nat} {rd : Option Nat} {l : List Oper} {N R : Fr → World → Prop} {E : Nat → Fr → World → Prop} {f : Fr} {π : List (Nat × Nat)} {C : World → Prop} {F : Nat → Prop} {i d t : Nat} {p : String} {af : Array Edge} {op : Op}
def WpF (P : Program) (m : Nat) (rd : Option Nat) (l : List Oper) (N R : Fr → World → Prop) (E : Nat → Fr → World → Prop) (π : List (Nat × Nat)) (C : World → Prop) (F : Nat → Prop) (f : Fr) : Prop :=
  ∀ a, Fits m a f → MixF P rd l.toArray (ends m N R E) π C F a
theorem WpF.ld {d : Nat} {v : Value} (h : f d = v) (k : WpF P m rd l N R E π C F (upd f d v)) : WpF P m rd l N R E π C F f := by rwa [upd_self h] at k
end
end Go.Proofs.Ytgkofjmeopbkbaa
