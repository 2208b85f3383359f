/-
  What functions of the program compute, as plain Lean functions (m_..), and proofs that they compute it (c_..). Printed by a program of the author; no conditions.
-/
import Derived.Test.YtgggjmmljagkmaaCell
import Derived.Test.YtgggjmmljagkmaaProg
import Derived.Test.YtgggjmmljagkmaaLibSort
import Derived.Test.YtgggjmmljagkmaaShelf
import Derived.Test.YtgggjmmljagkmaaDagSaysF1
set_option linter.unusedVariables false
namespace Go.Proofs.Ytgggjmmljagkmaa
open Go Go.RowKit


def totl (P : List (List Int)) : Nat := (P.map List.length).sum
theorem totl_cons (l : List Int) (P : List (List Int)) : totl (l :: P) = l.length + totl P := by simp [totl]
theorem totl_mem {l : List Int} : ∀ {P : List (List Int)}, l ∈ P → l.length ≤ totl P
  | x :: P, h => by
    rw [totl_cons]
    rcases List.mem_cons.1 h with rfl | h
    · omega
    · have := totl_mem h; omega
theorem totl_drop (P : List (List Int)) (i : Nat) (hi : i < P.length) : totl (P.drop i) = P[i].length + totl (P.drop (i + 1)) := by rw [List.drop_eq_getElem_cons hi, totl_cons]
theorem many_L1 (N : Nat) (P : List (List Int)) (hP : P.length ≤ 1048576) (ht : totl P ≤ 1048576) : ∀ (n s i : Nat), P.length < n + i → i ≤ P.length → s + totl (P.drop i) ≤ totl P →
    ∃ b, m_credencelaw14_many_L1 N P n (s : Int) (i : Int) = some b ∧ (b = false → P.length ≤ 200 ∧ s + totl (P.drop i) ≤ 2000)
  | 0, s, i, h, hi, hs => by omega
  | n + 1, s, i, h, hi, hs => by
    rw [m_credencelaw14_many_L1.eq_2]
    have hend : ∀ j : Nat, ((P.length ≤ 200 → j = P.length)) → ∃ b, (if decide (200 < (P.length : Int)) = true then m_credencelaw14_many_J2 true else m_credencelaw14_many_J2 (decide (2000 < (s : Int)))) = some b ∧ (b = false → P.length ≤ 200 ∧ s + totl (P.drop j) ≤ 2000) := by
      intro j hj
      by_cases h2 : 200 < P.length
      · rw [if_pos (decide_eq_true (by omega))]; exact ⟨true, rfl, fun h => by cases h⟩
      · rw [if_neg (by rw [decide_eq_true_eq]; omega)]
        refine ⟨_, rfl, fun hb => ?_⟩
        rw [decide_eq_false_iff_not] at hb
        rw [hj (by omega), List.drop_length]
        simp only [totl, List.map_nil, List.sum_nil]; omega
    by_cases hlt : i < P.length
    · rw [if_pos (by simpa using hlt)]
      by_cases h2 : i ≤ 200
      · have h3 := totl_drop P i hlt
        rw [m_credencelaw14_many_J1, if_pos (decide_eq_true (by omega)), at?_lt hlt, Option.bind_some, wS (by omega), w64 (by omega)]
        rw [show ((s : Int) + (P[i].length : Int)) = ((s + P[i].length : Nat) : Int) by omega]
        obtain ⟨b, h4, h5⟩ := many_L1 N P hP ht n (s + P[i].length) (i + 1) (by omega) (by omega) (by omega)
        exact ⟨b, h4, fun hb => ⟨(h5 hb).1, by have := (h5 hb).2; omega⟩⟩
      · rw [m_credencelaw14_many_J1, if_neg (by rw [decide_eq_true_eq]; omega)]
        exact hend i (by omega)
    · rw [if_neg (by simpa using hlt), m_credencelaw14_many_J1, if_neg (by simp)]
      exact hend i (by omega)
theorem many_eq {N : Nat} {P : List (List Int)} (hP : P.length ≤ 1048576) (ht : totl P ≤ 1048576) (hN : 1048576 < N) : ∃ b, m_credencelaw14_many N P = some b ∧ (b = false → P.length ≤ 200 ∧ totl P ≤ 2000) := by
  rw [m_credencelaw14_many]
  obtain ⟨b, h1, h2⟩ := many_L1 N P hP ht N 0 0 (by omega) (by omega) (by simp)
  exact ⟨b, h1, fun hb => by have := h2 hb; simpa using this⟩

def longL (l : List Int) : List Int := l ++ [-90, -91, -92, -93, -94, -95]
theorem long_eq {l : List Int} (hl : l.length ≤ 1048576) : m_credencelaw14_long l = some (longL l) := by
  rw [m_credencelaw14_long, chk_pos (by simp only [List.length_nil, Nat.zero_add, maxLen]; omega), chk_pos (by simp only [List.nil_append, List.length_cons, List.length_nil, maxLen]; omega)]
  rfl

theorem lent_L1 (N : Nat) (P : List (List Int)) (hP : P.length ≤ 1048576) (hl : ∀ l ∈ P, l.length ≤ 1048576) : ∀ (n i : Nat), P.length < n + i → i ≤ P.length →
    m_credencelaw14_lent_L1 N P n ((P.take i).map longL) (P.take i) (i : Int) = some ((P.length, P ++ [[-77]]), P.map longL)
  | 0, i, h, hi => by omega
  | n + 1, i, h, hi => by
    rw [m_credencelaw14_lent_L1.eq_2]
    by_cases hlt : i < P.length
    · have hl1 := hl _ (List.getElem_mem hlt)
      have htk : (longL P[i]).take P[i].length = P[i] := by rw [longL, List.take_left]
      rw [if_pos (by simpa using hlt), at?_lt hlt, Option.bind_some, long_eq hl1, Option.bind_some, Int.toNat_natCast, htk]
      rw [chk_pos (by simp only [List.length_map, List.length_take, List.length_cons, List.length_nil, maxLen]; omega), chk_pos (by simp only [longL, List.length_append]; omega), chk_pos (by simp only [List.length_take, List.length_cons, List.length_nil, maxLen]; omega), wS (by omega)]
      have := lent_L1 N P hP hl n (i + 1) (by omega) (by omega)
      rw [List.take_succ_eq_append_getElem hlt, List.map_append] at this
      exact this
    · have : P.take i = P := List.take_of_length_le (by omega)
      rw [if_neg (by simpa using hlt), this, chk_pos (by simp only [List.length_cons, List.length_nil, maxLen]; omega), chk_pos (by simp only [List.length_append]; omega), Int.toNat_natCast]
theorem lent_eq {N : Nat} {P : List (List Int)} (hP : P.length ≤ 1048576) (hl : ∀ l ∈ P, l.length ≤ 1048576) (hN : 1048576 < N) : m_credencelaw14_lent N P = some ((P.length, P ++ [[-77]]), P.map longL) := by
  rw [m_credencelaw14_lent]; simpa using lent_L1 N P hP hl N 0 (by omega) (by omega)

theorem kept_L1 (N : Nat) (P : List (List Int)) (hP : P.length ≤ 1000000) (hl : ∀ l ∈ P, l.length ≤ 1000000) (hN : 1048576 < N) : ∀ (n i : Nat), P.length < n + i → i ≤ P.length →
    m_credencelaw14_kept_L1 N P.length (P ++ [[-77]]) (P.map longL) P n (i : Int) = some true
  | 0, i, h, hi => by omega
  | n + 1, i, h, hi => by
    have htk : (P ++ [[-77]]).take P.length = P := List.take_left
    rw [m_credencelaw14_kept_L1.eq_2, htk]
    by_cases hlt : i < P.length
    · have hl1 := hl _ (List.getElem_mem hlt)
      rw [if_pos (by simpa using hlt), at?_lt (xs := P.map longL) (by simpa using hlt), Option.bind_some, at?_lt hlt, Option.bind_some, long_eq (by omega), Option.bind_some, Same_eq (by simp only [List.getElem_map, longL, List.length_append, List.length_cons, List.length_nil]; omega) hN, Option.bind_some]
      rw [List.getElem_map, decide_eq_true rfl, if_neg (by decide), Option.bind_some, Same_eq (by omega) hN, Option.bind_some, decide_eq_true rfl, m_credencelaw14_kept_J2, if_neg (by decide), wS (by omega)]
      exact kept_L1 N P hP hl hN n (i + 1) (by omega) (by omega)
    · rw [if_neg (by simpa using hlt), w64 (by omega), chk_pos (by simp only [List.length_append, List.length_cons, List.length_nil]; omega)]
      rw [show ((P.length : Int) + 1).toNat = P.length + 1 by omega, List.take_of_length_le (by simp), at?_lt (k := P.length) (by simp), Option.bind_some]
      simp [m_credencelaw14_kept_J3, at?]
theorem kept_eq {N : Nat} {P : List (List Int)} (hP : P.length ≤ 1000000) (hl : ∀ l ∈ P, l.length ≤ 1000000) (hN : 1048576 < N) : m_credencelaw14_kept N P.length (P ++ [[-77]]) (P.map longL) P = some true := by
  rw [m_credencelaw14_kept]
  have htk : (P ++ [[-77]]).take P.length = P := List.take_left
  rw [htk, if_neg (by simp), m_credencelaw14_kept_J1, if_neg (by simp)]
  exact kept_L1 N P hP hl hN N 0 (by omega) (by omega)


/-- Is a point ready: not out, and all its parents are? -/
def rdyB (P : List (List Int)) (l : List Int) (i : Nat) : Bool := !decide ((i : Int) ∈ l) && (P.getD i []).all fun p => decide (p ∈ l)
/-- The least point from the i-th on that is ready. -/
def nextF (P : List (List Int)) (l : List Int) (i : Nat) : Option Nat := (List.range' i (P.length - i)).find? (rdyB P l)
theorem nextF_end (P : List (List Int)) (l : List Int) (i : Nat) (h : P.length ≤ i) : nextF P l i = none := by
  rw [nextF, Nat.sub_eq_zero_of_le h]; rfl
theorem nextF_step (P : List (List Int)) (l : List Int) (i : Nat) (h : i < P.length) : nextF P l i = if rdyB P l i then some i else nextF P l (i + 1) := by
  rw [nextF, nextF, show P.length - i = (P.length - (i + 1)) + 1 by omega, List.range'_succ, List.find?_cons]
  cases rdyB P l i <;> simp

section
variable (N : Nat) (P : List (List Int)) (l : List Int)
theorem out_L3 (hP : P.length ≤ 1048576) (hl : l.length ≤ 1048576) (hN : 1048576 < N) (next : Int) (i : Nat) (hi : i < P.length) (hli : P[i].length ≤ 1048576) (kk : Int → Int → Option (List Int)) : ∀ (n : Nat) (b : Bool) (k : Nat), P[i].length < n + k → k ≤ P[i].length →
    m_credenceref14_out_L3 N P l next (i : Int) kk n b (k : Int) = kk (if (b && (P[i].drop k).all fun p => decide (p ∈ l)) = true then (i : Int) else next) ((i + 1 : Nat) : Int)
  | 0, b, k, h, hk => by omega
  | n + 1, b, k, h, hk => by
    rw [m_credenceref14_out_L3.eq_2, at?_lt hi, Option.bind_some]
    by_cases hlt : k < P[i].length
    · rw [if_pos (by simpa using hlt), at?_lt hlt, Option.bind_some, Has_eq hl hN, Option.bind_some, m_credenceref14_out_J3, m_credenceref14_out_J3, wS (by omega), out_L3 hP hl hN next i hi hli kk n _ (k + 1) (by omega) (by omega), out_L3 hP hl hN next i hi hli kk n _ (k + 1) (by omega) (by omega), List.drop_eq_getElem_cons hlt, List.all_cons]
      cases b
      · rw [if_neg (by decide), Bool.false_and, Bool.false_and]
      · rw [if_pos rfl, Bool.true_and]
    · rw [if_neg (by simpa using hlt), List.drop_eq_nil_of_le (by omega), m_credenceref14_out_J2, m_credenceref14_out_J2, wS (by omega), List.all_nil, Bool.and_true]
      cases b
      · rw [if_neg (by decide), if_neg (by decide)]
      · rw [if_pos rfl, if_pos rfl]
/-- What is done with the next point. -/
def putF (kk : List Int → Option (List Int)) : Option Nat → Option (List Int)
  | none => some l
  | some i => kk (l ++ [(i : Int)])
theorem out_end (hl : l.length < 1048576) (kk : List Int → Option (List Int)) (i : Nat) (i' : Int) (kk2 : Int → Int → Option (List Int)) : m_credenceref14_out_J1 N P l kk (i : Int) i' kk2 false = kk (l ++ [(i : Int)]) := by
  rw [m_credenceref14_out_J1, if_neg (by decide), if_neg (by rw [decide_eq_true_eq]; omega), chk_pos (by simp only [List.length_cons, List.length_nil, maxLen]; omega)]
theorem out_L2 (hP : P.length ≤ 1048576) (hls : ∀ x ∈ P, x.length ≤ 1048576) (hl : l.length < 1048576) (hN : 1048576 < N) (kk : List Int → Option (List Int)) : ∀ (n i : Nat), P.length < n + i → i ≤ P.length →
    m_credenceref14_out_L2 N P l kk n (-1) (i : Int) = putF l kk (nextF P l i)
  | 0, i, h, hi => by omega
  | n + 1, i, h, hi => by
    rw [m_credenceref14_out_L2.eq_2]
    by_cases hlt : i < P.length
    · have h3 := out_L3 N P l hP (by omega) hN (-1) i hlt (hls _ (List.getElem_mem hlt)) (m_credenceref14_out_L2 N P l kk n) N (!decide ((i : Int) ∈ l)) 0 (by have := hls _ (List.getElem_mem hlt); omega) (by omega)
      rw [if_pos (by simpa using hlt), m_credenceref14_out_J1, if_pos (by decide), Has_eq (by omega) hN, Option.bind_some]
      rw [show (0 : Int) = ((0 : Nat) : Int) from rfl, h3, nextF_step P l i hlt, List.drop_zero]
      have hb : (!decide ((i : Int) ∈ l) && P[i].all fun p => decide (p ∈ l)) = rdyB P l i := by
        rw [rdyB, List.getD_eq_getElem?_getD, List.getElem?_eq_getElem hlt]; rfl
      rw [hb]
      by_cases hr : rdyB P l i = true
      · rw [if_pos hr, if_pos hr]
        match n, h with
        | 0, h => omega
        | n + 1, h =>
          rw [m_credenceref14_out_L2.eq_2]
          by_cases h2 : i + 1 < P.length
          · rw [if_pos (decide_eq_true (by omega)), show decide ((i : Int) < 0) = false from decide_eq_false (by omega)]
            exact out_end N P l hl kk i _ _
          · rw [if_neg (by rw [decide_eq_true_eq]; omega)]
            exact out_end N P l hl kk i _ _
      · rw [if_neg hr, if_neg hr]
        exact out_L2 hP hls hl hN kk n (i + 1) (by omega) (by omega)
    · rw [if_neg (by simpa using hlt), nextF_end P l i (by omega), m_credenceref14_out_J1, if_neg (by decide), if_pos (by decide)]; rfl
end
theorem out_step {N : Nat} {P : List (List Int)} {l : List Int} (hP : P.length ≤ 1048576) (hls : ∀ x ∈ P, x.length ≤ 1048576) (hl : l.length < 1048576) (hN : 1048576 < N) (n : Nat) :
    m_credenceref14_out_L1 N P (n + 1) l = putF l (m_credenceref14_out_L1 N P n) (nextF P l 0) := by
  rw [m_credenceref14_out_L1.eq_2]
  exact out_L2 N P l hP hls hl hN _ N 0 (by omega) (by omega)

theorem nextF_some {P : List (List Int)} {l : List Int} {i j : Nat} (h : nextF P l i = some j) : i ≤ j ∧ j < P.length ∧ rdyB P l j = true ∧ ∀ k, i ≤ k → k < j → rdyB P l k = false := by
  rw [nextF, List.find?_range'_eq_some] at h
  obtain ⟨h1, h2, h3⟩ := h
  rw [List.mem_range'] at h2
  obtain ⟨q, h4, h5⟩ := h2
  refine ⟨by omega, by omega, h1, fun k hk1 hk2 => ?_⟩
  have := h3 k hk1 hk2
  simpa using this
theorem nextF_none {P : List (List Int)} {l : List Int} {i : Nat} (h : nextF P l i = none) : ∀ k, i ≤ k → k < P.length → rdyB P l k = false := by
  rw [nextF, List.find?_eq_none] at h
  intro k hk1 hk2
  have := h k (by rw [List.mem_range']; exact ⟨k - i, by omega, by omega⟩)
  simpa using this
theorem rdyB_iff {P : List (List Int)} {l : List Int} {i : Nat} (hi : i < P.length) : rdyB P l i = true ↔ (i : Int) ∉ l ∧ ∀ p ∈ P[i], p ∈ l := by
  rw [rdyB, List.getD_eq_getElem?_getD, List.getElem?_eq_getElem hi]
  simp

/-- What is out: points, each once, each with all its parents. -/
def OutOk (P : List (List Int)) (l : List Int) : Prop := l.Nodup ∧ (∀ x ∈ l, 0 ≤ x ∧ x < (P.length : Int)) ∧ ∀ (i : Nat) (hi : i < P.length), (i : Int) ∈ l → ∀ p ∈ P[i], p ∈ l
theorem OutOk.len {P : List (List Int)} {l : List Int} (h : OutOk P l) : l.length ≤ P.length := by
  have h1 := nodup_le (r := (List.range P.length).map fun i : Nat => (i : Int)) h.1 fun x hx => by
    have := h.2.1 x hx
    exact List.mem_map.2 ⟨x.toNat, List.mem_range.2 (by omega), by omega⟩
  simpa using h1
theorem OutOk.step {P : List (List Int)} {l : List Int} {j : Nat} (h : OutOk P l) (hn : nextF P l 0 = some j) : OutOk P (l ++ [(j : Int)]) ∧ l.length < P.length := by
  obtain ⟨_, h2, h3, _⟩ := nextF_some hn
  obtain ⟨h4, h5⟩ := (rdyB_iff h2).1 h3
  have h6 : OutOk P (l ++ [(j : Int)]) := by
    refine ⟨?_, ?_, ?_⟩
    · rw [List.nodup_append]
      refine ⟨h.1, by simp, fun a ha b hb e => ?_⟩
      rw [List.mem_singleton] at hb; subst hb; subst e; exact h4 ha
    · intro x hx
      rcases List.mem_append.1 hx with hx | hx
      · exact h.2.1 x hx
      · rw [List.mem_singleton] at hx; omega
    · intro i hi hm p hp
      rcases List.mem_append.1 hm with hm | hm
      · exact List.mem_append_left _ (h.2.2 i hi hm p hp)
      · rw [List.mem_singleton] at hm
        have : i = j := by omega
        subst this
        exact List.mem_append_left _ (h5 p hp)
  exact ⟨h6, by have := h6.len; rw [List.length_append, List.length_cons, List.length_nil] at this; omega⟩
/-- The points that can be put out, from l on. -/
theorem out_total {N : Nat} {P : List (List Int)} (hP : P.length < 1048576) (hls : ∀ x ∈ P, x.length ≤ 1048576) (hN : 1048576 < N) : ∀ (n : Nat) (l : List Int), OutOk P l → P.length < n + l.length →
    ∃ r, m_credenceref14_out_L1 N P n l = some r ∧ OutOk P r ∧ nextF P r 0 = none
  | 0, l, h, hn => by have := h.len; omega
  | n + 1, l, h, hn => by
    have hl := h.len
    rw [out_step (by omega) hls (by omega) hN]
    cases hnx : nextF P l 0 with
    | none => exact ⟨l, rfl, h, hnx⟩
    | some j =>
      obtain ⟨h1, h2⟩ := h.step hnx
      exact out_total hP hls hN n _ h1 (by simp; omega)
theorem out_eq {N : Nat} {P : List (List Int)} (hP : P.length < 1048576) (hls : ∀ x ∈ P, x.length ≤ 1048576) (hN : 1048576 < N) : ∃ r, m_credenceref14_out N P = some r ∧ OutOk P r ∧ nextF P r 0 = none := by
  rw [m_credenceref14_out]
  exact out_total hP hls hN N [] ⟨.nil, by simp, by simp⟩ (by simp; omega)


def gD (h : List Int) (j : Nat) : Int := h.getD j 0
theorem gD_lt {h : List Int} {j : Nat} (hj : j < h.length) : gD h j = h[j] := by rw [gD, List.getD_eq_getElem?_getD, List.getElem?_eq_getElem hj]; rfl
theorem at?_gD {h : List Int} {j : Nat} (hj : j < h.length) : at? h (j : Int) = some (gD h j) := by rw [at?_lt hj, gD_lt hj]
def swapL (h : List Int) (i p : Nat) : List Int := (h.set i (gD h p)).set p (gD h i)
theorem swapL_length (h : List Int) (i p : Nat) : (swapL h i p).length = h.length := by simp [swapL]
theorem swapL_perm {h : List Int} {i p : Nat} (hi : i < h.length) (hp : p < h.length) : (swapL h i p).Perm h := by
  rw [swapL, gD_lt hi, gD_lt hp]; exact List.set_set_perm hi hp
theorem gD_set (h : List Int) (i j : Nat) (x : Int) (hi : i < h.length) : gD (h.set i x) j = if j = i then x else gD h j := by
  rw [gD, gD, List.getD_eq_getElem?_getD, List.getD_eq_getElem?_getD, List.getElem?_set]
  by_cases h1 : i = j
  · subst h1; rw [if_pos rfl, if_pos hi, if_pos rfl]; rfl
  · rw [if_neg h1, if_neg (Ne.symm h1)]
theorem gD_swap {h : List Int} {i p : Nat} (hi : i < h.length) (hp : p < h.length) (j : Nat) : gD (swapL h i p) j = if j = p then gD h i else if j = i then gD h p else gD h j := by
  rw [swapL, gD_set _ _ _ _ (by simpa using hp), gD_set _ _ _ _ hi]

/-- Each is at least as great as the one above it. -/
def HeapN (h : List Int) (n : Nat) : Prop := ∀ j, 0 < j → j < n → gD h ((j - 1) / 2) ≤ gD h j
theorem HeapN.min {h : List Int} {n : Nat} (hh : HeapN h n) : ∀ j, j < n → gD h 0 ≤ gD h j := by
  intro j
  induction j using Nat.strongRecOn with
  | ind j ih =>
    intro hj
    by_cases h0 : j = 0
    · subst h0; exact Int.le_refl _
    · exact Int.le_trans (ih ((j - 1) / 2) (by omega) (by omega)) (hh j (by omega) hj)

/-! ### push -/
def UpOk (h : List Int) (i : Nat) : Prop := (∀ j, 0 < j → j < h.length → j ≠ i → gD h ((j - 1) / 2) ≤ gD h j) ∧ ∀ j, 0 < j → j < h.length → (j - 1) / 2 = i → 0 < i → gD h ((i - 1) / 2) ≤ gD h j
theorem UpOk.step {h : List Int} {i : Nat} (hu : UpOk h i) (hi : i < h.length) (h0 : 0 < i) (hlt : gD h i < gD h ((i - 1) / 2)) : UpOk (swapL h i ((i - 1) / 2)) ((i - 1) / 2) := by
  have hp : (i - 1) / 2 < h.length := by omega
  refine ⟨fun j hj0 hj hjp => ?_, fun j hj0 hj hjp hp0 => ?_⟩
  · rw [swapL_length] at hj
    rw [gD_swap hi hp, gD_swap hi hp, if_neg hjp]
    by_cases hji : j = i
    · subst hji; rw [if_pos rfl, if_pos rfl]; omega
    · rw [if_neg hji]
      have h1 := hu.1 j hj0 hj hji
      by_cases hq : (j - 1) / 2 = (i - 1) / 2
      · rw [if_pos hq]; rw [hq] at h1; omega
      · rw [if_neg hq]
        by_cases hq2 : (j - 1) / 2 = i
        · rw [if_pos hq2]; exact hu.2 j hj0 hj hq2 h0
        · rw [if_neg hq2]; exact h1
  · rw [swapL_length] at hj
    rw [gD_swap hi hp, gD_swap hi hp, if_neg (by omega), if_neg (by omega), if_neg (by omega)]
    have h1 := hu.1 ((i - 1) / 2) hp0 hp (by omega)
    by_cases hji : j = i
    · rw [if_pos hji]; exact h1
    · rw [if_neg hji]
      have h2 := hu.1 j hj0 hj hji
      rw [hjp] at h2; omega
theorem parW {i : Nat} (h0 : 0 < i) (h1 : i ≤ 9000000) : IntKind.i64.wrap (Int.tdiv (IntKind.i64.wrap ((i : Int) - 1)) 2) = (((i - 1) / 2 : Nat) : Int) := by
  rw [w64 (x := (i : Int) - 1) (by omega), Int.tdiv_eq_ediv_of_nonneg (by omega), w64 (by omega)]; omega
theorem push_L1 (N : Nat) : ∀ (n : Nat) (h : List Int) (i : Nat), i < n → i < h.length → h.length ≤ 9000000 → UpOk h i →
    ∃ h', m_dag_heap_push_L1 N n h (i : Int) = some h' ∧ h'.Perm h ∧ HeapN h' h'.length
  | 0, h, i, hn, _, _, _ => by omega
  | n + 1, h, i, hn, hi, hl, hu => by
    rw [m_dag_heap_push_L1.eq_2]
    by_cases h0 : 0 < i
    · have hp : (i - 1) / 2 < h.length := by omega
      rw [if_pos (decide_eq_true (by omega)), at?_gD hi, Option.bind_some, parW h0 (by omega), at?_gD hp, Option.bind_some, m_dag_heap_push_J1, parW h0 (by omega)]
      by_cases hlt : gD h i < gD h ((i - 1) / 2)
      · obtain ⟨h', h1, h2, h3⟩ := push_L1 N n (swapL h i ((i - 1) / 2)) ((i - 1) / 2) (by omega) (by rw [swapL_length]; exact hp) (by rw [swapL_length]; exact hl) (hu.step hi h0 hlt)
        refine ⟨h', ?_, h2.trans (swapL_perm hi hp), h3⟩
        rw [if_pos (decide_eq_true hlt), at?_gD hp, Option.bind_some, at?_gD hi, Option.bind_some, Option.bind_some, Int.toNat_natCast, Int.toNat_natCast, at?_lt (by simpa using hp), Option.bind_some, Option.bind_some]
        exact h1
      · refine ⟨h, by rw [if_neg (by simpa using hlt)], .refl _, fun j hj0 hj => ?_⟩
        by_cases hji : j = i
        · subst hji; omega
        · exact hu.1 j hj0 hj hji
    · have : i = 0 := by omega
      subst this
      rw [if_neg (by decide), m_dag_heap_push_J1, if_neg (by decide)]
      exact ⟨h, rfl, .refl _, fun j hj0 hj => hu.1 j hj0 hj (by omega)⟩
theorem gD_app {h : List Int} {x : Int} {j : Nat} (hj : j < h.length) : gD (h ++ [x]) j = gD h j := by
  rw [gD_lt hj, gD_lt (by simp; omega), List.getElem_append_left hj]
theorem push_eq {N : Nat} {h : List Int} (x : Int) (hl : h.length < 2000000) (hh : HeapN h h.length) (hN : 2000000 < N) : ∃ h', m_dag_heap_push N h x = some h' ∧ h'.Perm (x :: h) ∧ HeapN h' h'.length := by
  rw [m_dag_heap_push, chk_pos (by simp only [List.length_cons, List.length_nil, maxLen]; omega)]
  have hle : (h ++ [x]).length = h.length + 1 := by simp
  rw [w64 (by omega), show (((h ++ [x]).length : Int) - 1) = ((h.length : Nat) : Int) by omega]
  obtain ⟨h', h1, h2, h3⟩ := push_L1 N N (h ++ [x]) h.length (by omega) (by omega) (by omega) ⟨fun j hj0 hj hji => by rw [gD_app (by omega), gD_app (by omega)]; exact hh j hj0 (by omega), fun j hj0 hj hji h0 => by omega⟩
  exact ⟨h', h1, h2.trans (List.perm_append_singleton x h), h3⟩

/-! ### pop -/
def DownOk (l : List Int) (n i : Nat) : Prop := (∀ j, 0 < j → j < n → (j - 1) / 2 ≠ i → gD l ((j - 1) / 2) ≤ gD l j) ∧ ∀ j, 0 < j → j < n → (j - 1) / 2 = i → 0 < i → gD l ((i - 1) / 2) ≤ gD l j
theorem DownOk.step {l : List Int} {n i q : Nat} (hu : DownOk l n i) (hn : n ≤ l.length) (hi : i < n) (hq : q < n) (hqi : (q - 1) / 2 = i) (hq0 : 0 < q) (hlt : gD l q < gD l i) (hle : ∀ j, 0 < j → j < n → (j - 1) / 2 = i → gD l q ≤ gD l j) : DownOk (swapL l i q) n q := by
  have hi' : i < l.length := by omega
  have hq' : q < l.length := by omega
  refine ⟨fun j hj0 hj hjp => ?_, fun j hj0 hj hjp _ => ?_⟩
  · rw [gD_swap hi' hq', gD_swap hi' hq', if_neg hjp]
    by_cases h1 : (j - 1) / 2 = i
    · rw [if_pos h1]
      by_cases h2 : j = q
      · rw [if_pos h2]; omega
      · rw [if_neg h2, if_neg (by omega)]; exact hle j hj0 hj h1
    · rw [if_neg h1, if_neg (show j ≠ q by omega)]
      by_cases h2 : j = i
      · subst h2
        rw [if_pos rfl]; exact hu.2 q hq0 hq hqi hj0
      · rw [if_neg h2]; exact hu.1 j hj0 hj h1
  · rw [gD_swap hi' hq', gD_swap hi' hq', hqi, if_neg (by omega), if_pos rfl, if_neg (by omega), if_neg (by omega)]
    have := hu.1 j hj0 hj (by omega)
    rwa [hjp] at this
theorem swapL_take {l : List Int} {n i q : Nat} (hn : n ≤ l.length) (hi : i < n) (hq : q < n) : (swapL l i q).take n = swapL (l.take n) i q := by
  have h1 : ∀ j, j < n → gD (l.take n) j = gD l j := fun j hj => by rw [gD_lt (by simp; omega), gD_lt (by omega), List.getElem_take]
  rw [swapL, swapL, List.take_set, List.take_set, h1 i hi, h1 q hq]

theorem pop_L1 (N : Nat) (p0 : List Int) (x0 : Int) (n : Nat) (hp0 : p0.length = n + 1) (hn : n ≤ 2000000) (hN : 2000000 < N) : ∀ (m : Nat) (l : List Int) (i : Nat), n < m + i → (i < n ∨ n = 0 ∧ i = 0) → l.length = n + 1 → DownOk l n i →
    ∃ t, m_dag_heap_pop_L1 N p0 x0 m l (i : Int) = some (x0, t) ∧ t.Perm (l.take n) ∧ HeapN t n
  | 0, l, i, hm, hi, hl, hu => by omega
  | m + 1, l, i, hm, hi, hl, hu => by
    rw [m_dag_heap_pop_L1.eq_2]
    obtain ⟨N, rfl⟩ : ∃ N', N = N' + 1 + 1 + 1 := ⟨N - 3, by omega⟩
    have w1 : IntKind.i64.wrap ((p0.length : Int) - 1) = (n : Int) := by rw [w64 (by omega)]; omega
    have wa : IntKind.i64.wrap (IntKind.i64.wrap (2 * (i : Int)) + 1) = ((2 * i + 1 : Nat) : Int) := by rw [w64 (x := 2 * (i : Int)) (by omega), w64 (by omega)]; omega
    have wb : IntKind.i64.wrap (IntKind.i64.wrap (2 * (i : Int)) + 2) = ((2 * i + 2 : Nat) : Int) := by rw [w64 (x := 2 * (i : Int)) (by omega), w64 (by omega)]; omega
    -- one child after the other
    have stepv : ∀ (v : Nat) (k least : Nat), v < 2 → k = 2 * i + 1 + v → (least < n ∨ n = 0) → least < l.length → ∀ f kk, m_dag_heap_pop_L2 (N + 1 + 1 + 1) p0 x0 l (i : Int) kk (f + 1) (v : Int) (least : Int) =
        m_dag_heap_pop_L2 (N + 1 + 1 + 1) p0 x0 l (i : Int) kk f ((v + 1 : Nat) : Int) ((if k < n ∧ gD l k < gD l least then k else least : Nat) : Int) := by
      intro v k least hv hk hle hll f kk
      rw [m_dag_heap_pop_L2.eq_2, if_pos (decide_eq_true (by omega)), wa, wb, w1]
      have hat : at? [((2 * i + 1 : Nat) : Int), ((2 * i + 2 : Nat) : Int)] (v : Int) = some (k : Int) := by
        rw [at?_nat]
        match v, hv with
        | 0, _ => simp [hk]
        | 1, _ => simp [hk]; omega
      rw [hat, Option.bind_some]
      by_cases h1 : k < n
      · rw [if_pos (decide_eq_true (by omega)), at?_gD (by omega), Option.bind_some, at?_gD hll, Option.bind_some, m_dag_heap_pop_J2, m_dag_heap_pop_J1, m_dag_heap_pop_J1, wS (by omega)]
        by_cases h2 : gD l k < gD l least
        · rw [if_pos (decide_eq_true h2), if_pos ⟨h1, h2⟩]
        · rw [if_neg (by simpa using h2), if_neg (fun h => h2 h.2)]
      · rw [if_neg (by rw [decide_eq_true_eq]; omega), m_dag_heap_pop_J2, m_dag_heap_pop_J1, m_dag_heap_pop_J1, if_neg (by decide), wS (by omega), if_neg (fun h => h1 h.1)]
    have hil : i < l.length := by omega
    have e1 := stepv 0 (2 * i + 1) i (by omega) (by omega) (by omega) hil (N + 1 + 1) (m_dag_heap_pop_L1 (N + 1 + 1 + 1) p0 x0 m)
    generalize hq1 : (if 2 * i + 1 < n ∧ gD l (2 * i + 1) < gD l i then 2 * i + 1 else i) = q1 at e1
    have hq1' : (q1 = i ∧ (2 * i + 1 < n → gD l i ≤ gD l (2 * i + 1))) ∨ (q1 = 2 * i + 1 ∧ q1 < n ∧ gD l q1 < gD l i) := by
      by_cases hc : 2 * i + 1 < n ∧ gD l (2 * i + 1) < gD l i
      · rw [if_pos hc] at hq1; subst hq1; exact .inr ⟨rfl, hc.1, hc.2⟩
      · rw [if_neg hc] at hq1; subst hq1; exact .inl ⟨rfl, fun h => by omega⟩
    have e2 := stepv 1 (2 * i + 2) q1 (by omega) (by omega) (by omega) (by omega) (N + 1) (m_dag_heap_pop_L1 (N + 1 + 1 + 1) p0 x0 m)
    generalize hq2 : (if 2 * i + 2 < n ∧ gD l (2 * i + 2) < gD l q1 then 2 * i + 2 else q1) = q2 at e2
    have hq2' : (q2 = i ∧ (2 * i + 1 < n → gD l i ≤ gD l (2 * i + 1)) ∧ (2 * i + 2 < n → gD l i ≤ gD l (2 * i + 2))) ∨ ((q2 = 2 * i + 1 ∨ q2 = 2 * i + 2) ∧ q2 < n ∧ gD l q2 < gD l i ∧ (2 * i + 1 < n → gD l q2 ≤ gD l (2 * i + 1)) ∧ (2 * i + 2 < n → gD l q2 ≤ gD l (2 * i + 2))) := by
      by_cases hc : 2 * i + 2 < n ∧ gD l (2 * i + 2) < gD l q1
      · rw [if_pos hc] at hq2; subst hq2
        rcases hq1' with ⟨rfl, h3⟩ | ⟨rfl, h3, h4⟩
        · exact .inr ⟨.inr rfl, hc.1, hc.2, fun h => by have := h3 h; omega, fun _ => Int.le_refl _⟩
        · exact .inr ⟨.inr rfl, hc.1, by omega, fun _ => by omega, fun _ => Int.le_refl _⟩
      · rw [if_neg hc] at hq2; subst hq2
        rcases hq1' with ⟨rfl, h3⟩ | ⟨rfl, h3, h4⟩
        · exact .inl ⟨rfl, h3, fun h => by omega⟩
        · exact .inr ⟨.inl rfl, h3, h4, fun _ => Int.le_refl _, fun h => by omega⟩
    rw [show (0 : Int) = ((0 : Nat) : Int) from rfl, e1]
    rw [show ((0 + 1 : Nat) : Int) = ((1 : Nat) : Int) from rfl, e2, m_dag_heap_pop_L2.eq_2, if_neg (by decide), w1, Int.toNat_natCast]
    rcases hq2' with ⟨rfl, h3, h4⟩ | ⟨h2, h3, h4, h5, h6⟩
    · rw [if_pos (by simp)]
      refine ⟨_, rfl, .refl _, fun j hj0 hj => ?_⟩
      have ht : ∀ k, k < n → gD (l.take n) k = gD l k := fun k hk => by rw [gD_lt (by simp; omega), gD_lt (by omega), List.getElem_take]
      rw [ht _ (by omega), ht _ hj]
      by_cases hq : (j - 1) / 2 = q2
      · rw [hq]
        rcases (show j = 2 * q2 + 1 ∨ j = 2 * q2 + 2 by omega) with rfl | rfl
        · exact h3 hj
        · exact h4 hj
      · exact hu.1 j hj0 hj hq
    · have hq2l : q2 < l.length := by omega
      have hin : i < n := by omega
      have hd := hu.step (by omega) hin h3 (by omega) (by omega) h4 (fun j hj0 hj hji => by
        rcases (show j = 2 * i + 1 ∨ j = 2 * i + 2 by omega) with rfl | rfl
        · exact h5 hj
        · exact h6 hj)
      obtain ⟨t, k1, k2, k3⟩ := pop_L1 (N + 1 + 1 + 1) p0 x0 n hp0 hn hN m (swapL l i q2) q2 (by omega) (.inl h3) (by rw [swapL_length]; exact hl) hd
      refine ⟨t, ?_, k2.trans ?_, k3⟩
      · rw [if_neg (by simp; omega), at?_gD hq2l, Option.bind_some, at?_gD hil, Option.bind_some, Option.bind_some, Int.toNat_natCast, Int.toNat_natCast, at?_lt (by simpa using hq2l), Option.bind_some, Option.bind_some]
        exact k1
      · rw [swapL_take (by omega) hin h3]; exact swapL_perm (by simp; omega) (by simp; omega)
theorem pop_eq {N : Nat} {h : List Int} (hl : h.length ≤ 2000000) (h0 : 0 < h.length) (hh : HeapN h h.length) (hN : 2000000 < N) : ∃ x t, m_dag_heap_pop N h = some (x, t) ∧ h.Perm (x :: t) ∧ (∀ y ∈ h, x ≤ y) ∧ HeapN t t.length := by
  rw [m_dag_heap_pop]
  obtain ⟨n, hn⟩ : ∃ n, h.length = n + 1 := ⟨h.length - 1, by omega⟩
  have w1 : IntKind.i64.wrap ((h.length : Int) - 1) = (n : Int) := by rw [w64 (by omega)]; omega
  rw [w1, show (0 : Int) = ((0 : Nat) : Int) from rfl, at?_gD h0, Option.bind_some, at?_gD (by omega), Option.bind_some, Option.bind_some, chk_pos (by simp; omega), Int.toNat_natCast]
  have hd : DownOk (h.set 0 (gD h n)) n 0 := by
    refine ⟨fun j hj0 hj hji => ?_, fun j _ _ _ h => by omega⟩
    rw [gD_set _ _ _ _ h0, gD_set _ _ _ _ h0, if_neg (by omega), if_neg (by omega)]
    exact hh j hj0 (by omega)
  obtain ⟨t, h1, h2, h3⟩ := pop_L1 N h (gD h 0) n hn (by omega) hN N (h.set 0 (gD h n)) 0 (by omega) (by omega) (by simpa using hn) hd
  have hpm : h.Perm (gD h 0 :: (h.set 0 (gD h n)).take n) := by
    match h, hn with
    | x :: r, hn =>
      have hr : r.length = n := by simpa using hn
      match n, hr with
      | 0, hr => rw [List.length_eq_zero_iff.1 hr]; exact .refl _
      | n + 1, hr =>
        have e : gD (x :: r) (n + 1) = gD r n := rfl
        rw [e, List.set_cons_zero, List.take_succ_cons]
        refine List.Perm.cons x ?_
        have : r = r.take n ++ [gD r n] := by
          have := List.take_succ_eq_append_getElem (show n < r.length by omega)
          rw [List.take_of_length_le (by omega)] at this
          rw [gD_lt (by omega)]; exact this
        conv => lhs; rw [this]
        exact List.perm_append_singleton _ _
  have hp2 : h.Perm (gD h 0 :: t) := hpm.trans (List.Perm.cons _ h2.symm)
  refine ⟨gD h 0, t, h1, hp2, fun y hy => ?_, ?_⟩
  · obtain ⟨j, hj, rfl⟩ := List.getElem_of_mem hy
    rw [← gD_lt hj]; exact hh.min j hj
  · have := hp2.length_eq
    rw [List.length_cons, hn] at this
    rw [show t.length = n by omega]; exact h3


theorem lgetD_lt {α : Type} {l : List α} {d : α} {j : Nat} (hj : j < l.length) : l.getD j d = l[j] := by rw [List.getD_eq_getElem?_getD, List.getElem?_eq_getElem hj]; rfl
theorem at?_getD {α : Type} {l : List α} (d : α) {j : Nat} (hj : j < l.length) : at? l (j : Int) = some (l.getD j d) := by rw [at?_lt hj, lgetD_lt hj]
theorem lgetD_set {α : Type} (l : List α) (d : α) (i j : Nat) (x : α) (hi : i < l.length) : (l.set i x).getD j d = if j = i then x else l.getD j d := by
  rw [List.getD_eq_getElem?_getD, List.getD_eq_getElem?_getD, List.getElem?_set]
  by_cases h1 : i = j
  · subst h1; rw [if_pos rfl, if_pos hi, if_pos rfl]; rfl
  · rw [if_neg h1, if_neg (Ne.symm h1)]

/-- Who hangs on p, rising; from the k-th point on. -/
def kidsL : Nat → List (List Int) → Int → List Int
  | _, [], _ => []
  | k, l :: P, p => List.replicate (l.count p) (k : Int) ++ kidsL (k + 1) P p
def InR (n : Nat) (l : List Int) : Prop := ∀ x ∈ l, 0 ≤ x ∧ x < (n : Int)

theorem children_L2 (k : Nat) (kk : Nat → List (List Int) → Option (List (List Int))) : ∀ (l : List Int) (out : List (List Int)), InR out.length l → (∀ p : Nat, (out.getD p []).length + l.length ≤ 1048576) →
    ∃ out', m_dag_children_L2 k kk l out = kk (k + 1) out' ∧ out'.length = out.length ∧ ∀ p : Nat, p < out.length → out'.getD p [] = out.getD p [] ++ List.replicate (l.count (p : Int)) (k : Int)
  | [], out, h, hb => ⟨out, by rw [m_dag_children_L2.eq_1], rfl, fun p hp => by simp⟩
  | x :: l, out, h, hb => by
    obtain ⟨h0, h1⟩ := h x List.mem_cons_self
    obtain ⟨q, rfl⟩ := Int.eq_ofNat_of_zero_le h0
    have hq : q < out.length := by omega
    have hbq := hb q
    simp only [List.length_cons] at hbq hb
    rw [m_dag_children_L2.eq_2, at?_getD [] hq, Option.bind_some, chk_pos (by simp only [List.length_cons, List.length_nil, maxLen]; omega), Int.toNat_natCast]
    obtain ⟨out', h2, h3, h4⟩ := children_L2 k kk l (out.set q (out.getD q [] ++ [(k : Int)])) (by rw [List.length_set]; exact fun y hy => h y (List.mem_cons_of_mem _ hy)) (fun p => by
      rw [lgetD_set _ _ _ _ _ hq]
      have := hb p
      split
      · simp only [List.length_append, List.length_cons, List.length_nil]; omega
      · omega)
    refine ⟨out', h2, by rw [h3, List.length_set], fun p hp => ?_⟩
    rw [h4 p (by rw [List.length_set]; exact hp), lgetD_set _ _ _ _ _ hq, List.count_cons]
    by_cases hpq : p = q
    · subst hpq
      rw [if_pos rfl, if_pos (by simp), List.append_assoc, show l.count (p : Int) + 1 = 1 + l.count (p : Int) by omega, show [(k : Int)] = List.replicate 1 (k : Int) from rfl, List.replicate_append_replicate]
    · rw [if_neg hpq, if_neg (by simp; omega), Nat.add_zero]
theorem kidsL_length_le (p : Int) : ∀ (k : Nat) (P : List (List Int)), (kidsL k P p).length ≤ totl P
  | _, [] => by simp [kidsL]
  | k, l :: P => by
    rw [kidsL, List.length_append, List.length_replicate, totl_cons]
    have := kidsL_length_le p (k + 1) P
    have := List.count_le_length (a := p) (l := l)
    omega
theorem children_L1 (n : Nat) : ∀ (P : List (List Int)) (k : Nat) (out : List (List Int)), out.length = n → (∀ l ∈ P, InR n l) → (∀ p : Nat, (out.getD p []).length + totl P ≤ 1048576) →
    ∃ out', m_dag_children_L1 P k out = some out' ∧ out'.length = n ∧ ∀ p : Nat, p < n → out'.getD p [] = out.getD p [] ++ kidsL k P p
  | [], k, out, hn, _, _ => ⟨out, by rw [m_dag_children_L1.eq_1], hn, fun p hp => by simp [kidsL]⟩
  | l :: P, k, out, hn, h, hb => by
    simp only [totl_cons] at hb
    rw [m_dag_children_L1.eq_2]
    obtain ⟨out1, h1, h2, h3⟩ := children_L2 k (m_dag_children_L1 P) l out (by rw [hn]; exact h l List.mem_cons_self) (fun p => by have := hb p; omega)
    obtain ⟨out', h4, h5, h6⟩ := children_L1 n P (k + 1) out1 (by omega) (fun x hx => h x (List.mem_cons_of_mem _ hx)) (fun p => by
      have := hb p
      by_cases hp : p < out.length
      · rw [h3 p hp, List.length_append, List.length_replicate]
        have := List.count_le_length (a := (p : Int)) (l := l)
        omega
      · rw [List.getD_eq_getElem?_getD, List.getElem?_eq_none (by omega)]; simp; omega)
    refine ⟨out', by rw [h1, h4], h5, fun p hp => ?_⟩
    rw [h6 p hp, h3 p (by omega), List.append_assoc, kidsL]
theorem children_eq {P : List (List Int)} (hP : P.length ≤ 1048576) (ht : totl P ≤ 1048576) (h : ∀ l ∈ P, InR P.length l) : ∃ D, m_dag_children P = some D ∧ D.length = P.length ∧ ∀ p : Nat, p < P.length → D.getD p [] = kidsL 0 P p := by
  rw [m_dag_children, chk_pos (by simp only [maxLen]; omega)]
  have hr : ∀ p : Nat, (List.replicate P.length ([] : List Int)).getD p [] = [] := fun p => by
    rw [List.getD_eq_getElem?_getD, List.getElem?_replicate]; split <;> rfl
  obtain ⟨D, h1, h2, h3⟩ := children_L1 P.length P 0 (List.replicate P.length []) (by simp) h (fun p => by rw [hr]; simpa using ht)
  exact ⟨D, h1, h2, fun p hp => by rw [h3 p hp, hr]; rfl⟩

theorem kids_count (p : Int) : ∀ (k : Nat) (P : List (List Int)) (c : Nat), (kidsL k P p).count (c : Int) = if k ≤ c then (P.getD (c - k) []).count p else 0
  | k, [], c => by simp [kidsL]
  | k, l :: P, c => by
    rw [kidsL, List.count_append, kids_count p (k + 1) P c, List.count_replicate]
    by_cases h1 : k = c
    · subst h1
      rw [if_pos (by simp), if_neg (by omega), if_pos (Nat.le_refl _), Nat.sub_self]; rfl
    · rw [if_neg (by simp; omega)]
      by_cases h2 : k ≤ c
      · rw [if_pos (by omega), if_pos h2, show c - k = (c - (k + 1)) + 1 by omega]; simp
      · rw [if_neg (by omega), if_neg h2]
theorem kids_mem (p : Int) : ∀ (k : Nat) (P : List (List Int)) (x : Int), x ∈ kidsL k P p → ∃ c : Nat, x = (c : Int) ∧ k ≤ c ∧ c < k + P.length
  | k, [], x, h => by simp [kidsL] at h
  | k, l :: P, x, h => by
    rw [kidsL] at h
    rcases List.mem_append.1 h with h | h
    · exact ⟨k, (List.mem_replicate.1 h).2, Nat.le_refl _, by simp⟩
    · obtain ⟨c, h1, h2, h3⟩ := kids_mem p (k + 1) P x h
      exact ⟨c, h1, by omega, by rw [List.length_cons]; omega⟩

/-- How many of a point's parents are not out. -/
def cntO (P : List (List Int)) (out : List Int) (c : Nat) : Nat := (P.getD c []).countP fun q => !decide (q ∈ out)
theorem countP_out (out : List Int) (p : Int) (hp : p ∉ out) : ∀ l : List Int, (l.countP fun q => !decide (q ∈ out)) = (l.countP fun q => !decide (q ∈ out ++ [p])) + l.count p
  | [] => rfl
  | x :: l => by
    rw [List.countP_cons, List.countP_cons, List.count_cons, countP_out out p hp l]
    by_cases h1 : x = p
    · subst h1
      have h2 : (!decide (x ∈ out)) = true := by simp [hp]
      have h3 : (!decide (x ∈ out ++ [x])) = false := by simp
      rw [h2, h3]; simp; omega
    · have h3 : (x ∈ out ++ [p]) ↔ x ∈ out := by simp [h1]
      rw [show (!decide (x ∈ out ++ [p])) = (!decide (x ∈ out)) from congrArg _ (decide_eq_decide.2 h3), if_neg (show ¬ ((x == p) = true) by simpa using h1)]; omega
theorem cntO_step {P : List (List Int)} {out : List Int} {p : Int} (hp : p ∉ out) (c : Nat) : cntO P out c = cntO P (out ++ [p]) c + (P.getD c []).count p := countP_out out p hp _
theorem rdyB_cnt (P : List (List Int)) (out : List Int) (c : Nat) : rdyB P out c = true ↔ (c : Int) ∉ out ∧ cntO P out c = 0 := by
  rw [rdyB, cntO, List.countP_eq_zero]
  simp

structure Inv (P : List (List Int)) (out left ready : List Int) : Prop where
  ok : OutOk P out
  len : left.length = P.length
  cnt : ∀ c : Nat, c < P.length → left.getD c 0 = (cntO P out c : Int)
  heap : HeapN ready ready.length
  nd : ready.Nodup
  mem : ∀ y : Int, y ∈ ready ↔ ∃ c : Nat, c < P.length ∧ y = (c : Int) ∧ (c : Int) ∉ out ∧ left.getD c 0 = 0

theorem sorted_L3 (N : Nat) (P : List (List Int)) (hP : P.length ≤ 1048576) (ht : totl P ≤ 1048576) (hN : 2000000 < N) (out : List Int) (p : Nat) (r2 : List Int) (kk : List Int → List Int → List Int → Option (List Int)) :
    ∀ (rest left ready : List Int), rest.length ≤ 9000000000000000000 → left.length = P.length → (∀ c : Nat, c < P.length → left.getD c 0 = ((cntO P (out ++ [(p : Int)]) c + rest.count (c : Int) : Nat) : Int)) →
      HeapN ready ready.length → ready.Nodup → (∀ y : Int, y ∈ ready ↔ ∃ c : Nat, c < P.length ∧ y = (c : Int) ∧ (c : Int) ∉ out ++ [(p : Int)] ∧ left.getD c 0 = 0) →
      (∀ x ∈ rest, ∃ c : Nat, c < P.length ∧ x = (c : Int) ∧ x ∉ out ++ [(p : Int)]) →
      ∃ left' ready', m_dag_sorted_L3 N out kk ((p : Int), r2) rest left ready = kk left' ready' (out ++ [(p : Int)]) ∧ left'.length = P.length ∧ (∀ c : Nat, c < P.length → left'.getD c 0 = (cntO P (out ++ [(p : Int)]) c : Int)) ∧
        HeapN ready' ready'.length ∧ ready'.Nodup ∧ ∀ y : Int, y ∈ ready' ↔ ∃ c : Nat, c < P.length ∧ y = (c : Int) ∧ (c : Int) ∉ out ++ [(p : Int)] ∧ left'.getD c 0 = 0
  | [], left, ready, _, h1, h2, h3, h4, h5, _ => ⟨left, ready, by rw [m_dag_sorted_L3.eq_1], h1, fun c hc => by rw [h2 c hc]; simp, h3, h4, h5⟩
  | x :: rest, left, ready, hrest, h1, h2, h3, h4, h5, h6 => by
    obtain ⟨c0, hc0, rfl, hx⟩ := h6 x List.mem_cons_self
    have hc0l : c0 < left.length := by omega
    have hcx := h2 c0 hc0
    rw [List.count_cons, if_pos (by simp)] at hcx
    have hle : cntO P (out ++ [(p : Int)]) c0 ≤ 1048576 := by
      have h7 := List.countP_le_length (p := fun q => !decide (q ∈ out ++ [(p : Int)])) (l := P.getD c0 [])
      rw [lgetD_lt hc0] at h7
      have h8 := totl_mem (P := P) (List.getElem_mem hc0)
      rw [cntO, lgetD_lt hc0]; omega
    have hrl : ready.length ≤ P.length := by
      have h7 := nodup_le (r := (List.range P.length).map fun i : Nat => (i : Int)) h4 fun y hy => by
        obtain ⟨c, h8, h9, _⟩ := (h5 y).1 hy
        exact List.mem_map.2 ⟨c, List.mem_range.2 h8, h9.symm⟩
      simpa using h7
    have hv : IntKind.i64.wrap (left.getD c0 0 - 1) = ((cntO P (out ++ [(p : Int)]) c0 + rest.count (c0 : Int) : Nat) : Int) := by
      have h9 := List.count_le_length (a := (c0 : Int)) (l := rest)
      rw [hcx, w64]
      · omega
      · simp only [List.length_cons] at hrest
        omega
    have hl1 : ∀ c : Nat, c < P.length → (left.set c0 (IntKind.i64.wrap (left.getD c0 0 - 1))).getD c 0 = ((cntO P (out ++ [(p : Int)]) c + rest.count (c : Int) : Nat) : Int) := fun c hc => by
      rw [lgetD_set _ _ _ _ _ hc0l]
      by_cases hcc : c = c0
      · subst hcc; rw [if_pos rfl, hv]
      · rw [if_neg hcc, h2 c hc, List.count_cons, if_neg (by simp; omega), Nat.add_zero]
    have hne : left.getD c0 0 ≠ 0 := by rw [hcx]; omega
    have hnr : (c0 : Int) ∉ ready := fun h => by
      obtain ⟨c, h8, h9, _, h10⟩ := (h5 _).1 h
      have : c = c0 := by omega
      subst this; exact hne h10
    have h6' : ∀ x ∈ rest, ∃ c : Nat, c < P.length ∧ x = (c : Int) ∧ x ∉ out ++ [(p : Int)] := fun x hx => h6 x (List.mem_cons_of_mem _ hx)
    have hr' : rest.length ≤ 9000000000000000000 := by simp only [List.length_cons] at hrest; omega
    rw [m_dag_sorted_L3.eq_2, at?_getD 0 hc0l, Option.bind_some, Option.bind_some, Int.toNat_natCast, at?_getD 0 (by rw [List.length_set]; exact hc0l), Option.bind_some, m_dag_sorted_J1, lgetD_set _ _ _ _ _ hc0l, if_pos rfl]
    by_cases hz : IntKind.i64.wrap (left.getD c0 0 - 1) = 0
    · obtain ⟨ready1, k1, k2, k3⟩ := push_eq (N := N) (c0 : Int) (by omega : ready.length < 2000000) h3 hN
      rw [if_pos (by simpa using hz), k1, Option.bind_some, m_dag_sorted_J1]
      refine sorted_L3 N P hP ht hN out p r2 kk rest _ ready1 hr' (by rw [List.length_set]; exact h1) hl1 k3 (k2.nodup_iff.2 (List.nodup_cons.2 ⟨hnr, h4⟩)) (fun y => ?_) h6'
      rw [k2.mem_iff, List.mem_cons]
      constructor
      · rintro (rfl | hy)
        · exact ⟨c0, hc0, rfl, hx, by rw [lgetD_set _ _ _ _ _ hc0l, if_pos rfl, hz]⟩
        · obtain ⟨c, h8, h9, h10, h11⟩ := (h5 y).1 hy
          refine ⟨c, h8, h9, h10, ?_⟩
          rw [lgetD_set _ _ _ _ _ hc0l]
          split
          · exact hz
          · exact h11
      · rintro ⟨c, h8, h9, h10, h11⟩
        by_cases hcc : c = c0
        · subst hcc; exact .inl h9
        · rw [lgetD_set _ _ _ _ _ hc0l, if_neg hcc] at h11
          exact .inr ((h5 y).2 ⟨c, h8, h9, h10, h11⟩)
    · rw [if_neg (by simpa using hz)]
      refine sorted_L3 N P hP ht hN out p r2 kk rest _ ready hr' (by rw [List.length_set]; exact h1) hl1 h3 h4 (fun y => ?_) h6'
      rw [h5 y]
      constructor
      · rintro ⟨c, h8, h9, h10, h11⟩
        refine ⟨c, h8, h9, h10, ?_⟩
        rw [lgetD_set _ _ _ _ _ hc0l, if_neg (fun h => hne (by rw [← h]; exact h11))]; exact h11
      · rintro ⟨c, h8, h9, h10, h11⟩
        refine ⟨c, h8, h9, h10, ?_⟩
        rw [lgetD_set _ _ _ _ _ hc0l] at h11
        split at h11
        · exact absurd h11 hz
        · exact h11

theorem sorted_step {N : Nat} {P D : List (List Int)} (hP : P.length ≤ 1048576) (ht : totl P ≤ 1048576) (hN : 2000000 < N) (hD : D.length = P.length) (hDk : ∀ p : Nat, p < P.length → D.getD p [] = kidsL 0 P p) {out left ready : List Int} (hi : Inv P out left ready) (n : Nat) :
    (nextF P out 0 = none → m_dag_sorted_L2 N D (n + 1) left ready out = some out) ∧
    ∀ p, nextF P out 0 = some p → ∃ left' ready', Inv P (out ++ [(p : Int)]) left' ready' ∧ m_dag_sorted_L2 N D (n + 1) left ready out = m_dag_sorted_L2 N D n left' ready' (out ++ [(p : Int)]) := by
  have hrl : ready.length ≤ P.length := by
    have h7 := nodup_le (r := (List.range P.length).map fun i : Nat => (i : Int)) hi.nd fun y hy => by
      obtain ⟨c, h8, h9, _⟩ := (hi.mem y).1 hy
      exact List.mem_map.2 ⟨c, List.mem_range.2 h8, h9.symm⟩
    simpa using h7
  have hrd : ∀ c : Nat, c < P.length → (rdyB P out c = true ↔ (c : Int) ∈ ready) := fun c hc => by
    rw [rdyB_cnt, hi.mem]
    constructor
    · rintro ⟨h1, h2⟩; exact ⟨c, hc, rfl, h1, by rw [hi.cnt c hc, h2]; rfl⟩
    · rintro ⟨c', h1, h2, h3, h4⟩
      have : c' = c := by omega
      subst this
      rw [hi.cnt c' h1] at h4
      exact ⟨h3, by omega⟩
  refine ⟨fun hn => ?_, fun p hn => ?_⟩
  · have h0 : ready = [] := by
      cases hr : ready with
      | nil => rfl
      | cons y l =>
        obtain ⟨c, h1, h2, _⟩ := (hi.mem y).1 (by rw [hr]; exact List.mem_cons_self)
        have h3 := nextF_none hn c (Nat.zero_le _) h1
        have h4 := (hrd c h1).2 (by rw [← h2, hr]; exact List.mem_cons_self)
        rw [h3] at h4; cases h4
    rw [m_dag_sorted_L2.eq_2, h0, if_neg (by decide)]
  · obtain ⟨_, hp, hr, hmin⟩ := nextF_some hn
    have hpr := (hrd p hp).1 hr
    have hpos : 0 < ready.length := List.length_pos_of_mem hpr
    obtain ⟨x, t, k1, k2, k3, k4⟩ := pop_eq (N := N) (by omega : ready.length ≤ 2000000) hpos hi.heap hN
    have hxr : x ∈ ready := k2.mem_iff.2 List.mem_cons_self
    have hxp : x = (p : Int) := by
      obtain ⟨c, h1, h2, _⟩ := (hi.mem x).1 hxr
      have h3 := k3 _ hpr
      have h4 : ¬ c < p := fun hlt => by
        have h5 := hmin c (Nat.zero_le _) hlt
        have h6 := (hrd c h1).2 (by rw [← h2]; exact hxr)
        rw [h5] at h6; cases h6
      omega
    subst hxp
    have hnd : ((p : Int) :: t).Nodup := k2.nodup_iff.1 hi.nd
    obtain ⟨hp1, hp2⟩ := (rdyB_cnt P out p).1 hr
    obtain ⟨hok, hlt⟩ := hi.ok.step hn
    have hol := hi.ok.len
    have hself : (P.getD p []).count (p : Int) = 0 := by have := cntO_step (P := P) hp1 p; omega
    rw [m_dag_sorted_L2.eq_2, if_pos (decide_eq_true (by omega)), k1, Option.bind_some, chk_pos (by simp only [List.length_cons, List.length_nil, maxLen]; omega), at?_getD [] (by rw [hD]; exact hp), Option.bind_some, hDk p hp]
    have hkl := kidsL_length_le (p : Int) 0 P
    obtain ⟨left', ready', h1, h2, h3, h4, h5, h6⟩ := sorted_L3 N P hP ht hN out p t (m_dag_sorted_L2 N D n) (kidsL 0 P p) left t (by omega) hi.len (fun c hc => by
        rw [hi.cnt c hc, cntO_step hp1 c, kids_count (p : Int) 0 P c, if_pos (Nat.zero_le _), Nat.sub_zero]) k4 (List.nodup_cons.1 hnd).2 (fun y => by
        have h7 : y ∈ t ↔ y ∈ ready ∧ y ≠ (p : Int) := by
          rw [k2.mem_iff, List.mem_cons]
          exact ⟨fun h => ⟨.inr h, fun e => (List.nodup_cons.1 hnd).1 (by rw [← e]; exact h)⟩, fun h => h.1.resolve_left h.2⟩
        rw [h7, hi.mem]
        constructor
        · rintro ⟨⟨c, h8, h9, h10, h11⟩, h12⟩
          exact ⟨c, h8, h9, by rw [List.mem_append, List.mem_singleton]; exact fun h => h.elim h10 fun h => h12 (by rw [h9, h]), h11⟩
        · rintro ⟨c, h8, h9, h10, h11⟩
          rw [List.mem_append, List.mem_singleton] at h10
          exact ⟨⟨c, h8, h9, fun h => h10 (.inl h), h11⟩, fun h => h10 (.inr (by rw [← h9, h]))⟩) (fun x hx => by
        obtain ⟨c, h7, _, h8⟩ := kids_mem (p : Int) 0 P x hx
        have h8 : c < P.length := by omega
        have h9 := kids_count (p : Int) 0 P c
        rw [if_pos (Nat.zero_le _), Nat.sub_zero] at h9
        have h10 : 0 < (P.getD c []).count (p : Int) := by rw [← h9, ← h7]; exact List.count_pos_iff.2 hx
        refine ⟨c, h8, h7, fun h => ?_⟩
        rcases List.mem_append.1 h with h | h
        · rw [h7] at h
          have h11 := hi.ok.2.2 c h8 h (p : Int) (by rw [lgetD_lt h8] at h10; exact List.count_pos_iff.1 h10)
          exact hp1 h11
        · rw [List.mem_singleton] at h
          have : c = p := by omega
          subst this
          omega)
    exact ⟨left', ready', ⟨hok, h2, h3, h4, h5, h6⟩, h1⟩
theorem sorted_out {N : Nat} {P D : List (List Int)} (hP : P.length < 1048576) (hls : ∀ x ∈ P, x.length ≤ 1048576) (ht : totl P ≤ 1048576) (hN : 2000000 < N) (hD : D.length = P.length) (hDk : ∀ p : Nat, p < P.length → D.getD p [] = kidsL 0 P p) : ∀ (n : Nat) (out left ready : List Int), Inv P out left ready → P.length < n + out.length →
    m_dag_sorted_L2 N D n left ready out = m_credenceref14_out_L1 N P n out
  | 0, out, left, ready, hi, hn => by have := hi.ok.len; omega
  | n + 1, out, left, ready, hi, hn => by
    have hl := hi.ok.len
    obtain ⟨h1, h2⟩ := sorted_step (N := N) (by omega) ht hN hD hDk hi n
    rw [out_step (by omega) hls (by omega) (by omega)]
    cases hnx : nextF P out 0 with
    | none => rw [h1 hnx]; rfl
    | some p =>
      obtain ⟨left', ready', h3, h4⟩ := h2 p hnx
      rw [h4]
      exact sorted_out hP hls ht hN hD hDk n _ _ _ h3 (by simp; omega)

theorem sorted_L1 {N : Nat} (P D : List (List Int)) (hP : P.length < 1048576) (hN : 2000000 < N) (hl : ∀ l ∈ P, l.length ≤ 1048576) : ∀ (Q : List (List Int)) (k : Nat) (left ready : List Int), P.drop k = Q → k ≤ P.length → left.length = P.length →
    (∀ c : Nat, c < k → left.getD c 0 = ((P.getD c []).length : Int)) → HeapN ready ready.length → ready.Nodup → (∀ y : Int, y ∈ ready ↔ ∃ c : Nat, c < k ∧ y = (c : Int) ∧ (P.getD c []).length = 0) →
    ∃ left' ready', m_dag_sorted_L1 N D Q k left ready = m_dag_sorted_L2 N D N left' ready' [] ∧ Inv P [] left' ready'
  | [], k, left, ready, hQ, hk, h1, h2, h3, h4, h5 => by
    have hkP : k = P.length := by have := congrArg List.length hQ; simp at this; omega
    subst hkP
    have hc0 : ∀ c, cntO P [] c = (P.getD c []).length := fun c => by
      rw [cntO, List.countP_eq_length.2 (fun a _ => by simp)]
    refine ⟨left, ready, by rw [m_dag_sorted_L1.eq_1], ⟨⟨.nil, by simp, by simp⟩, h1, fun c hc => by rw [h2 c hc, hc0], h3, h4, fun y => ?_⟩⟩
    rw [h5]
    constructor
    · rintro ⟨c, h6, h7, h8⟩; exact ⟨c, h6, h7, by simp, by rw [h2 c h6, h8]; rfl⟩
    · rintro ⟨c, h6, h7, _, h8⟩; exact ⟨c, h6, h7, by rw [h2 c h6] at h8; omega⟩
  | x :: Q, k, left, ready, hQ, hk, h1, h2, h3, h4, h5 => by
    have hkl : k < P.length := by
      rcases Nat.lt_or_ge k P.length with h | h
      · exact h
      · rw [List.drop_eq_nil_of_le h] at hQ; cases hQ
    rw [List.drop_eq_getElem_cons hkl] at hQ
    obtain ⟨hx, hQ⟩ := List.cons.inj hQ
    have hxd : P.getD k [] = x := by rw [lgetD_lt hkl, hx]
    have hkl' : k < left.length := by omega
    have hrl : ready.length ≤ k := by
      have h7 := nodup_le (r := (List.range k).map fun i : Nat => (i : Int)) h4 fun y hy => by
        obtain ⟨c, h8, h9, _⟩ := (h5 y).1 hy
        exact List.mem_map.2 ⟨c, List.mem_range.2 h8, h9.symm⟩
      simpa using h7
    have hl1 : ∀ c : Nat, c < k + 1 → (left.set k (x.length : Int)).getD c 0 = ((P.getD c []).length : Int) := fun c hc => by
      rw [lgetD_set _ _ _ _ _ hkl']
      by_cases hck : c = k
      · subst hck; rw [if_pos rfl, hxd]
      · rw [if_neg hck, h2 c (by omega)]
    have hnr : (k : Int) ∉ ready := fun h => by obtain ⟨c, h6, h7, _⟩ := (h5 _).1 h; omega
    rw [m_dag_sorted_L1.eq_2, at?_getD 0 hkl', Option.bind_some, Option.bind_some, Int.toNat_natCast]
    by_cases h0 : x.length = 0
    · obtain ⟨ready1, k1, k2, k3⟩ := push_eq (N := N) (k : Int) (by omega : ready.length < 2000000) h3 hN
      rw [if_pos (decide_eq_true (by omega)), k1, Option.bind_some, m_dag_sorted_J2]
      refine sorted_L1 P D hP hN hl Q (k + 1) _ ready1 hQ (by omega) (by rw [List.length_set]; exact h1) hl1 k3 (k2.nodup_iff.2 (List.nodup_cons.2 ⟨hnr, h4⟩)) (fun y => ?_)
      rw [k2.mem_iff, List.mem_cons, h5]
      constructor
      · rintro (rfl | ⟨c, h6, h7, h8⟩)
        · exact ⟨k, by omega, rfl, by rw [hxd]; exact h0⟩
        · exact ⟨c, by omega, h7, h8⟩
      · rintro ⟨c, h6, h7, h8⟩
        by_cases hck : c = k
        · subst hck; exact .inl h7
        · exact .inr ⟨c, by omega, h7, h8⟩
    · rw [if_neg (by rw [decide_eq_true_eq]; omega), m_dag_sorted_J2]
      refine sorted_L1 P D hP hN hl Q (k + 1) _ ready hQ (by omega) (by rw [List.length_set]; exact h1) hl1 h3 h4 (fun y => ?_)
      rw [h5]
      constructor
      · rintro ⟨c, h6, h7, h8⟩; exact ⟨c, by omega, h7, h8⟩
      · rintro ⟨c, h6, h7, h8⟩
        by_cases hck : c = k
        · subst hck; rw [hxd] at h8; exact absurd h8 h0
        · exact ⟨c, by omega, h7, h8⟩
/-- The sorting by a heap puts out what the document puts out. -/
theorem sorted_eq {N : Nat} {P D : List (List Int)} (hP : P.length < 1048576) (hls : ∀ x ∈ P, x.length ≤ 1048576) (ht : totl P ≤ 1048576) (hN : 2000000 < N) (hD : D.length = P.length) (hDk : ∀ p : Nat, p < P.length → D.getD p [] = kidsL 0 P p) : m_dag_sorted N P D = m_credenceref14_out N P := by
  rw [m_dag_sorted, chk_pos (by simp only [maxLen]; omega), m_credenceref14_out]
  obtain ⟨left, ready, h1, h2⟩ := sorted_L1 (N := N) P D hP hN hls P 0 (List.replicate P.length 0) [] rfl (Nat.zero_le _) (by simp) (fun c hc => by omega) (fun j _ hj => by simp at hj) .nil (fun y => by simp)
  rw [h1]
  exact sorted_out hP hls ht hN hD hDk N [] _ _ h2 (by simp; omega)



theorem fits_L3 (kk : Option Int) : ∀ (l : List Int) (seen : List (Int × Int)) (S : List Int), S.Nodup → (∀ k, mget seen k = if k ∈ S then some 1 else none) → m_dag_fits_L3 kk l seen = if (S ++ l).Nodup then kk else some 40
  | [], seen, S, h1, h2 => by rw [m_dag_fits_L3.eq_1, List.append_nil, if_pos h1]
  | x :: l, seen, S, h1, h2 => by
    rw [m_dag_fits_L3.eq_2, h2 x]
    by_cases hx : x ∈ S
    · rw [if_pos hx, if_pos (by decide), if_neg]
      intro h
      exact (List.nodup_append.1 h).2.2 x hx x List.mem_cons_self rfl
    · rw [if_neg hx, if_neg (by decide), Option.bind_some, fits_L3 kk l _ (S ++ [x]) (by
        rw [List.nodup_append]
        refine ⟨h1, by simp, fun a ha b hb e => ?_⟩
        rw [List.mem_singleton] at hb; subst hb; subst e; exact hx ha) (fun k => by
        rw [mget_mput, h2 k]
        by_cases hk : k = x
        · subst hk; rw [if_pos rfl, if_pos (by simp)]
        · rw [if_neg hk]
          by_cases hs : k ∈ S
          · rw [if_pos hs, if_pos (by simp [hs])]
          · rw [if_neg hs, if_neg (by simp [hs, hk])])]
      rw [List.append_assoc]; rfl
theorem fits_L2 : ∀ P : List (List Int), m_dag_fits_L2 P = if twiceB P then some 40 else some 0
  | [] => by rw [m_dag_fits_L2.eq_1]; rfl
  | l :: P => by
    rw [m_dag_fits_L2.eq_2, fits_L3 _ l [] [] .nil (fun k => by simp [mget]), fits_L2 P, List.nil_append]
    by_cases h : l.Nodup
    · rw [if_pos h]
      have : twiceB (l :: P) = twiceB P := by rw [twiceB, twiceB, List.any_cons, decide_eq_true h]; rfl
      rw [this]
    · rw [if_neg h]
      have : twiceB (l :: P) = true := by rw [twiceB, List.any_cons, decide_eq_false h]; rfl
      rw [this]; rfl
theorem fits_L4 (P : List (List Int)) (kk : Option Int) : ∀ l : List Int, m_dag_fits_L4 P kk l = if (l.all fun p => decide (0 ≤ p ∧ p < (P.length : Int))) = true then kk else some 3
  | [] => by rw [m_dag_fits_L4.eq_1]; rfl
  | x :: l => by
    rw [m_dag_fits_L4.eq_2, fits_L4 P kk l, m_dag_fits_J1, m_dag_fits_J1, List.all_cons]
    by_cases h1 : x < 0
    · rw [if_pos (by simpa using h1), if_pos rfl, decide_eq_false (by omega), Bool.false_and, if_neg (by decide)]
    · rw [if_neg (by simpa using h1)]
      by_cases h2 : (P.length : Int) ≤ x
      · rw [if_pos (by simpa using h2), decide_eq_false (by omega), Bool.false_and, if_neg (by decide)]
      · rw [if_neg (by simpa using h2), decide_eq_true (by omega), Bool.true_and]
theorem fits_L1 (P : List (List Int)) : ∀ Q : List (List Int), m_dag_fits_L1 P Q = if insideB P.length Q = true then m_dag_fits_L2 P else some 3
  | [] => by rw [m_dag_fits_L1.eq_1]; rfl
  | l :: Q => by
    rw [m_dag_fits_L1.eq_2, fits_L4, fits_L1 P Q]
    by_cases h : (l.all fun p => decide (0 ≤ p ∧ p < (P.length : Int))) = true
    · rw [if_pos h]
      have : insideB P.length (l :: Q) = insideB P.length Q := by rw [insideB, insideB, List.all_cons, h, Bool.true_and]
      rw [this]
    · rw [if_neg h]
      have : insideB P.length (l :: Q) = false := by rw [insideB, List.all_cons, Bool.eq_false_iff.2 h, Bool.false_and]
      rw [this, if_neg (by decide)]
theorem fits_eq (P : List (List Int)) : m_dag_fits P = if insideB P.length P = true then (if twiceB P = true then some 40 else some 0) else some 3 := by
  rw [m_dag_fits, fits_L1, fits_L2]

/-- What is asked of a list of parents for these laws: it is no giant. -/
structure Sml (P : List (List Int)) : Prop where
  n : P.length ≤ 1000000
  t : totl P ≤ 1000000
theorem Sml.ls {P : List (List Int)} (h : Sml P) : ∀ x ∈ P, x.length ≤ 1000000 := fun x hx => Nat.le_trans (totl_mem hx) h.t
theorem inside_InR {P : List (List Int)} {n : Nat} (h : insideB n P = true) : ∀ l ∈ P, InR n l := by
  intro l hl x hx
  rw [insideB, List.all_eq_true] at h
  have := List.all_eq_true.1 (h l hl) x hx
  simpa using this

/-- Three ways to end: out of range, twice, a cycle; or an order. -/
inductive Says (N : Nat) (P : List (List Int)) : Prop
  | err (e : Int) (D : m_dag_Order N P = some ([], e)) (R : m_credenceref14_Check N P = some e) (ne : e = 3 ∨ e = 40) : Says N P
  | cyc (I : insideB P.length P = true) (T : twiceB P = false) (l : List Int) (o : m_credenceref14_out N P = some l) (ok : OutOk P l) (mx : nextF P l 0 = none) (lt : l.length < P.length) (D : m_dag_Order N P = some ([], 42)) (R : m_credenceref14_Check N P = some 42) : Says N P
  | ord (I : insideB P.length P = true) (T : twiceB P = false) (l : List Int) (o : m_credenceref14_out N P = some l) (ok : OutOk P l) (mx : nextF P l 0 = none) (eq : l.length = P.length) (D : m_dag_Order N P = some (l, 0)) (R : m_credenceref14_Check N P = some 0) : Says N P
theorem says {N : Nat} {P : List (List Int)} (h : Sml P) (hN : 2000000 < N) : Says N P := by
  have hn := h.n
  have ht := h.t
  have hls := h.ls
  have hls' : ∀ x ∈ P, x.length ≤ 1048576 := fun x hx => by have := hls x hx; omega
  have hD : m_dag_Order N P = (m_dag_fits P).bind fun r_1 => if (!decide (r_1 = 0)) = true then (some (([] : List Int), r_1)) else ((m_dag_children P).bind fun r_5 => (m_dag_sorted N P r_5).bind fun r_13 => if (decide ((r_13.length : Int) < (P.length : Int))) = true then (some (([] : List Int), 42)) else (some (r_13, 0))) := by rw [m_dag_Order]
  have hR : m_credenceref14_Check N P = (m_credenceref14_inside N P).bind fun r_1 => if (!r_1) = true then (some 3) else ((m_credenceref14_twice N P).bind fun r_5 => if r_5 = true then (some 40) else ((m_credenceref14_out N P).bind fun r_9 => if (decide ((r_9.length : Int) < (P.length : Int))) = true then (some 42) else (some 0))) := by rw [m_credenceref14_Check]
  rw [fits_eq] at hD
  rw [inside_eq (by omega) hls' (by omega), Option.bind_some] at hR
  by_cases hI : insideB P.length P = true
  · rw [hI, if_neg (by decide), twice_eq (by omega) hls' (by omega), Option.bind_some] at hR
    rw [if_pos hI] at hD
    by_cases hT : twiceB P = true
    · rw [if_pos hT] at hD hR
      exact .err 40 (by rw [hD]; rfl) hR (.inr rfl)
    · rw [if_neg hT] at hD hR
      obtain ⟨l, h1, h2, h3⟩ := out_eq (N := N) (P := P) (by omega) hls' (by omega)
      obtain ⟨D, h4, h5, h6⟩ := children_eq (P := P) (by omega) (by omega) (inside_InR hI)
      rw [h1, Option.bind_some] at hR
      rw [Option.bind_some, if_neg (by decide), h4, Option.bind_some, sorted_eq (by omega) hls' (by omega) hN h5 h6, h1, Option.bind_some] at hD
      have hT := Bool.eq_false_iff.2 hT
      have hle := h2.len
      by_cases hlt : l.length < P.length
      · rw [if_pos (decide_eq_true (by omega))] at hR hD
        exact .cyc hI hT l h1 h2 h3 hlt hD hR
      · rw [if_neg (by rw [decide_eq_true_eq]; omega)] at hR hD
        exact .ord hI hT l h1 h2 h3 (by omega) hD hR
  · rw [Bool.eq_false_iff.2 hI, if_pos (by decide)] at hR
    rw [if_neg hI] at hD
    exact .err 3 (by rw [hD]; rfl) hR (.inl rfl)
/-- The two tests say the same. -/
theorem check_eq {N : Nat} {P : List (List Int)} (h : Sml P) (hN : 2000000 < N) : ∃ e, m_dag_Check N P = some e ∧ m_credenceref14_Check N P = some e := by
  rw [m_dag_Check]
  rcases says h hN with ⟨e, D, R, _⟩ | ⟨_, _, l, _, _, _, _, D, R⟩ | ⟨_, _, l, _, _, _, _, D, R⟩
  · exact ⟨e, by rw [D]; rfl, R⟩
  · exact ⟨42, by rw [D]; rfl, R⟩
  · exact ⟨0, by rw [D]; rfl, R⟩
section
variable {N : Nat} {P : List (List Int)} {E : List (Int × Int)} {e : Int}
end

theorem el3_47 : ElemOk Try.prog 3 1 8 := ⟨Try.t3, _, rfl, rfl, rfl, rfl, rfl⟩

def m_dag_reach_1 (p0_p : Int) (p1_v : List (Int × Int)) (p2_v : (List Int)) : Option (List (Int × Int) × (List Int)) :=
  if (decide (((mget p1_v p0_p).getD 0) = 0)) = true then ((some (mput p1_v p0_p 1)).bind fun es_5 => chk ((p2_v.length + [p0_p].length) * 8 ≤ 140737488355328 ∧ p2_v.length + [p0_p].length ≤ maxLen) (some (es_5, p2_v ++ [p0_p]))) else (some (p1_v, p2_v))

set_option maxRecDepth 100000 in
theorem c_dag_reach_1 (col : Col) (w0 : World) (q1 : Nat) (q1_1 : Nat) (q2 : Nat) (q2_1 : Nat) (hd : dstB [q1, q1_1, q2, q2_1] = true) (p0_p : Int) (g1 : Nat) (p1_v : List (Int × Int)) (gm1_2 : Nat) (g2 : Nat) (p2_v : (List Int)) (a2_2 : Option Addr) (cap2_2 : Nat) (h1_2 : MapO (Value.int .i64) (Value.int .i64) q1_1 col w0 gm1_2 p1_v) (hb1 : Box 51 q1 col w0 g1 #[(.map (some gm1_2))]) (h2_2 : Own (Rep.int .i64) 3 q2_1 col w0 a2_2 cap2_2 p2_v) (hb2 : Box 31 q2 col w0 g2 #[(.slice a2_2 p2_v.length cap2_2)]) (r : (List (Int × Int) × (List Int))) (hm : m_dag_reach_1 p0_p p1_v p2_v = some r) :
    Calls Try.prog 47 #[(.int .i64 p0_p), (.pointer (some ⟨g1, 0, none⟩)), (.pointer (some ⟨g2, 0, none⟩))] w0 (fun e w' => ∃ (col' : Col) (og1 : Nat) (oa4 : Option Addr) (oc5 : Nat), e = .returned (.tuple #[]) ∧ KeepP (pS [q1, q1_1, q2, q2_1]) col w0 col' w' ∧ MapO (Value.int .i64) (Value.int .i64) q1_1 col' w' og1 r.1 ∧ Box 51 q1 col' w' g1 #[(.map (some og1))] ∧ Own (Rep.int .i64) 3 q2_1 col' w' oa4 oc5 r.2 ∧ Box 31 q2 col' w' g2 #[(.slice oa4 r.2.length oc5)]) := by
  refine calls_of0  (m := 14) (args := [(.int .i64 p0_p), (.pointer (some ⟨g1, 0, none⟩)), (.pointer (some ⟨g2, 0, none⟩))]) Try.func47 rfl rfl rfl rfl ?_
  rw [m_dag_reach_1.eq_1] at hm
  have hst := St.startL (l := [q1, q1_1, q2, q2_1]) rfl col w0
  replace hb1 := hb1.startL (dst_nz hd 0 rfl) (dst_ix hd 0 rfl)
  replace h1_2 := h1_2.startL (dst_nz hd 1 rfl) (dst_ix hd 1 rfl)
  replace hb2 := hb2.startL (dst_nz hd 2 rfl) (dst_ix hd 2 rfl)
  replace h2_2 := h2_2.startL (dst_nz hd 3 rfl) (dst_ix hd 3 rfl)
  refine wseq ?_
  refine wregion ?_
  refine lv (v := (.map (some gm1_2))) rfl rfl (r_ld Try.isAgg51 rfl hb1.at1) ?_
  refine lv (v := (.int .i64 p0_p)) rfl rfl (r_move rfl) ?_
  refine lv (v := (.int .i64 ((mget p1_v p0_p).getD 0))) rfl rfl (r_lookup KeyD.int h1_2 Try.underlying51 Try.underlying3 Try.zeroValue3 rfl rfl) ?_
  refine lv (v := (.bool (decide (((mget p1_v p0_p).getD 0) = 0)))) rfl rfl (r_eql ((mget p1_v p0_p).getD 0) 0 rfl rfl) ?_
  refine lnil ?_
  refine wcond (decide (((mget p1_v p0_p).getD 0) = 0)) rfl (fun hb => ?_) (fun hb => ?_)
  · rw [if_pos hb] at hm
    clear hb
    refine wseq ?_
    refine wregion ?_
    refine lv (v := (.map (some gm1_2))) rfl rfl (r_ld Try.isAgg51 rfl hb1.at1) ?_
    refine lv (v := (.int .i64 p0_p)) rfl rfl (r_move rfl) ?_
    obtain ⟨es_5, hz_6, hm⟩ := bind_some hm
    have hz_6 : es_5 = mput p1_v p0_p 1 := (Option.some.inj hz_6).symm
    refine l_mapUpdate (k := p0_p) (v := 1) KeyD.int h1_2 Try.underlying51 Try.underlying3 rfl rfl rfl ?_
    intro w_1 hk_2 hs_3 h_4
    rw [← hz_6] at h_4
    clear hz_6
    replace h2_2 := h2_2.kp hk_2 (by decide) (by decide)
    replace hb1 := hb1.kp hk_2 (by decide)
    replace hb2 := hb2.kp hk_2 (by decide)
    replace hst := hst.kp hk_2 hs_3 (by decide) (by decide)
    clear h1_2
    refine lnil ?_
    refine wregion ?_
    refine lv (v := (.slice a2_2 p2_v.length cap2_2)) rfl rfl (r_ld Try.isAgg31 rfl hb2.at1) ?_
    refine lv (v := (.int .i64 p0_p)) rfl rfl (r_move rfl) ?_
    refine l_lit (col := (colL [q1, q1_1, q2, q2_1] col)) (r := (Rep.int .i64)) (xs := [p0_p]) [(.int .i64 p0_p)] 1 rfl Try.underlying31 el3_47 rfl rfl rfl rfl rfl rfl (by intro v hv; simp only [List.mem_cons, List.not_mem_nil, or_false] at hv; subst hv; rfl) (RowsH.ofF (Rows.consF (r := (Rep.int .i64)) (x := p0_p) (cs := [(.int .i64 p0_p)]) (rd_int .i64 p0_p) Rows.nil0)) ?_
    intro a_7 w_8 col_9 hg_10 h_11
    replace h2_2 := h2_2.gr hg_10
    replace h_4 := h_4.gr hg_10
    replace hb1 := hb1.gr hg_10
    replace hb2 := hb2.gr hg_10
    replace hst := hst.grow hg_10
    obtain ⟨hb_12, hm⟩ := chk_some hm
    refine l_ext (col := col_9) (w := w_8) (r := (Rep.int .i64)) (c := 443) (c2 := 443) (h2_2.ex) (h_11.srcN (NB.int (k := .i64))) rfl Try.underlying31 el3_47 rfl rfl rfl hb_12.1 hb_12.2 (by decide) ?_
    intro a_13 cap_14 w_15 col_16 hk_17 h_18
    replace h_11 := h_11.kpp hk_17 rfl rfl
    replace h_4 := h_4.kpp hk_17 rfl
    replace hb1 := hb1.kpp hk_17 rfl
    replace hb2 := hb2.kpp hk_17 rfl
    replace hst := hst.kpp hk_17 rfl rfl
    clear h2_2
    refine l_bstore (v := (.slice a_13 ((p2_v ++ [p0_p]).length) cap_14)) hb2 Try.sizeOf31 rfl rfl (by intro u hu; simp only [Value.cells, List.mem_cons, List.not_mem_nil, or_false] at hu; subst hu; rfl) rfl rfl ?_
    intro w_19 hk_20 hs_21 hb_22
    replace h_18 := h_18.kp hk_20 (by decide) (by decide)
    replace h_4 := h_4.kp hk_20 (by decide)
    replace hb1 := hb1.kp hk_20 (by decide)
    replace hst := hst.kp hk_20 hs_21 (by decide) (by decide)
    clear hb2
    replace hb_22 : Box 31 442 col_16 w_19 g2 #[(.slice a_13 ((p2_v ++ [p0_p]).length) cap_14)] := hb_22
    have h_23 := h_18.new
    clear h_18
    refine lnil ?_
    cases hm
    exact ⟨rfl, colFL w0.heap.size [q1, q1_1, q2, q2_1] col col_16 (fun n => bif Nat.beq n 441 then q1_1 else bif Nat.beq n 440 then q1 else bif Nat.beq n 443 then q2_1 else bif Nat.beq n 442 then q2 else 0), gm1_2, a_13, cap_14, rfl, hst.finL rfl (fun n => bif Nat.beq n 441 then q1_1 else bif Nat.beq n 440 then q1 else bif Nat.beq n 443 then q2_1 else bif Nat.beq n 442 then q2 else 0), hst.finMapL (G := (fun n => bif Nat.beq n 441 then q1_1 else bif Nat.beq n 440 then q1 else bif Nat.beq n 443 then q2_1 else bif Nat.beq n 442 then q2 else 0)) h_4 (by decide) (by decide) rfl, hst.finBoxL (g := (fun n => bif Nat.beq n 441 then q1_1 else bif Nat.beq n 440 then q1 else bif Nat.beq n 443 then q2_1 else bif Nat.beq n 442 then q2 else 0)) hb1 (by decide) (by decide) rfl, hst.finOwnL (g := (fun n => bif Nat.beq n 441 then q1_1 else bif Nat.beq n 440 then q1 else bif Nat.beq n 443 then q2_1 else bif Nat.beq n 442 then q2 else 0)) rfl h_23 (by decide) (by decide) rfl, hst.finBoxL (g := (fun n => bif Nat.beq n 441 then q1_1 else bif Nat.beq n 440 then q1 else bif Nat.beq n 443 then q2_1 else bif Nat.beq n 442 then q2 else 0)) hb_22 (by decide) (by decide) rfl⟩
  · rw [if_neg (by rw [hb]; decide)] at hm
    clear hb
    refine wskip ?_
    cases hm
    exact ⟨rfl, colFL w0.heap.size [q1, q1_1, q2, q2_1] col (colL [q1, q1_1, q2, q2_1] col) (fun n => bif Nat.beq n 441 then q1_1 else bif Nat.beq n 440 then q1 else bif Nat.beq n 443 then q2_1 else bif Nat.beq n 442 then q2 else 0), gm1_2, a2_2, cap2_2, rfl, hst.finL rfl (fun n => bif Nat.beq n 441 then q1_1 else bif Nat.beq n 440 then q1 else bif Nat.beq n 443 then q2_1 else bif Nat.beq n 442 then q2 else 0), hst.finMapL (G := (fun n => bif Nat.beq n 441 then q1_1 else bif Nat.beq n 440 then q1 else bif Nat.beq n 443 then q2_1 else bif Nat.beq n 442 then q2 else 0)) h1_2 (by decide) (by decide) rfl, hst.finBoxL (g := (fun n => bif Nat.beq n 441 then q1_1 else bif Nat.beq n 440 then q1 else bif Nat.beq n 443 then q2_1 else bif Nat.beq n 442 then q2 else 0)) hb1 (by decide) (by decide) rfl, hst.finOwnL (g := (fun n => bif Nat.beq n 441 then q1_1 else bif Nat.beq n 440 then q1 else bif Nat.beq n 443 then q2_1 else bif Nat.beq n 442 then q2 else 0)) rfl h2_2 (by decide) (by decide) rfl, hst.finBoxL (g := (fun n => bif Nat.beq n 441 then q1_1 else bif Nat.beq n 440 then q1 else bif Nat.beq n 443 then q2_1 else bif Nat.beq n 442 then q2 else 0)) hb2 (by decide) (by decide) rfl⟩



theorem c_slices_Sort_int_int (col : Col) (w0 : World) (q0 : Nat) (hd : dstB [q0] = true) (a0 : Option Addr) (cap0 : Nat) (p0_x : (List Int)) (h0 : Own (Rep.int .i64) 3 q0 col w0 a0 cap0 p0_x) (r : (List Int)) (hm : lib_sort p0_x = some r) :
    Calls Try.prog 48 #[(.slice a0 p0_x.length cap0)] w0 (fun e w' => ∃ (col' : Col), e = .returned (.tuple #[]) ∧ KeepP (pS [q0]) col w0 col' w' ∧ Own (Rep.int .i64) 3 q0 col' w' a0 cap0 r ∧ r.length = p0_x.length) :=
  sort_int Try.slices_Sort_int Try.slices_Sort_int_none col w0 q0 hd a0 cap0 p0_x h0 r hm




def m_dag_reach_L3 (i_36 : Int) (kk_L2 : (Int → (List Int) → (List (Int × Int)) → Option ((List Int) × Int))) : List Int → (List Int) → (List (Int × Int)) → Option ((List Int) × Int)
  | [], out_57, seen_62 => kk_L2 (IntKind.i64.wrap (i_36 + 1)) out_57 seen_62
  | x_64 :: l_65, out_57, seen_62 => (m_dag_reach_1 x_64 seen_62 out_57).bind fun r_66 => (m_dag_reach_L3 i_36 kk_L2 l_65) r_66.2 r_66.1

def m_dag_reach_L2 (N : Nat) (p0_ways : (List (List Int))) : Nat → Int → (List Int) → (List (Int × Int)) → Option ((List Int) × Int)
  | 0, _, _, _ => none
  | n_33 + 1, i_36, out_37, seen_42 => if (decide (i_36 < (out_37.length : Int))) = true then ((at? out_37 i_36).bind fun e_44 => (at? p0_ways e_44).bind fun e_46 => m_dag_reach_L3 i_36 (m_dag_reach_L2 N p0_ways n_33) e_46 out_37 seen_42) else ((lib_sort out_37).bind fun r_78 => some (r_78, 0))

def m_dag_reach_J1 (out_24 : List Int) (seen_29 : List (Int × Int)) (kk_L1 : ((List Int) → (List (Int × Int)) → Option ((List Int) × Int))) (x_31 : Int) (v_88 : Bool) : Option ((List Int) × Int) :=
  if v_88 = true then (some (([] : List Int), 3)) else ((m_dag_reach_1 x_31 seen_29 out_24).bind fun r_89 => kk_L1 r_89.2 r_89.1)

def m_dag_reach_L1 (N : Nat) (p0_ways : (List (List Int))) : List Int → (List Int) → (List (Int × Int)) → Option ((List Int) × Int)
  | [], out_24, seen_29 => m_dag_reach_L2 N p0_ways N 0 out_24 seen_29
  | x_31 :: l_32, out_24, seen_29 => if (decide (x_31 < 0)) = true then (m_dag_reach_J1 out_24 seen_29 (m_dag_reach_L1 N p0_ways l_32) x_31 true) else (m_dag_reach_J1 out_24 seen_29 (m_dag_reach_L1 N p0_ways l_32) x_31 (decide ((p0_ways.length : Int) ≤ x_31)))

def m_dag_reach (N : Nat) (p0_ways : (List (List Int))) (p1_points : (List Int)) : Option ((List Int) × Int) :=
  m_dag_reach_L1 N p0_ways p1_points ([] : List Int) ([] : List (Int × Int))

set_option maxRecDepth 100000 in
theorem c_dag_reach (N : Nat) (c1 : Nat) (col : Col) (w0 : World) (a0 : Option Addr) (cap0 : Nat) (p0_ways : (List (List Int))) (a1 : Option Addr) (cap1 : Nat) (p1_points : (List Int)) (h0 : Sl (Rep.slice (Rep.int .i64)) col w0 a0 cap0 p0_ways) (h1 : Sl (Rep.int .i64) col w0 a1 cap1 p1_points) (r : ((List Int) × Int)) (hm : m_dag_reach N p0_ways p1_points = some r) :
    Calls Try.prog 38 #[(.slice a0 p0_ways.length cap0), (.slice a1 p1_points.length cap1)] w0 (fun e w' => ∃ (col' : Col) (ra1 : Option Addr) (rc2 : Nat), e = .returned (.tuple #[(.slice ra1 r.1.length rc2), (.int .i64 r.2)]) ∧ Grow col w0 col' w' ∧ Own (Rep.int .i64) 3 c1 col' w' ra1 rc2 r.1) := by
  refine calls_of2 4 5 (m := 61) (args := [(.slice a0 p0_ways.length cap0), (.slice a1 p1_points.length cap1)]) Try.func38 rfl rfl rfl rfl rfl ?_
  rw [m_dag_reach.eq_1] at hm
  have hst := St.start col w0
  replace h0 := h0.keep (Stay.start col w0)
  replace h1 := h1.keep (Stay.start col w0)
  refine wseq ?_
  refine wregion ?_
  refine lv (v := (.slice none (([] : List Int).length) 0)) rfl rfl (r_assign rfl) ?_
  refine lv (v := (.int .i64 0)) rfl rfl (r_assign rfl) ?_
  refine lnil ?_
  refine wseq ?_
  refine wregion ?_
  refine lv (v := (.slice a1 p1_points.length cap1)) rfl rfl (r_move rfl) ?_
  refine lv (v := (.int .i64 (p1_points.length : Int))) rfl rfl (r_len Try.underlying31 rfl) ?_
  refine l_makeMapN (col := (col0 col)) (fk := (Value.int .i64)) (fv := (Value.int .i64)) 1 rfl Try.underlying51 rfl ?_
  intro g_1 w_2 col_3 hg_4 h_5
  replace h0 := h0.gr hg_4
  replace h1 := h1.gr hg_4
  replace hst := hst.grow hg_4
  refine l_alloc (col := col_3) (v := (.map none)) 2 rfl Try.zeroValue51 ?_
  intro g_6 w_7 col_8 hg_9 hb_10
  replace h0 := h0.gr hg_9
  replace h1 := h1.gr hg_9
  replace h_5 := h_5.gr hg_9
  replace hst := hst.grow hg_9
  replace hb_10 : Box 51 2 col_8 w_7 g_6 #[(.map none)] := hb_10
  refine l_bstore (v := (.map (some g_1))) hb_10 Try.sizeOf51 rfl rfl (by intro u hu; simp only [Value.cells, List.mem_cons, List.not_mem_nil, or_false] at hu; subst hu; rfl) rfl rfl ?_
  intro w_11 hk_12 hs_13 hb_14
  replace h0 := h0.kp hk_12 (by decide)
  replace h1 := h1.kp hk_12 (by decide)
  replace h_5 := h_5.kp hk_12 (by decide)
  replace hst := hst.kp hk_12 hs_13 (by decide) (by decide)
  clear hb_10
  replace hb_14 : Box 51 2 col_8 w_11 g_6 #[(.map (some g_1))] := hb_14
  refine lnil ?_
  refine wseq ?_
  refine wregion ?_
  refine l_alloc (col := col_8) (v := (.slice none (([] : List Int).length) 0)) 3 rfl Try.zeroValue31 ?_
  intro g_15 w_16 col_17 hg_18 hb_19
  replace h0 := h0.gr hg_18
  replace h1 := h1.gr hg_18
  replace h_5 := h_5.gr hg_18
  replace hb_14 := hb_14.gr hg_18
  replace hst := hst.grow hg_18
  replace hb_19 : Box 31 3 col_17 w_16 g_15 #[(.slice none (([] : List Int).length) 0)] := hb_19
  refine lnil ?_
  refine wseq ?_
  refine wregion ?_
  refine lv (v := (.func (.func 47) #[] #[(.pointer (some ⟨g_6, 0, none⟩)), (.pointer (some ⟨g_15, 0, none⟩))])) rfl rfl (r_func2 rfl rfl) ?_
  refine lv (v := (.func (.func 47) #[] #[(.pointer (some ⟨g_6, 0, none⟩)), (.pointer (some ⟨g_15, 0, none⟩))])) rfl rfl (r_assign rfl) ?_
  refine lnil ?_
  refine wseq ?_
  refine wseq ?_
  refine wregion ?_
  refine lv (v := (.slice a1 p1_points.length cap1)) rfl rfl (r_move rfl) ?_
  refine lv (v := (.int .i64 (p1_points.length : Int))) rfl rfl (r_len Try.underlying31 rfl) ?_
  refine lv (v := (.int .i64 0)) rfl rfl (r_move rfl) ?_
  refine lnil ?_
  refine wblock ?_
  refine wloop (fun n f w_22 => ∃ (col_23 : Col) (k_20 : Nat) (a_25 : Option Addr) (cap_26 : Nat) (out_24 : List Int) (g_28 : Nat) (seen_29 : List (Int × Int)) (l_21 : List Int), n = l_21.length ∧ p1_points.drop k_20 = l_21 ∧ m_dag_reach_L1 N p0_ways l_21 out_24 seen_29 = some r ∧ St w0 (col0 col) col_23 w_22 ∧ Sl (Rep.slice (Rep.int .i64)) col_23 w_22 a0 cap0 p0_ways ∧ Sl (Rep.int .i64) col_23 w_22 a1 cap1 p1_points ∧ Own (Rep.int .i64) 3 4 col_23 w_22 a_25 cap_26 out_24 ∧ Box 31 3 col_23 w_22 g_15 #[(.slice a_25 out_24.length cap_26)] ∧ MapO (Value.int .i64) (Value.int .i64) 1 col_23 w_22 g_28 seen_29 ∧ Box 51 2 col_23 w_22 g_6 #[(.map (some g_28))] ∧ f 20 = (.int .i64 (k_20 : Int)) ∧ f 0 = (.slice a0 p0_ways.length cap0) ∧ f 18 = (.slice a1 p1_points.length cap1) ∧ f 19 = (.int .i64 (p1_points.length : Int)) ∧ f 7 = (.pointer (some ⟨g_15, 0, none⟩)) ∧ f 8 = (.func (.func 47) #[] #[(.pointer (some ⟨g_6, 0, none⟩)), (.pointer (some ⟨g_15, 0, none⟩))]) ∧ f 1000000 = (enc [])) p1_points.length ⟨col_17, 0, none, 0, ([] : List Int), g_1, ([] : List (Int × Int)), p1_points, rfl, rfl, hm, hst, h0, h1, Own.nil, hb_19, h_5, hb_14, rfl, rfl, rfl, rfl, rfl, rfl, rfl⟩ ?_
  clear hm; intro n f w_22 hI
  obtain ⟨col_23, k_20, a_25, cap_26, out_24, g_28, seen_29, l_21, hn, hl, hm, hst, h0, h1, h_27, hb_19, h_30, hb_14, hs20, hs0, hs18, hs19, hs7, hs8, hs1000000⟩ := hI
  subst hn
  refine .ld (d := 20) (v := (.int .i64 (k_20 : Int))) hs20 ?_
  refine .ld (d := 0) (v := (.slice a0 p0_ways.length cap0)) hs0 ?_
  refine .ld (d := 18) (v := (.slice a1 p1_points.length cap1)) hs18 ?_
  refine .ld (d := 19) (v := (.int .i64 (p1_points.length : Int))) hs19 ?_
  refine .ld (d := 7) (v := (.pointer (some ⟨g_15, 0, none⟩))) hs7 ?_
  refine .ld (d := 8) (v := (.func (.func 47) #[] #[(.pointer (some ⟨g_6, 0, none⟩)), (.pointer (some ⟨g_15, 0, none⟩))])) hs8 ?_
  refine .ld (d := 1000000) (v := (enc [])) hs1000000 ?_
  clear hs20 hs0 hs18 hs19 hs7 hs8 hs1000000
  cases l_21 with
  | nil =>
    have hk : ¬ ((k_20 : Int) < (p1_points.length : Int)) := by have := List.drop_eq_nil_iff.1 hl; omega
    have hkb := decide_eq_false hk
    rw [m_dag_reach_L1.eq_1] at hm
    refine wseq ?_
    refine wregion ?_
    refine lv (v := (.bool (decide ((k_20 : Int) < (p1_points.length : Int))))) rfl rfl (r_lss (k_20 : Int) (p1_points.length : Int) rfl rfl) ?_
    refine lnil ?_
    refine wseq ?_
    refine wcondF (congrArg Value.bool hkb) ?_
    refine wexit (inB_hit ?_)
    refine wseq ?_
    refine wseq ?_
    refine wregion ?_
    refine lv (v := (.int .i64 0)) rfl rfl (r_assign rfl) ?_
    refine lnil ?_
    refine wblock ?_
    refine wloop (fun n f w_34 => ∃ (col_35 : Col) (i_36 : Int) (a_38 : Option Addr) (cap_39 : Nat) (out_37 : List Int) (g_41 : Nat) (seen_42 : List (Int × Int)) (n_33 : Nat), n_33 = n ∧ m_dag_reach_L2 N p0_ways n_33 i_36 out_37 seen_42 = some r ∧ St w0 (col0 col) col_35 w_34 ∧ Sl (Rep.slice (Rep.int .i64)) col_35 w_34 a0 cap0 p0_ways ∧ Own (Rep.int .i64) 3 4 col_35 w_34 a_38 cap_39 out_37 ∧ Box 31 3 col_35 w_34 g_15 #[(.slice a_38 out_37.length cap_39)] ∧ MapO (Value.int .i64) (Value.int .i64) 1 col_35 w_34 g_41 seen_42 ∧ Box 51 2 col_35 w_34 g_6 #[(.map (some g_41))] ∧ f 0 = (.slice a0 p0_ways.length cap0) ∧ f 11 = (.int .i64 i_36) ∧ f 7 = (.pointer (some ⟨g_15, 0, none⟩)) ∧ f 8 = (.func (.func 47) #[] #[(.pointer (some ⟨g_6, 0, none⟩)), (.pointer (some ⟨g_15, 0, none⟩))]) ∧ f 1000000 = (enc [])) N ⟨col_23, 0, a_25, cap_26, out_24, g_28, seen_29, N, rfl, hm, hst, h0, h_27, hb_19, h_30, hb_14, rfl, rfl, rfl, rfl, rfl⟩ ?_
    clear hm; intro n f w_34 hI
    obtain ⟨col_35, i_36, a_38, cap_39, out_37, g_41, seen_42, n_33, hn, hm, hst, h0, h_40, hb_19, h_43, hb_14, hs0, hs11, hs7, hs8, hs1000000⟩ := hI
    subst hn
    refine .ld (d := 0) (v := (.slice a0 p0_ways.length cap0)) hs0 ?_
    refine .ld (d := 11) (v := (.int .i64 i_36)) hs11 ?_
    refine .ld (d := 7) (v := (.pointer (some ⟨g_15, 0, none⟩))) hs7 ?_
    refine .ld (d := 8) (v := (.func (.func 47) #[] #[(.pointer (some ⟨g_6, 0, none⟩)), (.pointer (some ⟨g_15, 0, none⟩))])) hs8 ?_
    refine .ld (d := 1000000) (v := (enc [])) hs1000000 ?_
    clear hs0 hs11 hs7 hs8 hs1000000
    cases n_33 with
    | zero => rw [m_dag_reach_L2.eq_1] at hm; cases hm
    | succ n_33 =>
      rw [m_dag_reach_L2.eq_2] at hm
      refine wseq ?_
      refine wseq ?_
      refine wregion ?_
      refine lv (v := (.int .i64 i_36)) rfl rfl (r_move rfl) ?_
      refine lv (v := (.slice a_38 out_37.length cap_39)) rfl rfl (r_ld Try.isAgg31 rfl hb_19.at1) ?_
      refine lv (v := (.int .i64 (out_37.length : Int))) rfl rfl (r_len Try.underlying31 rfl) ?_
      refine lv (v := (.bool (decide (i_36 < (out_37.length : Int))))) rfl rfl (r_lss i_36 (out_37.length : Int) rfl rfl) ?_
      refine lnil ?_
      refine wcond (decide (i_36 < (out_37.length : Int))) rfl (fun hb => ?_) (fun hb => ?_)
      · rw [if_pos hb] at hm
        clear hb
        refine wskip ?_
        refine wseq ?_
        refine wblock ?_
        refine wseq ?_
        refine wregion ?_
        refine lv (v := (.slice a0 p0_ways.length cap0)) rfl rfl (r_move rfl) ?_
        refine lv (v := (.slice a_38 out_37.length cap_39)) rfl rfl (r_ld Try.isAgg31 rfl hb_19.at1) ?_
        refine lv (v := (.int .i64 i_36)) rfl rfl (r_move rfl) ?_
        obtain ⟨e_44, hj_45, hm⟩ := bind_some hm
        refine lv (v := (sptr a_38 (Int.toNat i_36 * 1))) rfl rfl (r_idx Try.underlying31 Try.sizeOf3 rfl rfl (at?_some hj_45).1 (at?_some hj_45).2.1 (h_40.addr hj_45)) ?_
        refine lv (v := (.int .i64 e_44)) rfl rfl (r_ld Try.isAgg3 rfl (h_40.atInt hj_45)) ?_
        obtain ⟨e_46, hj_47, hm⟩ := bind_some hm
        refine lv (v := (sptr a0 (Int.toNat e_44 * 1))) rfl rfl (r_idx Try.underlying22 Try.sizeOf31 rfl rfl (at?_some hj_47).1 (at?_some hj_47).2.1 (h0.addr hj_47)) ?_
        obtain ⟨_, hr_48, hA_49⟩ := h0.atN hj_47
        obtain ⟨⟨a_50, cap_51, rfl, h_52⟩, _⟩ := hr_48
        refine lv (v := (.slice a_50 e_46.length cap_51)) rfl rfl (r_ld Try.isAgg31 rfl hA_49.one) ?_
        refine lv (v := (.int .i64 (e_46.length : Int))) rfl rfl (r_len Try.underlying31 rfl) ?_
        refine lv (v := (.int .i64 0)) rfl rfl (r_move rfl) ?_
        refine lnil ?_
        refine wblock ?_
        refine wloop (fun n f w_55 => ∃ (col_56 : Col) (k_53 : Nat) (a_58 : Option Addr) (cap_59 : Nat) (out_57 : List Int) (g_61 : Nat) (seen_62 : List (Int × Int)) (l_54 : List Int), n = l_54.length ∧ e_46.drop k_53 = l_54 ∧ m_dag_reach_L3 i_36 (m_dag_reach_L2 N p0_ways n_33) l_54 out_57 seen_62 = some r ∧ St w0 (col0 col) col_56 w_55 ∧ Sl (Rep.slice (Rep.int .i64)) col_56 w_55 a0 cap0 p0_ways ∧ Sl (Rep.int .i64) col_56 w_55 a_50 cap_51 e_46 ∧ Own (Rep.int .i64) 3 4 col_56 w_55 a_58 cap_59 out_57 ∧ Box 31 3 col_56 w_55 g_15 #[(.slice a_58 out_57.length cap_59)] ∧ MapO (Value.int .i64) (Value.int .i64) 1 col_56 w_55 g_61 seen_62 ∧ Box 51 2 col_56 w_55 g_6 #[(.map (some g_61))] ∧ f 50 = (.int .i64 (k_53 : Int)) ∧ f 0 = (.slice a0 p0_ways.length cap0) ∧ f 11 = (.int .i64 i_36) ∧ f 48 = (.slice a_50 e_46.length cap_51) ∧ f 49 = (.int .i64 (e_46.length : Int)) ∧ f 7 = (.pointer (some ⟨g_15, 0, none⟩)) ∧ f 8 = (.func (.func 47) #[] #[(.pointer (some ⟨g_6, 0, none⟩)), (.pointer (some ⟨g_15, 0, none⟩))]) ∧ f 1000000 = (enc [])) e_46.length ⟨col_35, 0, a_38, cap_39, out_37, g_41, seen_42, e_46, rfl, rfl, hm, hst, h0, h_52, h_40, hb_19, h_43, hb_14, rfl, rfl, rfl, rfl, rfl, rfl, rfl, rfl⟩ ?_
        clear hm; intro n f w_55 hI
        obtain ⟨col_56, k_53, a_58, cap_59, out_57, g_61, seen_62, l_54, hn, hl, hm, hst, h0, h_52, h_60, hb_19, h_63, hb_14, hs50, hs0, hs11, hs48, hs49, hs7, hs8, hs1000000⟩ := hI
        subst hn
        refine .ld (d := 50) (v := (.int .i64 (k_53 : Int))) hs50 ?_
        refine .ld (d := 0) (v := (.slice a0 p0_ways.length cap0)) hs0 ?_
        refine .ld (d := 11) (v := (.int .i64 i_36)) hs11 ?_
        refine .ld (d := 48) (v := (.slice a_50 e_46.length cap_51)) hs48 ?_
        refine .ld (d := 49) (v := (.int .i64 (e_46.length : Int))) hs49 ?_
        refine .ld (d := 7) (v := (.pointer (some ⟨g_15, 0, none⟩))) hs7 ?_
        refine .ld (d := 8) (v := (.func (.func 47) #[] #[(.pointer (some ⟨g_6, 0, none⟩)), (.pointer (some ⟨g_15, 0, none⟩))])) hs8 ?_
        refine .ld (d := 1000000) (v := (enc [])) hs1000000 ?_
        clear hs50 hs0 hs11 hs48 hs49 hs7 hs8 hs1000000
        cases l_54 with
        | nil =>
          have hk : ¬ ((k_53 : Int) < (e_46.length : Int)) := by have := List.drop_eq_nil_iff.1 hl; omega
          have hkb := decide_eq_false hk
          rw [m_dag_reach_L3.eq_1] at hm
          refine wseq ?_
          refine wregion ?_
          refine lv (v := (.bool (decide ((k_53 : Int) < (e_46.length : Int))))) rfl rfl (r_lss (k_53 : Int) (e_46.length : Int) rfl rfl) ?_
          refine lnil ?_
          refine wseq ?_
          refine wcondF (congrArg Value.bool hkb) ?_
          refine wexit (inB_hit ?_)
          refine wregion ?_
          refine lv (v := (.int .i64 i_36)) rfl rfl (r_move rfl) ?_
          refine lv (v := (.int .i64 (IntKind.i64.wrap (i_36 + 1)))) rfl rfl (r_add i_36 1 rfl rfl) ?_
          refine lv (v := (.int .i64 (IntKind.i64.wrap (i_36 + 1)))) rfl rfl (r_assign rfl) ?_
          refine lnil ?_
          exact ⟨n_33, by omega, ⟨col_56, (IntKind.i64.wrap (i_36 + 1)), a_58, cap_59, out_57, g_61, seen_62, n_33, rfl, hm, hst, h0, h_60, hb_19, h_63, hb_14, rfl, rfl, rfl, rfl, rfl⟩⟩
        | cons x_64 l_65 =>
          obtain ⟨hat, hl2, hlt⟩ := drop_get hl
          have hk : (k_53 : Int) < (e_46.length : Int) := by omega
          have hkb := decide_eq_true hk
          rw [m_dag_reach_L3.eq_2] at hm
          refine wseq ?_
          refine wregion ?_
          refine lv (v := (.bool (decide ((k_53 : Int) < (e_46.length : Int))))) rfl rfl (r_lss (k_53 : Int) (e_46.length : Int) rfl rfl) ?_
          refine lnil ?_
          refine wseq ?_
          refine wcondT (congrArg Value.bool hkb) ?_
          refine wskip ?_
          refine wseq ?_
          refine wblock ?_
          refine wseq ?_
          refine wregion ?_
          refine lv (v := (sptr a_50 (Int.toNat (k_53 : Int) * 1))) rfl rfl (r_idx Try.underlying31 Try.sizeOf3 rfl rfl (at?_some hat).1 (at?_some hat).2.1 (h_52.addr hat)) ?_
          refine lv (v := (.int .i64 x_64)) rfl rfl (r_ld Try.isAgg3 rfl (h_52.atInt hat)) ?_
          refine lv (v := (.int .i64 x_64)) rfl rfl (r_assign rfl) ?_
          refine lnil ?_
          refine wregion ?_
          refine lv (v := (.func (.func 47) #[] #[(.pointer (some ⟨g_6, 0, none⟩)), (.pointer (some ⟨g_15, 0, none⟩))])) rfl rfl (r_move rfl) ?_
          refine lv (v := (.int .i64 x_64)) rfl rfl (r_move rfl) ?_
          obtain ⟨r_66, hr_67, hm⟩ := bind_some hm
          refine lc rfl rfl (r_callv1 Try.call47 rfl rfl) (c_dag_reach_1 col_56 _ 2 1 3 4 rfl x_64 g_6 seen_62 g_61 g_15 out_57 a_58 cap_59 h_63 hb_14 h_60 hb_19 r_66 hr_67) ?_
          rintro _ w_75 ⟨col_77, og_68, oa_71, oc_72, rfl, hg_76, oh_69, ohb_70, oh_73, ohb_74⟩
          refine ⟨_, rfl, ?_⟩
          replace h0 := h0.kpp hg_76 rfl
          replace h_52 := h_52.kpp hg_76 rfl
          replace hst := hst.kpp hg_76 rfl rfl
          clear h_60
          clear h_63
          clear hb_14
          clear hb_19
          refine lnil ?_
          refine wregion ?_
          refine lv (v := (.int .i64 (IntKind.i64.wrap ((k_53 : Int) + 1)))) rfl rfl (r_add (k_53 : Int) 1 rfl rfl) ?_
          refine lv (v := (.int .i64 (IntKind.i64.wrap ((k_53 : Int) + 1)))) rfl rfl (r_move rfl) ?_
          refine lnil ?_
          exact ⟨l_65.length, by simp, ⟨col_77, (k_53 + 1), oa_71, oc_72, r_66.2, og_68, r_66.1, l_65, rfl, hl2, hm, hst, h0, h_52, oh_73, ohb_74, oh_69, ohb_70, (congrArg (Value.int .i64) (wrap_succ (Nat.lt_of_lt_of_le hlt h_52.1.1))), rfl, rfl, rfl, rfl, rfl, rfl, rfl⟩⟩
      · rw [if_neg (by rw [hb]; decide)] at hm
        clear hb
        refine wexit (inB_hit ?_)
        refine wseq ?_
        refine wregion ?_
        refine lv (v := (.slice a_38 out_37.length cap_39)) rfl rfl (r_ld Try.isAgg31 rfl hb_19.at1) ?_
        obtain ⟨r_78, hr_79, hm⟩ := bind_some hm
        refine lc rfl rfl (r_call1 Try.call48 rfl) (c_slices_Sort_int_int col_35 _ 4 rfl a_38 cap_39 out_37 h_40 r_78 hr_79) ?_
        rintro _ w_82 ⟨col_84, rfl, hg_83, oh_80, ohl_81⟩
        refine ⟨_, rfl, ?_⟩
        replace hb_19 := hb_19.kpp hg_83 rfl
        replace hst := hst.kpp hg_83 rfl rfl
        clear h_40
        refine .ld (d := 58) (v := (.slice a_38 r_78.length cap_39)) (congrArg (fun n => Value.slice a_38 n cap_39) (show out_37.length = r_78.length from ohl_81.symm)) ?_
        replace hb_19 : Box 31 3 col_84 w_82 g_15 #[(.slice a_38 r_78.length cap_39)] := by rw [← (show out_37.length = r_78.length from ohl_81.symm)]; exact hb_19
        refine lnil ?_
        refine wseq ?_
        refine wregion ?_
        refine lv (v := (.slice a_38 r_78.length cap_39)) rfl rfl (r_ld Try.isAgg31 rfl hb_19.at1) ?_
        refine lv (v := (.slice a_38 r_78.length cap_39)) rfl rfl (r_assign rfl) ?_
        refine lv (v := (.int .i64 0)) rfl rfl (r_assign rfl) ?_
        refine lnil ?_
        refine wret ?_
        cases hm
        exact ⟨rfl, colF w0.heap.size col col_84 (fun n => bif Nat.beq n 4 then c1 else 0), a_38, cap_39, rfl, hst.fin (fun n => bif Nat.beq n 4 then c1 else 0), hst.finOwn (g := (fun n => bif Nat.beq n 4 then c1 else 0)) rfl oh_80 (by decide) (by decide) rfl⟩
  | cons x_31 l_32 =>
    obtain ⟨hat, hl2, hlt⟩ := drop_get hl
    have hk : (k_20 : Int) < (p1_points.length : Int) := by omega
    have hkb := decide_eq_true hk
    rw [m_dag_reach_L1.eq_2] at hm
    refine wseq ?_
    refine wregion ?_
    refine lv (v := (.bool (decide ((k_20 : Int) < (p1_points.length : Int))))) rfl rfl (r_lss (k_20 : Int) (p1_points.length : Int) rfl rfl) ?_
    refine lnil ?_
    refine wseq ?_
    refine wcondT (congrArg Value.bool hkb) ?_
    refine wskip ?_
    refine wseq ?_
    refine wblock ?_
    refine wseq ?_
    refine wregion ?_
    refine lv (v := (sptr a1 (Int.toNat (k_20 : Int) * 1))) rfl rfl (r_idx Try.underlying31 Try.sizeOf3 rfl rfl (at?_some hat).1 (at?_some hat).2.1 (h1.addr hat)) ?_
    refine lv (v := (.int .i64 x_31)) rfl rfl (r_ld Try.isAgg3 rfl (h1.atInt hat)) ?_
    refine lv (v := (.int .i64 x_31)) rfl rfl (r_assign rfl) ?_
    refine lnil ?_
    refine wseq ?_
    refine wseq ?_
    refine Wp.cut (fun f w_86 => ∃ (col_87 : Col) (v_88 : Bool), m_dag_reach_J1 out_24 seen_29 (m_dag_reach_L1 N p0_ways l_32) x_31 v_88 = some r ∧ St w0 (col0 col) col_87 w_86 ∧ Sl (Rep.slice (Rep.int .i64)) col_87 w_86 a0 cap0 p0_ways ∧ Sl (Rep.int .i64) col_87 w_86 a1 cap1 p1_points ∧ Own (Rep.int .i64) 3 4 col_87 w_86 a_25 cap_26 out_24 ∧ Box 31 3 col_87 w_86 g_15 #[(.slice a_25 out_24.length cap_26)] ∧ MapO (Value.int .i64) (Value.int .i64) 1 col_87 w_86 g_28 seen_29 ∧ Box 51 2 col_87 w_86 g_6 #[(.map (some g_28))] ∧ f 0 = (.slice a0 p0_ways.length cap0) ∧ f 10 = (.int .i64 x_31) ∧ f 18 = (.slice a1 p1_points.length cap1) ∧ f 19 = (.int .i64 (p1_points.length : Int)) ∧ f 20 = (.int .i64 (k_20 : Int)) ∧ f 31 = (.bool v_88) ∧ f 7 = (.pointer (some ⟨g_15, 0, none⟩)) ∧ f 8 = (.func (.func 47) #[] #[(.pointer (some ⟨g_6, 0, none⟩)), (.pointer (some ⟨g_15, 0, none⟩))]) ∧ f 1000000 = (enc [])) ?_ ?_
    · intro f w_86 hJ
      obtain ⟨col_87, v_88, hm, hst, h0, h1, h_27, hb_19, h_30, hb_14, hs0, hs10, hs18, hs19, hs20, hs31, hs7, hs8, hs1000000⟩ := hJ
      rw [m_dag_reach_J1.eq_1] at hm
      refine .ld (d := 0) (v := (.slice a0 p0_ways.length cap0)) hs0 ?_
      refine .ld (d := 10) (v := (.int .i64 x_31)) hs10 ?_
      refine .ld (d := 18) (v := (.slice a1 p1_points.length cap1)) hs18 ?_
      refine .ld (d := 19) (v := (.int .i64 (p1_points.length : Int))) hs19 ?_
      refine .ld (d := 20) (v := (.int .i64 (k_20 : Int))) hs20 ?_
      refine .ld (d := 31) (v := (.bool v_88)) hs31 ?_
      refine .ld (d := 7) (v := (.pointer (some ⟨g_15, 0, none⟩))) hs7 ?_
      refine .ld (d := 8) (v := (.func (.func 47) #[] #[(.pointer (some ⟨g_6, 0, none⟩)), (.pointer (some ⟨g_15, 0, none⟩))])) hs8 ?_
      refine .ld (d := 1000000) (v := (enc [])) hs1000000 ?_
      clear hs0 hs10 hs18 hs19 hs20 hs31 hs7 hs8 hs1000000
      refine wcond (v_88) rfl (fun hb => ?_) (fun hb => ?_)
      · rw [if_pos hb] at hm
        clear hb
        refine wseq ?_
        refine wregion ?_
        refine lv (v := (.slice none (([] : List Int).length) 0)) rfl rfl (r_assign rfl) ?_
        refine lv (v := (.int .i64 3)) rfl rfl (r_assign rfl) ?_
        refine lnil ?_
        refine wret ?_
        cases hm
        exact ⟨rfl, colF w0.heap.size col col_87 (fun n => 0), none, 0, rfl, hst.fin (fun n => 0), Own.nil⟩
      · rw [if_neg (by rw [hb]; decide)] at hm
        clear hb
        refine wskip ?_
        refine wregion ?_
        refine lv (v := (.func (.func 47) #[] #[(.pointer (some ⟨g_6, 0, none⟩)), (.pointer (some ⟨g_15, 0, none⟩))])) rfl rfl (r_move rfl) ?_
        refine lv (v := (.int .i64 x_31)) rfl rfl (r_move rfl) ?_
        obtain ⟨r_89, hr_90, hm⟩ := bind_some hm
        refine lc rfl rfl (r_callv1 Try.call47 rfl rfl) (c_dag_reach_1 col_87 _ 2 1 3 4 rfl x_31 g_6 seen_29 g_28 g_15 out_24 a_25 cap_26 h_30 hb_14 h_27 hb_19 r_89 hr_90) ?_
        rintro _ w_98 ⟨col_100, og_91, oa_94, oc_95, rfl, hg_99, oh_92, ohb_93, oh_96, ohb_97⟩
        refine ⟨_, rfl, ?_⟩
        replace h0 := h0.kpp hg_99 rfl
        replace h1 := h1.kpp hg_99 rfl
        replace hst := hst.kpp hg_99 rfl rfl
        clear h_27
        clear h_30
        clear hb_14
        clear hb_19
        refine lnil ?_
        refine wregion ?_
        refine lv (v := (.int .i64 (IntKind.i64.wrap ((k_20 : Int) + 1)))) rfl rfl (r_add (k_20 : Int) 1 rfl rfl) ?_
        refine lv (v := (.int .i64 (IntKind.i64.wrap ((k_20 : Int) + 1)))) rfl rfl (r_move rfl) ?_
        refine lnil ?_
        exact ⟨l_32.length, by simp, ⟨col_100, (k_20 + 1), oa_94, oc_95, r_89.2, og_91, r_89.1, l_32, rfl, hl2, hm, hst, h0, h1, oh_96, ohb_97, oh_92, ohb_93, (congrArg (Value.int .i64) (wrap_succ (Nat.lt_of_lt_of_le hlt h1.1.1))), rfl, rfl, rfl, rfl, rfl, rfl⟩⟩
    · refine wregion ?_
      refine lv (v := (.int .i64 x_31)) rfl rfl (r_move rfl) ?_
      refine lv (v := (.bool (decide (x_31 < 0)))) rfl rfl (r_lss x_31 0 rfl rfl) ?_
      refine lv (v := (.bool (decide (x_31 < 0)))) rfl rfl (r_move rfl) ?_
      by_cases hg_101 : (decide (x_31 < 0)) = true
      · rw [if_pos hg_101] at hm
        refine lp (b := decide (x_31 < 0)) 26 rfl rfl rfl rfl (by rw [hg_101]; rfl) ?_
        refine lp (b := decide (x_31 < 0)) 26 rfl rfl rfl rfl (by rw [hg_101]; rfl) ?_
        refine lp (b := decide (x_31 < 0)) 26 rfl rfl rfl rfl (by rw [hg_101]; rfl) ?_
        refine lp (b := decide (x_31 < 0)) 26 rfl rfl rfl rfl (by rw [hg_101]; rfl) ?_
        refine lv (v := (.bool true)) rfl rfl (r_pickT (congrArg Value.bool hg_101) rfl) ?_
        refine lnil ?_
        exact ⟨col_23, true, hm, hst, h0, h1, h_27, hb_19, h_30, hb_14, rfl, rfl, rfl, rfl, rfl, rfl, rfl, rfl, rfl⟩
      · rw [if_neg hg_101] at hm
        replace hg_101 := Bool.eq_false_iff.2 hg_101
        refine lg (b := decide (x_31 < 0)) 26 rfl rfl rfl (by rw [hg_101]; rfl) ?_
        refine lv (v := (.int .i64 x_31)) rfl rfl (r_move rfl) ?_
        refine lg (b := decide (x_31 < 0)) 26 rfl rfl rfl (by rw [hg_101]; rfl) ?_
        refine lv (v := (.slice a0 p0_ways.length cap0)) rfl rfl (r_move rfl) ?_
        refine lg (b := decide (x_31 < 0)) 26 rfl rfl rfl (by rw [hg_101]; rfl) ?_
        refine lv (v := (.int .i64 (p0_ways.length : Int))) rfl rfl (r_len Try.underlying22 rfl) ?_
        refine lg (b := decide (x_31 < 0)) 26 rfl rfl rfl (by rw [hg_101]; rfl) ?_
        refine lv (v := (.bool (decide ((p0_ways.length : Int) ≤ x_31)))) rfl rfl (r_geq x_31 (p0_ways.length : Int) rfl rfl) ?_
        refine lv (v := (.bool (decide ((p0_ways.length : Int) ≤ x_31)))) rfl rfl (r_pickF (congrArg Value.bool hg_101) rfl) ?_
        refine lnil ?_
        exact ⟨col_23, (decide ((p0_ways.length : Int) ≤ x_31)), hm, hst, h0, h1, h_27, hb_19, h_30, hb_14, rfl, rfl, rfl, rfl, rfl, rfl, rfl, rfl, rfl⟩



def way (W : List (List Int)) (x : Int) : List Int := W.getD x.toNat []
inductive Reach (W : List (List Int)) (p : Int) : Int → Prop
  | refl : Reach W p p
  | step {q x : Int} (h : Reach W p q) (hx : x ∈ way W q) : Reach W p x
theorem Reach.trans {W : List (List Int)} {p q x : Int} (h : Reach W p q) (k : Reach W q x) : Reach W p x := by
  induction k with
  | refl => exact h
  | step _ hx ih => exact .step ih hx

/-- Put in, unless it is there. -/
def addU (out : List Int) (x : Int) : List Int := if x ∈ out then out else out ++ [x]
def addAll (out l : List Int) : List Int := l.foldl addU out
theorem addU_mem (out : List Int) (x y : Int) : y ∈ addU out x ↔ y ∈ out ∨ y = x := by
  unfold addU
  split
  · rename_i h
    exact ⟨.inl, fun h2 => h2.elim id fun e => by rw [e]; exact h⟩
  · simp
theorem addAll_mem : ∀ (l out : List Int) (y : Int), y ∈ addAll out l ↔ y ∈ out ∨ y ∈ l
  | [], out, y => by simp [addAll]
  | x :: l, out, y => by
    rw [show addAll out (x :: l) = addAll (addU out x) l from rfl, addAll_mem l, addU_mem, List.mem_cons]
    exact ⟨fun h => by rcases h with (h | h) | h <;> simp [h], fun h => by rcases h with h | h | h <;> simp [h]⟩
theorem addU_nd {out : List Int} {x : Int} (h : out.Nodup) : (addU out x).Nodup := by
  unfold addU
  split
  · exact h
  · rename_i hx
    rw [List.nodup_append]
    refine ⟨h, by simp, fun a ha b hb e => ?_⟩
    rw [List.mem_singleton] at hb; subst hb; subst e; exact hx ha
theorem addU_pre (out : List Int) (x : Int) : ∃ z, addU out x = out ++ z := by
  unfold addU
  split
  · exact ⟨[], by simp⟩
  · exact ⟨[x], rfl⟩
theorem addAll_pre : ∀ (l out : List Int), ∃ z, addAll out l = out ++ z
  | [], out => ⟨[], by simp [addAll]⟩
  | x :: l, out => by
    obtain ⟨z, hz⟩ := addU_pre out x
    obtain ⟨z2, hz2⟩ := addAll_pre l (addU out x)
    exact ⟨z ++ z2, by rw [show addAll out (x :: l) = addAll (addU out x) l from rfl, hz2, hz, List.append_assoc]⟩
theorem InR.len {n : Nat} {l : List Int} (h : InR n l) (hn : l.Nodup) : l.length ≤ n := by
  have h7 := nodup_le (r := (List.range n).map fun i : Nat => (i : Int)) hn fun y hy => by
    have := h y hy
    exact List.mem_map.2 ⟨y.toNat, List.mem_range.2 (by omega), by omega⟩
  simpa using h7

def Vis (seen : List (Int × Int)) (out : List Int) : Prop := out.Nodup ∧ ∀ k, mget seen k = if k ∈ out then some 1 else none
theorem visit {seen : List (Int × Int)} {out : List Int} (h : Vis seen out) (x : Int) (hl : out.length ≤ 1000000) : ∃ seen', m_dag_reach_1 x seen out = some (seen', addU out x) ∧ Vis seen' (addU out x) := by
  rw [m_dag_reach_1, h.2 x]
  by_cases hx : x ∈ out
  · rw [if_pos hx, if_neg (by decide)]
    have e : addU out x = out := if_pos hx
    rw [e]; exact ⟨seen, rfl, h⟩
  · rw [if_neg hx, if_pos (by decide), Option.bind_some, chk_pos (by simp only [List.length_cons, List.length_nil, maxLen]; omega)]
    have e : addU out x = out ++ [x] := if_neg hx
    refine ⟨_, by rw [e], addU_nd h.1, fun k => ?_⟩
    rw [mget_mput, h.2 k]
    by_cases hk : k = x
    · subst hk; rw [if_pos rfl, if_pos ((addU_mem _ _ _).2 (.inr rfl))]
    · rw [if_neg hk]
      by_cases hs : k ∈ out
      · rw [if_pos hs, if_pos ((addU_mem _ _ _).2 (.inl hs))]
      · rw [if_neg hs, if_neg (fun hh => ((addU_mem _ _ _).1 hh).elim hs hk)]

section
variable {N n : Nat} {W : List (List Int)} (hW : W.length = n) (hn : n ≤ 1000000) (hr : ∀ l ∈ W, InR n l)
include hW hn hr
omit hW hn in
theorem way_InR (x : Int) : InR n (way W x) := by
  unfold way
  by_cases hx : x.toNat < W.length
  · rw [lgetD_lt hx]; exact hr _ (List.getElem_mem hx)
  · rw [List.getD_eq_getElem?_getD, List.getElem?_eq_none (by omega)]
    intro y hy; simp at hy
omit hW hr in
theorem reach_L3 (i : Int) (kk : Int → List Int → List (Int × Int) → Option (List Int × Int)) : ∀ (l out : List Int) (seen : List (Int × Int)), Vis seen out → InR n out → InR n l →
    ∃ seen', m_dag_reach_L3 i kk l out seen = kk (IntKind.i64.wrap (i + 1)) (addAll out l) seen' ∧ Vis seen' (addAll out l)
  | [], out, seen, hv, _, _ => ⟨seen, by rw [m_dag_reach_L3.eq_1]; rfl, hv⟩
  | x :: l, out, seen, hv, ho, hl => by
    have hlen := ho.len hv.1
    obtain ⟨s1, h1, h2⟩ := visit hv x (by omega)
    rw [m_dag_reach_L3.eq_2, h1, Option.bind_some]
    exact reach_L3 i kk l (addU out x) s1 h2 (fun y hy => ((addU_mem _ _ _).1 hy).elim (ho y) fun e => by rw [e]; exact hl x List.mem_cons_self) (fun y hy => hl y (List.mem_cons_of_mem _ hy))
theorem reach_L2 : ∀ (f i : Nat) (out : List Int) (seen : List (Int × Int)), n < f + i → i ≤ out.length → Vis seen out → InR n out → (∀ (j : Nat) (hj : j < out.length), j < i → ∀ y ∈ way W out[j], y ∈ out) →
    ∃ r, m_dag_reach_L2 N W f (i : Int) out seen = some (isort r, 0) ∧ (∀ x ∈ out, x ∈ r) ∧ r.Nodup ∧ InR n r ∧ (∀ x ∈ r, ∀ y ∈ way W x, y ∈ r) ∧ ∀ x ∈ r, ∃ p ∈ out, Reach W p x
  | 0, i, out, seen, hf, hi, hv, ho, _ => by have := ho.len hv.1; omega
  | f + 1, i, out, seen, hf, hi, hv, ho, hc => by
    have hlen := ho.len hv.1
    rw [m_dag_reach_L2.eq_2]
    by_cases hlt : i < out.length
    · have he := ho _ (List.getElem_mem hlt)
      have hat : at? W out[i] = some (way W out[i]) := by
        refine at?_of he.1 ?_
        rw [List.getElem?_eq_getElem (by omega), way, lgetD_lt (by omega)]
      have hwr := way_InR hr out[i]
      rw [if_pos (by simpa using hlt), at?_lt hlt, Option.bind_some, hat, Option.bind_some]
      obtain ⟨s1, h1, h2⟩ := reach_L3 hn (i : Int) (m_dag_reach_L2 N W f) (way W out[i]) out seen hv ho hwr
      obtain ⟨z, hz⟩ := addAll_pre (way W out[i]) out
      have ho' : InR n (addAll out (way W out[i])) := fun y hy => ((addAll_mem _ _ _).1 hy).elim (ho y) (hwr y)
      have hle : out.length ≤ (addAll out (way W out[i])).length := by rw [hz]; simp
      obtain ⟨r, k1, k2, k3, k4, k5, k6⟩ := reach_L2 f (i + 1) (addAll out (way W out[i])) s1 (by omega) (by omega) h2 ho' (fun j hj hji y hy => by
        have hj' : j < out.length := by omega
        have e : (addAll out (way W out[i]))[j] = out[j] := by simp only [hz]; rw [List.getElem_append_left hj']
        rw [e] at hy
        by_cases hji2 : j = i
        · subst hji2; exact (addAll_mem _ _ _).2 (.inr hy)
        · exact (addAll_mem _ _ _).2 (.inl (hc j hj' (by omega) y hy)))
      refine ⟨r, ?_, fun x hx => k2 x ((addAll_mem _ _ _).2 (.inl hx)), k3, k4, k5, fun x hx => ?_⟩
      · rw [h1, wS (by omega)]; exact k1
      · obtain ⟨p, hp, hpx⟩ := k6 x hx
        rcases (addAll_mem _ _ _).1 hp with hp | hp
        · exact ⟨p, hp, hpx⟩
        · exact ⟨out[i], List.getElem_mem hlt, (Reach.step .refl hp).trans hpx⟩
    · refine ⟨out, ?_, fun x hx => hx, hv.1, ho, fun x hx y hy => ?_, fun x hx => ⟨x, hx, .refl⟩⟩
      · rw [if_neg (by simpa using hlt), lib_sort, chk_pos (by omega)]; rfl
      · obtain ⟨j, hj, rfl⟩ := List.getElem_of_mem hx
        exact hc j hj (by omega) y hy
omit hr in
theorem reach_L1 : ∀ (pts out : List Int) (seen : List (Int × Int)), Vis seen out → InR n out →
    (InR n pts → ∃ seen', m_dag_reach_L1 N W pts out seen = m_dag_reach_L2 N W N 0 (addAll out pts) seen' ∧ Vis seen' (addAll out pts)) ∧ (¬ InR n pts → m_dag_reach_L1 N W pts out seen = some ([], 3))
  | [], out, seen, hv, ho => ⟨fun _ => ⟨seen, by rw [m_dag_reach_L1.eq_1]; rfl, hv⟩, fun h => absurd (fun x hx => by simp at hx) h⟩
  | x :: pts, out, seen, hv, ho => by
    rw [m_dag_reach_L1.eq_2, m_dag_reach_J1, m_dag_reach_J1]
    by_cases h1 : x < 0
    · rw [if_pos (by simpa using h1), if_pos rfl]
      exact ⟨fun h => by have := h x List.mem_cons_self; omega, fun _ => rfl⟩
    · rw [if_neg (by simpa using h1)]
      by_cases h2 : (W.length : Int) ≤ x
      · rw [if_pos (by simpa using h2)]
        exact ⟨fun h => by have := h x List.mem_cons_self; omega, fun _ => rfl⟩
      · have hlen := ho.len hv.1
        obtain ⟨s1, h3, h4⟩ := visit hv x (by omega)
        rw [if_neg (by simpa using h2), h3, Option.bind_some]
        obtain ⟨h5, h6⟩ := reach_L1 pts (addU out x) s1 h4 (fun y hy => ((addU_mem _ _ _).1 hy).elim (ho y) fun e => by rw [e]; omega)
        refine ⟨fun h => h5 fun y hy => h y (List.mem_cons_of_mem _ hy), fun h => h6 fun h7 => h fun y hy => ?_⟩
        rcases List.mem_cons.1 hy with rfl | hy
        · omega
        · exact h7 y hy
theorem reach_eq (hN : 2000000 < N) (pts : List Int) :
    (InR n pts → ∃ r, m_dag_reach N W pts = some (isort r, 0) ∧ r.Nodup ∧ InR n r ∧ ∀ x, x ∈ r ↔ ∃ p ∈ pts, Reach W p x) ∧ (¬ InR n pts → m_dag_reach N W pts = some ([], 3)) := by
  rw [m_dag_reach]
  have hv0 : Vis [] [] := ⟨.nil, fun k => rfl⟩
  obtain ⟨h1, h2⟩ := reach_L1 (N := N) hW hn pts [] [] hv0 (fun x hx => by simp at hx)
  refine ⟨fun h => ?_, h2⟩
  obtain ⟨s, h3, h4⟩ := h1 h
  have hm : ∀ y, y ∈ addAll [] pts ↔ y ∈ pts := fun y => by rw [addAll_mem]; simp
  obtain ⟨r, k1, k2, k3, k4, k5, k6⟩ := reach_L2 (N := N) hW hn hr N 0 (addAll [] pts) s (by omega) (Nat.zero_le _) h4 (fun y hy => h y ((hm y).1 hy)) (fun j _ hj => by omega)
  refine ⟨r, by rw [h3]; exact k1, k3, k4, fun x => ⟨fun hx => ?_, fun ⟨p, hp, hpx⟩ => ?_⟩⟩
  · obtain ⟨p, hp, hpx⟩ := k6 x hx
    exact ⟨p, (hm p).1 hp, hpx⟩
  · have hall : ∀ z, Reach W p z → z ∈ r := fun z hz => by
      induction hz with
      | refl => exact k2 p ((hm p).2 hp)
      | step _ hx ih => exact k5 _ ih _ hx
    exact hall x hpx
end



def m_dag_Above (N : Nat) (p0_parents : (List (List Int))) (p1_points : (List Int)) : Option ((List Int) × Int) :=
  (m_dag_Check N p0_parents).bind fun r_1 => if (!decide (r_1 = 0)) = true then (some (([] : List Int), r_1)) else ((m_dag_reach N p0_parents p1_points).bind fun r_5 => some (r_5.1, r_5.2))

set_option maxRecDepth 100000 in
theorem c_dag_Above (N : Nat) (c1 : Nat) (col : Col) (w0 : World) (a0 : Option Addr) (cap0 : Nat) (p0_parents : (List (List Int))) (a1 : Option Addr) (cap1 : Nat) (p1_points : (List Int)) (h0 : Sl (Rep.slice (Rep.int .i64)) col w0 a0 cap0 p0_parents) (h1 : Sl (Rep.int .i64) col w0 a1 cap1 p1_points) (r : ((List Int) × Int)) (hm : m_dag_Above N p0_parents p1_points = some r) :
    Calls Try.prog 24 #[(.slice a0 p0_parents.length cap0), (.slice a1 p1_points.length cap1)] w0 (fun e w' => ∃ (col' : Col) (ra1 : Option Addr) (rc2 : Nat), e = .returned (.tuple #[(.slice ra1 r.1.length rc2), (.int .i64 r.2)]) ∧ Grow col w0 col' w' ∧ Own (Rep.int .i64) 3 c1 col' w' ra1 rc2 r.1) := by
  refine calls_of2 4 5 (m := 17) (args := [(.slice a0 p0_parents.length cap0), (.slice a1 p1_points.length cap1)]) Try.func24 rfl rfl rfl rfl rfl ?_
  rw [m_dag_Above.eq_1] at hm
  have hst := St.start col w0
  replace h0 := h0.keep (Stay.start col w0)
  replace h1 := h1.keep (Stay.start col w0)
  refine wseq ?_
  refine wregion ?_
  refine lv (v := (.slice none (([] : List Int).length) 0)) rfl rfl (r_assign rfl) ?_
  refine lv (v := (.int .i64 0)) rfl rfl (r_assign rfl) ?_
  refine lnil ?_
  refine wseq ?_
  refine wseq ?_
  refine wregion ?_
  refine lv (v := (.slice a0 p0_parents.length cap0)) rfl rfl (r_move rfl) ?_
  obtain ⟨r_1, hr_2, hm⟩ := bind_some hm
  refine lc rfl rfl (r_call1 Try.call18 rfl) (c_dag_Check N (col0 col) _ a0 cap0 p0_parents h0 r_1 hr_2) ?_
  rintro _ w_3 ⟨rfl, hg_4⟩
  refine ⟨_, rfl, ?_⟩
  replace hg_4 : Grow (col0 col) w0 (col0 col) w_3 := .of_below hg_4
  replace h0 := h0.gr hg_4
  replace h1 := h1.gr hg_4
  replace hst := hst.grow hg_4
  refine lv (v := (.int .i64 r_1)) rfl rfl (r_assign rfl) ?_
  refine lnil ?_
  refine wseq ?_
  refine wregion ?_
  refine lv (v := (.int .i64 r_1)) rfl rfl (r_move rfl) ?_
  refine lv (v := (.bool (!decide (r_1 = 0)))) rfl rfl (r_neq r_1 0 rfl rfl) ?_
  refine lnil ?_
  refine wcond (!decide (r_1 = 0)) rfl (fun hb => ?_) (fun hb => ?_)
  · rw [if_pos hb] at hm
    clear hb
    refine wseq ?_
    refine wregion ?_
    refine lv (v := (.int .i64 r_1)) rfl rfl (r_move rfl) ?_
    refine lv (v := (.slice none (([] : List Int).length) 0)) rfl rfl (r_assign rfl) ?_
    refine lv (v := (.int .i64 r_1)) rfl rfl (r_assign rfl) ?_
    refine lnil ?_
    refine wret ?_
    cases hm
    exact ⟨rfl, colF w0.heap.size col (col0 col) (fun n => 0), none, 0, rfl, hst.fin (fun n => 0), Own.nil⟩
  · rw [if_neg (by rw [hb]; decide)] at hm
    clear hb
    refine wskip ?_
    refine wseq ?_
    refine wregion ?_
    refine lv (v := (.slice a0 p0_parents.length cap0)) rfl rfl (r_move rfl) ?_
    refine lv (v := (.slice a1 p1_points.length cap1)) rfl rfl (r_move rfl) ?_
    obtain ⟨r_5, hr_6, hm⟩ := bind_some hm
    refine lc rfl rfl (r_call2 Try.call38 rfl rfl) (c_dag_reach N 1 (col0 col) _ a0 cap0 p0_parents a1 cap1 p1_points h0 h1 r_5 hr_6) ?_
    rintro _ w_10 ⟨col_12, ra_7, rc_8, rfl, hg_11, rh_9⟩
    refine ⟨_, rfl, ?_⟩
    replace h0 := h0.gr hg_11
    replace h1 := h1.gr hg_11
    replace hst := hst.grow hg_11
    refine lv (v := (.slice ra_7 r_5.1.length rc_8)) rfl rfl (r_extract rfl rfl) ?_
    refine lv (v := (.int .i64 r_5.2)) rfl rfl (r_extract rfl rfl) ?_
    refine lv (v := (.slice ra_7 r_5.1.length rc_8)) rfl rfl (r_assign rfl) ?_
    refine lv (v := (.int .i64 r_5.2)) rfl rfl (r_assign rfl) ?_
    refine lnil ?_
    refine wret ?_
    cases hm
    exact ⟨rfl, colF w0.heap.size col col_12 (fun n => bif Nat.beq n 1 then c1 else 0), ra_7, rc_8, rfl, hst.fin (fun n => bif Nat.beq n 1 then c1 else 0), hst.finOwn (g := (fun n => bif Nat.beq n 1 then c1 else 0)) rfl rh_9 (by decide) (by decide) rfl⟩



theorem el3_30 : ElemOk Try.prog 3 1 8 := ⟨Try.t3, _, rfl, rfl, rfl, rfl, rfl⟩

def m_dag_ring_J2 (kk_L2 : ((List Int) → (List (Int × Int)) → Option (List Int))) (next_61 : List Int) (far_66 : List (Int × Int)) : Option (List Int) :=
  kk_L2 next_61 far_66

def m_dag_ring_J3 (e_33 : Int) (next_50 : List Int) (far_55 : List (Int × Int)) (kk_L2 : ((List Int) → (List (Int × Int)) → Option (List Int))) (x_57 : Int) (v_71 : Bool) : Option (List Int) :=
  if v_71 = true then ((some (mput far_55 x_57 (IntKind.i64.wrap (((mget far_55 e_33).getD 0) + 1)))).bind fun es_76 => chk ((next_50.length + [x_57].length) * 8 ≤ 140737488355328 ∧ next_50.length + [x_57].length ≤ maxLen) (m_dag_ring_J2 kk_L2 (next_50 ++ [x_57]) es_76)) else (m_dag_ring_J2 kk_L2 next_50 far_55)

def m_dag_ring_L2 (p2_s : Int) (kk_L1 : ((List Int) → (List (Int × Int)) → Option (List Int))) (e_33 : Int) : List Int → (List Int) → (List (Int × Int)) → Option (List Int)
  | [], next_50, far_55 => kk_L1 next_50 far_55
  | x_57 :: l_58, next_50, far_55 => if (!((mget far_55 x_57).isSome)) = true then (m_dag_ring_J3 e_33 next_50 far_55 (m_dag_ring_L2 p2_s kk_L1 e_33 l_58) x_57 (decide (p2_s < x_57))) else (m_dag_ring_J3 e_33 next_50 far_55 (m_dag_ring_L2 p2_s kk_L1 e_33 l_58) x_57 false)

def m_dag_ring_J4 (kk_L5 : (Int → Option (List Int))) (least_146 : Int) : Option (List Int) :=
  kk_L5 least_146

def m_dag_ring_J5 (least_129 : Int) (kk_L5 : (Int → Option (List Int))) (x_130 : Int) (v_152 : Bool) : Option (List Int) :=
  if v_152 = true then (m_dag_ring_J4 kk_L5 x_130) else (m_dag_ring_J4 kk_L5 least_129)

def m_dag_ring_L5 (far_25 : List (Int × Int)) (best_102 : Int) (out_113 : List Int) (kk_L4 : ((List Int) → Int → Option (List Int))) : List Int → Int → Option (List Int)
  | [], least_129 => chk ((out_113.length + [least_129].length) * 8 ≤ 140737488355328 ∧ out_113.length + [least_129].length ≤ maxLen) (kk_L4 (out_113 ++ [least_129]) least_129)
  | x_130 :: l_131, least_129 => if ((mget far_25 x_130).isSome) = true then (if (decide (((mget far_25 x_130).getD 0) = (IntKind.i64.wrap (best_102 - (out_113.length : Int))))) = true then (if (decide (least_129 < 0)) = true then (m_dag_ring_J5 least_129 (m_dag_ring_L5 far_25 best_102 out_113 kk_L4 l_131) x_130 true) else (m_dag_ring_J5 least_129 (m_dag_ring_L5 far_25 best_102 out_113 kk_L4 l_131) x_130 (decide (x_130 < least_129)))) else (m_dag_ring_J5 least_129 (m_dag_ring_L5 far_25 best_102 out_113 kk_L4 l_131) x_130 false)) else (m_dag_ring_J5 least_129 (m_dag_ring_L5 far_25 best_102 out_113 kk_L4 l_131) x_130 false)

def m_dag_ring_L4 (N : Nat) (p0_parents : (List (List Int))) (far_25 : List (Int × Int)) (best_102 : Int) : Nat → (List Int) → Int → Option (List Int)
  | 0, _, _ => none
  | n_110 + 1, out_113, v_117 => if (decide ((out_113.length : Int) < best_102)) = true then ((at? p0_parents v_117).bind fun e_118 => m_dag_ring_L5 far_25 best_102 out_113 (m_dag_ring_L4 N p0_parents far_25 best_102 n_110) e_118 (-1)) else (chk (out_113 ≠ []) (some out_113))

def m_dag_ring_J6 (kk_L3 : (Int → Option (List Int))) (best_158 : Int) : Option (List Int) :=
  kk_L3 best_158

def m_dag_ring_L3 (N : Nat) (p0_parents : (List (List Int))) (p2_s : Int) (p3_most : Int) (far_25 : List (Int × Int)) : List Int → Int → Option (List Int)
  | [], best_102 => if (decide (best_102 = p3_most)) = true then (some ([] : List Int)) else (m_dag_ring_L4 N p0_parents far_25 best_102 N [p2_s] p2_s)
  | x_103 :: l_104, best_102 => if ((mget far_25 x_103).isSome) = true then (m_dag_ring_J6 (m_dag_ring_L3 N p0_parents p2_s p3_most far_25 l_104) (if (IntKind.i64.wrap (((mget far_25 x_103).getD 0) + 1)) < best_102 then (IntKind.i64.wrap (((mget far_25 x_103).getD 0) + 1)) else best_102)) else (m_dag_ring_J6 (m_dag_ring_L3 N p0_parents p2_s p3_most far_25 l_104) best_102)

def m_dag_ring_J1 (N : Nat) (p0_parents : (List (List Int))) (p1_down : (List (List Int))) (p2_s : Int) (p3_most : Int) (next_20 : List Int) (far_25 : List (Int × Int)) (kk_L1 : ((List Int) → (List (Int × Int)) → Option (List Int))) (v_32 : Bool) : Option (List Int) :=
  if v_32 = true then ((at? next_20 0).bind fun e_33 => chk ((0 : Int) ≤ 1 ∧ 1 ≤ (next_20.length : Int)) ((at? p1_down e_33).bind fun e_39 => m_dag_ring_L2 p2_s kk_L1 e_33 e_39 (next_20.drop (Int.toNat 1)) far_25)) else ((at? p0_parents p2_s).bind fun e_91 => m_dag_ring_L3 N p0_parents p2_s p3_most far_25 e_91 p3_most)

def m_dag_ring_L1 (N : Nat) (p0_parents : (List (List Int))) (p1_down : (List (List Int))) (p2_s : Int) (p3_most : Int) : Nat → (List Int) → (List (Int × Int)) → Option (List Int)
  | 0, _, _ => none
  | n_17 + 1, next_20, far_25 => if (decide (0 < (next_20.length : Int))) = true then ((at? next_20 0).bind fun e_160 => m_dag_ring_J1 N p0_parents p1_down p2_s p3_most next_20 far_25 (m_dag_ring_L1 N p0_parents p1_down p2_s p3_most n_17) (decide (((mget far_25 e_160).getD 0) < (IntKind.i64.wrap (p3_most - 1))))) else (m_dag_ring_J1 N p0_parents p1_down p2_s p3_most next_20 far_25 (m_dag_ring_L1 N p0_parents p1_down p2_s p3_most n_17) false)

def m_dag_ring (N : Nat) (p0_parents : (List (List Int))) (p1_down : (List (List Int))) (p2_s : Int) (p3_most : Int) : Option (List Int) :=
  (some (mput ([] : List (Int × Int)) p2_s 0)).bind fun es_10 => m_dag_ring_L1 N p0_parents p1_down p2_s p3_most N [p2_s] es_10

set_option maxRecDepth 100000 in
theorem c_dag_ring (N : Nat) (c1 : Nat) (col : Col) (w0 : World) (a0 : Option Addr) (cap0 : Nat) (p0_parents : (List (List Int))) (a1 : Option Addr) (cap1 : Nat) (p1_down : (List (List Int))) (p2_s : Int) (p3_most : Int) (h0 : Sl (Rep.slice (Rep.int .i64)) col w0 a0 cap0 p0_parents) (h1 : Sl (Rep.slice (Rep.int .i64)) col w0 a1 cap1 p1_down) (r : (List Int)) (hm : m_dag_ring N p0_parents p1_down p2_s p3_most = some r) :
    Calls Try.prog 30 #[(.slice a0 p0_parents.length cap0), (.slice a1 p1_down.length cap1), (.int .i64 p2_s), (.int .i64 p3_most)] w0 (fun e w' => ∃ (col' : Col) (ra1 : Option Addr) (rc2 : Nat), e = .returned ((.slice ra1 r.length rc2)) ∧ Grow col w0 col' w' ∧ Own (Rep.int .i64) 3 c1 col' w' ra1 rc2 r ∧ (r = [] → ra1 = none)) := by
  refine calls_of1 8 (m := 157) (args := [(.slice a0 p0_parents.length cap0), (.slice a1 p1_down.length cap1), (.int .i64 p2_s), (.int .i64 p3_most)]) Try.func30 rfl rfl rfl rfl rfl ?_
  rw [m_dag_ring.eq_1] at hm
  have hst := St.start col w0
  replace h0 := h0.keep (Stay.start col w0)
  replace h1 := h1.keep (Stay.start col w0)
  refine wseq ?_
  refine wregion ?_
  refine lv (v := (.slice none (([] : List Int).length) 0)) rfl rfl (r_assign rfl) ?_
  refine lnil ?_
  refine wseq ?_
  refine wregion ?_
  refine l_makeMap (col := (col0 col)) (fk := (Value.int .i64)) (fv := (Value.int .i64)) 1 rfl ?_
  intro g_1 w_2 col_3 hg_4 h_5
  replace h0 := h0.gr hg_4
  replace h1 := h1.gr hg_4
  replace hst := hst.grow hg_4
  refine lv (v := (.int .i64 p2_s)) rfl rfl (r_move rfl) ?_
  obtain ⟨es_10, hz_11, hm⟩ := bind_some hm
  have hz_11 : es_10 = mput ([] : List (Int × Int)) p2_s 0 := (Option.some.inj hz_11).symm
  refine l_mapUpdateI (k := p2_s) (v := 0) KeyD.int h_5 Try.underlying51 Try.underlying3 rfl rfl rfl ?_
  intro w_6 hk_7 hs_8 h_9
  rw [← hz_11] at h_9
  clear hz_11
  replace h0 := h0.kp hk_7 (by decide)
  replace h1 := h1.kp hk_7 (by decide)
  replace hst := hst.kp hk_7 hs_8 (by decide) (by decide)
  clear h_5
  refine lv (v := (.map (some g_1))) rfl rfl (r_move rfl) ?_
  refine lv (v := (.map (some g_1))) rfl rfl (r_assign rfl) ?_
  refine lnil ?_
  refine wseq ?_
  refine wseq ?_
  refine wregion ?_
  refine lv (v := (.int .i64 p2_s)) rfl rfl (r_move rfl) ?_
  refine l_lit (col := col_3) (r := (Rep.int .i64)) (xs := [p2_s]) [(.int .i64 p2_s)] 2 rfl Try.underlying31 el3_30 rfl rfl rfl rfl rfl rfl (by intro v hv; simp only [List.mem_cons, List.not_mem_nil, or_false] at hv; subst hv; rfl) (RowsH.ofF (Rows.consF (r := (Rep.int .i64)) (x := p2_s) (cs := [(.int .i64 p2_s)]) (rd_int .i64 p2_s) Rows.nil0)) ?_
  intro a_12 w_13 col_14 hg_15 h_16
  replace h0 := h0.gr hg_15
  replace h1 := h1.gr hg_15
  replace h_9 := h_9.gr hg_15
  replace hst := hst.grow hg_15
  refine lv (v := (.slice a_12 ([p2_s].length) 1)) rfl rfl (r_assign rfl) ?_
  refine lnil ?_
  refine wblock ?_
  refine wloop (fun n f w_18 => ∃ (col_19 : Col) (a_21 : Option Addr) (cap_22 : Nat) (next_20 : List Int) (g_24 : Nat) (far_25 : List (Int × Int)) (n_17 : Nat), n_17 = n ∧ m_dag_ring_L1 N p0_parents p1_down p2_s p3_most n_17 next_20 far_25 = some r ∧ St w0 (col0 col) col_19 w_18 ∧ Sl (Rep.slice (Rep.int .i64)) col_19 w_18 a0 cap0 p0_parents ∧ Sl (Rep.slice (Rep.int .i64)) col_19 w_18 a1 cap1 p1_down ∧ Que (Rep.int .i64) 3 2 col_19 w_18 a_21 cap_22 next_20 ∧ MapO (Value.int .i64) (Value.int .i64) 1 col_19 w_18 g_24 far_25 ∧ f 0 = (.slice a0 p0_parents.length cap0) ∧ f 1 = (.slice a1 p1_down.length cap1) ∧ f 10 = (.slice a_21 next_20.length cap_22) ∧ f 2 = (.int .i64 p2_s) ∧ f 3 = (.int .i64 p3_most) ∧ f 9 = (.map (some g_24)) ∧ f 1000000 = (enc [])) N ⟨col_14, a_12, 1, [p2_s], g_1, es_10, N, rfl, hm, hst, h0, h1, (h_16.que (NB.int (k := .i64))), h_9, rfl, rfl, rfl, rfl, rfl, rfl, rfl⟩ ?_
  clear hm; intro n f w_18 hI
  obtain ⟨col_19, a_21, cap_22, next_20, g_24, far_25, n_17, hn, hm, hst, h0, h1, h_23, h_26, hs0, hs1, hs10, hs2, hs3, hs9, hs1000000⟩ := hI
  subst hn
  refine .ld (d := 0) (v := (.slice a0 p0_parents.length cap0)) hs0 ?_
  refine .ld (d := 1) (v := (.slice a1 p1_down.length cap1)) hs1 ?_
  refine .ld (d := 10) (v := (.slice a_21 next_20.length cap_22)) hs10 ?_
  refine .ld (d := 2) (v := (.int .i64 p2_s)) hs2 ?_
  refine .ld (d := 3) (v := (.int .i64 p3_most)) hs3 ?_
  refine .ld (d := 9) (v := (.map (some g_24))) hs9 ?_
  refine .ld (d := 1000000) (v := (enc [])) hs1000000 ?_
  clear hs0 hs1 hs10 hs2 hs3 hs9 hs1000000
  cases n_17 with
  | zero => rw [m_dag_ring_L1.eq_1] at hm; cases hm
  | succ n_17 =>
    rw [m_dag_ring_L1.eq_2] at hm
    refine wseq ?_
    refine wseq ?_
    refine Wp.cut (fun f w_30 => ∃ (col_31 : Col) (v_32 : Bool), m_dag_ring_J1 N p0_parents p1_down p2_s p3_most next_20 far_25 (m_dag_ring_L1 N p0_parents p1_down p2_s p3_most n_17) v_32 = some r ∧ St w0 (col0 col) col_31 w_30 ∧ Sl (Rep.slice (Rep.int .i64)) col_31 w_30 a0 cap0 p0_parents ∧ Sl (Rep.slice (Rep.int .i64)) col_31 w_30 a1 cap1 p1_down ∧ Que (Rep.int .i64) 3 2 col_31 w_30 a_21 cap_22 next_20 ∧ MapO (Value.int .i64) (Value.int .i64) 1 col_31 w_30 g_24 far_25 ∧ f 0 = (.slice a0 p0_parents.length cap0) ∧ f 1 = (.slice a1 p1_down.length cap1) ∧ f 10 = (.slice a_21 next_20.length cap_22) ∧ f 2 = (.int .i64 p2_s) ∧ f 3 = (.int .i64 p3_most) ∧ f 45 = (.bool v_32) ∧ f 9 = (.map (some g_24)) ∧ f 1000000 = (enc [])) ?_ ?_
    · intro f w_30 hJ
      obtain ⟨col_31, v_32, hm, hst, h0, h1, h_23, h_26, hs0, hs1, hs10, hs2, hs3, hs45, hs9, hs1000000⟩ := hJ
      rw [m_dag_ring_J1.eq_1] at hm
      refine .ld (d := 0) (v := (.slice a0 p0_parents.length cap0)) hs0 ?_
      refine .ld (d := 1) (v := (.slice a1 p1_down.length cap1)) hs1 ?_
      refine .ld (d := 10) (v := (.slice a_21 next_20.length cap_22)) hs10 ?_
      refine .ld (d := 2) (v := (.int .i64 p2_s)) hs2 ?_
      refine .ld (d := 3) (v := (.int .i64 p3_most)) hs3 ?_
      refine .ld (d := 45) (v := (.bool v_32)) hs45 ?_
      refine .ld (d := 9) (v := (.map (some g_24))) hs9 ?_
      refine .ld (d := 1000000) (v := (enc [])) hs1000000 ?_
      clear hs0 hs1 hs10 hs2 hs3 hs45 hs9 hs1000000
      refine wcond (v_32) rfl (fun hb => ?_) (fun hb => ?_)
      · rw [if_pos hb] at hm
        clear hb
        refine wskip ?_
        refine wblock ?_
        refine wseq ?_
        refine wregion ?_
        refine lv (v := (.slice a_21 next_20.length cap_22)) rfl rfl (r_move rfl) ?_
        obtain ⟨e_33, hj_34, hm⟩ := bind_some hm
        refine lv (v := (sptr a_21 (Int.toNat 0 * 1))) rfl rfl (r_idx Try.underlying31 Try.sizeOf3 rfl rfl (at?_some hj_34).1 (at?_some hj_34).2.1 (h_23.addr hj_34)) ?_
        refine lv (v := (.int .i64 e_33)) rfl rfl (r_ld Try.isAgg3 rfl (h_23.atInt hj_34)) ?_
        refine lv (v := (.int .i64 e_33)) rfl rfl (r_assign rfl) ?_
        refine lnil ?_
        refine wseq ?_
        refine wregion ?_
        refine lv (v := (.slice a_21 next_20.length cap_22)) rfl rfl (r_move rfl) ?_
        obtain ⟨hb_35, hm⟩ := chk_some hm
        have h_38 := h_23.drop (sz := 1) rfl (Int.toNat 1)
        clear h_23
        refine lv (v := .slice (if cap_22 = (Int.toNat 1) then a_21 else a_21.map (·.add ((Int.toNat 1) * 1))) (next_20.length - (Int.toNat 1)) (cap_22 - (Int.toNat 1))) rfl rfl (r_sliceL Try.underlying31 Try.sizeOf3 rfl rfl hb_35.1 hb_35.2) ?_
        generalize (if cap_22 = (Int.toNat 1) then a_21 else a_21.map (·.add ((Int.toNat 1) * 1))) = a_36 at *
        refine .ld (d := 50) (v := (.slice a_36 ((next_20.drop (Int.toNat 1)).length) (cap_22 - (Int.toNat 1)))) (congrArg (fun n => Value.slice a_36 n (cap_22 - (Int.toNat 1))) (List.length_drop (i := (Int.toNat 1)) (l := next_20)).symm) ?_
        refine lv (v := (.slice a_36 ((next_20.drop (Int.toNat 1)).length) (cap_22 - (Int.toNat 1)))) rfl rfl (r_assign rfl) ?_
        refine lnil ?_
        refine wseq ?_
        refine wregion ?_
        refine lv (v := (.slice a1 p1_down.length cap1)) rfl rfl (r_move rfl) ?_
        refine lv (v := (.int .i64 e_33)) rfl rfl (r_move rfl) ?_
        obtain ⟨e_39, hj_40, hm⟩ := bind_some hm
        refine lv (v := (sptr a1 (Int.toNat e_33 * 1))) rfl rfl (r_idx Try.underlying22 Try.sizeOf31 rfl rfl (at?_some hj_40).1 (at?_some hj_40).2.1 (h1.addr hj_40)) ?_
        obtain ⟨_, hr_41, hA_42⟩ := h1.atN hj_40
        obtain ⟨⟨a_43, cap_44, rfl, h_45⟩, _⟩ := hr_41
        refine lv (v := (.slice a_43 e_39.length cap_44)) rfl rfl (r_ld Try.isAgg31 rfl hA_42.one) ?_
        refine lv (v := (.int .i64 (e_39.length : Int))) rfl rfl (r_len Try.underlying31 rfl) ?_
        refine lv (v := (.int .i64 0)) rfl rfl (r_move rfl) ?_
        refine lnil ?_
        refine wblock ?_
        refine wloop (fun n f w_48 => ∃ (col_49 : Col) (a_51 : Option Addr) (cap_52 : Nat) (next_50 : List Int) (k_46 : Nat) (g_54 : Nat) (far_55 : List (Int × Int)) (l_47 : List Int), n = l_47.length ∧ e_39.drop k_46 = l_47 ∧ m_dag_ring_L2 p2_s (m_dag_ring_L1 N p0_parents p1_down p2_s p3_most n_17) e_33 l_47 next_50 far_55 = some r ∧ St w0 (col0 col) col_49 w_48 ∧ Sl (Rep.slice (Rep.int .i64)) col_49 w_48 a0 cap0 p0_parents ∧ Sl (Rep.slice (Rep.int .i64)) col_49 w_48 a1 cap1 p1_down ∧ Que (Rep.int .i64) 3 2 col_49 w_48 a_51 cap_52 next_50 ∧ Sl (Rep.int .i64) col_49 w_48 a_43 cap_44 e_39 ∧ MapO (Value.int .i64) (Value.int .i64) 1 col_49 w_48 g_54 far_55 ∧ f 56 = (.int .i64 (k_46 : Int)) ∧ f 0 = (.slice a0 p0_parents.length cap0) ∧ f 1 = (.slice a1 p1_down.length cap1) ∧ f 10 = (.slice a_51 next_50.length cap_52) ∧ f 11 = (.int .i64 e_33) ∧ f 2 = (.int .i64 p2_s) ∧ f 3 = (.int .i64 p3_most) ∧ f 54 = (.slice a_43 e_39.length cap_44) ∧ f 55 = (.int .i64 (e_39.length : Int)) ∧ f 9 = (.map (some g_54)) ∧ f 1000000 = (enc [])) e_39.length ⟨col_31, a_36, (cap_22 - (Int.toNat 1)), (next_20.drop (Int.toNat 1)), 0, g_24, far_25, e_39, rfl, rfl, hm, hst, h0, h1, h_38, h_45, h_26, rfl, rfl, rfl, rfl, rfl, rfl, rfl, rfl, rfl, rfl, rfl⟩ ?_
        clear hm; intro n f w_48 hI
        obtain ⟨col_49, a_51, cap_52, next_50, k_46, g_54, far_55, l_47, hn, hl, hm, hst, h0, h1, h_53, h_45, h_56, hs56, hs0, hs1, hs10, hs11, hs2, hs3, hs54, hs55, hs9, hs1000000⟩ := hI
        subst hn
        refine .ld (d := 56) (v := (.int .i64 (k_46 : Int))) hs56 ?_
        refine .ld (d := 0) (v := (.slice a0 p0_parents.length cap0)) hs0 ?_
        refine .ld (d := 1) (v := (.slice a1 p1_down.length cap1)) hs1 ?_
        refine .ld (d := 10) (v := (.slice a_51 next_50.length cap_52)) hs10 ?_
        refine .ld (d := 11) (v := (.int .i64 e_33)) hs11 ?_
        refine .ld (d := 2) (v := (.int .i64 p2_s)) hs2 ?_
        refine .ld (d := 3) (v := (.int .i64 p3_most)) hs3 ?_
        refine .ld (d := 54) (v := (.slice a_43 e_39.length cap_44)) hs54 ?_
        refine .ld (d := 55) (v := (.int .i64 (e_39.length : Int))) hs55 ?_
        refine .ld (d := 9) (v := (.map (some g_54))) hs9 ?_
        refine .ld (d := 1000000) (v := (enc [])) hs1000000 ?_
        clear hs56 hs0 hs1 hs10 hs11 hs2 hs3 hs54 hs55 hs9 hs1000000
        cases l_47 with
        | nil =>
          have hk : ¬ ((k_46 : Int) < (e_39.length : Int)) := by have := List.drop_eq_nil_iff.1 hl; omega
          have hkb := decide_eq_false hk
          rw [m_dag_ring_L2.eq_1] at hm
          refine wseq ?_
          refine wregion ?_
          refine lv (v := (.bool (decide ((k_46 : Int) < (e_39.length : Int))))) rfl rfl (r_lss (k_46 : Int) (e_39.length : Int) rfl rfl) ?_
          refine lnil ?_
          refine wseq ?_
          refine wcondF (congrArg Value.bool hkb) ?_
          refine wexit (inB_hit ?_)
          exact ⟨n_17, by omega, ⟨col_49, a_51, cap_52, next_50, g_54, far_55, n_17, rfl, hm, hst, h0, h1, h_53, h_56, rfl, rfl, rfl, rfl, rfl, rfl, rfl⟩⟩
        | cons x_57 l_58 =>
          obtain ⟨hat, hl2, hlt⟩ := drop_get hl
          have hk : (k_46 : Int) < (e_39.length : Int) := by omega
          have hkb := decide_eq_true hk
          rw [m_dag_ring_L2.eq_2] at hm
          refine wseq ?_
          refine wregion ?_
          refine lv (v := (.bool (decide ((k_46 : Int) < (e_39.length : Int))))) rfl rfl (r_lss (k_46 : Int) (e_39.length : Int) rfl rfl) ?_
          refine lnil ?_
          refine wseq ?_
          refine wcondT (congrArg Value.bool hkb) ?_
          refine wskip ?_
          refine wseq ?_
          refine Wp.cut (fun f w_59 => ∃ (col_60 : Col) (a_62 : Option Addr) (cap_63 : Nat) (next_61 : List Int) (g_65 : Nat) (far_66 : List (Int × Int)), m_dag_ring_J2 (m_dag_ring_L2 p2_s (m_dag_ring_L1 N p0_parents p1_down p2_s p3_most n_17) e_33 l_58) next_61 far_66 = some r ∧ St w0 (col0 col) col_60 w_59 ∧ Sl (Rep.slice (Rep.int .i64)) col_60 w_59 a0 cap0 p0_parents ∧ Sl (Rep.slice (Rep.int .i64)) col_60 w_59 a1 cap1 p1_down ∧ Que (Rep.int .i64) 3 2 col_60 w_59 a_62 cap_63 next_61 ∧ Sl (Rep.int .i64) col_60 w_59 a_43 cap_44 e_39 ∧ MapO (Value.int .i64) (Value.int .i64) 1 col_60 w_59 g_65 far_66 ∧ f 0 = (.slice a0 p0_parents.length cap0) ∧ f 1 = (.slice a1 p1_down.length cap1) ∧ f 10 = (.slice a_62 next_61.length cap_63) ∧ f 11 = (.int .i64 e_33) ∧ f 2 = (.int .i64 p2_s) ∧ f 3 = (.int .i64 p3_most) ∧ f 54 = (.slice a_43 e_39.length cap_44) ∧ f 55 = (.int .i64 (e_39.length : Int)) ∧ f 56 = (.int .i64 (k_46 : Int)) ∧ f 9 = (.map (some g_65)) ∧ f 1000000 = (enc [])) ?_ ?_
          · intro f w_59 hJ
            obtain ⟨col_60, a_62, cap_63, next_61, g_65, far_66, hm, hst, h0, h1, h_64, h_45, h_67, hs0, hs1, hs10, hs11, hs2, hs3, hs54, hs55, hs56, hs9, hs1000000⟩ := hJ
            rw [m_dag_ring_J2.eq_1] at hm
            refine .ld (d := 0) (v := (.slice a0 p0_parents.length cap0)) hs0 ?_
            refine .ld (d := 1) (v := (.slice a1 p1_down.length cap1)) hs1 ?_
            refine .ld (d := 10) (v := (.slice a_62 next_61.length cap_63)) hs10 ?_
            refine .ld (d := 11) (v := (.int .i64 e_33)) hs11 ?_
            refine .ld (d := 2) (v := (.int .i64 p2_s)) hs2 ?_
            refine .ld (d := 3) (v := (.int .i64 p3_most)) hs3 ?_
            refine .ld (d := 54) (v := (.slice a_43 e_39.length cap_44)) hs54 ?_
            refine .ld (d := 55) (v := (.int .i64 (e_39.length : Int))) hs55 ?_
            refine .ld (d := 56) (v := (.int .i64 (k_46 : Int))) hs56 ?_
            refine .ld (d := 9) (v := (.map (some g_65))) hs9 ?_
            refine .ld (d := 1000000) (v := (enc [])) hs1000000 ?_
            clear hs0 hs1 hs10 hs11 hs2 hs3 hs54 hs55 hs56 hs9 hs1000000
            refine wregion ?_
            refine lv (v := (.int .i64 (IntKind.i64.wrap ((k_46 : Int) + 1)))) rfl rfl (r_add (k_46 : Int) 1 rfl rfl) ?_
            refine lv (v := (.int .i64 (IntKind.i64.wrap ((k_46 : Int) + 1)))) rfl rfl (r_move rfl) ?_
            refine lnil ?_
            exact ⟨l_58.length, by simp, ⟨col_60, a_62, cap_63, next_61, (k_46 + 1), g_65, far_66, l_58, rfl, hl2, hm, hst, h0, h1, h_64, h_45, h_67, (congrArg (Value.int .i64) (wrap_succ (Nat.lt_of_lt_of_le hlt h_45.1.1))), rfl, rfl, rfl, rfl, rfl, rfl, rfl, rfl, rfl, rfl⟩⟩
          · refine wblock ?_
            refine wseq ?_
            refine wregion ?_
            refine lv (v := (sptr a_43 (Int.toNat (k_46 : Int) * 1))) rfl rfl (r_idx Try.underlying31 Try.sizeOf3 rfl rfl (at?_some hat).1 (at?_some hat).2.1 (h_45.addr hat)) ?_
            refine lv (v := (.int .i64 x_57)) rfl rfl (r_ld Try.isAgg3 rfl (h_45.atInt hat)) ?_
            refine lv (v := (.int .i64 x_57)) rfl rfl (r_assign rfl) ?_
            refine lnil ?_
            refine wseq ?_
            refine wregion ?_
            refine lv (v := (.map (some g_54))) rfl rfl (r_move rfl) ?_
            refine lv (v := (.int .i64 x_57)) rfl rfl (r_move rfl) ?_
            refine lv (v := (.tuple #[(.int .i64 ((mget far_55 x_57).getD 0)), (.bool ((mget far_55 x_57).isSome))])) rfl rfl (r_lookupOk KeyD.int h_56 Try.underlying51 Try.underlying3 Try.zeroValue3 rfl rfl) ?_
            refine lv (v := (.tuple #[(.int .i64 ((mget far_55 x_57).getD 0)), (.bool ((mget far_55 x_57).isSome))])) rfl rfl (r_move rfl) ?_
            refine lv (v := (.int .i64 ((mget far_55 x_57).getD 0))) rfl rfl (r_extract rfl rfl) ?_
            refine lv (v := (.bool ((mget far_55 x_57).isSome))) rfl rfl (r_extract rfl rfl) ?_
            refine lv (v := (.int .i64 ((mget far_55 x_57).getD 0))) rfl rfl (r_assign rfl) ?_
            refine lv (v := (.bool ((mget far_55 x_57).isSome))) rfl rfl (r_assign rfl) ?_
            refine lnil ?_
            refine wseq ?_
            refine Wp.cut (fun f w_69 => ∃ (col_70 : Col) (v_71 : Bool), m_dag_ring_J3 e_33 next_50 far_55 (m_dag_ring_L2 p2_s (m_dag_ring_L1 N p0_parents p1_down p2_s p3_most n_17) e_33 l_58) x_57 v_71 = some r ∧ St w0 (col0 col) col_70 w_69 ∧ Sl (Rep.slice (Rep.int .i64)) col_70 w_69 a0 cap0 p0_parents ∧ Sl (Rep.slice (Rep.int .i64)) col_70 w_69 a1 cap1 p1_down ∧ Que (Rep.int .i64) 3 2 col_70 w_69 a_51 cap_52 next_50 ∧ Sl (Rep.int .i64) col_70 w_69 a_43 cap_44 e_39 ∧ MapO (Value.int .i64) (Value.int .i64) 1 col_70 w_69 g_54 far_55 ∧ f 0 = (.slice a0 p0_parents.length cap0) ∧ f 1 = (.slice a1 p1_down.length cap1) ∧ f 10 = (.slice a_51 next_50.length cap_52) ∧ f 11 = (.int .i64 e_33) ∧ f 13 = (.int .i64 x_57) ∧ f 2 = (.int .i64 p2_s) ∧ f 3 = (.int .i64 p3_most) ∧ f 54 = (.slice a_43 e_39.length cap_44) ∧ f 55 = (.int .i64 (e_39.length : Int)) ∧ f 56 = (.int .i64 (k_46 : Int)) ∧ f 72 = (.bool v_71) ∧ f 9 = (.map (some g_54)) ∧ f 1000000 = (enc [])) ?_ ?_
            · intro f w_69 hJ
              obtain ⟨col_70, v_71, hm, hst, h0, h1, h_53, h_45, h_56, hs0, hs1, hs10, hs11, hs13, hs2, hs3, hs54, hs55, hs56, hs72, hs9, hs1000000⟩ := hJ
              rw [m_dag_ring_J3.eq_1] at hm
              refine .ld (d := 0) (v := (.slice a0 p0_parents.length cap0)) hs0 ?_
              refine .ld (d := 1) (v := (.slice a1 p1_down.length cap1)) hs1 ?_
              refine .ld (d := 10) (v := (.slice a_51 next_50.length cap_52)) hs10 ?_
              refine .ld (d := 11) (v := (.int .i64 e_33)) hs11 ?_
              refine .ld (d := 13) (v := (.int .i64 x_57)) hs13 ?_
              refine .ld (d := 2) (v := (.int .i64 p2_s)) hs2 ?_
              refine .ld (d := 3) (v := (.int .i64 p3_most)) hs3 ?_
              refine .ld (d := 54) (v := (.slice a_43 e_39.length cap_44)) hs54 ?_
              refine .ld (d := 55) (v := (.int .i64 (e_39.length : Int))) hs55 ?_
              refine .ld (d := 56) (v := (.int .i64 (k_46 : Int))) hs56 ?_
              refine .ld (d := 72) (v := (.bool v_71)) hs72 ?_
              refine .ld (d := 9) (v := (.map (some g_54))) hs9 ?_
              refine .ld (d := 1000000) (v := (enc [])) hs1000000 ?_
              clear hs0 hs1 hs10 hs11 hs13 hs2 hs3 hs54 hs55 hs56 hs72 hs9 hs1000000
              refine wcond (v_71) rfl (fun hb => ?_) (fun hb => ?_)
              · rw [if_pos hb] at hm
                clear hb
                refine wseq ?_
                refine wregion ?_
                refine lv (v := (.map (some g_54))) rfl rfl (r_move rfl) ?_
                refine lv (v := (.int .i64 x_57)) rfl rfl (r_move rfl) ?_
                refine lv (v := (.map (some g_54))) rfl rfl (r_move rfl) ?_
                refine lv (v := (.int .i64 e_33)) rfl rfl (r_move rfl) ?_
                refine lv (v := (.int .i64 ((mget far_55 e_33).getD 0))) rfl rfl (r_lookup KeyD.int h_56 Try.underlying51 Try.underlying3 Try.zeroValue3 rfl rfl) ?_
                refine lv (v := (.int .i64 (IntKind.i64.wrap (((mget far_55 e_33).getD 0) + 1)))) rfl rfl (r_add ((mget far_55 e_33).getD 0) 1 rfl rfl) ?_
                obtain ⟨es_76, hz_77, hm⟩ := bind_some hm
                have hz_77 : es_76 = mput far_55 x_57 (IntKind.i64.wrap (((mget far_55 e_33).getD 0) + 1)) := (Option.some.inj hz_77).symm
                refine l_mapUpdate (k := x_57) (v := (IntKind.i64.wrap (((mget far_55 e_33).getD 0) + 1))) KeyD.int h_56 Try.underlying51 Try.underlying3 rfl rfl rfl ?_
                intro w_72 hk_73 hs_74 h_75
                rw [← hz_77] at h_75
                clear hz_77
                replace h0 := h0.kp hk_73 (by decide)
                replace h1 := h1.kp hk_73 (by decide)
                replace h_53 := h_53.kp hk_73 (by decide) (by decide)
                replace h_45 := h_45.kp hk_73 (by decide)
                replace hst := hst.kp hk_73 hs_74 (by decide) (by decide)
                clear h_56
                refine lnil ?_
                refine wregion ?_
                refine lv (v := (.slice a_51 next_50.length cap_52)) rfl rfl (r_move rfl) ?_
                refine lv (v := (.int .i64 x_57)) rfl rfl (r_move rfl) ?_
                refine l_lit (col := col_70) (r := (Rep.int .i64)) (xs := [x_57]) [(.int .i64 x_57)] 3 rfl Try.underlying31 el3_30 rfl rfl rfl rfl rfl rfl (by intro v hv; simp only [List.mem_cons, List.not_mem_nil, or_false] at hv; subst hv; rfl) (RowsH.ofF (Rows.consF (r := (Rep.int .i64)) (x := x_57) (cs := [(.int .i64 x_57)]) (rd_int .i64 x_57) Rows.nil0)) ?_
                intro a_78 w_79 col_80 hg_81 h_82
                replace h0 := h0.gr hg_81
                replace h1 := h1.gr hg_81
                replace h_45 := h_45.gr hg_81
                replace h_75 := h_75.gr hg_81
                replace h_53 := h_53.gr hg_81
                replace hst := hst.grow hg_81
                obtain ⟨hb_83, hm⟩ := chk_some hm
                refine l_appendQ (col := col_80) (w := w_79) (r := (Rep.int .i64)) (c := 2) (c2 := 2) (xs := next_50) (ys := [x_57]) h_53 (NB.int (k := .i64)) (h_82.srcN (NB.int (k := .i64))) rfl Try.underlying31 el3_30 rfl rfl rfl hb_83.1 hb_83.2 (by decide) ?_
                intro a_84 cap_85 w_86 col_87 hk_88 h_89
                replace h0 := h0.kpp hk_88 rfl
                replace h1 := h1.kpp hk_88 rfl
                replace h_45 := h_45.kpp hk_88 rfl
                replace h_75 := h_75.kpp hk_88 rfl
                replace h_82 := h_82.kpp hk_88 rfl rfl
                replace hst := hst.kpp hk_88 rfl rfl
                clear h_53
                refine lv (v := (.slice a_84 ((next_50 ++ [x_57]).length) cap_85)) rfl rfl (r_assign rfl) ?_
                refine lnil ?_
                exact ⟨col_87, a_84, cap_85, (next_50 ++ [x_57]), g_54, es_76, hm, hst, h0, h1, h_89, h_45, h_75, rfl, rfl, rfl, rfl, rfl, rfl, rfl, rfl, rfl, rfl, rfl⟩
              · rw [if_neg (by rw [hb]; decide)] at hm
                clear hb
                refine wskip ?_
                exact ⟨col_70, a_51, cap_52, next_50, g_54, far_55, hm, hst, h0, h1, h_53, h_45, h_56, rfl, rfl, rfl, rfl, rfl, rfl, rfl, rfl, rfl, rfl, rfl⟩
            · refine wregion ?_
              refine lv (v := (.bool ((mget far_55 x_57).isSome))) rfl rfl (r_move rfl) ?_
              refine lv (v := (.bool (!((mget far_55 x_57).isSome)))) rfl rfl (r_not ((mget far_55 x_57).isSome) rfl) ?_
              refine lv (v := (.bool (!((mget far_55 x_57).isSome)))) rfl rfl (r_move rfl) ?_
              by_cases hg_90 : (!((mget far_55 x_57).isSome)) = true
              · rw [if_pos hg_90] at hm
                refine lg (b := !((mget far_55 x_57).isSome)) 68 rfl rfl rfl (by rw [hg_90]; rfl) ?_
                refine lv (v := (.int .i64 x_57)) rfl rfl (r_move rfl) ?_
                refine lg (b := !((mget far_55 x_57).isSome)) 68 rfl rfl rfl (by rw [hg_90]; rfl) ?_
                refine lv (v := (.int .i64 p2_s)) rfl rfl (r_move rfl) ?_
                refine lg (b := !((mget far_55 x_57).isSome)) 68 rfl rfl rfl (by rw [hg_90]; rfl) ?_
                refine lv (v := (.bool (decide (p2_s < x_57)))) rfl rfl (r_gtr x_57 p2_s rfl rfl) ?_
                refine lv (v := (.bool (decide (p2_s < x_57)))) rfl rfl (r_pickT (congrArg Value.bool hg_90) rfl) ?_
                refine lnil ?_
                exact ⟨col_49, (decide (p2_s < x_57)), hm, hst, h0, h1, h_53, h_45, h_56, rfl, rfl, rfl, rfl, rfl, rfl, rfl, rfl, rfl, rfl, rfl, rfl, rfl⟩
              · rw [if_neg hg_90] at hm
                replace hg_90 := Bool.eq_false_iff.2 hg_90
                refine lp (b := !((mget far_55 x_57).isSome)) 68 rfl rfl rfl rfl (by rw [hg_90]; rfl) ?_
                refine lp (b := !((mget far_55 x_57).isSome)) 68 rfl rfl rfl rfl (by rw [hg_90]; rfl) ?_
                refine lp (b := !((mget far_55 x_57).isSome)) 68 rfl rfl rfl rfl (by rw [hg_90]; rfl) ?_
                refine lv (v := (.bool false)) rfl rfl (r_pickF (congrArg Value.bool hg_90) rfl) ?_
                refine lnil ?_
                exact ⟨col_49, false, hm, hst, h0, h1, h_53, h_45, h_56, rfl, rfl, rfl, rfl, rfl, rfl, rfl, rfl, rfl, rfl, rfl, rfl, rfl⟩
      · rw [if_neg (by rw [hb]; decide)] at hm
        clear hb
        refine wexit (inB_hit ?_)
        refine wseq ?_
        refine wregion ?_
        refine lv (v := (.int .i64 p3_most)) rfl rfl (r_move rfl) ?_
        refine lv (v := (.int .i64 p3_most)) rfl rfl (r_assign rfl) ?_
        refine lnil ?_
        refine wseq ?_
        refine wseq ?_
        refine wregion ?_
        refine lv (v := (.slice a0 p0_parents.length cap0)) rfl rfl (r_move rfl) ?_
        refine lv (v := (.int .i64 p2_s)) rfl rfl (r_move rfl) ?_
        obtain ⟨e_91, hj_92, hm⟩ := bind_some hm
        refine lv (v := (sptr a0 (Int.toNat p2_s * 1))) rfl rfl (r_idx Try.underlying22 Try.sizeOf31 rfl rfl (at?_some hj_92).1 (at?_some hj_92).2.1 (h0.addr hj_92)) ?_
        obtain ⟨_, hr_93, hA_94⟩ := h0.atN hj_92
        obtain ⟨⟨a_95, cap_96, rfl, h_97⟩, _⟩ := hr_93
        refine lv (v := (.slice a_95 e_91.length cap_96)) rfl rfl (r_ld Try.isAgg31 rfl hA_94.one) ?_
        refine lv (v := (.int .i64 (e_91.length : Int))) rfl rfl (r_len Try.underlying31 rfl) ?_
        refine lv (v := (.int .i64 0)) rfl rfl (r_move rfl) ?_
        refine lnil ?_
        refine wblock ?_
        refine wloop (fun n f w_100 => ∃ (col_101 : Col) (best_102 : Int) (k_98 : Nat) (l_99 : List Int), n = l_99.length ∧ e_91.drop k_98 = l_99 ∧ m_dag_ring_L3 N p0_parents p2_s p3_most far_25 l_99 best_102 = some r ∧ St w0 (col0 col) col_101 w_100 ∧ Sl (Rep.slice (Rep.int .i64)) col_101 w_100 a0 cap0 p0_parents ∧ Sl (Rep.int .i64) col_101 w_100 a_95 cap_96 e_91 ∧ MapO (Value.int .i64) (Value.int .i64) 1 col_101 w_100 g_24 far_25 ∧ f 90 = (.int .i64 (k_98 : Int)) ∧ f 0 = (.slice a0 p0_parents.length cap0) ∧ f 16 = (.int .i64 best_102) ∧ f 2 = (.int .i64 p2_s) ∧ f 3 = (.int .i64 p3_most) ∧ f 88 = (.slice a_95 e_91.length cap_96) ∧ f 89 = (.int .i64 (e_91.length : Int)) ∧ f 9 = (.map (some g_24)) ∧ f 1000000 = (enc [])) e_91.length ⟨col_31, p3_most, 0, e_91, rfl, rfl, hm, hst, h0, h_97, h_26, rfl, rfl, rfl, rfl, rfl, rfl, rfl, rfl, rfl⟩ ?_
        clear hm; intro n f w_100 hI
        obtain ⟨col_101, best_102, k_98, l_99, hn, hl, hm, hst, h0, h_97, h_26, hs90, hs0, hs16, hs2, hs3, hs88, hs89, hs9, hs1000000⟩ := hI
        subst hn
        refine .ld (d := 90) (v := (.int .i64 (k_98 : Int))) hs90 ?_
        refine .ld (d := 0) (v := (.slice a0 p0_parents.length cap0)) hs0 ?_
        refine .ld (d := 16) (v := (.int .i64 best_102)) hs16 ?_
        refine .ld (d := 2) (v := (.int .i64 p2_s)) hs2 ?_
        refine .ld (d := 3) (v := (.int .i64 p3_most)) hs3 ?_
        refine .ld (d := 88) (v := (.slice a_95 e_91.length cap_96)) hs88 ?_
        refine .ld (d := 89) (v := (.int .i64 (e_91.length : Int))) hs89 ?_
        refine .ld (d := 9) (v := (.map (some g_24))) hs9 ?_
        refine .ld (d := 1000000) (v := (enc [])) hs1000000 ?_
        clear hs90 hs0 hs16 hs2 hs3 hs88 hs89 hs9 hs1000000
        cases l_99 with
        | nil =>
          have hk : ¬ ((k_98 : Int) < (e_91.length : Int)) := by have := List.drop_eq_nil_iff.1 hl; omega
          have hkb := decide_eq_false hk
          rw [m_dag_ring_L3.eq_1] at hm
          refine wseq ?_
          refine wregion ?_
          refine lv (v := (.bool (decide ((k_98 : Int) < (e_91.length : Int))))) rfl rfl (r_lss (k_98 : Int) (e_91.length : Int) rfl rfl) ?_
          refine lnil ?_
          refine wseq ?_
          refine wcondF (congrArg Value.bool hkb) ?_
          refine wexit (inB_hit ?_)
          refine wseq ?_
          refine wseq ?_
          refine wregion ?_
          refine lv (v := (.int .i64 best_102)) rfl rfl (r_move rfl) ?_
          refine lv (v := (.int .i64 p3_most)) rfl rfl (r_move rfl) ?_
          refine lv (v := (.bool (decide (best_102 = p3_most)))) rfl rfl (r_eql best_102 p3_most rfl rfl) ?_
          refine lnil ?_
          refine wcond (decide (best_102 = p3_most)) rfl (fun hb => ?_) (fun hb => ?_)
          · rw [if_pos hb] at hm
            clear hb
            refine wseq ?_
            refine wregion ?_
            refine lv (v := (.slice none (([] : List Int).length) 0)) rfl rfl (r_assign rfl) ?_
            refine lnil ?_
            refine wret ?_
            cases hm
            exact ⟨rfl, colF w0.heap.size col col_101 (fun n => 0), none, 0, rfl, hst.fin (fun n => 0), Own.nil, (fun _ => rfl)⟩
          · rw [if_neg (by rw [hb]; decide)] at hm
            clear hb
            refine wskip ?_
            refine wseq ?_
            refine wregion ?_
            refine lv (v := (.int .i64 p2_s)) rfl rfl (r_move rfl) ?_
            refine l_lit (col := col_101) (r := (Rep.int .i64)) (xs := [p2_s]) [(.int .i64 p2_s)] 4 rfl Try.underlying31 el3_30 rfl rfl rfl rfl rfl rfl (by intro v hv; simp only [List.mem_cons, List.not_mem_nil, or_false] at hv; subst hv; rfl) (RowsH.ofF (Rows.consF (r := (Rep.int .i64)) (x := p2_s) (cs := [(.int .i64 p2_s)]) (rd_int .i64 p2_s) Rows.nil0)) ?_
            intro a_105 w_106 col_107 hg_108 h_109
            replace h0 := h0.gr hg_108
            replace h_26 := h_26.gr hg_108
            replace hst := hst.grow hg_108
            refine lv (v := (.slice a_105 ([p2_s].length) 1)) rfl rfl (r_assign rfl) ?_
            refine lnil ?_
            refine wseq ?_
            refine wseq ?_
            refine wregion ?_
            refine lv (v := (.int .i64 p2_s)) rfl rfl (r_move rfl) ?_
            refine lv (v := (.int .i64 p2_s)) rfl rfl (r_assign rfl) ?_
            refine lnil ?_
            refine wblock ?_
            refine wloop (fun n f w_111 => ∃ (col_112 : Col) (a_114 : Option Addr) (cap_115 : Nat) (out_113 : List Int) (v_117 : Int) (n_110 : Nat), n_110 = n ∧ m_dag_ring_L4 N p0_parents far_25 best_102 n_110 out_113 v_117 = some r ∧ St w0 (col0 col) col_112 w_111 ∧ Sl (Rep.slice (Rep.int .i64)) col_112 w_111 a0 cap0 p0_parents ∧ Own (Rep.int .i64) 3 4 col_112 w_111 a_114 cap_115 out_113 ∧ MapO (Value.int .i64) (Value.int .i64) 1 col_112 w_111 g_24 far_25 ∧ f 0 = (.slice a0 p0_parents.length cap0) ∧ f 16 = (.int .i64 best_102) ∧ f 21 = (.slice a_114 out_113.length cap_115) ∧ f 22 = (.int .i64 v_117) ∧ f 9 = (.map (some g_24)) ∧ f 1000000 = (enc [])) N ⟨col_107, a_105, 1, [p2_s], p2_s, N, rfl, hm, hst, h0, h_109, h_26, rfl, rfl, rfl, rfl, rfl, rfl⟩ ?_
            clear hm; intro n f w_111 hI
            obtain ⟨col_112, a_114, cap_115, out_113, v_117, n_110, hn, hm, hst, h0, h_116, h_26, hs0, hs16, hs21, hs22, hs9, hs1000000⟩ := hI
            subst hn
            refine .ld (d := 0) (v := (.slice a0 p0_parents.length cap0)) hs0 ?_
            refine .ld (d := 16) (v := (.int .i64 best_102)) hs16 ?_
            refine .ld (d := 21) (v := (.slice a_114 out_113.length cap_115)) hs21 ?_
            refine .ld (d := 22) (v := (.int .i64 v_117)) hs22 ?_
            refine .ld (d := 9) (v := (.map (some g_24))) hs9 ?_
            refine .ld (d := 1000000) (v := (enc [])) hs1000000 ?_
            clear hs0 hs16 hs21 hs22 hs9 hs1000000
            cases n_110 with
            | zero => rw [m_dag_ring_L4.eq_1] at hm; cases hm
            | succ n_110 =>
              rw [m_dag_ring_L4.eq_2] at hm
              refine wseq ?_
              refine wseq ?_
              refine wregion ?_
              refine lv (v := (.slice a_114 out_113.length cap_115)) rfl rfl (r_move rfl) ?_
              refine lv (v := (.int .i64 (out_113.length : Int))) rfl rfl (r_len Try.underlying31 rfl) ?_
              refine lv (v := (.int .i64 best_102)) rfl rfl (r_move rfl) ?_
              refine lv (v := (.bool (decide ((out_113.length : Int) < best_102)))) rfl rfl (r_lss (out_113.length : Int) best_102 rfl rfl) ?_
              refine lnil ?_
              refine wcond (decide ((out_113.length : Int) < best_102)) rfl (fun hb => ?_) (fun hb => ?_)
              · rw [if_pos hb] at hm
                clear hb
                refine wskip ?_
                refine wblock ?_
                refine wseq ?_
                refine wregion ?_
                refine lv (v := (.int .i64 (-1))) rfl rfl (r_assign rfl) ?_
                refine lnil ?_
                refine wseq ?_
                refine wseq ?_
                refine wregion ?_
                refine lv (v := (.slice a0 p0_parents.length cap0)) rfl rfl (r_move rfl) ?_
                refine lv (v := (.int .i64 v_117)) rfl rfl (r_move rfl) ?_
                obtain ⟨e_118, hj_119, hm⟩ := bind_some hm
                refine lv (v := (sptr a0 (Int.toNat v_117 * 1))) rfl rfl (r_idx Try.underlying22 Try.sizeOf31 rfl rfl (at?_some hj_119).1 (at?_some hj_119).2.1 (h0.addr hj_119)) ?_
                obtain ⟨_, hr_120, hA_121⟩ := h0.atN hj_119
                obtain ⟨⟨a_122, cap_123, rfl, h_124⟩, _⟩ := hr_120
                refine lv (v := (.slice a_122 e_118.length cap_123)) rfl rfl (r_ld Try.isAgg31 rfl hA_121.one) ?_
                refine lv (v := (.int .i64 (e_118.length : Int))) rfl rfl (r_len Try.underlying31 rfl) ?_
                refine lv (v := (.int .i64 0)) rfl rfl (r_move rfl) ?_
                refine lnil ?_
                refine wblock ?_
                refine wloop (fun n f w_127 => ∃ (col_128 : Col) (k_125 : Nat) (least_129 : Int) (l_126 : List Int), n = l_126.length ∧ e_118.drop k_125 = l_126 ∧ m_dag_ring_L5 far_25 best_102 out_113 (m_dag_ring_L4 N p0_parents far_25 best_102 n_110) l_126 least_129 = some r ∧ St w0 (col0 col) col_128 w_127 ∧ Sl (Rep.slice (Rep.int .i64)) col_128 w_127 a0 cap0 p0_parents ∧ Sl (Rep.int .i64) col_128 w_127 a_122 cap_123 e_118 ∧ Own (Rep.int .i64) 3 4 col_128 w_127 a_114 cap_115 out_113 ∧ MapO (Value.int .i64) (Value.int .i64) 1 col_128 w_127 g_24 far_25 ∧ f 121 = (.int .i64 (k_125 : Int)) ∧ f 0 = (.slice a0 p0_parents.length cap0) ∧ f 119 = (.slice a_122 e_118.length cap_123) ∧ f 120 = (.int .i64 (e_118.length : Int)) ∧ f 16 = (.int .i64 best_102) ∧ f 21 = (.slice a_114 out_113.length cap_115) ∧ f 23 = (.int .i64 least_129) ∧ f 9 = (.map (some g_24)) ∧ f 1000000 = (enc [])) e_118.length ⟨col_112, 0, (-1), e_118, rfl, rfl, hm, hst, h0, h_124, h_116, h_26, rfl, rfl, rfl, rfl, rfl, rfl, rfl, rfl, rfl⟩ ?_
                clear hm; intro n f w_127 hI
                obtain ⟨col_128, k_125, least_129, l_126, hn, hl, hm, hst, h0, h_124, h_116, h_26, hs121, hs0, hs119, hs120, hs16, hs21, hs23, hs9, hs1000000⟩ := hI
                subst hn
                refine .ld (d := 121) (v := (.int .i64 (k_125 : Int))) hs121 ?_
                refine .ld (d := 0) (v := (.slice a0 p0_parents.length cap0)) hs0 ?_
                refine .ld (d := 119) (v := (.slice a_122 e_118.length cap_123)) hs119 ?_
                refine .ld (d := 120) (v := (.int .i64 (e_118.length : Int))) hs120 ?_
                refine .ld (d := 16) (v := (.int .i64 best_102)) hs16 ?_
                refine .ld (d := 21) (v := (.slice a_114 out_113.length cap_115)) hs21 ?_
                refine .ld (d := 23) (v := (.int .i64 least_129)) hs23 ?_
                refine .ld (d := 9) (v := (.map (some g_24))) hs9 ?_
                refine .ld (d := 1000000) (v := (enc [])) hs1000000 ?_
                clear hs121 hs0 hs119 hs120 hs16 hs21 hs23 hs9 hs1000000
                cases l_126 with
                | nil =>
                  have hk : ¬ ((k_125 : Int) < (e_118.length : Int)) := by have := List.drop_eq_nil_iff.1 hl; omega
                  have hkb := decide_eq_false hk
                  rw [m_dag_ring_L5.eq_1] at hm
                  refine wseq ?_
                  refine wregion ?_
                  refine lv (v := (.bool (decide ((k_125 : Int) < (e_118.length : Int))))) rfl rfl (r_lss (k_125 : Int) (e_118.length : Int) rfl rfl) ?_
                  refine lnil ?_
                  refine wseq ?_
                  refine wcondF (congrArg Value.bool hkb) ?_
                  refine wexit (inB_hit ?_)
                  refine wseq ?_
                  refine wregion ?_
                  refine lv (v := (.int .i64 least_129)) rfl rfl (r_move rfl) ?_
                  refine lv (v := (.int .i64 least_129)) rfl rfl (r_assign rfl) ?_
                  refine lnil ?_
                  refine wregion ?_
                  refine lv (v := (.slice a_114 out_113.length cap_115)) rfl rfl (r_move rfl) ?_
                  refine lv (v := (.int .i64 least_129)) rfl rfl (r_move rfl) ?_
                  refine l_lit (col := col_128) (r := (Rep.int .i64)) (xs := [least_129]) [(.int .i64 least_129)] 5 rfl Try.underlying31 el3_30 rfl rfl rfl rfl rfl rfl (by intro v hv; simp only [List.mem_cons, List.not_mem_nil, or_false] at hv; subst hv; rfl) (RowsH.ofF (Rows.consF (r := (Rep.int .i64)) (x := least_129) (cs := [(.int .i64 least_129)]) (rd_int .i64 least_129) Rows.nil0)) ?_
                  intro a_132 w_133 col_134 hg_135 h_136
                  replace h0 := h0.gr hg_135
                  replace h_26 := h_26.gr hg_135
                  replace h_116 := h_116.gr hg_135
                  replace hst := hst.grow hg_135
                  obtain ⟨hb_137, hm⟩ := chk_some hm
                  refine l_appendM (col := col_134) (w := w_133) (r := (Rep.int .i64)) (c := 4) (c2 := 4) (xs := out_113) (ys := [least_129]) h_116 (h_136.srcN (NB.int (k := .i64))) rfl Try.underlying31 el3_30 rfl rfl rfl hb_137.1 hb_137.2 (by decide) ?_
                  intro a_138 cap_139 w_140 col_141 hk_142 h_143
                  replace h0 := h0.kpp hk_142 rfl
                  replace h_26 := h_26.kpp hk_142 rfl
                  replace h_136 := h_136.kpp hk_142 rfl rfl
                  replace hst := hst.kpp hk_142 rfl rfl
                  clear h_116
                  refine lv (v := (.slice a_138 ((out_113 ++ [least_129]).length) cap_139)) rfl rfl (r_assign rfl) ?_
                  refine lnil ?_
                  exact ⟨n_110, by omega, ⟨col_141, a_138, cap_139, (out_113 ++ [least_129]), least_129, n_110, rfl, hm, hst, h0, h_143, h_26, rfl, rfl, rfl, rfl, rfl, rfl⟩⟩
                | cons x_130 l_131 =>
                  obtain ⟨hat, hl2, hlt⟩ := drop_get hl
                  have hk : (k_125 : Int) < (e_118.length : Int) := by omega
                  have hkb := decide_eq_true hk
                  rw [m_dag_ring_L5.eq_2] at hm
                  refine wseq ?_
                  refine wregion ?_
                  refine lv (v := (.bool (decide ((k_125 : Int) < (e_118.length : Int))))) rfl rfl (r_lss (k_125 : Int) (e_118.length : Int) rfl rfl) ?_
                  refine lnil ?_
                  refine wseq ?_
                  refine wcondT (congrArg Value.bool hkb) ?_
                  refine wskip ?_
                  refine wseq ?_
                  refine Wp.cut (fun f w_144 => ∃ (col_145 : Col) (least_146 : Int), m_dag_ring_J4 (m_dag_ring_L5 far_25 best_102 out_113 (m_dag_ring_L4 N p0_parents far_25 best_102 n_110) l_131) least_146 = some r ∧ St w0 (col0 col) col_145 w_144 ∧ Sl (Rep.slice (Rep.int .i64)) col_145 w_144 a0 cap0 p0_parents ∧ Sl (Rep.int .i64) col_145 w_144 a_122 cap_123 e_118 ∧ Own (Rep.int .i64) 3 4 col_145 w_144 a_114 cap_115 out_113 ∧ MapO (Value.int .i64) (Value.int .i64) 1 col_145 w_144 g_24 far_25 ∧ f 0 = (.slice a0 p0_parents.length cap0) ∧ f 119 = (.slice a_122 e_118.length cap_123) ∧ f 120 = (.int .i64 (e_118.length : Int)) ∧ f 121 = (.int .i64 (k_125 : Int)) ∧ f 16 = (.int .i64 best_102) ∧ f 21 = (.slice a_114 out_113.length cap_115) ∧ f 23 = (.int .i64 least_146) ∧ f 9 = (.map (some g_24)) ∧ f 1000000 = (enc [])) ?_ ?_
                  · intro f w_144 hJ
                    obtain ⟨col_145, least_146, hm, hst, h0, h_124, h_116, h_26, hs0, hs119, hs120, hs121, hs16, hs21, hs23, hs9, hs1000000⟩ := hJ
                    rw [m_dag_ring_J4.eq_1] at hm
                    refine .ld (d := 0) (v := (.slice a0 p0_parents.length cap0)) hs0 ?_
                    refine .ld (d := 119) (v := (.slice a_122 e_118.length cap_123)) hs119 ?_
                    refine .ld (d := 120) (v := (.int .i64 (e_118.length : Int))) hs120 ?_
                    refine .ld (d := 121) (v := (.int .i64 (k_125 : Int))) hs121 ?_
                    refine .ld (d := 16) (v := (.int .i64 best_102)) hs16 ?_
                    refine .ld (d := 21) (v := (.slice a_114 out_113.length cap_115)) hs21 ?_
                    refine .ld (d := 23) (v := (.int .i64 least_146)) hs23 ?_
                    refine .ld (d := 9) (v := (.map (some g_24))) hs9 ?_
                    refine .ld (d := 1000000) (v := (enc [])) hs1000000 ?_
                    clear hs0 hs119 hs120 hs121 hs16 hs21 hs23 hs9 hs1000000
                    refine wregion ?_
                    refine lv (v := (.int .i64 (IntKind.i64.wrap ((k_125 : Int) + 1)))) rfl rfl (r_add (k_125 : Int) 1 rfl rfl) ?_
                    refine lv (v := (.int .i64 (IntKind.i64.wrap ((k_125 : Int) + 1)))) rfl rfl (r_move rfl) ?_
                    refine lnil ?_
                    exact ⟨l_131.length, by simp, ⟨col_145, (k_125 + 1), least_146, l_131, rfl, hl2, hm, hst, h0, h_124, h_116, h_26, (congrArg (Value.int .i64) (wrap_succ (Nat.lt_of_lt_of_le hlt h_124.1.1))), rfl, rfl, rfl, rfl, rfl, rfl, rfl, rfl⟩⟩
                  · refine wblock ?_
                    refine wseq ?_
                    refine wregion ?_
                    refine lv (v := (sptr a_122 (Int.toNat (k_125 : Int) * 1))) rfl rfl (r_idx Try.underlying31 Try.sizeOf3 rfl rfl (at?_some hat).1 (at?_some hat).2.1 (h_124.addr hat)) ?_
                    refine lv (v := (.int .i64 x_130)) rfl rfl (r_ld Try.isAgg3 rfl (h_124.atInt hat)) ?_
                    refine lv (v := (.int .i64 x_130)) rfl rfl (r_assign rfl) ?_
                    refine lnil ?_
                    refine wseq ?_
                    refine wregion ?_
                    refine lv (v := (.map (some g_24))) rfl rfl (r_move rfl) ?_
                    refine lv (v := (.int .i64 x_130)) rfl rfl (r_move rfl) ?_
                    refine lv (v := (.tuple #[(.int .i64 ((mget far_25 x_130).getD 0)), (.bool ((mget far_25 x_130).isSome))])) rfl rfl (r_lookupOk KeyD.int h_26 Try.underlying51 Try.underlying3 Try.zeroValue3 rfl rfl) ?_
                    refine lv (v := (.tuple #[(.int .i64 ((mget far_25 x_130).getD 0)), (.bool ((mget far_25 x_130).isSome))])) rfl rfl (r_move rfl) ?_
                    refine lv (v := (.int .i64 ((mget far_25 x_130).getD 0))) rfl rfl (r_extract rfl rfl) ?_
                    refine lv (v := (.bool ((mget far_25 x_130).isSome))) rfl rfl (r_extract rfl rfl) ?_
                    refine lv (v := (.int .i64 ((mget far_25 x_130).getD 0))) rfl rfl (r_assign rfl) ?_
                    refine lv (v := (.bool ((mget far_25 x_130).isSome))) rfl rfl (r_assign rfl) ?_
                    refine lnil ?_
                    refine wseq ?_
                    refine Wp.cut (fun f w_150 => ∃ (col_151 : Col) (v_152 : Bool), m_dag_ring_J5 least_129 (m_dag_ring_L5 far_25 best_102 out_113 (m_dag_ring_L4 N p0_parents far_25 best_102 n_110) l_131) x_130 v_152 = some r ∧ St w0 (col0 col) col_151 w_150 ∧ Sl (Rep.slice (Rep.int .i64)) col_151 w_150 a0 cap0 p0_parents ∧ Sl (Rep.int .i64) col_151 w_150 a_122 cap_123 e_118 ∧ Own (Rep.int .i64) 3 4 col_151 w_150 a_114 cap_115 out_113 ∧ MapO (Value.int .i64) (Value.int .i64) 1 col_151 w_150 g_24 far_25 ∧ f 0 = (.slice a0 p0_parents.length cap0) ∧ f 119 = (.slice a_122 e_118.length cap_123) ∧ f 120 = (.int .i64 (e_118.length : Int)) ∧ f 121 = (.int .i64 (k_125 : Int)) ∧ f 148 = (.bool v_152) ∧ f 16 = (.int .i64 best_102) ∧ f 21 = (.slice a_114 out_113.length cap_115) ∧ f 23 = (.int .i64 least_129) ∧ f 25 = (.int .i64 x_130) ∧ f 9 = (.map (some g_24)) ∧ f 1000000 = (enc [])) ?_ ?_
                    · intro f w_150 hJ
                      obtain ⟨col_151, v_152, hm, hst, h0, h_124, h_116, h_26, hs0, hs119, hs120, hs121, hs148, hs16, hs21, hs23, hs25, hs9, hs1000000⟩ := hJ
                      rw [m_dag_ring_J5.eq_1] at hm
                      refine .ld (d := 0) (v := (.slice a0 p0_parents.length cap0)) hs0 ?_
                      refine .ld (d := 119) (v := (.slice a_122 e_118.length cap_123)) hs119 ?_
                      refine .ld (d := 120) (v := (.int .i64 (e_118.length : Int))) hs120 ?_
                      refine .ld (d := 121) (v := (.int .i64 (k_125 : Int))) hs121 ?_
                      refine .ld (d := 148) (v := (.bool v_152)) hs148 ?_
                      refine .ld (d := 16) (v := (.int .i64 best_102)) hs16 ?_
                      refine .ld (d := 21) (v := (.slice a_114 out_113.length cap_115)) hs21 ?_
                      refine .ld (d := 23) (v := (.int .i64 least_129)) hs23 ?_
                      refine .ld (d := 25) (v := (.int .i64 x_130)) hs25 ?_
                      refine .ld (d := 9) (v := (.map (some g_24))) hs9 ?_
                      refine .ld (d := 1000000) (v := (enc [])) hs1000000 ?_
                      clear hs0 hs119 hs120 hs121 hs148 hs16 hs21 hs23 hs25 hs9 hs1000000
                      refine wcond (v_152) rfl (fun hb => ?_) (fun hb => ?_)
                      · rw [if_pos hb] at hm
                        clear hb
                        refine wregion ?_
                        refine lv (v := (.int .i64 x_130)) rfl rfl (r_move rfl) ?_
                        refine lv (v := (.int .i64 x_130)) rfl rfl (r_assign rfl) ?_
                        refine lnil ?_
                        exact ⟨col_151, x_130, hm, hst, h0, h_124, h_116, h_26, rfl, rfl, rfl, rfl, rfl, rfl, rfl, rfl, rfl⟩
                      · rw [if_neg (by rw [hb]; decide)] at hm
                        clear hb
                        refine wskip ?_
                        exact ⟨col_151, least_129, hm, hst, h0, h_124, h_116, h_26, rfl, rfl, rfl, rfl, rfl, rfl, rfl, rfl, rfl⟩
                    · refine wregion ?_
                      refine lv (v := (.bool ((mget far_25 x_130).isSome))) rfl rfl (r_move rfl) ?_
                      refine lv (v := (.bool ((mget far_25 x_130).isSome))) rfl rfl (r_move rfl) ?_
                      by_cases hg_153 : ((mget far_25 x_130).isSome) = true
                      · rw [if_pos hg_153] at hm
                        refine lg (b := (mget far_25 x_130).isSome) 132 rfl rfl rfl (by rw [hg_153]; rfl) ?_
                        refine lv (v := (.int .i64 ((mget far_25 x_130).getD 0))) rfl rfl (r_move rfl) ?_
                        refine lg (b := (mget far_25 x_130).isSome) 132 rfl rfl rfl (by rw [hg_153]; rfl) ?_
                        refine lv (v := (.int .i64 best_102)) rfl rfl (r_move rfl) ?_
                        refine lg (b := (mget far_25 x_130).isSome) 132 rfl rfl rfl (by rw [hg_153]; rfl) ?_
                        refine lv (v := (.slice a_114 out_113.length cap_115)) rfl rfl (r_move rfl) ?_
                        refine lg (b := (mget far_25 x_130).isSome) 132 rfl rfl rfl (by rw [hg_153]; rfl) ?_
                        refine lv (v := (.int .i64 (out_113.length : Int))) rfl rfl (r_len Try.underlying31 rfl) ?_
                        refine lg (b := (mget far_25 x_130).isSome) 132 rfl rfl rfl (by rw [hg_153]; rfl) ?_
                        refine lv (v := (.int .i64 (IntKind.i64.wrap (best_102 - (out_113.length : Int))))) rfl rfl (r_sub best_102 (out_113.length : Int) rfl rfl) ?_
                        refine lg (b := (mget far_25 x_130).isSome) 132 rfl rfl rfl (by rw [hg_153]; rfl) ?_
                        refine lv (v := (.bool (decide (((mget far_25 x_130).getD 0) = (IntKind.i64.wrap (best_102 - (out_113.length : Int))))))) rfl rfl (r_eql ((mget far_25 x_130).getD 0) (IntKind.i64.wrap (best_102 - (out_113.length : Int))) rfl rfl) ?_
                        refine lv (v := (.bool (decide (((mget far_25 x_130).getD 0) = (IntKind.i64.wrap (best_102 - (out_113.length : Int))))))) rfl rfl (r_pickT (congrArg Value.bool hg_153) rfl) ?_
                        refine lv (v := (.bool (decide (((mget far_25 x_130).getD 0) = (IntKind.i64.wrap (best_102 - (out_113.length : Int))))))) rfl rfl (r_move rfl) ?_
                        by_cases hg_154 : (decide (((mget far_25 x_130).getD 0) = (IntKind.i64.wrap (best_102 - (out_113.length : Int))))) = true
                        · rw [if_pos hg_154] at hm
                          refine lg (b := decide (((mget far_25 x_130).getD 0) = (IntKind.i64.wrap (best_102 - (out_113.length : Int))))) 140 rfl rfl rfl (by rw [hg_154]; rfl) ?_
                          refine lv (v := (.int .i64 least_129)) rfl rfl (r_move rfl) ?_
                          refine lg (b := decide (((mget far_25 x_130).getD 0) = (IntKind.i64.wrap (best_102 - (out_113.length : Int))))) 140 rfl rfl rfl (by rw [hg_154]; rfl) ?_
                          refine lv (v := (.bool (decide (least_129 < 0)))) rfl rfl (r_lss least_129 0 rfl rfl) ?_
                          refine lg (b := decide (((mget far_25 x_130).getD 0) = (IntKind.i64.wrap (best_102 - (out_113.length : Int))))) 140 rfl rfl rfl (by rw [hg_154]; rfl) ?_
                          refine lv (v := (.bool (decide (least_129 < 0)))) rfl rfl (r_move rfl) ?_
                          by_cases hg_155 : (decide (least_129 < 0)) = true
                          · rw [if_pos hg_155] at hm
                            refine lp (b := decide (least_129 < 0)) 143 rfl rfl rfl rfl (by rw [hg_155]; rfl) ?_
                            refine lp (b := decide (least_129 < 0)) 143 rfl rfl rfl rfl (by rw [hg_155]; rfl) ?_
                            refine lp (b := decide (least_129 < 0)) 143 rfl rfl rfl rfl (by rw [hg_155]; rfl) ?_
                            refine lg (b := decide (((mget far_25 x_130).getD 0) = (IntKind.i64.wrap (best_102 - (out_113.length : Int))))) 140 rfl rfl rfl (by rw [hg_154]; rfl) ?_
                            refine lv (v := (.bool true)) rfl rfl (r_pickT (congrArg Value.bool hg_155) rfl) ?_
                            refine lv (v := (.bool true)) rfl rfl (r_pickT (congrArg Value.bool hg_154) rfl) ?_
                            refine lnil ?_
                            exact ⟨col_128, true, hm, hst, h0, h_124, h_116, h_26, rfl, rfl, rfl, rfl, rfl, rfl, rfl, rfl, rfl, rfl, rfl⟩
                          · rw [if_neg hg_155] at hm
                            replace hg_155 := Bool.eq_false_iff.2 hg_155
                            refine lg (b := decide (least_129 < 0)) 143 rfl rfl rfl (by rw [hg_155]; rfl) ?_
                            refine lv (v := (.int .i64 x_130)) rfl rfl (r_move rfl) ?_
                            refine lg (b := decide (least_129 < 0)) 143 rfl rfl rfl (by rw [hg_155]; rfl) ?_
                            refine lv (v := (.int .i64 least_129)) rfl rfl (r_move rfl) ?_
                            refine lg (b := decide (least_129 < 0)) 143 rfl rfl rfl (by rw [hg_155]; rfl) ?_
                            refine lv (v := (.bool (decide (x_130 < least_129)))) rfl rfl (r_lss x_130 least_129 rfl rfl) ?_
                            refine lg (b := decide (((mget far_25 x_130).getD 0) = (IntKind.i64.wrap (best_102 - (out_113.length : Int))))) 140 rfl rfl rfl (by rw [hg_154]; rfl) ?_
                            refine lv (v := (.bool (decide (x_130 < least_129)))) rfl rfl (r_pickF (congrArg Value.bool hg_155) rfl) ?_
                            refine lv (v := (.bool (decide (x_130 < least_129)))) rfl rfl (r_pickT (congrArg Value.bool hg_154) rfl) ?_
                            refine lnil ?_
                            exact ⟨col_128, (decide (x_130 < least_129)), hm, hst, h0, h_124, h_116, h_26, rfl, rfl, rfl, rfl, rfl, rfl, rfl, rfl, rfl, rfl, rfl⟩
                        · rw [if_neg hg_154] at hm
                          replace hg_154 := Bool.eq_false_iff.2 hg_154
                          refine lp (b := decide (((mget far_25 x_130).getD 0) = (IntKind.i64.wrap (best_102 - (out_113.length : Int))))) 140 rfl rfl rfl rfl (by rw [hg_154]; rfl) ?_
                          refine lp (b := decide (((mget far_25 x_130).getD 0) = (IntKind.i64.wrap (best_102 - (out_113.length : Int))))) 140 rfl rfl rfl rfl (by rw [hg_154]; rfl) ?_
                          refine lp (b := decide (((mget far_25 x_130).getD 0) = (IntKind.i64.wrap (best_102 - (out_113.length : Int))))) 140 rfl rfl rfl rfl (by rw [hg_154]; rfl) ?_
                          refine lpU 143 rfl rfl rfl rfl ?_
                          refine lpU 143 rfl rfl rfl rfl ?_
                          refine lpU 143 rfl rfl rfl rfl ?_
                          refine lp (b := decide (((mget far_25 x_130).getD 0) = (IntKind.i64.wrap (best_102 - (out_113.length : Int))))) 140 rfl rfl rfl rfl (by rw [hg_154]; rfl) ?_
                          refine lv (v := (.bool false)) rfl rfl (r_pickF (congrArg Value.bool hg_154) rfl) ?_
                          refine lnil ?_
                          exact ⟨col_128, false, hm, hst, h0, h_124, h_116, h_26, rfl, rfl, rfl, rfl, rfl, rfl, rfl, rfl, rfl, rfl, rfl⟩
                      · rw [if_neg hg_153] at hm
                        replace hg_153 := Bool.eq_false_iff.2 hg_153
                        refine lp (b := (mget far_25 x_130).isSome) 132 rfl rfl rfl rfl (by rw [hg_153]; rfl) ?_
                        refine lp (b := (mget far_25 x_130).isSome) 132 rfl rfl rfl rfl (by rw [hg_153]; rfl) ?_
                        refine lp (b := (mget far_25 x_130).isSome) 132 rfl rfl rfl rfl (by rw [hg_153]; rfl) ?_
                        refine lp (b := (mget far_25 x_130).isSome) 132 rfl rfl rfl rfl (by rw [hg_153]; rfl) ?_
                        refine lp (b := (mget far_25 x_130).isSome) 132 rfl rfl rfl rfl (by rw [hg_153]; rfl) ?_
                        refine lp (b := (mget far_25 x_130).isSome) 132 rfl rfl rfl rfl (by rw [hg_153]; rfl) ?_
                        refine lv (v := (.bool false)) rfl rfl (r_pickF (congrArg Value.bool hg_153) rfl) ?_
                        refine lv (v := (.bool false)) rfl rfl (r_move rfl) ?_
                        refine lp (b := false) 140 rfl rfl rfl rfl rfl ?_
                        refine lp (b := false) 140 rfl rfl rfl rfl rfl ?_
                        refine lp (b := false) 140 rfl rfl rfl rfl rfl ?_
                        refine lpU 143 rfl rfl rfl rfl ?_
                        refine lpU 143 rfl rfl rfl rfl ?_
                        refine lpU 143 rfl rfl rfl rfl ?_
                        refine lp (b := false) 140 rfl rfl rfl rfl rfl ?_
                        refine lv (v := (.bool false)) rfl rfl (r_pickF rfl rfl) ?_
                        refine lnil ?_
                        exact ⟨col_128, false, hm, hst, h0, h_124, h_116, h_26, rfl, rfl, rfl, rfl, rfl, rfl, rfl, rfl, rfl, rfl, rfl⟩
              · rw [if_neg (by rw [hb]; decide)] at hm
                clear hb
                refine wexit (inB_hit ?_)
                refine wseq ?_
                refine wregion ?_
                refine lv (v := (.slice a_114 out_113.length cap_115)) rfl rfl (r_move rfl) ?_
                refine lv (v := (.slice a_114 out_113.length cap_115)) rfl rfl (r_assign rfl) ?_
                refine lnil ?_
                refine wret ?_
                obtain ⟨hnn, hm⟩ := chk_some hm
                cases hm
                exact ⟨rfl, colF w0.heap.size col col_112 (fun n => bif Nat.beq n 4 then c1 else 0), a_114, cap_115, rfl, hst.fin (fun n => bif Nat.beq n 4 then c1 else 0), hst.finOwn (g := (fun n => bif Nat.beq n 4 then c1 else 0)) rfl h_116 (by decide) (by decide) rfl, (fun h => absurd h hnn)⟩
        | cons x_103 l_104 =>
          obtain ⟨hat, hl2, hlt⟩ := drop_get hl
          have hk : (k_98 : Int) < (e_91.length : Int) := by omega
          have hkb := decide_eq_true hk
          rw [m_dag_ring_L3.eq_2] at hm
          refine wseq ?_
          refine wregion ?_
          refine lv (v := (.bool (decide ((k_98 : Int) < (e_91.length : Int))))) rfl rfl (r_lss (k_98 : Int) (e_91.length : Int) rfl rfl) ?_
          refine lnil ?_
          refine wseq ?_
          refine wcondT (congrArg Value.bool hkb) ?_
          refine wskip ?_
          refine wseq ?_
          refine Wp.cut (fun f w_156 => ∃ (col_157 : Col) (best_158 : Int), m_dag_ring_J6 (m_dag_ring_L3 N p0_parents p2_s p3_most far_25 l_104) best_158 = some r ∧ St w0 (col0 col) col_157 w_156 ∧ Sl (Rep.slice (Rep.int .i64)) col_157 w_156 a0 cap0 p0_parents ∧ Sl (Rep.int .i64) col_157 w_156 a_95 cap_96 e_91 ∧ MapO (Value.int .i64) (Value.int .i64) 1 col_157 w_156 g_24 far_25 ∧ f 0 = (.slice a0 p0_parents.length cap0) ∧ f 16 = (.int .i64 best_158) ∧ f 2 = (.int .i64 p2_s) ∧ f 3 = (.int .i64 p3_most) ∧ f 88 = (.slice a_95 e_91.length cap_96) ∧ f 89 = (.int .i64 (e_91.length : Int)) ∧ f 9 = (.map (some g_24)) ∧ f 90 = (.int .i64 (k_98 : Int)) ∧ f 1000000 = (enc [])) ?_ ?_
          · intro f w_156 hJ
            obtain ⟨col_157, best_158, hm, hst, h0, h_97, h_26, hs0, hs16, hs2, hs3, hs88, hs89, hs9, hs90, hs1000000⟩ := hJ
            rw [m_dag_ring_J6.eq_1] at hm
            refine .ld (d := 0) (v := (.slice a0 p0_parents.length cap0)) hs0 ?_
            refine .ld (d := 16) (v := (.int .i64 best_158)) hs16 ?_
            refine .ld (d := 2) (v := (.int .i64 p2_s)) hs2 ?_
            refine .ld (d := 3) (v := (.int .i64 p3_most)) hs3 ?_
            refine .ld (d := 88) (v := (.slice a_95 e_91.length cap_96)) hs88 ?_
            refine .ld (d := 89) (v := (.int .i64 (e_91.length : Int))) hs89 ?_
            refine .ld (d := 9) (v := (.map (some g_24))) hs9 ?_
            refine .ld (d := 90) (v := (.int .i64 (k_98 : Int))) hs90 ?_
            refine .ld (d := 1000000) (v := (enc [])) hs1000000 ?_
            clear hs0 hs16 hs2 hs3 hs88 hs89 hs9 hs90 hs1000000
            refine wregion ?_
            refine lv (v := (.int .i64 (IntKind.i64.wrap ((k_98 : Int) + 1)))) rfl rfl (r_add (k_98 : Int) 1 rfl rfl) ?_
            refine lv (v := (.int .i64 (IntKind.i64.wrap ((k_98 : Int) + 1)))) rfl rfl (r_move rfl) ?_
            refine lnil ?_
            exact ⟨l_104.length, by simp, ⟨col_157, best_158, (k_98 + 1), l_104, rfl, hl2, hm, hst, h0, h_97, h_26, (congrArg (Value.int .i64) (wrap_succ (Nat.lt_of_lt_of_le hlt h_97.1.1))), rfl, rfl, rfl, rfl, rfl, rfl, rfl, rfl⟩⟩
          · refine wblock ?_
            refine wseq ?_
            refine wregion ?_
            refine lv (v := (sptr a_95 (Int.toNat (k_98 : Int) * 1))) rfl rfl (r_idx Try.underlying31 Try.sizeOf3 rfl rfl (at?_some hat).1 (at?_some hat).2.1 (h_97.addr hat)) ?_
            refine lv (v := (.int .i64 x_103)) rfl rfl (r_ld Try.isAgg3 rfl (h_97.atInt hat)) ?_
            refine lv (v := (.int .i64 x_103)) rfl rfl (r_assign rfl) ?_
            refine lnil ?_
            refine wseq ?_
            refine wregion ?_
            refine lv (v := (.map (some g_24))) rfl rfl (r_move rfl) ?_
            refine lv (v := (.int .i64 x_103)) rfl rfl (r_move rfl) ?_
            refine lv (v := (.tuple #[(.int .i64 ((mget far_25 x_103).getD 0)), (.bool ((mget far_25 x_103).isSome))])) rfl rfl (r_lookupOk KeyD.int h_26 Try.underlying51 Try.underlying3 Try.zeroValue3 rfl rfl) ?_
            refine lv (v := (.tuple #[(.int .i64 ((mget far_25 x_103).getD 0)), (.bool ((mget far_25 x_103).isSome))])) rfl rfl (r_move rfl) ?_
            refine lv (v := (.int .i64 ((mget far_25 x_103).getD 0))) rfl rfl (r_extract rfl rfl) ?_
            refine lv (v := (.bool ((mget far_25 x_103).isSome))) rfl rfl (r_extract rfl rfl) ?_
            refine lv (v := (.int .i64 ((mget far_25 x_103).getD 0))) rfl rfl (r_assign rfl) ?_
            refine lv (v := (.bool ((mget far_25 x_103).isSome))) rfl rfl (r_assign rfl) ?_
            refine lnil ?_
            refine wseq ?_
            refine wregion ?_
            refine lv (v := (.bool ((mget far_25 x_103).isSome))) rfl rfl (r_move rfl) ?_
            refine lnil ?_
            refine wcond ((mget far_25 x_103).isSome) rfl (fun hb => ?_) (fun hb => ?_)
            · rw [if_pos hb] at hm
              clear hb
              refine wregion ?_
              refine lv (v := (.int .i64 best_102)) rfl rfl (r_move rfl) ?_
              refine lv (v := (.int .i64 ((mget far_25 x_103).getD 0))) rfl rfl (r_move rfl) ?_
              refine lv (v := (.int .i64 (IntKind.i64.wrap (((mget far_25 x_103).getD 0) + 1)))) rfl rfl (r_add ((mget far_25 x_103).getD 0) 1 rfl rfl) ?_
              refine lv (v := (.int .i64 (if (IntKind.i64.wrap (((mget far_25 x_103).getD 0) + 1)) < best_102 then (IntKind.i64.wrap (((mget far_25 x_103).getD 0) + 1)) else best_102))) rfl rfl (r_min best_102 (IntKind.i64.wrap (((mget far_25 x_103).getD 0) + 1)) rfl rfl) ?_
              refine lv (v := (.int .i64 (if (IntKind.i64.wrap (((mget far_25 x_103).getD 0) + 1)) < best_102 then (IntKind.i64.wrap (((mget far_25 x_103).getD 0) + 1)) else best_102))) rfl rfl (r_assign rfl) ?_
              refine lnil ?_
              exact ⟨col_101, (if (IntKind.i64.wrap (((mget far_25 x_103).getD 0) + 1)) < best_102 then (IntKind.i64.wrap (((mget far_25 x_103).getD 0) + 1)) else best_102), hm, hst, h0, h_97, h_26, rfl, rfl, rfl, rfl, rfl, rfl, rfl, rfl, rfl⟩
            · rw [if_neg (by rw [hb]; decide)] at hm
              clear hb
              refine wskip ?_
              exact ⟨col_101, best_102, hm, hst, h0, h_97, h_26, rfl, rfl, rfl, rfl, rfl, rfl, rfl, rfl, rfl⟩
    · refine wregion ?_
      refine lv (v := (.slice a_21 next_20.length cap_22)) rfl rfl (r_move rfl) ?_
      refine lv (v := (.int .i64 (next_20.length : Int))) rfl rfl (r_len Try.underlying31 rfl) ?_
      refine lv (v := (.bool (decide (0 < (next_20.length : Int))))) rfl rfl (r_gtr (next_20.length : Int) 0 rfl rfl) ?_
      refine lv (v := (.bool (decide (0 < (next_20.length : Int))))) rfl rfl (r_move rfl) ?_
      by_cases hg_159 : (decide (0 < (next_20.length : Int))) = true
      · rw [if_pos hg_159] at hm
        refine lg (b := decide (0 < (next_20.length : Int))) 36 rfl rfl rfl (by rw [hg_159]; rfl) ?_
        refine lv (v := (.map (some g_24))) rfl rfl (r_move rfl) ?_
        refine lg (b := decide (0 < (next_20.length : Int))) 36 rfl rfl rfl (by rw [hg_159]; rfl) ?_
        refine lv (v := (.slice a_21 next_20.length cap_22)) rfl rfl (r_move rfl) ?_
        refine lg (b := decide (0 < (next_20.length : Int))) 36 rfl rfl rfl (by rw [hg_159]; rfl) ?_
        obtain ⟨e_160, hj_161, hm⟩ := bind_some hm
        refine lv (v := (sptr a_21 (Int.toNat 0 * 1))) rfl rfl (r_idx Try.underlying31 Try.sizeOf3 rfl rfl (at?_some hj_161).1 (at?_some hj_161).2.1 (h_23.addr hj_161)) ?_
        refine lg (b := decide (0 < (next_20.length : Int))) 36 rfl rfl rfl (by rw [hg_159]; rfl) ?_
        refine lv (v := (.int .i64 e_160)) rfl rfl (r_ld Try.isAgg3 rfl (h_23.atInt hj_161)) ?_
        refine lg (b := decide (0 < (next_20.length : Int))) 36 rfl rfl rfl (by rw [hg_159]; rfl) ?_
        refine lv (v := (.int .i64 ((mget far_25 e_160).getD 0))) rfl rfl (r_lookup KeyD.int h_26 Try.underlying51 Try.underlying3 Try.zeroValue3 rfl rfl) ?_
        refine lg (b := decide (0 < (next_20.length : Int))) 36 rfl rfl rfl (by rw [hg_159]; rfl) ?_
        refine lv (v := (.int .i64 p3_most)) rfl rfl (r_move rfl) ?_
        refine lg (b := decide (0 < (next_20.length : Int))) 36 rfl rfl rfl (by rw [hg_159]; rfl) ?_
        refine lv (v := (.int .i64 (IntKind.i64.wrap (p3_most - 1)))) rfl rfl (r_sub p3_most 1 rfl rfl) ?_
        refine lg (b := decide (0 < (next_20.length : Int))) 36 rfl rfl rfl (by rw [hg_159]; rfl) ?_
        refine lv (v := (.bool (decide (((mget far_25 e_160).getD 0) < (IntKind.i64.wrap (p3_most - 1)))))) rfl rfl (r_lss ((mget far_25 e_160).getD 0) (IntKind.i64.wrap (p3_most - 1)) rfl rfl) ?_
        refine lv (v := (.bool (decide (((mget far_25 e_160).getD 0) < (IntKind.i64.wrap (p3_most - 1)))))) rfl rfl (r_pickT (congrArg Value.bool hg_159) rfl) ?_
        refine lnil ?_
        exact ⟨col_19, (decide (((mget far_25 e_160).getD 0) < (IntKind.i64.wrap (p3_most - 1)))), hm, hst, h0, h1, h_23, h_26, rfl, rfl, rfl, rfl, rfl, rfl, rfl, rfl⟩
      · rw [if_neg hg_159] at hm
        replace hg_159 := Bool.eq_false_iff.2 hg_159
        refine lp (b := decide (0 < (next_20.length : Int))) 36 rfl rfl rfl rfl (by rw [hg_159]; rfl) ?_
        refine lp (b := decide (0 < (next_20.length : Int))) 36 rfl rfl rfl rfl (by rw [hg_159]; rfl) ?_
        refine lp (b := decide (0 < (next_20.length : Int))) 36 rfl rfl rfl rfl (by rw [hg_159]; rfl) ?_
        refine lp (b := decide (0 < (next_20.length : Int))) 36 rfl rfl rfl rfl (by rw [hg_159]; rfl) ?_
        refine lp (b := decide (0 < (next_20.length : Int))) 36 rfl rfl rfl rfl (by rw [hg_159]; rfl) ?_
        refine lp (b := decide (0 < (next_20.length : Int))) 36 rfl rfl rfl rfl (by rw [hg_159]; rfl) ?_
        refine lp (b := decide (0 < (next_20.length : Int))) 36 rfl rfl rfl rfl (by rw [hg_159]; rfl) ?_
        refine lp (b := decide (0 < (next_20.length : Int))) 36 rfl rfl rfl rfl (by rw [hg_159]; rfl) ?_
        refine lv (v := (.bool false)) rfl rfl (r_pickF (congrArg Value.bool hg_159) rfl) ?_
        refine lnil ?_
        exact ⟨col_19, false, hm, hst, h0, h1, h_23, h_26, rfl, rfl, rfl, rfl, rfl, rfl, rfl, rfl⟩




def m_dag_Cycle_J1 (k_36 : Nat) (kk_L2 : (Nat → (List Int) → Int → Option (List Int))) (best_49 : List Int) (most_53 : Int) : Option (List Int) :=
  kk_L2 (k_36 + 1) best_49 most_53

def m_dag_Cycle_L2 (N : Nat) (p0_parents : (List (List Int))) (r_5 : (List (List Int))) (out_32 : List (Int × Int)) : List (List Int) → Nat → (List Int) → Int → Option (List Int)
  | [], k_36, best_40, most_44 => some best_40
  | x_45 :: l_46, k_36, best_40, most_44 => if (decide (0 < ((mget out_32 (k_36 : Int)).getD 0))) = true then (m_dag_Cycle_J1 k_36 (m_dag_Cycle_L2 N p0_parents r_5 out_32 l_46) best_40 most_44) else ((m_dag_ring N p0_parents r_5 (k_36 : Int) most_44).bind fun r_54 => if (!decide (r_54 = [])) = true then (m_dag_Cycle_J1 k_36 (m_dag_Cycle_L2 N p0_parents r_5 out_32 l_46) r_54 (r_54.length : Int)) else (m_dag_Cycle_J1 k_36 (m_dag_Cycle_L2 N p0_parents r_5 out_32 l_46) best_40 most_44))

def m_dag_Cycle_L1 (N : Nat) (p0_parents : (List (List Int))) (r_5 : (List (List Int))) : List Int → (List (Int × Int)) → Option (List Int)
  | [], out_32 => m_dag_Cycle_L2 N p0_parents r_5 out_32 p0_parents 0 ([] : List Int) (IntKind.i64.wrap ((p0_parents.length : Int) + 1))
  | x_34 :: l_35, out_32 => (some (mput out_32 x_34 1)).bind fun es_68 => (m_dag_Cycle_L1 N p0_parents r_5 l_35) es_68

def m_dag_Cycle (N : Nat) (p0_parents : (List (List Int))) : Option (List Int) :=
  (m_dag_Check N p0_parents).bind fun r_1 => if (!decide (r_1 = 42)) = true then (some ([] : List Int)) else ((m_dag_children p0_parents).bind fun r_5 => (m_dag_sorted N p0_parents r_5).bind fun r_18 => m_dag_Cycle_L1 N p0_parents r_5 r_18 ([] : List (Int × Int)))

set_option maxRecDepth 100000 in
theorem c_dag_Cycle (N : Nat) (c1 : Nat) (col : Col) (w0 : World) (a0 : Option Addr) (cap0 : Nat) (p0_parents : (List (List Int))) (h0 : Sl (Rep.slice (Rep.int .i64)) col w0 a0 cap0 p0_parents) (r : (List Int)) (hm : m_dag_Cycle N p0_parents = some r) :
    Calls Try.prog 17 #[(.slice a0 p0_parents.length cap0)] w0 (fun e w' => ∃ (col' : Col) (ra1 : Option Addr) (rc2 : Nat), e = .returned ((.slice ra1 r.length rc2)) ∧ Grow col w0 col' w' ∧ Own (Rep.int .i64) 3 c1 col' w' ra1 rc2 r) := by
  refine calls_of1 2 (m := 54) (args := [(.slice a0 p0_parents.length cap0)]) Try.func17 rfl rfl rfl rfl rfl ?_
  rw [m_dag_Cycle.eq_1] at hm
  have hst := St.start col w0
  replace h0 := h0.keep (Stay.start col w0)
  refine wseq ?_
  refine wregion ?_
  refine lv (v := (.slice none (([] : List Int).length) 0)) rfl rfl (r_assign rfl) ?_
  refine lnil ?_
  refine wseq ?_
  refine wseq ?_
  refine wregion ?_
  refine lv (v := (.slice a0 p0_parents.length cap0)) rfl rfl (r_move rfl) ?_
  obtain ⟨r_1, hr_2, hm⟩ := bind_some hm
  refine lc rfl rfl (r_call1 Try.call18 rfl) (c_dag_Check N (col0 col) _ a0 cap0 p0_parents h0 r_1 hr_2) ?_
  rintro _ w_3 ⟨rfl, hg_4⟩
  refine ⟨_, rfl, ?_⟩
  replace hg_4 : Grow (col0 col) w0 (col0 col) w_3 := .of_below hg_4
  replace h0 := h0.gr hg_4
  replace hst := hst.grow hg_4
  refine lv (v := (.bool (!decide (r_1 = 42)))) rfl rfl (r_neq r_1 42 rfl rfl) ?_
  refine lnil ?_
  refine wcond (!decide (r_1 = 42)) rfl (fun hb => ?_) (fun hb => ?_)
  · rw [if_pos hb] at hm
    clear hb
    refine wseq ?_
    refine wregion ?_
    refine lv (v := (.slice none (([] : List Int).length) 0)) rfl rfl (r_assign rfl) ?_
    refine lnil ?_
    refine wret ?_
    cases hm
    exact ⟨rfl, colF w0.heap.size col (col0 col) (fun n => 0), none, 0, rfl, hst.fin (fun n => 0), Own.nil⟩
  · rw [if_neg (by rw [hb]; decide)] at hm
    clear hb
    refine wskip ?_
    refine wseq ?_
    refine wregion ?_
    refine lv (v := (.slice a0 p0_parents.length cap0)) rfl rfl (r_move rfl) ?_
    obtain ⟨r_5, hr_6, hm⟩ := bind_some hm
    refine lc rfl rfl (r_call1 Try.call29 rfl) (c_dag_children 1 (col0 col) _ a0 cap0 p0_parents h0 r_5 hr_6) ?_
    rintro _ w_10 ⟨col_12, ra_7, rc_8, rfl, hg_11, rh_9⟩
    refine ⟨_, rfl, ?_⟩
    replace h0 := h0.gr hg_11
    replace hst := hst.grow hg_11
    refine lv (v := (.slice ra_7 r_5.length rc_8)) rfl rfl (r_assign rfl) ?_
    refine lnil ?_
    refine wseq ?_
    refine wregion ?_
    refine lv (v := (.slice a0 p0_parents.length cap0)) rfl rfl (r_move rfl) ?_
    refine lv (v := (.int .i64 (p0_parents.length : Int))) rfl rfl (r_len Try.underlying22 rfl) ?_
    refine l_makeMapN (col := col_12) (fk := (Value.int .i64)) (fv := (Value.int .i64)) 2 rfl Try.underlying51 rfl ?_
    intro g_13 w_14 col_15 hg_16 h_17
    replace h0 := h0.gr hg_16
    replace rh_9 := rh_9.gr hg_16
    replace hst := hst.grow hg_16
    refine lv (v := (.map (some g_13))) rfl rfl (r_assign rfl) ?_
    refine lnil ?_
    refine wseq ?_
    refine wseq ?_
    refine wregion ?_
    refine lv (v := (.slice a0 p0_parents.length cap0)) rfl rfl (r_move rfl) ?_
    refine lv (v := (.slice ra_7 r_5.length rc_8)) rfl rfl (r_move rfl) ?_
    obtain ⟨r_18, hr_19, hm⟩ := bind_some hm
    refine lc rfl rfl (r_call2 Try.call28 rfl rfl) (c_dag_sorted N 3 (frC 1 col_15) _ a0 cap0 p0_parents ra_7 rc_8 r_5 (h0.froz 1) (rh_9.toSlF (Froz.row (Froz.int .i64))) r_18 hr_19) ?_
    rintro _ w_23 ⟨col_25, ra_20, rc_21, rfl, hg_24, rh_22⟩
    refine ⟨_, rfl, ?_⟩
    replace rh_22 := rh_22.thaw (flat_int .i64) hg_24 ((Fz.refl (col := col_15)).froz 1) (by decide)
    replace hg_24 := hg_24.thawR (col := col_15)
    generalize colR w_14.heap.size col_15 col_25 = col_26 at *
    replace h0 := h0.gr hg_24
    replace rh_9 := rh_9.gr hg_24
    replace h_17 := h_17.gr hg_24
    replace hst := hst.grow hg_24
    refine lv (v := (.int .i64 (r_18.length : Int))) rfl rfl (r_len Try.underlying31 rfl) ?_
    refine lv (v := (.int .i64 0)) rfl rfl (r_move rfl) ?_
    refine lnil ?_
    refine wblock ?_
    refine wloop (fun n f w_29 => ∃ (col_30 : Col) (k_27 : Nat) (g_31 : Nat) (out_32 : List (Int × Int)) (l_28 : List Int), n = l_28.length ∧ r_18.drop k_27 = l_28 ∧ m_dag_Cycle_L1 N p0_parents r_5 l_28 out_32 = some r ∧ St w0 (col0 col) col_30 w_29 ∧ Sl (Rep.slice (Rep.int .i64)) col_30 w_29 a0 cap0 p0_parents ∧ Own (Rep.int .i64) 3 3 col_30 w_29 ra_20 rc_21 r_18 ∧ Own (Rep.row 3 (Rep.int .i64)) 31 1 col_30 w_29 ra_7 rc_8 r_5 ∧ MapO (Value.int .i64) (Value.int .i64) 2 col_30 w_29 g_31 out_32 ∧ f 23 = (.int .i64 (k_27 : Int)) ∧ f 0 = (.slice a0 p0_parents.length cap0) ∧ f 21 = (.slice ra_20 r_18.length rc_21) ∧ f 22 = (.int .i64 (r_18.length : Int)) ∧ f 3 = (.slice ra_7 r_5.length rc_8) ∧ f 4 = (.map (some g_31)) ∧ f 1000000 = (enc [])) r_18.length ⟨col_26, 0, g_13, ([] : List (Int × Int)), r_18, rfl, rfl, hm, hst, h0, rh_22, rh_9, h_17, rfl, rfl, rfl, rfl, rfl, rfl, rfl⟩ ?_
    clear hm; intro n f w_29 hI
    obtain ⟨col_30, k_27, g_31, out_32, l_28, hn, hl, hm, hst, h0, rh_22, rh_9, h_33, hs23, hs0, hs21, hs22, hs3, hs4, hs1000000⟩ := hI
    subst hn
    refine .ld (d := 23) (v := (.int .i64 (k_27 : Int))) hs23 ?_
    refine .ld (d := 0) (v := (.slice a0 p0_parents.length cap0)) hs0 ?_
    refine .ld (d := 21) (v := (.slice ra_20 r_18.length rc_21)) hs21 ?_
    refine .ld (d := 22) (v := (.int .i64 (r_18.length : Int))) hs22 ?_
    refine .ld (d := 3) (v := (.slice ra_7 r_5.length rc_8)) hs3 ?_
    refine .ld (d := 4) (v := (.map (some g_31))) hs4 ?_
    refine .ld (d := 1000000) (v := (enc [])) hs1000000 ?_
    clear hs23 hs0 hs21 hs22 hs3 hs4 hs1000000
    cases l_28 with
    | nil =>
      have hk : ¬ ((k_27 : Int) < (r_18.length : Int)) := by have := List.drop_eq_nil_iff.1 hl; omega
      have hkb := decide_eq_false hk
      rw [m_dag_Cycle_L1.eq_1] at hm
      refine wseq ?_
      refine wregion ?_
      refine lv (v := (.bool (decide ((k_27 : Int) < (r_18.length : Int))))) rfl rfl (r_lss (k_27 : Int) (r_18.length : Int) rfl rfl) ?_
      refine lnil ?_
      refine wseq ?_
      refine wcondF (congrArg Value.bool hkb) ?_
      refine wexit (inB_hit ?_)
      refine wseq ?_
      refine wregion ?_
      refine lv (v := (.slice none (([] : List Int).length) 0)) rfl rfl (r_assign rfl) ?_
      refine lnil ?_
      refine wseq ?_
      refine wregion ?_
      refine lv (v := (.slice a0 p0_parents.length cap0)) rfl rfl (r_move rfl) ?_
      refine lv (v := (.int .i64 (p0_parents.length : Int))) rfl rfl (r_len Try.underlying22 rfl) ?_
      refine lv (v := (.int .i64 (IntKind.i64.wrap ((p0_parents.length : Int) + 1)))) rfl rfl (r_add (p0_parents.length : Int) 1 rfl rfl) ?_
      refine lv (v := (.int .i64 (IntKind.i64.wrap ((p0_parents.length : Int) + 1)))) rfl rfl (r_assign rfl) ?_
      refine lnil ?_
      refine wseq ?_
      refine wseq ?_
      refine wregion ?_
      refine lv (v := (.slice a0 p0_parents.length cap0)) rfl rfl (r_move rfl) ?_
      refine lv (v := (.int .i64 (p0_parents.length : Int))) rfl rfl (r_len Try.underlying22 rfl) ?_
      refine lv (v := (.int .i64 0)) rfl rfl (r_move rfl) ?_
      refine lnil ?_
      refine wblock ?_
      refine wloop (fun n f w_38 => ∃ (col_39 : Col) (k_36 : Nat) (a_41 : Option Addr) (cap_42 : Nat) (best_40 : List Int) (most_44 : Int) (l_37 : List (List Int)), n = l_37.length ∧ p0_parents.drop k_36 = l_37 ∧ m_dag_Cycle_L2 N p0_parents r_5 out_32 l_37 k_36 best_40 most_44 = some r ∧ St w0 (col0 col) col_39 w_38 ∧ Sl (Rep.slice (Rep.int .i64)) col_39 w_38 a0 cap0 p0_parents ∧ Own (Rep.row 3 (Rep.int .i64)) 31 1 col_39 w_38 ra_7 rc_8 r_5 ∧ MapO (Value.int .i64) (Value.int .i64) 2 col_39 w_38 g_31 out_32 ∧ Own (Rep.int .i64) 3 4 col_39 w_38 a_41 cap_42 best_40 ∧ f 35 = (.int .i64 (k_36 : Int)) ∧ f 0 = (.slice a0 p0_parents.length cap0) ∧ f 3 = (.slice ra_7 r_5.length rc_8) ∧ f 34 = (.int .i64 (p0_parents.length : Int)) ∧ f 4 = (.map (some g_31)) ∧ f 7 = (.slice a_41 best_40.length cap_42) ∧ f 8 = (.int .i64 most_44) ∧ f 1000000 = (enc [])) p0_parents.length ⟨col_30, 0, none, 0, ([] : List Int), (IntKind.i64.wrap ((p0_parents.length : Int) + 1)), p0_parents, rfl, rfl, hm, hst, h0, rh_9, h_33, Own.nil, rfl, rfl, rfl, rfl, rfl, rfl, rfl, rfl⟩ ?_
      clear hm; intro n f w_38 hI
      obtain ⟨col_39, k_36, a_41, cap_42, best_40, most_44, l_37, hn, hl, hm, hst, h0, rh_9, h_33, h_43, hs35, hs0, hs3, hs34, hs4, hs7, hs8, hs1000000⟩ := hI
      subst hn
      refine .ld (d := 35) (v := (.int .i64 (k_36 : Int))) hs35 ?_
      refine .ld (d := 0) (v := (.slice a0 p0_parents.length cap0)) hs0 ?_
      refine .ld (d := 3) (v := (.slice ra_7 r_5.length rc_8)) hs3 ?_
      refine .ld (d := 34) (v := (.int .i64 (p0_parents.length : Int))) hs34 ?_
      refine .ld (d := 4) (v := (.map (some g_31))) hs4 ?_
      refine .ld (d := 7) (v := (.slice a_41 best_40.length cap_42)) hs7 ?_
      refine .ld (d := 8) (v := (.int .i64 most_44)) hs8 ?_
      refine .ld (d := 1000000) (v := (enc [])) hs1000000 ?_
      clear hs35 hs0 hs3 hs34 hs4 hs7 hs8 hs1000000
      cases l_37 with
      | nil =>
        have hk : ¬ ((k_36 : Int) < (p0_parents.length : Int)) := by have := List.drop_eq_nil_iff.1 hl; omega
        have hkb := decide_eq_false hk
        rw [m_dag_Cycle_L2.eq_1] at hm
        refine wseq ?_
        refine wregion ?_
        refine lv (v := (.bool (decide ((k_36 : Int) < (p0_parents.length : Int))))) rfl rfl (r_lss (k_36 : Int) (p0_parents.length : Int) rfl rfl) ?_
        refine lnil ?_
        refine wseq ?_
        refine wcondF (congrArg Value.bool hkb) ?_
        refine wexit (inB_hit ?_)
        refine wseq ?_
        refine wregion ?_
        refine lv (v := (.slice a_41 best_40.length cap_42)) rfl rfl (r_move rfl) ?_
        refine lv (v := (.slice a_41 best_40.length cap_42)) rfl rfl (r_assign rfl) ?_
        refine lnil ?_
        refine wret ?_
        cases hm
        exact ⟨rfl, colF w0.heap.size col col_39 (fun n => bif Nat.beq n 4 then c1 else 0), a_41, cap_42, rfl, hst.fin (fun n => bif Nat.beq n 4 then c1 else 0), hst.finOwn (g := (fun n => bif Nat.beq n 4 then c1 else 0)) rfl h_43 (by decide) (by decide) rfl⟩
      | cons x_45 l_46 =>
        obtain ⟨hat, hl2, hlt⟩ := drop_get hl
        have hk : (k_36 : Int) < (p0_parents.length : Int) := by omega
        have hkb := decide_eq_true hk
        rw [m_dag_Cycle_L2.eq_2] at hm
        refine wseq ?_
        refine wregion ?_
        refine lv (v := (.bool (decide ((k_36 : Int) < (p0_parents.length : Int))))) rfl rfl (r_lss (k_36 : Int) (p0_parents.length : Int) rfl rfl) ?_
        refine lnil ?_
        refine wseq ?_
        refine wcondT (congrArg Value.bool hkb) ?_
        refine wskip ?_
        refine wseq ?_
        refine Wp.cut (fun f w_47 => ∃ (col_48 : Col) (a_50 : Option Addr) (cap_51 : Nat) (best_49 : List Int) (most_53 : Int), m_dag_Cycle_J1 k_36 (m_dag_Cycle_L2 N p0_parents r_5 out_32 l_46) best_49 most_53 = some r ∧ St w0 (col0 col) col_48 w_47 ∧ Sl (Rep.slice (Rep.int .i64)) col_48 w_47 a0 cap0 p0_parents ∧ Own (Rep.row 3 (Rep.int .i64)) 31 1 col_48 w_47 ra_7 rc_8 r_5 ∧ MapO (Value.int .i64) (Value.int .i64) 2 col_48 w_47 g_31 out_32 ∧ Own (Rep.int .i64) 3 4 col_48 w_47 a_50 cap_51 best_49 ∧ f 0 = (.slice a0 p0_parents.length cap0) ∧ f 3 = (.slice ra_7 r_5.length rc_8) ∧ f 34 = (.int .i64 (p0_parents.length : Int)) ∧ f 35 = (.int .i64 (k_36 : Int)) ∧ f 4 = (.map (some g_31)) ∧ f 7 = (.slice a_50 best_49.length cap_51) ∧ f 8 = (.int .i64 most_53) ∧ f 1000000 = (enc [])) ?_ ?_
        · intro f w_47 hJ
          obtain ⟨col_48, a_50, cap_51, best_49, most_53, hm, hst, h0, rh_9, h_33, h_52, hs0, hs3, hs34, hs35, hs4, hs7, hs8, hs1000000⟩ := hJ
          rw [m_dag_Cycle_J1.eq_1] at hm
          refine .ld (d := 0) (v := (.slice a0 p0_parents.length cap0)) hs0 ?_
          refine .ld (d := 3) (v := (.slice ra_7 r_5.length rc_8)) hs3 ?_
          refine .ld (d := 34) (v := (.int .i64 (p0_parents.length : Int))) hs34 ?_
          refine .ld (d := 35) (v := (.int .i64 (k_36 : Int))) hs35 ?_
          refine .ld (d := 4) (v := (.map (some g_31))) hs4 ?_
          refine .ld (d := 7) (v := (.slice a_50 best_49.length cap_51)) hs7 ?_
          refine .ld (d := 8) (v := (.int .i64 most_53)) hs8 ?_
          refine .ld (d := 1000000) (v := (enc [])) hs1000000 ?_
          clear hs0 hs3 hs34 hs35 hs4 hs7 hs8 hs1000000
          refine wregion ?_
          refine lv (v := (.int .i64 (IntKind.i64.wrap ((k_36 : Int) + 1)))) rfl rfl (r_add (k_36 : Int) 1 rfl rfl) ?_
          refine lv (v := (.int .i64 (IntKind.i64.wrap ((k_36 : Int) + 1)))) rfl rfl (r_move rfl) ?_
          refine lnil ?_
          exact ⟨l_46.length, by simp, ⟨col_48, (k_36 + 1), a_50, cap_51, best_49, most_53, l_46, rfl, hl2, hm, hst, h0, rh_9, h_33, h_52, (congrArg (Value.int .i64) (wrap_succ (Nat.lt_of_lt_of_le hlt h0.1.1))), rfl, rfl, rfl, rfl, rfl, rfl, rfl⟩⟩
        · refine wblock ?_
          refine wseq ?_
          refine wregion ?_
          refine lv (v := (.int .i64 (k_36 : Int))) rfl rfl (r_move rfl) ?_
          refine lv (v := (.int .i64 (k_36 : Int))) rfl rfl (r_assign rfl) ?_
          refine lnil ?_
          refine wseq ?_
          refine wseq ?_
          refine wregion ?_
          refine lv (v := (.map (some g_31))) rfl rfl (r_move rfl) ?_
          refine lv (v := (.int .i64 (k_36 : Int))) rfl rfl (r_move rfl) ?_
          refine lv (v := (.int .i64 ((mget out_32 (k_36 : Int)).getD 0))) rfl rfl (r_lookup KeyD.int h_33 Try.underlying51 Try.underlying3 Try.zeroValue3 rfl rfl) ?_
          refine lv (v := (.bool (decide (0 < ((mget out_32 (k_36 : Int)).getD 0))))) rfl rfl (r_gtr ((mget out_32 (k_36 : Int)).getD 0) 0 rfl rfl) ?_
          refine lnil ?_
          refine wcond (decide (0 < ((mget out_32 (k_36 : Int)).getD 0))) rfl (fun hb => ?_) (fun hb => ?_)
          · rw [if_pos hb] at hm
            clear hb
            refine wexit (inB_hit ?_)
            exact ⟨col_39, a_41, cap_42, best_40, most_44, hm, hst, h0, rh_9, h_33, h_43, rfl, rfl, rfl, rfl, rfl, rfl, rfl, rfl⟩
          · rw [if_neg (by rw [hb]; decide)] at hm
            clear hb
            refine wskip ?_
            refine wseq ?_
            refine wregion ?_
            refine lv (v := (.slice a0 p0_parents.length cap0)) rfl rfl (r_move rfl) ?_
            refine lv (v := (.slice ra_7 r_5.length rc_8)) rfl rfl (r_move rfl) ?_
            refine lv (v := (.int .i64 (k_36 : Int))) rfl rfl (r_move rfl) ?_
            refine lv (v := (.int .i64 most_44)) rfl rfl (r_move rfl) ?_
            obtain ⟨r_54, hr_55, hm⟩ := bind_some hm
            refine lc rfl rfl (r_call4 Try.call30 rfl rfl rfl rfl) (c_dag_ring N 5 (frC 1 col_39) _ a0 cap0 p0_parents ra_7 rc_8 r_5 (k_36 : Int) most_44 (h0.froz 1) (rh_9.toSlF (Froz.row (Froz.int .i64))) r_54 hr_55) ?_
            rintro _ w_60 ⟨col_62, ra_56, rc_57, rfl, hg_61, rh_58, hnn_59⟩
            refine ⟨_, rfl, ?_⟩
            replace rh_58 := rh_58.thaw (flat_int .i64) hg_61 ((Fz.refl (col := col_39)).froz 1) (by decide)
            replace hg_61 := hg_61.thawR (col := col_39)
            generalize colR w_38.heap.size col_39 col_62 = col_63 at *
            replace h0 := h0.gr hg_61
            replace rh_9 := rh_9.gr hg_61
            replace h_33 := h_33.gr hg_61
            replace h_43 := h_43.gr hg_61
            replace hst := hst.grow hg_61
            refine lv (v := (.slice ra_56 r_54.length rc_57)) rfl rfl (r_assign rfl) ?_
            refine lnil ?_
            refine wseq ?_
            refine wregion ?_
            refine lv (v := (.slice ra_56 r_54.length rc_57)) rfl rfl (r_move rfl) ?_
            refine lv (v := .bool (!ra_56.isNone)) rfl rfl (r_neqNil Try.underlying31 rfl) ?_
            refine .ld (d := 48) (v := .bool (!decide (r_54 = []))) (congrArg (fun b => Value.bool (!b)) (nil_nnO rh_58 hnn_59)) ?_
            refine lnil ?_
            refine wcond (!decide (r_54 = [])) rfl (fun hb => ?_) (fun hb => ?_)
            · rw [if_pos hb] at hm
              clear hb
              refine wregion ?_
              refine lv (v := (.slice ra_56 r_54.length rc_57)) rfl rfl (r_move rfl) ?_
              refine lv (v := (.slice ra_56 r_54.length rc_57)) rfl rfl (r_move rfl) ?_
              refine lv (v := (.int .i64 (r_54.length : Int))) rfl rfl (r_len Try.underlying31 rfl) ?_
              refine lv (v := (.slice ra_56 r_54.length rc_57)) rfl rfl (r_assign rfl) ?_
              refine lv (v := (.int .i64 (r_54.length : Int))) rfl rfl (r_assign rfl) ?_
              refine lnil ?_
              replace h0 := h0.recol 5 4 (by decide)
              replace rh_9 := rh_9.recol 5 4 (by decide)
              replace h_33 := h_33.recol 5 4 (by decide)
              replace rh_58 := rh_58.recolSelf 4 (by decide)
              replace hst := hst.recol 5 4 (by decide) (by decide)
              exact ⟨(rcC 5 4 col_63), ra_56, rc_57, r_54, (r_54.length : Int), hm, hst, h0, rh_9, h_33, rh_58, rfl, rfl, rfl, rfl, rfl, rfl, rfl, rfl⟩
            · rw [if_neg (by rw [hb]; decide)] at hm
              clear hb
              refine wskip ?_
              exact ⟨col_63, a_41, cap_42, best_40, most_44, hm, hst, h0, rh_9, h_33, h_43, rfl, rfl, rfl, rfl, rfl, rfl, rfl, rfl⟩
    | cons x_34 l_35 =>
      obtain ⟨hat, hl2, hlt⟩ := drop_get hl
      have hk : (k_27 : Int) < (r_18.length : Int) := by omega
      have hkb := decide_eq_true hk
      rw [m_dag_Cycle_L1.eq_2] at hm
      refine wseq ?_
      refine wregion ?_
      refine lv (v := (.bool (decide ((k_27 : Int) < (r_18.length : Int))))) rfl rfl (r_lss (k_27 : Int) (r_18.length : Int) rfl rfl) ?_
      refine lnil ?_
      refine wseq ?_
      refine wcondT (congrArg Value.bool hkb) ?_
      refine wskip ?_
      refine wseq ?_
      refine wblock ?_
      refine wseq ?_
      refine wregion ?_
      refine lv (v := (sptr ra_20 (Int.toNat (k_27 : Int) * 1))) rfl rfl (r_idx Try.underlying31 Try.sizeOf3 rfl rfl (at?_some hat).1 (at?_some hat).2.1 (rh_22.addr hat)) ?_
      refine lv (v := (.int .i64 x_34)) rfl rfl (r_ld Try.isAgg3 rfl (rh_22.atInt hat)) ?_
      refine lv (v := (.int .i64 x_34)) rfl rfl (r_assign rfl) ?_
      refine lnil ?_
      refine wregion ?_
      refine lv (v := (.map (some g_31))) rfl rfl (r_move rfl) ?_
      refine lv (v := (.int .i64 x_34)) rfl rfl (r_move rfl) ?_
      obtain ⟨es_68, hz_69, hm⟩ := bind_some hm
      have hz_69 : es_68 = mput out_32 x_34 1 := (Option.some.inj hz_69).symm
      refine l_mapUpdate (k := x_34) (v := 1) KeyD.int h_33 Try.underlying51 Try.underlying3 rfl rfl rfl ?_
      intro w_64 hk_65 hs_66 h_67
      rw [← hz_69] at h_67
      clear hz_69
      replace h0 := h0.kp hk_65 (by decide)
      replace rh_22 := rh_22.kp hk_65 (by decide) (by decide)
      replace rh_9 := rh_9.kp hk_65 (by decide) (by decide)
      replace hst := hst.kp hk_65 hs_66 (by decide) (by decide)
      clear h_33
      refine lnil ?_
      refine wregion ?_
      refine lv (v := (.int .i64 (IntKind.i64.wrap ((k_27 : Int) + 1)))) rfl rfl (r_add (k_27 : Int) 1 rfl rfl) ?_
      refine lv (v := (.int .i64 (IntKind.i64.wrap ((k_27 : Int) + 1)))) rfl rfl (r_move rfl) ?_
      refine lnil ?_
      exact ⟨l_35.length, by simp, ⟨col_30, (k_27 + 1), g_31, es_68, l_35, rfl, hl2, hm, hst, h0, rh_22, rh_9, h_67, (congrArg (Value.int .i64) (wrap_succ (Nat.lt_of_lt_of_le hlt rh_22.len))), rfl, rfl, rfl, rfl, rfl, rfl⟩⟩





def m_dag_Children (N : Nat) (p0_parents : (List (List Int))) : Option ((List (List Int)) × Int) :=
  (m_dag_Check N p0_parents).bind fun r_1 => if (!decide (r_1 = 0)) = true then (some (([] : List (List Int)), r_1)) else ((m_dag_children p0_parents).bind fun r_5 => some (r_5, 0))

set_option maxRecDepth 100000 in
theorem c_dag_Children (N : Nat) (c1 : Nat) (col : Col) (w0 : World) (a0 : Option Addr) (cap0 : Nat) (p0_parents : (List (List Int))) (h0 : Sl (Rep.slice (Rep.int .i64)) col w0 a0 cap0 p0_parents) (r : ((List (List Int)) × Int)) (hm : m_dag_Children N p0_parents = some r) :
    Calls Try.prog 23 #[(.slice a0 p0_parents.length cap0)] w0 (fun e w' => ∃ (col' : Col) (ra1 : Option Addr) (rc2 : Nat), e = .returned (.tuple #[(.slice ra1 r.1.length rc2), (.int .i64 r.2)]) ∧ Grow col w0 col' w' ∧ Own (Rep.row 3 (Rep.int .i64)) 31 c1 col' w' ra1 rc2 r.1) := by
  refine calls_of2 2 3 (m := 12) (args := [(.slice a0 p0_parents.length cap0)]) Try.func23 rfl rfl rfl rfl rfl ?_
  rw [m_dag_Children.eq_1] at hm
  have hst := St.start col w0
  replace h0 := h0.keep (Stay.start col w0)
  refine wseq ?_
  refine wregion ?_
  refine lv (v := (.slice none (([] : List (List Int)).length) 0)) rfl rfl (r_assign rfl) ?_
  refine lv (v := (.int .i64 0)) rfl rfl (r_assign rfl) ?_
  refine lnil ?_
  refine wseq ?_
  refine wseq ?_
  refine wregion ?_
  refine lv (v := (.slice a0 p0_parents.length cap0)) rfl rfl (r_move rfl) ?_
  obtain ⟨r_1, hr_2, hm⟩ := bind_some hm
  refine lc rfl rfl (r_call1 Try.call18 rfl) (c_dag_Check N (col0 col) _ a0 cap0 p0_parents h0 r_1 hr_2) ?_
  rintro _ w_3 ⟨rfl, hg_4⟩
  refine ⟨_, rfl, ?_⟩
  replace hg_4 : Grow (col0 col) w0 (col0 col) w_3 := .of_below hg_4
  replace h0 := h0.gr hg_4
  replace hst := hst.grow hg_4
  refine lv (v := (.int .i64 r_1)) rfl rfl (r_assign rfl) ?_
  refine lnil ?_
  refine wseq ?_
  refine wregion ?_
  refine lv (v := (.int .i64 r_1)) rfl rfl (r_move rfl) ?_
  refine lv (v := (.bool (!decide (r_1 = 0)))) rfl rfl (r_neq r_1 0 rfl rfl) ?_
  refine lnil ?_
  refine wcond (!decide (r_1 = 0)) rfl (fun hb => ?_) (fun hb => ?_)
  · rw [if_pos hb] at hm
    clear hb
    refine wseq ?_
    refine wregion ?_
    refine lv (v := (.int .i64 r_1)) rfl rfl (r_move rfl) ?_
    refine lv (v := (.slice none (([] : List (List Int)).length) 0)) rfl rfl (r_assign rfl) ?_
    refine lv (v := (.int .i64 r_1)) rfl rfl (r_assign rfl) ?_
    refine lnil ?_
    refine wret ?_
    cases hm
    exact ⟨rfl, colF w0.heap.size col (col0 col) (fun n => 0), none, 0, rfl, hst.fin (fun n => 0), Own.nil⟩
  · rw [if_neg (by rw [hb]; decide)] at hm
    clear hb
    refine wskip ?_
    refine wseq ?_
    refine wregion ?_
    refine lv (v := (.slice a0 p0_parents.length cap0)) rfl rfl (r_move rfl) ?_
    obtain ⟨r_5, hr_6, hm⟩ := bind_some hm
    refine lc rfl rfl (r_call1 Try.call29 rfl) (c_dag_children 1 (col0 col) _ a0 cap0 p0_parents h0 r_5 hr_6) ?_
    rintro _ w_10 ⟨col_12, ra_7, rc_8, rfl, hg_11, rh_9⟩
    refine ⟨_, rfl, ?_⟩
    replace h0 := h0.gr hg_11
    replace hst := hst.grow hg_11
    refine lv (v := (.slice ra_7 r_5.length rc_8)) rfl rfl (r_assign rfl) ?_
    refine lv (v := (.int .i64 0)) rfl rfl (r_assign rfl) ?_
    refine lnil ?_
    refine wret ?_
    cases hm
    exact ⟨rfl, colF w0.heap.size col col_12 (fun n => bif Nat.beq n 1 then c1 else 0), ra_7, rc_8, rfl, hst.fin (fun n => bif Nat.beq n 1 then c1 else 0), hst.finOwn (g := (fun n => bif Nat.beq n 1 then c1 else 0)) rfl rh_9 (by decide) (by decide) rfl⟩






def m_dag_Below (N : Nat) (p0_parents : (List (List Int))) (p1_points : (List Int)) : Option ((List Int) × Int) :=
  (m_dag_Check N p0_parents).bind fun r_1 => if (!decide (r_1 = 0)) = true then (some (([] : List Int), r_1)) else ((m_dag_children p0_parents).bind fun r_5 => (m_dag_reach N r_5 p1_points).bind fun r_13 => some (r_13.1, r_13.2))

set_option maxRecDepth 100000 in
theorem c_dag_Below (N : Nat) (c1 : Nat) (col : Col) (w0 : World) (a0 : Option Addr) (cap0 : Nat) (p0_parents : (List (List Int))) (a1 : Option Addr) (cap1 : Nat) (p1_points : (List Int)) (h0 : Sl (Rep.slice (Rep.int .i64)) col w0 a0 cap0 p0_parents) (h1 : Sl (Rep.int .i64) col w0 a1 cap1 p1_points) (r : ((List Int) × Int)) (hm : m_dag_Below N p0_parents p1_points = some r) :
    Calls Try.prog 25 #[(.slice a0 p0_parents.length cap0), (.slice a1 p1_points.length cap1)] w0 (fun e w' => ∃ (col' : Col) (ra1 : Option Addr) (rc2 : Nat), e = .returned (.tuple #[(.slice ra1 r.1.length rc2), (.int .i64 r.2)]) ∧ Grow col w0 col' w' ∧ Own (Rep.int .i64) 3 c1 col' w' ra1 rc2 r.1) := by
  refine calls_of2 4 5 (m := 18) (args := [(.slice a0 p0_parents.length cap0), (.slice a1 p1_points.length cap1)]) Try.func25 rfl rfl rfl rfl rfl ?_
  rw [m_dag_Below.eq_1] at hm
  have hst := St.start col w0
  replace h0 := h0.keep (Stay.start col w0)
  replace h1 := h1.keep (Stay.start col w0)
  refine wseq ?_
  refine wregion ?_
  refine lv (v := (.slice none (([] : List Int).length) 0)) rfl rfl (r_assign rfl) ?_
  refine lv (v := (.int .i64 0)) rfl rfl (r_assign rfl) ?_
  refine lnil ?_
  refine wseq ?_
  refine wseq ?_
  refine wregion ?_
  refine lv (v := (.slice a0 p0_parents.length cap0)) rfl rfl (r_move rfl) ?_
  obtain ⟨r_1, hr_2, hm⟩ := bind_some hm
  refine lc rfl rfl (r_call1 Try.call18 rfl) (c_dag_Check N (col0 col) _ a0 cap0 p0_parents h0 r_1 hr_2) ?_
  rintro _ w_3 ⟨rfl, hg_4⟩
  refine ⟨_, rfl, ?_⟩
  replace hg_4 : Grow (col0 col) w0 (col0 col) w_3 := .of_below hg_4
  replace h0 := h0.gr hg_4
  replace h1 := h1.gr hg_4
  replace hst := hst.grow hg_4
  refine lv (v := (.int .i64 r_1)) rfl rfl (r_assign rfl) ?_
  refine lnil ?_
  refine wseq ?_
  refine wregion ?_
  refine lv (v := (.int .i64 r_1)) rfl rfl (r_move rfl) ?_
  refine lv (v := (.bool (!decide (r_1 = 0)))) rfl rfl (r_neq r_1 0 rfl rfl) ?_
  refine lnil ?_
  refine wcond (!decide (r_1 = 0)) rfl (fun hb => ?_) (fun hb => ?_)
  · rw [if_pos hb] at hm
    clear hb
    refine wseq ?_
    refine wregion ?_
    refine lv (v := (.int .i64 r_1)) rfl rfl (r_move rfl) ?_
    refine lv (v := (.slice none (([] : List Int).length) 0)) rfl rfl (r_assign rfl) ?_
    refine lv (v := (.int .i64 r_1)) rfl rfl (r_assign rfl) ?_
    refine lnil ?_
    refine wret ?_
    cases hm
    exact ⟨rfl, colF w0.heap.size col (col0 col) (fun n => 0), none, 0, rfl, hst.fin (fun n => 0), Own.nil⟩
  · rw [if_neg (by rw [hb]; decide)] at hm
    clear hb
    refine wskip ?_
    refine wseq ?_
    refine wregion ?_
    refine lv (v := (.slice a0 p0_parents.length cap0)) rfl rfl (r_move rfl) ?_
    obtain ⟨r_5, hr_6, hm⟩ := bind_some hm
    refine lc rfl rfl (r_call1 Try.call29 rfl) (c_dag_children 1 (col0 col) _ a0 cap0 p0_parents h0 r_5 hr_6) ?_
    rintro _ w_10 ⟨col_12, ra_7, rc_8, rfl, hg_11, rh_9⟩
    refine ⟨_, rfl, ?_⟩
    replace h1 := h1.gr hg_11
    replace h0 := h0.gr hg_11
    replace hst := hst.grow hg_11
    refine lv (v := (.slice a1 p1_points.length cap1)) rfl rfl (r_move rfl) ?_
    obtain ⟨r_13, hr_14, hm⟩ := bind_some hm
    refine lc rfl rfl (r_call2 Try.call38 rfl rfl) (c_dag_reach N 2 (frC 1 col_12) _ ra_7 rc_8 r_5 a1 cap1 p1_points (rh_9.toSlF (Froz.row (Froz.int .i64))) (h1.froz 1) r_13 hr_14) ?_
    rintro _ w_18 ⟨col_20, ra_15, rc_16, rfl, hg_19, rh_17⟩
    refine ⟨_, rfl, ?_⟩
    replace rh_17 := rh_17.thaw (flat_int .i64) hg_19 ((Fz.refl (col := col_12)).froz 1) (by decide)
    replace hg_19 := hg_19.thawR (col := col_12)
    generalize colR w_10.heap.size col_12 col_20 = col_21 at *
    replace rh_9 := rh_9.gr hg_19
    replace h1 := h1.gr hg_19
    replace hst := hst.grow hg_19
    refine lv (v := (.slice ra_15 r_13.1.length rc_16)) rfl rfl (r_extract rfl rfl) ?_
    refine lv (v := (.int .i64 r_13.2)) rfl rfl (r_extract rfl rfl) ?_
    refine lv (v := (.slice ra_15 r_13.1.length rc_16)) rfl rfl (r_assign rfl) ?_
    refine lv (v := (.int .i64 r_13.2)) rfl rfl (r_assign rfl) ?_
    refine lnil ?_
    refine wret ?_
    cases hm
    exact ⟨rfl, colF w0.heap.size col col_21 (fun n => bif Nat.beq n 2 then c1 else 0), ra_15, rc_16, rfl, hst.fin (fun n => bif Nat.beq n 2 then c1 else 0), hst.finOwn (g := (fun n => bif Nat.beq n 2 then c1 else 0)) rfl rh_17 (by decide) (by decide) rfl⟩




/-- What the law's calls answer where the parents may be. -/
structure Good (N : Nat) (P D : List (List Int)) : Prop where
  sml : Sml P
  ir : ∀ l ∈ P, InR P.length l
  chk : m_dag_Check N P = some 0
  kids : m_dag_children P = some D
  klen : D.length = P.length
  kid : ∀ p : Nat, p < P.length → D.getD p [] = kidsL 0 P p
theorem good {N : Nat} {P : List (List Int)} (h : Sml P) (hN : 2000000 < N) (hc : m_dag_Check N P = some 0) : ∃ D, Good N P D := by
  have hn := h.n
  have ht := h.t
  have hI : insideB P.length P = true := by
    rw [m_dag_Check] at hc
    rcases says h hN with ⟨e, D, R, hne⟩ | ⟨I, _⟩ | ⟨I, _⟩
    · rw [D] at hc
      have : e = 0 := by simpa using hc
      omega
    · exact I
    · exact I
  obtain ⟨D, h4, h5, h6⟩ := children_eq (P := P) (by omega) (by omega) (inside_InR hI)
  exact ⟨D, h, inside_InR hI, hc, h4, h5, h6⟩
namespace Good
variable {N : Nat} {P D : List (List Int)} (g : Good N P D) (hN : 2000000 < N)
include g
theorem kid_ir : ∀ l ∈ D, InR P.length l := by
  intro l hl x hx
  obtain ⟨p, hp, rfl⟩ := List.getElem_of_mem hl
  have hp' : p < P.length := by have := g.klen; omega
  rw [← lgetD_lt (d := []) hp, g.kid p hp'] at hx
  obtain ⟨c, h1, _, h2⟩ := kids_mem (p : Int) 0 P x hx
  omega
include hN
theorem above (pts : List Int) (h : InR P.length pts) : ∃ r, m_dag_Above N P pts = some (isort r, 0) ∧ r.length ≤ P.length ∧ ∀ x, x ∈ r ↔ ∃ p ∈ pts, Reach P p x := by
  obtain ⟨r, h1, h2, h3, h4⟩ := (reach_eq (N := N) (W := P) rfl g.sml.n g.ir hN pts).1 h
  exact ⟨r, by rw [m_dag_Above, g.chk, Option.bind_some, if_neg (by decide), h1]; rfl, h3.len h2, h4⟩
theorem below (pts : List Int) (h : InR P.length pts) : ∃ r, m_dag_Below N P pts = some (isort r, 0) ∧ r.length ≤ P.length ∧ ∀ x, x ∈ r ↔ ∃ p ∈ pts, Reach D p x := by
  obtain ⟨r, h1, h2, h3, h4⟩ := (reach_eq (N := N) (W := D) g.klen g.sml.n g.kid_ir hN pts).1 h
  exact ⟨r, by rw [m_dag_Below, g.chk, Option.bind_some, if_neg (by decide), g.kids, Option.bind_some, h1]; rfl, h3.len h2, h4⟩
omit hN
end Good
theorem isort_len (l : List Int) : (isort l).length = l.length := (isort_perm l).length_eq
section
variable {N : Nat} {P D : List (List Int)} (g : Good N P D) (hN : 2000000 < N)
include g hN
end

theorem el3_50 : ElemOk Try.prog 3 1 8 := ⟨Try.t3, _, rfl, rfl, rfl, rfl, rfl⟩

def m_credenceref14_closed_J1 (p1_points : (List Int)) (in_10 : List Bool) (i_14 : Int) (kk_L1 : ((List Bool) → Int → Option ((List Int) × Int))) (v_20 : Bool) : Option ((List Int) × Int) :=
  if v_20 = true then (some (([] : List Int), 3)) else ((at? p1_points i_14).bind fun e_21 => (at? in_10 e_21).bind fun e_23 => (some (in_10.set (Int.toNat e_21) true)).bind fun xs_30 => kk_L1 xs_30 (IntKind.i64.wrap (i_14 + 1)))

def m_credenceref14_closed_J2 (p0_ways : (List (List Int))) (i_49 : Int) (kk_L3 : ((List Bool) → Int → Option ((List Int) × Int))) (k_53 : Int) (in_54 : List Bool) (kk_L4 : (Int → (List Bool) → Option ((List Int) × Int))) (v_70 : Bool) : Option ((List Int) × Int) :=
  if v_70 = true then ((at? p0_ways i_49).bind fun e_71 => (at? e_71 k_53).bind fun e_78 => (at? in_54 e_78).bind fun e_80 => (some (in_54.set (Int.toNat e_78) true)).bind fun xs_87 => kk_L4 (IntKind.i64.wrap (k_53 + 1)) xs_87) else (kk_L3 in_54 (IntKind.i64.wrap (i_49 + 1)))

def m_credenceref14_closed_L4 (N : Nat) (p0_ways : (List (List Int))) (i_49 : Int) (kk_L3 : ((List Bool) → Int → Option ((List Int) × Int))) : Nat → Int → (List Bool) → Option ((List Int) × Int)
  | 0, _, _ => none
  | n_50 + 1, k_53, in_54 => (at? p0_ways i_49).bind fun e_88 => if (decide (k_53 < (e_88.length : Int))) = true then ((at? in_54 i_49).bind fun e_96 => m_credenceref14_closed_J2 p0_ways i_49 kk_L3 k_53 in_54 (m_credenceref14_closed_L4 N p0_ways i_49 kk_L3 n_50) e_96) else (m_credenceref14_closed_J2 p0_ways i_49 kk_L3 k_53 in_54 (m_credenceref14_closed_L4 N p0_ways i_49 kk_L3 n_50) false)

def m_credenceref14_closed_L3 (N : Nat) (p0_ways : (List (List Int))) (n_41 : Int) (kk_L2 : ((List Bool) → Int → Option ((List Int) × Int))) : Nat → (List Bool) → Int → Option ((List Int) × Int)
  | 0, _, _ => none
  | n_42 + 1, in_45, i_49 => if (decide (i_49 < (p0_ways.length : Int))) = true then (m_credenceref14_closed_L4 N p0_ways i_49 (m_credenceref14_closed_L3 N p0_ways n_41 kk_L2 n_42) N 0 in_45) else (kk_L2 in_45 (IntKind.i64.wrap (n_41 + 1)))

def m_credenceref14_closed_J3 (i_105 : Int) (kk_L5 : ((List Int) → Int → Option ((List Int) × Int))) (l_108 : List Int) : Option ((List Int) × Int) :=
  kk_L5 l_108 (IntKind.i64.wrap (i_105 + 1))

def m_credenceref14_closed_L5 (N : Nat) (p0_ways : (List (List Int))) (in_37 : List Bool) : Nat → (List Int) → Int → Option ((List Int) × Int)
  | 0, _, _ => none
  | n_98 + 1, l_101, i_105 => if (decide (i_105 < (p0_ways.length : Int))) = true then ((at? in_37 i_105).bind fun e_112 => if e_112 = true then (chk ((l_101.length + [i_105].length) * 8 ≤ 140737488355328 ∧ l_101.length + [i_105].length ≤ maxLen) (m_credenceref14_closed_J3 i_105 (m_credenceref14_closed_L5 N p0_ways in_37 n_98) (l_101 ++ [i_105]))) else (m_credenceref14_closed_J3 i_105 (m_credenceref14_closed_L5 N p0_ways in_37 n_98) l_101)) else (some (l_101, 0))

def m_credenceref14_closed_L2 (N : Nat) (p0_ways : (List (List Int))) : Nat → (List Bool) → Int → Option ((List Int) × Int)
  | 0, _, _ => none
  | n_34 + 1, in_37, n_41 => if (decide (n_41 < (p0_ways.length : Int))) = true then (m_credenceref14_closed_L3 N p0_ways n_41 (m_credenceref14_closed_L2 N p0_ways n_34) N in_37 0) else (m_credenceref14_closed_L5 N p0_ways in_37 N ([] : List Int) 0)

def m_credenceref14_closed_L1 (N : Nat) (p0_ways : (List (List Int))) (p1_points : (List Int)) : Nat → (List Bool) → Int → Option ((List Int) × Int)
  | 0, _, _ => none
  | n_7 + 1, in_10, i_14 => if (decide (i_14 < (p1_points.length : Int))) = true then ((at? p1_points i_14).bind fun e_31 => if (decide (e_31 < 0)) = true then (m_credenceref14_closed_J1 p1_points in_10 i_14 (m_credenceref14_closed_L1 N p0_ways p1_points n_7) true) else (m_credenceref14_closed_J1 p1_points in_10 i_14 (m_credenceref14_closed_L1 N p0_ways p1_points n_7) (decide ((p0_ways.length : Int) ≤ e_31)))) else (m_credenceref14_closed_L2 N p0_ways N in_10 0)

def m_credenceref14_closed (N : Nat) (p0_ways : (List (List Int))) (p1_points : (List Int)) : Option ((List Int) × Int) :=
  chk (p0_ways.length * 1 ≤ 281474976710656 ∧ p0_ways.length ≤ maxLen) (m_credenceref14_closed_L1 N p0_ways p1_points N (List.replicate p0_ways.length (false : Bool)) 0)

set_option maxRecDepth 100000 in
theorem c_credenceref14_closed (N : Nat) (c1 : Nat) (col : Col) (w0 : World) (a0 : Option Addr) (cap0 : Nat) (p0_ways : (List (List Int))) (a1 : Option Addr) (cap1 : Nat) (p1_points : (List Int)) (h0 : Sl (Rep.slice (Rep.int .i64)) col w0 a0 cap0 p0_ways) (h1 : Sl (Rep.int .i64) col w0 a1 cap1 p1_points) (r : ((List Int) × Int)) (hm : m_credenceref14_closed N p0_ways p1_points = some r) :
    Calls Try.prog 50 #[(.slice a0 p0_ways.length cap0), (.slice a1 p1_points.length cap1)] w0 (fun e w' => ∃ (col' : Col) (ra1 : Option Addr) (rc2 : Nat), e = .returned (.tuple #[(.slice ra1 r.1.length rc2), (.int .i64 r.2)]) ∧ Grow col w0 col' w' ∧ Own (Rep.int .i64) 3 c1 col' w' ra1 rc2 r.1) := by
  refine calls_of2 4 5 (m := 93) (args := [(.slice a0 p0_ways.length cap0), (.slice a1 p1_points.length cap1)]) Try.func50 rfl rfl rfl rfl rfl ?_
  rw [m_credenceref14_closed.eq_1] at hm
  have hst := St.start col w0
  replace h0 := h0.keep (Stay.start col w0)
  replace h1 := h1.keep (Stay.start col w0)
  refine wseq ?_
  refine wregion ?_
  refine lv (v := (.slice none (([] : List Int).length) 0)) rfl rfl (r_assign rfl) ?_
  refine lv (v := (.int .i64 0)) rfl rfl (r_assign rfl) ?_
  refine lnil ?_
  refine wseq ?_
  refine wregion ?_
  refine lv (v := (.slice a0 p0_ways.length cap0)) rfl rfl (r_move rfl) ?_
  refine lv (v := (.int .i64 (p0_ways.length : Int))) rfl rfl (r_len Try.underlying22 rfl) ?_
  obtain ⟨hb_1, hm⟩ := chk_some hm
  refine l_make (col := (col0 col)) (w := w0) (r := Rep.bool) (n := p0_ways.length) (x0 := false) 1 rfl Try.underlying64 Try.t4 rfl rfl rfl rfl rfl rfl rfl hb_1.1 hb_1.2 (rd_bool false) ?_
  intro a_2 w_3 col_4 hg_5 h_6
  replace h0 := h0.gr hg_5
  replace h1 := h1.gr hg_5
  replace hst := hst.grow hg_5
  refine lv (v := (.slice a_2 ((List.replicate p0_ways.length (false : Bool)).length) p0_ways.length)) rfl rfl (r_assign rfl) ?_
  refine lnil ?_
  refine wseq ?_
  refine wseq ?_
  refine wregion ?_
  refine lv (v := (.int .i64 0)) rfl rfl (r_assign rfl) ?_
  refine lnil ?_
  refine wblock ?_
  refine wloop (fun n f w_8 => ∃ (col_9 : Col) (a_11 : Option Addr) (cap_12 : Nat) (in_10 : List Bool) (i_14 : Int) (n_7 : Nat), n_7 = n ∧ m_credenceref14_closed_L1 N p0_ways p1_points n_7 in_10 i_14 = some r ∧ St w0 (col0 col) col_9 w_8 ∧ Sl (Rep.slice (Rep.int .i64)) col_9 w_8 a0 cap0 p0_ways ∧ Sl (Rep.int .i64) col_9 w_8 a1 cap1 p1_points ∧ Own Rep.bool 4 1 col_9 w_8 a_11 cap_12 in_10 ∧ f 0 = (.slice a0 p0_ways.length cap0) ∧ f 1 = (.slice a1 p1_points.length cap1) ∧ f 6 = (.slice a_11 in_10.length cap_12) ∧ f 7 = (.int .i64 i_14) ∧ f 1000000 = (enc [])) N ⟨col_4, a_2, p0_ways.length, (List.replicate p0_ways.length (false : Bool)), 0, N, rfl, hm, hst, h0, h1, h_6, rfl, rfl, rfl, rfl, rfl⟩ ?_
  clear hm; intro n f w_8 hI
  obtain ⟨col_9, a_11, cap_12, in_10, i_14, n_7, hn, hm, hst, h0, h1, h_13, hs0, hs1, hs6, hs7, hs1000000⟩ := hI
  subst hn
  refine .ld (d := 0) (v := (.slice a0 p0_ways.length cap0)) hs0 ?_
  refine .ld (d := 1) (v := (.slice a1 p1_points.length cap1)) hs1 ?_
  refine .ld (d := 6) (v := (.slice a_11 in_10.length cap_12)) hs6 ?_
  refine .ld (d := 7) (v := (.int .i64 i_14)) hs7 ?_
  refine .ld (d := 1000000) (v := (enc [])) hs1000000 ?_
  clear hs0 hs1 hs6 hs7 hs1000000
  cases n_7 with
  | zero => rw [m_credenceref14_closed_L1.eq_1] at hm; cases hm
  | succ n_7 =>
    rw [m_credenceref14_closed_L1.eq_2] at hm
    refine wseq ?_
    refine wseq ?_
    refine wregion ?_
    refine lv (v := (.int .i64 i_14)) rfl rfl (r_move rfl) ?_
    refine lv (v := (.slice a1 p1_points.length cap1)) rfl rfl (r_move rfl) ?_
    refine lv (v := (.int .i64 (p1_points.length : Int))) rfl rfl (r_len Try.underlying31 rfl) ?_
    refine lv (v := (.bool (decide (i_14 < (p1_points.length : Int))))) rfl rfl (r_lss i_14 (p1_points.length : Int) rfl rfl) ?_
    refine lnil ?_
    refine wcond (decide (i_14 < (p1_points.length : Int))) rfl (fun hb => ?_) (fun hb => ?_)
    · rw [if_pos hb] at hm
      clear hb
      refine wskip ?_
      refine wseq ?_
      refine wblock ?_
      refine wseq ?_
      refine wseq ?_
      refine Wp.cut (fun f w_18 => ∃ (col_19 : Col) (v_20 : Bool), m_credenceref14_closed_J1 p1_points in_10 i_14 (m_credenceref14_closed_L1 N p0_ways p1_points n_7) v_20 = some r ∧ St w0 (col0 col) col_19 w_18 ∧ Sl (Rep.slice (Rep.int .i64)) col_19 w_18 a0 cap0 p0_ways ∧ Sl (Rep.int .i64) col_19 w_18 a1 cap1 p1_points ∧ Own Rep.bool 4 1 col_19 w_18 a_11 cap_12 in_10 ∧ f 0 = (.slice a0 p0_ways.length cap0) ∧ f 1 = (.slice a1 p1_points.length cap1) ∧ f 35 = (.bool v_20) ∧ f 6 = (.slice a_11 in_10.length cap_12) ∧ f 7 = (.int .i64 i_14) ∧ f 1000000 = (enc [])) ?_ ?_
      · intro f w_18 hJ
        obtain ⟨col_19, v_20, hm, hst, h0, h1, h_13, hs0, hs1, hs35, hs6, hs7, hs1000000⟩ := hJ
        rw [m_credenceref14_closed_J1.eq_1] at hm
        refine .ld (d := 0) (v := (.slice a0 p0_ways.length cap0)) hs0 ?_
        refine .ld (d := 1) (v := (.slice a1 p1_points.length cap1)) hs1 ?_
        refine .ld (d := 35) (v := (.bool v_20)) hs35 ?_
        refine .ld (d := 6) (v := (.slice a_11 in_10.length cap_12)) hs6 ?_
        refine .ld (d := 7) (v := (.int .i64 i_14)) hs7 ?_
        refine .ld (d := 1000000) (v := (enc [])) hs1000000 ?_
        clear hs0 hs1 hs35 hs6 hs7 hs1000000
        refine wcond (v_20) rfl (fun hb => ?_) (fun hb => ?_)
        · rw [if_pos hb] at hm
          clear hb
          refine wseq ?_
          refine wregion ?_
          refine lv (v := (.slice none (([] : List Int).length) 0)) rfl rfl (r_assign rfl) ?_
          refine lv (v := (.int .i64 3)) rfl rfl (r_assign rfl) ?_
          refine lnil ?_
          refine wret ?_
          cases hm
          exact ⟨rfl, colF w0.heap.size col col_19 (fun n => 0), none, 0, rfl, hst.fin (fun n => 0), Own.nil⟩
        · rw [if_neg (by rw [hb]; decide)] at hm
          clear hb
          refine wskip ?_
          refine wregion ?_
          refine lv (v := (.slice a_11 in_10.length cap_12)) rfl rfl (r_move rfl) ?_
          refine lv (v := (.slice a1 p1_points.length cap1)) rfl rfl (r_move rfl) ?_
          refine lv (v := (.int .i64 i_14)) rfl rfl (r_move rfl) ?_
          obtain ⟨e_21, hj_22, hm⟩ := bind_some hm
          refine lv (v := (sptr a1 (Int.toNat i_14 * 1))) rfl rfl (r_idx Try.underlying31 Try.sizeOf3 rfl rfl (at?_some hj_22).1 (at?_some hj_22).2.1 (h1.addr hj_22)) ?_
          refine lv (v := (.int .i64 e_21)) rfl rfl (r_ld Try.isAgg3 rfl (h1.atInt hj_22)) ?_
          obtain ⟨e_23, hj_24, hm⟩ := bind_some hm
          refine lv (v := (sptr a_11 (Int.toNat e_21 * 1))) rfl rfl (r_idx Try.underlying64 Try.sizeOf4 rfl rfl (at?_some hj_24).1 (at?_some hj_24).2.1 (h_13.addr hj_24)) ?_
          obtain ⟨xs_30, hz_29, hm⟩ := bind_some hm
          have hz_29 : xs_30 = in_10.set (Int.toNat e_21) true := (Option.some.inj hz_29).symm
          refine l_store (x1 := true) (v := (.bool true)) h_13 hj_24 rfl Try.sizeOf4 (rd_bool true) rfl rfl (by decide) ?_
          intro w_25 hk_26 hs_27 h_28
          rw [← hz_29] at h_28
          replace h0 := h0.kp hk_26 (by decide)
          replace h1 := h1.kp hk_26 (by decide)
          replace hst := hst.kp hk_26 hs_27 (by decide) (by decide)
          refine .ld (d := 6) (v := (.slice a_11 xs_30.length cap_12)) (congrArg (fun n => Value.slice a_11 n cap_12) (show in_10.length = xs_30.length by rw [hz_29, List.length_set])) ?_
          clear h_13
          refine lnil ?_
          refine wregion ?_
          refine lv (v := (.int .i64 i_14)) rfl rfl (r_move rfl) ?_
          refine lv (v := (.int .i64 (IntKind.i64.wrap (i_14 + 1)))) rfl rfl (r_add i_14 1 rfl rfl) ?_
          refine lv (v := (.int .i64 (IntKind.i64.wrap (i_14 + 1)))) rfl rfl (r_assign rfl) ?_
          refine lnil ?_
          exact ⟨n_7, by omega, ⟨col_19, a_11, cap_12, xs_30, (IntKind.i64.wrap (i_14 + 1)), n_7, rfl, hm, hst, h0, h1, h_28, rfl, rfl, rfl, rfl, rfl⟩⟩
      · refine wregion ?_
        refine lv (v := (.slice a1 p1_points.length cap1)) rfl rfl (r_move rfl) ?_
        refine lv (v := (.int .i64 i_14)) rfl rfl (r_move rfl) ?_
        obtain ⟨e_31, hj_32, hm⟩ := bind_some hm
        refine lv (v := (sptr a1 (Int.toNat i_14 * 1))) rfl rfl (r_idx Try.underlying31 Try.sizeOf3 rfl rfl (at?_some hj_32).1 (at?_some hj_32).2.1 (h1.addr hj_32)) ?_
        refine lv (v := (.int .i64 e_31)) rfl rfl (r_ld Try.isAgg3 rfl (h1.atInt hj_32)) ?_
        refine lv (v := (.bool (decide (e_31 < 0)))) rfl rfl (r_lss e_31 0 rfl rfl) ?_
        refine lv (v := (.bool (decide (e_31 < 0)))) rfl rfl (r_move rfl) ?_
        by_cases hg_33 : (decide (e_31 < 0)) = true
        · rw [if_pos hg_33] at hm
          refine lp (b := decide (e_31 < 0)) 27 rfl rfl rfl rfl (by rw [hg_33]; rfl) ?_
          refine lp (b := decide (e_31 < 0)) 27 rfl rfl rfl rfl (by rw [hg_33]; rfl) ?_
          refine lp (b := decide (e_31 < 0)) 27 rfl rfl rfl rfl (by rw [hg_33]; rfl) ?_
          refine lp (b := decide (e_31 < 0)) 27 rfl rfl rfl rfl (by rw [hg_33]; rfl) ?_
          refine lp (b := decide (e_31 < 0)) 27 rfl rfl rfl rfl (by rw [hg_33]; rfl) ?_
          refine lp (b := decide (e_31 < 0)) 27 rfl rfl rfl rfl (by rw [hg_33]; rfl) ?_
          refine lp (b := decide (e_31 < 0)) 27 rfl rfl rfl rfl (by rw [hg_33]; rfl) ?_
          refine lv (v := (.bool true)) rfl rfl (r_pickT (congrArg Value.bool hg_33) rfl) ?_
          refine lnil ?_
          exact ⟨col_9, true, hm, hst, h0, h1, h_13, rfl, rfl, rfl, rfl, rfl, rfl⟩
        · rw [if_neg hg_33] at hm
          replace hg_33 := Bool.eq_false_iff.2 hg_33
          refine lg (b := decide (e_31 < 0)) 27 rfl rfl rfl (by rw [hg_33]; rfl) ?_
          refine lv (v := (.slice a1 p1_points.length cap1)) rfl rfl (r_move rfl) ?_
          refine lg (b := decide (e_31 < 0)) 27 rfl rfl rfl (by rw [hg_33]; rfl) ?_
          refine lv (v := (.int .i64 i_14)) rfl rfl (r_move rfl) ?_
          refine lg (b := decide (e_31 < 0)) 27 rfl rfl rfl (by rw [hg_33]; rfl) ?_
          refine lv (v := (sptr a1 (Int.toNat i_14 * 1))) rfl rfl (r_idx Try.underlying31 Try.sizeOf3 rfl rfl (at?_some hj_32).1 (at?_some hj_32).2.1 (h1.addr hj_32)) ?_
          refine lg (b := decide (e_31 < 0)) 27 rfl rfl rfl (by rw [hg_33]; rfl) ?_
          refine lv (v := (.int .i64 e_31)) rfl rfl (r_ld Try.isAgg3 rfl (h1.atInt hj_32)) ?_
          refine lg (b := decide (e_31 < 0)) 27 rfl rfl rfl (by rw [hg_33]; rfl) ?_
          refine lv (v := (.slice a0 p0_ways.length cap0)) rfl rfl (r_move rfl) ?_
          refine lg (b := decide (e_31 < 0)) 27 rfl rfl rfl (by rw [hg_33]; rfl) ?_
          refine lv (v := (.int .i64 (p0_ways.length : Int))) rfl rfl (r_len Try.underlying22 rfl) ?_
          refine lg (b := decide (e_31 < 0)) 27 rfl rfl rfl (by rw [hg_33]; rfl) ?_
          refine lv (v := (.bool (decide ((p0_ways.length : Int) ≤ e_31)))) rfl rfl (r_geq e_31 (p0_ways.length : Int) rfl rfl) ?_
          refine lv (v := (.bool (decide ((p0_ways.length : Int) ≤ e_31)))) rfl rfl (r_pickF (congrArg Value.bool hg_33) rfl) ?_
          refine lnil ?_
          exact ⟨col_9, (decide ((p0_ways.length : Int) ≤ e_31)), hm, hst, h0, h1, h_13, rfl, rfl, rfl, rfl, rfl, rfl⟩
    · rw [if_neg (by rw [hb]; decide)] at hm
      clear hb
      refine wexit (inB_hit ?_)
      refine wseq ?_
      refine wseq ?_
      refine wregion ?_
      refine lv (v := (.int .i64 0)) rfl rfl (r_assign rfl) ?_
      refine lnil ?_
      refine wblock ?_
      refine wloop (fun n f w_35 => ∃ (col_36 : Col) (a_38 : Option Addr) (cap_39 : Nat) (in_37 : List Bool) (n_41 : Int) (n_34 : Nat), n_34 = n ∧ m_credenceref14_closed_L2 N p0_ways n_34 in_37 n_41 = some r ∧ St w0 (col0 col) col_36 w_35 ∧ Sl (Rep.slice (Rep.int .i64)) col_36 w_35 a0 cap0 p0_ways ∧ Own Rep.bool 4 1 col_36 w_35 a_38 cap_39 in_37 ∧ f 0 = (.slice a0 p0_ways.length cap0) ∧ f 6 = (.slice a_38 in_37.length cap_39) ∧ f 8 = (.int .i64 n_41) ∧ f 1000000 = (enc [])) N ⟨col_9, a_11, cap_12, in_10, 0, N, rfl, hm, hst, h0, h_13, rfl, rfl, rfl, rfl⟩ ?_
      clear hm; intro n f w_35 hI
      obtain ⟨col_36, a_38, cap_39, in_37, n_41, n_34, hn, hm, hst, h0, h_40, hs0, hs6, hs8, hs1000000⟩ := hI
      subst hn
      refine .ld (d := 0) (v := (.slice a0 p0_ways.length cap0)) hs0 ?_
      refine .ld (d := 6) (v := (.slice a_38 in_37.length cap_39)) hs6 ?_
      refine .ld (d := 8) (v := (.int .i64 n_41)) hs8 ?_
      refine .ld (d := 1000000) (v := (enc [])) hs1000000 ?_
      clear hs0 hs6 hs8 hs1000000
      cases n_34 with
      | zero => rw [m_credenceref14_closed_L2.eq_1] at hm; cases hm
      | succ n_34 =>
        rw [m_credenceref14_closed_L2.eq_2] at hm
        refine wseq ?_
        refine wseq ?_
        refine wregion ?_
        refine lv (v := (.int .i64 n_41)) rfl rfl (r_move rfl) ?_
        refine lv (v := (.slice a0 p0_ways.length cap0)) rfl rfl (r_move rfl) ?_
        refine lv (v := (.int .i64 (p0_ways.length : Int))) rfl rfl (r_len Try.underlying22 rfl) ?_
        refine lv (v := (.bool (decide (n_41 < (p0_ways.length : Int))))) rfl rfl (r_lss n_41 (p0_ways.length : Int) rfl rfl) ?_
        refine lnil ?_
        refine wcond (decide (n_41 < (p0_ways.length : Int))) rfl (fun hb => ?_) (fun hb => ?_)
        · rw [if_pos hb] at hm
          clear hb
          refine wskip ?_
          refine wseq ?_
          refine wblock ?_
          refine wseq ?_
          refine wregion ?_
          refine lv (v := (.int .i64 0)) rfl rfl (r_assign rfl) ?_
          refine lnil ?_
          refine wblock ?_
          refine wloop (fun n f w_43 => ∃ (col_44 : Col) (a_46 : Option Addr) (cap_47 : Nat) (in_45 : List Bool) (i_49 : Int) (n_42 : Nat), n_42 = n ∧ m_credenceref14_closed_L3 N p0_ways n_41 (m_credenceref14_closed_L2 N p0_ways n_34) n_42 in_45 i_49 = some r ∧ St w0 (col0 col) col_44 w_43 ∧ Sl (Rep.slice (Rep.int .i64)) col_44 w_43 a0 cap0 p0_ways ∧ Own Rep.bool 4 1 col_44 w_43 a_46 cap_47 in_45 ∧ f 0 = (.slice a0 p0_ways.length cap0) ∧ f 6 = (.slice a_46 in_45.length cap_47) ∧ f 8 = (.int .i64 n_41) ∧ f 9 = (.int .i64 i_49) ∧ f 1000000 = (enc [])) N ⟨col_36, a_38, cap_39, in_37, 0, N, rfl, hm, hst, h0, h_40, rfl, rfl, rfl, rfl, rfl⟩ ?_
          clear hm; intro n f w_43 hI
          obtain ⟨col_44, a_46, cap_47, in_45, i_49, n_42, hn, hm, hst, h0, h_48, hs0, hs6, hs8, hs9, hs1000000⟩ := hI
          subst hn
          refine .ld (d := 0) (v := (.slice a0 p0_ways.length cap0)) hs0 ?_
          refine .ld (d := 6) (v := (.slice a_46 in_45.length cap_47)) hs6 ?_
          refine .ld (d := 8) (v := (.int .i64 n_41)) hs8 ?_
          refine .ld (d := 9) (v := (.int .i64 i_49)) hs9 ?_
          refine .ld (d := 1000000) (v := (enc [])) hs1000000 ?_
          clear hs0 hs6 hs8 hs9 hs1000000
          cases n_42 with
          | zero => rw [m_credenceref14_closed_L3.eq_1] at hm; cases hm
          | succ n_42 =>
            rw [m_credenceref14_closed_L3.eq_2] at hm
            refine wseq ?_
            refine wseq ?_
            refine wregion ?_
            refine lv (v := (.int .i64 i_49)) rfl rfl (r_move rfl) ?_
            refine lv (v := (.slice a0 p0_ways.length cap0)) rfl rfl (r_move rfl) ?_
            refine lv (v := (.int .i64 (p0_ways.length : Int))) rfl rfl (r_len Try.underlying22 rfl) ?_
            refine lv (v := (.bool (decide (i_49 < (p0_ways.length : Int))))) rfl rfl (r_lss i_49 (p0_ways.length : Int) rfl rfl) ?_
            refine lnil ?_
            refine wcond (decide (i_49 < (p0_ways.length : Int))) rfl (fun hb => ?_) (fun hb => ?_)
            · rw [if_pos hb] at hm
              clear hb
              refine wskip ?_
              refine wseq ?_
              refine wblock ?_
              refine wseq ?_
              refine wregion ?_
              refine lv (v := (.int .i64 0)) rfl rfl (r_assign rfl) ?_
              refine lnil ?_
              refine wblock ?_
              refine wloop (fun n f w_51 => ∃ (col_52 : Col) (k_53 : Int) (a_55 : Option Addr) (cap_56 : Nat) (in_54 : List Bool) (n_50 : Nat), n_50 = n ∧ m_credenceref14_closed_L4 N p0_ways i_49 (m_credenceref14_closed_L3 N p0_ways n_41 (m_credenceref14_closed_L2 N p0_ways n_34) n_42) n_50 k_53 in_54 = some r ∧ St w0 (col0 col) col_52 w_51 ∧ Sl (Rep.slice (Rep.int .i64)) col_52 w_51 a0 cap0 p0_ways ∧ Own Rep.bool 4 1 col_52 w_51 a_55 cap_56 in_54 ∧ f 0 = (.slice a0 p0_ways.length cap0) ∧ f 10 = (.int .i64 k_53) ∧ f 6 = (.slice a_55 in_54.length cap_56) ∧ f 8 = (.int .i64 n_41) ∧ f 9 = (.int .i64 i_49) ∧ f 1000000 = (enc [])) N ⟨col_44, 0, a_46, cap_47, in_45, N, rfl, hm, hst, h0, h_48, rfl, rfl, rfl, rfl, rfl, rfl⟩ ?_
              clear hm; intro n f w_51 hI
              obtain ⟨col_52, k_53, a_55, cap_56, in_54, n_50, hn, hm, hst, h0, h_57, hs0, hs10, hs6, hs8, hs9, hs1000000⟩ := hI
              subst hn
              refine .ld (d := 0) (v := (.slice a0 p0_ways.length cap0)) hs0 ?_
              refine .ld (d := 10) (v := (.int .i64 k_53)) hs10 ?_
              refine .ld (d := 6) (v := (.slice a_55 in_54.length cap_56)) hs6 ?_
              refine .ld (d := 8) (v := (.int .i64 n_41)) hs8 ?_
              refine .ld (d := 9) (v := (.int .i64 i_49)) hs9 ?_
              refine .ld (d := 1000000) (v := (enc [])) hs1000000 ?_
              clear hs0 hs10 hs6 hs8 hs9 hs1000000
              cases n_50 with
              | zero => rw [m_credenceref14_closed_L4.eq_1] at hm; cases hm
              | succ n_50 =>
                rw [m_credenceref14_closed_L4.eq_2] at hm
                refine wseq ?_
                refine wseq ?_
                refine Wp.cut (fun f w_68 => ∃ (col_69 : Col) (v_70 : Bool), m_credenceref14_closed_J2 p0_ways i_49 (m_credenceref14_closed_L3 N p0_ways n_41 (m_credenceref14_closed_L2 N p0_ways n_34) n_42) k_53 in_54 (m_credenceref14_closed_L4 N p0_ways i_49 (m_credenceref14_closed_L3 N p0_ways n_41 (m_credenceref14_closed_L2 N p0_ways n_34) n_42) n_50) v_70 = some r ∧ St w0 (col0 col) col_69 w_68 ∧ Sl (Rep.slice (Rep.int .i64)) col_69 w_68 a0 cap0 p0_ways ∧ Own Rep.bool 4 1 col_69 w_68 a_55 cap_56 in_54 ∧ f 0 = (.slice a0 p0_ways.length cap0) ∧ f 10 = (.int .i64 k_53) ∧ f 6 = (.slice a_55 in_54.length cap_56) ∧ f 66 = (.bool v_70) ∧ f 8 = (.int .i64 n_41) ∧ f 9 = (.int .i64 i_49) ∧ f 1000000 = (enc [])) ?_ ?_
                · intro f w_68 hJ
                  obtain ⟨col_69, v_70, hm, hst, h0, h_57, hs0, hs10, hs6, hs66, hs8, hs9, hs1000000⟩ := hJ
                  rw [m_credenceref14_closed_J2.eq_1] at hm
                  refine .ld (d := 0) (v := (.slice a0 p0_ways.length cap0)) hs0 ?_
                  refine .ld (d := 10) (v := (.int .i64 k_53)) hs10 ?_
                  refine .ld (d := 6) (v := (.slice a_55 in_54.length cap_56)) hs6 ?_
                  refine .ld (d := 66) (v := (.bool v_70)) hs66 ?_
                  refine .ld (d := 8) (v := (.int .i64 n_41)) hs8 ?_
                  refine .ld (d := 9) (v := (.int .i64 i_49)) hs9 ?_
                  refine .ld (d := 1000000) (v := (enc [])) hs1000000 ?_
                  clear hs0 hs10 hs6 hs66 hs8 hs9 hs1000000
                  refine wcond (v_70) rfl (fun hb => ?_) (fun hb => ?_)
                  · rw [if_pos hb] at hm
                    clear hb
                    refine wskip ?_
                    refine wseq ?_
                    refine wblock ?_
                    refine wregion ?_
                    refine lv (v := (.slice a_55 in_54.length cap_56)) rfl rfl (r_move rfl) ?_
                    refine lv (v := (.slice a0 p0_ways.length cap0)) rfl rfl (r_move rfl) ?_
                    refine lv (v := (.int .i64 i_49)) rfl rfl (r_move rfl) ?_
                    obtain ⟨e_71, hj_72, hm⟩ := bind_some hm
                    refine lv (v := (sptr a0 (Int.toNat i_49 * 1))) rfl rfl (r_idx Try.underlying22 Try.sizeOf31 rfl rfl (at?_some hj_72).1 (at?_some hj_72).2.1 (h0.addr hj_72)) ?_
                    obtain ⟨_, hr_73, hA_74⟩ := h0.atN hj_72
                    obtain ⟨⟨a_75, cap_76, rfl, h_77⟩, _⟩ := hr_73
                    refine lv (v := (.slice a_75 e_71.length cap_76)) rfl rfl (r_ld Try.isAgg31 rfl hA_74.one) ?_
                    refine lv (v := (.int .i64 k_53)) rfl rfl (r_move rfl) ?_
                    obtain ⟨e_78, hj_79, hm⟩ := bind_some hm
                    refine lv (v := (sptr a_75 (Int.toNat k_53 * 1))) rfl rfl (r_idx Try.underlying31 Try.sizeOf3 rfl rfl (at?_some hj_79).1 (at?_some hj_79).2.1 (h_77.addr hj_79)) ?_
                    refine lv (v := (.int .i64 e_78)) rfl rfl (r_ld Try.isAgg3 rfl (h_77.atInt hj_79)) ?_
                    obtain ⟨e_80, hj_81, hm⟩ := bind_some hm
                    refine lv (v := (sptr a_55 (Int.toNat e_78 * 1))) rfl rfl (r_idx Try.underlying64 Try.sizeOf4 rfl rfl (at?_some hj_81).1 (at?_some hj_81).2.1 (h_57.addr hj_81)) ?_
                    obtain ⟨xs_87, hz_86, hm⟩ := bind_some hm
                    have hz_86 : xs_87 = in_54.set (Int.toNat e_78) true := (Option.some.inj hz_86).symm
                    refine l_store (x1 := true) (v := (.bool true)) h_57 hj_81 rfl Try.sizeOf4 (rd_bool true) rfl rfl (by decide) ?_
                    intro w_82 hk_83 hs_84 h_85
                    rw [← hz_86] at h_85
                    replace h0 := h0.kp hk_83 (by decide)
                    replace hst := hst.kp hk_83 hs_84 (by decide) (by decide)
                    refine .ld (d := 6) (v := (.slice a_55 xs_87.length cap_56)) (congrArg (fun n => Value.slice a_55 n cap_56) (show in_54.length = xs_87.length by rw [hz_86, List.length_set])) ?_
                    clear h_57
                    refine lnil ?_
                    refine wregion ?_
                    refine lv (v := (.int .i64 k_53)) rfl rfl (r_move rfl) ?_
                    refine lv (v := (.int .i64 (IntKind.i64.wrap (k_53 + 1)))) rfl rfl (r_add k_53 1 rfl rfl) ?_
                    refine lv (v := (.int .i64 (IntKind.i64.wrap (k_53 + 1)))) rfl rfl (r_assign rfl) ?_
                    refine lnil ?_
                    exact ⟨n_50, by omega, ⟨col_69, (IntKind.i64.wrap (k_53 + 1)), a_55, cap_56, xs_87, n_50, rfl, hm, hst, h0, h_85, rfl, rfl, rfl, rfl, rfl, rfl⟩⟩
                  · rw [if_neg (by rw [hb]; decide)] at hm
                    clear hb
                    refine wexit (inB_hit ?_)
                    refine wregion ?_
                    refine lv (v := (.int .i64 i_49)) rfl rfl (r_move rfl) ?_
                    refine lv (v := (.int .i64 (IntKind.i64.wrap (i_49 + 1)))) rfl rfl (r_add i_49 1 rfl rfl) ?_
                    refine lv (v := (.int .i64 (IntKind.i64.wrap (i_49 + 1)))) rfl rfl (r_assign rfl) ?_
                    refine lnil ?_
                    exact ⟨n_42, by omega, ⟨col_69, a_55, cap_56, in_54, (IntKind.i64.wrap (i_49 + 1)), n_42, rfl, hm, hst, h0, h_57, rfl, rfl, rfl, rfl, rfl⟩⟩
                · refine wregion ?_
                  refine lv (v := (.int .i64 k_53)) rfl rfl (r_move rfl) ?_
                  refine lv (v := (.slice a0 p0_ways.length cap0)) rfl rfl (r_move rfl) ?_
                  refine lv (v := (.int .i64 i_49)) rfl rfl (r_move rfl) ?_
                  obtain ⟨e_88, hj_89, hm⟩ := bind_some hm
                  refine lv (v := (sptr a0 (Int.toNat i_49 * 1))) rfl rfl (r_idx Try.underlying22 Try.sizeOf31 rfl rfl (at?_some hj_89).1 (at?_some hj_89).2.1 (h0.addr hj_89)) ?_
                  obtain ⟨_, hr_90, hA_91⟩ := h0.atN hj_89
                  obtain ⟨⟨a_92, cap_93, rfl, h_94⟩, _⟩ := hr_90
                  refine lv (v := (.slice a_92 e_88.length cap_93)) rfl rfl (r_ld Try.isAgg31 rfl hA_91.one) ?_
                  refine lv (v := (.int .i64 (e_88.length : Int))) rfl rfl (r_len Try.underlying31 rfl) ?_
                  refine lv (v := (.bool (decide (k_53 < (e_88.length : Int))))) rfl rfl (r_lss k_53 (e_88.length : Int) rfl rfl) ?_
                  refine lv (v := (.bool (decide (k_53 < (e_88.length : Int))))) rfl rfl (r_move rfl) ?_
                  by_cases hg_95 : (decide (k_53 < (e_88.length : Int))) = true
                  · rw [if_pos hg_95] at hm
                    refine lg (b := decide (k_53 < (e_88.length : Int))) 61 rfl rfl rfl (by rw [hg_95]; rfl) ?_
                    refine lv (v := (.slice a_55 in_54.length cap_56)) rfl rfl (r_move rfl) ?_
                    refine lg (b := decide (k_53 < (e_88.length : Int))) 61 rfl rfl rfl (by rw [hg_95]; rfl) ?_
                    refine lv (v := (.int .i64 i_49)) rfl rfl (r_move rfl) ?_
                    refine lg (b := decide (k_53 < (e_88.length : Int))) 61 rfl rfl rfl (by rw [hg_95]; rfl) ?_
                    obtain ⟨e_96, hj_97, hm⟩ := bind_some hm
                    refine lv (v := (sptr a_55 (Int.toNat i_49 * 1))) rfl rfl (r_idx Try.underlying64 Try.sizeOf4 rfl rfl (at?_some hj_97).1 (at?_some hj_97).2.1 (h_57.addr hj_97)) ?_
                    refine lg (b := decide (k_53 < (e_88.length : Int))) 61 rfl rfl rfl (by rw [hg_95]; rfl) ?_
                    refine lv (v := (.bool e_96)) rfl rfl (r_ld Try.isAgg4 rfl (h_57.atBool hj_97)) ?_
                    refine lv (v := (.bool e_96)) rfl rfl (r_pickT (congrArg Value.bool hg_95) rfl) ?_
                    refine lnil ?_
                    exact ⟨col_52, e_96, hm, hst, h0, h_57, rfl, rfl, rfl, rfl, rfl, rfl, rfl⟩
                  · rw [if_neg hg_95] at hm
                    replace hg_95 := Bool.eq_false_iff.2 hg_95
                    refine lp (b := decide (k_53 < (e_88.length : Int))) 61 rfl rfl rfl rfl (by rw [hg_95]; rfl) ?_
                    refine lp (b := decide (k_53 < (e_88.length : Int))) 61 rfl rfl rfl rfl (by rw [hg_95]; rfl) ?_
                    refine lp (b := decide (k_53 < (e_88.length : Int))) 61 rfl rfl rfl rfl (by rw [hg_95]; rfl) ?_
                    refine lp (b := decide (k_53 < (e_88.length : Int))) 61 rfl rfl rfl rfl (by rw [hg_95]; rfl) ?_
                    refine lv (v := (.bool false)) rfl rfl (r_pickF (congrArg Value.bool hg_95) rfl) ?_
                    refine lnil ?_
                    exact ⟨col_52, false, hm, hst, h0, h_57, rfl, rfl, rfl, rfl, rfl, rfl, rfl⟩
            · rw [if_neg (by rw [hb]; decide)] at hm
              clear hb
              refine wexit (inB_hit ?_)
              refine wregion ?_
              refine lv (v := (.int .i64 n_41)) rfl rfl (r_move rfl) ?_
              refine lv (v := (.int .i64 (IntKind.i64.wrap (n_41 + 1)))) rfl rfl (r_add n_41 1 rfl rfl) ?_
              refine lv (v := (.int .i64 (IntKind.i64.wrap (n_41 + 1)))) rfl rfl (r_assign rfl) ?_
              refine lnil ?_
              exact ⟨n_34, by omega, ⟨col_44, a_46, cap_47, in_45, (IntKind.i64.wrap (n_41 + 1)), n_34, rfl, hm, hst, h0, h_48, rfl, rfl, rfl, rfl⟩⟩
        · rw [if_neg (by rw [hb]; decide)] at hm
          clear hb
          refine wexit (inB_hit ?_)
          refine wseq ?_
          refine wregion ?_
          refine lv (v := (.slice none (([] : List Int).length) 0)) rfl rfl (r_assign rfl) ?_
          refine lnil ?_
          refine wseq ?_
          refine wseq ?_
          refine wregion ?_
          refine lv (v := (.int .i64 0)) rfl rfl (r_assign rfl) ?_
          refine lnil ?_
          refine wblock ?_
          refine wloop (fun n f w_99 => ∃ (col_100 : Col) (a_102 : Option Addr) (cap_103 : Nat) (l_101 : List Int) (i_105 : Int) (n_98 : Nat), n_98 = n ∧ m_credenceref14_closed_L5 N p0_ways in_37 n_98 l_101 i_105 = some r ∧ St w0 (col0 col) col_100 w_99 ∧ Sl (Rep.slice (Rep.int .i64)) col_100 w_99 a0 cap0 p0_ways ∧ Own (Rep.int .i64) 3 2 col_100 w_99 a_102 cap_103 l_101 ∧ Own Rep.bool 4 1 col_100 w_99 a_38 cap_39 in_37 ∧ f 0 = (.slice a0 p0_ways.length cap0) ∧ f 11 = (.slice a_102 l_101.length cap_103) ∧ f 12 = (.int .i64 i_105) ∧ f 6 = (.slice a_38 in_37.length cap_39) ∧ f 1000000 = (enc [])) N ⟨col_36, none, 0, ([] : List Int), 0, N, rfl, hm, hst, h0, Own.nil, h_40, rfl, rfl, rfl, rfl, rfl⟩ ?_
          clear hm; intro n f w_99 hI
          obtain ⟨col_100, a_102, cap_103, l_101, i_105, n_98, hn, hm, hst, h0, h_104, h_40, hs0, hs11, hs12, hs6, hs1000000⟩ := hI
          subst hn
          refine .ld (d := 0) (v := (.slice a0 p0_ways.length cap0)) hs0 ?_
          refine .ld (d := 11) (v := (.slice a_102 l_101.length cap_103)) hs11 ?_
          refine .ld (d := 12) (v := (.int .i64 i_105)) hs12 ?_
          refine .ld (d := 6) (v := (.slice a_38 in_37.length cap_39)) hs6 ?_
          refine .ld (d := 1000000) (v := (enc [])) hs1000000 ?_
          clear hs0 hs11 hs12 hs6 hs1000000
          cases n_98 with
          | zero => rw [m_credenceref14_closed_L5.eq_1] at hm; cases hm
          | succ n_98 =>
            rw [m_credenceref14_closed_L5.eq_2] at hm
            refine wseq ?_
            refine wseq ?_
            refine wregion ?_
            refine lv (v := (.int .i64 i_105)) rfl rfl (r_move rfl) ?_
            refine lv (v := (.slice a0 p0_ways.length cap0)) rfl rfl (r_move rfl) ?_
            refine lv (v := (.int .i64 (p0_ways.length : Int))) rfl rfl (r_len Try.underlying22 rfl) ?_
            refine lv (v := (.bool (decide (i_105 < (p0_ways.length : Int))))) rfl rfl (r_lss i_105 (p0_ways.length : Int) rfl rfl) ?_
            refine lnil ?_
            refine wcond (decide (i_105 < (p0_ways.length : Int))) rfl (fun hb => ?_) (fun hb => ?_)
            · rw [if_pos hb] at hm
              clear hb
              refine wskip ?_
              refine wseq ?_
              refine Wp.cut (fun f w_106 => ∃ (col_107 : Col) (a_109 : Option Addr) (cap_110 : Nat) (l_108 : List Int), m_credenceref14_closed_J3 i_105 (m_credenceref14_closed_L5 N p0_ways in_37 n_98) l_108 = some r ∧ St w0 (col0 col) col_107 w_106 ∧ Sl (Rep.slice (Rep.int .i64)) col_107 w_106 a0 cap0 p0_ways ∧ Own (Rep.int .i64) 3 2 col_107 w_106 a_109 cap_110 l_108 ∧ Own Rep.bool 4 1 col_107 w_106 a_38 cap_39 in_37 ∧ f 0 = (.slice a0 p0_ways.length cap0) ∧ f 11 = (.slice a_109 l_108.length cap_110) ∧ f 12 = (.int .i64 i_105) ∧ f 6 = (.slice a_38 in_37.length cap_39) ∧ f 1000000 = (enc [])) ?_ ?_
              · intro f w_106 hJ
                obtain ⟨col_107, a_109, cap_110, l_108, hm, hst, h0, h_111, h_40, hs0, hs11, hs12, hs6, hs1000000⟩ := hJ
                rw [m_credenceref14_closed_J3.eq_1] at hm
                refine .ld (d := 0) (v := (.slice a0 p0_ways.length cap0)) hs0 ?_
                refine .ld (d := 11) (v := (.slice a_109 l_108.length cap_110)) hs11 ?_
                refine .ld (d := 12) (v := (.int .i64 i_105)) hs12 ?_
                refine .ld (d := 6) (v := (.slice a_38 in_37.length cap_39)) hs6 ?_
                refine .ld (d := 1000000) (v := (enc [])) hs1000000 ?_
                clear hs0 hs11 hs12 hs6 hs1000000
                refine wregion ?_
                refine lv (v := (.int .i64 i_105)) rfl rfl (r_move rfl) ?_
                refine lv (v := (.int .i64 (IntKind.i64.wrap (i_105 + 1)))) rfl rfl (r_add i_105 1 rfl rfl) ?_
                refine lv (v := (.int .i64 (IntKind.i64.wrap (i_105 + 1)))) rfl rfl (r_assign rfl) ?_
                refine lnil ?_
                exact ⟨n_98, by omega, ⟨col_107, a_109, cap_110, l_108, (IntKind.i64.wrap (i_105 + 1)), n_98, rfl, hm, hst, h0, h_111, h_40, rfl, rfl, rfl, rfl, rfl⟩⟩
              · refine wblock ?_
                refine wseq ?_
                refine wregion ?_
                refine lv (v := (.slice a_38 in_37.length cap_39)) rfl rfl (r_move rfl) ?_
                refine lv (v := (.int .i64 i_105)) rfl rfl (r_move rfl) ?_
                obtain ⟨e_112, hj_113, hm⟩ := bind_some hm
                refine lv (v := (sptr a_38 (Int.toNat i_105 * 1))) rfl rfl (r_idx Try.underlying64 Try.sizeOf4 rfl rfl (at?_some hj_113).1 (at?_some hj_113).2.1 (h_40.addr hj_113)) ?_
                refine lv (v := (.bool e_112)) rfl rfl (r_ld Try.isAgg4 rfl (h_40.atBool hj_113)) ?_
                refine lnil ?_
                refine wcond (e_112) rfl (fun hb => ?_) (fun hb => ?_)
                · rw [if_pos hb] at hm
                  clear hb
                  refine wregion ?_
                  refine lv (v := (.slice a_102 l_101.length cap_103)) rfl rfl (r_move rfl) ?_
                  refine lv (v := (.int .i64 i_105)) rfl rfl (r_move rfl) ?_
                  refine l_lit (col := col_100) (r := (Rep.int .i64)) (xs := [i_105]) [(.int .i64 i_105)] 3 rfl Try.underlying31 el3_50 rfl rfl rfl rfl rfl rfl (by intro v hv; simp only [List.mem_cons, List.not_mem_nil, or_false] at hv; subst hv; rfl) (RowsH.ofF (Rows.consF (r := (Rep.int .i64)) (x := i_105) (cs := [(.int .i64 i_105)]) (rd_int .i64 i_105) Rows.nil0)) ?_
                  intro a_114 w_115 col_116 hg_117 h_118
                  replace h0 := h0.gr hg_117
                  replace h_40 := h_40.gr hg_117
                  replace h_104 := h_104.gr hg_117
                  replace hst := hst.grow hg_117
                  obtain ⟨hb_119, hm⟩ := chk_some hm
                  refine l_appendM (col := col_116) (w := w_115) (r := (Rep.int .i64)) (c := 2) (c2 := 2) (xs := l_101) (ys := [i_105]) h_104 (h_118.srcN (NB.int (k := .i64))) rfl Try.underlying31 el3_50 rfl rfl rfl hb_119.1 hb_119.2 (by decide) ?_
                  intro a_120 cap_121 w_122 col_123 hk_124 h_125
                  replace h0 := h0.kpp hk_124 rfl
                  replace h_40 := h_40.kpp hk_124 rfl rfl
                  replace h_118 := h_118.kpp hk_124 rfl rfl
                  replace hst := hst.kpp hk_124 rfl rfl
                  clear h_104
                  refine lv (v := (.slice a_120 ((l_101 ++ [i_105]).length) cap_121)) rfl rfl (r_assign rfl) ?_
                  refine lnil ?_
                  exact ⟨col_123, a_120, cap_121, (l_101 ++ [i_105]), hm, hst, h0, h_125, h_40, rfl, rfl, rfl, rfl, rfl⟩
                · rw [if_neg (by rw [hb]; decide)] at hm
                  clear hb
                  refine wskip ?_
                  exact ⟨col_100, a_102, cap_103, l_101, hm, hst, h0, h_104, h_40, rfl, rfl, rfl, rfl, rfl⟩
            · rw [if_neg (by rw [hb]; decide)] at hm
              clear hb
              refine wexit (inB_hit ?_)
              refine wseq ?_
              refine wregion ?_
              refine lv (v := (.slice a_102 l_101.length cap_103)) rfl rfl (r_move rfl) ?_
              refine lv (v := (.slice a_102 l_101.length cap_103)) rfl rfl (r_assign rfl) ?_
              refine lv (v := (.int .i64 0)) rfl rfl (r_assign rfl) ?_
              refine lnil ?_
              refine wret ?_
              cases hm
              exact ⟨rfl, colF w0.heap.size col col_100 (fun n => bif Nat.beq n 2 then c1 else 0), a_102, cap_103, rfl, hst.fin (fun n => bif Nat.beq n 2 then c1 else 0), hst.finOwn (g := (fun n => bif Nat.beq n 2 then c1 else 0)) rfl h_104 (by decide) (by decide) rfl⟩



/-- Is a point marked? -/
def mk (b : List Bool) (x : Int) : Bool := b.getD x.toNat false
theorem mk_set {b : List Bool} {x y : Int} (hx : 0 ≤ x ∧ x < (b.length : Int)) (hy : 0 ≤ y) : mk (b.set x.toNat true) y = (decide (y = x) || mk b y) := by
  unfold mk
  rw [lgetD_set _ _ _ _ _ (by omega)]
  by_cases h : y = x
  · subst h; simp
  · rw [if_neg (by omega)]; simp [h]
theorem mk_at {b : List Bool} {x : Int} (hx : 0 ≤ x ∧ x < (b.length : Int)) : at? b x = some (mk b x) := at?_of hx.1 (by rw [List.getElem?_eq_getElem (by omega), mk, lgetD_lt (by omega)])
theorem cnt_le : ∀ (a b : List Bool), a.length = b.length → (∀ i : Nat, a.getD i false = true → b.getD i false = true) → a.count true ≤ b.count true
  | [], _, _, _ => by simp
  | x :: a, [], h, _ => by simp at h
  | x :: a, y :: b, h, hi => by
    have h1 := cnt_le a b (by simpa using h) fun i => by simpa using hi (i + 1)
    have h0 : x = true → y = true := by simpa using hi 0
    simp only [List.count_cons]
    cases x <;> cases y <;> simp_all <;> omega
theorem cnt_lt : ∀ (a b : List Bool), a.length = b.length → (∀ i : Nat, a.getD i false = true → b.getD i false = true) → (∃ j : Nat, b.getD j false = true ∧ a.getD j false = false) → a.count true < b.count true
  | [], [], _, _, ⟨j, h, _⟩ => by simp at h
  | [], y :: b, h, _, _ => by simp at h
  | x :: a, [], h, _, _ => by simp at h
  | x :: a, y :: b, h, hi, ⟨j, h1, h2⟩ => by
    have hle := cnt_le a b (by simpa using h) fun i => by simpa using hi (i + 1)
    have h0 : x = true → y = true := by simpa using hi 0
    simp only [List.count_cons]
    cases j with
    | zero =>
      simp at h1 h2; subst h1; subst h2
      simp; omega
    | succ j =>
      have h3 := cnt_lt a b (by simpa using h) (fun i => by simpa using hi (i + 1)) ⟨j, by simpa using h1, by simpa using h2⟩
      cases x <;> cases y <;> simp_all <;> omega
theorem cnt_all : ∀ (b : List Bool), b.length ≤ b.count true → ∀ j, j < b.length → b.getD j false = true
  | [], _, j, hj => by simp at hj
  | x :: b, h, j, hj => by
    have hc : b.count true ≤ b.length := List.count_le_length
    simp only [List.count_cons, List.length_cons] at h
    cases x
    · simp at h; omega
    · cases j with
      | zero => simp
      | succ j => simpa using cnt_all b (by simpa using h) j (by simpa using hj)

section
variable {N n : Nat} {W : List (List Int)} (hW : W.length = n) (hn : n ≤ 1000000) (hls : ∀ l ∈ W, l.length ≤ 1000000) (hr : ∀ l ∈ W, InR n l) (hN : 2000000 < N)
include hr in
theorem reach_cl {S : Int → Prop} (hS : ∀ j : Nat, j < n → S j → ∀ x ∈ way W j, S x) {p x : Int} (hp : 0 ≤ p ∧ p < (n : Int)) (hSp : S p) (h : Reach W p x) : (0 ≤ x ∧ x < (n : Int)) ∧ S x := by
  induction h with
  | refl => exact ⟨hp, hSp⟩
  | @step q x _ hx ih =>
    have e : ((q.toNat : Nat) : Int) = q := by omega
    exact ⟨way_InR hr _ _ hx, hS q.toNat (by omega) (by rw [e]; exact ih.2) _ (by rw [e]; exact hx)⟩
include hW hn hr
omit hn hr in
theorem closed_L1 (pts : List Int) (hp : pts.length ≤ 1048576) : ∀ (f i : Nat) (b : List Bool), pts.length < f + i → i ≤ pts.length → b.length = n →
    (InR n (pts.drop i) → ∃ b', m_credenceref14_closed_L1 N W pts f b (i : Int) = m_credenceref14_closed_L2 N W N b' 0 ∧ b'.length = n ∧ ∀ x, 0 ≤ x → (mk b' x = true ↔ mk b x = true ∨ x ∈ pts.drop i)) ∧ (¬ InR n (pts.drop i) → m_credenceref14_closed_L1 N W pts f b (i : Int) = some ([], 3))
  | 0, i, b, h, hi, hb => by omega
  | f + 1, i, b, h, hi, hb => by
    rw [m_credenceref14_closed_L1.eq_2]
    by_cases hlt : i < pts.length
    · rw [if_pos (decide_eq_true (by omega)), at?_lt hlt, Option.bind_some, List.drop_eq_getElem_cons hlt]
      simp only [m_credenceref14_closed_J1]
      by_cases h1 : pts[i] < 0
      · rw [if_pos (decide_eq_true h1), if_pos trivial]
        exact ⟨fun hr => by have := hr _ List.mem_cons_self; omega, fun _ => rfl⟩
      · rw [if_neg (by rw [decide_eq_true_eq]; exact h1)]
        by_cases h2 : (W.length : Int) ≤ pts[i]
        · rw [if_pos (decide_eq_true h2)]
          exact ⟨fun hr => by have := hr _ List.mem_cons_self; omega, fun _ => rfl⟩
        · have hx : 0 ≤ pts[i] ∧ pts[i] < (b.length : Int) := by omega
          rw [if_neg (by rw [decide_eq_true_eq]; exact h2), at?_lt hlt, Option.bind_some, mk_at hx, Option.bind_some, Option.bind_some, wS (by omega)]
          obtain ⟨k1, k2⟩ := closed_L1 pts hp f (i + 1) (b.set pts[i].toNat true) (by omega) (by omega) (by rw [List.length_set]; exact hb)
          refine ⟨fun hr => ?_, fun hr => k2 fun hr2 => hr fun y hy => ?_⟩
          · obtain ⟨b', q1, q2, q3⟩ := k1 fun y hy => hr y (List.mem_cons_of_mem _ hy)
            refine ⟨b', q1, q2, fun x hx0 => ?_⟩
            rw [q3 x hx0, mk_set hx hx0, List.mem_cons]
            simp only [Bool.or_eq_true, decide_eq_true_eq]
            exact ⟨fun h => by rcases h with (h | h) | h <;> simp [h], fun h => by rcases h with h | h | h <;> simp [h]⟩
          · rcases List.mem_cons.1 hy with rfl | hy
            · omega
            · exact hr2 y hy
    · rw [if_neg (by rw [decide_eq_true_eq]; omega), List.drop_eq_nil_of_le (by omega)]
      exact ⟨fun _ => ⟨b, rfl, hb, fun x _ => by simp⟩, fun h => absurd (fun x hx => by simp at hx) h⟩

/-- One point's ways. -/
theorem closed_L4 (i : Nat) (hi : i < n) (hli : (way W i).length ≤ 1000000) (kk : List Bool → Int → Option (List Int × Int)) : ∀ (f k : Nat) (b : List Bool), (way W i).length < f + k → k ≤ (way W i).length → b.length = n →
    ∃ b', m_credenceref14_closed_L4 N W (i : Int) kk f (k : Int) b = kk b' ((i + 1 : Nat) : Int) ∧ b'.length = n ∧ (∀ x, 0 ≤ x → mk b x = true → mk b' x = true) ∧ (∀ x, 0 ≤ x → mk b' x = true → mk b x = true ∨ (mk b i = true ∧ x ∈ way W i)) ∧ (mk b i = true → ∀ x ∈ (way W i).drop k, mk b' x = true)
  | 0, k, b, h, hk, hb => by omega
  | f + 1, k, b, h, hk, hb => by
    have hWi : at? W (i : Int) = some (way W i) := at?_of (by omega) (by rw [List.getElem?_eq_getElem (by omega), way, lgetD_lt (by omega)])
    rw [m_credenceref14_closed_L4.eq_2, hWi, Option.bind_some]
    simp only [m_credenceref14_closed_J2]
    by_cases hlt : k < (way W i).length
    · rw [if_pos (decide_eq_true (by omega)), mk_at (by omega), Option.bind_some]
      by_cases hbi : mk b i = true
      · have hx := way_InR hr (i : Int) _ (List.getElem_mem hlt)
        have hxb : 0 ≤ (way W i)[k] ∧ (way W i)[k] < (b.length : Int) := by rw [hb]; exact hx
        rw [if_pos hbi, hWi, Option.bind_some, at?_lt hlt, Option.bind_some, mk_at hxb, Option.bind_some, Option.bind_some, wS (by omega)]
        obtain ⟨b', q1, q2, q3, q4, q5⟩ := closed_L4 i hi hli kk f (k + 1) (b.set (way W i)[k].toNat true) (by omega) (by omega) (by rw [List.length_set]; exact hb)
        have hs : ∀ y, 0 ≤ y → mk (b.set (way W i)[k].toNat true) y = (decide (y = (way W i)[k]) || mk b y) := fun y hy => mk_set hxb hy
        refine ⟨b', q1, q2, fun x h0 h1 => q3 x h0 (by rw [hs x h0, h1, Bool.or_true]), fun x h0 h1 => ?_, fun _ x hx => ?_⟩
        · rcases q4 x h0 h1 with h2 | h2
          · rw [hs x h0, Bool.or_eq_true, decide_eq_true_eq] at h2
            rcases h2 with rfl | h2
            · exact .inr ⟨hbi, List.getElem_mem hlt⟩
            · exact .inl h2
          · exact .inr ⟨hbi, h2.2⟩
        · rw [List.drop_eq_getElem_cons hlt] at hx
          rcases List.mem_cons.1 hx with rfl | hx
          · exact q3 _ hxb.1 (by rw [hs _ hxb.1]; simp)
          · exact q5 (by rw [hs _ (by omega), hbi, Bool.or_true]) x hx
      · rw [if_neg hbi]
        exact ⟨b, by rw [wS (by omega)], hb, fun x _ h => h, fun x _ h => .inl h, fun h => absurd h hbi⟩
    · rw [if_neg (by rw [decide_eq_true_eq]; omega), if_neg (by decide)]
      exact ⟨b, by rw [wS (by omega)], hb, fun x _ h => h, fun x _ h => .inl h, fun _ x hx => by rw [List.drop_eq_nil_of_le (by omega)] at hx; simp at hx⟩
include hls hN
/-- One pass. -/
theorem closed_L3 (m : Int) (kk : List Bool → Int → Option (List Int × Int)) : ∀ (f i : Nat) (b : List Bool), n < f + i → i ≤ n → b.length = n →
    ∃ b', m_credenceref14_closed_L3 N W m kk f b (i : Int) = kk b' (IntKind.i64.wrap (m + 1)) ∧ b'.length = n ∧ (∀ x, 0 ≤ x → mk b x = true → mk b' x = true) ∧ (∀ x, 0 ≤ x → mk b' x = true → ∃ p, (0 ≤ p ∧ p < (n : Int)) ∧ mk b p = true ∧ Reach W p x) ∧ (∀ j : Nat, i ≤ j → j < n → mk b j = true → ∀ x ∈ way W j, mk b' x = true)
  | 0, i, b, h, hi, hb => by omega
  | f + 1, i, b, h, hi, hb => by
    have hrng : ∀ x, 0 ≤ x → mk b x = true → x < (n : Int) := fun x h0 h1 => by
      rcases Int.lt_or_le x n with h | h
      · exact h
      · unfold mk at h1; rw [List.getD_eq_getElem?_getD, List.getElem?_eq_none (by omega)] at h1; cases h1
    rw [m_credenceref14_closed_L3.eq_2]
    by_cases hlt : i < n
    · have hli : (way W i).length ≤ 1000000 := by rw [way, lgetD_lt (by omega)]; exact hls _ (List.getElem_mem _)
      rw [if_pos (decide_eq_true (by omega))]
      obtain ⟨b1, q1, q2, q3, q4, q5⟩ := closed_L4 (N := N) hW hn hr i hlt hli (m_credenceref14_closed_L3 N W m kk f) N 0 b (by omega) (Nat.zero_le _) hb
      obtain ⟨b2, k1, k2, k3, k4, k5⟩ := closed_L3 m kk f (i + 1) b1 (by omega) (by omega) q2
      refine ⟨b2, q1.trans k1, k2, fun x h0 h1 => k3 x h0 (q3 x h0 h1), fun x h0 h1 => ?_, fun j hj hjn hbj x hx => ?_⟩
      · obtain ⟨p, hp, hp1, hp2⟩ := k4 x h0 h1
        rcases q4 p hp.1 hp1 with h2 | ⟨h2, h3⟩
        · exact ⟨p, hp, h2, hp2⟩
        · exact ⟨i, by omega, h2, (Reach.step .refl h3).trans hp2⟩
      · by_cases hji : j = i
        · subst hji
          exact k3 x (way_InR hr (j : Int) x hx).1 (q5 hbj x (by rw [List.drop_zero]; exact hx))
        · exact k5 j (by omega) hjn (q3 j (by omega) hbj) x hx
    · rw [if_neg (by rw [decide_eq_true_eq]; omega)]
      exact ⟨b, rfl, hb, fun x _ h => h, fun x h0 h1 => ⟨x, ⟨h0, hrng x h0 h1⟩, h1, .refl⟩, fun j h1 h2 => by omega⟩
omit hls hr hN in
theorem closed_L5 (b : List Bool) (hb : b.length = n) : ∀ (f : Nat) (l : List Int) (i : Nat), n < f + i → i ≤ n → l.length ≤ i → m_credenceref14_closed_L5 N W b f l (i : Int) = some (l ++ ((List.range' i (n - i)).filter fun j => b.getD j false).map fun j : Nat => (j : Int), 0)
  | 0, l, i, h, hi, hl => by omega
  | f + 1, l, i, h, hi, hl => by
    rw [m_credenceref14_closed_L5.eq_2]
    simp only [m_credenceref14_closed_J3]
    by_cases hlt : i < n
    · rw [if_pos (decide_eq_true (by omega)), at?_getD false (by omega), Option.bind_some, show n - i = (n - (i + 1)) + 1 by omega, List.range'_succ, wS (by omega)]
      by_cases hbi : b.getD i false = true
      · rw [if_pos hbi, chk_pos (by simp only [List.length_cons, List.length_nil, maxLen]; omega), closed_L5 b hb f (l ++ [(i : Int)]) (i + 1) (by omega) (by omega) (by simp; omega), List.filter_cons_of_pos (by simpa using hbi), List.map_cons, List.append_assoc]; rfl
      · rw [if_neg hbi, closed_L5 b hb f l (i + 1) (by omega) (by omega) (by omega), List.filter_cons_of_neg (by simpa using hbi)]
    · rw [if_neg (by rw [decide_eq_true_eq]; omega), show n - i = 0 by omega]; simp
/-- All passes. -/
theorem closed_L2 : ∀ (f m : Nat) (b : List Bool), n < f + m → m ≤ n → b.length = n → (m ≤ b.count true ∨ ∀ j : Nat, j < n → mk b j = true → ∀ x ∈ way W j, mk b x = true) →
    ∃ b', m_credenceref14_closed_L2 N W f b (m : Int) = m_credenceref14_closed_L5 N W b' N [] 0 ∧ b'.length = n ∧ (∀ x, 0 ≤ x → mk b x = true → mk b' x = true) ∧ (∀ x, 0 ≤ x → mk b' x = true → ∃ p, (0 ≤ p ∧ p < (n : Int)) ∧ mk b p = true ∧ Reach W p x) ∧ ∀ j : Nat, j < n → mk b' j = true → ∀ x ∈ way W j, mk b' x = true
  | 0, m, b, h, hm, hb, hc => by omega
  | f + 1, m, b, h, hm, hb, hc => by
    have hrng : ∀ x, 0 ≤ x → mk b x = true → x < (n : Int) := fun x h0 h1 => by
      rcases Int.lt_or_le x n with h | h
      · exact h
      · unfold mk at h1; rw [List.getD_eq_getElem?_getD, List.getElem?_eq_none (by omega)] at h1; cases h1
    rw [m_credenceref14_closed_L2.eq_2]
    by_cases hlt : m < n
    · rw [if_pos (decide_eq_true (by omega))]
      obtain ⟨b1, q1, q2, q3, q4, q5⟩ := closed_L3 (N := N) hW hn hls hr hN (m : Int) (m_credenceref14_closed_L2 N W f) N 0 b (by omega) (Nat.zero_le _) hb
      have hc1 : m + 1 ≤ b1.count true ∨ ∀ j : Nat, j < n → mk b1 j = true → ∀ x ∈ way W j, mk b1 x = true := by
        by_cases hcl : ∀ j : Nat, j < n → mk b j = true → ∀ x ∈ way W j, mk b x = true
        · refine .inr fun j hj hbj x hx => ?_
          obtain ⟨p, hp, hbp, hpj⟩ := q4 j (by omega) hbj
          have h3 := reach_cl hr (S := fun x => mk b x = true) hcl hp hbp hpj
          exact q3 x (way_InR hr _ _ hx).1 (hcl j hj h3.2 x hx)
        · left
          have hle : m ≤ b.count true := hc.resolve_right hcl
          have : b.count true < b1.count true := by
            refine cnt_lt b b1 (by omega) (fun i hi => by simpa [mk] using q3 (i : Int) (by omega) (by simpa [mk] using hi)) ?_
            refine Classical.byContradiction fun hno => hcl fun j hj hbj x hx => ?_
            have hx0 := way_InR hr _ _ hx
            have h4 := q5 j (Nat.zero_le _) hj hbj x hx
            cases hbx : mk b x
            · exact absurd ⟨x.toNat, h4, hbx⟩ hno
            · rfl
          omega
      obtain ⟨b2, k1, k2, k3, k4, k5⟩ := closed_L2 f (m + 1) b1 (by omega) (by omega) q2 hc1
      refine ⟨b2, q1.trans (by rw [wS (by omega)]; exact k1), k2, fun x h0 h1 => k3 x h0 (q3 x h0 h1), fun x h0 h1 => ?_, k5⟩
      obtain ⟨p, hp, hp1, hp2⟩ := k4 x h0 h1
      obtain ⟨q, hq, hq1, hq2⟩ := q4 p hp.1 hp1
      exact ⟨q, hq, hq1, hq2.trans hp2⟩
    · rw [if_neg (by rw [decide_eq_true_eq]; omega)]
      refine ⟨b, rfl, hb, fun x _ h => h, fun x h0 h1 => ⟨x, ⟨h0, hrng x h0 h1⟩, h1, .refl⟩, ?_⟩
      rcases hc with hc | hc
      · intro j hj _ x hx
        have := cnt_all b (by omega) x.toNat (by have := way_InR hr _ _ hx; omega)
        exact this
      · exact hc
/-- The program's and the document's lists are one. -/
theorem closed_eq (pts : List Int) (hp : pts.length ≤ 1048576) : m_credenceref14_closed N W pts = m_dag_reach N W pts := by
  obtain ⟨r1, r2⟩ := reach_eq (N := N) hW hn hr hN pts
  have hrep : ∀ x, mk (List.replicate W.length false) x = false := fun x => by unfold mk; rw [List.getD_eq_getElem?_getD, List.getElem?_replicate]; split <;> rfl
  obtain ⟨c1, c2⟩ := closed_L1 (N := N) hW pts hp N 0 (List.replicate W.length false) (by omega) (Nat.zero_le _) (by rw [List.length_replicate]; exact hW)
  rw [List.drop_zero] at c1 c2
  rw [m_credenceref14_closed, chk_pos (by simp only [maxLen]; omega), show (0 : Int) = ((0 : Nat) : Int) from rfl]
  by_cases hin : InR n pts
  · obtain ⟨r, k1, k2, k3, k4⟩ := r1 hin
    obtain ⟨b0, q1, q2, q3⟩ := c1 hin
    obtain ⟨b, s1, s2, s3, s4, s5⟩ := closed_L2 (N := N) hW hn hls hr hN N 0 b0 (by omega) (Nat.zero_le _) q2 (.inl (Nat.zero_le _))
    rw [q1, k1, show (0 : Int) = ((0 : Nat) : Int) from rfl, s1, show (0 : Int) = ((0 : Nat) : Int) from rfl, closed_L5 (N := N) hW hn b s2 N [] 0 (by omega) (Nat.zero_le _) (Nat.zero_le _), List.nil_append, Nat.sub_zero]
    have hmem : ∀ x, x ∈ (((List.range' 0 n).filter fun j => b.getD j false).map fun j : Nat => (j : Int)) ↔ (0 ≤ x ∧ x < (n : Int)) ∧ mk b x = true := fun x => by
      simp only [List.mem_map, List.mem_filter, List.mem_range'_1]
      constructor
      · rintro ⟨j, ⟨h1, h2⟩, rfl⟩
        exact ⟨by omega, h2⟩
      · rintro ⟨h1, h2⟩
        exact ⟨x.toNat, ⟨by omega, h2⟩, by omega⟩
    have hpw : (((List.range' 0 n).filter fun j => b.getD j false).map fun j : Nat => (j : Int)).Pairwise (· < ·) := by
      rw [List.pairwise_map]
      exact (List.Pairwise.filter _ List.pairwise_lt_range').imp fun h => by omega
    suffices hpm : (((List.range' 0 n).filter fun j => b.getD j false).map fun j : Nat => (j : Int)).Perm r by
      rw [isort_eq hpm (hpw.imp fun h => by omega)]; rfl
    refine (List.perm_ext_iff_of_nodup (hpw.imp fun h => by omega) k2).2 fun x => ?_
    rw [hmem, k4]
    constructor
    · rintro ⟨h1, h2⟩
      obtain ⟨p, hp, hp1, hp2⟩ := s4 x h1.1 h2
      rw [q3 p hp.1, hrep] at hp1
      exact ⟨p, hp1.resolve_left (by decide), hp2⟩
    · rintro ⟨p, hp, hpx⟩
      have h0 := hin p hp
      exact reach_cl hr (S := fun x => mk b x = true) s5 h0 (s3 p h0.1 ((q3 p h0.1).2 (.inr hp))) hpx
  · rw [c2 hin, r2 hin]
end

end Go.Proofs.Ytgggjmmljagkmaa
