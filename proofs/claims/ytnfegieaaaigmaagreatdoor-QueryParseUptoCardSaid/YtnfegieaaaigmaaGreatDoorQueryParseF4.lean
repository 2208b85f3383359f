/-
  What functions of the program compute, as plain Lean functions (m_..), and proofs that they compute it (c_..). Printed by a program of the author; no conditions.
-/
import Derived.Test.YtnfegieaaaigmaaGreatDoorQueryParseBFloat
import Derived.Test.YtnfegieaaaigmaaGreatDoorProg
import Derived.Test.YtnfegieaaaigmaaGreatDoorQueryParseF3
set_option linter.unusedVariables false
set_option linter.unusedSectionVars false
set_option maxRecDepth 100000
set_option maxHeartbeats 2000000
namespace Go.Proofs.YtnfegieaaaigmaaGreatDoor
open Go Go.RowKit

def mk (v : Int) : ByteArray := (⟨#[109, 97, 114, 107, 32]⟩ : ByteArray) ++ (bstr [IntKind.u8.wrap v, IntKind.u8.wrap (IntKind.i64.wrap (Int.tdiv v 256))])
theorem mark_eq (v : Int) : m_l23_mark v = some (mk v) := by
 rw [m_l23_mark, chk_pos]
 ·rfl
 ·have h1 : (⟨#[109, 97, 114, 107, 32]⟩ : ByteArray).size = 5 := rfl
  have h2 : ∀ a b : Int, (bstr [a, b]).size = 2 := fun a b => rfl
  rw [h1, h2]; decide
theorem ndec {a b : ByteArray} (h : a = b) : ¬ (!decide (a = b)) = true := by rw [decide_eq_true h]; decide
def mA (i : Nat) : ByteArray := mk (IntKind.i64.wrap (3 * (i : Int)))
def mG (i : Nat) : ByteArray := mk (IntKind.i64.wrap ((IntKind.i64.wrap (3 * (i : Int))) + 1))
def mO (i : Nat) : ByteArray := mk (IntKind.i64.wrap ((IntKind.i64.wrap (3 * (i : Int))) + 2))
theorem mset {α : Type} {xs : List α} {k : Nat} {P : α → Prop} {y : α} (h : ∀ j, j < k → ∀ x, xs[j]? = some x → P x) (hy : P y) : ∀ j, j < k + 1 → ∀ x, (xs.set k y)[j]? = some x → P x := by
 intro j hj x hx
 rcases Nat.lt_or_ge j k with h1 | h1
 ·rw [List.getElem?_set_ne (by omega)] at hx
  exact h j h1 x hx
 ·have : j = k := by omega
  subst this
  rw [List.getElem?_set] at hx
  split at hx
  ·split at hx
   ·cases hx; exact hy
   ·cases hx
  ·rename_i e; exact absurd rfl e
theorem mall {α : Type} {xs : List α} {P : α → Prop} (h : ∀ j, j < xs.length → ∀ x, xs[j]? = some x → P x) : ∀ x ∈ xs, P x := by
 intro x hx
 obtain ⟨j, hj, rfl⟩ := List.getElem_of_mem hx
 exact h j hj _ (List.getElem?_eq_getElem hj)
def Ln (e : QV) (a g o : Nat) : Prop := e.2.1.length = a ∧ e.2.2.1.length = g ∧ e.2.2.2.2.1.length = o
section
variable {N i a g o : Nat} {l : List QV} {kk : List QV → Int → Option (Bool × List QV)} (hi : i < l.length) (hl : l.length ≤ 1048578) (hN : 1048590 < N)
include hi hl hN
theorem at_set (e : QV) : at? (l.set i e) (i : Int) = some e := by
 rw [at?_nat, List.getElem?_set_self hi]
theorem set_two (e e' : QV) : (l.set i e).set (Int.toNat (i : Int)) e' = l.set i e' := by
 show (l.set i e).set i e' = _
 rw [List.set_set]
theorem w4 (ho : o ≤ 1048579) : ∀ (f k : Nat) (e : QV), Ln e a g o → (∀ j, j < k → ∀ x, e.2.2.2.2.1[j]? = some x → x = mO i) → (∀ x ∈ e.2.1, x.1 = mA i) → (∀ x ∈ e.2.2.1, x.1 = mG i) → k ≤ o → o < f + k →
  ∃ e', Ln e' a g o ∧ (∀ x ∈ e'.2.1, x.1 = mA i) ∧ (∀ x ∈ e'.2.2.1, x.1 = mG i) ∧ (∀ x ∈ e'.2.2.2.2.1, x = mO i) ∧ m_l23_spoilt_L4 N (i : Int) kk f (l.set i e) (k : Int) = kk (l.set i e') (IntKind.i64.wrap ((i : Int) + 1))
 | 0, k, e, hn, h1, h2, h3, h4, h5 => by omega
 | f + 1, k, e, hn, h1, h2, h3, h4, h5 => by
  obtain ⟨n1, n2, n3⟩ := hn
  rw [m_l23_spoilt_L4.eq_2, at_set hi hl hN, Option.bind_some]
  by_cases hk : k < o
  ·rw [if_pos (decide_eq_true (by omega)), mark_eq, Option.bind_some, at?_lt (by omega), Option.bind_some, Option.bind_some, set_two hi hl hN, w64 (x := (k : Int) + 1) (by omega), show (k : Int) + 1 = ((k + 1 : Nat) : Int) by omega]
   exact w4 ho f (k + 1) (e.1, e.2.1, e.2.2.1, e.2.2.2.1, e.2.2.2.2.1.set k (mO i), (e.2.2.2.2.2.1, e.2.2.2.2.2.2)) ⟨n1, n2, by show (e.2.2.2.2.1.set k _).length = _; rw [List.length_set]; exact n3⟩ (mset h1 rfl) h2 h3 (by omega) (by omega)
  ·rw [if_neg (nd (by omega))]
   exact ⟨e, ⟨n1, n2, n3⟩, h2, h3, mall (fun j hj => h1 j (by omega)), rfl⟩
theorem w3 (hg : g ≤ 1048579) (ho : o ≤ 1048579) : ∀ (f k : Nat) (e : QV), Ln e a g o → (∀ j, j < k → ∀ x, e.2.2.1[j]? = some x → x.1 = mG i) → (∀ x ∈ e.2.1, x.1 = mA i) → k ≤ g → g < f + k →
  ∃ e', Ln e' a g o ∧ (∀ x ∈ e'.2.1, x.1 = mA i) ∧ (∀ x ∈ e'.2.2.1, x.1 = mG i) ∧ (∀ x ∈ e'.2.2.2.2.1, x = mO i) ∧ m_l23_spoilt_L3 N (i : Int) kk f (l.set i e) (k : Int) = kk (l.set i e') (IntKind.i64.wrap ((i : Int) + 1))
 | 0, k, e, hn, h1, h2, h4, h5 => by omega
 | f + 1, k, e, hn, h1, h2, h4, h5 => by
  obtain ⟨n1, n2, n3⟩ := hn
  rw [m_l23_spoilt_L3.eq_2, at_set hi hl hN, Option.bind_some]
  by_cases hk : k < g
  ·rw [if_pos (decide_eq_true (by omega)), mark_eq, Option.bind_some, at?_lt (by omega), Option.bind_some, Option.bind_some, set_two hi hl hN, w64 (x := (k : Int) + 1) (by omega), show (k : Int) + 1 = ((k + 1 : Nat) : Int) by omega]
   exact w3 hg ho f (k + 1) (e.1, e.2.1, e.2.2.1.set k (mG i, ⟨#[]⟩), e.2.2.2.1, e.2.2.2.2.1, (e.2.2.2.2.2.1, e.2.2.2.2.2.2)) ⟨n1, by show (e.2.2.1.set k _).length = _; rw [List.length_set]; exact n2, n3⟩ (mset h1 rfl) h2 (by omega) (by omega)
  ·rw [if_neg (nd (by omega))]
   exact w4 hi hl hN ho N 0 e ⟨n1, n2, n3⟩ (fun j hj => absurd hj (Nat.not_lt_zero _)) h2 (mall (fun j hj => h1 j (by omega))) (by omega) (by omega)
theorem w2 (ha : a ≤ 1048579) (hg : g ≤ 1048579) (ho : o ≤ 1048579) : ∀ (f k : Nat) (e : QV), Ln e a g o → (∀ j, j < k → ∀ x, e.2.1[j]? = some x → x.1 = mA i) → k ≤ a → a < f + k →
  ∃ e', Ln e' a g o ∧ (∀ x ∈ e'.2.1, x.1 = mA i) ∧ (∀ x ∈ e'.2.2.1, x.1 = mG i) ∧ (∀ x ∈ e'.2.2.2.2.1, x = mO i) ∧ m_l23_spoilt_L2 N (i : Int) kk f (l.set i e) (k : Int) = kk (l.set i e') (IntKind.i64.wrap ((i : Int) + 1))
 | 0, k, e, hn, h1, h4, h5 => by omega
 | f + 1, k, e, hn, h1, h4, h5 => by
  obtain ⟨n1, n2, n3⟩ := hn
  rw [m_l23_spoilt_L2.eq_2, at_set hi hl hN, Option.bind_some]
  by_cases hk : k < a
  ·rw [if_pos (decide_eq_true (by omega)), mark_eq, Option.bind_some, at?_lt (by omega), Option.bind_some, Option.bind_some, set_two hi hl hN, w64 (x := (k : Int) + 1) (by omega), show (k : Int) + 1 = ((k + 1 : Nat) : Int) by omega]
   exact w2 ha hg ho f (k + 1) (e.1, e.2.1.set k (mA i, ⟨#[]⟩), e.2.2.1, e.2.2.2.1, e.2.2.2.2.1, (e.2.2.2.2.2.1, e.2.2.2.2.2.2)) ⟨by show (e.2.1.set k _).length = _; rw [List.length_set]; exact n1, n2, n3⟩ (mset h1 rfl) (by omega) (by omega)
  ·rw [if_neg (nd (by omega))]
   exact w3 hi hl hN hg ho N 0 e ⟨n1, n2, n3⟩ (fun j hj => absurd hj (Nat.not_lt_zero _)) (mall (fun j hj => h1 j (by omega))) (by omega) (by omega)
end
def Mkd (k : Nat) (l : List QV) : Prop := ∀ j, j < k → ∀ q, l[j]? = some q → (∀ x ∈ q.2.1, x.1 = mA j) ∧ (∀ x ∈ q.2.2.1, x.1 = mG j) ∧ (∀ x ∈ q.2.2.2.2.1, x = mO j)
theorem Bnd.set {l : List QV} {i : Nat} {e : QV} (h : Bnd l) (h1 : e.2.1.length ≤ 1048579) (h2 : e.2.2.1.length ≤ 1048579) (h3 : e.2.2.2.2.1.length ≤ 1048579) : Bnd (l.set i e) := by
 refine ⟨by rw [List.length_set]; exact h.1, fun q hq => ?_⟩
 rcases List.mem_or_eq_of_mem_set hq with hq | rfl
 ·exact h.2 q hq
 ·exact ⟨h1, h2, h3⟩
section
variable {N : Nat} (hN : 1048610 < N)
include hN
theorem L1_eq : ∀ (f i : Nat) (l : List QV), Mkd i l → Bnd l → i ≤ l.length → l.length < f + i → ∃ l', Mkd l'.length l' ∧ Bnd l' ∧ m_l23_spoilt_L1 N f l (i : Int) = m_l23_spoilt_L5 N l' N 0
 | 0, i, l, hk, hb, h1, h2 => by omega
 | f + 1, i, l, hk, hb, h1, h2 => by
  have hbl := hb.1
  rw [m_l23_spoilt_L1.eq_2]
  by_cases hi : i < l.length
  ·obtain ⟨b1, b2, b3⟩ := hb.2 l[i] (List.getElem_mem hi)
   obtain ⟨e', ⟨n1, n2, n3⟩, m1, m2, m3, he⟩ := w2 (N := N) (kk := m_l23_spoilt_L1 N f) hi hbl (by omega) b1 b2 b3 N 0 l[i] ⟨rfl, rfl, rfl⟩ (fun j hj => absurd hj (Nat.not_lt_zero _)) (by omega) (by omega)
   rw [List.set_getElem_self] at he
   rw [if_pos (decide_eq_true (by omega))]
   rw [show m_l23_spoilt_L2 N (i : Int) (m_l23_spoilt_L1 N f) N l 0 = _ from he, w64 (by omega), show (i : Int) + 1 = ((i + 1 : Nat) : Int) by omega]
   refine L1_eq f (i + 1) (l.set i e') (fun j hj q hq => ?_) (hb.set (by omega) (by omega) (by omega)) (by rw [List.length_set]; omega) (by rw [List.length_set]; omega)
   rcases Nat.lt_or_ge j i with h3 | h3
   ·rw [List.getElem?_set_ne (by omega)] at hq
    exact hk j h3 q hq
   ·have : j = i := by omega
    subst this
    rw [List.getElem?_set_self hi] at hq
    cases hq
    exact ⟨m1, m2, m3⟩
  ·rw [if_neg (nd (by omega))]
   have : i = l.length := by omega
   subst this
   exact ⟨l, hk, hb, rfl⟩
omit hN in
theorem ck16 (x : List ByteArray) {k : Nat} (h1 : x.length ≤ 1048580 + k) (h2 : k ≤ 20) : (x.length + ([⟨#[37]⟩] : List ByteArray).length) * 16 ≤ 140737488355328 ∧ x.length + ([⟨#[37]⟩] : List ByteArray).length ≤ maxLen := by
 have : ([⟨#[37]⟩] : List ByteArray).length = 1 := rfl
 rw [this]; simp only [maxLen]; omega
omit hN in
theorem ck32 (x : List (ByteArray × ByteArray)) {k : Nat} (h1 : x.length ≤ 1048580 + k) (h2 : k ≤ 20) : (x.length + ([(⟨#[37]⟩, ⟨#[]⟩)] : List (ByteArray × ByteArray)).length) * 32 ≤ 140737488355328 ∧ x.length + ([(⟨#[37]⟩, ⟨#[]⟩)] : List (ByteArray × ByteArray)).length ≤ maxLen := by
 have : ([(⟨#[37]⟩, ⟨#[]⟩)] : List (ByteArray × ByteArray)).length = 1 := rfl
 rw [this]; simp only [maxLen]; omega
theorem L8_eq (i : Int) (kk : Int → Option (Bool × List QV)) : ∀ (f k : Nat) (x : List ByteArray), x.length ≤ 1048580 + k → k ≤ 20 → 20 < f + k → m_l23_spoilt_L8 N i kk f x (k : Int) = kk (IntKind.i64.wrap (i + 1))
 | 0, k, x, h1, h2, h3 => by omega
 | f + 1, k, x, h1, h2, h3 => by
  rw [m_l23_spoilt_L8.eq_2]
  by_cases hk : k < 20
  ·rw [if_pos (decide_eq_true (by omega)), chk_pos (ck16 x h1 h2), w64 (by omega), show (k : Int) + 1 = ((k + 1 : Nat) : Int) by omega]
   exact L8_eq i kk f (k + 1) _ (by rw [List.length_append]; simp only [List.length_cons, List.length_nil]; omega) (by omega) (by omega)
  ·rw [if_neg (nd (by omega))]
theorem L7_eq (i : Int) (kk : Int → Option (Bool × List QV)) (e : QV) (he : e.2.2.2.2.1.length ≤ 1048580) : ∀ (f k : Nat) (x : List PrV), x.length ≤ 1048580 + k → k ≤ 20 → 20 < f + k → m_l23_spoilt_L7 N i kk e f x (k : Int) = kk (IntKind.i64.wrap (i + 1))
 | 0, k, x, h1, h2, h3 => by omega
 | f + 1, k, x, h1, h2, h3 => by
  rw [m_l23_spoilt_L7.eq_2]
  by_cases hk : k < 20
  ·rw [if_pos (decide_eq_true (by omega)), chk_pos (ck32 x h1 h2), w64 (by omega), show (k : Int) + 1 = ((k + 1 : Nat) : Int) by omega]
   exact L7_eq i kk e he f (k + 1) _ (by rw [List.length_append]; simp only [List.length_cons, List.length_nil]; omega) (by omega) (by omega)
  ·rw [if_neg (nd (by omega))]
   exact L8_eq hN i kk N 0 _ (by omega) (by omega) (by omega)
theorem L6_eq (i : Int) (kk : Int → Option (Bool × List QV)) (e : QV) (hg : e.2.2.1.length ≤ 1048580) (he : e.2.2.2.2.1.length ≤ 1048580) : ∀ (f k : Nat) (x : List PrV), x.length ≤ 1048580 + k → k ≤ 20 → 20 < f + k → m_l23_spoilt_L6 N i kk e f x (k : Int) = kk (IntKind.i64.wrap (i + 1))
 | 0, k, x, h1, h2, h3 => by omega
 | f + 1, k, x, h1, h2, h3 => by
  rw [m_l23_spoilt_L6.eq_2]
  by_cases hk : k < 20
  ·rw [if_pos (decide_eq_true (by omega)), chk_pos (ck32 x h1 h2), w64 (by omega), show (k : Int) + 1 = ((k + 1 : Nat) : Int) by omega]
   exact L6_eq i kk e hg he f (k + 1) _ (by rw [List.length_append]; simp only [List.length_cons, List.length_nil]; omega) (by omega) (by omega)
  ·rw [if_neg (nd (by omega))]
   exact L7_eq hN i kk e he N 0 _ (by omega) (by omega) (by omega)
theorem L13_eq : ∀ (f i : Nat) (l : List QV), l.length ≤ 1048578 → i ≤ l.length → l.length < f + i → ∃ l', m_l23_spoilt_L13 N f l (i : Int) = some (true, l')
 | 0, i, l, h0, h1, h2 => by omega
 | f + 1, i, l, h0, h1, h2 => by
  rw [m_l23_spoilt_L13.eq_2]
  by_cases hi : i < l.length
  ·rw [if_pos (decide_eq_true (by omega)), at?_lt hi, Option.bind_some, Option.bind_some, w64 (by omega), show (i : Int) + 1 = ((i + 1 : Nat) : Int) by omega]
   exact L13_eq f (i + 1) _ (by rw [List.length_set]; omega) (by rw [List.length_set]; omega) (by rw [List.length_set]; omega)
  ·rw [if_neg (nd (by omega))]
   exact ⟨l, rfl⟩
variable {l : List QV} (hb : Bnd l)
include hb
theorem L5_eq : ∀ (f i : Nat), i ≤ l.length → l.length < f + i → m_l23_spoilt_L5 N l f (i : Int) = m_l23_spoilt_L9 N l N 0
 | 0, i, h1, h2 => by omega
 | f + 1, i, h1, h2 => by
  have hbl := hb.1
  rw [m_l23_spoilt_L5.eq_2]
  by_cases hi : i < l.length
  ·obtain ⟨b1, b2, b3⟩ := hb.2 l[i] (List.getElem_mem hi)
   have h6 := L6_eq hN (i : Int) (m_l23_spoilt_L5 N l f) l[i] (by omega) (by omega) N 0 l[i].2.1 (by omega) (by omega) (by omega)
   rw [if_pos (decide_eq_true (by omega)), at?_lt hi, Option.bind_some, show m_l23_spoilt_L6 N (i : Int) (m_l23_spoilt_L5 N l f) l[i] N l[i].2.1 0 = _ from h6, w64 (by omega), show (i : Int) + 1 = ((i + 1 : Nat) : Int) by omega]
   exact L5_eq f (i + 1) (by omega) (by omega)
  ·rw [if_neg (nd (by omega))]
section
variable {i : Nat} (hi : i < l.length) (hM : Mkd l.length l) (kk : Int → Option (Bool × List QV))
include hi hM
theorem L12_eq : ∀ (f k : Nat), k ≤ l[i].2.2.2.2.1.length → l[i].2.2.2.2.1.length < f + k → m_l23_spoilt_L12 N l (i : Int) kk f (k : Int) = kk (IntKind.i64.wrap ((i : Int) + 1))
 | 0, k, h1, h2 => by omega
 | f + 1, k, h1, h2 => by
  obtain ⟨b1, b2, b3⟩ := hb.2 l[i] (List.getElem_mem hi)
  obtain ⟨m1, m2, m3⟩ := hM i hi l[i] (List.getElem?_eq_getElem hi)
  rw [m_l23_spoilt_L12.eq_2, at?_lt hi, Option.bind_some]
  by_cases hk : k < l[i].2.2.2.2.1.length
  ·rw [if_pos (decide_eq_true (by omega)), at?_lt hk, Option.bind_some, mark_eq, Option.bind_some, if_neg (by exact ndec (m3 _ (List.getElem_mem hk))), w64 (x := (k : Int) + 1) (by omega), show (k : Int) + 1 = ((k + 1 : Nat) : Int) by omega]
   exact L12_eq f (k + 1) (by omega) (by omega)
  ·rw [if_neg (nd (by omega))]
theorem L11_eq : ∀ (f k : Nat), k ≤ l[i].2.2.1.length → l[i].2.2.1.length < f + k → m_l23_spoilt_L11 N l (i : Int) kk f (k : Int) = kk (IntKind.i64.wrap ((i : Int) + 1))
 | 0, k, h1, h2 => by omega
 | f + 1, k, h1, h2 => by
  obtain ⟨b1, b2, b3⟩ := hb.2 l[i] (List.getElem_mem hi)
  obtain ⟨m1, m2, m3⟩ := hM i hi l[i] (List.getElem?_eq_getElem hi)
  rw [m_l23_spoilt_L11.eq_2, at?_lt hi, Option.bind_some]
  by_cases hk : k < l[i].2.2.1.length
  ·rw [if_pos (decide_eq_true (by omega)), at?_lt hk, Option.bind_some, mark_eq, Option.bind_some, if_neg (by exact ndec (m2 _ (List.getElem_mem hk))), w64 (x := (k : Int) + 1) (by omega), show (k : Int) + 1 = ((k + 1 : Nat) : Int) by omega]
   exact L11_eq f (k + 1) (by omega) (by omega)
  ·rw [if_neg (nd (by omega))]
   exact L12_eq hN hb hi hM kk N 0 (by omega) (by omega)
theorem L10_eq : ∀ (f k : Nat), k ≤ l[i].2.1.length → l[i].2.1.length < f + k → m_l23_spoilt_L10 N l (i : Int) kk f (k : Int) = kk (IntKind.i64.wrap ((i : Int) + 1))
 | 0, k, h1, h2 => by omega
 | f + 1, k, h1, h2 => by
  obtain ⟨b1, b2, b3⟩ := hb.2 l[i] (List.getElem_mem hi)
  obtain ⟨m1, m2, m3⟩ := hM i hi l[i] (List.getElem?_eq_getElem hi)
  rw [m_l23_spoilt_L10.eq_2, at?_lt hi, Option.bind_some]
  by_cases hk : k < l[i].2.1.length
  ·rw [if_pos (decide_eq_true (by omega)), at?_lt hk, Option.bind_some, mark_eq, Option.bind_some, if_neg (by exact ndec (m1 _ (List.getElem_mem hk))), w64 (x := (k : Int) + 1) (by omega), show (k : Int) + 1 = ((k + 1 : Nat) : Int) by omega]
   exact L10_eq f (k + 1) (by omega) (by omega)
  ·rw [if_neg (nd (by omega))]
   exact L11_eq hN hb hi hM kk N 0 (by omega) (by omega)
end
theorem L9_eq (hM : Mkd l.length l) : ∀ (f i : Nat), i ≤ l.length → l.length < f + i → ∃ l', m_l23_spoilt_L9 N l f (i : Int) = some (true, l')
 | 0, i, h1, h2 => by omega
 | f + 1, i, h1, h2 => by
  have hbl := hb.1
  rw [m_l23_spoilt_L9.eq_2]
  by_cases hi : i < l.length
  ·obtain ⟨b1, b2, b3⟩ := hb.2 l[i] (List.getElem_mem hi)
   have h10 := L10_eq hN hb hi hM (m_l23_spoilt_L9 N l f) N 0 (by omega) (by omega)
   rw [if_pos (decide_eq_true (by omega)), show m_l23_spoilt_L10 N l (i : Int) (m_l23_spoilt_L9 N l f) N 0 = _ from h10, w64 (by omega), show (i : Int) + 1 = ((i + 1 : Nat) : Int) by omega]
   exact L9_eq hM f (i + 1) (by omega) (by omega)
  ·rw [if_neg (nd (by omega))]
   exact L13_eq hN N 0 l hbl (by omega) (by omega)
theorem spoilt_eq : ∃ l', m_l23_spoilt N l = some (true, l') := by
 have hbl := hb.1
 obtain ⟨l', h1, h2, h3⟩ := L1_eq hN N 0 l (fun j hj => absurd hj (Nat.not_lt_zero _)) hb (by omega) (by omega)
 have hbl' := h2.1
 have h5 := L5_eq hN h2 N 0 (by omega) (by omega)
 obtain ⟨l'', h9⟩ := L9_eq hN h2 h1 N 0 (by omega) (by omega)
 rw [m_l23_spoilt]
 exact ⟨l'', h3.trans (h5.trans h9)⟩
/-! ### the same questions -/
theorem samePairs_refl : ∀ (f i : Nat) (x : List PrV), x.length ≤ 1048580 → i ≤ x.length → x.length < f + i → m_r23_samePairs_L1 N x x f (i : Int) = some true
 | 0, i, x, h0, h1, h2 => by omega
 | f + 1, i, x, h0, h1, h2 => by
  rw [m_r23_samePairs_L1.eq_2]
  by_cases hi : i < x.length
  ·rw [if_pos (decide_eq_true (by omega)), at?_lt hi, Option.bind_some, Option.bind_some, if_neg (by rw [decide_eq_true rfl, decide_eq_true rfl]; decide), w64 (by omega), show (i : Int) + 1 = ((i + 1 : Nat) : Int) by omega]
   exact samePairs_refl f (i + 1) x h0 (by omega) (by omega)
  ·rw [if_neg (nd (by omega))]
theorem same_refl (q : QV) (h1 : q.2.1.length ≤ 1048580) (h2 : q.2.2.1.length ≤ 1048580) (h3 : q.2.2.2.2.1.length ≤ 1048580) : m_r23_Same N q q = some true := by
 have hL : ∀ (f i : Nat), i ≤ q.2.2.2.2.1.length → q.2.2.2.2.1.length < f + i → m_r23_Same_L1 N q q f (i : Int) = some true := by
  intro f
  induction f with
  | zero => intro i h4 h5; omega
  | succ f ih =>
   intro i h4 h5
   rw [m_r23_Same_L1.eq_2]
   by_cases hi : i < q.2.2.2.2.1.length
   ·rw [if_pos (decide_eq_true (by omega)), at?_lt hi, Option.bind_some, Option.bind_some, if_neg (by rw [decide_eq_true rfl]; decide), w64 (by omega), show (i : Int) + 1 = ((i + 1 : Nat) : Int) by omega]
    exact ih (i + 1) (by omega) (by omega)
   ·have s1 : m_r23_samePairs N q.2.1 q.2.1 = some true := by
     rw [m_r23_samePairs, if_neg (by rw [decide_eq_true rfl]; decide)]
     exact samePairs_refl hN hb N 0 q.2.1 h1 (by omega) (by omega)
    have s2 : m_r23_samePairs N q.2.2.1 q.2.2.1 = some true := by
     rw [m_r23_samePairs, if_neg (by rw [decide_eq_true rfl]; decide)]
     exact samePairs_refl hN hb N 0 q.2.2.1 h2 (by omega) (by omega)
    rw [if_neg (nd (by omega)), s1, Option.bind_some, if_pos rfl, s2, Option.bind_some]; rfl
 rw [m_r23_Same, if_neg (by rw [decide_eq_true rfl]; decide), if_neg (by rw [decide_eq_true rfl]; decide), if_neg (by rw [decide_eq_true rfl, decide_eq_true rfl]; decide), m_r23_Same_J1, if_neg (by rw [decide_eq_true rfl]; decide)]
 exact hL N 0 (by omega) (by omega)
theorem sameAll_refl : m_r23_SameAll N l l = some true := by
 have hbl := hb.1
 have hL : ∀ (f i : Nat), i ≤ l.length → l.length < f + i → m_r23_SameAll_L1 N l l f (i : Int) = some true := by
  intro f
  induction f with
  | zero => intro i h4 h5; omega
  | succ f ih =>
   intro i h4 h5
   rw [m_r23_SameAll_L1.eq_2]
   by_cases hi : i < l.length
   ·obtain ⟨b1, b2, b3⟩ := hb.2 l[i] (List.getElem_mem hi)
    have hs := same_refl hN hb l[i] (by omega) (by omega) (by omega)
    rw [if_pos (decide_eq_true (by omega)), at?_lt hi, Option.bind_some, Option.bind_some]
    rw [hs, Option.bind_some, if_neg (by decide), w64 (by omega), show (i : Int) + 1 = ((i + 1 : Nat) : Int) by omega]
    exact ih (i + 1) (by omega) (by omega)
   ·rw [if_neg (nd (by omega))]
 rw [m_r23_SameAll, if_neg (by rw [decide_eq_true rfl]; decide)]
 exact hL N 0 (by omega) (by omega)
end
theorem told23_eq (e : Option FltV) : m_l23_told e = some (fltO e, true) := by
 cases e with
 | none => rfl
 | some f => rfl
theorem queryParse_true {N : Nat} (hN : 1048610 < N) (t : ByteArray) : m_l23_QueryParse N t = some true := by
 rw [m_l23_QueryParse]
 by_cases h : 10000 < t.size
 ·rw [if_pos (decide_eq_true (by omega))]
 ·obtain ⟨L, e, h1, h2, h3, hb⟩ := parse_eq (N := N) (t := t) (by omega) (by omega)
  obtain ⟨l', hsp⟩ := spoilt_eq hN hb
  have hsa := sameAll_refl hN hb
  rw [if_neg (nd (by omega)), h2, Option.bind_some, h1, Option.bind_some, told23_eq, Option.bind_some, Option.bind_some, told23_eq, Option.bind_some]
  dsimp only
  rw [if_neg (by decide), if_neg (by decide), decide_eq_true rfl, decide_eq_true rfl, decide_eq_true rfl, decide_eq_true rfl, if_neg (by decide), if_neg (by decide), hsa, Option.bind_some, if_neg (by decide), Option.bind_some, m_l23_QueryParse_J1, if_neg (by decide), hsp, Option.bind_some, h1, Option.bind_some, if_pos rfl]
  dsimp only
  rw [hsa, Option.bind_some, if_pos rfl, Option.bind_some]
  rfl

end Go.Proofs.YtnfegieaaaigmaaGreatDoor
