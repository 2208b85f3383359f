/-
  What functions of the program compute, as plain Lean functions (m_..), and proofs that they compute it (c_..). Printed by a program of the author; no conditions.
-/
import Derived.Test.YtjnkbkbllcfoaaaTwo
import Derived.Test.YtjnkbkbllcfoaaaProg
import Derived.Test.YtjnkbkbllcfoaaaRadixAllF4
set_option linter.unusedVariables false
namespace Go.Proofs.Ytjnkbkbllcfoaaa
open Go Go.RowKit


/-- The numbers that the type has. -/
def fit_int (x : Int) : Prop := -9223372036854775808 ≤ x ∧ x ≤ 9223372036854775807

theorem cnt_L2_int : ∀ (l : List Int) (n : Int), (∀ x ∈ l, fit_int x) → (∀ x ∈ l, 1 ≤ x) → 1 ≤ n → n ≤ 2147483647 → m_radix_Count_int_L2 l n = some (goC l n)
  | [], n, _, _, _, _ => rfl
  | x :: l, n, hf, hp, h1, h2 => by
    have hx := hp x (by simp)
    rw [m_radix_Count_int_L2.eq_2, chk_pos (by omega), goC]
    have hq : Int.tdiv 2147483647 n = 2147483647 / n := Int.tdiv_eq_ediv_of_nonneg (by omega)
    have hq0 : 0 ≤ (2147483647 : Int) / n := Int.ediv_nonneg (by omega) (by omega)
    have hq1 : (2147483647 : Int) / n ≤ 2147483647 := Int.ediv_le_self _ (by omega)
    rw [hq, w64 (by omega)]
    by_cases h : 2147483647 < n * x
    · rw [if_pos h, if_pos (decide_eq_true (by rw [Int.ediv_lt_iff_lt_mul (by omega), Int.mul_comm]; exact h))]
    · have h3 : 1 * 1 ≤ n * x := Int.mul_le_mul h1 hx (by omega) (by omega)
      rw [if_neg h, if_neg (by rw [decide_eq_true_eq, Int.ediv_lt_iff_lt_mul (by omega), Int.mul_comm]; exact h), w64 (by omega)]
      exact cnt_L2_int l (n * x) (fun y hy => hf y (by simp [hy])) (fun y hy => hp y (by simp [hy])) (by omega) (by omega)

theorem cnt_L1_int (p : List Int) : ∀ (l : List Int) (b : Bool), m_radix_Count_int_L1 p l b = if anyNeg l then some (0, 3) else if b || anyZero l then some (0, 0) else m_radix_Count_int_L2 p 1
  | [], b => by cases b <;> rfl
  | x :: l, b => by
    rw [m_radix_Count_int_L1.eq_2]
    simp only [m_radix_Count_int_J1, cnt_L1_int p l, anyNeg, anyZero, List.any_cons]
    by_cases h : x < 0
    · simp [h]
    · cases b
      · simp [h]
      · simp [h]

theorem cnt_int (p : List Int) (hf : ∀ x ∈ p, fit_int x) : m_radix_Count_int p = some (cntS p) := by
  unfold m_radix_Count_int cntS
  rw [cnt_L1_int]
  cases h1 : anyNeg p with
  | true => rfl
  | false =>
    cases h2 : anyZero p with
    | true => rfl
    | false =>
      simp only [Bool.false_eq_true, if_false, Bool.or_false]
      exact cnt_L2_int p 1 hf (pos_of h1 h2) (by omega) (by omega)

theorem back_int (N : Nat) (p : List Int) (hlen : p.length < 4611686018427387904) : ∀ (fuel k : Nat), k ≤ p.length → k < fuel → m_slices_Backward_int_int_1_L1 N p fuel ((k : Int) - 1) = some (bp p k) := by
  intro fuel
  induction fuel with
  | zero => intro k _ h; omega
  | succ fuel ih =>
    intro k hk hf
    rw [m_slices_Backward_int_int_1_L1.eq_2]
    cases k with
    | zero => rw [if_neg (by simp)]; rfl
    | succ k =>
      have hkk : ((k + 1 : Nat) : Int) - 1 = (k : Int) := by omega
      rw [hkk, if_pos (decide_eq_true (by omega)), at_get (by omega)]
      simp only [Option.bind_some]
      rw [w64 (n := (k : Int) - 1) (by omega), ih k (by omega) (by omega)]
      rfl

theorem dig_L1_int (p : List Int) (hf : ∀ x ∈ p, fit_int x) (hnz : ∀ x ∈ p, 1 ≤ x) : ∀ (k : Nat) (at_ : Int) (out : List Int), 0 ≤ at_ → at_ < 9223372036854775807 → k ≤ p.length → out.length = p.length → m_radix_digits_int_L1 (bp p k) at_ out = some (dg p k at_ out)
  | 0, _, _, _, _, _, _ => rfl
  | k + 1, at_, out, h0, h9, hk, ho => by
    have hlt : k < p.length := by omega
    have hx := hnz _ (getD_mem hlt)
    have hfx := hf _ (getD_mem hlt)
    rw [bp, m_radix_digits_int_L1.eq_2]
    simp only [dg]
    generalize p.getD k 0 = e at hx hfx ⊢
    have hm : IntKind.i64.wrap (Int.tmod at_ e) = Int.tmod at_ e := by
      have h1 : 0 ≤ Int.tmod at_ e := Int.tmod_nonneg _ h0
      have h2 : Int.tmod at_ e < e := Int.tmod_lt_of_pos _ (by omega)
      exact w64 (by unfold fit_int at hfx; omega)
    have hq : Int.tdiv at_ e = at_ / e := Int.tdiv_eq_ediv_of_nonneg h0
    have hq0 : 0 ≤ at_ / e := Int.ediv_nonneg h0 (by omega)
    have hq1 : at_ / e ≤ at_ := Int.ediv_le_self _ h0
    rw [chk_pos (by omega), at_get (by omega)]
    simp only [Option.bind_some, Int.toNat_natCast]
    rw [chk_pos (by omega)]
    rw [dig_L1_int p hf hnz k _ _ (by rw [w64] <;> omega) (by rw [w64] <;> omega) (by omega) (by simpa using ho)]

theorem dg_fit_int (p : List Int) (hf : ∀ x ∈ p, fit_int x) (hnz : ∀ x ∈ p, 1 ≤ x) : ∀ (k : Nat) (at_ : Int) (out : List Int), 0 ≤ at_ → at_ < 9223372036854775807 → k ≤ p.length → (∀ x ∈ out, fit_int x) → ∀ x ∈ dg p k at_ out, fit_int x
  | 0, _, _, _, _, _, ho => ho
  | k + 1, at_, out, h0, h9, hk, ho => by
    have hlt : k < p.length := by omega
    have hx := hnz _ (getD_mem hlt)
    have hfx := hf _ (getD_mem hlt)
    simp only [dg]
    generalize p.getD k 0 = e at hx hfx ⊢
    have h1 : 0 ≤ Int.tmod at_ e := Int.tmod_nonneg _ h0
    have h2 : Int.tmod at_ e < e := Int.tmod_lt_of_pos _ (by omega)
    have hq : Int.tdiv at_ e = at_ / e := Int.tdiv_eq_ediv_of_nonneg h0
    have hq0 : 0 ≤ at_ / e := Int.ediv_nonneg h0 (by omega)
    have hq1 : at_ / e ≤ at_ := Int.ediv_le_self _ h0
    have hm : fit_int (Int.tmod at_ e) := by
      unfold fit_int at hfx ⊢; omega
    refine dg_fit_int p hf hnz k _ _ (by rw [w64] <;> omega) (by rw [w64] <;> omega) (by omega) fun x hx => ?_
    rcases List.mem_or_eq_of_mem_set hx with h | h
    · exact ho x h
    · rw [h]; exact hm
theorem dgS_fit_int (p : List Int) (at_ : Int) (hf : ∀ x ∈ p, fit_int x) : ∀ x ∈ (dgS p at_).1, fit_int x := by
  unfold dgS
  split
  · rename_i h0
    split
    · simp
    · rename_i h1
      have hp := cnt_pos h0 (by omega)
      refine dg_fit_int p hf hp.1 p.length at_ _ (by omega) (by omega) (Nat.le_refl _) fun x hx => ?_
      rw [List.eq_of_mem_replicate hx]
      exact ⟨by decide, by decide⟩
  · simp

/-! the statements' own helpers -/
theorem roomy_int (N : Nat) (l : List Int) (hN : 6 ≤ N) (hlen : l.length ≤ 17592186043904) : m_credencelaw10_roomy_int N l = some (l.length, l ++ [77, 77, 77, 77, 77]) := by
  obtain ⟨n, rfl⟩ : ∃ n, N = n + 6 := ⟨N - 6, by omega⟩
  unfold m_credencelaw10_roomy_int
  rw [chk_pos (by simp only [List.length_nil, maxLen]; omega)]
  have s : ∀ (f : Nat) (m : List Int) (i j : Int), i < 5 → IntKind.i64.wrap (i + 1) = j → m.length ≤ 17592186043910 → m_credencelaw10_roomy_int_L1 (n + 6) l (f + 1) m i = m_credencelaw10_roomy_int_L1 (n + 6) l f (m ++ [77]) j := by
    intro f m i j h1 h2 h3
    rw [m_credencelaw10_roomy_int_L1.eq_2, if_pos (decide_eq_true h1), chk_pos (by simp only [List.length_cons, List.length_nil, maxLen]; omega), h2]
  rw [List.nil_append, s (n + 5) _ 0 1 (by omega) (by decide) (by omega), s (n + 4) _ 1 2 (by omega) (by decide) (by simp; omega), s (n + 3) _ 2 3 (by omega) (by decide) (by simp; omega), s (n + 2) _ 3 4 (by omega) (by decide) (by simp; omega),
    s (n + 1) _ 4 5 (by omega) (by decide) (by simp; omega), m_credencelaw10_roomy_int_L1.eq_2, if_neg (by decide), chk_pos (by simp; omega)]
  simp

theorem plain_int_L1 (N : Nat) (l : List Int) (hf : ∀ x ∈ l, fit_int x) (hlen : l.length ≤ 17592186044416) : ∀ (fuel k : Nat), k ≤ l.length → l.length - k < fuel → m_credencelaw10_plain_int_L1 N l fuel (l.take k) (k : Int) = some l := by
  intro fuel
  induction fuel with
  | zero => intro k _ h; omega
  | succ fuel ih =>
    intro k hk hfu
    rw [m_credencelaw10_plain_int_L1.eq_2]
    by_cases hlt : k < l.length
    · have hx := hf _ (getD_mem hlt)
      rw [if_pos (decide_eq_true (by omega)), at_get hlt]
      simp only [Option.bind_some]
      rw [chk_pos (by simp only [List.length_take, List.length_cons, List.length_nil, maxLen]; omega), wrap_up (by omega)]
      have ht : l.take k ++ [l.getD k 0] = l.take (k + 1) := by
        rw [List.take_add_one]; simp [hlt]
      rw [ht]; exact ih (k + 1) (by omega) (by omega)
    · rw [if_neg (by simp; omega), List.take_of_length_le (by omega)]
theorem plain_int (N : Nat) (l : List Int) (hf : ∀ x ∈ l, fit_int x) (hN : l.length < N) (hlen : l.length ≤ 17592186044416) : m_credencelaw10_plain_int N l = some l := by
  have := plain_int_L1 N l hf hlen N 0 (by omega) (by omega)
  unfold m_credencelaw10_plain_int
  simpa using this

theorem same_int_L1 (N : Nat) (l : List Int) (hf : ∀ x ∈ l, fit_int x) (hlen : l.length < 4611686018427387904) : ∀ (fuel k : Nat), k ≤ l.length → l.length - k < fuel → m_credencelaw10_same_int_L1 N l l fuel (k : Int) = some true := by
  intro fuel
  induction fuel with
  | zero => intro k _ h; omega
  | succ fuel ih =>
    intro k hk hfu
    rw [m_credencelaw10_same_int_L1.eq_2]
    by_cases hlt : k < l.length
    · have hx := hf _ (getD_mem hlt)
      rw [if_pos (decide_eq_true (by omega)), at_get hlt]
      simp only [Option.bind_some]
      rw [if_neg (by simp), wrap_up (by omega)]
      exact ih (k + 1) (by omega) (by omega)
    · rw [if_neg (by simp; omega)]
theorem same_int (N : Nat) (l : List Int) (hf : ∀ x ∈ l, fit_int x) (hN : l.length < N) (hlen : l.length < 4611686018427387904) : m_credencelaw10_same_int N l l = some true := by
  unfold m_credencelaw10_same_int
  rw [if_neg (by simp)]
  exact same_int_L1 N l hf hlen N 0 (by omega) (by omega)

theorem kept_int_L1 (N n0 : Nat) (l : List Int) (hn : n0 = l.length) (hlen : l.length ≤ 17592186044416) : ∀ (fuel k : Nat), k ≤ l.length + 5 → l.length + 5 - k < fuel → m_credencelaw10_kept_int_L1 N n0 (l ++ [77, 77, 77, 77, 77]) l fuel (k : Int) = some true := by
  intro fuel
  induction fuel with
  | zero => intro k _ h; omega
  | succ fuel ih =>
    intro k hk hfu
    rw [m_credencelaw10_kept_int_L1.eq_2]
    have hw : IntKind.i64.wrap ((l.length : Int) + 5) = ((l.length + 5 : Nat) : Int) := by rw [w64 (by omega)]; omega
    have hL : (l ++ [77, 77, 77, 77, 77]).take (Int.toNat (IntKind.i64.wrap ((l.length : Int) + 5))) = l ++ [77, 77, 77, 77, 77] := by
      rw [hw, Int.toNat_natCast, List.take_of_length_le (by simp)]
    rw [hL]
    have hlen5 : (l ++ [77, 77, 77, 77, 77] : List Int).length = l.length + 5 := by simp
    by_cases h5 : k < l.length + 5
    · rw [if_pos (decide_eq_true (by rw [hlen5]; omega))]
      rw [at_get (by rw [hlen5]; exact h5)]
      simp only [m_credencelaw10_kept_int_J2, m_credencelaw10_kept_int_J1, Option.bind_some, wrap_up (show k < 4611686018427387904 by omega), ih (k + 1) (by omega) (by omega)]
      by_cases hlt : k < l.length
      · have hg : (l ++ [77, 77, 77, 77, 77]).getD k 0 = l.getD k 0 := by
          rw [List.getD_eq_getElem?_getD, List.getD_eq_getElem?_getD, List.getElem?_append_left hlt]
        have h6 : ¬ ((l.length : Int) ≤ (k : Int)) := by omega
        rw [if_pos (decide_eq_true (by omega)), at_get hlt, hg]
        simp [h6]
      · have hg : (l ++ [77, 77, 77, 77, 77]).getD k 0 = 77 := by
          rw [List.getD_eq_getElem?_getD, List.getElem?_append_right (by omega)]
          have : k - l.length < 5 := by omega
          generalize k - l.length = j at this
          match j, this with
          | 0, _ => rfl
          | 1, _ => rfl
          | 2, _ => rfl
          | 3, _ => rfl
          | 4, _ => rfl
        have h6 : ((l.length : Int) ≤ (k : Int)) := by omega
        rw [if_neg (by simp; omega), hg]
        simp [h6]
    · rw [if_neg (by rw [hlen5]; simp; omega)]
      simp [hn]
theorem kept_int (N : Nat) (l : List Int) (hN : l.length + 5 < N) (hlen : l.length ≤ 17592186044416) : m_credencelaw10_kept_int N l.length (l ++ [77, 77, 77, 77, 77]) l = some true := by
  unfold m_credencelaw10_kept_int
  rw [chk_pos (by rw [w64 (by omega)]; simp; omega)]
  exact kept_int_L1 N l.length l rfl hlen N 0 (by omega) (by omega)

/-- The digits of a place that there is. -/
theorem digits_int (N : Nat) (p : List Int) (at_ : Int) (hf : ∀ x ∈ p, fit_int x) (hN : p.length < N) (hlen : p.length ≤ 17592186044416) (h0 : (cntS p).2 = 0) (h1 : 0 ≤ at_) (h2 : at_ < (cntS p).1) : m_radix_digits_int N p at_ = some (dgS p at_).1 := by
  have hp := cnt_pos h0 (by omega)
  unfold dgS
  rw [if_pos h0, if_neg (by omega)]
  unfold m_radix_digits_int
  cases hl : p with
  | nil => rfl
  | cons x l =>
    rw [← hl, if_neg (by rw [hl]; simp; omega), chk_pos (by simp only [maxLen]; omega)]
    unfold m_slices_Backward_int_int m_slices_Backward_int_int_1
    rw [w64 (by omega), back_int N p (by omega) N p.length (Nat.le_refl _) hN]
    simp only [Option.bind_some]
    exact dig_L1_int p hf hp.1 p.length at_ _ (by omega) (by omega) (Nat.le_refl _) (by simp)

theorem all_L1_int (N : Nat) (p : List Int) (hf : ∀ x ∈ p, fit_int x) (hN : p.length < N) (hlen : p.length ≤ 17592186044416) (h0 : (cntS p).2 = 0) (h9 : (cntS p).1 ≤ 2147483647) : ∀ (fuel k : Nat), (cntS p).1 < ((fuel + k : Nat) : Int) → (k : Int) ≤ (cntS p).1 →
    m_radix_All_int_1_L1 N (cntS p).1 p fuel (k : Int) = some (itemsF p k ((cntS p).1.toNat - k))
  | 0, k, h, hk => by omega
  | fuel + 1, k, h, hk => by
    rw [m_radix_All_int_1_L1.eq_2]
    by_cases hlt : (k : Int) < (cntS p).1
    · obtain ⟨j, hj⟩ : ∃ j, (cntS p).1.toNat - k = j + 1 := ⟨(cntS p).1.toNat - k - 1, by omega⟩
      rw [if_pos (decide_eq_true hlt), digits_int N p k hf hN hlen h0 (by omega) hlt, Option.bind_some, wrap_up (by omega), all_L1_int N p hf hN hlen h0 h9 fuel (k + 1) (by omega) (by omega), Option.bind_some, hj, itemsF, show (cntS p).1.toNat - (k + 1) = j by omega]
    · rw [if_neg (by rw [decide_eq_true_eq]; exact hlt), show (cntS p).1.toNat - k = 0 by omega, itemsF]
theorem all_int (N : Nat) (p : List Int) (hf : ∀ x ∈ p, fit_int x) (hN : p.length < N) (hN2 : 4294967296 ≤ N) (hlen : p.length ≤ 17592186043904) : m_radix_All_int N p = some (itemsF p 0 (cntS p).1.toNat) := by
  unfold m_radix_All_int m_slices_Clone_int_int
  rw [chk_pos (by simp only [List.length_nil, maxLen]; omega), Option.bind_some, List.nil_append, cnt_int p hf, Option.bind_some]
  unfold m_radix_All_int_1
  by_cases h0 : (cntS p).2 = 0
  · have h9 := cnt_le h0
    have := all_L1_int N p hf hN (by omega) h0 h9.2 N 0 (by omega) (by omega)
    simpa using this
  · rw [cnt_err h0]
    obtain ⟨n, rfl⟩ : ∃ n, N = n + 1 := ⟨N - 1, by omega⟩
    rw [m_radix_All_int_1_L1.eq_2, if_neg (by decide)]; rfl

section
variable (N : Nat) (left : Int) (p : List Int) (hf : ∀ x ∈ p, fit_int x) (hN : p.length + 20 < N) (hN2 : 4294967296 ≤ N) (hlen : p.length ≤ 17592186043904) (h0 : (cntS p).2 = 0)
include hf hN hN2 hlen h0
omit hN2 h0 in
theorem dsame_int (k : Nat) : m_credencelaw10_same_int N (dgS p k).1 (dgS p k).1 = some true := by
  have := dgS_len p k
  exact same_int N _ (dgS_fit_int p k hf) (by omega) (by omega)
omit hN2 in
/-- More than 2000: the first 20 are gone over. -/
theorem L2_int : ∀ (j k : Nat), (k : Int) + j = (cntS p).1 → 2000 < (cntS p).1 → k ≤ 20 → ∀ v, m_credencelaw10_walked_int_L2 N p (cntS p) (itemsF p k j) (k : Int) v = some true
  | 0, k, hj, h, hk, v => by omega
  | j + 1, k, hj, h, hk, v => by
    rw [itemsF, m_credencelaw10_walked_int_L2.eq_2, ref_digits N p _ (by omega) (by omega), Option.bind_some]
    by_cases h20 : k = 20
    · subst h20
      rw [if_pos (by decide), m_credencelaw10_walked_int_L2_X2, if_pos (decide_eq_true h0), m_credencelaw10_walked_int_J4]
    · have hd := (dg_ok h0 (show (0 : Int) ≤ (k : Int) by omega) (show (k : Int) < (cntS p).1 by omega))
      rw [if_neg (by rw [decide_eq_true_eq]; omega), if_neg (by simp [h0]), if_neg (by simp), if_neg (by simp [hd]), dsame_int N p hf hN hlen k, Option.bind_some, m_credencelaw10_walked_int_J5, if_neg (by decide), wrap_up (by omega)]
      exact L2_int j (k + 1) (by omega) h (by omega) v
omit hN2 h0 in
/-- What was kept of those that are odd. -/
theorem L5_int (h9 : (cntS p).1 ≤ 2000) (all : List (Option (List Int))) (hal : (all.length : Int) = (cntS p).1) (ha : ∀ i : Nat, i < all.length → i % 2 = 1 → all[i]? = some (some (dgS p i).1)) : ∀ (f i : Nat) (v : Bool), all.length + 1 < f + i → i % 2 = 1 → i ≤ all.length + 1 → m_credencelaw10_walked_int_L5 N p (cntS p) all f (i : Int) v = some true
  | 0, i, v, h, hi, hle => by omega
  | f + 1, i, v, h, hi, hle => by
    rw [m_credencelaw10_walked_int_L5.eq_2]
    by_cases hlt : i < all.length
    · have hat : at? all (i : Int) = some (some (dgS p i).1) := by rw [at?_nat]; exact ha i hlt hi
      rw [if_pos (decide_eq_true (by omega)), ref_digits N p _ (by omega) (by omega), Option.bind_some, hat, Option.bind_some, Option.bind_some, dsame_int N p hf hN hlen i, Option.bind_some, if_neg (by decide), show IntKind.i64.wrap ((i : Int) + 2) = ((i + 2 : Nat) : Int) by rw [w64 (by omega)]; omega]
      by_cases hle2 : i + 2 ≤ all.length + 1
      · exact L5_int h9 all hal ha f (i + 2) v (by omega) (by omega) hle2
      · omega
    · rw [if_neg (by rw [decide_eq_true_eq]; omega), decide_eq_true hal]
omit hf hN hN2 h0 in
theorem L6_int (all : List (Option (List Int))) (v : Bool) (kk : List (Option (List Int)) → Bool → Option Bool) : ∀ (f i : Nat) (d : List Int), d.length ≤ p.length → d.length < f + i → i ≤ d.length → m_credencelaw10_walked_int_L6 N all v kk f d (i : Int) = kk (all ++ [none]) v
  | 0, i, d, h1, h, hi => by omega
  | f + 1, i, d, h1, h, hi => by
    rw [m_credencelaw10_walked_int_L6.eq_2]
    by_cases hlt : i < d.length
    · rw [if_pos (decide_eq_true (by omega)), at_get hlt, Option.bind_some, Option.bind_some, wrap_up (by omega)]
      exact L6_int all v kk f (i + 1) _ (by rw [List.length_set]; exact h1) (by rw [List.length_set]; omega) (by rw [List.length_set]; omega)
    · rw [if_neg (by rw [decide_eq_true_eq]; omega), chk_pos (by simp only [List.length_cons, List.length_nil, maxLen]; omega), chk_pos (by simp only [List.length_append, List.length_cons, List.length_nil, maxLen]; omega)]
theorem L4_int (h9 : (cntS p).1 ≤ 2000) : ∀ (j : Nat) (all : List (Option (List Int))) (v : Bool), (all.length : Int) + j = (cntS p).1 → (∀ i : Nat, i < all.length → i % 2 = 1 → all[i]? = some (some (dgS p i).1)) → m_credencelaw10_walked_int_L4 N p (cntS p) (itemsF p all.length j) all v = some true
  | 0, all, v, hj, ha => by
    rw [itemsF, m_credencelaw10_walked_int_L4.eq_1, show (1 : Int) = ((1 : Nat) : Int) from rfl]
    exact L5_int N p hf hN hlen h9 all (by omega) ha N 1 v (by omega) (by omega) (by omega)
  | j + 1, all, v, hj, ha => by
    have hd := (dg_ok h0 (show (0 : Int) ≤ (all.length : Int) by omega) (show (all.length : Int) < (cntS p).1 by omega))
    rw [itemsF, m_credencelaw10_walked_int_L4.eq_2, ref_digits N p _ (by omega) (by omega), Option.bind_some, if_neg (by simp), if_neg (by simp [hd]), dsame_int N p hf hN hlen all.length, Option.bind_some, m_credencelaw10_walked_int_J6, if_neg (by decide)]
    have hmod : Int.tmod (all.length : Int) 2 = ((all.length % 2 : Nat) : Int) := rfl
    by_cases hpar : all.length % 2 = 0
    · rw [if_pos (decide_eq_true (by rw [hmod, hpar]; rfl)), chk_pos (by simp only [List.length_cons, List.length_nil, maxLen]; omega), show (0 : Int) = ((0 : Nat) : Int) from rfl, L6_int N p hlen all v _ N 0 _ (dgS_len p _) (by have := dgS_len p all.length; omega) (Nat.zero_le _)]
      have := L4_int h9 j (all ++ [none]) v (by simp; omega) (fun i hi hm => by
        have : i ≠ all.length := fun e => by omega
        rw [List.length_append, List.length_singleton] at hi
        rw [List.getElem?_append_left (by omega)]
        exact ha i (by omega) hm)
      rw [List.length_append, List.length_singleton] at this
      exact this
    · rw [if_neg (by rw [decide_eq_true_eq, hmod]; omega), chk_pos (by simp only [List.length_cons, List.length_nil, maxLen]; omega)]
      have := L4_int h9 j (all ++ [some (dgS p all.length).1]) v (by simp; omega) (fun i hi hm => by
        rw [List.length_append, List.length_singleton] at hi
        by_cases he : i = all.length
        · subst he; rw [List.getElem?_append_right (Nat.le_refl _), Nat.sub_self]; rfl
        · rw [List.getElem?_append_left (by omega)]
          exact ha i (by omega) hm)
      rw [List.length_append, List.length_singleton] at this
      exact this
omit hN2 h0 in
/-- What was kept of those that are odd. -/
theorem L8_int (h9 : (cntS p).1 ≤ 2000) (all : List (Option (List Int))) (hal : (all.length : Int) = (cntS p).1) (ha : ∀ i : Nat, i < all.length → i % 2 = 1 → all[i]? = some (some (dgS p i).1)) : ∀ (f i : Nat) (v : Bool), all.length + 1 < f + i → i % 2 = 1 → i ≤ all.length + 1 → m_credencelaw10_walked_int_L8 N p (cntS p) all f (i : Int) v = some true
  | 0, i, v, h, hi, hle => by omega
  | f + 1, i, v, h, hi, hle => by
    rw [m_credencelaw10_walked_int_L8.eq_2]
    by_cases hlt : i < all.length
    · have hat : at? all (i : Int) = some (some (dgS p i).1) := by rw [at?_nat]; exact ha i hlt hi
      rw [if_pos (decide_eq_true (by omega)), ref_digits N p _ (by omega) (by omega), Option.bind_some, hat, Option.bind_some, Option.bind_some, dsame_int N p hf hN hlen i, Option.bind_some, if_neg (by decide), show IntKind.i64.wrap ((i : Int) + 2) = ((i + 2 : Nat) : Int) by rw [w64 (by omega)]; omega]
      by_cases hle2 : i + 2 ≤ all.length + 1
      · exact L8_int h9 all hal ha f (i + 2) v (by omega) (by omega) hle2
      · omega
    · rw [if_neg (by rw [decide_eq_true_eq]; omega), decide_eq_true hal]
omit hf hN hN2 h0 in
theorem L9_int (all : List (Option (List Int))) (v : Bool) (kk : List (Option (List Int)) → Bool → Option Bool) : ∀ (f i : Nat) (d : List Int), d.length ≤ p.length → d.length < f + i → i ≤ d.length → m_credencelaw10_walked_int_L9 N all v kk f d (i : Int) = kk (all ++ [none]) v
  | 0, i, d, h1, h, hi => by omega
  | f + 1, i, d, h1, h, hi => by
    rw [m_credencelaw10_walked_int_L9.eq_2]
    by_cases hlt : i < d.length
    · rw [if_pos (decide_eq_true (by omega)), at_get hlt, Option.bind_some, Option.bind_some, wrap_up (by omega)]
      exact L9_int all v kk f (i + 1) _ (by rw [List.length_set]; exact h1) (by rw [List.length_set]; omega) (by rw [List.length_set]; omega)
    · rw [if_neg (by rw [decide_eq_true_eq]; omega), chk_pos (by simp only [List.length_cons, List.length_nil, maxLen]; omega), chk_pos (by simp only [List.length_append, List.length_cons, List.length_nil, maxLen]; omega)]
theorem L7_int (h9 : (cntS p).1 ≤ 2000) : ∀ (j : Nat) (all : List (Option (List Int))) (v : Bool), (all.length : Int) + j = (cntS p).1 → (∀ i : Nat, i < all.length → i % 2 = 1 → all[i]? = some (some (dgS p i).1)) → m_credencelaw10_walked_int_L7 N p (cntS p) (itemsF p all.length j) all v = some true
  | 0, all, v, hj, ha => by
    rw [itemsF, m_credencelaw10_walked_int_L7.eq_1, show (1 : Int) = ((1 : Nat) : Int) from rfl]
    exact L8_int N p hf hN hlen h9 all (by omega) ha N 1 v (by omega) (by omega) (by omega)
  | j + 1, all, v, hj, ha => by
    have hd := (dg_ok h0 (show (0 : Int) ≤ (all.length : Int) by omega) (show (all.length : Int) < (cntS p).1 by omega))
    rw [itemsF, m_credencelaw10_walked_int_L7.eq_2, ref_digits N p _ (by omega) (by omega), Option.bind_some, if_neg (by simp), if_neg (by simp [hd]), dsame_int N p hf hN hlen all.length, Option.bind_some, m_credencelaw10_walked_int_J7, if_neg (by decide)]
    have hmod : Int.tmod (all.length : Int) 2 = ((all.length % 2 : Nat) : Int) := rfl
    by_cases hpar : all.length % 2 = 0
    · rw [if_pos (decide_eq_true (by rw [hmod, hpar]; rfl)), chk_pos (by simp only [List.length_cons, List.length_nil, maxLen]; omega), show (0 : Int) = ((0 : Nat) : Int) from rfl, L9_int N p hlen all v _ N 0 _ (dgS_len p _) (by have := dgS_len p all.length; omega) (Nat.zero_le _)]
      have := L7_int h9 j (all ++ [none]) v (by simp; omega) (fun i hi hm => by
        have : i ≠ all.length := fun e => by omega
        rw [List.length_append, List.length_singleton] at hi
        rw [List.getElem?_append_left (by omega)]
        exact ha i (by omega) hm)
      rw [List.length_append, List.length_singleton] at this
      exact this
    · rw [if_neg (by rw [decide_eq_true_eq, hmod]; omega), chk_pos (by simp only [List.length_cons, List.length_nil, maxLen]; omega)]
      have := L7_int h9 j (all ++ [some (dgS p all.length).1]) v (by simp; omega) (fun i hi hm => by
        rw [List.length_append, List.length_singleton] at hi
        by_cases he : i = all.length
        · subst he; rw [List.getElem?_append_right (Nat.le_refl _), Nat.sub_self]; rfl
        · rw [List.getElem?_append_left (by omega)]
          exact ha i (by omega) hm)
      rw [List.length_append, List.length_singleton] at this
      exact this
theorem L3_int (h9 : (cntS p).1 ≤ 2000) (hn : 0 ≤ (cntS p).1) : ∀ (j k : Nat), (k : Int) + j = (cntS p).1 → ∀ v, m_credencelaw10_walked_int_L3 N left p (cntS p) (itemsF p 0 (cntS p).1.toNat) (itemsF p k j) (k : Int) v = some true
  | 0, k, hj, v => by
    rw [itemsF, m_credencelaw10_walked_int_L3.eq_1]
    exact L4_int N p hf hN hN2 hlen h0 h9 _ [] v (by simp; omega) (by simp)
  | j + 1, k, hj, v => by
    rw [itemsF, m_credencelaw10_walked_int_L3.eq_2]
    by_cases hl : (k : Int) = left
    · rw [if_pos (decide_eq_true hl), m_credencelaw10_walked_int_L3_X4]
      exact L7_int N p hf hN hN2 hlen h0 h9 _ [] v (by simp; omega) (by simp)
    · rw [if_neg (by rw [decide_eq_true_eq]; exact hl), if_neg (by simp), wrap_up (by omega)]
      exact L3_int h9 hn j (k + 1) (by omega) v
end
theorem L1_int (N : Nat) (left : Int) (p : List Int) (hf : ∀ x ∈ p, fit_int x) (hN : p.length + 20 < N) (hN2 : 4294967296 ≤ N) (hlen : p.length ≤ 17592186043904) : ∀ (f i : Nat) (s : List Int), s.length = p.length → p.length < f + i → i ≤ p.length → m_credencelaw10_walked_int_L1 N left p (cntS p) (itemsF p 0 (cntS p).1.toNat) f (i : Int) s = some true
  | 0, i, s, hs, h, hi => by omega
  | f + 1, i, s, hs, h, hi => by
    rw [m_credencelaw10_walked_int_L1.eq_2]
    by_cases hlt : i < s.length
    · rw [if_pos (decide_eq_true (by omega)), at_get hlt, Option.bind_some, Option.bind_some, wrap_up (by omega)]
      exact L1_int N left p hf hN hN2 hlen f (i + 1) _ (by rw [List.length_set]; exact hs) (by omega) (by omega)
    · rw [if_neg (by rw [decide_eq_true_eq]; omega)]
      by_cases h0 : (cntS p).2 = 0
      · have h9 := cnt_le h0
        rw [if_neg (by simp [h0]), m_credencelaw10_walked_int_J2]
        by_cases h20 : 2000 < (cntS p).1
        · rw [decide_eq_true h20, if_pos rfl, show (0 : Int) = ((0 : Nat) : Int) from rfl]
          exact L2_int N p hf hN hlen h0 _ 0 (by omega) h20 (by omega) false
        · rw [decide_eq_false h20, if_neg (by decide), show (0 : Int) = ((0 : Nat) : Int) from rfl]
          exact L3_int N left p hf hN hN2 hlen h0 (by omega) h9.1 _ 0 (by omega) false
      · rw [if_pos (by simp [h0]), m_credencelaw10_walked_int_J2, if_pos rfl, cnt_err h0]
        rw [show ((0 : Int)).toNat = 0 from rfl, itemsF, m_credencelaw10_walked_int_L2.eq_1, if_neg (by simp [h0]), m_credencelaw10_walked_int_J3]; rfl
theorem walked_int (N : Nat) (left : Int) (p : List Int) (hf : ∀ x ∈ p, fit_int x) (hN : p.length + 20 < N) (hN2 : 4294967296 ≤ N) (hlen : p.length ≤ 17592186043904) : m_credencelaw10_walked_int N p left = some true := by
  have htk : (p ++ [77, 77, 77, 77, 77]).take p.length = p := List.take_left
  unfold m_credencelaw10_walked_int
  rw [roomy_int N p (by omega) hlen, Option.bind_some, plain_int N p hf (by omega) (by omega), Option.bind_some, ref_count N p (by omega) (by omega), Option.bind_some]
  simp only [htk]
  rw [all_int N p hf (by omega) hN2 hlen, Option.bind_some, kept_int N p (by omega) (by omega), Option.bind_some, m_credencelaw10_walked_int_J1, if_neg (by decide)]
  simp only [htk]
  rw [show (0 : Int) = ((0 : Nat) : Int) from rfl]
  exact L1_int N left p hf hN hN2 hlen N 0 p rfl (by omega) (Nat.zero_le _)


/-- The numbers that the type has. -/
def fit_int32 (x : Int) : Prop := IntKind.i32.wrap x = x ∧ IntKind.i64.wrap x = x

theorem cnt_L2_int32 : ∀ (l : List Int) (n : Int), (∀ x ∈ l, fit_int32 x) → (∀ x ∈ l, 1 ≤ x) → 1 ≤ n → n ≤ 2147483647 → m_radix_Count_int32_L2 l n = some (goC l n)
  | [], n, _, _, _, _ => rfl
  | x :: l, n, hf, hp, h1, h2 => by
    have hx := hp x (by simp)
    rw [m_radix_Count_int32_L2.eq_2, chk_pos (by omega), goC]
    rw [(hf x (by simp)).2]
    have hq : Int.tdiv 2147483647 n = 2147483647 / n := Int.tdiv_eq_ediv_of_nonneg (by omega)
    have hq0 : 0 ≤ (2147483647 : Int) / n := Int.ediv_nonneg (by omega) (by omega)
    have hq1 : (2147483647 : Int) / n ≤ 2147483647 := Int.ediv_le_self _ (by omega)
    rw [hq, w64 (by omega)]
    by_cases h : 2147483647 < n * x
    · rw [if_pos h, if_pos (decide_eq_true (by rw [Int.ediv_lt_iff_lt_mul (by omega), Int.mul_comm]; exact h))]
    · have h3 : 1 * 1 ≤ n * x := Int.mul_le_mul h1 hx (by omega) (by omega)
      rw [if_neg h, if_neg (by rw [decide_eq_true_eq, Int.ediv_lt_iff_lt_mul (by omega), Int.mul_comm]; exact h), w64 (by omega)]
      exact cnt_L2_int32 l (n * x) (fun y hy => hf y (by simp [hy])) (fun y hy => hp y (by simp [hy])) (by omega) (by omega)

theorem cnt_L1_int32 (p : List Int) : ∀ (l : List Int) (b : Bool), m_radix_Count_int32_L1 p l b = if anyNeg l then some (0, 3) else if b || anyZero l then some (0, 0) else m_radix_Count_int32_L2 p 1
  | [], b => by cases b <;> rfl
  | x :: l, b => by
    rw [m_radix_Count_int32_L1.eq_2]
    simp only [m_radix_Count_int32_J1, cnt_L1_int32 p l, anyNeg, anyZero, List.any_cons]
    by_cases h : x < 0
    · simp [h]
    · cases b
      · simp [h]
      · simp [h]

theorem cnt_int32 (p : List Int) (hf : ∀ x ∈ p, fit_int32 x) : m_radix_Count_int32 p = some (cntS p) := by
  unfold m_radix_Count_int32 cntS
  rw [cnt_L1_int32]
  cases h1 : anyNeg p with
  | true => rfl
  | false =>
    cases h2 : anyZero p with
    | true => rfl
    | false =>
      simp only [Bool.false_eq_true, if_false, Bool.or_false]
      exact cnt_L2_int32 p 1 hf (pos_of h1 h2) (by omega) (by omega)

theorem back_int32 (N : Nat) (p : List Int) (hlen : p.length < 4611686018427387904) : ∀ (fuel k : Nat), k ≤ p.length → k < fuel → m_slices_Backward_int32_int32_1_L1 N p fuel ((k : Int) - 1) = some (bp p k) := by
  intro fuel
  induction fuel with
  | zero => intro k _ h; omega
  | succ fuel ih =>
    intro k hk hf
    rw [m_slices_Backward_int32_int32_1_L1.eq_2]
    cases k with
    | zero => rw [if_neg (by simp)]; rfl
    | succ k =>
      have hkk : ((k + 1 : Nat) : Int) - 1 = (k : Int) := by omega
      rw [hkk, if_pos (decide_eq_true (by omega)), at_get (by omega)]
      simp only [Option.bind_some]
      rw [w64 (n := (k : Int) - 1) (by omega), ih k (by omega) (by omega)]
      rfl

theorem dig_L1_int32 (p : List Int) (hf : ∀ x ∈ p, fit_int32 x) (hnz : ∀ x ∈ p, 1 ≤ x) : ∀ (k : Nat) (at_ : Int) (out : List Int), 0 ≤ at_ → at_ < 9223372036854775807 → k ≤ p.length → out.length = p.length → m_radix_digits_int32_L1 (bp p k) at_ out = some (dg p k at_ out)
  | 0, _, _, _, _, _, _ => rfl
  | k + 1, at_, out, h0, h9, hk, ho => by
    have hlt : k < p.length := by omega
    have hx := hnz _ (getD_mem hlt)
    have hfx := hf _ (getD_mem hlt)
    rw [bp, m_radix_digits_int32_L1.eq_2]
    simp only [dg]
    generalize p.getD k 0 = e at hx hfx ⊢
    rw [hfx.2]
    have hm : IntKind.i32.wrap (Int.tmod at_ e) = Int.tmod at_ e := by
      have h1 : 0 ≤ Int.tmod at_ e := Int.tmod_nonneg _ h0
      have h2 : Int.tmod at_ e < e := Int.tmod_lt_of_pos _ (by omega)
      have h3 := hfx.1
      rw [IntKind.wrap_i32] at h3 ⊢
      omega
    rw [hm]
    have hq : Int.tdiv at_ e = at_ / e := Int.tdiv_eq_ediv_of_nonneg h0
    have hq0 : 0 ≤ at_ / e := Int.ediv_nonneg h0 (by omega)
    have hq1 : at_ / e ≤ at_ := Int.ediv_le_self _ h0
    rw [chk_pos (by omega), at_get (by omega)]
    simp only [Option.bind_some, Int.toNat_natCast]
    rw [chk_pos (by omega)]
    rw [dig_L1_int32 p hf hnz k _ _ (by rw [w64] <;> omega) (by rw [w64] <;> omega) (by omega) (by simpa using ho)]

theorem dg_fit_int32 (p : List Int) (hf : ∀ x ∈ p, fit_int32 x) (hnz : ∀ x ∈ p, 1 ≤ x) : ∀ (k : Nat) (at_ : Int) (out : List Int), 0 ≤ at_ → at_ < 9223372036854775807 → k ≤ p.length → (∀ x ∈ out, fit_int32 x) → ∀ x ∈ dg p k at_ out, fit_int32 x
  | 0, _, _, _, _, _, ho => ho
  | k + 1, at_, out, h0, h9, hk, ho => by
    have hlt : k < p.length := by omega
    have hx := hnz _ (getD_mem hlt)
    have hfx := hf _ (getD_mem hlt)
    simp only [dg]
    generalize p.getD k 0 = e at hx hfx ⊢
    have h1 : 0 ≤ Int.tmod at_ e := Int.tmod_nonneg _ h0
    have h2 : Int.tmod at_ e < e := Int.tmod_lt_of_pos _ (by omega)
    have hq : Int.tdiv at_ e = at_ / e := Int.tdiv_eq_ediv_of_nonneg h0
    have hq0 : 0 ≤ at_ / e := Int.ediv_nonneg h0 (by omega)
    have hq1 : at_ / e ≤ at_ := Int.ediv_le_self _ h0
    have hm : fit_int32 (Int.tmod at_ e) := by
      have h3 := hfx.1
      refine ⟨?_, w64 (by rw [IntKind.wrap_i32] at h3; omega)⟩
      rw [IntKind.wrap_i32] at h3 ⊢; omega
    refine dg_fit_int32 p hf hnz k _ _ (by rw [w64] <;> omega) (by rw [w64] <;> omega) (by omega) fun x hx => ?_
    rcases List.mem_or_eq_of_mem_set hx with h | h
    · exact ho x h
    · rw [h]; exact hm
theorem dgS_fit_int32 (p : List Int) (at_ : Int) (hf : ∀ x ∈ p, fit_int32 x) : ∀ x ∈ (dgS p at_).1, fit_int32 x := by
  unfold dgS
  split
  · rename_i h0
    split
    · simp
    · rename_i h1
      have hp := cnt_pos h0 (by omega)
      refine dg_fit_int32 p hf hp.1 p.length at_ _ (by omega) (by omega) (Nat.le_refl _) fun x hx => ?_
      rw [List.eq_of_mem_replicate hx]
      exact ⟨by decide, by decide⟩
  · simp

/-! the statements' own helpers -/
theorem roomy_int32 (N : Nat) (l : List Int) (hN : 6 ≤ N) (hlen : l.length ≤ 17592186043904) : m_credencelaw10_roomy_int32 N l = some (l.length, l ++ [77, 77, 77, 77, 77]) := by
  obtain ⟨n, rfl⟩ : ∃ n, N = n + 6 := ⟨N - 6, by omega⟩
  unfold m_credencelaw10_roomy_int32
  rw [chk_pos (by simp only [List.length_nil, maxLen]; omega)]
  have s : ∀ (f : Nat) (m : List Int) (i j : Int), i < 5 → IntKind.i64.wrap (i + 1) = j → m.length ≤ 17592186043910 → m_credencelaw10_roomy_int32_L1 (n + 6) l (f + 1) m i = m_credencelaw10_roomy_int32_L1 (n + 6) l f (m ++ [77]) j := by
    intro f m i j h1 h2 h3
    rw [m_credencelaw10_roomy_int32_L1.eq_2, if_pos (decide_eq_true h1), chk_pos (by simp only [List.length_cons, List.length_nil, maxLen]; omega), h2]
  rw [List.nil_append, s (n + 5) _ 0 1 (by omega) (by decide) (by omega), s (n + 4) _ 1 2 (by omega) (by decide) (by simp; omega), s (n + 3) _ 2 3 (by omega) (by decide) (by simp; omega), s (n + 2) _ 3 4 (by omega) (by decide) (by simp; omega),
    s (n + 1) _ 4 5 (by omega) (by decide) (by simp; omega), m_credencelaw10_roomy_int32_L1.eq_2, if_neg (by decide), chk_pos (by simp; omega)]
  simp

theorem plain_int32_L1 (N : Nat) (l : List Int) (hf : ∀ x ∈ l, fit_int32 x) (hlen : l.length ≤ 17592186044416) : ∀ (fuel k : Nat), k ≤ l.length → l.length - k < fuel → m_credencelaw10_plain_int32_L1 N l fuel (l.take k) (k : Int) = some l := by
  intro fuel
  induction fuel with
  | zero => intro k _ h; omega
  | succ fuel ih =>
    intro k hk hfu
    rw [m_credencelaw10_plain_int32_L1.eq_2]
    by_cases hlt : k < l.length
    · have hx := hf _ (getD_mem hlt)
      rw [if_pos (decide_eq_true (by omega)), at_get hlt]
      simp only [Option.bind_some]
      rw [hx.2]
      rw [chk_pos (by simp only [List.length_take, List.length_cons, List.length_nil, maxLen]; omega), wrap_up (by omega)]
      have ht : l.take k ++ [l.getD k 0] = l.take (k + 1) := by
        rw [List.take_add_one]; simp [hlt]
      rw [ht]; exact ih (k + 1) (by omega) (by omega)
    · rw [if_neg (by simp; omega), List.take_of_length_le (by omega)]
theorem plain_int32 (N : Nat) (l : List Int) (hf : ∀ x ∈ l, fit_int32 x) (hN : l.length < N) (hlen : l.length ≤ 17592186044416) : m_credencelaw10_plain_int32 N l = some l := by
  have := plain_int32_L1 N l hf hlen N 0 (by omega) (by omega)
  unfold m_credencelaw10_plain_int32
  simpa using this

theorem same_int32_L1 (N : Nat) (l : List Int) (hf : ∀ x ∈ l, fit_int32 x) (hlen : l.length < 4611686018427387904) : ∀ (fuel k : Nat), k ≤ l.length → l.length - k < fuel → m_credencelaw10_same_int32_L1 N l l fuel (k : Int) = some true := by
  intro fuel
  induction fuel with
  | zero => intro k _ h; omega
  | succ fuel ih =>
    intro k hk hfu
    rw [m_credencelaw10_same_int32_L1.eq_2]
    by_cases hlt : k < l.length
    · have hx := hf _ (getD_mem hlt)
      rw [if_pos (decide_eq_true (by omega)), at_get hlt]
      simp only [Option.bind_some]
      rw [hx.2]
      rw [if_neg (by simp), wrap_up (by omega)]
      exact ih (k + 1) (by omega) (by omega)
    · rw [if_neg (by simp; omega)]
theorem same_int32 (N : Nat) (l : List Int) (hf : ∀ x ∈ l, fit_int32 x) (hN : l.length < N) (hlen : l.length < 4611686018427387904) : m_credencelaw10_same_int32 N l l = some true := by
  unfold m_credencelaw10_same_int32
  rw [if_neg (by simp)]
  exact same_int32_L1 N l hf hlen N 0 (by omega) (by omega)

theorem kept_int32_L1 (N n0 : Nat) (l : List Int) (hn : n0 = l.length) (hlen : l.length ≤ 17592186044416) : ∀ (fuel k : Nat), k ≤ l.length + 5 → l.length + 5 - k < fuel → m_credencelaw10_kept_int32_L1 N n0 (l ++ [77, 77, 77, 77, 77]) l fuel (k : Int) = some true := by
  intro fuel
  induction fuel with
  | zero => intro k _ h; omega
  | succ fuel ih =>
    intro k hk hfu
    rw [m_credencelaw10_kept_int32_L1.eq_2]
    have hw : IntKind.i64.wrap ((l.length : Int) + 5) = ((l.length + 5 : Nat) : Int) := by rw [w64 (by omega)]; omega
    have hL : (l ++ [77, 77, 77, 77, 77]).take (Int.toNat (IntKind.i64.wrap ((l.length : Int) + 5))) = l ++ [77, 77, 77, 77, 77] := by
      rw [hw, Int.toNat_natCast, List.take_of_length_le (by simp)]
    rw [hL]
    have hlen5 : (l ++ [77, 77, 77, 77, 77] : List Int).length = l.length + 5 := by simp
    by_cases h5 : k < l.length + 5
    · rw [if_pos (decide_eq_true (by rw [hlen5]; omega))]
      rw [at_get (by rw [hlen5]; exact h5)]
      simp only [m_credencelaw10_kept_int32_J2, m_credencelaw10_kept_int32_J1, Option.bind_some, wrap_up (show k < 4611686018427387904 by omega), ih (k + 1) (by omega) (by omega)]
      by_cases hlt : k < l.length
      · have hg : (l ++ [77, 77, 77, 77, 77]).getD k 0 = l.getD k 0 := by
          rw [List.getD_eq_getElem?_getD, List.getD_eq_getElem?_getD, List.getElem?_append_left hlt]
        have h6 : ¬ ((l.length : Int) ≤ (k : Int)) := by omega
        rw [if_pos (decide_eq_true (by omega)), at_get hlt, hg]
        simp [h6]
      · have hg : (l ++ [77, 77, 77, 77, 77]).getD k 0 = 77 := by
          rw [List.getD_eq_getElem?_getD, List.getElem?_append_right (by omega)]
          have : k - l.length < 5 := by omega
          generalize k - l.length = j at this
          match j, this with
          | 0, _ => rfl
          | 1, _ => rfl
          | 2, _ => rfl
          | 3, _ => rfl
          | 4, _ => rfl
        have h6 : ((l.length : Int) ≤ (k : Int)) := by omega
        rw [if_neg (by simp; omega), hg]
        simp [h6]
    · rw [if_neg (by rw [hlen5]; simp; omega)]
      simp [hn]
theorem kept_int32 (N : Nat) (l : List Int) (hN : l.length + 5 < N) (hlen : l.length ≤ 17592186044416) : m_credencelaw10_kept_int32 N l.length (l ++ [77, 77, 77, 77, 77]) l = some true := by
  unfold m_credencelaw10_kept_int32
  rw [chk_pos (by rw [w64 (by omega)]; simp; omega)]
  exact kept_int32_L1 N l.length l rfl hlen N 0 (by omega) (by omega)

/-- The digits of a place that there is. -/
theorem digits_int32 (N : Nat) (p : List Int) (at_ : Int) (hf : ∀ x ∈ p, fit_int32 x) (hN : p.length < N) (hlen : p.length ≤ 17592186044416) (h0 : (cntS p).2 = 0) (h1 : 0 ≤ at_) (h2 : at_ < (cntS p).1) : m_radix_digits_int32 N p at_ = some (dgS p at_).1 := by
  have hp := cnt_pos h0 (by omega)
  unfold dgS
  rw [if_pos h0, if_neg (by omega)]
  unfold m_radix_digits_int32
  cases hl : p with
  | nil => rfl
  | cons x l =>
    rw [← hl, if_neg (by rw [hl]; simp; omega), chk_pos (by simp only [maxLen]; omega)]
    unfold m_slices_Backward_int32_int32 m_slices_Backward_int32_int32_1
    rw [w64 (by omega), back_int32 N p (by omega) N p.length (Nat.le_refl _) hN]
    simp only [Option.bind_some]
    exact dig_L1_int32 p hf hp.1 p.length at_ _ (by omega) (by omega) (Nat.le_refl _) (by simp)

theorem all_L1_int32 (N : Nat) (p : List Int) (hf : ∀ x ∈ p, fit_int32 x) (hN : p.length < N) (hlen : p.length ≤ 17592186044416) (h0 : (cntS p).2 = 0) (h9 : (cntS p).1 ≤ 2147483647) : ∀ (fuel k : Nat), (cntS p).1 < ((fuel + k : Nat) : Int) → (k : Int) ≤ (cntS p).1 →
    m_radix_All_int32_1_L1 N (cntS p).1 p fuel (k : Int) = some (itemsF p k ((cntS p).1.toNat - k))
  | 0, k, h, hk => by omega
  | fuel + 1, k, h, hk => by
    rw [m_radix_All_int32_1_L1.eq_2]
    by_cases hlt : (k : Int) < (cntS p).1
    · obtain ⟨j, hj⟩ : ∃ j, (cntS p).1.toNat - k = j + 1 := ⟨(cntS p).1.toNat - k - 1, by omega⟩
      rw [if_pos (decide_eq_true hlt), digits_int32 N p k hf hN hlen h0 (by omega) hlt, Option.bind_some, wrap_up (by omega), all_L1_int32 N p hf hN hlen h0 h9 fuel (k + 1) (by omega) (by omega), Option.bind_some, hj, itemsF, show (cntS p).1.toNat - (k + 1) = j by omega]
    · rw [if_neg (by rw [decide_eq_true_eq]; exact hlt), show (cntS p).1.toNat - k = 0 by omega, itemsF]
theorem all_int32 (N : Nat) (p : List Int) (hf : ∀ x ∈ p, fit_int32 x) (hN : p.length < N) (hN2 : 4294967296 ≤ N) (hlen : p.length ≤ 17592186043904) : m_radix_All_int32 N p = some (itemsF p 0 (cntS p).1.toNat) := by
  unfold m_radix_All_int32 m_slices_Clone_int32_int32
  rw [chk_pos (by simp only [List.length_nil, maxLen]; omega), Option.bind_some, List.nil_append, cnt_int32 p hf, Option.bind_some]
  unfold m_radix_All_int32_1
  by_cases h0 : (cntS p).2 = 0
  · have h9 := cnt_le h0
    have := all_L1_int32 N p hf hN (by omega) h0 h9.2 N 0 (by omega) (by omega)
    simpa using this
  · rw [cnt_err h0]
    obtain ⟨n, rfl⟩ : ∃ n, N = n + 1 := ⟨N - 1, by omega⟩
    rw [m_radix_All_int32_1_L1.eq_2, if_neg (by decide)]; rfl

section
variable (N : Nat) (left : Int) (p : List Int) (hf : ∀ x ∈ p, fit_int32 x) (hN : p.length + 20 < N) (hN2 : 4294967296 ≤ N) (hlen : p.length ≤ 17592186043904) (h0 : (cntS p).2 = 0)
include hf hN hN2 hlen h0
omit hN2 h0 in
theorem dsame_int32 (k : Nat) : m_credencelaw10_same_int32 N (dgS p k).1 (dgS p k).1 = some true := by
  have := dgS_len p k
  exact same_int32 N _ (dgS_fit_int32 p k hf) (by omega) (by omega)
omit hN2 in
/-- More than 2000: the first 20 are gone over. -/
theorem L2_int32 : ∀ (j k : Nat), (k : Int) + j = (cntS p).1 → 2000 < (cntS p).1 → k ≤ 20 → ∀ v, m_credencelaw10_walked_int32_L2 N p (cntS p) (itemsF p k j) (k : Int) v = some true
  | 0, k, hj, h, hk, v => by omega
  | j + 1, k, hj, h, hk, v => by
    rw [itemsF, m_credencelaw10_walked_int32_L2.eq_2, ref_digits N p _ (by omega) (by omega), Option.bind_some]
    by_cases h20 : k = 20
    · subst h20
      rw [if_pos (by decide), m_credencelaw10_walked_int32_L2_X2, if_pos (decide_eq_true h0), m_credencelaw10_walked_int32_J4]
    · have hd := (dg_ok h0 (show (0 : Int) ≤ (k : Int) by omega) (show (k : Int) < (cntS p).1 by omega))
      rw [if_neg (by rw [decide_eq_true_eq]; omega), if_neg (by simp [h0]), if_neg (by simp), if_neg (by simp [hd]), dsame_int32 N p hf hN hlen k, Option.bind_some, m_credencelaw10_walked_int32_J5, if_neg (by decide), wrap_up (by omega)]
      exact L2_int32 j (k + 1) (by omega) h (by omega) v
omit hN2 h0 in
/-- What was kept of those that are odd. -/
theorem L5_int32 (h9 : (cntS p).1 ≤ 2000) (all : List (Option (List Int))) (hal : (all.length : Int) = (cntS p).1) (ha : ∀ i : Nat, i < all.length → i % 2 = 1 → all[i]? = some (some (dgS p i).1)) : ∀ (f i : Nat) (v : Bool), all.length + 1 < f + i → i % 2 = 1 → i ≤ all.length + 1 → m_credencelaw10_walked_int32_L5 N p (cntS p) all f (i : Int) v = some true
  | 0, i, v, h, hi, hle => by omega
  | f + 1, i, v, h, hi, hle => by
    rw [m_credencelaw10_walked_int32_L5.eq_2]
    by_cases hlt : i < all.length
    · have hat : at? all (i : Int) = some (some (dgS p i).1) := by rw [at?_nat]; exact ha i hlt hi
      rw [if_pos (decide_eq_true (by omega)), ref_digits N p _ (by omega) (by omega), Option.bind_some, hat, Option.bind_some, Option.bind_some, dsame_int32 N p hf hN hlen i, Option.bind_some, if_neg (by decide), show IntKind.i64.wrap ((i : Int) + 2) = ((i + 2 : Nat) : Int) by rw [w64 (by omega)]; omega]
      by_cases hle2 : i + 2 ≤ all.length + 1
      · exact L5_int32 h9 all hal ha f (i + 2) v (by omega) (by omega) hle2
      · omega
    · rw [if_neg (by rw [decide_eq_true_eq]; omega), decide_eq_true hal]
omit hf hN hN2 h0 in
theorem L6_int32 (all : List (Option (List Int))) (v : Bool) (kk : List (Option (List Int)) → Bool → Option Bool) : ∀ (f i : Nat) (d : List Int), d.length ≤ p.length → d.length < f + i → i ≤ d.length → m_credencelaw10_walked_int32_L6 N all v kk f d (i : Int) = kk (all ++ [none]) v
  | 0, i, d, h1, h, hi => by omega
  | f + 1, i, d, h1, h, hi => by
    rw [m_credencelaw10_walked_int32_L6.eq_2]
    by_cases hlt : i < d.length
    · rw [if_pos (decide_eq_true (by omega)), at_get hlt, Option.bind_some, Option.bind_some, wrap_up (by omega)]
      exact L6_int32 all v kk f (i + 1) _ (by rw [List.length_set]; exact h1) (by rw [List.length_set]; omega) (by rw [List.length_set]; omega)
    · rw [if_neg (by rw [decide_eq_true_eq]; omega), chk_pos (by simp only [List.length_cons, List.length_nil, maxLen]; omega), chk_pos (by simp only [List.length_append, List.length_cons, List.length_nil, maxLen]; omega)]
theorem L4_int32 (h9 : (cntS p).1 ≤ 2000) : ∀ (j : Nat) (all : List (Option (List Int))) (v : Bool), (all.length : Int) + j = (cntS p).1 → (∀ i : Nat, i < all.length → i % 2 = 1 → all[i]? = some (some (dgS p i).1)) → m_credencelaw10_walked_int32_L4 N p (cntS p) (itemsF p all.length j) all v = some true
  | 0, all, v, hj, ha => by
    rw [itemsF, m_credencelaw10_walked_int32_L4.eq_1, show (1 : Int) = ((1 : Nat) : Int) from rfl]
    exact L5_int32 N p hf hN hlen h9 all (by omega) ha N 1 v (by omega) (by omega) (by omega)
  | j + 1, all, v, hj, ha => by
    have hd := (dg_ok h0 (show (0 : Int) ≤ (all.length : Int) by omega) (show (all.length : Int) < (cntS p).1 by omega))
    rw [itemsF, m_credencelaw10_walked_int32_L4.eq_2, ref_digits N p _ (by omega) (by omega), Option.bind_some, if_neg (by simp), if_neg (by simp [hd]), dsame_int32 N p hf hN hlen all.length, Option.bind_some, m_credencelaw10_walked_int32_J6, if_neg (by decide)]
    have hmod : Int.tmod (all.length : Int) 2 = ((all.length % 2 : Nat) : Int) := rfl
    by_cases hpar : all.length % 2 = 0
    · rw [if_pos (decide_eq_true (by rw [hmod, hpar]; rfl)), chk_pos (by simp only [List.length_cons, List.length_nil, maxLen]; omega), show (0 : Int) = ((0 : Nat) : Int) from rfl, L6_int32 N p hlen all v _ N 0 _ (dgS_len p _) (by have := dgS_len p all.length; omega) (Nat.zero_le _)]
      have := L4_int32 h9 j (all ++ [none]) v (by simp; omega) (fun i hi hm => by
        have : i ≠ all.length := fun e => by omega
        rw [List.length_append, List.length_singleton] at hi
        rw [List.getElem?_append_left (by omega)]
        exact ha i (by omega) hm)
      rw [List.length_append, List.length_singleton] at this
      exact this
    · rw [if_neg (by rw [decide_eq_true_eq, hmod]; omega), chk_pos (by simp only [List.length_cons, List.length_nil, maxLen]; omega)]
      have := L4_int32 h9 j (all ++ [some (dgS p all.length).1]) v (by simp; omega) (fun i hi hm => by
        rw [List.length_append, List.length_singleton] at hi
        by_cases he : i = all.length
        · subst he; rw [List.getElem?_append_right (Nat.le_refl _), Nat.sub_self]; rfl
        · rw [List.getElem?_append_left (by omega)]
          exact ha i (by omega) hm)
      rw [List.length_append, List.length_singleton] at this
      exact this
omit hN2 h0 in
/-- What was kept of those that are odd. -/
theorem L8_int32 (h9 : (cntS p).1 ≤ 2000) (all : List (Option (List Int))) (hal : (all.length : Int) = (cntS p).1) (ha : ∀ i : Nat, i < all.length → i % 2 = 1 → all[i]? = some (some (dgS p i).1)) : ∀ (f i : Nat) (v : Bool), all.length + 1 < f + i → i % 2 = 1 → i ≤ all.length + 1 → m_credencelaw10_walked_int32_L8 N p (cntS p) all f (i : Int) v = some true
  | 0, i, v, h, hi, hle => by omega
  | f + 1, i, v, h, hi, hle => by
    rw [m_credencelaw10_walked_int32_L8.eq_2]
    by_cases hlt : i < all.length
    · have hat : at? all (i : Int) = some (some (dgS p i).1) := by rw [at?_nat]; exact ha i hlt hi
      rw [if_pos (decide_eq_true (by omega)), ref_digits N p _ (by omega) (by omega), Option.bind_some, hat, Option.bind_some, Option.bind_some, dsame_int32 N p hf hN hlen i, Option.bind_some, if_neg (by decide), show IntKind.i64.wrap ((i : Int) + 2) = ((i + 2 : Nat) : Int) by rw [w64 (by omega)]; omega]
      by_cases hle2 : i + 2 ≤ all.length + 1
      · exact L8_int32 h9 all hal ha f (i + 2) v (by omega) (by omega) hle2
      · omega
    · rw [if_neg (by rw [decide_eq_true_eq]; omega), decide_eq_true hal]
omit hf hN hN2 h0 in
theorem L9_int32 (all : List (Option (List Int))) (v : Bool) (kk : List (Option (List Int)) → Bool → Option Bool) : ∀ (f i : Nat) (d : List Int), d.length ≤ p.length → d.length < f + i → i ≤ d.length → m_credencelaw10_walked_int32_L9 N all v kk f d (i : Int) = kk (all ++ [none]) v
  | 0, i, d, h1, h, hi => by omega
  | f + 1, i, d, h1, h, hi => by
    rw [m_credencelaw10_walked_int32_L9.eq_2]
    by_cases hlt : i < d.length
    · rw [if_pos (decide_eq_true (by omega)), at_get hlt, Option.bind_some, Option.bind_some, wrap_up (by omega)]
      exact L9_int32 all v kk f (i + 1) _ (by rw [List.length_set]; exact h1) (by rw [List.length_set]; omega) (by rw [List.length_set]; omega)
    · rw [if_neg (by rw [decide_eq_true_eq]; omega), chk_pos (by simp only [List.length_cons, List.length_nil, maxLen]; omega), chk_pos (by simp only [List.length_append, List.length_cons, List.length_nil, maxLen]; omega)]
theorem L7_int32 (h9 : (cntS p).1 ≤ 2000) : ∀ (j : Nat) (all : List (Option (List Int))) (v : Bool), (all.length : Int) + j = (cntS p).1 → (∀ i : Nat, i < all.length → i % 2 = 1 → all[i]? = some (some (dgS p i).1)) → m_credencelaw10_walked_int32_L7 N p (cntS p) (itemsF p all.length j) all v = some true
  | 0, all, v, hj, ha => by
    rw [itemsF, m_credencelaw10_walked_int32_L7.eq_1, show (1 : Int) = ((1 : Nat) : Int) from rfl]
    exact L8_int32 N p hf hN hlen h9 all (by omega) ha N 1 v (by omega) (by omega) (by omega)
  | j + 1, all, v, hj, ha => by
    have hd := (dg_ok h0 (show (0 : Int) ≤ (all.length : Int) by omega) (show (all.length : Int) < (cntS p).1 by omega))
    rw [itemsF, m_credencelaw10_walked_int32_L7.eq_2, ref_digits N p _ (by omega) (by omega), Option.bind_some, if_neg (by simp), if_neg (by simp [hd]), dsame_int32 N p hf hN hlen all.length, Option.bind_some, m_credencelaw10_walked_int32_J7, if_neg (by decide)]
    have hmod : Int.tmod (all.length : Int) 2 = ((all.length % 2 : Nat) : Int) := rfl
    by_cases hpar : all.length % 2 = 0
    · rw [if_pos (decide_eq_true (by rw [hmod, hpar]; rfl)), chk_pos (by simp only [List.length_cons, List.length_nil, maxLen]; omega), show (0 : Int) = ((0 : Nat) : Int) from rfl, L9_int32 N p hlen all v _ N 0 _ (dgS_len p _) (by have := dgS_len p all.length; omega) (Nat.zero_le _)]
      have := L7_int32 h9 j (all ++ [none]) v (by simp; omega) (fun i hi hm => by
        have : i ≠ all.length := fun e => by omega
        rw [List.length_append, List.length_singleton] at hi
        rw [List.getElem?_append_left (by omega)]
        exact ha i (by omega) hm)
      rw [List.length_append, List.length_singleton] at this
      exact this
    · rw [if_neg (by rw [decide_eq_true_eq, hmod]; omega), chk_pos (by simp only [List.length_cons, List.length_nil, maxLen]; omega)]
      have := L7_int32 h9 j (all ++ [some (dgS p all.length).1]) v (by simp; omega) (fun i hi hm => by
        rw [List.length_append, List.length_singleton] at hi
        by_cases he : i = all.length
        · subst he; rw [List.getElem?_append_right (Nat.le_refl _), Nat.sub_self]; rfl
        · rw [List.getElem?_append_left (by omega)]
          exact ha i (by omega) hm)
      rw [List.length_append, List.length_singleton] at this
      exact this
theorem L3_int32 (h9 : (cntS p).1 ≤ 2000) (hn : 0 ≤ (cntS p).1) : ∀ (j k : Nat), (k : Int) + j = (cntS p).1 → ∀ v, m_credencelaw10_walked_int32_L3 N left p (cntS p) (itemsF p 0 (cntS p).1.toNat) (itemsF p k j) (k : Int) v = some true
  | 0, k, hj, v => by
    rw [itemsF, m_credencelaw10_walked_int32_L3.eq_1]
    exact L4_int32 N p hf hN hN2 hlen h0 h9 _ [] v (by simp; omega) (by simp)
  | j + 1, k, hj, v => by
    rw [itemsF, m_credencelaw10_walked_int32_L3.eq_2]
    by_cases hl : (k : Int) = left
    · rw [if_pos (decide_eq_true hl), m_credencelaw10_walked_int32_L3_X4]
      exact L7_int32 N p hf hN hN2 hlen h0 h9 _ [] v (by simp; omega) (by simp)
    · rw [if_neg (by rw [decide_eq_true_eq]; exact hl), if_neg (by simp), wrap_up (by omega)]
      exact L3_int32 h9 hn j (k + 1) (by omega) v
end
theorem L1_int32 (N : Nat) (left : Int) (p : List Int) (hf : ∀ x ∈ p, fit_int32 x) (hN : p.length + 20 < N) (hN2 : 4294967296 ≤ N) (hlen : p.length ≤ 17592186043904) : ∀ (f i : Nat) (s : List Int), s.length = p.length → p.length < f + i → i ≤ p.length → m_credencelaw10_walked_int32_L1 N left p (cntS p) (itemsF p 0 (cntS p).1.toNat) f (i : Int) s = some true
  | 0, i, s, hs, h, hi => by omega
  | f + 1, i, s, hs, h, hi => by
    rw [m_credencelaw10_walked_int32_L1.eq_2]
    by_cases hlt : i < s.length
    · rw [if_pos (decide_eq_true (by omega)), at_get hlt, Option.bind_some, Option.bind_some, wrap_up (by omega)]
      exact L1_int32 N left p hf hN hN2 hlen f (i + 1) _ (by rw [List.length_set]; exact hs) (by omega) (by omega)
    · rw [if_neg (by rw [decide_eq_true_eq]; omega)]
      by_cases h0 : (cntS p).2 = 0
      · have h9 := cnt_le h0
        rw [if_neg (by simp [h0]), m_credencelaw10_walked_int32_J2]
        by_cases h20 : 2000 < (cntS p).1
        · rw [decide_eq_true h20, if_pos rfl, show (0 : Int) = ((0 : Nat) : Int) from rfl]
          exact L2_int32 N p hf hN hlen h0 _ 0 (by omega) h20 (by omega) false
        · rw [decide_eq_false h20, if_neg (by decide), show (0 : Int) = ((0 : Nat) : Int) from rfl]
          exact L3_int32 N left p hf hN hN2 hlen h0 (by omega) h9.1 _ 0 (by omega) false
      · rw [if_pos (by simp [h0]), m_credencelaw10_walked_int32_J2, if_pos rfl, cnt_err h0]
        rw [show ((0 : Int)).toNat = 0 from rfl, itemsF, m_credencelaw10_walked_int32_L2.eq_1, if_neg (by simp [h0]), m_credencelaw10_walked_int32_J3]; rfl
theorem walked_int32 (N : Nat) (left : Int) (p : List Int) (hf : ∀ x ∈ p, fit_int32 x) (hN : p.length + 20 < N) (hN2 : 4294967296 ≤ N) (hlen : p.length ≤ 17592186043904) : m_credencelaw10_walked_int32 N p left = some true := by
  have htk : (p ++ [77, 77, 77, 77, 77]).take p.length = p := List.take_left
  unfold m_credencelaw10_walked_int32
  rw [roomy_int32 N p (by omega) hlen, Option.bind_some, plain_int32 N p hf (by omega) (by omega), Option.bind_some, ref_count N p (by omega) (by omega), Option.bind_some]
  simp only [htk]
  rw [all_int32 N p hf (by omega) hN2 hlen, Option.bind_some, kept_int32 N p (by omega) (by omega), Option.bind_some, m_credencelaw10_walked_int32_J1, if_neg (by decide)]
  simp only [htk]
  rw [show (0 : Int) = ((0 : Nat) : Int) from rfl]
  exact L1_int32 N left p hf hN hN2 hlen N 0 p rfl (by omega) (Nat.zero_le _)


/-- The numbers that the type has. -/
def fit_credencelaw10_Small (x : Int) : Prop := IntKind.u16.wrap x = x ∧ IntKind.i64.wrap x = x

theorem cnt_L2_credencelaw10_Small : ∀ (l : List Int) (n : Int), (∀ x ∈ l, fit_credencelaw10_Small x) → (∀ x ∈ l, 1 ≤ x) → 1 ≤ n → n ≤ 2147483647 → m_radix_Count_credencelaw10_Small_L2 l n = some (goC l n)
  | [], n, _, _, _, _ => rfl
  | x :: l, n, hf, hp, h1, h2 => by
    have hx := hp x (by simp)
    rw [m_radix_Count_credencelaw10_Small_L2.eq_2, chk_pos (by omega), goC]
    rw [(hf x (by simp)).2]
    have hq : Int.tdiv 2147483647 n = 2147483647 / n := Int.tdiv_eq_ediv_of_nonneg (by omega)
    have hq0 : 0 ≤ (2147483647 : Int) / n := Int.ediv_nonneg (by omega) (by omega)
    have hq1 : (2147483647 : Int) / n ≤ 2147483647 := Int.ediv_le_self _ (by omega)
    rw [hq, w64 (by omega)]
    by_cases h : 2147483647 < n * x
    · rw [if_pos h, if_pos (decide_eq_true (by rw [Int.ediv_lt_iff_lt_mul (by omega), Int.mul_comm]; exact h))]
    · have h3 : 1 * 1 ≤ n * x := Int.mul_le_mul h1 hx (by omega) (by omega)
      rw [if_neg h, if_neg (by rw [decide_eq_true_eq, Int.ediv_lt_iff_lt_mul (by omega), Int.mul_comm]; exact h), w64 (by omega)]
      exact cnt_L2_credencelaw10_Small l (n * x) (fun y hy => hf y (by simp [hy])) (fun y hy => hp y (by simp [hy])) (by omega) (by omega)

theorem cnt_L1_credencelaw10_Small (p : List Int) : ∀ (l : List Int) (b : Bool), m_radix_Count_credencelaw10_Small_L1 p l b = if anyNeg l then some (0, 3) else if b || anyZero l then some (0, 0) else m_radix_Count_credencelaw10_Small_L2 p 1
  | [], b => by cases b <;> rfl
  | x :: l, b => by
    rw [m_radix_Count_credencelaw10_Small_L1.eq_2]
    simp only [m_radix_Count_credencelaw10_Small_J1, cnt_L1_credencelaw10_Small p l, anyNeg, anyZero, List.any_cons]
    by_cases h : x < 0
    · simp [h]
    · cases b
      · simp [h]
      · simp [h]

theorem cnt_credencelaw10_Small (p : List Int) (hf : ∀ x ∈ p, fit_credencelaw10_Small x) : m_radix_Count_credencelaw10_Small p = some (cntS p) := by
  unfold m_radix_Count_credencelaw10_Small cntS
  rw [cnt_L1_credencelaw10_Small]
  cases h1 : anyNeg p with
  | true => rfl
  | false =>
    cases h2 : anyZero p with
    | true => rfl
    | false =>
      simp only [Bool.false_eq_true, if_false, Bool.or_false]
      exact cnt_L2_credencelaw10_Small p 1 hf (pos_of h1 h2) (by omega) (by omega)

theorem back_credencelaw10_Small (N : Nat) (p : List Int) (hlen : p.length < 4611686018427387904) : ∀ (fuel k : Nat), k ≤ p.length → k < fuel → m_slices_Backward_credencelaw10_Small_credencelaw10_Small_1_L1 N p fuel ((k : Int) - 1) = some (bp p k) := by
  intro fuel
  induction fuel with
  | zero => intro k _ h; omega
  | succ fuel ih =>
    intro k hk hf
    rw [m_slices_Backward_credencelaw10_Small_credencelaw10_Small_1_L1.eq_2]
    cases k with
    | zero => rw [if_neg (by simp)]; rfl
    | succ k =>
      have hkk : ((k + 1 : Nat) : Int) - 1 = (k : Int) := by omega
      rw [hkk, if_pos (decide_eq_true (by omega)), at_get (by omega)]
      simp only [Option.bind_some]
      rw [w64 (n := (k : Int) - 1) (by omega), ih k (by omega) (by omega)]
      rfl

theorem dig_L1_credencelaw10_Small (p : List Int) (hf : ∀ x ∈ p, fit_credencelaw10_Small x) (hnz : ∀ x ∈ p, 1 ≤ x) : ∀ (k : Nat) (at_ : Int) (out : List Int), 0 ≤ at_ → at_ < 9223372036854775807 → k ≤ p.length → out.length = p.length → m_radix_digits_credencelaw10_Small_L1 (bp p k) at_ out = some (dg p k at_ out)
  | 0, _, _, _, _, _, _ => rfl
  | k + 1, at_, out, h0, h9, hk, ho => by
    have hlt : k < p.length := by omega
    have hx := hnz _ (getD_mem hlt)
    have hfx := hf _ (getD_mem hlt)
    rw [bp, m_radix_digits_credencelaw10_Small_L1.eq_2]
    simp only [dg]
    generalize p.getD k 0 = e at hx hfx ⊢
    rw [hfx.2]
    have hm : IntKind.u16.wrap (Int.tmod at_ e) = Int.tmod at_ e := by
      have h1 : 0 ≤ Int.tmod at_ e := Int.tmod_nonneg _ h0
      have h2 : Int.tmod at_ e < e := Int.tmod_lt_of_pos _ (by omega)
      have h3 := hfx.1
      rw [IntKind.wrap_u16] at h3 ⊢
      omega
    rw [hm]
    have hq : Int.tdiv at_ e = at_ / e := Int.tdiv_eq_ediv_of_nonneg h0
    have hq0 : 0 ≤ at_ / e := Int.ediv_nonneg h0 (by omega)
    have hq1 : at_ / e ≤ at_ := Int.ediv_le_self _ h0
    rw [chk_pos (by omega), at_get (by omega)]
    simp only [Option.bind_some, Int.toNat_natCast]
    rw [chk_pos (by omega)]
    rw [dig_L1_credencelaw10_Small p hf hnz k _ _ (by rw [w64] <;> omega) (by rw [w64] <;> omega) (by omega) (by simpa using ho)]

theorem dg_fit_credencelaw10_Small (p : List Int) (hf : ∀ x ∈ p, fit_credencelaw10_Small x) (hnz : ∀ x ∈ p, 1 ≤ x) : ∀ (k : Nat) (at_ : Int) (out : List Int), 0 ≤ at_ → at_ < 9223372036854775807 → k ≤ p.length → (∀ x ∈ out, fit_credencelaw10_Small x) → ∀ x ∈ dg p k at_ out, fit_credencelaw10_Small x
  | 0, _, _, _, _, _, ho => ho
  | k + 1, at_, out, h0, h9, hk, ho => by
    have hlt : k < p.length := by omega
    have hx := hnz _ (getD_mem hlt)
    have hfx := hf _ (getD_mem hlt)
    simp only [dg]
    generalize p.getD k 0 = e at hx hfx ⊢
    have h1 : 0 ≤ Int.tmod at_ e := Int.tmod_nonneg _ h0
    have h2 : Int.tmod at_ e < e := Int.tmod_lt_of_pos _ (by omega)
    have hq : Int.tdiv at_ e = at_ / e := Int.tdiv_eq_ediv_of_nonneg h0
    have hq0 : 0 ≤ at_ / e := Int.ediv_nonneg h0 (by omega)
    have hq1 : at_ / e ≤ at_ := Int.ediv_le_self _ h0
    have hm : fit_credencelaw10_Small (Int.tmod at_ e) := by
      have h3 := hfx.1
      refine ⟨?_, w64 (by rw [IntKind.wrap_u16] at h3; omega)⟩
      rw [IntKind.wrap_u16] at h3 ⊢; omega
    refine dg_fit_credencelaw10_Small p hf hnz k _ _ (by rw [w64] <;> omega) (by rw [w64] <;> omega) (by omega) fun x hx => ?_
    rcases List.mem_or_eq_of_mem_set hx with h | h
    · exact ho x h
    · rw [h]; exact hm
theorem dgS_fit_credencelaw10_Small (p : List Int) (at_ : Int) (hf : ∀ x ∈ p, fit_credencelaw10_Small x) : ∀ x ∈ (dgS p at_).1, fit_credencelaw10_Small x := by
  unfold dgS
  split
  · rename_i h0
    split
    · simp
    · rename_i h1
      have hp := cnt_pos h0 (by omega)
      refine dg_fit_credencelaw10_Small p hf hp.1 p.length at_ _ (by omega) (by omega) (Nat.le_refl _) fun x hx => ?_
      rw [List.eq_of_mem_replicate hx]
      exact ⟨by decide, by decide⟩
  · simp

/-! the statements' own helpers -/
theorem roomy_credencelaw10_Small (N : Nat) (l : List Int) (hN : 6 ≤ N) (hlen : l.length ≤ 17592186043904) : m_credencelaw10_roomy_credencelaw10_Small N l = some (l.length, l ++ [77, 77, 77, 77, 77]) := by
  obtain ⟨n, rfl⟩ : ∃ n, N = n + 6 := ⟨N - 6, by omega⟩
  unfold m_credencelaw10_roomy_credencelaw10_Small
  rw [chk_pos (by simp only [List.length_nil, maxLen]; omega)]
  have s : ∀ (f : Nat) (m : List Int) (i j : Int), i < 5 → IntKind.i64.wrap (i + 1) = j → m.length ≤ 17592186043910 → m_credencelaw10_roomy_credencelaw10_Small_L1 (n + 6) l (f + 1) m i = m_credencelaw10_roomy_credencelaw10_Small_L1 (n + 6) l f (m ++ [77]) j := by
    intro f m i j h1 h2 h3
    rw [m_credencelaw10_roomy_credencelaw10_Small_L1.eq_2, if_pos (decide_eq_true h1), chk_pos (by simp only [List.length_cons, List.length_nil, maxLen]; omega), h2]
  rw [List.nil_append, s (n + 5) _ 0 1 (by omega) (by decide) (by omega), s (n + 4) _ 1 2 (by omega) (by decide) (by simp; omega), s (n + 3) _ 2 3 (by omega) (by decide) (by simp; omega), s (n + 2) _ 3 4 (by omega) (by decide) (by simp; omega),
    s (n + 1) _ 4 5 (by omega) (by decide) (by simp; omega), m_credencelaw10_roomy_credencelaw10_Small_L1.eq_2, if_neg (by decide), chk_pos (by simp; omega)]
  simp

theorem plain_credencelaw10_Small_L1 (N : Nat) (l : List Int) (hf : ∀ x ∈ l, fit_credencelaw10_Small x) (hlen : l.length ≤ 17592186044416) : ∀ (fuel k : Nat), k ≤ l.length → l.length - k < fuel → m_credencelaw10_plain_credencelaw10_Small_L1 N l fuel (l.take k) (k : Int) = some l := by
  intro fuel
  induction fuel with
  | zero => intro k _ h; omega
  | succ fuel ih =>
    intro k hk hfu
    rw [m_credencelaw10_plain_credencelaw10_Small_L1.eq_2]
    by_cases hlt : k < l.length
    · have hx := hf _ (getD_mem hlt)
      rw [if_pos (decide_eq_true (by omega)), at_get hlt]
      simp only [Option.bind_some]
      rw [hx.2]
      rw [chk_pos (by simp only [List.length_take, List.length_cons, List.length_nil, maxLen]; omega), wrap_up (by omega)]
      have ht : l.take k ++ [l.getD k 0] = l.take (k + 1) := by
        rw [List.take_add_one]; simp [hlt]
      rw [ht]; exact ih (k + 1) (by omega) (by omega)
    · rw [if_neg (by simp; omega), List.take_of_length_le (by omega)]
theorem plain_credencelaw10_Small (N : Nat) (l : List Int) (hf : ∀ x ∈ l, fit_credencelaw10_Small x) (hN : l.length < N) (hlen : l.length ≤ 17592186044416) : m_credencelaw10_plain_credencelaw10_Small N l = some l := by
  have := plain_credencelaw10_Small_L1 N l hf hlen N 0 (by omega) (by omega)
  unfold m_credencelaw10_plain_credencelaw10_Small
  simpa using this

theorem same_credencelaw10_Small_L1 (N : Nat) (l : List Int) (hf : ∀ x ∈ l, fit_credencelaw10_Small x) (hlen : l.length < 4611686018427387904) : ∀ (fuel k : Nat), k ≤ l.length → l.length - k < fuel → m_credencelaw10_same_credencelaw10_Small_L1 N l l fuel (k : Int) = some true := by
  intro fuel
  induction fuel with
  | zero => intro k _ h; omega
  | succ fuel ih =>
    intro k hk hfu
    rw [m_credencelaw10_same_credencelaw10_Small_L1.eq_2]
    by_cases hlt : k < l.length
    · have hx := hf _ (getD_mem hlt)
      rw [if_pos (decide_eq_true (by omega)), at_get hlt]
      simp only [Option.bind_some]
      rw [hx.2]
      rw [if_neg (by simp), wrap_up (by omega)]
      exact ih (k + 1) (by omega) (by omega)
    · rw [if_neg (by simp; omega)]
theorem same_credencelaw10_Small (N : Nat) (l : List Int) (hf : ∀ x ∈ l, fit_credencelaw10_Small x) (hN : l.length < N) (hlen : l.length < 4611686018427387904) : m_credencelaw10_same_credencelaw10_Small N l l = some true := by
  unfold m_credencelaw10_same_credencelaw10_Small
  rw [if_neg (by simp)]
  exact same_credencelaw10_Small_L1 N l hf hlen N 0 (by omega) (by omega)

theorem kept_credencelaw10_Small_L1 (N n0 : Nat) (l : List Int) (hn : n0 = l.length) (hlen : l.length ≤ 17592186044416) : ∀ (fuel k : Nat), k ≤ l.length + 5 → l.length + 5 - k < fuel → m_credencelaw10_kept_credencelaw10_Small_L1 N n0 (l ++ [77, 77, 77, 77, 77]) l fuel (k : Int) = some true := by
  intro fuel
  induction fuel with
  | zero => intro k _ h; omega
  | succ fuel ih =>
    intro k hk hfu
    rw [m_credencelaw10_kept_credencelaw10_Small_L1.eq_2]
    have hw : IntKind.i64.wrap ((l.length : Int) + 5) = ((l.length + 5 : Nat) : Int) := by rw [w64 (by omega)]; omega
    have hL : (l ++ [77, 77, 77, 77, 77]).take (Int.toNat (IntKind.i64.wrap ((l.length : Int) + 5))) = l ++ [77, 77, 77, 77, 77] := by
      rw [hw, Int.toNat_natCast, List.take_of_length_le (by simp)]
    rw [hL]
    have hlen5 : (l ++ [77, 77, 77, 77, 77] : List Int).length = l.length + 5 := by simp
    by_cases h5 : k < l.length + 5
    · rw [if_pos (decide_eq_true (by rw [hlen5]; omega))]
      rw [at_get (by rw [hlen5]; exact h5)]
      simp only [m_credencelaw10_kept_credencelaw10_Small_J2, m_credencelaw10_kept_credencelaw10_Small_J1, Option.bind_some, wrap_up (show k < 4611686018427387904 by omega), ih (k + 1) (by omega) (by omega)]
      by_cases hlt : k < l.length
      · have hg : (l ++ [77, 77, 77, 77, 77]).getD k 0 = l.getD k 0 := by
          rw [List.getD_eq_getElem?_getD, List.getD_eq_getElem?_getD, List.getElem?_append_left hlt]
        have h6 : ¬ ((l.length : Int) ≤ (k : Int)) := by omega
        rw [if_pos (decide_eq_true (by omega)), at_get hlt, hg]
        simp [h6]
      · have hg : (l ++ [77, 77, 77, 77, 77]).getD k 0 = 77 := by
          rw [List.getD_eq_getElem?_getD, List.getElem?_append_right (by omega)]
          have : k - l.length < 5 := by omega
          generalize k - l.length = j at this
          match j, this with
          | 0, _ => rfl
          | 1, _ => rfl
          | 2, _ => rfl
          | 3, _ => rfl
          | 4, _ => rfl
        have h6 : ((l.length : Int) ≤ (k : Int)) := by omega
        rw [if_neg (by simp; omega), hg]
        simp [h6]
    · rw [if_neg (by rw [hlen5]; simp; omega)]
      simp [hn]
theorem kept_credencelaw10_Small (N : Nat) (l : List Int) (hN : l.length + 5 < N) (hlen : l.length ≤ 17592186044416) : m_credencelaw10_kept_credencelaw10_Small N l.length (l ++ [77, 77, 77, 77, 77]) l = some true := by
  unfold m_credencelaw10_kept_credencelaw10_Small
  rw [chk_pos (by rw [w64 (by omega)]; simp; omega)]
  exact kept_credencelaw10_Small_L1 N l.length l rfl hlen N 0 (by omega) (by omega)

/-- The digits of a place that there is. -/
theorem digits_credencelaw10_Small (N : Nat) (p : List Int) (at_ : Int) (hf : ∀ x ∈ p, fit_credencelaw10_Small x) (hN : p.length < N) (hlen : p.length ≤ 17592186044416) (h0 : (cntS p).2 = 0) (h1 : 0 ≤ at_) (h2 : at_ < (cntS p).1) : m_radix_digits_credencelaw10_Small N p at_ = some (dgS p at_).1 := by
  have hp := cnt_pos h0 (by omega)
  unfold dgS
  rw [if_pos h0, if_neg (by omega)]
  unfold m_radix_digits_credencelaw10_Small
  cases hl : p with
  | nil => rfl
  | cons x l =>
    rw [← hl, if_neg (by rw [hl]; simp; omega), chk_pos (by simp only [maxLen]; omega)]
    unfold m_slices_Backward_credencelaw10_Small_credencelaw10_Small m_slices_Backward_credencelaw10_Small_credencelaw10_Small_1
    rw [w64 (by omega), back_credencelaw10_Small N p (by omega) N p.length (Nat.le_refl _) hN]
    simp only [Option.bind_some]
    exact dig_L1_credencelaw10_Small p hf hp.1 p.length at_ _ (by omega) (by omega) (Nat.le_refl _) (by simp)

theorem all_L1_credencelaw10_Small (N : Nat) (p : List Int) (hf : ∀ x ∈ p, fit_credencelaw10_Small x) (hN : p.length < N) (hlen : p.length ≤ 17592186044416) (h0 : (cntS p).2 = 0) (h9 : (cntS p).1 ≤ 2147483647) : ∀ (fuel k : Nat), (cntS p).1 < ((fuel + k : Nat) : Int) → (k : Int) ≤ (cntS p).1 →
    m_radix_All_credencelaw10_Small_1_L1 N (cntS p).1 p fuel (k : Int) = some (itemsF p k ((cntS p).1.toNat - k))
  | 0, k, h, hk => by omega
  | fuel + 1, k, h, hk => by
    rw [m_radix_All_credencelaw10_Small_1_L1.eq_2]
    by_cases hlt : (k : Int) < (cntS p).1
    · obtain ⟨j, hj⟩ : ∃ j, (cntS p).1.toNat - k = j + 1 := ⟨(cntS p).1.toNat - k - 1, by omega⟩
      rw [if_pos (decide_eq_true hlt), digits_credencelaw10_Small N p k hf hN hlen h0 (by omega) hlt, Option.bind_some, wrap_up (by omega), all_L1_credencelaw10_Small N p hf hN hlen h0 h9 fuel (k + 1) (by omega) (by omega), Option.bind_some, hj, itemsF, show (cntS p).1.toNat - (k + 1) = j by omega]
    · rw [if_neg (by rw [decide_eq_true_eq]; exact hlt), show (cntS p).1.toNat - k = 0 by omega, itemsF]
theorem all_credencelaw10_Small (N : Nat) (p : List Int) (hf : ∀ x ∈ p, fit_credencelaw10_Small x) (hN : p.length < N) (hN2 : 4294967296 ≤ N) (hlen : p.length ≤ 17592186043904) : m_radix_All_credencelaw10_Small N p = some (itemsF p 0 (cntS p).1.toNat) := by
  unfold m_radix_All_credencelaw10_Small m_slices_Clone_credencelaw10_Small_credencelaw10_Small
  rw [chk_pos (by simp only [List.length_nil, maxLen]; omega), Option.bind_some, List.nil_append, cnt_credencelaw10_Small p hf, Option.bind_some]
  unfold m_radix_All_credencelaw10_Small_1
  by_cases h0 : (cntS p).2 = 0
  · have h9 := cnt_le h0
    have := all_L1_credencelaw10_Small N p hf hN (by omega) h0 h9.2 N 0 (by omega) (by omega)
    simpa using this
  · rw [cnt_err h0]
    obtain ⟨n, rfl⟩ : ∃ n, N = n + 1 := ⟨N - 1, by omega⟩
    rw [m_radix_All_credencelaw10_Small_1_L1.eq_2, if_neg (by decide)]; rfl

section
variable (N : Nat) (left : Int) (p : List Int) (hf : ∀ x ∈ p, fit_credencelaw10_Small x) (hN : p.length + 20 < N) (hN2 : 4294967296 ≤ N) (hlen : p.length ≤ 17592186043904) (h0 : (cntS p).2 = 0)
include hf hN hN2 hlen h0
omit hN2 h0 in
theorem dsame_credencelaw10_Small (k : Nat) : m_credencelaw10_same_credencelaw10_Small N (dgS p k).1 (dgS p k).1 = some true := by
  have := dgS_len p k
  exact same_credencelaw10_Small N _ (dgS_fit_credencelaw10_Small p k hf) (by omega) (by omega)
omit hN2 in
/-- More than 2000: the first 20 are gone over. -/
theorem L2_credencelaw10_Small : ∀ (j k : Nat), (k : Int) + j = (cntS p).1 → 2000 < (cntS p).1 → k ≤ 20 → ∀ v, m_credencelaw10_walked_credencelaw10_Small_L2 N p (cntS p) (itemsF p k j) (k : Int) v = some true
  | 0, k, hj, h, hk, v => by omega
  | j + 1, k, hj, h, hk, v => by
    rw [itemsF, m_credencelaw10_walked_credencelaw10_Small_L2.eq_2, ref_digits N p _ (by omega) (by omega), Option.bind_some]
    by_cases h20 : k = 20
    · subst h20
      rw [if_pos (by decide), m_credencelaw10_walked_credencelaw10_Small_L2_X2, if_pos (decide_eq_true h0), m_credencelaw10_walked_credencelaw10_Small_J4]
    · have hd := (dg_ok h0 (show (0 : Int) ≤ (k : Int) by omega) (show (k : Int) < (cntS p).1 by omega))
      rw [if_neg (by rw [decide_eq_true_eq]; omega), if_neg (by simp [h0]), if_neg (by simp), if_neg (by simp [hd]), dsame_credencelaw10_Small N p hf hN hlen k, Option.bind_some, m_credencelaw10_walked_credencelaw10_Small_J5, if_neg (by decide), wrap_up (by omega)]
      exact L2_credencelaw10_Small j (k + 1) (by omega) h (by omega) v
omit hN2 h0 in
/-- What was kept of those that are odd. -/
theorem L5_credencelaw10_Small (h9 : (cntS p).1 ≤ 2000) (all : List (Option (List Int))) (hal : (all.length : Int) = (cntS p).1) (ha : ∀ i : Nat, i < all.length → i % 2 = 1 → all[i]? = some (some (dgS p i).1)) : ∀ (f i : Nat) (v : Bool), all.length + 1 < f + i → i % 2 = 1 → i ≤ all.length + 1 → m_credencelaw10_walked_credencelaw10_Small_L5 N p (cntS p) all f (i : Int) v = some true
  | 0, i, v, h, hi, hle => by omega
  | f + 1, i, v, h, hi, hle => by
    rw [m_credencelaw10_walked_credencelaw10_Small_L5.eq_2]
    by_cases hlt : i < all.length
    · have hat : at? all (i : Int) = some (some (dgS p i).1) := by rw [at?_nat]; exact ha i hlt hi
      rw [if_pos (decide_eq_true (by omega)), ref_digits N p _ (by omega) (by omega), Option.bind_some, hat, Option.bind_some, Option.bind_some, dsame_credencelaw10_Small N p hf hN hlen i, Option.bind_some, if_neg (by decide), show IntKind.i64.wrap ((i : Int) + 2) = ((i + 2 : Nat) : Int) by rw [w64 (by omega)]; omega]
      by_cases hle2 : i + 2 ≤ all.length + 1
      · exact L5_credencelaw10_Small h9 all hal ha f (i + 2) v (by omega) (by omega) hle2
      · omega
    · rw [if_neg (by rw [decide_eq_true_eq]; omega), decide_eq_true hal]
omit hf hN hN2 h0 in
theorem L6_credencelaw10_Small (all : List (Option (List Int))) (v : Bool) (kk : List (Option (List Int)) → Bool → Option Bool) : ∀ (f i : Nat) (d : List Int), d.length ≤ p.length → d.length < f + i → i ≤ d.length → m_credencelaw10_walked_credencelaw10_Small_L6 N all v kk f d (i : Int) = kk (all ++ [none]) v
  | 0, i, d, h1, h, hi => by omega
  | f + 1, i, d, h1, h, hi => by
    rw [m_credencelaw10_walked_credencelaw10_Small_L6.eq_2]
    by_cases hlt : i < d.length
    · rw [if_pos (decide_eq_true (by omega)), at_get hlt, Option.bind_some, Option.bind_some, wrap_up (by omega)]
      exact L6_credencelaw10_Small all v kk f (i + 1) _ (by rw [List.length_set]; exact h1) (by rw [List.length_set]; omega) (by rw [List.length_set]; omega)
    · rw [if_neg (by rw [decide_eq_true_eq]; omega), chk_pos (by simp only [List.length_cons, List.length_nil, maxLen]; omega), chk_pos (by simp only [List.length_append, List.length_cons, List.length_nil, maxLen]; omega)]
theorem L4_credencelaw10_Small (h9 : (cntS p).1 ≤ 2000) : ∀ (j : Nat) (all : List (Option (List Int))) (v : Bool), (all.length : Int) + j = (cntS p).1 → (∀ i : Nat, i < all.length → i % 2 = 1 → all[i]? = some (some (dgS p i).1)) → m_credencelaw10_walked_credencelaw10_Small_L4 N p (cntS p) (itemsF p all.length j) all v = some true
  | 0, all, v, hj, ha => by
    rw [itemsF, m_credencelaw10_walked_credencelaw10_Small_L4.eq_1, show (1 : Int) = ((1 : Nat) : Int) from rfl]
    exact L5_credencelaw10_Small N p hf hN hlen h9 all (by omega) ha N 1 v (by omega) (by omega) (by omega)
  | j + 1, all, v, hj, ha => by
    have hd := (dg_ok h0 (show (0 : Int) ≤ (all.length : Int) by omega) (show (all.length : Int) < (cntS p).1 by omega))
    rw [itemsF, m_credencelaw10_walked_credencelaw10_Small_L4.eq_2, ref_digits N p _ (by omega) (by omega), Option.bind_some, if_neg (by simp), if_neg (by simp [hd]), dsame_credencelaw10_Small N p hf hN hlen all.length, Option.bind_some, m_credencelaw10_walked_credencelaw10_Small_J6, if_neg (by decide)]
    have hmod : Int.tmod (all.length : Int) 2 = ((all.length % 2 : Nat) : Int) := rfl
    by_cases hpar : all.length % 2 = 0
    · rw [if_pos (decide_eq_true (by rw [hmod, hpar]; rfl)), chk_pos (by simp only [List.length_cons, List.length_nil, maxLen]; omega), show (0 : Int) = ((0 : Nat) : Int) from rfl, L6_credencelaw10_Small N p hlen all v _ N 0 _ (dgS_len p _) (by have := dgS_len p all.length; omega) (Nat.zero_le _)]
      have := L4_credencelaw10_Small h9 j (all ++ [none]) v (by simp; omega) (fun i hi hm => by
        have : i ≠ all.length := fun e => by omega
        rw [List.length_append, List.length_singleton] at hi
        rw [List.getElem?_append_left (by omega)]
        exact ha i (by omega) hm)
      rw [List.length_append, List.length_singleton] at this
      exact this
    · rw [if_neg (by rw [decide_eq_true_eq, hmod]; omega), chk_pos (by simp only [List.length_cons, List.length_nil, maxLen]; omega)]
      have := L4_credencelaw10_Small h9 j (all ++ [some (dgS p all.length).1]) v (by simp; omega) (fun i hi hm => by
        rw [List.length_append, List.length_singleton] at hi
        by_cases he : i = all.length
        · subst he; rw [List.getElem?_append_right (Nat.le_refl _), Nat.sub_self]; rfl
        · rw [List.getElem?_append_left (by omega)]
          exact ha i (by omega) hm)
      rw [List.length_append, List.length_singleton] at this
      exact this
omit hN2 h0 in
/-- What was kept of those that are odd. -/
theorem L8_credencelaw10_Small (h9 : (cntS p).1 ≤ 2000) (all : List (Option (List Int))) (hal : (all.length : Int) = (cntS p).1) (ha : ∀ i : Nat, i < all.length → i % 2 = 1 → all[i]? = some (some (dgS p i).1)) : ∀ (f i : Nat) (v : Bool), all.length + 1 < f + i → i % 2 = 1 → i ≤ all.length + 1 → m_credencelaw10_walked_credencelaw10_Small_L8 N p (cntS p) all f (i : Int) v = some true
  | 0, i, v, h, hi, hle => by omega
  | f + 1, i, v, h, hi, hle => by
    rw [m_credencelaw10_walked_credencelaw10_Small_L8.eq_2]
    by_cases hlt : i < all.length
    · have hat : at? all (i : Int) = some (some (dgS p i).1) := by rw [at?_nat]; exact ha i hlt hi
      rw [if_pos (decide_eq_true (by omega)), ref_digits N p _ (by omega) (by omega), Option.bind_some, hat, Option.bind_some, Option.bind_some, dsame_credencelaw10_Small N p hf hN hlen i, Option.bind_some, if_neg (by decide), show IntKind.i64.wrap ((i : Int) + 2) = ((i + 2 : Nat) : Int) by rw [w64 (by omega)]; omega]
      by_cases hle2 : i + 2 ≤ all.length + 1
      · exact L8_credencelaw10_Small h9 all hal ha f (i + 2) v (by omega) (by omega) hle2
      · omega
    · rw [if_neg (by rw [decide_eq_true_eq]; omega), decide_eq_true hal]
omit hf hN hN2 h0 in
theorem L9_credencelaw10_Small (all : List (Option (List Int))) (v : Bool) (kk : List (Option (List Int)) → Bool → Option Bool) : ∀ (f i : Nat) (d : List Int), d.length ≤ p.length → d.length < f + i → i ≤ d.length → m_credencelaw10_walked_credencelaw10_Small_L9 N all v kk f d (i : Int) = kk (all ++ [none]) v
  | 0, i, d, h1, h, hi => by omega
  | f + 1, i, d, h1, h, hi => by
    rw [m_credencelaw10_walked_credencelaw10_Small_L9.eq_2]
    by_cases hlt : i < d.length
    · rw [if_pos (decide_eq_true (by omega)), at_get hlt, Option.bind_some, Option.bind_some, wrap_up (by omega)]
      exact L9_credencelaw10_Small all v kk f (i + 1) _ (by rw [List.length_set]; exact h1) (by rw [List.length_set]; omega) (by rw [List.length_set]; omega)
    · rw [if_neg (by rw [decide_eq_true_eq]; omega), chk_pos (by simp only [List.length_cons, List.length_nil, maxLen]; omega), chk_pos (by simp only [List.length_append, List.length_cons, List.length_nil, maxLen]; omega)]
theorem L7_credencelaw10_Small (h9 : (cntS p).1 ≤ 2000) : ∀ (j : Nat) (all : List (Option (List Int))) (v : Bool), (all.length : Int) + j = (cntS p).1 → (∀ i : Nat, i < all.length → i % 2 = 1 → all[i]? = some (some (dgS p i).1)) → m_credencelaw10_walked_credencelaw10_Small_L7 N p (cntS p) (itemsF p all.length j) all v = some true
  | 0, all, v, hj, ha => by
    rw [itemsF, m_credencelaw10_walked_credencelaw10_Small_L7.eq_1, show (1 : Int) = ((1 : Nat) : Int) from rfl]
    exact L8_credencelaw10_Small N p hf hN hlen h9 all (by omega) ha N 1 v (by omega) (by omega) (by omega)
  | j + 1, all, v, hj, ha => by
    have hd := (dg_ok h0 (show (0 : Int) ≤ (all.length : Int) by omega) (show (all.length : Int) < (cntS p).1 by omega))
    rw [itemsF, m_credencelaw10_walked_credencelaw10_Small_L7.eq_2, ref_digits N p _ (by omega) (by omega), Option.bind_some, if_neg (by simp), if_neg (by simp [hd]), dsame_credencelaw10_Small N p hf hN hlen all.length, Option.bind_some, m_credencelaw10_walked_credencelaw10_Small_J7, if_neg (by decide)]
    have hmod : Int.tmod (all.length : Int) 2 = ((all.length % 2 : Nat) : Int) := rfl
    by_cases hpar : all.length % 2 = 0
    · rw [if_pos (decide_eq_true (by rw [hmod, hpar]; rfl)), chk_pos (by simp only [List.length_cons, List.length_nil, maxLen]; omega), show (0 : Int) = ((0 : Nat) : Int) from rfl, L9_credencelaw10_Small N p hlen all v _ N 0 _ (dgS_len p _) (by have := dgS_len p all.length; omega) (Nat.zero_le _)]
      have := L7_credencelaw10_Small h9 j (all ++ [none]) v (by simp; omega) (fun i hi hm => by
        have : i ≠ all.length := fun e => by omega
        rw [List.length_append, List.length_singleton] at hi
        rw [List.getElem?_append_left (by omega)]
        exact ha i (by omega) hm)
      rw [List.length_append, List.length_singleton] at this
      exact this
    · rw [if_neg (by rw [decide_eq_true_eq, hmod]; omega), chk_pos (by simp only [List.length_cons, List.length_nil, maxLen]; omega)]
      have := L7_credencelaw10_Small h9 j (all ++ [some (dgS p all.length).1]) v (by simp; omega) (fun i hi hm => by
        rw [List.length_append, List.length_singleton] at hi
        by_cases he : i = all.length
        · subst he; rw [List.getElem?_append_right (Nat.le_refl _), Nat.sub_self]; rfl
        · rw [List.getElem?_append_left (by omega)]
          exact ha i (by omega) hm)
      rw [List.length_append, List.length_singleton] at this
      exact this
theorem L3_credencelaw10_Small (h9 : (cntS p).1 ≤ 2000) (hn : 0 ≤ (cntS p).1) : ∀ (j k : Nat), (k : Int) + j = (cntS p).1 → ∀ v, m_credencelaw10_walked_credencelaw10_Small_L3 N left p (cntS p) (itemsF p 0 (cntS p).1.toNat) (itemsF p k j) (k : Int) v = some true
  | 0, k, hj, v => by
    rw [itemsF, m_credencelaw10_walked_credencelaw10_Small_L3.eq_1]
    exact L4_credencelaw10_Small N p hf hN hN2 hlen h0 h9 _ [] v (by simp; omega) (by simp)
  | j + 1, k, hj, v => by
    rw [itemsF, m_credencelaw10_walked_credencelaw10_Small_L3.eq_2]
    by_cases hl : (k : Int) = left
    · rw [if_pos (decide_eq_true hl), m_credencelaw10_walked_credencelaw10_Small_L3_X4]
      exact L7_credencelaw10_Small N p hf hN hN2 hlen h0 h9 _ [] v (by simp; omega) (by simp)
    · rw [if_neg (by rw [decide_eq_true_eq]; exact hl), if_neg (by simp), wrap_up (by omega)]
      exact L3_credencelaw10_Small h9 hn j (k + 1) (by omega) v
end
theorem L1_credencelaw10_Small (N : Nat) (left : Int) (p : List Int) (hf : ∀ x ∈ p, fit_credencelaw10_Small x) (hN : p.length + 20 < N) (hN2 : 4294967296 ≤ N) (hlen : p.length ≤ 17592186043904) : ∀ (f i : Nat) (s : List Int), s.length = p.length → p.length < f + i → i ≤ p.length → m_credencelaw10_walked_credencelaw10_Small_L1 N left p (cntS p) (itemsF p 0 (cntS p).1.toNat) f (i : Int) s = some true
  | 0, i, s, hs, h, hi => by omega
  | f + 1, i, s, hs, h, hi => by
    rw [m_credencelaw10_walked_credencelaw10_Small_L1.eq_2]
    by_cases hlt : i < s.length
    · rw [if_pos (decide_eq_true (by omega)), at_get hlt, Option.bind_some, Option.bind_some, wrap_up (by omega)]
      exact L1_credencelaw10_Small N left p hf hN hN2 hlen f (i + 1) _ (by rw [List.length_set]; exact hs) (by omega) (by omega)
    · rw [if_neg (by rw [decide_eq_true_eq]; omega)]
      by_cases h0 : (cntS p).2 = 0
      · have h9 := cnt_le h0
        rw [if_neg (by simp [h0]), m_credencelaw10_walked_credencelaw10_Small_J2]
        by_cases h20 : 2000 < (cntS p).1
        · rw [decide_eq_true h20, if_pos rfl, show (0 : Int) = ((0 : Nat) : Int) from rfl]
          exact L2_credencelaw10_Small N p hf hN hlen h0 _ 0 (by omega) h20 (by omega) false
        · rw [decide_eq_false h20, if_neg (by decide), show (0 : Int) = ((0 : Nat) : Int) from rfl]
          exact L3_credencelaw10_Small N left p hf hN hN2 hlen h0 (by omega) h9.1 _ 0 (by omega) false
      · rw [if_pos (by simp [h0]), m_credencelaw10_walked_credencelaw10_Small_J2, if_pos rfl, cnt_err h0]
        rw [show ((0 : Int)).toNat = 0 from rfl, itemsF, m_credencelaw10_walked_credencelaw10_Small_L2.eq_1, if_neg (by simp [h0]), m_credencelaw10_walked_credencelaw10_Small_J3]; rfl
theorem walked_credencelaw10_Small (N : Nat) (left : Int) (p : List Int) (hf : ∀ x ∈ p, fit_credencelaw10_Small x) (hN : p.length + 20 < N) (hN2 : 4294967296 ≤ N) (hlen : p.length ≤ 17592186043904) : m_credencelaw10_walked_credencelaw10_Small N p left = some true := by
  have htk : (p ++ [77, 77, 77, 77, 77]).take p.length = p := List.take_left
  unfold m_credencelaw10_walked_credencelaw10_Small
  rw [roomy_credencelaw10_Small N p (by omega) hlen, Option.bind_some, plain_credencelaw10_Small N p hf (by omega) (by omega), Option.bind_some, ref_count N p (by omega) (by omega), Option.bind_some]
  simp only [htk]
  rw [all_credencelaw10_Small N p hf (by omega) hN2 hlen, Option.bind_some, kept_credencelaw10_Small N p (by omega) (by omega), Option.bind_some, m_credencelaw10_walked_credencelaw10_Small_J1, if_neg (by decide)]
  simp only [htk]
  rw [show (0 : Int) = ((0 : Nat) : Int) from rfl]
  exact L1_credencelaw10_Small N left p hf hN hN2 hlen N 0 p rfl (by omega) (Nat.zero_le _)

end Go.Proofs.Ytjnkbkbllcfoaaa
