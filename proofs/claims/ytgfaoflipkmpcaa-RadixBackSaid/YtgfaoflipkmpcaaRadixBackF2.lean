/-
  What functions of the program compute, as plain Lean functions (m_..), and proofs that they compute it (c_..). Printed by a program of the author; no conditions.
-/
import Derived.Test.YtgfaoflipkmpcaaRange
import Derived.Test.YtgfaoflipkmpcaaProg
import Derived.Test.YtgfaoflipkmpcaaRadixBackF1
set_option linter.unusedVariables false
namespace Go.Proofs.Ytgfaoflipkmpcaa
open Go Go.RowKit


theorem drop_getD {p : List Int} {k : Nat} (h : k < p.length) : p.drop k = p.getD k 0 :: p.drop (k + 1) := by
  rw [List.drop_eq_getElem_cons h]; simp [h]
theorem getD_mem {p : List Int} {k : Nat} (h : k < p.length) : p.getD k 0 ∈ p := by
  have : p.getD k 0 = p[k] := by simp [h]
  rw [this]; exact List.getElem_mem h

theorem ref_L2 (N : Nat) (p : List Int) (hpos : ∀ x ∈ p, 1 ≤ x) (hlen : p.length < 4611686018427387904) : ∀ (fuel k : Nat) (n : Int), k ≤ p.length → p.length - k < fuel → 1 ≤ n → n ≤ 2147483647 →
    m_credenceref10_Count_L2 N p fuel n (k : Int) = some (goC (p.drop k) n) := by
  intro fuel
  induction fuel with
  | zero => intro k n _ h; omega
  | succ fuel ih =>
    intro k n hk hf h1 h2
    rw [m_credenceref10_Count_L2.eq_2]
    by_cases hlt : k < p.length
    · rw [if_pos (decide_eq_true (by omega)), decide_eq_true (by omega : 0 < n)]
      unfold m_credenceref10_Count_J2
      rw [if_pos rfl, at_get hlt, drop_getD hlt]
      have hx := hpos _ (getD_mem hlt)
      generalize p.getD k 0 = e at hx ⊢
      simp only [Option.bind_some, goC]
      by_cases h3 : 2147483647 < e
      · have := le_mul_pos h1 (by omega : 0 ≤ e)
        rw [if_pos (decide_eq_true h3), if_pos (by omega)]
      · have hb := mul_le_big (by omega : 0 ≤ n) h2 (by omega : 0 ≤ e) (by omega)
        have := le_mul_pos h1 (by omega : 0 ≤ e)
        rw [if_neg (by simpa using h3), w64 (by omega)]
        by_cases h4 : 2147483647 < n * e
        · rw [if_pos (decide_eq_true h4), if_pos h4]
        · rw [if_neg (by simpa using h4), if_neg h4, wrap_up (by omega), ih (k + 1) (n * e) (by omega) (by omega) (by omega) (by omega)]
    · rw [if_neg (by simp; omega)]
      unfold m_credenceref10_Count_J2
      rw [if_neg (by decide), List.drop_eq_nil_of_le (by omega)]; rfl

theorem ref_L1 (N : Nat) (p : List Int) (hlen : p.length < 4611686018427387904) : ∀ (fuel k : Nat) (n : Int), k ≤ p.length → p.length - k < fuel →
    m_credenceref10_Count_L1 N p fuel n (k : Int) = if anyNeg (p.drop k) then some (0, 3) else m_credenceref10_Count_L2 N p N (if anyZero (p.drop k) then 0 else n) 0 := by
  intro fuel
  induction fuel with
  | zero => intro k n _ h; omega
  | succ fuel ih =>
    intro k n hk hf
    rw [m_credenceref10_Count_L1.eq_2]
    by_cases hlt : k < p.length
    · rw [if_pos (decide_eq_true (by omega)), at_get hlt, drop_getD hlt]
      generalize p.getD k 0 = e
      simp only [Option.bind_some, anyNeg, anyZero, List.any_cons, m_credenceref10_Count_J1, wrap_up (show k < 4611686018427387904 by omega)]
      have ih0 := ih (k + 1) 0 (by omega) (by omega)
      have ihn := ih (k + 1) n (by omega) (by omega)
      simp only [anyNeg, anyZero] at ih0 ihn
      rw [ih0, ihn]
      by_cases h3 : e < 0
      · simp [h3]
      · by_cases h4 : e = 0
        · subst h4; simp
        · simp [h3, h4]
    · rw [if_neg (by simp; omega), List.drop_eq_nil_of_le (by omega)]; rfl

theorem ref_count (N : Nat) (p : List Int) (hN : p.length < N) (hlen : p.length < 4611686018427387904) : m_credenceref10_Count N p = some (cntS p) := by
  unfold m_credenceref10_Count cntS
  have h := ref_L1 N p hlen N 0 1 (by omega) (by omega)
  simp only [Int.natCast_zero, List.drop_zero] at h
  rw [h]
  cases h1 : anyNeg p with
  | true => rfl
  | false =>
    cases h2 : anyZero p with
    | true =>
      obtain ⟨n, rfl⟩ : ∃ n, N = n + 1 := ⟨N - 1, by omega⟩
      simp only [Bool.false_eq_true, if_false, if_true]
      rw [m_credenceref10_Count_L2.eq_2]
      split <;> rfl
    | false =>
      simp only [Bool.false_eq_true, if_false]
      have := ref_L2 N p (pos_of h1 h2) hlen N 0 1 (by omega) (by omega) (by omega) (by omega)
      simpa using this

theorem ref_dg (N : Nat) (p : List Int) (hnz : ∀ x ∈ p, 1 ≤ x) (hlen : p.length < 4611686018427387904) : ∀ (fuel k : Nat) (at_ : Int) (out : List Int), k ≤ p.length → out.length = p.length → k < fuel →
    m_credenceref10_Digits_L1 N p fuel at_ out ((k : Int) - 1) = some (dg p k at_ out, 0) := by
  intro fuel
  induction fuel with
  | zero => intro k _ _ _ _ h; omega
  | succ fuel ih =>
    intro k at_ out hk ho hf
    rw [m_credenceref10_Digits_L1.eq_2]
    cases k with
    | zero => rw [if_neg (by simp)]; rfl
    | succ k =>
      have hlt : k < p.length := by omega
      have hkk : ((k + 1 : Nat) : Int) - 1 = (k : Int) := by omega
      have hx := hnz _ (getD_mem hlt)
      rw [hkk, if_pos (decide_eq_true (by omega)), at_get hlt]
      simp only [Option.bind_some]
      rw [chk_pos (by omega), at_get (by omega)]
      simp only [Option.bind_some, Int.toNat_natCast]
      rw [chk_pos (by omega), w64 (n := (k : Int) - 1) (by omega), ih k _ _ (by omega) (by simpa using ho) (by omega)]
      rfl

/-- What the document says of a place's digits. -/
def dgS (p : List Int) (at_ : Int) : List Int × Int :=
  if (cntS p).2 = 0 then (if at_ < 0 ∨ (cntS p).1 ≤ at_ then ([], 3) else (dg p p.length at_ (List.replicate p.length 0), 0)) else ([], (cntS p).2)

theorem cnt_pos {p : List Int} (h0 : (cntS p).2 = 0) (h1 : 0 < (cntS p).1) : (∀ x ∈ p, 1 ≤ x) ∧ (cntS p).1 ≤ 2147483647 := by
  unfold cntS at h0 h1 ⊢
  cases a : anyNeg p with
  | true => rw [a] at h0; simp at h0
  | false =>
    cases b : anyZero p with
    | true => rw [a, b] at h1; simp at h1
    | false =>
      rw [a, b] at h0
      simp only [Bool.false_eq_true, if_false] at h0 ⊢
      exact ⟨pos_of a b, (goC_snd p 1 (by omega) (by omega) (pos_of a b) h0).2⟩

theorem dgS_len (p : List Int) (at_ : Int) : (dgS p at_).1.length ≤ p.length := by
  unfold dgS
  split
  · split
    · simp
    · simp [dg_length]
  · simp

theorem ref_digits (N : Nat) (p : List Int) (at_ : Int) (hN : p.length < N) (hlen : p.length ≤ 17592186044416) : m_credenceref10_Digits N p at_ = some (dgS p at_) := by
  unfold m_credenceref10_Digits dgS
  rw [ref_count N p hN (by omega)]
  simp only [Option.bind_some, m_credenceref10_Digits_J1]
  by_cases h0 : (cntS p).2 = 0
  · rw [if_neg (by simp [h0]), if_pos h0]
    by_cases h1 : at_ < 0
    · simp [h1]
    · by_cases h2 : (cntS p).1 ≤ at_
      · simp [h1, h2]
      · have hp := cnt_pos h0 (by omega)
        rw [if_neg (by simpa using h1), if_neg (by simpa using h2), if_neg (by omega), chk_pos (by simp only [maxLen]; omega), w64 (by omega), ref_dg N p hp.1 (by omega) N p.length at_ _ (Nat.le_refl _) (by simp) hN]
  · rw [if_pos (by simpa using h0), if_neg h0]


theorem el3_22 : ElemOk Try.prog 3 1 8 := ⟨Try.t3, _, rfl, rfl, rfl, rfl, rfl⟩

def m_credencelaw10_roomy_int_L1 (N : Nat) (p0_l : List Int) : Nat → (List Int) → Int → Option (Nat × (List Int))
  | 0, _, _ => none
  | n_10 + 1, m_15, i_17 => if (decide (i_17 < 5)) = true then (chk ((m_15.length + [77].length) * 8 ≤ 140737488355328 ∧ m_15.length + [77].length ≤ maxLen) ((m_credencelaw10_roomy_int_L1 N p0_l n_10) (m_15 ++ [77]) (IntKind.i64.wrap (i_17 + 1)))) else (chk (0 ≤ (p0_l.length : Int) ∧ (p0_l.length : Int) ≤ (m_15.length : Int)) (some ((Int.toNat (p0_l.length : Int)), m_15)))

def m_credencelaw10_roomy_int (N : Nat) (p0_l : List Int) : Option (Nat × (List Int)) :=
  chk ((([] : List Int).length + p0_l.length) * 8 ≤ 140737488355328 ∧ ([] : List Int).length + p0_l.length ≤ maxLen) (m_credencelaw10_roomy_int_L1 N p0_l N (([] : List Int) ++ p0_l) 0)

set_option maxRecDepth 100000 in
theorem c_credencelaw10_roomy_int (N : Nat) (c1 : Nat) (col : Col) (w0 : World) (a0 : Option Addr) (cap0 : Nat) (p0_l : List Int) (h0 : Sl (Rep.int .i64) col w0 a0 cap0 p0_l) (r : (Nat × (List Int))) (hm : m_credencelaw10_roomy_int N p0_l = some r) :
    Calls Try.prog 22 #[(.slice a0 p0_l.length cap0)] w0 (fun e w' => ∃ (col' : Col) (ra1 : Option Addr) (rc1 : Nat), e = .returned (.slice ra1 (r.2.take r.1).length rc1) ∧ Grow col w0 col' w' ∧ Own (Rep.int .i64) 3 c1 col' w' ra1 rc1 r.2) := by
  refine calls_of1 2 (m := 19) (args := [(.slice a0 p0_l.length cap0)]) Try.func22 rfl rfl rfl rfl rfl ?_
  rw [m_credencelaw10_roomy_int.eq_1] at hm
  have hst := St.start col w0
  replace h0 := h0.keep (Stay.start col w0)
  refine wseq ?_
  refine wregion ?_
  refine lv (v := (.slice none (([] : List Int).length) 0)) rfl rfl (r_assign rfl) ?_
  refine lnil ?_
  refine wseq ?_
  refine wregion ?_
  refine lv (v := (.slice none (([] : List Int).length) 0)) rfl rfl (r_assign rfl) ?_
  refine lnil ?_
  refine wseq ?_
  refine wregion ?_
  refine lv (v := (.slice none (([] : List Int).length) 0)) rfl rfl (r_move rfl) ?_
  refine lv (v := (.slice a0 p0_l.length cap0)) rfl rfl (r_move rfl) ?_
  obtain ⟨hb_1, hm⟩ := chk_some hm
  refine l_append (col := (col0 col)) (w := w0) (r := (Rep.int .i64)) (c := 2) (xs := ([] : List Int)) (ys := p0_l) Own.nil h0 rfl Try.underlying22 el3_22 rfl rfl rfl hb_1.1 hb_1.2 (by decide) ?_
  intro a_3 cap_4 w_5 col_6 hk_7 hs_8 h_9
  replace h0 := h0.kp hk_7 (by decide)
  replace hst := hst.kp hk_7 hs_8 (by decide) (by decide)
  refine lv (v := (.slice a_3 ((([] : List Int) ++ p0_l).length) cap_4)) rfl rfl (r_assign rfl) ?_
  refine lnil ?_
  refine wseq ?_
  refine wseq ?_
  refine wregion ?_
  refine lv (v := (.int .i64 0)) rfl rfl (r_assign rfl) ?_
  refine lnil ?_
  refine wblock ?_
  refine wloop (fun n f w_11 => ∃ (col_12 : Col) (a_13 : Option Addr) (cap_14 : Nat) (m_15 : List Int) (i_17 : Int) (n_10 : Nat), n_10 = n ∧ m_credencelaw10_roomy_int_L1 N p0_l n_10 m_15 i_17 = some r ∧ St w0 (col0 col) col_12 w_11 ∧ Sl (Rep.int .i64) col_12 w_11 a0 cap0 p0_l ∧ Own (Rep.int .i64) 3 2 col_12 w_11 a_13 cap_14 m_15 ∧ f 0 = (.slice a0 p0_l.length cap0) ∧ f 3 = (.slice a_13 m_15.length cap_14) ∧ f 4 = (.int .i64 i_17) ∧ f 1000000 = (enc [])) N ⟨col_6, a_3, cap_4, (([] : List Int) ++ p0_l), 0, N, rfl, hm, hst, h0, h_9, rfl, rfl, rfl, rfl⟩ ?_
  clear hm; intro n f w_11 hI
  obtain ⟨col_12, a_13, cap_14, m_15, i_17, n_10, hn, hm, hst, h0, h_16, hs0, hs3, hs4, hs1000000⟩ := hI
  subst hn
  refine .ld (d := 0) (v := (.slice a0 p0_l.length cap0)) hs0 ?_
  refine .ld (d := 3) (v := (.slice a_13 m_15.length cap_14)) hs3 ?_
  refine .ld (d := 4) (v := (.int .i64 i_17)) hs4 ?_
  refine .ld (d := 1000000) (v := (enc [])) hs1000000 ?_
  clear hs0 hs3 hs4 hs1000000
  cases n_10 with
  | zero => rw [m_credencelaw10_roomy_int_L1.eq_1] at hm; cases hm
  | succ n_10 =>
    rw [m_credencelaw10_roomy_int_L1.eq_2] at hm
    refine wseq ?_
    refine wseq ?_
    refine wregion ?_
    refine lv (v := (.int .i64 i_17)) rfl rfl (r_move rfl) ?_
    refine lv (v := (.bool (decide (i_17 < 5)))) rfl rfl (r_lss i_17 5 rfl rfl) ?_
    refine lnil ?_
    refine wcond (decide (i_17 < 5)) rfl (fun hb => ?_) (fun hb => ?_)
    · rw [if_pos hb] at hm
      clear hb
      refine wskip ?_
      refine wseq ?_
      refine wblock ?_
      refine wregion ?_
      refine lv (v := (.slice a_13 m_15.length cap_14)) rfl rfl (r_move rfl) ?_
      refine l_lit (col := col_12) (r := (Rep.int .i64)) (xs := [77]) [(.int .i64 77)] 3 rfl Try.underlying22 el3_22 rfl rfl rfl rfl rfl rfl (by intro v hv; simp only [List.mem_cons, List.not_mem_nil, or_false] at hv; subst hv; rfl) ⟨_, _, rfl, rfl, rfl⟩ ?_
      intro a_18 w_19 col_20 hg_21 h_22
      replace h0 := h0.gr hg_21
      replace h_16 := h_16.gr hg_21
      replace hst := hst.grow hg_21
      replace h0 := h0.froz 3
      replace h_16 := h_16.froz 3 (by decide)
      replace hst := hst.froz 3 (by decide) (by decide)
      replace h_22 := h_22.toSl
      obtain ⟨hb_23, hm⟩ := chk_some hm
      refine l_append (col := (froz 3 col_20)) (w := w_19) (r := (Rep.int .i64)) (c := 2) (xs := m_15) (ys := [77]) h_16 h_22 rfl Try.underlying22 el3_22 rfl rfl rfl hb_23.1 hb_23.2 (by decide) ?_
      intro a_25 cap_26 w_27 col_28 hk_29 hs_30 h_31
      replace h0 := h0.kp hk_29 (by decide)
      replace h_22 := h_22.kp hk_29 (by decide)
      replace hst := hst.kp hk_29 hs_30 (by decide) (by decide)
      clear h_16
      refine lv (v := (.slice a_25 ((m_15 ++ [77]).length) cap_26)) rfl rfl (r_assign rfl) ?_
      refine lnil ?_
      refine wregion ?_
      refine lv (v := (.int .i64 i_17)) rfl rfl (r_move rfl) ?_
      refine lv (v := (.int .i64 (IntKind.i64.wrap (i_17 + 1)))) rfl rfl (r_add i_17 1 rfl rfl) ?_
      refine lv (v := (.int .i64 (IntKind.i64.wrap (i_17 + 1)))) rfl rfl (r_assign rfl) ?_
      refine lnil ?_
      exact ⟨n_10, by omega, ⟨col_28, a_25, cap_26, (m_15 ++ [77]), (IntKind.i64.wrap (i_17 + 1)), n_10, rfl, hm, hst, h0, h_31, rfl, rfl, rfl, rfl⟩⟩
    · rw [if_neg (by rw [hb]; decide)] at hm
      clear hb
      refine wexit (inB_hit ?_)
      refine wseq ?_
      refine wregion ?_
      refine lv (v := (.slice a_13 m_15.length cap_14)) rfl rfl (r_move rfl) ?_
      refine lv (v := (.slice a0 p0_l.length cap0)) rfl rfl (r_move rfl) ?_
      refine lv (v := (.int .i64 (p0_l.length : Int))) rfl rfl (r_len Try.underlying22 rfl) ?_
      obtain ⟨hb_32, hm⟩ := chk_some hm
      refine lv (v := .slice a_13 (Int.toNat (p0_l.length : Int)) cap_14) rfl rfl (r_sliceH Try.underlying22 Try.sizeOf3 rfl rfl hb_32.1 (by have := h_16.lecap; have := hb_32.2; omega)) ?_
      refine .ld (d := 18) (v := (.slice a_13 ((m_15.take (Int.toNat (p0_l.length : Int))).length) cap_14)) (congrArg (fun n => Value.slice a_13 n cap_14) (show (Int.toNat (p0_l.length : Int)) = (m_15.take (Int.toNat (p0_l.length : Int))).length by rw [List.length_take]; have := hb_32.2; omega)) ?_
      refine lv (v := (.slice a_13 ((m_15.take (Int.toNat (p0_l.length : Int))).length) cap_14)) rfl rfl (r_assign rfl) ?_
      refine lnil ?_
      refine wret ?_
      cases hm
      exact ⟨rfl, colF w0.heap.size col col_12 (fun n => bif Nat.beq n 2 then c1 else 0), a_13, cap_14, rfl, hst.fin (fun n => bif Nat.beq n 2 then c1 else 0), hst.finOwn (g := (fun n => bif Nat.beq n 2 then c1 else 0)) rfl h_16 (by decide) (by decide) rfl⟩




def m_credencelaw10_kept_int_J1 (i_5 : Int) (kk_L1 : (Int → Option Bool)) : Option Bool :=
  kk_L1 (IntKind.i64.wrap (i_5 + 1))

def m_credencelaw10_kept_int_J2 (i_5 : Int) (kk_L1 : (Int → Option Bool)) (v_25 : Bool) : Option Bool :=
  if v_25 = true then (some false) else (m_credencelaw10_kept_int_J1 i_5 kk_L1)

def m_credencelaw10_kept_int_L1 (N : Nat) (n0 : Nat) (p0_m : List Int) (p1_l : List Int) : Nat → Int → Option Bool
  | 0, _ => none
  | n_2 + 1, i_5 => if (decide (i_5 < ((p0_m.take (Int.toNat (IntKind.i64.wrap ((p1_l.length : Int) + 5)))).length : Int))) = true then (if (decide (i_5 < (p1_l.length : Int))) = true then ((at? (p0_m.take (Int.toNat (IntKind.i64.wrap ((p1_l.length : Int) + 5)))) i_5).bind fun e_27 => (at? p1_l i_5).bind fun e_29 => if (!decide (e_27 = e_29)) = true then (m_credencelaw10_kept_int_J2 i_5 (m_credencelaw10_kept_int_L1 N n0 p0_m p1_l n_2) true) else (if (decide ((p1_l.length : Int) ≤ i_5)) = true then (m_credencelaw10_kept_int_J2 i_5 (m_credencelaw10_kept_int_L1 N n0 p0_m p1_l n_2) (!decide (e_27 = 77))) else (m_credencelaw10_kept_int_J2 i_5 (m_credencelaw10_kept_int_L1 N n0 p0_m p1_l n_2) false))) else (if (decide ((p1_l.length : Int) ≤ i_5)) = true then ((at? (p0_m.take (Int.toNat (IntKind.i64.wrap ((p1_l.length : Int) + 5)))) i_5).bind fun e_37 => m_credencelaw10_kept_int_J2 i_5 (m_credencelaw10_kept_int_L1 N n0 p0_m p1_l n_2) (!decide (e_37 = 77))) else (m_credencelaw10_kept_int_J2 i_5 (m_credencelaw10_kept_int_L1 N n0 p0_m p1_l n_2) false))) else (some (decide (((p0_m.take n0).length : Int) = (p1_l.length : Int))))

def m_credencelaw10_kept_int (N : Nat) (n0 : Nat) (p0_m : List Int) (p1_l : List Int) : Option Bool :=
  chk (0 ≤ (IntKind.i64.wrap ((p1_l.length : Int) + 5)) ∧ (IntKind.i64.wrap ((p1_l.length : Int) + 5)) ≤ (p0_m.length : Int)) (m_credencelaw10_kept_int_L1 N n0 p0_m p1_l N 0)

set_option maxRecDepth 100000 in
theorem c_credencelaw10_kept_int (N : Nat) (col : Col) (w0 : World) (a0 : Option Addr) (cap0 : Nat) (n0 : Nat) (p0_m : List Int) (h0 : Sl (Rep.int .i64) col w0 a0 cap0 p0_m) (a1 : Option Addr) (cap1 : Nat) (p1_l : List Int) (h1 : Sl (Rep.int .i64) col w0 a1 cap1 p1_l) (r : Bool) (hm : m_credencelaw10_kept_int N n0 p0_m p1_l = some r) :
    Calls Try.prog 26 #[(.slice a0 ((p0_m.take n0).length) cap0), (.slice a1 p1_l.length cap1)] w0 (fun e w' => e = .returned (.bool r) ∧ Below w0.heap.size w0 w') := by
  refine calls_of1 4 (m := 51) (args := [(.slice a0 ((p0_m.take n0).length) cap0), (.slice a1 p1_l.length cap1)]) Try.func26 rfl rfl rfl rfl rfl ?_
  rw [m_credencelaw10_kept_int.eq_1] at hm
  have hst := St.start col w0
  replace h0 := h0.keep (Stay.start col w0)
  replace h1 := h1.keep (Stay.start col w0)
  refine wseq ?_
  refine wregion ?_
  refine lv (v := (.bool false)) rfl rfl (r_assign rfl) ?_
  refine lnil ?_
  refine wseq ?_
  refine wregion ?_
  refine lv (v := (.slice a0 ((p0_m.take n0).length) cap0)) rfl rfl (r_move rfl) ?_
  refine lv (v := (.slice a1 p1_l.length cap1)) rfl rfl (r_move rfl) ?_
  refine lv (v := (.int .i64 (p1_l.length : Int))) rfl rfl (r_len Try.underlying22 rfl) ?_
  refine lv (v := (.int .i64 (IntKind.i64.wrap ((p1_l.length : Int) + 5)))) rfl rfl (r_add (p1_l.length : Int) 5 rfl rfl) ?_
  obtain ⟨hb_1, hm⟩ := chk_some hm
  refine lv (v := .slice a0 (Int.toNat (IntKind.i64.wrap ((p1_l.length : Int) + 5))) cap0) rfl rfl (r_sliceH Try.underlying22 Try.sizeOf3 rfl rfl hb_1.1 (by have := h0.1.2; have := hb_1.2; omega)) ?_
  refine .ld (d := 11) (v := (.slice a0 ((p0_m.take (Int.toNat (IntKind.i64.wrap ((p1_l.length : Int) + 5)))).length) cap0)) (congrArg (fun n => Value.slice a0 n cap0) (show (Int.toNat (IntKind.i64.wrap ((p1_l.length : Int) + 5))) = (p0_m.take (Int.toNat (IntKind.i64.wrap ((p1_l.length : Int) + 5)))).length by rw [List.length_take]; have := hb_1.2; omega)) ?_
  refine lv (v := (.slice a0 ((p0_m.take (Int.toNat (IntKind.i64.wrap ((p1_l.length : Int) + 5)))).length) cap0)) rfl rfl (r_assign rfl) ?_
  refine lnil ?_
  refine wseq ?_
  refine wseq ?_
  refine wregion ?_
  refine lv (v := (.int .i64 0)) rfl rfl (r_assign rfl) ?_
  refine lnil ?_
  refine wblock ?_
  refine wloop (fun n f w_3 => ∃ (col_4 : Col) (i_5 : Int) (n_2 : Nat), n_2 = n ∧ m_credencelaw10_kept_int_L1 N n0 p0_m p1_l n_2 i_5 = some r ∧ St w0 (col0 col) col_4 w_3 ∧ Sl (Rep.int .i64) col_4 w_3 a0 cap0 p0_m ∧ Sl (Rep.int .i64) col_4 w_3 a1 cap1 p1_l ∧ f 0 = (.slice a0 ((p0_m.take n0).length) cap0) ∧ f 1 = (.slice a1 p1_l.length cap1) ∧ f 5 = (.slice a0 ((p0_m.take (Int.toNat (IntKind.i64.wrap ((p1_l.length : Int) + 5)))).length) cap0) ∧ f 6 = (.int .i64 i_5) ∧ f 1000000 = (enc [])) N ⟨(col0 col), 0, N, rfl, hm, hst, h0, h1, rfl, rfl, rfl, rfl, rfl⟩ ?_
  clear hm; intro n f w_3 hI
  obtain ⟨col_4, i_5, n_2, hn, hm, hst, h0, h1, hs0, hs1, hs5, hs6, hs1000000⟩ := hI
  subst hn
  refine .ld (d := 0) (v := (.slice a0 ((p0_m.take n0).length) cap0)) hs0 ?_
  refine .ld (d := 1) (v := (.slice a1 p1_l.length cap1)) hs1 ?_
  refine .ld (d := 5) (v := (.slice a0 ((p0_m.take (Int.toNat (IntKind.i64.wrap ((p1_l.length : Int) + 5)))).length) cap0)) hs5 ?_
  refine .ld (d := 6) (v := (.int .i64 i_5)) hs6 ?_
  refine .ld (d := 1000000) (v := (enc [])) hs1000000 ?_
  clear hs0 hs1 hs5 hs6 hs1000000
  cases n_2 with
  | zero => rw [m_credencelaw10_kept_int_L1.eq_1] at hm; cases hm
  | succ n_2 =>
    rw [m_credencelaw10_kept_int_L1.eq_2] at hm
    refine wseq ?_
    refine wseq ?_
    refine wregion ?_
    refine lv (v := (.int .i64 i_5)) rfl rfl (r_move rfl) ?_
    refine lv (v := (.slice a0 ((p0_m.take (Int.toNat (IntKind.i64.wrap ((p1_l.length : Int) + 5)))).length) cap0)) rfl rfl (r_move rfl) ?_
    refine lv (v := (.int .i64 ((p0_m.take (Int.toNat (IntKind.i64.wrap ((p1_l.length : Int) + 5)))).length : Int))) rfl rfl (r_len Try.underlying22 rfl) ?_
    refine lv (v := (.bool (decide (i_5 < ((p0_m.take (Int.toNat (IntKind.i64.wrap ((p1_l.length : Int) + 5)))).length : Int))))) rfl rfl (r_lss i_5 ((p0_m.take (Int.toNat (IntKind.i64.wrap ((p1_l.length : Int) + 5)))).length : Int) rfl rfl) ?_
    refine lnil ?_
    refine wcond (decide (i_5 < ((p0_m.take (Int.toNat (IntKind.i64.wrap ((p1_l.length : Int) + 5)))).length : Int))) rfl (fun hb => ?_) (fun hb => ?_)
    · rw [if_pos hb] at hm
      clear hb
      refine wskip ?_
      refine wseq ?_
      refine Wp.cut (fun f w_6 => ∃ (col_7 : Col), m_credencelaw10_kept_int_J1 i_5 (m_credencelaw10_kept_int_L1 N n0 p0_m p1_l n_2)  = some r ∧ St w0 (col0 col) col_7 w_6 ∧ Sl (Rep.int .i64) col_7 w_6 a0 cap0 p0_m ∧ Sl (Rep.int .i64) col_7 w_6 a1 cap1 p1_l ∧ f 0 = (.slice a0 ((p0_m.take n0).length) cap0) ∧ f 1 = (.slice a1 p1_l.length cap1) ∧ f 5 = (.slice a0 ((p0_m.take (Int.toNat (IntKind.i64.wrap ((p1_l.length : Int) + 5)))).length) cap0) ∧ f 6 = (.int .i64 i_5) ∧ f 1000000 = (enc [])) ?_ ?_
      · intro f w_6 hJ
        obtain ⟨col_7, hm, hst, h0, h1, hs0, hs1, hs5, hs6, hs1000000⟩ := hJ
        rw [m_credencelaw10_kept_int_J1.eq_1] at hm
        refine .ld (d := 0) (v := (.slice a0 ((p0_m.take n0).length) cap0)) hs0 ?_
        refine .ld (d := 1) (v := (.slice a1 p1_l.length cap1)) hs1 ?_
        refine .ld (d := 5) (v := (.slice a0 ((p0_m.take (Int.toNat (IntKind.i64.wrap ((p1_l.length : Int) + 5)))).length) cap0)) hs5 ?_
        refine .ld (d := 6) (v := (.int .i64 i_5)) hs6 ?_
        refine .ld (d := 1000000) (v := (enc [])) hs1000000 ?_
        clear hs0 hs1 hs5 hs6 hs1000000
        refine wregion ?_
        refine lv (v := (.int .i64 i_5)) rfl rfl (r_move rfl) ?_
        refine lv (v := (.int .i64 (IntKind.i64.wrap (i_5 + 1)))) rfl rfl (r_add i_5 1 rfl rfl) ?_
        refine lv (v := (.int .i64 (IntKind.i64.wrap (i_5 + 1)))) rfl rfl (r_assign rfl) ?_
        refine lnil ?_
        exact ⟨n_2, by omega, ⟨col_7, (IntKind.i64.wrap (i_5 + 1)), n_2, rfl, hm, hst, h0, h1, rfl, rfl, rfl, rfl, rfl⟩⟩
      · refine wblock ?_
        refine wseq ?_
        refine Wp.cut (fun f w_23 => ∃ (col_24 : Col) (v_25 : Bool), m_credencelaw10_kept_int_J2 i_5 (m_credencelaw10_kept_int_L1 N n0 p0_m p1_l n_2) v_25 = some r ∧ St w0 (col0 col) col_24 w_23 ∧ Sl (Rep.int .i64) col_24 w_23 a0 cap0 p0_m ∧ Sl (Rep.int .i64) col_24 w_23 a1 cap1 p1_l ∧ f 0 = (.slice a0 ((p0_m.take n0).length) cap0) ∧ f 1 = (.slice a1 p1_l.length cap1) ∧ f 5 = (.slice a0 ((p0_m.take (Int.toNat (IntKind.i64.wrap ((p1_l.length : Int) + 5)))).length) cap0) ∧ f 6 = (.int .i64 i_5) ∧ f 45 = (.bool v_25) ∧ f 1000000 = (enc [])) ?_ ?_
        · intro f w_23 hJ
          obtain ⟨col_24, v_25, hm, hst, h0, h1, hs0, hs1, hs5, hs6, hs45, hs1000000⟩ := hJ
          rw [m_credencelaw10_kept_int_J2.eq_1] at hm
          refine .ld (d := 0) (v := (.slice a0 ((p0_m.take n0).length) cap0)) hs0 ?_
          refine .ld (d := 1) (v := (.slice a1 p1_l.length cap1)) hs1 ?_
          refine .ld (d := 5) (v := (.slice a0 ((p0_m.take (Int.toNat (IntKind.i64.wrap ((p1_l.length : Int) + 5)))).length) cap0)) hs5 ?_
          refine .ld (d := 6) (v := (.int .i64 i_5)) hs6 ?_
          refine .ld (d := 45) (v := (.bool v_25)) hs45 ?_
          refine .ld (d := 1000000) (v := (enc [])) hs1000000 ?_
          clear hs0 hs1 hs5 hs6 hs45 hs1000000
          refine wcond (v_25) rfl (fun hb => ?_) (fun hb => ?_)
          · rw [if_pos hb] at hm
            clear hb
            refine wseq ?_
            refine wregion ?_
            refine lv (v := (.bool false)) rfl rfl (r_assign rfl) ?_
            refine lnil ?_
            refine wret ?_
            cases hm
            exact ⟨rfl, rfl, hst.below⟩
          · rw [if_neg (by rw [hb]; decide)] at hm
            clear hb
            refine wskip ?_
            exact ⟨col_24, hm, hst, h0, h1, rfl, rfl, rfl, rfl, rfl⟩
        · refine wquiet (col := col_4) (by kernel_rfl) (by kernel_rfl) ?_
          refine qv (v := (.int .i64 i_5)) rfl (fun _ hC => r_move rfl) ?_
          refine qv (v := (.slice a1 p1_l.length cap1)) rfl (fun _ hC => r_move rfl) ?_
          refine qv (v := (.int .i64 (p1_l.length : Int))) rfl (fun _ hC => r_len Try.underlying22 rfl) ?_
          refine qv (v := (.bool (decide (i_5 < (p1_l.length : Int))))) rfl (fun _ hC => r_lss i_5 (p1_l.length : Int) rfl rfl) ?_
          refine qv (v := (.bool (decide (i_5 < (p1_l.length : Int))))) rfl (fun _ hC => r_move rfl) ?_
          by_cases hg_26 : (decide (i_5 < (p1_l.length : Int))) = true
          · rw [if_pos hg_26] at hm
            refine qg (b := decide (i_5 < (p1_l.length : Int))) 22 rfl rfl rfl (by rw [hg_26]; rfl) ?_
            refine qv (v := (.slice a0 ((p0_m.take (Int.toNat (IntKind.i64.wrap ((p1_l.length : Int) + 5)))).length) cap0)) rfl (fun _ hC => r_move rfl) ?_
            refine qg (b := decide (i_5 < (p1_l.length : Int))) 22 rfl rfl rfl (by rw [hg_26]; rfl) ?_
            refine qv (v := (.int .i64 i_5)) rfl (fun _ hC => r_move rfl) ?_
            refine qg (b := decide (i_5 < (p1_l.length : Int))) 22 rfl rfl rfl (by rw [hg_26]; rfl) ?_
            obtain ⟨e_27, hj_28, hm⟩ := bind_some hm
            refine qv (v := (sptr a0 (Int.toNat i_5 * 1))) rfl (fun _ hC => r_idx Try.underlying22 Try.sizeOf3 rfl rfl (at?_some hj_28).1 (at?_some hj_28).2.1 ((h0.take (Int.toNat (IntKind.i64.wrap ((p1_l.length : Int) + 5)))).addr hj_28)) ?_
            refine qg (b := decide (i_5 < (p1_l.length : Int))) 22 rfl rfl rfl (by rw [hg_26]; rfl) ?_
            refine qv (v := (.int .i64 e_27)) rfl (fun _ hC => r_ld Try.isAgg3 rfl (((h0.take (Int.toNat (IntKind.i64.wrap ((p1_l.length : Int) + 5)))).gr hC).atInt hj_28)) ?_
            refine qg (b := decide (i_5 < (p1_l.length : Int))) 22 rfl rfl rfl (by rw [hg_26]; rfl) ?_
            refine qv (v := (.slice a1 p1_l.length cap1)) rfl (fun _ hC => r_move rfl) ?_
            refine qg (b := decide (i_5 < (p1_l.length : Int))) 22 rfl rfl rfl (by rw [hg_26]; rfl) ?_
            refine qv (v := (.int .i64 i_5)) rfl (fun _ hC => r_move rfl) ?_
            refine qg (b := decide (i_5 < (p1_l.length : Int))) 22 rfl rfl rfl (by rw [hg_26]; rfl) ?_
            obtain ⟨e_29, hj_30, hm⟩ := bind_some hm
            refine qv (v := (sptr a1 (Int.toNat i_5 * 1))) rfl (fun _ hC => r_idx Try.underlying22 Try.sizeOf3 rfl rfl (at?_some hj_30).1 (at?_some hj_30).2.1 (h1.addr hj_30)) ?_
            refine qg (b := decide (i_5 < (p1_l.length : Int))) 22 rfl rfl rfl (by rw [hg_26]; rfl) ?_
            refine qv (v := (.int .i64 e_29)) rfl (fun _ hC => r_ld Try.isAgg3 rfl ((h1.gr hC).atInt hj_30)) ?_
            refine qg (b := decide (i_5 < (p1_l.length : Int))) 22 rfl rfl rfl (by rw [hg_26]; rfl) ?_
            refine qv (v := (.bool (!decide (e_27 = e_29)))) rfl (fun _ hC => r_neq e_27 e_29 rfl rfl) ?_
            refine qv (v := (.bool (!decide (e_27 = e_29)))) rfl (fun _ hC => r_pickT (congrArg Value.bool hg_26) rfl) ?_
            refine qv (v := (.bool (!decide (e_27 = e_29)))) rfl (fun _ hC => r_move rfl) ?_
            by_cases hg_31 : (!decide (e_27 = e_29)) = true
            · rw [if_pos hg_31] at hm
              refine qp (b := !decide (e_27 = e_29)) 33 rfl rfl rfl rfl (by rw [hg_31]; rfl) ?_
              refine qp (b := !decide (e_27 = e_29)) 33 rfl rfl rfl rfl (by rw [hg_31]; rfl) ?_
              refine qp (b := !decide (e_27 = e_29)) 33 rfl rfl rfl rfl (by rw [hg_31]; rfl) ?_
              refine qp (b := !decide (e_27 = e_29)) 33 rfl rfl rfl rfl (by rw [hg_31]; rfl) ?_
              refine qp (b := !decide (e_27 = e_29)) 33 rfl rfl rfl rfl (by rw [hg_31]; rfl) ?_
              refine qpU 38 rfl rfl rfl rfl ?_
              refine qpU 38 rfl rfl rfl rfl ?_
              refine qpU 38 rfl rfl rfl rfl ?_
              refine qpU 38 rfl rfl rfl rfl ?_
              refine qpU 38 rfl rfl rfl rfl ?_
              refine qp (b := !decide (e_27 = e_29)) 33 rfl rfl rfl rfl (by rw [hg_31]; rfl) ?_
              refine qv (v := (.bool true)) rfl (fun _ hC => r_pickT (congrArg Value.bool hg_31) rfl) ?_
              refine qnil ?_
              intro w_32 hC
              replace h0 := h0.gr hC
              replace h1 := h1.gr hC
              replace hst := hst.grow hC
              exact ⟨col_4, true, hm, hst, h0, h1, rfl, rfl, rfl, rfl, rfl, rfl⟩
            · rw [if_neg hg_31] at hm
              replace hg_31 := Bool.eq_false_iff.2 hg_31
              refine qg (b := !decide (e_27 = e_29)) 33 rfl rfl rfl (by rw [hg_31]; rfl) ?_
              refine qv (v := (.int .i64 i_5)) rfl (fun _ hC => r_move rfl) ?_
              refine qg (b := !decide (e_27 = e_29)) 33 rfl rfl rfl (by rw [hg_31]; rfl) ?_
              refine qv (v := (.slice a1 p1_l.length cap1)) rfl (fun _ hC => r_move rfl) ?_
              refine qg (b := !decide (e_27 = e_29)) 33 rfl rfl rfl (by rw [hg_31]; rfl) ?_
              refine qv (v := (.int .i64 (p1_l.length : Int))) rfl (fun _ hC => r_len Try.underlying22 rfl) ?_
              refine qg (b := !decide (e_27 = e_29)) 33 rfl rfl rfl (by rw [hg_31]; rfl) ?_
              refine qv (v := (.bool (decide ((p1_l.length : Int) ≤ i_5)))) rfl (fun _ hC => r_geq i_5 (p1_l.length : Int) rfl rfl) ?_
              refine qg (b := !decide (e_27 = e_29)) 33 rfl rfl rfl (by rw [hg_31]; rfl) ?_
              refine qv (v := (.bool (decide ((p1_l.length : Int) ≤ i_5)))) rfl (fun _ hC => r_move rfl) ?_
              by_cases hg_33 : (decide ((p1_l.length : Int) ≤ i_5)) = true
              · rw [if_pos hg_33] at hm
                refine qg (b := decide ((p1_l.length : Int) ≤ i_5)) 38 rfl rfl rfl (by rw [hg_33]; rfl) ?_
                refine qv (v := (.slice a0 ((p0_m.take (Int.toNat (IntKind.i64.wrap ((p1_l.length : Int) + 5)))).length) cap0)) rfl (fun _ hC => r_move rfl) ?_
                refine qg (b := decide ((p1_l.length : Int) ≤ i_5)) 38 rfl rfl rfl (by rw [hg_33]; rfl) ?_
                refine qv (v := (.int .i64 i_5)) rfl (fun _ hC => r_move rfl) ?_
                refine qg (b := decide ((p1_l.length : Int) ≤ i_5)) 38 rfl rfl rfl (by rw [hg_33]; rfl) ?_
                refine qv (v := (sptr a0 (Int.toNat i_5 * 1))) rfl (fun _ hC => r_idx Try.underlying22 Try.sizeOf3 rfl rfl (at?_some hj_28).1 (at?_some hj_28).2.1 ((h0.take (Int.toNat (IntKind.i64.wrap ((p1_l.length : Int) + 5)))).addr hj_28)) ?_
                refine qg (b := decide ((p1_l.length : Int) ≤ i_5)) 38 rfl rfl rfl (by rw [hg_33]; rfl) ?_
                refine qv (v := (.int .i64 e_27)) rfl (fun _ hC => r_ld Try.isAgg3 rfl (((h0.take (Int.toNat (IntKind.i64.wrap ((p1_l.length : Int) + 5)))).gr hC).atInt hj_28)) ?_
                refine qg (b := decide ((p1_l.length : Int) ≤ i_5)) 38 rfl rfl rfl (by rw [hg_33]; rfl) ?_
                refine qv (v := (.bool (!decide (e_27 = 77)))) rfl (fun _ hC => r_neq e_27 77 rfl rfl) ?_
                refine qg (b := !decide (e_27 = e_29)) 33 rfl rfl rfl (by rw [hg_31]; rfl) ?_
                refine qv (v := (.bool (!decide (e_27 = 77)))) rfl (fun _ hC => r_pickT (congrArg Value.bool hg_33) rfl) ?_
                refine qv (v := (.bool (!decide (e_27 = 77)))) rfl (fun _ hC => r_pickF (congrArg Value.bool hg_31) rfl) ?_
                refine qnil ?_
                intro w_34 hC
                replace h0 := h0.gr hC
                replace h1 := h1.gr hC
                replace hst := hst.grow hC
                exact ⟨col_4, (!decide (e_27 = 77)), hm, hst, h0, h1, rfl, rfl, rfl, rfl, rfl, rfl⟩
              · rw [if_neg hg_33] at hm
                replace hg_33 := Bool.eq_false_iff.2 hg_33
                refine qp (b := decide ((p1_l.length : Int) ≤ i_5)) 38 rfl rfl rfl rfl (by rw [hg_33]; rfl) ?_
                refine qp (b := decide ((p1_l.length : Int) ≤ i_5)) 38 rfl rfl rfl rfl (by rw [hg_33]; rfl) ?_
                refine qp (b := decide ((p1_l.length : Int) ≤ i_5)) 38 rfl rfl rfl rfl (by rw [hg_33]; rfl) ?_
                refine qp (b := decide ((p1_l.length : Int) ≤ i_5)) 38 rfl rfl rfl rfl (by rw [hg_33]; rfl) ?_
                refine qp (b := decide ((p1_l.length : Int) ≤ i_5)) 38 rfl rfl rfl rfl (by rw [hg_33]; rfl) ?_
                refine qg (b := !decide (e_27 = e_29)) 33 rfl rfl rfl (by rw [hg_31]; rfl) ?_
                refine qv (v := (.bool false)) rfl (fun _ hC => r_pickF (congrArg Value.bool hg_33) rfl) ?_
                refine qv (v := (.bool false)) rfl (fun _ hC => r_pickF (congrArg Value.bool hg_31) rfl) ?_
                refine qnil ?_
                intro w_35 hC
                replace h0 := h0.gr hC
                replace h1 := h1.gr hC
                replace hst := hst.grow hC
                exact ⟨col_4, false, hm, hst, h0, h1, rfl, rfl, rfl, rfl, rfl, rfl⟩
          · rw [if_neg hg_26] at hm
            replace hg_26 := Bool.eq_false_iff.2 hg_26
            refine qp (b := decide (i_5 < (p1_l.length : Int))) 22 rfl rfl rfl rfl (by rw [hg_26]; rfl) ?_
            refine qp (b := decide (i_5 < (p1_l.length : Int))) 22 rfl rfl rfl rfl (by rw [hg_26]; rfl) ?_
            refine qp (b := decide (i_5 < (p1_l.length : Int))) 22 rfl rfl rfl rfl (by rw [hg_26]; rfl) ?_
            refine qp (b := decide (i_5 < (p1_l.length : Int))) 22 rfl rfl rfl rfl (by rw [hg_26]; rfl) ?_
            refine qp (b := decide (i_5 < (p1_l.length : Int))) 22 rfl rfl rfl rfl (by rw [hg_26]; rfl) ?_
            refine qp (b := decide (i_5 < (p1_l.length : Int))) 22 rfl rfl rfl rfl (by rw [hg_26]; rfl) ?_
            refine qp (b := decide (i_5 < (p1_l.length : Int))) 22 rfl rfl rfl rfl (by rw [hg_26]; rfl) ?_
            refine qp (b := decide (i_5 < (p1_l.length : Int))) 22 rfl rfl rfl rfl (by rw [hg_26]; rfl) ?_
            refine qp (b := decide (i_5 < (p1_l.length : Int))) 22 rfl rfl rfl rfl (by rw [hg_26]; rfl) ?_
            refine qv (v := (.bool false)) rfl (fun _ hC => r_pickF (congrArg Value.bool hg_26) rfl) ?_
            refine qv (v := (.bool false)) rfl (fun _ hC => r_move rfl) ?_
            refine qg (b := false) 33 rfl rfl rfl rfl ?_
            refine qv (v := (.int .i64 i_5)) rfl (fun _ hC => r_move rfl) ?_
            refine qg (b := false) 33 rfl rfl rfl rfl ?_
            refine qv (v := (.slice a1 p1_l.length cap1)) rfl (fun _ hC => r_move rfl) ?_
            refine qg (b := false) 33 rfl rfl rfl rfl ?_
            refine qv (v := (.int .i64 (p1_l.length : Int))) rfl (fun _ hC => r_len Try.underlying22 rfl) ?_
            refine qg (b := false) 33 rfl rfl rfl rfl ?_
            refine qv (v := (.bool (decide ((p1_l.length : Int) ≤ i_5)))) rfl (fun _ hC => r_geq i_5 (p1_l.length : Int) rfl rfl) ?_
            refine qg (b := false) 33 rfl rfl rfl rfl ?_
            refine qv (v := (.bool (decide ((p1_l.length : Int) ≤ i_5)))) rfl (fun _ hC => r_move rfl) ?_
            by_cases hg_36 : (decide ((p1_l.length : Int) ≤ i_5)) = true
            · rw [if_pos hg_36] at hm
              refine qg (b := decide ((p1_l.length : Int) ≤ i_5)) 38 rfl rfl rfl (by rw [hg_36]; rfl) ?_
              refine qv (v := (.slice a0 ((p0_m.take (Int.toNat (IntKind.i64.wrap ((p1_l.length : Int) + 5)))).length) cap0)) rfl (fun _ hC => r_move rfl) ?_
              refine qg (b := decide ((p1_l.length : Int) ≤ i_5)) 38 rfl rfl rfl (by rw [hg_36]; rfl) ?_
              refine qv (v := (.int .i64 i_5)) rfl (fun _ hC => r_move rfl) ?_
              refine qg (b := decide ((p1_l.length : Int) ≤ i_5)) 38 rfl rfl rfl (by rw [hg_36]; rfl) ?_
              obtain ⟨e_37, hj_38, hm⟩ := bind_some hm
              refine qv (v := (sptr a0 (Int.toNat i_5 * 1))) rfl (fun _ hC => r_idx Try.underlying22 Try.sizeOf3 rfl rfl (at?_some hj_38).1 (at?_some hj_38).2.1 ((h0.take (Int.toNat (IntKind.i64.wrap ((p1_l.length : Int) + 5)))).addr hj_38)) ?_
              refine qg (b := decide ((p1_l.length : Int) ≤ i_5)) 38 rfl rfl rfl (by rw [hg_36]; rfl) ?_
              refine qv (v := (.int .i64 e_37)) rfl (fun _ hC => r_ld Try.isAgg3 rfl (((h0.take (Int.toNat (IntKind.i64.wrap ((p1_l.length : Int) + 5)))).gr hC).atInt hj_38)) ?_
              refine qg (b := decide ((p1_l.length : Int) ≤ i_5)) 38 rfl rfl rfl (by rw [hg_36]; rfl) ?_
              refine qv (v := (.bool (!decide (e_37 = 77)))) rfl (fun _ hC => r_neq e_37 77 rfl rfl) ?_
              refine qg (b := false) 33 rfl rfl rfl rfl ?_
              refine qv (v := (.bool (!decide (e_37 = 77)))) rfl (fun _ hC => r_pickT (congrArg Value.bool hg_36) rfl) ?_
              refine qv (v := (.bool (!decide (e_37 = 77)))) rfl (fun _ hC => r_pickF rfl rfl) ?_
              refine qnil ?_
              intro w_39 hC
              replace h0 := h0.gr hC
              replace h1 := h1.gr hC
              replace hst := hst.grow hC
              exact ⟨col_4, (!decide (e_37 = 77)), hm, hst, h0, h1, rfl, rfl, rfl, rfl, rfl, rfl⟩
            · rw [if_neg hg_36] at hm
              replace hg_36 := Bool.eq_false_iff.2 hg_36
              refine qp (b := decide ((p1_l.length : Int) ≤ i_5)) 38 rfl rfl rfl rfl (by rw [hg_36]; rfl) ?_
              refine qp (b := decide ((p1_l.length : Int) ≤ i_5)) 38 rfl rfl rfl rfl (by rw [hg_36]; rfl) ?_
              refine qp (b := decide ((p1_l.length : Int) ≤ i_5)) 38 rfl rfl rfl rfl (by rw [hg_36]; rfl) ?_
              refine qp (b := decide ((p1_l.length : Int) ≤ i_5)) 38 rfl rfl rfl rfl (by rw [hg_36]; rfl) ?_
              refine qp (b := decide ((p1_l.length : Int) ≤ i_5)) 38 rfl rfl rfl rfl (by rw [hg_36]; rfl) ?_
              refine qg (b := false) 33 rfl rfl rfl rfl ?_
              refine qv (v := (.bool false)) rfl (fun _ hC => r_pickF (congrArg Value.bool hg_36) rfl) ?_
              refine qv (v := (.bool false)) rfl (fun _ hC => r_pickF rfl rfl) ?_
              refine qnil ?_
              intro w_40 hC
              replace h0 := h0.gr hC
              replace h1 := h1.gr hC
              replace hst := hst.grow hC
              exact ⟨col_4, false, hm, hst, h0, h1, rfl, rfl, rfl, rfl, rfl, rfl⟩
    · rw [if_neg (by rw [hb]; decide)] at hm
      clear hb
      refine wexit (inB_hit ?_)
      refine wseq ?_
      refine wregion ?_
      refine lv (v := (.slice a0 ((p0_m.take n0).length) cap0)) rfl rfl (r_move rfl) ?_
      refine lv (v := (.int .i64 ((p0_m.take n0).length : Int))) rfl rfl (r_len Try.underlying22 rfl) ?_
      refine lv (v := (.slice a1 p1_l.length cap1)) rfl rfl (r_move rfl) ?_
      refine lv (v := (.int .i64 (p1_l.length : Int))) rfl rfl (r_len Try.underlying22 rfl) ?_
      refine lv (v := (.bool (decide (((p0_m.take n0).length : Int) = (p1_l.length : Int))))) rfl rfl (r_eql ((p0_m.take n0).length : Int) (p1_l.length : Int) rfl rfl) ?_
      refine lv (v := (.bool (decide (((p0_m.take n0).length : Int) = (p1_l.length : Int))))) rfl rfl (r_assign rfl) ?_
      refine lnil ?_
      refine wret ?_
      cases hm
      exact ⟨rfl, rfl, hst.below⟩




def m_credencelaw10_same_int_L1 (N : Nat) (p0_l : List Int) (p1_want : List Int) : Nat → Int → Option Bool
  | 0, _ => none
  | n_1 + 1, i_4 => if (decide (i_4 < (p0_l.length : Int))) = true then ((at? p0_l i_4).bind fun e_5 => (at? p1_want i_4).bind fun e_7 => if (!decide (e_5 = e_7)) = true then (some false) else ((m_credencelaw10_same_int_L1 N p0_l p1_want n_1) (IntKind.i64.wrap (i_4 + 1)))) else (some true)

def m_credencelaw10_same_int (N : Nat) (p0_l : List Int) (p1_want : List Int) : Option Bool :=
  if (!decide ((p0_l.length : Int) = (p1_want.length : Int))) = true then (some false) else (m_credencelaw10_same_int_L1 N p0_l p1_want N 0)

set_option maxRecDepth 100000 in
theorem c_credencelaw10_same_int (N : Nat) (col : Col) (w0 : World) (a0 : Option Addr) (cap0 : Nat) (p0_l : List Int) (h0 : Sl (Rep.int .i64) col w0 a0 cap0 p0_l) (a1 : Option Addr) (cap1 : Nat) (p1_want : List Int) (h1 : Sl (Rep.int .i64) col w0 a1 cap1 p1_want) (r : Bool) (hm : m_credencelaw10_same_int N p0_l p1_want = some r) :
    Calls Try.prog 28 #[(.slice a0 p0_l.length cap0), (.slice a1 p1_want.length cap1)] w0 (fun e w' => e = .returned (.bool r) ∧ Below w0.heap.size w0 w') := by
  refine calls_of1 4 (m := 26) (args := [(.slice a0 p0_l.length cap0), (.slice a1 p1_want.length cap1)]) Try.func28 rfl rfl rfl rfl rfl ?_
  rw [m_credencelaw10_same_int.eq_1] at hm
  have hst := St.start col w0
  replace h0 := h0.keep (Stay.start col w0)
  replace h1 := h1.keep (Stay.start col w0)
  refine wseq ?_
  refine wregion ?_
  refine lv (v := (.bool false)) rfl rfl (r_assign rfl) ?_
  refine lnil ?_
  refine wseq ?_
  refine wseq ?_
  refine wregion ?_
  refine lv (v := (.slice a0 p0_l.length cap0)) rfl rfl (r_move rfl) ?_
  refine lv (v := (.int .i64 (p0_l.length : Int))) rfl rfl (r_len Try.underlying22 rfl) ?_
  refine lv (v := (.slice a1 p1_want.length cap1)) rfl rfl (r_move rfl) ?_
  refine lv (v := (.int .i64 (p1_want.length : Int))) rfl rfl (r_len Try.underlying22 rfl) ?_
  refine lv (v := (.bool (!decide ((p0_l.length : Int) = (p1_want.length : Int))))) rfl rfl (r_neq (p0_l.length : Int) (p1_want.length : Int) rfl rfl) ?_
  refine lnil ?_
  refine wcond (!decide ((p0_l.length : Int) = (p1_want.length : Int))) rfl (fun hb => ?_) (fun hb => ?_)
  · rw [if_pos hb] at hm
    clear hb
    refine wseq ?_
    refine wregion ?_
    refine lv (v := (.bool false)) rfl rfl (r_assign rfl) ?_
    refine lnil ?_
    refine wret ?_
    cases hm
    exact ⟨rfl, rfl, hst.below⟩
  · rw [if_neg (by rw [hb]; decide)] at hm
    clear hb
    refine wskip ?_
    refine wseq ?_
    refine wseq ?_
    refine wregion ?_
    refine lv (v := (.int .i64 0)) rfl rfl (r_assign rfl) ?_
    refine lnil ?_
    refine wblock ?_
    refine wloop (fun n f w_2 => ∃ (col_3 : Col) (i_4 : Int) (n_1 : Nat), n_1 = n ∧ m_credencelaw10_same_int_L1 N p0_l p1_want n_1 i_4 = some r ∧ St w0 (col0 col) col_3 w_2 ∧ Sl (Rep.int .i64) col_3 w_2 a0 cap0 p0_l ∧ Sl (Rep.int .i64) col_3 w_2 a1 cap1 p1_want ∧ f 0 = (.slice a0 p0_l.length cap0) ∧ f 1 = (.slice a1 p1_want.length cap1) ∧ f 5 = (.int .i64 i_4) ∧ f 1000000 = (enc [])) N ⟨(col0 col), 0, N, rfl, hm, hst, h0, h1, rfl, rfl, rfl, rfl⟩ ?_
    clear hm; intro n f w_2 hI
    obtain ⟨col_3, i_4, n_1, hn, hm, hst, h0, h1, hs0, hs1, hs5, hs1000000⟩ := hI
    subst hn
    refine .ld (d := 0) (v := (.slice a0 p0_l.length cap0)) hs0 ?_
    refine .ld (d := 1) (v := (.slice a1 p1_want.length cap1)) hs1 ?_
    refine .ld (d := 5) (v := (.int .i64 i_4)) hs5 ?_
    refine .ld (d := 1000000) (v := (enc [])) hs1000000 ?_
    clear hs0 hs1 hs5 hs1000000
    cases n_1 with
    | zero => rw [m_credencelaw10_same_int_L1.eq_1] at hm; cases hm
    | succ n_1 =>
      rw [m_credencelaw10_same_int_L1.eq_2] at hm
      refine wseq ?_
      refine wseq ?_
      refine wregion ?_
      refine lv (v := (.int .i64 i_4)) rfl rfl (r_move rfl) ?_
      refine lv (v := (.slice a0 p0_l.length cap0)) rfl rfl (r_move rfl) ?_
      refine lv (v := (.int .i64 (p0_l.length : Int))) rfl rfl (r_len Try.underlying22 rfl) ?_
      refine lv (v := (.bool (decide (i_4 < (p0_l.length : Int))))) rfl rfl (r_lss i_4 (p0_l.length : Int) rfl rfl) ?_
      refine lnil ?_
      refine wcond (decide (i_4 < (p0_l.length : Int))) rfl (fun hb => ?_) (fun hb => ?_)
      · rw [if_pos hb] at hm
        clear hb
        refine wskip ?_
        refine wseq ?_
        refine wblock ?_
        refine wseq ?_
        refine wquiet (col := col_3) (by kernel_rfl) (by kernel_rfl) ?_
        refine qv (v := (.slice a0 p0_l.length cap0)) rfl (fun _ hC => r_move rfl) ?_
        refine qv (v := (.int .i64 i_4)) rfl (fun _ hC => r_move rfl) ?_
        obtain ⟨e_5, hj_6, hm⟩ := bind_some hm
        refine qv (v := (sptr a0 (Int.toNat i_4 * 1))) rfl (fun _ hC => r_idx Try.underlying22 Try.sizeOf3 rfl rfl (at?_some hj_6).1 (at?_some hj_6).2.1 (h0.addr hj_6)) ?_
        refine qv (v := (.int .i64 e_5)) rfl (fun _ hC => r_ld Try.isAgg3 rfl ((h0.gr hC).atInt hj_6)) ?_
        refine qv (v := (.slice a1 p1_want.length cap1)) rfl (fun _ hC => r_move rfl) ?_
        refine qv (v := (.int .i64 i_4)) rfl (fun _ hC => r_move rfl) ?_
        obtain ⟨e_7, hj_8, hm⟩ := bind_some hm
        refine qv (v := (sptr a1 (Int.toNat i_4 * 1))) rfl (fun _ hC => r_idx Try.underlying22 Try.sizeOf3 rfl rfl (at?_some hj_8).1 (at?_some hj_8).2.1 (h1.addr hj_8)) ?_
        refine qv (v := (.int .i64 e_7)) rfl (fun _ hC => r_ld Try.isAgg3 rfl ((h1.gr hC).atInt hj_8)) ?_
        refine qv (v := (.bool (!decide (e_5 = e_7)))) rfl (fun _ hC => r_neq e_5 e_7 rfl rfl) ?_
        refine qnil ?_
        intro w_9 hC
        replace h0 := h0.gr hC
        replace h1 := h1.gr hC
        replace hst := hst.grow hC
        refine wcond (!decide (e_5 = e_7)) rfl (fun hb => ?_) (fun hb => ?_)
        · rw [if_pos hb] at hm
          clear hb
          refine wseq ?_
          refine wregion ?_
          refine lv (v := (.bool false)) rfl rfl (r_assign rfl) ?_
          refine lnil ?_
          refine wret ?_
          cases hm
          exact ⟨rfl, rfl, hst.below⟩
        · rw [if_neg (by rw [hb]; decide)] at hm
          clear hb
          refine wskip ?_
          refine wregion ?_
          refine lv (v := (.int .i64 i_4)) rfl rfl (r_move rfl) ?_
          refine lv (v := (.int .i64 (IntKind.i64.wrap (i_4 + 1)))) rfl rfl (r_add i_4 1 rfl rfl) ?_
          refine lv (v := (.int .i64 (IntKind.i64.wrap (i_4 + 1)))) rfl rfl (r_assign rfl) ?_
          refine lnil ?_
          exact ⟨n_1, by omega, ⟨col_3, (IntKind.i64.wrap (i_4 + 1)), n_1, rfl, hm, hst, h0, h1, rfl, rfl, rfl, rfl⟩⟩
      · rw [if_neg (by rw [hb]; decide)] at hm
        clear hb
        refine wexit (inB_hit ?_)
        refine wseq ?_
        refine wregion ?_
        refine lv (v := (.bool true)) rfl rfl (r_assign rfl) ?_
        refine lnil ?_
        refine wret ?_
        cases hm
        exact ⟨rfl, rfl, hst.below⟩



theorem el3_23 : ElemOk Try.prog 3 1 8 := ⟨Try.t3, _, rfl, rfl, rfl, rfl, rfl⟩

def m_credencelaw10_plain_int_L1 (N : Nat) (p0_l : List Int) : Nat → (List Int) → Int → Option (List Int)
  | 0, _, _ => none
  | n_1 + 1, out_6, i_8 => if (decide (i_8 < (p0_l.length : Int))) = true then ((at? p0_l i_8).bind fun e_9 => chk ((out_6.length + [e_9].length) * 8 ≤ 140737488355328 ∧ out_6.length + [e_9].length ≤ maxLen) ((m_credencelaw10_plain_int_L1 N p0_l n_1) (out_6 ++ [e_9]) (IntKind.i64.wrap (i_8 + 1)))) else (some out_6)

def m_credencelaw10_plain_int (N : Nat) (p0_l : List Int) : Option (List Int) :=
  m_credencelaw10_plain_int_L1 N p0_l N ([] : List Int) 0

set_option maxRecDepth 100000 in
theorem c_credencelaw10_plain_int (N : Nat) (c1 : Nat) (col : Col) (w0 : World) (a0 : Option Addr) (cap0 : Nat) (p0_l : List Int) (h0 : Sl (Rep.int .i64) col w0 a0 cap0 p0_l) (r : (List Int)) (hm : m_credencelaw10_plain_int N p0_l = some r) :
    Calls Try.prog 23 #[(.slice a0 p0_l.length cap0)] w0 (fun e w' => ∃ (col' : Col) (ra1 : Option Addr) (rc1 : Nat), e = .returned (.slice ra1 r.length rc1) ∧ Grow col w0 col' w' ∧ Own (Rep.int .i64) 3 c1 col' w' ra1 rc1 r) := by
  refine calls_of1 2 (m := 19) (args := [(.slice a0 p0_l.length cap0)]) Try.func23 rfl rfl rfl rfl rfl ?_
  rw [m_credencelaw10_plain_int.eq_1] at hm
  have hst := St.start col w0
  replace h0 := h0.keep (Stay.start col w0)
  refine wseq ?_
  refine wregion ?_
  refine lv (v := (.slice none (([] : List Int).length) 0)) rfl rfl (r_assign rfl) ?_
  refine lnil ?_
  refine wseq ?_
  refine wregion ?_
  refine lv (v := (.slice none (([] : List Int).length) 0)) rfl rfl (r_assign rfl) ?_
  refine lnil ?_
  refine wseq ?_
  refine wseq ?_
  refine wregion ?_
  refine lv (v := (.int .i64 0)) rfl rfl (r_assign rfl) ?_
  refine lnil ?_
  refine wblock ?_
  refine wloop (fun n f w_2 => ∃ (col_3 : Col) (a_4 : Option Addr) (cap_5 : Nat) (out_6 : List Int) (i_8 : Int) (n_1 : Nat), n_1 = n ∧ m_credencelaw10_plain_int_L1 N p0_l n_1 out_6 i_8 = some r ∧ St w0 (col0 col) col_3 w_2 ∧ Sl (Rep.int .i64) col_3 w_2 a0 cap0 p0_l ∧ Own (Rep.int .i64) 3 2 col_3 w_2 a_4 cap_5 out_6 ∧ f 0 = (.slice a0 p0_l.length cap0) ∧ f 3 = (.slice a_4 out_6.length cap_5) ∧ f 4 = (.int .i64 i_8) ∧ f 1000000 = (enc [])) N ⟨(col0 col), none, 0, ([] : List Int), 0, N, rfl, hm, hst, h0, Own.nil, rfl, rfl, rfl, rfl⟩ ?_
  clear hm; intro n f w_2 hI
  obtain ⟨col_3, a_4, cap_5, out_6, i_8, n_1, hn, hm, hst, h0, h_7, hs0, hs3, hs4, hs1000000⟩ := hI
  subst hn
  refine .ld (d := 0) (v := (.slice a0 p0_l.length cap0)) hs0 ?_
  refine .ld (d := 3) (v := (.slice a_4 out_6.length cap_5)) hs3 ?_
  refine .ld (d := 4) (v := (.int .i64 i_8)) hs4 ?_
  refine .ld (d := 1000000) (v := (enc [])) hs1000000 ?_
  clear hs0 hs3 hs4 hs1000000
  cases n_1 with
  | zero => rw [m_credencelaw10_plain_int_L1.eq_1] at hm; cases hm
  | succ n_1 =>
    rw [m_credencelaw10_plain_int_L1.eq_2] at hm
    refine wseq ?_
    refine wseq ?_
    refine wregion ?_
    refine lv (v := (.int .i64 i_8)) rfl rfl (r_move rfl) ?_
    refine lv (v := (.slice a0 p0_l.length cap0)) rfl rfl (r_move rfl) ?_
    refine lv (v := (.int .i64 (p0_l.length : Int))) rfl rfl (r_len Try.underlying22 rfl) ?_
    refine lv (v := (.bool (decide (i_8 < (p0_l.length : Int))))) rfl rfl (r_lss i_8 (p0_l.length : Int) rfl rfl) ?_
    refine lnil ?_
    refine wcond (decide (i_8 < (p0_l.length : Int))) rfl (fun hb => ?_) (fun hb => ?_)
    · rw [if_pos hb] at hm
      clear hb
      refine wskip ?_
      refine wseq ?_
      refine wblock ?_
      refine wregion ?_
      refine lv (v := (.slice a_4 out_6.length cap_5)) rfl rfl (r_move rfl) ?_
      refine lv (v := (.slice a0 p0_l.length cap0)) rfl rfl (r_move rfl) ?_
      refine lv (v := (.int .i64 i_8)) rfl rfl (r_move rfl) ?_
      obtain ⟨e_9, hj_10, hm⟩ := bind_some hm
      refine lv (v := (sptr a0 (Int.toNat i_8 * 1))) rfl rfl (r_idx Try.underlying22 Try.sizeOf3 rfl rfl (at?_some hj_10).1 (at?_some hj_10).2.1 (h0.addr hj_10)) ?_
      refine lv (v := (.int .i64 e_9)) rfl rfl (r_ld Try.isAgg3 rfl (h0.atInt hj_10)) ?_
      refine l_lit (col := col_3) (r := (Rep.int .i64)) (xs := [e_9]) [(.int .i64 e_9)] 3 rfl Try.underlying22 el3_23 rfl rfl rfl rfl rfl rfl (by intro v hv; simp only [List.mem_cons, List.not_mem_nil, or_false] at hv; subst hv; rfl) ⟨_, _, rfl, rfl, rfl⟩ ?_
      intro a_11 w_12 col_13 hg_14 h_15
      replace h0 := h0.gr hg_14
      replace h_7 := h_7.gr hg_14
      replace hst := hst.grow hg_14
      replace h0 := h0.froz 3
      replace h_7 := h_7.froz 3 (by decide)
      replace hst := hst.froz 3 (by decide) (by decide)
      replace h_15 := h_15.toSl
      obtain ⟨hb_16, hm⟩ := chk_some hm
      refine l_append (col := (froz 3 col_13)) (w := w_12) (r := (Rep.int .i64)) (c := 2) (xs := out_6) (ys := [e_9]) h_7 h_15 rfl Try.underlying22 el3_23 rfl rfl rfl hb_16.1 hb_16.2 (by decide) ?_
      intro a_18 cap_19 w_20 col_21 hk_22 hs_23 h_24
      replace h0 := h0.kp hk_22 (by decide)
      replace h_15 := h_15.kp hk_22 (by decide)
      replace hst := hst.kp hk_22 hs_23 (by decide) (by decide)
      clear h_7
      refine lv (v := (.slice a_18 ((out_6 ++ [e_9]).length) cap_19)) rfl rfl (r_assign rfl) ?_
      refine lnil ?_
      refine wregion ?_
      refine lv (v := (.int .i64 i_8)) rfl rfl (r_move rfl) ?_
      refine lv (v := (.int .i64 (IntKind.i64.wrap (i_8 + 1)))) rfl rfl (r_add i_8 1 rfl rfl) ?_
      refine lv (v := (.int .i64 (IntKind.i64.wrap (i_8 + 1)))) rfl rfl (r_assign rfl) ?_
      refine lnil ?_
      exact ⟨n_1, by omega, ⟨col_21, a_18, cap_19, (out_6 ++ [e_9]), (IntKind.i64.wrap (i_8 + 1)), n_1, rfl, hm, hst, h0, h_24, rfl, rfl, rfl, rfl⟩⟩
    · rw [if_neg (by rw [hb]; decide)] at hm
      clear hb
      refine wexit (inB_hit ?_)
      refine wseq ?_
      refine wregion ?_
      refine lv (v := (.slice a_4 out_6.length cap_5)) rfl rfl (r_move rfl) ?_
      refine lv (v := (.slice a_4 out_6.length cap_5)) rfl rfl (r_assign rfl) ?_
      refine lnil ?_
      refine wret ?_
      cases hm
      exact ⟨rfl, colF w0.heap.size col col_3 (fun n => bif Nat.beq n 2 then c1 else 0), a_4, cap_5, rfl, hst.fin (fun n => bif Nat.beq n 2 then c1 else 0), hst.finOwn (g := (fun n => bif Nat.beq n 2 then c1 else 0)) rfl h_7 (by decide) (by decide) rfl⟩



/-- The numbers that the type has. -/
def fit_int (x : Int) : Prop := -9223372036854775808 ≤ x ∧ x ≤ 9223372036854775807

theorem cnt_L2_int : ∀ (l : List Int) (n : Int), (∀ x ∈ l, fit_int x) → (∀ x ∈ l, 1 ≤ x) → 1 ≤ n → n ≤ 2147483647 → m_radix_Count_int_L2 l n = some (goC l n)
  | [], n, _, _, _, _ => rfl
  | x :: l, n, hf, hp, h1, h2 => by
    have hx := hp x (by simp)
    rw [m_radix_Count_int_L2.eq_2, chk_pos (by omega), goC]
    have hq : Int.tdiv 2147483647 n = 2147483647 / n := Int.tdiv_eq_ediv_of_nonneg (by omega)
    have hq0 : 0 ≤ (2147483647 : Int) / n := Int.ediv_nonneg (by omega) (by omega)
    have hq1 : (2147483647 : Int) / n ≤ 2147483647 := Int.ediv_le_self _ (by omega)
    rw [hq, w64 (by omega)]
    by_cases h : 2147483647 < n * x
    · rw [if_pos h, if_pos (decide_eq_true (by rw [Int.ediv_lt_iff_lt_mul (by omega), Int.mul_comm]; exact h))]
    · have h3 : 1 * 1 ≤ n * x := Int.mul_le_mul h1 hx (by omega) (by omega)
      rw [if_neg h, if_neg (by rw [decide_eq_true_eq, Int.ediv_lt_iff_lt_mul (by omega), Int.mul_comm]; exact h), w64 (by omega)]
      exact cnt_L2_int l (n * x) (fun y hy => hf y (by simp [hy])) (fun y hy => hp y (by simp [hy])) (by omega) (by omega)

theorem cnt_L1_int (p : List Int) : ∀ (l : List Int) (b : Bool), m_radix_Count_int_L1 p l b = if anyNeg l then some (0, 3) else if b || anyZero l then some (0, 0) else m_radix_Count_int_L2 p 1
  | [], b => by cases b <;> rfl
  | x :: l, b => by
    rw [m_radix_Count_int_L1.eq_2]
    simp only [m_radix_Count_int_J1, cnt_L1_int p l, anyNeg, anyZero, List.any_cons]
    by_cases h : x < 0
    · simp [h]
    · cases b
      · simp [h]
      · simp [h]

theorem cnt_int (p : List Int) (hf : ∀ x ∈ p, fit_int x) : m_radix_Count_int p = some (cntS p) := by
  unfold m_radix_Count_int cntS
  rw [cnt_L1_int]
  cases h1 : anyNeg p with
  | true => rfl
  | false =>
    cases h2 : anyZero p with
    | true => rfl
    | false =>
      simp only [Bool.false_eq_true, if_false, Bool.or_false]
      exact cnt_L2_int p 1 hf (pos_of h1 h2) (by omega) (by omega)

theorem back_int (N : Nat) (p : List Int) (hlen : p.length < 4611686018427387904) : ∀ (fuel k : Nat), k ≤ p.length → k < fuel → m_slices_Backward_int_int_1_L1 N p fuel ((k : Int) - 1) = some (bp p k) := by
  intro fuel
  induction fuel with
  | zero => intro k _ h; omega
  | succ fuel ih =>
    intro k hk hf
    rw [m_slices_Backward_int_int_1_L1.eq_2]
    cases k with
    | zero => rw [if_neg (by simp)]; rfl
    | succ k =>
      have hkk : ((k + 1 : Nat) : Int) - 1 = (k : Int) := by omega
      rw [hkk, if_pos (decide_eq_true (by omega)), at_get (by omega)]
      simp only [Option.bind_some]
      rw [w64 (n := (k : Int) - 1) (by omega), ih k (by omega) (by omega)]
      rfl

theorem dig_L1_int (p : List Int) (hf : ∀ x ∈ p, fit_int x) (hnz : ∀ x ∈ p, 1 ≤ x) : ∀ (k : Nat) (at_ : Int) (out : List Int), 0 ≤ at_ → at_ < 9223372036854775807 → k ≤ p.length → out.length = p.length → m_radix_digits_int_L1 (bp p k) at_ out = some (dg p k at_ out)
  | 0, _, _, _, _, _, _ => rfl
  | k + 1, at_, out, h0, h9, hk, ho => by
    have hlt : k < p.length := by omega
    have hx := hnz _ (getD_mem hlt)
    have hfx := hf _ (getD_mem hlt)
    rw [bp, m_radix_digits_int_L1.eq_2]
    simp only [dg]
    generalize p.getD k 0 = e at hx hfx ⊢
    have hm : IntKind.i64.wrap (Int.tmod at_ e) = Int.tmod at_ e := by
      have h1 : 0 ≤ Int.tmod at_ e := Int.tmod_nonneg _ h0
      have h2 : Int.tmod at_ e < e := Int.tmod_lt_of_pos _ (by omega)
      exact w64 (by unfold fit_int at hfx; omega)
    have hq : Int.tdiv at_ e = at_ / e := Int.tdiv_eq_ediv_of_nonneg h0
    have hq0 : 0 ≤ at_ / e := Int.ediv_nonneg h0 (by omega)
    have hq1 : at_ / e ≤ at_ := Int.ediv_le_self _ h0
    rw [chk_pos (by omega), at_get (by omega)]
    simp only [Option.bind_some, Int.toNat_natCast]
    rw [chk_pos (by omega)]
    rw [dig_L1_int p hf hnz k _ _ (by rw [w64] <;> omega) (by rw [w64] <;> omega) (by omega) (by simpa using ho)]

theorem dig_int (N : Nat) (p : List Int) (at_ : Int) (hf : ∀ x ∈ p, fit_int x) (hN : p.length < N) (hlen : p.length ≤ 17592186044416) : m_radix_Digits_int N p at_ = some (dgS p at_) := by
  unfold m_radix_Digits_int dgS
  rw [cnt_int p hf]
  simp only [Option.bind_some, m_radix_Digits_int_J1]
  by_cases h0 : (cntS p).2 = 0
  · rw [if_neg (by simp [h0]), if_pos h0]
    by_cases h1 : at_ < 0
    · simp [h1]
    · by_cases h2 : (cntS p).1 ≤ at_
      · simp [h1, h2]
      · have hp := cnt_pos h0 (by omega)
        rw [if_neg (by simpa using h1), if_neg (by simpa using h2), if_neg (by omega)]
        unfold m_radix_digits_int
        cases hl : p with
        | nil => rfl
        | cons x l =>
          rw [← hl, if_neg (by rw [hl]; simp; omega), chk_pos (by simp only [maxLen]; omega)]
          unfold m_slices_Backward_int_int m_slices_Backward_int_int_1
          rw [w64 (by omega), back_int N p (by omega) N p.length (Nat.le_refl _) hN]
          simp only [Option.bind_some]
          rw [dig_L1_int p hf hp.1 p.length at_ _ (by omega) (by omega) (Nat.le_refl _) (by simp)]
          rfl
  · rw [if_pos (by simpa using h0), if_neg h0]

theorem dg_fit_int (p : List Int) (hf : ∀ x ∈ p, fit_int x) (hnz : ∀ x ∈ p, 1 ≤ x) : ∀ (k : Nat) (at_ : Int) (out : List Int), 0 ≤ at_ → at_ < 9223372036854775807 → k ≤ p.length → (∀ x ∈ out, fit_int x) → ∀ x ∈ dg p k at_ out, fit_int x
  | 0, _, _, _, _, _, ho => ho
  | k + 1, at_, out, h0, h9, hk, ho => by
    have hlt : k < p.length := by omega
    have hx := hnz _ (getD_mem hlt)
    have hfx := hf _ (getD_mem hlt)
    simp only [dg]
    generalize p.getD k 0 = e at hx hfx ⊢
    have h1 : 0 ≤ Int.tmod at_ e := Int.tmod_nonneg _ h0
    have h2 : Int.tmod at_ e < e := Int.tmod_lt_of_pos _ (by omega)
    have hq : Int.tdiv at_ e = at_ / e := Int.tdiv_eq_ediv_of_nonneg h0
    have hq0 : 0 ≤ at_ / e := Int.ediv_nonneg h0 (by omega)
    have hq1 : at_ / e ≤ at_ := Int.ediv_le_self _ h0
    have hm : fit_int (Int.tmod at_ e) := by
      unfold fit_int at hfx ⊢; omega
    refine dg_fit_int p hf hnz k _ _ (by rw [w64] <;> omega) (by rw [w64] <;> omega) (by omega) fun x hx => ?_
    rcases List.mem_or_eq_of_mem_set hx with h | h
    · exact ho x h
    · rw [h]; exact hm
theorem dgS_fit_int (p : List Int) (at_ : Int) (hf : ∀ x ∈ p, fit_int x) : ∀ x ∈ (dgS p at_).1, fit_int x := by
  unfold dgS
  split
  · rename_i h0
    split
    · simp
    · rename_i h1
      have hp := cnt_pos h0 (by omega)
      refine dg_fit_int p hf hp.1 p.length at_ _ (by omega) (by omega) (Nat.le_refl _) fun x hx => ?_
      rw [List.eq_of_mem_replicate hx]
      exact ⟨by decide, by decide⟩
  · simp

/-! at -/
theorem at_same_int (N : Nat) (p d : List Int) (hl : d.length = p.length) (hfp : ∀ x ∈ p, fit_int x) (hfd : ∀ x ∈ d, fit_int x) (hlen : p.length < 4611686018427387904) : ∀ (fuel k : Nat) (at_ : Int), k ≤ p.length → p.length - k < fuel →
    ∃ r, m_radix_At_int_L1 p (d.drop k) k at_ = some r ∧ m_credenceref10_At_L1 N p d fuel at_ (k : Int) = some r := by
  intro fuel
  induction fuel with
  | zero => intro k _ _ h; omega
  | succ fuel ih =>
    intro k at_ hk hfu
    rw [m_credenceref10_At_L1.eq_2]
    by_cases hlt : k < p.length
    · have hltd : k < d.length := by omega
      have hxp := hfp _ (getD_mem hlt)
      have hxd := hfd _ (getD_mem hltd)
      rw [if_pos (decide_eq_true (by omega)), at_get hltd, drop_getD hltd, m_radix_At_int_L1.eq_2]
      simp only [Option.bind_some, at_get hlt, m_radix_At_int_J1, m_credenceref10_At_J1, at_get hltd]
      have ih' := fun at_ => ih (k + 1) at_ (by omega) (by omega)
      generalize p.getD k 0 = s at hxp ⊢
      generalize d.getD k 0 = x at hxd ⊢
      by_cases h1 : x < 0
      · exact ⟨(0, 3), by simp [h1], by simp [h1]⟩
      · by_cases h2 : s ≤ x
        · exact ⟨(0, 3), by simp [h1, h2], by simp [h1, h2]⟩
        · simp only [h1, h2, decide_false, Bool.false_eq_true, if_false, wrap_up (show k < 4611686018427387904 by omega)]
          exact ih' _
    · rw [if_neg (by simp; omega), List.drop_eq_nil_of_le (by omega)]
      exact ⟨(at_, 0), rfl, rfl⟩

theorem at_int (N : Nat) (p d : List Int) (hfp : ∀ x ∈ p, fit_int x) (hfd : ∀ x ∈ d, fit_int x) (hN : p.length < N) (hlen : p.length < 4611686018427387904) :
    ∃ r, m_radix_At_int p d = some r ∧ m_credenceref10_At N p d = some r := by
  unfold m_radix_At_int m_credenceref10_At
  rw [cnt_int p hfp, ref_count N p hN hlen]
  simp only [Option.bind_some]
  by_cases h0 : (cntS p).2 = 0
  · have e0 : (!decide ((cntS p).2 = 0)) = false := by simp [h0]
    simp only [e0, Bool.false_eq_true, if_false]
    by_cases h1 : d.length = p.length
    · have e : (!decide ((d.length : Int) = (p.length : Int))) = false := by simp [h1]
      simp only [e, Bool.false_eq_true, if_false]
      have := at_same_int N p d h1 hfp hfd hlen N 0 0 (by omega) (by omega)
      simpa using this
    · have h2 : ¬ ((d.length : Int) = (p.length : Int)) := by omega
      have e : (!decide ((d.length : Int) = (p.length : Int))) = true := by simp [h2]
      simp only [e, if_true]
      exact ⟨_, rfl, rfl⟩
  · have e0 : (!decide ((cntS p).2 = 0)) = true := by simp [h0]
    simp only [e0, if_true]
    exact ⟨_, rfl, rfl⟩

/-! the statements' own helpers -/
theorem roomy_int (N : Nat) (l : List Int) (hN : 6 ≤ N) (hlen : l.length ≤ 17592186043904) : m_credencelaw10_roomy_int N l = some (l.length, l ++ [77, 77, 77, 77, 77]) := by
  obtain ⟨n, rfl⟩ : ∃ n, N = n + 6 := ⟨N - 6, by omega⟩
  unfold m_credencelaw10_roomy_int
  rw [chk_pos (by simp only [List.length_nil, maxLen]; omega)]
  have s : ∀ (f : Nat) (m : List Int) (i j : Int), i < 5 → IntKind.i64.wrap (i + 1) = j → m.length ≤ 17592186043910 → m_credencelaw10_roomy_int_L1 (n + 6) l (f + 1) m i = m_credencelaw10_roomy_int_L1 (n + 6) l f (m ++ [77]) j := by
    intro f m i j h1 h2 h3
    rw [m_credencelaw10_roomy_int_L1.eq_2, if_pos (decide_eq_true h1), chk_pos (by simp only [List.length_cons, List.length_nil, maxLen]; omega), h2]
  rw [List.nil_append, s (n + 5) _ 0 1 (by omega) (by decide) (by omega), s (n + 4) _ 1 2 (by omega) (by decide) (by simp; omega), s (n + 3) _ 2 3 (by omega) (by decide) (by simp; omega), s (n + 2) _ 3 4 (by omega) (by decide) (by simp; omega),
    s (n + 1) _ 4 5 (by omega) (by decide) (by simp; omega), m_credencelaw10_roomy_int_L1.eq_2, if_neg (by decide), chk_pos (by simp; omega)]
  simp

theorem plain_int_L1 (N : Nat) (l : List Int) (hf : ∀ x ∈ l, fit_int x) (hlen : l.length ≤ 17592186044416) : ∀ (fuel k : Nat), k ≤ l.length → l.length - k < fuel → m_credencelaw10_plain_int_L1 N l fuel (l.take k) (k : Int) = some l := by
  intro fuel
  induction fuel with
  | zero => intro k _ h; omega
  | succ fuel ih =>
    intro k hk hfu
    rw [m_credencelaw10_plain_int_L1.eq_2]
    by_cases hlt : k < l.length
    · have hx := hf _ (getD_mem hlt)
      rw [if_pos (decide_eq_true (by omega)), at_get hlt]
      simp only [Option.bind_some]
      rw [chk_pos (by simp only [List.length_take, List.length_cons, List.length_nil, maxLen]; omega), wrap_up (by omega)]
      have ht : l.take k ++ [l.getD k 0] = l.take (k + 1) := by
        rw [List.take_add_one]; simp [hlt]
      rw [ht]; exact ih (k + 1) (by omega) (by omega)
    · rw [if_neg (by simp; omega), List.take_of_length_le (by omega)]
theorem plain_int (N : Nat) (l : List Int) (hf : ∀ x ∈ l, fit_int x) (hN : l.length < N) (hlen : l.length ≤ 17592186044416) : m_credencelaw10_plain_int N l = some l := by
  have := plain_int_L1 N l hf hlen N 0 (by omega) (by omega)
  unfold m_credencelaw10_plain_int
  simpa using this

theorem same_int_L1 (N : Nat) (l : List Int) (hf : ∀ x ∈ l, fit_int x) (hlen : l.length < 4611686018427387904) : ∀ (fuel k : Nat), k ≤ l.length → l.length - k < fuel → m_credencelaw10_same_int_L1 N l l fuel (k : Int) = some true := by
  intro fuel
  induction fuel with
  | zero => intro k _ h; omega
  | succ fuel ih =>
    intro k hk hfu
    rw [m_credencelaw10_same_int_L1.eq_2]
    by_cases hlt : k < l.length
    · have hx := hf _ (getD_mem hlt)
      rw [if_pos (decide_eq_true (by omega)), at_get hlt]
      simp only [Option.bind_some]
      rw [if_neg (by simp), wrap_up (by omega)]
      exact ih (k + 1) (by omega) (by omega)
    · rw [if_neg (by simp; omega)]
theorem same_int (N : Nat) (l : List Int) (hf : ∀ x ∈ l, fit_int x) (hN : l.length < N) (hlen : l.length < 4611686018427387904) : m_credencelaw10_same_int N l l = some true := by
  unfold m_credencelaw10_same_int
  rw [if_neg (by simp)]
  exact same_int_L1 N l hf hlen N 0 (by omega) (by omega)

theorem kept_int_L1 (N n0 : Nat) (l : List Int) (hn : n0 = l.length) (hlen : l.length ≤ 17592186044416) : ∀ (fuel k : Nat), k ≤ l.length + 5 → l.length + 5 - k < fuel → m_credencelaw10_kept_int_L1 N n0 (l ++ [77, 77, 77, 77, 77]) l fuel (k : Int) = some true := by
  intro fuel
  induction fuel with
  | zero => intro k _ h; omega
  | succ fuel ih =>
    intro k hk hfu
    rw [m_credencelaw10_kept_int_L1.eq_2]
    have hw : IntKind.i64.wrap ((l.length : Int) + 5) = ((l.length + 5 : Nat) : Int) := by rw [w64 (by omega)]; omega
    have hL : (l ++ [77, 77, 77, 77, 77]).take (Int.toNat (IntKind.i64.wrap ((l.length : Int) + 5))) = l ++ [77, 77, 77, 77, 77] := by
      rw [hw, Int.toNat_natCast, List.take_of_length_le (by simp)]
    rw [hL]
    have hlen5 : (l ++ [77, 77, 77, 77, 77] : List Int).length = l.length + 5 := by simp
    by_cases h5 : k < l.length + 5
    · rw [if_pos (decide_eq_true (by rw [hlen5]; omega))]
      rw [at_get (by rw [hlen5]; exact h5)]
      simp only [m_credencelaw10_kept_int_J2, m_credencelaw10_kept_int_J1, Option.bind_some, wrap_up (show k < 4611686018427387904 by omega), ih (k + 1) (by omega) (by omega)]
      by_cases hlt : k < l.length
      · have hg : (l ++ [77, 77, 77, 77, 77]).getD k 0 = l.getD k 0 := by
          rw [List.getD_eq_getElem?_getD, List.getD_eq_getElem?_getD, List.getElem?_append_left hlt]
        have h6 : ¬ ((l.length : Int) ≤ (k : Int)) := by omega
        rw [if_pos (decide_eq_true (by omega)), at_get hlt, hg]
        simp [h6]
      · have hg : (l ++ [77, 77, 77, 77, 77]).getD k 0 = 77 := by
          rw [List.getD_eq_getElem?_getD, List.getElem?_append_right (by omega)]
          have : k - l.length < 5 := by omega
          generalize k - l.length = j at this
          match j, this with
          | 0, _ => rfl
          | 1, _ => rfl
          | 2, _ => rfl
          | 3, _ => rfl
          | 4, _ => rfl
        have h6 : ((l.length : Int) ≤ (k : Int)) := by omega
        rw [if_neg (by simp; omega), hg]
        simp [h6]
    · rw [if_neg (by rw [hlen5]; simp; omega)]
      simp [hn]
theorem kept_int (N : Nat) (l : List Int) (hN : l.length + 5 < N) (hlen : l.length ≤ 17592186044416) : m_credencelaw10_kept_int N l.length (l ++ [77, 77, 77, 77, 77]) l = some true := by
  unfold m_credencelaw10_kept_int
  rw [chk_pos (by rw [w64 (by omega)]; simp; omega)]
  exact kept_int_L1 N l.length l rfl hlen N 0 (by omega) (by omega)


/-- How many there are. -/
def prd : List Int → Int
  | [] => 1
  | x :: l => x * prd l
/-- Digits, the last one first. -/
def digR : List Int → Int → List Int
  | [], _ => []
  | s :: r, a => (a % s) :: digR r (a / s)
/-- The place, from a place so far. -/
def pl : List Int → List Int → Int → Int
  | s :: p, x :: d, a => pl p d (a * s + x)
  | _, _, a => a

theorem prd_pos : ∀ {l : List Int}, (∀ x ∈ l, 1 ≤ x) → 1 ≤ prd l
  | [], _ => by decide
  | x :: l, h => by
    have h1 := h x (by simp)
    have h2 := prd_pos (l := l) fun y hy => h y (by simp [hy])
    have := Int.mul_le_mul h1 h2 (by omega) (by omega)
    simp only [prd]; omega
theorem prd_append (l m : List Int) : prd (l ++ m) = prd l * prd m := by
  induction l with
  | nil => simp [prd]
  | cons x l ih => simp only [List.cons_append, prd, ih, Int.mul_assoc]
theorem prd_reverse (l : List Int) : prd l.reverse = prd l := by
  induction l with
  | nil => rfl
  | cons x l ih => rw [List.reverse_cons, prd_append, ih]; simp only [prd, Int.mul_one]; exact Int.mul_comm _ _

theorem goC_prd : ∀ (l : List Int) (n : Int), (∀ x ∈ l, 1 ≤ x) → 1 ≤ n → n * prd l ≤ 2147483647 → goC l n = (n * prd l, 0)
  | [], n, _, _, _ => by simp [goC, prd]
  | x :: l, n, hp, hn, h => by
    have hx := hp x (by simp)
    have hl := prd_pos (l := l) fun y hy => hp y (by simp [hy])
    simp only [prd] at h ⊢
    rw [← Int.mul_assoc] at h ⊢
    have h1 : 1 * 1 ≤ n * x := Int.mul_le_mul hn hx (by omega) (by omega)
    have h2 : (n * x) * 1 ≤ (n * x) * prd l := Int.mul_le_mul_of_nonneg_left hl (by omega)
    rw [goC, if_neg (by omega), goC_prd l (n * x) (fun y hy => hp y (by simp [hy])) (by omega) h]
theorem cntS_prd {l : List Int} (hp : ∀ x ∈ l, 1 ≤ x) (h : prd l ≤ 2147483647) : cntS l = (prd l, 0) := by
  unfold cntS
  have a : anyNeg l = false := List.any_eq_false.2 fun x hx => by have := hp x hx; simp; omega
  have b : anyZero l = false := List.any_eq_false.2 fun x hx => by have := hp x hx; simp; omega
  rw [a, b]
  simp only [Bool.false_eq_true, if_false]
  rw [goC_prd l 1 hp (by omega) (by omega), Int.one_mul]

theorem digR_length : ∀ (r : List Int) (a : Int), (digR r a).length = r.length
  | [], _ => rfl
  | s :: r, a => by simp [digR, digR_length r]

theorem dg_digR (xs : List Int) (hp : ∀ x ∈ xs, 1 ≤ x) : ∀ (k : Nat) (a : Int) (out : List Int), 0 ≤ a → a < 9223372036854775807 → k ≤ xs.length → out.length = xs.length →
    dg xs k a out = (digR (xs.take k).reverse a).reverse ++ out.drop k
  | 0, a, out, _, _, _, _ => by simp [dg, digR]
  | k + 1, a, out, h0, h9, hk, ho => by
    have hlt : k < xs.length := by omega
    have hx := hp _ (getD_mem hlt)
    have ht : xs.take (k + 1) = xs.take k ++ [xs.getD k 0] := by rw [List.take_add_one]; simp [hlt]
    rw [dg, ht, List.reverse_append]
    simp only [List.reverse_cons, List.reverse_nil, List.nil_append, List.cons_append, digR]
    generalize xs.getD k 0 = s at hx ⊢
    have hq : Int.tdiv a s = a / s := Int.tdiv_eq_ediv_of_nonneg h0
    have hm : Int.tmod a s = a % s := Int.tmod_eq_emod_of_nonneg h0
    have hq0 : 0 ≤ a / s := Int.ediv_nonneg h0 (by omega)
    have hq1 : a / s ≤ a := Int.ediv_le_self _ h0
    rw [hq, hm, w64 (by omega), dg_digR xs hp k _ _ hq0 (by omega) (by omega) (by simpa using ho)]
    rw [List.append_assoc]
    congr 1
    have hko : k < out.length := by omega
    rw [List.drop_eq_getElem_cons (by simpa using hko), List.drop_set_of_lt (by omega)]
    simp

/-- A place's digits, in order. -/
theorem dgS_digR {p : List Int} {a : Int} (hp : ∀ x ∈ p, 1 ≤ x) (h : prd p ≤ 2147483647) (h0 : 0 ≤ a) (h1 : a < prd p) : dgS p a = ((digR p.reverse a).reverse, 0) := by
  unfold dgS
  rw [cntS_prd hp h, if_pos rfl, if_neg (by simp only; omega), dg_digR p hp p.length a _ h0 (by omega) (Nat.le_refl _) (by simp)]
  simp
theorem dgS_over {p : List Int} {a : Int} (hp : ∀ x ∈ p, 1 ≤ x) (h : prd p ≤ 2147483647) (h1 : prd p ≤ a) : dgS p a = ([], 3) := by
  unfold dgS
  rw [cntS_prd hp h, if_pos rfl, if_pos (.inr h1)]

theorem digR_range : ∀ (r : List Int) (a : Int), (∀ x ∈ r, 1 ≤ x) → ∀ (i : Nat) (s x : Int), r[i]? = some s → (digR r a)[i]? = some x → 0 ≤ x ∧ x < s
  | [], _, _, i, _, _, h, _ => by simp at h
  | s :: r, a, hp, 0, s', x, h, hx => by
    simp only [List.getElem?_cons_zero, Option.some.injEq, digR] at h hx
    subst h hx
    have := hp s (by simp)
    exact ⟨Int.emod_nonneg _ (by omega), Int.emod_lt_of_pos _ (by omega)⟩
  | s :: r, a, hp, i + 1, s', x, h, hx => by
    simp only [List.getElem?_cons_succ, digR] at h hx
    exact digR_range r _ (fun y hy => hp y (by simp [hy])) i s' x h hx

theorem pl_append : ∀ (p d : List Int) (q e : List Int) (a : Int), p.length = d.length → pl (p ++ q) (d ++ e) a = pl q e (pl p d a)
  | [], [], q, e, a, _ => rfl
  | s :: p, x :: d, q, e, a, h => by simp only [List.cons_append, pl]; exact pl_append p d q e _ (by simpa using h)

/-- The digits' place is the place. -/
theorem pl_digR : ∀ (r : List Int) (a : Int), (∀ x ∈ r, 1 ≤ x) → 0 ≤ a → a < prd r → pl r.reverse (digR r a).reverse 0 = a
  | [], a, _, h0, h1 => by simp only [prd] at h1; simp only [List.reverse_nil, pl, digR]; omega
  | s :: r, a, hp, h0, h1 => by
    have hs := hp s (by simp)
    have hq0 : 0 ≤ a / s := Int.ediv_nonneg h0 (by omega)
    have hq1 : a / s < prd r := by
      rw [Int.ediv_lt_iff_lt_mul (by omega), Int.mul_comm]; exact h1
    simp only [List.reverse_cons, digR]
    rw [pl_append _ _ _ _ _ (by simp [digR_length]), pl_digR r (a / s) (fun y hy => hp y (by simp [hy])) hq0 hq1]
    simp only [pl]
    have := Int.mul_ediv_add_emod a s
    rw [Int.mul_comm]; exact this
theorem pl_shift : ∀ (p d : List Int) (a : Int), p.length = d.length → pl p d a = a * prd p + pl p d 0
  | [], [], a, _ => by simp [pl, prd]
  | s :: p, x :: d, a, h => by
    simp only [pl, prd]
    rw [pl_shift p d (a * s + x) (by simpa using h), pl_shift p d (0 * s + x) (by simpa using h)]
    simp only [Int.zero_mul, Int.zero_add, Int.add_mul, Int.mul_assoc]; omega

/-- Digits that are as they should be have their place: what the program reckons. -/
theorem at_pl (p d : List Int) (hl : d.length = p.length) (hpb : ∀ x ∈ p, 1 ≤ x) : ∀ (j k : Nat) (a : Int), j = p.length - k → k ≤ p.length → (∀ i, k ≤ i → i < p.length → 0 ≤ d.getD i 0 ∧ d.getD i 0 < p.getD i 0) → 0 ≤ a → (a + 1) * prd (p.drop k) ≤ 2147483647 →
    m_radix_At_int_L1 p (d.drop k) k a = some (pl (p.drop k) (d.drop k) a, 0) ∧ pl (p.drop k) (d.drop k) a < (a + 1) * prd (p.drop k) := by
  intro j
  induction j with
  | zero =>
    intro k a hj hk _ h0 hb
    rw [List.drop_eq_nil_of_le (show d.length ≤ k by omega), List.drop_eq_nil_of_le (show p.length ≤ k by omega)]
    simp only [pl, prd]
    exact ⟨rfl, by omega⟩
  | succ j ih =>
    intro k a hj hk hr h0 hb
    have hlt : k < p.length := by omega
    obtain ⟨x0, x1⟩ := hr k (Nat.le_refl _) hlt
    have hs := hpb _ (getD_mem hlt)
    rw [drop_getD hlt, drop_getD (p := d) (by omega), m_radix_At_int_L1.eq_2, at_get hlt]
    rw [drop_getD hlt] at hb
    simp only [prd, m_radix_At_int_J1, at_get hlt, Option.bind_some, pl] at hb ⊢
    have ih' := fun a => ih (k + 1) a (by omega) (by omega) (fun i h1 h2 => hr i (by omega) h2)
    have hpos := prd_pos (l := p.drop (k + 1)) fun y hy => hpb y (List.mem_of_mem_drop hy)
    generalize p.getD k 0 = s at x1 hs hb ⊢
    generalize d.getD k 0 = x at x0 x1 ⊢
    rw [← Int.mul_assoc] at hb ⊢
    have ha0 : 0 ≤ a * s := Int.mul_nonneg h0 (by omega)
    have hle : (a * s + x + 1) * prd (p.drop (k + 1)) ≤ (a + 1) * s * prd (p.drop (k + 1)) := by
      refine Int.mul_le_mul_of_nonneg_right ?_ (by omega)
      rw [Int.add_mul]; omega
    have h9 : (a * s + x + 1) * 1 ≤ (a * s + x + 1) * prd (p.drop (k + 1)) := Int.mul_le_mul_of_nonneg_left hpos (by omega)
    rw [if_neg (by simpa using x0), if_neg (by simpa using x1), w64 (n := a * s) (by omega), w64 (by omega)]
    obtain ⟨q1, q2⟩ := ih' (a * s + x) (by omega) (by omega)
    exact ⟨q1, by omega⟩

theorem at_all {p d : List Int} (hp : ∀ x ∈ p, 1 ≤ x) (hf : ∀ x ∈ p, fit_int x) (h : prd p ≤ 2147483647) (hl : d.length = p.length) (hr : ∀ i, i < p.length → 0 ≤ d.getD i 0 ∧ d.getD i 0 < p.getD i 0) : m_radix_At_int p d = some (pl p d 0, 0) := by
  unfold m_radix_At_int
  rw [cnt_int p hf, cntS_prd hp h]
  have e : (!decide ((d.length : Int) = (p.length : Int))) = false := by simp [hl]
  have h3 := (at_pl p d hl hp p.length 0 0 (by omega) (by omega) (fun i _ h2 => hr i h2) (by omega) (by simpa using h)).1
  simp only [List.drop_zero] at h3
  simp only [Option.bind_some, decide_true, Bool.not_true, Bool.false_eq_true, if_false, e]
  exact h3

theorem dig_range {p : List Int} {a : Int} (hp : ∀ x ∈ p, 1 ≤ x) : ∀ i, i < p.length → 0 ≤ ((digR p.reverse a).reverse).getD i 0 ∧ ((digR p.reverse a).reverse).getD i 0 < p.getD i 0 := by
  intro i hi
  have hl : (digR p.reverse a).length = p.length := by simp [digR_length]
  have h1 : p.reverse[p.length - 1 - i]? = some (p.getD i 0) := by
    rw [List.getElem?_reverse (by omega), show p.length - 1 - (p.length - 1 - i) = i by omega]
    simp [hi]
  have h2 : (digR p.reverse a)[p.length - 1 - i]? = some (((digR p.reverse a).reverse).getD i 0) := by
    rw [List.getD_eq_getElem?_getD, List.getElem?_reverse (by omega), hl]
    rw [List.getElem?_eq_getElem (by omega)]; rfl
  exact digR_range p.reverse a (fun x hx => hp x (List.mem_reverse.1 hx)) _ _ _ h1 h2

/-! bases out of any numbers -/
theorem bases_L1 (N : Nat) (l : List Int) (hlen : l.length < 4611686018427387904) : ∀ (fuel k : Nat) (out : List Int), k ≤ l.length → l.length - k < fuel → out.length = k → k ≤ 7 → (∀ x ∈ out, 1 ≤ x ∧ x ≤ 9) →
    ∃ r, m_credencelaw10_bases_L1 N l fuel out (k : Int) = some r ∧ r.length ≤ 7 ∧ ∀ x ∈ r, 1 ≤ x ∧ x ≤ 9 := by
  intro fuel
  induction fuel with
  | zero => intro k out _ h; omega
  | succ fuel ih =>
    intro k out hk hf ho h7 hr
    rw [m_credencelaw10_bases_L1.eq_2]
    by_cases hlt : k < l.length
    · rw [if_pos (decide_eq_true (by omega))]
      by_cases h6 : k < 7
      · rw [decide_eq_true (by omega : (k : Int) < 7)]
        unfold m_credencelaw10_bases_J1
        rw [if_pos rfl, at_get hlt]
        simp only [Option.bind_some, m_credencelaw10_bases_J3, m_credencelaw10_bases_J2, wrap_up (show k < 4611686018427387904 by omega)]
        generalize l.getD k 0 = e
        have key : ∀ b : Int, 0 ≤ b → b < 9 → ∃ r, chk ((out.length + [IntKind.i64.wrap (b + 1)].length) * 8 ≤ 140737488355328 ∧ out.length + [IntKind.i64.wrap (b + 1)].length ≤ maxLen) (m_credencelaw10_bases_L1 N l fuel (out ++ [IntKind.i64.wrap (b + 1)]) ((k + 1 : Nat) : Int)) = some r ∧ r.length ≤ 7 ∧ ∀ x ∈ r, 1 ≤ x ∧ x ≤ 9 := by
          intro b b0 b9
          rw [chk_pos (by simp only [List.length_cons, List.length_nil, maxLen]; omega), w64 (by omega)]
          refine ih (k + 1) _ (by omega) (by omega) (by simp; omega) (by omega) fun x hx => ?_
          rcases List.mem_append.1 hx with h | h
          · exact hr x h
          · simp only [List.mem_singleton] at h; omega
        have m1 : Int.tmod e 9 < 9 := Int.tmod_lt_of_pos _ (by omega)
        have m2 : -9 < Int.tmod e 9 := by
          have := Int.tmod_lt_of_pos (-e) (show (0 : Int) < 9 by omega)
          rw [Int.neg_tmod] at this; omega
        by_cases hn : Int.tmod e 9 < 0
        · rw [if_pos (decide_eq_true hn), w64 (n := Int.tmod e 9 + 9) (by omega)]; exact key _ (by omega) (by omega)
        · rw [if_neg (by simpa using hn)]; exact key _ (by omega) (by omega)
      · rw [decide_eq_false (by omega : ¬ (k : Int) < 7)]
        exact ⟨out, rfl, by omega, hr⟩
    · rw [if_neg (by simp; omega)]
      exact ⟨out, rfl, by omega, hr⟩
theorem bases_ok (N : Nat) (l : List Int) (hN : l.length < N) (hlen : l.length < 4611686018427387904) : ∃ r, m_credencelaw10_bases N l = some r ∧ r.length ≤ 7 ∧ ∀ x ∈ r, 1 ≤ x ∧ x ≤ 9 :=
  bases_L1 N l hlen N 0 [] (by omega) (by omega) rfl (by omega) (by simp)
theorem prd_le : ∀ (l : List Int) (n : Nat), (∀ x ∈ l, 1 ≤ x ∧ x ≤ 9) → l.length ≤ n → prd l ≤ 9 ^ n
  | [], n, _, _ => by simp only [prd]; exact Int.pow_pos (by omega)
  | x :: l, 0, _, h => by simp at h
  | x :: l, n + 1, hp, h => by
    have h1 := hp x (by simp)
    have h2 := prd_le l n (fun y hy => hp y (by simp [hy])) (by simpa using h)
    have h3 := prd_pos (l := l) fun y hy => (hp y (by simp [hy])).1
    simp only [prd, Int.pow_succ]
    rw [Int.mul_comm (9 ^ n) 9]
    exact Int.mul_le_mul h1.2 h2 (by omega) (by omega)



def m_radix_At_int32_J1 (p0_sizes : List Int) (at_9 : Int) (k_5 : Nat) (kk_L1 : (Nat → Int → Option (Int × Int))) (x_10 : Int) (v_17 : Bool) : Option (Int × Int) :=
  if v_17 = true then (some (0, 3)) else ((at? p0_sizes (k_5 : Int)).bind fun e_18 => kk_L1 (k_5 + 1) (IntKind.i64.wrap ((IntKind.i64.wrap (at_9 * (IntKind.i64.wrap e_18))) + (IntKind.i64.wrap x_10))))

def m_radix_At_int32_L1 (p0_sizes : List Int) : List Int → Nat → Int → Option (Int × Int)
  | [], k_5, at_9 => some (at_9, 0)
  | x_10 :: l_11, k_5, at_9 => if (decide (x_10 < 0)) = true then (m_radix_At_int32_J1 p0_sizes at_9 k_5 (m_radix_At_int32_L1 p0_sizes l_11) x_10 true) else ((at? p0_sizes (k_5 : Int)).bind fun e_21 => m_radix_At_int32_J1 p0_sizes at_9 k_5 (m_radix_At_int32_L1 p0_sizes l_11) x_10 (decide (e_21 ≤ x_10)))

def m_radix_At_int32 (p0_sizes : List Int) (p1_digits : List Int) : Option (Int × Int) :=
  (m_radix_Count_int32 p0_sizes).bind fun r_1 => if (!decide (r_1.2 = 0)) = true then (some (0, r_1.2)) else (if (!decide ((p1_digits.length : Int) = (p0_sizes.length : Int))) = true then (some (0, 60)) else (m_radix_At_int32_L1 p0_sizes p1_digits 0 0))

set_option maxRecDepth 100000 in
theorem c_radix_At_int32 (col : Col) (w0 : World) (a0 : Option Addr) (cap0 : Nat) (p0_sizes : List Int) (h0 : Sl (Rep.int .i32) col w0 a0 cap0 p0_sizes) (a1 : Option Addr) (cap1 : Nat) (p1_digits : List Int) (h1 : Sl (Rep.int .i32) col w0 a1 cap1 p1_digits) (r : (Int × Int)) (hm : m_radix_At_int32 p0_sizes p1_digits = some r) :
    Calls Try.prog 44 #[(.slice a0 p0_sizes.length cap0), (.slice a1 p1_digits.length cap1)] w0 (fun e w' => e = .returned (.tuple #[.int .i64 r.1, .int .i64 r.2]) ∧ Below w0.heap.size w0 w') := by
  refine calls_of2 4 5 (m := 53) (args := [(.slice a0 p0_sizes.length cap0), (.slice a1 p1_digits.length cap1)]) Try.func44 rfl rfl rfl rfl rfl ?_
  rw [m_radix_At_int32.eq_1] at hm
  have hst := St.start col w0
  replace h0 := h0.keep (Stay.start col w0)
  replace h1 := h1.keep (Stay.start col w0)
  refine wseq ?_
  refine wregion ?_
  refine lv (v := (.int .i64 0)) rfl rfl (r_assign rfl) ?_
  refine lv (v := (.int .i64 0)) rfl rfl (r_assign rfl) ?_
  refine lnil ?_
  refine wseq ?_
  refine wseq ?_
  refine wregion ?_
  refine lv (v := (.slice a0 p0_sizes.length cap0)) rfl rfl (r_move rfl) ?_
  obtain ⟨r_1, hr_2, hm⟩ := bind_some hm
  refine lc rfl rfl (r_call1 Try.call43 rfl) (c_radix_Count_int32 (col0 col) _ a0 cap0 p0_sizes h0 r_1 hr_2) ?_
  rintro _ w_3 ⟨rfl, hg_4⟩
  refine ⟨_, rfl, ?_⟩
  have hg_4 : Grow (col0 col) w0 (col0 col) w_3 := .of_below hg_4
  replace h0 := h0.gr hg_4
  replace h1 := h1.gr hg_4
  replace hst := hst.grow hg_4
  refine lv (v := (.tuple #[(.int .i64 r_1.1), (.int .i64 r_1.2)])) rfl rfl (r_move rfl) ?_
  refine lv (v := (.int .i64 r_1.1)) rfl rfl (r_extract rfl rfl) ?_
  refine lv (v := (.int .i64 r_1.2)) rfl rfl (r_extract rfl rfl) ?_
  refine lv (v := (.int .i64 r_1.1)) rfl rfl (r_assign rfl) ?_
  refine lv (v := (.int .i64 r_1.2)) rfl rfl (r_assign rfl) ?_
  refine lnil ?_
  refine wseq ?_
  refine wregion ?_
  refine lv (v := (.int .i64 r_1.2)) rfl rfl (r_move rfl) ?_
  refine lv (v := (.bool (!decide (r_1.2 = 0)))) rfl rfl (r_neq r_1.2 0 rfl rfl) ?_
  refine lnil ?_
  refine wcond (!decide (r_1.2 = 0)) rfl (fun hb => ?_) (fun hb => ?_)
  · rw [if_pos hb] at hm
    clear hb
    refine wseq ?_
    refine wregion ?_
    refine lv (v := (.int .i64 r_1.2)) rfl rfl (r_move rfl) ?_
    refine lv (v := (.int .i64 0)) rfl rfl (r_assign rfl) ?_
    refine lv (v := (.int .i64 r_1.2)) rfl rfl (r_assign rfl) ?_
    refine lnil ?_
    refine wret ?_
    cases hm
    exact ⟨rfl, rfl, hst.below⟩
  · rw [if_neg (by rw [hb]; decide)] at hm
    clear hb
    refine wskip ?_
    refine wseq ?_
    refine wseq ?_
    refine wregion ?_
    refine lv (v := (.slice a1 p1_digits.length cap1)) rfl rfl (r_move rfl) ?_
    refine lv (v := (.int .i64 (p1_digits.length : Int))) rfl rfl (r_len Try.underlying25 rfl) ?_
    refine lv (v := (.slice a0 p0_sizes.length cap0)) rfl rfl (r_move rfl) ?_
    refine lv (v := (.int .i64 (p0_sizes.length : Int))) rfl rfl (r_len Try.underlying25 rfl) ?_
    refine lv (v := (.bool (!decide ((p1_digits.length : Int) = (p0_sizes.length : Int))))) rfl rfl (r_neq (p1_digits.length : Int) (p0_sizes.length : Int) rfl rfl) ?_
    refine lnil ?_
    refine wcond (!decide ((p1_digits.length : Int) = (p0_sizes.length : Int))) rfl (fun hb => ?_) (fun hb => ?_)
    · rw [if_pos hb] at hm
      clear hb
      refine wseq ?_
      refine wregion ?_
      refine lv (v := (.int .i64 0)) rfl rfl (r_assign rfl) ?_
      refine lv (v := (.int .i64 60)) rfl rfl (r_assign rfl) ?_
      refine lnil ?_
      refine wret ?_
      cases hm
      exact ⟨rfl, rfl, hst.below⟩
    · rw [if_neg (by rw [hb]; decide)] at hm
      clear hb
      refine wskip ?_
      refine wseq ?_
      refine wregion ?_
      refine lv (v := (.int .i64 0)) rfl rfl (r_assign rfl) ?_
      refine lnil ?_
      refine wseq ?_
      refine wseq ?_
      refine wregion ?_
      refine lv (v := (.slice a1 p1_digits.length cap1)) rfl rfl (r_move rfl) ?_
      refine lv (v := (.int .i64 (p1_digits.length : Int))) rfl rfl (r_len Try.underlying25 rfl) ?_
      refine lv (v := (.int .i64 0)) rfl rfl (r_move rfl) ?_
      refine lnil ?_
      refine wblock ?_
      refine wloop (fun n f w_7 => ∃ (col_8 : Col) (at_9 : Int) (k_5 : Nat) (l_6 : List Int), n = l_6.length ∧ p1_digits.drop k_5 = l_6 ∧ m_radix_At_int32_L1 p0_sizes l_6 k_5 at_9 = some r ∧ St w0 (col0 col) col_8 w_7 ∧ Sl (Rep.int .i32) col_8 w_7 a0 cap0 p0_sizes ∧ Sl (Rep.int .i32) col_8 w_7 a1 cap1 p1_digits ∧ f 26 = (.int .i64 (k_5 : Int)) ∧ f 0 = (.slice a0 p0_sizes.length cap0) ∧ f 1 = (.slice a1 p1_digits.length cap1) ∧ f 8 = (.int .i64 at_9) ∧ f 24 = (.slice a1 p1_digits.length cap1) ∧ f 25 = (.int .i64 (p1_digits.length : Int)) ∧ f 1000000 = (enc [])) p1_digits.length ⟨(col0 col), 0, 0, p1_digits, rfl, rfl, hm, hst, h0, h1, rfl, rfl, rfl, rfl, rfl, rfl, rfl⟩ ?_
      clear hm; intro n f w_7 hI
      obtain ⟨col_8, at_9, k_5, l_6, hn, hl, hm, hst, h0, h1, hs26, hs0, hs1, hs8, hs24, hs25, hs1000000⟩ := hI
      subst hn
      refine .ld (d := 26) (v := (.int .i64 (k_5 : Int))) hs26 ?_
      refine .ld (d := 0) (v := (.slice a0 p0_sizes.length cap0)) hs0 ?_
      refine .ld (d := 1) (v := (.slice a1 p1_digits.length cap1)) hs1 ?_
      refine .ld (d := 8) (v := (.int .i64 at_9)) hs8 ?_
      refine .ld (d := 24) (v := (.slice a1 p1_digits.length cap1)) hs24 ?_
      refine .ld (d := 25) (v := (.int .i64 (p1_digits.length : Int))) hs25 ?_
      refine .ld (d := 1000000) (v := (enc [])) hs1000000 ?_
      clear hs26 hs0 hs1 hs8 hs24 hs25 hs1000000
      cases l_6 with
      | nil =>
        have hk : ¬ ((k_5 : Int) < (p1_digits.length : Int)) := by have := List.drop_eq_nil_iff.1 hl; omega
        have hkb := decide_eq_false hk
        rw [m_radix_At_int32_L1.eq_1] at hm
        refine wseq ?_
        refine wregion ?_
        refine lv (v := (.bool (decide ((k_5 : Int) < (p1_digits.length : Int))))) rfl rfl (r_lss (k_5 : Int) (p1_digits.length : Int) rfl rfl) ?_
        refine lnil ?_
        refine wseq ?_
        refine wcondF (congrArg Value.bool hkb) ?_
        refine wexit (inB_hit ?_)
        refine wseq ?_
        refine wregion ?_
        refine lv (v := (.int .i64 at_9)) rfl rfl (r_move rfl) ?_
        refine lv (v := (.int .i64 at_9)) rfl rfl (r_assign rfl) ?_
        refine lv (v := (.int .i64 0)) rfl rfl (r_assign rfl) ?_
        refine lnil ?_
        refine wret ?_
        cases hm
        exact ⟨rfl, rfl, hst.below⟩
      | cons x_10 l_11 =>
        obtain ⟨hat, hl2, hlt⟩ := drop_get hl
        have hk : (k_5 : Int) < (p1_digits.length : Int) := by omega
        have hkb := decide_eq_true hk
        rw [m_radix_At_int32_L1.eq_2] at hm
        refine wseq ?_
        refine wregion ?_
        refine lv (v := (.bool (decide ((k_5 : Int) < (p1_digits.length : Int))))) rfl rfl (r_lss (k_5 : Int) (p1_digits.length : Int) rfl rfl) ?_
        refine lnil ?_
        refine wseq ?_
        refine wcondT (congrArg Value.bool hkb) ?_
        refine wskip ?_
        refine wseq ?_
        refine wblock ?_
        refine wseq ?_
        refine wregion ?_
        refine lv (v := (.int .i64 (k_5 : Int))) rfl rfl (r_move rfl) ?_
        refine lv (v := (sptr a1 (Int.toNat (k_5 : Int) * 1))) rfl rfl (r_idx Try.underlying25 Try.sizeOf21 rfl rfl (at?_some hat).1 (at?_some hat).2.1 (h1.addr hat)) ?_
        refine lv (v := (.int .i32 x_10)) rfl rfl (r_ld Try.isAgg21 rfl (h1.atInt hat)) ?_
        refine lv (v := (.int .i64 (k_5 : Int))) rfl rfl (r_assign rfl) ?_
        refine lv (v := (.int .i32 x_10)) rfl rfl (r_assign rfl) ?_
        refine lnil ?_
        refine wseq ?_
        refine wseq ?_
        refine Wp.cut (fun f w_15 => ∃ (col_16 : Col) (v_17 : Bool), m_radix_At_int32_J1 p0_sizes at_9 k_5 (m_radix_At_int32_L1 p0_sizes l_11) x_10 v_17 = some r ∧ St w0 (col0 col) col_16 w_15 ∧ Sl (Rep.int .i32) col_16 w_15 a0 cap0 p0_sizes ∧ Sl (Rep.int .i32) col_16 w_15 a1 cap1 p1_digits ∧ f 0 = (.slice a0 p0_sizes.length cap0) ∧ f 1 = (.slice a1 p1_digits.length cap1) ∧ f 8 = (.int .i64 at_9) ∧ f 9 = (.int .i64 (k_5 : Int)) ∧ f 10 = (.int .i32 x_10) ∧ f 24 = (.slice a1 p1_digits.length cap1) ∧ f 25 = (.int .i64 (p1_digits.length : Int)) ∧ f 26 = (.int .i64 (k_5 : Int)) ∧ f 40 = (.bool v_17) ∧ f 1000000 = (enc [])) ?_ ?_
        · intro f w_15 hJ
          obtain ⟨col_16, v_17, hm, hst, h0, h1, hs0, hs1, hs8, hs9, hs10, hs24, hs25, hs26, hs40, hs1000000⟩ := hJ
          rw [m_radix_At_int32_J1.eq_1] at hm
          refine .ld (d := 0) (v := (.slice a0 p0_sizes.length cap0)) hs0 ?_
          refine .ld (d := 1) (v := (.slice a1 p1_digits.length cap1)) hs1 ?_
          refine .ld (d := 8) (v := (.int .i64 at_9)) hs8 ?_
          refine .ld (d := 9) (v := (.int .i64 (k_5 : Int))) hs9 ?_
          refine .ld (d := 10) (v := (.int .i32 x_10)) hs10 ?_
          refine .ld (d := 24) (v := (.slice a1 p1_digits.length cap1)) hs24 ?_
          refine .ld (d := 25) (v := (.int .i64 (p1_digits.length : Int))) hs25 ?_
          refine .ld (d := 26) (v := (.int .i64 (k_5 : Int))) hs26 ?_
          refine .ld (d := 40) (v := (.bool v_17)) hs40 ?_
          refine .ld (d := 1000000) (v := (enc [])) hs1000000 ?_
          clear hs0 hs1 hs8 hs9 hs10 hs24 hs25 hs26 hs40 hs1000000
          refine wcond (v_17) rfl (fun hb => ?_) (fun hb => ?_)
          · rw [if_pos hb] at hm
            clear hb
            refine wseq ?_
            refine wregion ?_
            refine lv (v := (.int .i64 0)) rfl rfl (r_assign rfl) ?_
            refine lv (v := (.int .i64 3)) rfl rfl (r_assign rfl) ?_
            refine lnil ?_
            refine wret ?_
            cases hm
            exact ⟨rfl, rfl, hst.below⟩
          · rw [if_neg (by rw [hb]; decide)] at hm
            clear hb
            refine wskip ?_
            refine wregion ?_
            refine lv (v := (.int .i64 at_9)) rfl rfl (r_move rfl) ?_
            refine lv (v := (.slice a0 p0_sizes.length cap0)) rfl rfl (r_move rfl) ?_
            refine lv (v := (.int .i64 (k_5 : Int))) rfl rfl (r_move rfl) ?_
            obtain ⟨e_18, hj_19, hm⟩ := bind_some hm
            refine lv (v := (sptr a0 (Int.toNat (k_5 : Int) * 1))) rfl rfl (r_idx Try.underlying25 Try.sizeOf21 rfl rfl (at?_some hj_19).1 (at?_some hj_19).2.1 (h0.addr hj_19)) ?_
            refine lv (v := (.int .i32 e_18)) rfl rfl (r_ld Try.isAgg21 rfl (h0.atInt hj_19)) ?_
            refine lv (v := (.int .i64 (IntKind.i64.wrap e_18))) rfl rfl (r_conv e_18 ⟨_, Try.underlying21⟩ Try.underlying3 rfl) ?_
            refine lv (v := (.int .i64 (IntKind.i64.wrap (at_9 * (IntKind.i64.wrap e_18))))) rfl rfl (r_mul at_9 (IntKind.i64.wrap e_18) rfl rfl) ?_
            refine lv (v := (.int .i32 x_10)) rfl rfl (r_move rfl) ?_
            refine lv (v := (.int .i64 (IntKind.i64.wrap x_10))) rfl rfl (r_conv x_10 ⟨_, Try.underlying21⟩ Try.underlying3 rfl) ?_
            refine lv (v := (.int .i64 (IntKind.i64.wrap ((IntKind.i64.wrap (at_9 * (IntKind.i64.wrap e_18))) + (IntKind.i64.wrap x_10))))) rfl rfl (r_add (IntKind.i64.wrap (at_9 * (IntKind.i64.wrap e_18))) (IntKind.i64.wrap x_10) rfl rfl) ?_
            refine lv (v := (.int .i64 (IntKind.i64.wrap ((IntKind.i64.wrap (at_9 * (IntKind.i64.wrap e_18))) + (IntKind.i64.wrap x_10))))) rfl rfl (r_assign rfl) ?_
            refine lnil ?_
            refine wregion ?_
            refine lv (v := (.int .i64 (IntKind.i64.wrap ((k_5 : Int) + 1)))) rfl rfl (r_add (k_5 : Int) 1 rfl rfl) ?_
            refine lv (v := (.int .i64 (IntKind.i64.wrap ((k_5 : Int) + 1)))) rfl rfl (r_move rfl) ?_
            refine lnil ?_
            exact ⟨l_11.length, by simp, ⟨col_16, (IntKind.i64.wrap ((IntKind.i64.wrap (at_9 * (IntKind.i64.wrap e_18))) + (IntKind.i64.wrap x_10))), (k_5 + 1), l_11, rfl, hl2, hm, hst, h0, h1, (congrArg (Value.int .i64) (wrap_succ (Nat.lt_of_lt_of_le hlt h1.1.1))), rfl, rfl, rfl, rfl, rfl, rfl⟩⟩
        · refine wregion ?_
          refine lv (v := (.int .i32 x_10)) rfl rfl (r_move rfl) ?_
          refine lv (v := (.bool (decide (x_10 < 0)))) rfl rfl (r_lss x_10 0 rfl rfl) ?_
          refine lv (v := (.bool (decide (x_10 < 0)))) rfl rfl (r_move rfl) ?_
          by_cases hg_20 : (decide (x_10 < 0)) = true
          · rw [if_pos hg_20] at hm
            refine lp (b := decide (x_10 < 0)) 33 rfl rfl rfl rfl (by rw [hg_20]; rfl) ?_
            refine lp (b := decide (x_10 < 0)) 33 rfl rfl rfl rfl (by rw [hg_20]; rfl) ?_
            refine lp (b := decide (x_10 < 0)) 33 rfl rfl rfl rfl (by rw [hg_20]; rfl) ?_
            refine lp (b := decide (x_10 < 0)) 33 rfl rfl rfl rfl (by rw [hg_20]; rfl) ?_
            refine lp (b := decide (x_10 < 0)) 33 rfl rfl rfl rfl (by rw [hg_20]; rfl) ?_
            refine lp (b := decide (x_10 < 0)) 33 rfl rfl rfl rfl (by rw [hg_20]; rfl) ?_
            refine lv (v := (.bool true)) rfl rfl (r_pickT (congrArg Value.bool hg_20) rfl) ?_
            refine lnil ?_
            exact ⟨col_8, true, hm, hst, h0, h1, rfl, rfl, rfl, rfl, rfl, rfl, rfl, rfl, rfl, rfl⟩
          · rw [if_neg hg_20] at hm
            replace hg_20 := Bool.eq_false_iff.2 hg_20
            refine lg (b := decide (x_10 < 0)) 33 rfl rfl rfl (by rw [hg_20]; rfl) ?_
            refine lv (v := (.int .i32 x_10)) rfl rfl (r_move rfl) ?_
            refine lg (b := decide (x_10 < 0)) 33 rfl rfl rfl (by rw [hg_20]; rfl) ?_
            refine lv (v := (.slice a0 p0_sizes.length cap0)) rfl rfl (r_move rfl) ?_
            refine lg (b := decide (x_10 < 0)) 33 rfl rfl rfl (by rw [hg_20]; rfl) ?_
            refine lv (v := (.int .i64 (k_5 : Int))) rfl rfl (r_move rfl) ?_
            refine lg (b := decide (x_10 < 0)) 33 rfl rfl rfl (by rw [hg_20]; rfl) ?_
            obtain ⟨e_21, hj_22, hm⟩ := bind_some hm
            refine lv (v := (sptr a0 (Int.toNat (k_5 : Int) * 1))) rfl rfl (r_idx Try.underlying25 Try.sizeOf21 rfl rfl (at?_some hj_22).1 (at?_some hj_22).2.1 (h0.addr hj_22)) ?_
            refine lg (b := decide (x_10 < 0)) 33 rfl rfl rfl (by rw [hg_20]; rfl) ?_
            refine lv (v := (.int .i32 e_21)) rfl rfl (r_ld Try.isAgg21 rfl (h0.atInt hj_22)) ?_
            refine lg (b := decide (x_10 < 0)) 33 rfl rfl rfl (by rw [hg_20]; rfl) ?_
            refine lv (v := (.bool (decide (e_21 ≤ x_10)))) rfl rfl (r_geq x_10 e_21 rfl rfl) ?_
            refine lv (v := (.bool (decide (e_21 ≤ x_10)))) rfl rfl (r_pickF (congrArg Value.bool hg_20) rfl) ?_
            refine lnil ?_
            exact ⟨col_8, (decide (e_21 ≤ x_10)), hm, hst, h0, h1, rfl, rfl, rfl, rfl, rfl, rfl, rfl, rfl, rfl, rfl⟩



theorem el21_29 : ElemOk Try.prog 21 1 4 := ⟨Try.t21, _, rfl, rfl, rfl, rfl, rfl⟩

def m_credencelaw10_roomy_int32_L1 (N : Nat) (p0_l : List Int) : Nat → (List Int) → Int → Option (Nat × (List Int))
  | 0, _, _ => none
  | n_10 + 1, m_15, i_17 => if (decide (i_17 < 5)) = true then (chk ((m_15.length + [77].length) * 4 ≤ 140737488355328 ∧ m_15.length + [77].length ≤ maxLen) ((m_credencelaw10_roomy_int32_L1 N p0_l n_10) (m_15 ++ [77]) (IntKind.i64.wrap (i_17 + 1)))) else (chk (0 ≤ (p0_l.length : Int) ∧ (p0_l.length : Int) ≤ (m_15.length : Int)) (some ((Int.toNat (p0_l.length : Int)), m_15)))

def m_credencelaw10_roomy_int32 (N : Nat) (p0_l : List Int) : Option (Nat × (List Int)) :=
  chk ((([] : List Int).length + p0_l.length) * 4 ≤ 140737488355328 ∧ ([] : List Int).length + p0_l.length ≤ maxLen) (m_credencelaw10_roomy_int32_L1 N p0_l N (([] : List Int) ++ p0_l) 0)

set_option maxRecDepth 100000 in
theorem c_credencelaw10_roomy_int32 (N : Nat) (c1 : Nat) (col : Col) (w0 : World) (a0 : Option Addr) (cap0 : Nat) (p0_l : List Int) (h0 : Sl (Rep.int .i32) col w0 a0 cap0 p0_l) (r : (Nat × (List Int))) (hm : m_credencelaw10_roomy_int32 N p0_l = some r) :
    Calls Try.prog 29 #[(.slice a0 p0_l.length cap0)] w0 (fun e w' => ∃ (col' : Col) (ra1 : Option Addr) (rc1 : Nat), e = .returned (.slice ra1 (r.2.take r.1).length rc1) ∧ Grow col w0 col' w' ∧ Own (Rep.int .i32) 21 c1 col' w' ra1 rc1 r.2) := by
  refine calls_of1 2 (m := 19) (args := [(.slice a0 p0_l.length cap0)]) Try.func29 rfl rfl rfl rfl rfl ?_
  rw [m_credencelaw10_roomy_int32.eq_1] at hm
  have hst := St.start col w0
  replace h0 := h0.keep (Stay.start col w0)
  refine wseq ?_
  refine wregion ?_
  refine lv (v := (.slice none (([] : List Int).length) 0)) rfl rfl (r_assign rfl) ?_
  refine lnil ?_
  refine wseq ?_
  refine wregion ?_
  refine lv (v := (.slice none (([] : List Int).length) 0)) rfl rfl (r_assign rfl) ?_
  refine lnil ?_
  refine wseq ?_
  refine wregion ?_
  refine lv (v := (.slice none (([] : List Int).length) 0)) rfl rfl (r_move rfl) ?_
  refine lv (v := (.slice a0 p0_l.length cap0)) rfl rfl (r_move rfl) ?_
  obtain ⟨hb_1, hm⟩ := chk_some hm
  refine l_append (col := (col0 col)) (w := w0) (r := (Rep.int .i32)) (c := 2) (xs := ([] : List Int)) (ys := p0_l) Own.nil h0 rfl Try.underlying25 el21_29 rfl rfl rfl hb_1.1 hb_1.2 (by decide) ?_
  intro a_3 cap_4 w_5 col_6 hk_7 hs_8 h_9
  replace h0 := h0.kp hk_7 (by decide)
  replace hst := hst.kp hk_7 hs_8 (by decide) (by decide)
  refine lv (v := (.slice a_3 ((([] : List Int) ++ p0_l).length) cap_4)) rfl rfl (r_assign rfl) ?_
  refine lnil ?_
  refine wseq ?_
  refine wseq ?_
  refine wregion ?_
  refine lv (v := (.int .i64 0)) rfl rfl (r_assign rfl) ?_
  refine lnil ?_
  refine wblock ?_
  refine wloop (fun n f w_11 => ∃ (col_12 : Col) (a_13 : Option Addr) (cap_14 : Nat) (m_15 : List Int) (i_17 : Int) (n_10 : Nat), n_10 = n ∧ m_credencelaw10_roomy_int32_L1 N p0_l n_10 m_15 i_17 = some r ∧ St w0 (col0 col) col_12 w_11 ∧ Sl (Rep.int .i32) col_12 w_11 a0 cap0 p0_l ∧ Own (Rep.int .i32) 21 2 col_12 w_11 a_13 cap_14 m_15 ∧ f 0 = (.slice a0 p0_l.length cap0) ∧ f 3 = (.slice a_13 m_15.length cap_14) ∧ f 4 = (.int .i64 i_17) ∧ f 1000000 = (enc [])) N ⟨col_6, a_3, cap_4, (([] : List Int) ++ p0_l), 0, N, rfl, hm, hst, h0, h_9, rfl, rfl, rfl, rfl⟩ ?_
  clear hm; intro n f w_11 hI
  obtain ⟨col_12, a_13, cap_14, m_15, i_17, n_10, hn, hm, hst, h0, h_16, hs0, hs3, hs4, hs1000000⟩ := hI
  subst hn
  refine .ld (d := 0) (v := (.slice a0 p0_l.length cap0)) hs0 ?_
  refine .ld (d := 3) (v := (.slice a_13 m_15.length cap_14)) hs3 ?_
  refine .ld (d := 4) (v := (.int .i64 i_17)) hs4 ?_
  refine .ld (d := 1000000) (v := (enc [])) hs1000000 ?_
  clear hs0 hs3 hs4 hs1000000
  cases n_10 with
  | zero => rw [m_credencelaw10_roomy_int32_L1.eq_1] at hm; cases hm
  | succ n_10 =>
    rw [m_credencelaw10_roomy_int32_L1.eq_2] at hm
    refine wseq ?_
    refine wseq ?_
    refine wregion ?_
    refine lv (v := (.int .i64 i_17)) rfl rfl (r_move rfl) ?_
    refine lv (v := (.bool (decide (i_17 < 5)))) rfl rfl (r_lss i_17 5 rfl rfl) ?_
    refine lnil ?_
    refine wcond (decide (i_17 < 5)) rfl (fun hb => ?_) (fun hb => ?_)
    · rw [if_pos hb] at hm
      clear hb
      refine wskip ?_
      refine wseq ?_
      refine wblock ?_
      refine wregion ?_
      refine lv (v := (.slice a_13 m_15.length cap_14)) rfl rfl (r_move rfl) ?_
      refine l_lit (col := col_12) (r := (Rep.int .i32)) (xs := [77]) [(.int .i32 77)] 3 rfl Try.underlying25 el21_29 rfl rfl rfl rfl rfl rfl (by intro v hv; simp only [List.mem_cons, List.not_mem_nil, or_false] at hv; subst hv; rfl) ⟨_, _, rfl, rfl, rfl⟩ ?_
      intro a_18 w_19 col_20 hg_21 h_22
      replace h0 := h0.gr hg_21
      replace h_16 := h_16.gr hg_21
      replace hst := hst.grow hg_21
      replace h0 := h0.froz 3
      replace h_16 := h_16.froz 3 (by decide)
      replace hst := hst.froz 3 (by decide) (by decide)
      replace h_22 := h_22.toSl
      obtain ⟨hb_23, hm⟩ := chk_some hm
      refine l_append (col := (froz 3 col_20)) (w := w_19) (r := (Rep.int .i32)) (c := 2) (xs := m_15) (ys := [77]) h_16 h_22 rfl Try.underlying25 el21_29 rfl rfl rfl hb_23.1 hb_23.2 (by decide) ?_
      intro a_25 cap_26 w_27 col_28 hk_29 hs_30 h_31
      replace h0 := h0.kp hk_29 (by decide)
      replace h_22 := h_22.kp hk_29 (by decide)
      replace hst := hst.kp hk_29 hs_30 (by decide) (by decide)
      clear h_16
      refine lv (v := (.slice a_25 ((m_15 ++ [77]).length) cap_26)) rfl rfl (r_assign rfl) ?_
      refine lnil ?_
      refine wregion ?_
      refine lv (v := (.int .i64 i_17)) rfl rfl (r_move rfl) ?_
      refine lv (v := (.int .i64 (IntKind.i64.wrap (i_17 + 1)))) rfl rfl (r_add i_17 1 rfl rfl) ?_
      refine lv (v := (.int .i64 (IntKind.i64.wrap (i_17 + 1)))) rfl rfl (r_assign rfl) ?_
      refine lnil ?_
      exact ⟨n_10, by omega, ⟨col_28, a_25, cap_26, (m_15 ++ [77]), (IntKind.i64.wrap (i_17 + 1)), n_10, rfl, hm, hst, h0, h_31, rfl, rfl, rfl, rfl⟩⟩
    · rw [if_neg (by rw [hb]; decide)] at hm
      clear hb
      refine wexit (inB_hit ?_)
      refine wseq ?_
      refine wregion ?_
      refine lv (v := (.slice a_13 m_15.length cap_14)) rfl rfl (r_move rfl) ?_
      refine lv (v := (.slice a0 p0_l.length cap0)) rfl rfl (r_move rfl) ?_
      refine lv (v := (.int .i64 (p0_l.length : Int))) rfl rfl (r_len Try.underlying25 rfl) ?_
      obtain ⟨hb_32, hm⟩ := chk_some hm
      refine lv (v := .slice a_13 (Int.toNat (p0_l.length : Int)) cap_14) rfl rfl (r_sliceH Try.underlying25 Try.sizeOf21 rfl rfl hb_32.1 (by have := h_16.lecap; have := hb_32.2; omega)) ?_
      refine .ld (d := 18) (v := (.slice a_13 ((m_15.take (Int.toNat (p0_l.length : Int))).length) cap_14)) (congrArg (fun n => Value.slice a_13 n cap_14) (show (Int.toNat (p0_l.length : Int)) = (m_15.take (Int.toNat (p0_l.length : Int))).length by rw [List.length_take]; have := hb_32.2; omega)) ?_
      refine lv (v := (.slice a_13 ((m_15.take (Int.toNat (p0_l.length : Int))).length) cap_14)) rfl rfl (r_assign rfl) ?_
      refine lnil ?_
      refine wret ?_
      cases hm
      exact ⟨rfl, colF w0.heap.size col col_12 (fun n => bif Nat.beq n 2 then c1 else 0), a_13, cap_14, rfl, hst.fin (fun n => bif Nat.beq n 2 then c1 else 0), hst.finOwn (g := (fun n => bif Nat.beq n 2 then c1 else 0)) rfl h_16 (by decide) (by decide) rfl⟩




def m_credencelaw10_kept_int32_J1 (i_5 : Int) (kk_L1 : (Int → Option Bool)) : Option Bool :=
  kk_L1 (IntKind.i64.wrap (i_5 + 1))

def m_credencelaw10_kept_int32_J2 (i_5 : Int) (kk_L1 : (Int → Option Bool)) (v_25 : Bool) : Option Bool :=
  if v_25 = true then (some false) else (m_credencelaw10_kept_int32_J1 i_5 kk_L1)

def m_credencelaw10_kept_int32_L1 (N : Nat) (n0 : Nat) (p0_m : List Int) (p1_l : List Int) : Nat → Int → Option Bool
  | 0, _ => none
  | n_2 + 1, i_5 => if (decide (i_5 < ((p0_m.take (Int.toNat (IntKind.i64.wrap ((p1_l.length : Int) + 5)))).length : Int))) = true then (if (decide (i_5 < (p1_l.length : Int))) = true then ((at? (p0_m.take (Int.toNat (IntKind.i64.wrap ((p1_l.length : Int) + 5)))) i_5).bind fun e_27 => (at? p1_l i_5).bind fun e_29 => if (!decide (e_27 = e_29)) = true then (m_credencelaw10_kept_int32_J2 i_5 (m_credencelaw10_kept_int32_L1 N n0 p0_m p1_l n_2) true) else (if (decide ((p1_l.length : Int) ≤ i_5)) = true then (m_credencelaw10_kept_int32_J2 i_5 (m_credencelaw10_kept_int32_L1 N n0 p0_m p1_l n_2) (!decide (e_27 = 77))) else (m_credencelaw10_kept_int32_J2 i_5 (m_credencelaw10_kept_int32_L1 N n0 p0_m p1_l n_2) false))) else (if (decide ((p1_l.length : Int) ≤ i_5)) = true then ((at? (p0_m.take (Int.toNat (IntKind.i64.wrap ((p1_l.length : Int) + 5)))) i_5).bind fun e_37 => m_credencelaw10_kept_int32_J2 i_5 (m_credencelaw10_kept_int32_L1 N n0 p0_m p1_l n_2) (!decide (e_37 = 77))) else (m_credencelaw10_kept_int32_J2 i_5 (m_credencelaw10_kept_int32_L1 N n0 p0_m p1_l n_2) false))) else (some (decide (((p0_m.take n0).length : Int) = (p1_l.length : Int))))

def m_credencelaw10_kept_int32 (N : Nat) (n0 : Nat) (p0_m : List Int) (p1_l : List Int) : Option Bool :=
  chk (0 ≤ (IntKind.i64.wrap ((p1_l.length : Int) + 5)) ∧ (IntKind.i64.wrap ((p1_l.length : Int) + 5)) ≤ (p0_m.length : Int)) (m_credencelaw10_kept_int32_L1 N n0 p0_m p1_l N 0)

set_option maxRecDepth 100000 in
theorem c_credencelaw10_kept_int32 (N : Nat) (col : Col) (w0 : World) (a0 : Option Addr) (cap0 : Nat) (n0 : Nat) (p0_m : List Int) (h0 : Sl (Rep.int .i32) col w0 a0 cap0 p0_m) (a1 : Option Addr) (cap1 : Nat) (p1_l : List Int) (h1 : Sl (Rep.int .i32) col w0 a1 cap1 p1_l) (r : Bool) (hm : m_credencelaw10_kept_int32 N n0 p0_m p1_l = some r) :
    Calls Try.prog 32 #[(.slice a0 ((p0_m.take n0).length) cap0), (.slice a1 p1_l.length cap1)] w0 (fun e w' => e = .returned (.bool r) ∧ Below w0.heap.size w0 w') := by
  refine calls_of1 4 (m := 51) (args := [(.slice a0 ((p0_m.take n0).length) cap0), (.slice a1 p1_l.length cap1)]) Try.func32 rfl rfl rfl rfl rfl ?_
  rw [m_credencelaw10_kept_int32.eq_1] at hm
  have hst := St.start col w0
  replace h0 := h0.keep (Stay.start col w0)
  replace h1 := h1.keep (Stay.start col w0)
  refine wseq ?_
  refine wregion ?_
  refine lv (v := (.bool false)) rfl rfl (r_assign rfl) ?_
  refine lnil ?_
  refine wseq ?_
  refine wregion ?_
  refine lv (v := (.slice a0 ((p0_m.take n0).length) cap0)) rfl rfl (r_move rfl) ?_
  refine lv (v := (.slice a1 p1_l.length cap1)) rfl rfl (r_move rfl) ?_
  refine lv (v := (.int .i64 (p1_l.length : Int))) rfl rfl (r_len Try.underlying25 rfl) ?_
  refine lv (v := (.int .i64 (IntKind.i64.wrap ((p1_l.length : Int) + 5)))) rfl rfl (r_add (p1_l.length : Int) 5 rfl rfl) ?_
  obtain ⟨hb_1, hm⟩ := chk_some hm
  refine lv (v := .slice a0 (Int.toNat (IntKind.i64.wrap ((p1_l.length : Int) + 5))) cap0) rfl rfl (r_sliceH Try.underlying25 Try.sizeOf21 rfl rfl hb_1.1 (by have := h0.1.2; have := hb_1.2; omega)) ?_
  refine .ld (d := 11) (v := (.slice a0 ((p0_m.take (Int.toNat (IntKind.i64.wrap ((p1_l.length : Int) + 5)))).length) cap0)) (congrArg (fun n => Value.slice a0 n cap0) (show (Int.toNat (IntKind.i64.wrap ((p1_l.length : Int) + 5))) = (p0_m.take (Int.toNat (IntKind.i64.wrap ((p1_l.length : Int) + 5)))).length by rw [List.length_take]; have := hb_1.2; omega)) ?_
  refine lv (v := (.slice a0 ((p0_m.take (Int.toNat (IntKind.i64.wrap ((p1_l.length : Int) + 5)))).length) cap0)) rfl rfl (r_assign rfl) ?_
  refine lnil ?_
  refine wseq ?_
  refine wseq ?_
  refine wregion ?_
  refine lv (v := (.int .i64 0)) rfl rfl (r_assign rfl) ?_
  refine lnil ?_
  refine wblock ?_
  refine wloop (fun n f w_3 => ∃ (col_4 : Col) (i_5 : Int) (n_2 : Nat), n_2 = n ∧ m_credencelaw10_kept_int32_L1 N n0 p0_m p1_l n_2 i_5 = some r ∧ St w0 (col0 col) col_4 w_3 ∧ Sl (Rep.int .i32) col_4 w_3 a0 cap0 p0_m ∧ Sl (Rep.int .i32) col_4 w_3 a1 cap1 p1_l ∧ f 0 = (.slice a0 ((p0_m.take n0).length) cap0) ∧ f 1 = (.slice a1 p1_l.length cap1) ∧ f 5 = (.slice a0 ((p0_m.take (Int.toNat (IntKind.i64.wrap ((p1_l.length : Int) + 5)))).length) cap0) ∧ f 6 = (.int .i64 i_5) ∧ f 1000000 = (enc [])) N ⟨(col0 col), 0, N, rfl, hm, hst, h0, h1, rfl, rfl, rfl, rfl, rfl⟩ ?_
  clear hm; intro n f w_3 hI
  obtain ⟨col_4, i_5, n_2, hn, hm, hst, h0, h1, hs0, hs1, hs5, hs6, hs1000000⟩ := hI
  subst hn
  refine .ld (d := 0) (v := (.slice a0 ((p0_m.take n0).length) cap0)) hs0 ?_
  refine .ld (d := 1) (v := (.slice a1 p1_l.length cap1)) hs1 ?_
  refine .ld (d := 5) (v := (.slice a0 ((p0_m.take (Int.toNat (IntKind.i64.wrap ((p1_l.length : Int) + 5)))).length) cap0)) hs5 ?_
  refine .ld (d := 6) (v := (.int .i64 i_5)) hs6 ?_
  refine .ld (d := 1000000) (v := (enc [])) hs1000000 ?_
  clear hs0 hs1 hs5 hs6 hs1000000
  cases n_2 with
  | zero => rw [m_credencelaw10_kept_int32_L1.eq_1] at hm; cases hm
  | succ n_2 =>
    rw [m_credencelaw10_kept_int32_L1.eq_2] at hm
    refine wseq ?_
    refine wseq ?_
    refine wregion ?_
    refine lv (v := (.int .i64 i_5)) rfl rfl (r_move rfl) ?_
    refine lv (v := (.slice a0 ((p0_m.take (Int.toNat (IntKind.i64.wrap ((p1_l.length : Int) + 5)))).length) cap0)) rfl rfl (r_move rfl) ?_
    refine lv (v := (.int .i64 ((p0_m.take (Int.toNat (IntKind.i64.wrap ((p1_l.length : Int) + 5)))).length : Int))) rfl rfl (r_len Try.underlying25 rfl) ?_
    refine lv (v := (.bool (decide (i_5 < ((p0_m.take (Int.toNat (IntKind.i64.wrap ((p1_l.length : Int) + 5)))).length : Int))))) rfl rfl (r_lss i_5 ((p0_m.take (Int.toNat (IntKind.i64.wrap ((p1_l.length : Int) + 5)))).length : Int) rfl rfl) ?_
    refine lnil ?_
    refine wcond (decide (i_5 < ((p0_m.take (Int.toNat (IntKind.i64.wrap ((p1_l.length : Int) + 5)))).length : Int))) rfl (fun hb => ?_) (fun hb => ?_)
    · rw [if_pos hb] at hm
      clear hb
      refine wskip ?_
      refine wseq ?_
      refine Wp.cut (fun f w_6 => ∃ (col_7 : Col), m_credencelaw10_kept_int32_J1 i_5 (m_credencelaw10_kept_int32_L1 N n0 p0_m p1_l n_2)  = some r ∧ St w0 (col0 col) col_7 w_6 ∧ Sl (Rep.int .i32) col_7 w_6 a0 cap0 p0_m ∧ Sl (Rep.int .i32) col_7 w_6 a1 cap1 p1_l ∧ f 0 = (.slice a0 ((p0_m.take n0).length) cap0) ∧ f 1 = (.slice a1 p1_l.length cap1) ∧ f 5 = (.slice a0 ((p0_m.take (Int.toNat (IntKind.i64.wrap ((p1_l.length : Int) + 5)))).length) cap0) ∧ f 6 = (.int .i64 i_5) ∧ f 1000000 = (enc [])) ?_ ?_
      · intro f w_6 hJ
        obtain ⟨col_7, hm, hst, h0, h1, hs0, hs1, hs5, hs6, hs1000000⟩ := hJ
        rw [m_credencelaw10_kept_int32_J1.eq_1] at hm
        refine .ld (d := 0) (v := (.slice a0 ((p0_m.take n0).length) cap0)) hs0 ?_
        refine .ld (d := 1) (v := (.slice a1 p1_l.length cap1)) hs1 ?_
        refine .ld (d := 5) (v := (.slice a0 ((p0_m.take (Int.toNat (IntKind.i64.wrap ((p1_l.length : Int) + 5)))).length) cap0)) hs5 ?_
        refine .ld (d := 6) (v := (.int .i64 i_5)) hs6 ?_
        refine .ld (d := 1000000) (v := (enc [])) hs1000000 ?_
        clear hs0 hs1 hs5 hs6 hs1000000
        refine wregion ?_
        refine lv (v := (.int .i64 i_5)) rfl rfl (r_move rfl) ?_
        refine lv (v := (.int .i64 (IntKind.i64.wrap (i_5 + 1)))) rfl rfl (r_add i_5 1 rfl rfl) ?_
        refine lv (v := (.int .i64 (IntKind.i64.wrap (i_5 + 1)))) rfl rfl (r_assign rfl) ?_
        refine lnil ?_
        exact ⟨n_2, by omega, ⟨col_7, (IntKind.i64.wrap (i_5 + 1)), n_2, rfl, hm, hst, h0, h1, rfl, rfl, rfl, rfl, rfl⟩⟩
      · refine wblock ?_
        refine wseq ?_
        refine Wp.cut (fun f w_23 => ∃ (col_24 : Col) (v_25 : Bool), m_credencelaw10_kept_int32_J2 i_5 (m_credencelaw10_kept_int32_L1 N n0 p0_m p1_l n_2) v_25 = some r ∧ St w0 (col0 col) col_24 w_23 ∧ Sl (Rep.int .i32) col_24 w_23 a0 cap0 p0_m ∧ Sl (Rep.int .i32) col_24 w_23 a1 cap1 p1_l ∧ f 0 = (.slice a0 ((p0_m.take n0).length) cap0) ∧ f 1 = (.slice a1 p1_l.length cap1) ∧ f 5 = (.slice a0 ((p0_m.take (Int.toNat (IntKind.i64.wrap ((p1_l.length : Int) + 5)))).length) cap0) ∧ f 6 = (.int .i64 i_5) ∧ f 45 = (.bool v_25) ∧ f 1000000 = (enc [])) ?_ ?_
        · intro f w_23 hJ
          obtain ⟨col_24, v_25, hm, hst, h0, h1, hs0, hs1, hs5, hs6, hs45, hs1000000⟩ := hJ
          rw [m_credencelaw10_kept_int32_J2.eq_1] at hm
          refine .ld (d := 0) (v := (.slice a0 ((p0_m.take n0).length) cap0)) hs0 ?_
          refine .ld (d := 1) (v := (.slice a1 p1_l.length cap1)) hs1 ?_
          refine .ld (d := 5) (v := (.slice a0 ((p0_m.take (Int.toNat (IntKind.i64.wrap ((p1_l.length : Int) + 5)))).length) cap0)) hs5 ?_
          refine .ld (d := 6) (v := (.int .i64 i_5)) hs6 ?_
          refine .ld (d := 45) (v := (.bool v_25)) hs45 ?_
          refine .ld (d := 1000000) (v := (enc [])) hs1000000 ?_
          clear hs0 hs1 hs5 hs6 hs45 hs1000000
          refine wcond (v_25) rfl (fun hb => ?_) (fun hb => ?_)
          · rw [if_pos hb] at hm
            clear hb
            refine wseq ?_
            refine wregion ?_
            refine lv (v := (.bool false)) rfl rfl (r_assign rfl) ?_
            refine lnil ?_
            refine wret ?_
            cases hm
            exact ⟨rfl, rfl, hst.below⟩
          · rw [if_neg (by rw [hb]; decide)] at hm
            clear hb
            refine wskip ?_
            exact ⟨col_24, hm, hst, h0, h1, rfl, rfl, rfl, rfl, rfl⟩
        · refine wquiet (col := col_4) (by kernel_rfl) (by kernel_rfl) ?_
          refine qv (v := (.int .i64 i_5)) rfl (fun _ hC => r_move rfl) ?_
          refine qv (v := (.slice a1 p1_l.length cap1)) rfl (fun _ hC => r_move rfl) ?_
          refine qv (v := (.int .i64 (p1_l.length : Int))) rfl (fun _ hC => r_len Try.underlying25 rfl) ?_
          refine qv (v := (.bool (decide (i_5 < (p1_l.length : Int))))) rfl (fun _ hC => r_lss i_5 (p1_l.length : Int) rfl rfl) ?_
          refine qv (v := (.bool (decide (i_5 < (p1_l.length : Int))))) rfl (fun _ hC => r_move rfl) ?_
          by_cases hg_26 : (decide (i_5 < (p1_l.length : Int))) = true
          · rw [if_pos hg_26] at hm
            refine qg (b := decide (i_5 < (p1_l.length : Int))) 22 rfl rfl rfl (by rw [hg_26]; rfl) ?_
            refine qv (v := (.slice a0 ((p0_m.take (Int.toNat (IntKind.i64.wrap ((p1_l.length : Int) + 5)))).length) cap0)) rfl (fun _ hC => r_move rfl) ?_
            refine qg (b := decide (i_5 < (p1_l.length : Int))) 22 rfl rfl rfl (by rw [hg_26]; rfl) ?_
            refine qv (v := (.int .i64 i_5)) rfl (fun _ hC => r_move rfl) ?_
            refine qg (b := decide (i_5 < (p1_l.length : Int))) 22 rfl rfl rfl (by rw [hg_26]; rfl) ?_
            obtain ⟨e_27, hj_28, hm⟩ := bind_some hm
            refine qv (v := (sptr a0 (Int.toNat i_5 * 1))) rfl (fun _ hC => r_idx Try.underlying25 Try.sizeOf21 rfl rfl (at?_some hj_28).1 (at?_some hj_28).2.1 ((h0.take (Int.toNat (IntKind.i64.wrap ((p1_l.length : Int) + 5)))).addr hj_28)) ?_
            refine qg (b := decide (i_5 < (p1_l.length : Int))) 22 rfl rfl rfl (by rw [hg_26]; rfl) ?_
            refine qv (v := (.int .i32 e_27)) rfl (fun _ hC => r_ld Try.isAgg21 rfl (((h0.take (Int.toNat (IntKind.i64.wrap ((p1_l.length : Int) + 5)))).gr hC).atInt hj_28)) ?_
            refine qg (b := decide (i_5 < (p1_l.length : Int))) 22 rfl rfl rfl (by rw [hg_26]; rfl) ?_
            refine qv (v := (.slice a1 p1_l.length cap1)) rfl (fun _ hC => r_move rfl) ?_
            refine qg (b := decide (i_5 < (p1_l.length : Int))) 22 rfl rfl rfl (by rw [hg_26]; rfl) ?_
            refine qv (v := (.int .i64 i_5)) rfl (fun _ hC => r_move rfl) ?_
            refine qg (b := decide (i_5 < (p1_l.length : Int))) 22 rfl rfl rfl (by rw [hg_26]; rfl) ?_
            obtain ⟨e_29, hj_30, hm⟩ := bind_some hm
            refine qv (v := (sptr a1 (Int.toNat i_5 * 1))) rfl (fun _ hC => r_idx Try.underlying25 Try.sizeOf21 rfl rfl (at?_some hj_30).1 (at?_some hj_30).2.1 (h1.addr hj_30)) ?_
            refine qg (b := decide (i_5 < (p1_l.length : Int))) 22 rfl rfl rfl (by rw [hg_26]; rfl) ?_
            refine qv (v := (.int .i32 e_29)) rfl (fun _ hC => r_ld Try.isAgg21 rfl ((h1.gr hC).atInt hj_30)) ?_
            refine qg (b := decide (i_5 < (p1_l.length : Int))) 22 rfl rfl rfl (by rw [hg_26]; rfl) ?_
            refine qv (v := (.bool (!decide (e_27 = e_29)))) rfl (fun _ hC => r_neq e_27 e_29 rfl rfl) ?_
            refine qv (v := (.bool (!decide (e_27 = e_29)))) rfl (fun _ hC => r_pickT (congrArg Value.bool hg_26) rfl) ?_
            refine qv (v := (.bool (!decide (e_27 = e_29)))) rfl (fun _ hC => r_move rfl) ?_
            by_cases hg_31 : (!decide (e_27 = e_29)) = true
            · rw [if_pos hg_31] at hm
              refine qp (b := !decide (e_27 = e_29)) 33 rfl rfl rfl rfl (by rw [hg_31]; rfl) ?_
              refine qp (b := !decide (e_27 = e_29)) 33 rfl rfl rfl rfl (by rw [hg_31]; rfl) ?_
              refine qp (b := !decide (e_27 = e_29)) 33 rfl rfl rfl rfl (by rw [hg_31]; rfl) ?_
              refine qp (b := !decide (e_27 = e_29)) 33 rfl rfl rfl rfl (by rw [hg_31]; rfl) ?_
              refine qp (b := !decide (e_27 = e_29)) 33 rfl rfl rfl rfl (by rw [hg_31]; rfl) ?_
              refine qpU 38 rfl rfl rfl rfl ?_
              refine qpU 38 rfl rfl rfl rfl ?_
              refine qpU 38 rfl rfl rfl rfl ?_
              refine qpU 38 rfl rfl rfl rfl ?_
              refine qpU 38 rfl rfl rfl rfl ?_
              refine qp (b := !decide (e_27 = e_29)) 33 rfl rfl rfl rfl (by rw [hg_31]; rfl) ?_
              refine qv (v := (.bool true)) rfl (fun _ hC => r_pickT (congrArg Value.bool hg_31) rfl) ?_
              refine qnil ?_
              intro w_32 hC
              replace h0 := h0.gr hC
              replace h1 := h1.gr hC
              replace hst := hst.grow hC
              exact ⟨col_4, true, hm, hst, h0, h1, rfl, rfl, rfl, rfl, rfl, rfl⟩
            · rw [if_neg hg_31] at hm
              replace hg_31 := Bool.eq_false_iff.2 hg_31
              refine qg (b := !decide (e_27 = e_29)) 33 rfl rfl rfl (by rw [hg_31]; rfl) ?_
              refine qv (v := (.int .i64 i_5)) rfl (fun _ hC => r_move rfl) ?_
              refine qg (b := !decide (e_27 = e_29)) 33 rfl rfl rfl (by rw [hg_31]; rfl) ?_
              refine qv (v := (.slice a1 p1_l.length cap1)) rfl (fun _ hC => r_move rfl) ?_
              refine qg (b := !decide (e_27 = e_29)) 33 rfl rfl rfl (by rw [hg_31]; rfl) ?_
              refine qv (v := (.int .i64 (p1_l.length : Int))) rfl (fun _ hC => r_len Try.underlying25 rfl) ?_
              refine qg (b := !decide (e_27 = e_29)) 33 rfl rfl rfl (by rw [hg_31]; rfl) ?_
              refine qv (v := (.bool (decide ((p1_l.length : Int) ≤ i_5)))) rfl (fun _ hC => r_geq i_5 (p1_l.length : Int) rfl rfl) ?_
              refine qg (b := !decide (e_27 = e_29)) 33 rfl rfl rfl (by rw [hg_31]; rfl) ?_
              refine qv (v := (.bool (decide ((p1_l.length : Int) ≤ i_5)))) rfl (fun _ hC => r_move rfl) ?_
              by_cases hg_33 : (decide ((p1_l.length : Int) ≤ i_5)) = true
              · rw [if_pos hg_33] at hm
                refine qg (b := decide ((p1_l.length : Int) ≤ i_5)) 38 rfl rfl rfl (by rw [hg_33]; rfl) ?_
                refine qv (v := (.slice a0 ((p0_m.take (Int.toNat (IntKind.i64.wrap ((p1_l.length : Int) + 5)))).length) cap0)) rfl (fun _ hC => r_move rfl) ?_
                refine qg (b := decide ((p1_l.length : Int) ≤ i_5)) 38 rfl rfl rfl (by rw [hg_33]; rfl) ?_
                refine qv (v := (.int .i64 i_5)) rfl (fun _ hC => r_move rfl) ?_
                refine qg (b := decide ((p1_l.length : Int) ≤ i_5)) 38 rfl rfl rfl (by rw [hg_33]; rfl) ?_
                refine qv (v := (sptr a0 (Int.toNat i_5 * 1))) rfl (fun _ hC => r_idx Try.underlying25 Try.sizeOf21 rfl rfl (at?_some hj_28).1 (at?_some hj_28).2.1 ((h0.take (Int.toNat (IntKind.i64.wrap ((p1_l.length : Int) + 5)))).addr hj_28)) ?_
                refine qg (b := decide ((p1_l.length : Int) ≤ i_5)) 38 rfl rfl rfl (by rw [hg_33]; rfl) ?_
                refine qv (v := (.int .i32 e_27)) rfl (fun _ hC => r_ld Try.isAgg21 rfl (((h0.take (Int.toNat (IntKind.i64.wrap ((p1_l.length : Int) + 5)))).gr hC).atInt hj_28)) ?_
                refine qg (b := decide ((p1_l.length : Int) ≤ i_5)) 38 rfl rfl rfl (by rw [hg_33]; rfl) ?_
                refine qv (v := (.bool (!decide (e_27 = 77)))) rfl (fun _ hC => r_neq e_27 77 rfl rfl) ?_
                refine qg (b := !decide (e_27 = e_29)) 33 rfl rfl rfl (by rw [hg_31]; rfl) ?_
                refine qv (v := (.bool (!decide (e_27 = 77)))) rfl (fun _ hC => r_pickT (congrArg Value.bool hg_33) rfl) ?_
                refine qv (v := (.bool (!decide (e_27 = 77)))) rfl (fun _ hC => r_pickF (congrArg Value.bool hg_31) rfl) ?_
                refine qnil ?_
                intro w_34 hC
                replace h0 := h0.gr hC
                replace h1 := h1.gr hC
                replace hst := hst.grow hC
                exact ⟨col_4, (!decide (e_27 = 77)), hm, hst, h0, h1, rfl, rfl, rfl, rfl, rfl, rfl⟩
              · rw [if_neg hg_33] at hm
                replace hg_33 := Bool.eq_false_iff.2 hg_33
                refine qp (b := decide ((p1_l.length : Int) ≤ i_5)) 38 rfl rfl rfl rfl (by rw [hg_33]; rfl) ?_
                refine qp (b := decide ((p1_l.length : Int) ≤ i_5)) 38 rfl rfl rfl rfl (by rw [hg_33]; rfl) ?_
                refine qp (b := decide ((p1_l.length : Int) ≤ i_5)) 38 rfl rfl rfl rfl (by rw [hg_33]; rfl) ?_
                refine qp (b := decide ((p1_l.length : Int) ≤ i_5)) 38 rfl rfl rfl rfl (by rw [hg_33]; rfl) ?_
                refine qp (b := decide ((p1_l.length : Int) ≤ i_5)) 38 rfl rfl rfl rfl (by rw [hg_33]; rfl) ?_
                refine qg (b := !decide (e_27 = e_29)) 33 rfl rfl rfl (by rw [hg_31]; rfl) ?_
                refine qv (v := (.bool false)) rfl (fun _ hC => r_pickF (congrArg Value.bool hg_33) rfl) ?_
                refine qv (v := (.bool false)) rfl (fun _ hC => r_pickF (congrArg Value.bool hg_31) rfl) ?_
                refine qnil ?_
                intro w_35 hC
                replace h0 := h0.gr hC
                replace h1 := h1.gr hC
                replace hst := hst.grow hC
                exact ⟨col_4, false, hm, hst, h0, h1, rfl, rfl, rfl, rfl, rfl, rfl⟩
          · rw [if_neg hg_26] at hm
            replace hg_26 := Bool.eq_false_iff.2 hg_26
            refine qp (b := decide (i_5 < (p1_l.length : Int))) 22 rfl rfl rfl rfl (by rw [hg_26]; rfl) ?_
            refine qp (b := decide (i_5 < (p1_l.length : Int))) 22 rfl rfl rfl rfl (by rw [hg_26]; rfl) ?_
            refine qp (b := decide (i_5 < (p1_l.length : Int))) 22 rfl rfl rfl rfl (by rw [hg_26]; rfl) ?_
            refine qp (b := decide (i_5 < (p1_l.length : Int))) 22 rfl rfl rfl rfl (by rw [hg_26]; rfl) ?_
            refine qp (b := decide (i_5 < (p1_l.length : Int))) 22 rfl rfl rfl rfl (by rw [hg_26]; rfl) ?_
            refine qp (b := decide (i_5 < (p1_l.length : Int))) 22 rfl rfl rfl rfl (by rw [hg_26]; rfl) ?_
            refine qp (b := decide (i_5 < (p1_l.length : Int))) 22 rfl rfl rfl rfl (by rw [hg_26]; rfl) ?_
            refine qp (b := decide (i_5 < (p1_l.length : Int))) 22 rfl rfl rfl rfl (by rw [hg_26]; rfl) ?_
            refine qp (b := decide (i_5 < (p1_l.length : Int))) 22 rfl rfl rfl rfl (by rw [hg_26]; rfl) ?_
            refine qv (v := (.bool false)) rfl (fun _ hC => r_pickF (congrArg Value.bool hg_26) rfl) ?_
            refine qv (v := (.bool false)) rfl (fun _ hC => r_move rfl) ?_
            refine qg (b := false) 33 rfl rfl rfl rfl ?_
            refine qv (v := (.int .i64 i_5)) rfl (fun _ hC => r_move rfl) ?_
            refine qg (b := false) 33 rfl rfl rfl rfl ?_
            refine qv (v := (.slice a1 p1_l.length cap1)) rfl (fun _ hC => r_move rfl) ?_
            refine qg (b := false) 33 rfl rfl rfl rfl ?_
            refine qv (v := (.int .i64 (p1_l.length : Int))) rfl (fun _ hC => r_len Try.underlying25 rfl) ?_
            refine qg (b := false) 33 rfl rfl rfl rfl ?_
            refine qv (v := (.bool (decide ((p1_l.length : Int) ≤ i_5)))) rfl (fun _ hC => r_geq i_5 (p1_l.length : Int) rfl rfl) ?_
            refine qg (b := false) 33 rfl rfl rfl rfl ?_
            refine qv (v := (.bool (decide ((p1_l.length : Int) ≤ i_5)))) rfl (fun _ hC => r_move rfl) ?_
            by_cases hg_36 : (decide ((p1_l.length : Int) ≤ i_5)) = true
            · rw [if_pos hg_36] at hm
              refine qg (b := decide ((p1_l.length : Int) ≤ i_5)) 38 rfl rfl rfl (by rw [hg_36]; rfl) ?_
              refine qv (v := (.slice a0 ((p0_m.take (Int.toNat (IntKind.i64.wrap ((p1_l.length : Int) + 5)))).length) cap0)) rfl (fun _ hC => r_move rfl) ?_
              refine qg (b := decide ((p1_l.length : Int) ≤ i_5)) 38 rfl rfl rfl (by rw [hg_36]; rfl) ?_
              refine qv (v := (.int .i64 i_5)) rfl (fun _ hC => r_move rfl) ?_
              refine qg (b := decide ((p1_l.length : Int) ≤ i_5)) 38 rfl rfl rfl (by rw [hg_36]; rfl) ?_
              obtain ⟨e_37, hj_38, hm⟩ := bind_some hm
              refine qv (v := (sptr a0 (Int.toNat i_5 * 1))) rfl (fun _ hC => r_idx Try.underlying25 Try.sizeOf21 rfl rfl (at?_some hj_38).1 (at?_some hj_38).2.1 ((h0.take (Int.toNat (IntKind.i64.wrap ((p1_l.length : Int) + 5)))).addr hj_38)) ?_
              refine qg (b := decide ((p1_l.length : Int) ≤ i_5)) 38 rfl rfl rfl (by rw [hg_36]; rfl) ?_
              refine qv (v := (.int .i32 e_37)) rfl (fun _ hC => r_ld Try.isAgg21 rfl (((h0.take (Int.toNat (IntKind.i64.wrap ((p1_l.length : Int) + 5)))).gr hC).atInt hj_38)) ?_
              refine qg (b := decide ((p1_l.length : Int) ≤ i_5)) 38 rfl rfl rfl (by rw [hg_36]; rfl) ?_
              refine qv (v := (.bool (!decide (e_37 = 77)))) rfl (fun _ hC => r_neq e_37 77 rfl rfl) ?_
              refine qg (b := false) 33 rfl rfl rfl rfl ?_
              refine qv (v := (.bool (!decide (e_37 = 77)))) rfl (fun _ hC => r_pickT (congrArg Value.bool hg_36) rfl) ?_
              refine qv (v := (.bool (!decide (e_37 = 77)))) rfl (fun _ hC => r_pickF rfl rfl) ?_
              refine qnil ?_
              intro w_39 hC
              replace h0 := h0.gr hC
              replace h1 := h1.gr hC
              replace hst := hst.grow hC
              exact ⟨col_4, (!decide (e_37 = 77)), hm, hst, h0, h1, rfl, rfl, rfl, rfl, rfl, rfl⟩
            · rw [if_neg hg_36] at hm
              replace hg_36 := Bool.eq_false_iff.2 hg_36
              refine qp (b := decide ((p1_l.length : Int) ≤ i_5)) 38 rfl rfl rfl rfl (by rw [hg_36]; rfl) ?_
              refine qp (b := decide ((p1_l.length : Int) ≤ i_5)) 38 rfl rfl rfl rfl (by rw [hg_36]; rfl) ?_
              refine qp (b := decide ((p1_l.length : Int) ≤ i_5)) 38 rfl rfl rfl rfl (by rw [hg_36]; rfl) ?_
              refine qp (b := decide ((p1_l.length : Int) ≤ i_5)) 38 rfl rfl rfl rfl (by rw [hg_36]; rfl) ?_
              refine qp (b := decide ((p1_l.length : Int) ≤ i_5)) 38 rfl rfl rfl rfl (by rw [hg_36]; rfl) ?_
              refine qg (b := false) 33 rfl rfl rfl rfl ?_
              refine qv (v := (.bool false)) rfl (fun _ hC => r_pickF (congrArg Value.bool hg_36) rfl) ?_
              refine qv (v := (.bool false)) rfl (fun _ hC => r_pickF rfl rfl) ?_
              refine qnil ?_
              intro w_40 hC
              replace h0 := h0.gr hC
              replace h1 := h1.gr hC
              replace hst := hst.grow hC
              exact ⟨col_4, false, hm, hst, h0, h1, rfl, rfl, rfl, rfl, rfl, rfl⟩
    · rw [if_neg (by rw [hb]; decide)] at hm
      clear hb
      refine wexit (inB_hit ?_)
      refine wseq ?_
      refine wregion ?_
      refine lv (v := (.slice a0 ((p0_m.take n0).length) cap0)) rfl rfl (r_move rfl) ?_
      refine lv (v := (.int .i64 ((p0_m.take n0).length : Int))) rfl rfl (r_len Try.underlying25 rfl) ?_
      refine lv (v := (.slice a1 p1_l.length cap1)) rfl rfl (r_move rfl) ?_
      refine lv (v := (.int .i64 (p1_l.length : Int))) rfl rfl (r_len Try.underlying25 rfl) ?_
      refine lv (v := (.bool (decide (((p0_m.take n0).length : Int) = (p1_l.length : Int))))) rfl rfl (r_eql ((p0_m.take n0).length : Int) (p1_l.length : Int) rfl rfl) ?_
      refine lv (v := (.bool (decide (((p0_m.take n0).length : Int) = (p1_l.length : Int))))) rfl rfl (r_assign rfl) ?_
      refine lnil ?_
      refine wret ?_
      cases hm
      exact ⟨rfl, rfl, hst.below⟩




def m_credencelaw10_same_int32_L1 (N : Nat) (p0_l : List Int) (p1_want : List Int) : Nat → Int → Option Bool
  | 0, _ => none
  | n_1 + 1, i_4 => if (decide (i_4 < (p0_l.length : Int))) = true then ((at? p0_l i_4).bind fun e_5 => (at? p1_want i_4).bind fun e_7 => if (!decide ((IntKind.i64.wrap e_5) = e_7)) = true then (some false) else ((m_credencelaw10_same_int32_L1 N p0_l p1_want n_1) (IntKind.i64.wrap (i_4 + 1)))) else (some true)

def m_credencelaw10_same_int32 (N : Nat) (p0_l : List Int) (p1_want : List Int) : Option Bool :=
  if (!decide ((p0_l.length : Int) = (p1_want.length : Int))) = true then (some false) else (m_credencelaw10_same_int32_L1 N p0_l p1_want N 0)

set_option maxRecDepth 100000 in
theorem c_credencelaw10_same_int32 (N : Nat) (col : Col) (w0 : World) (a0 : Option Addr) (cap0 : Nat) (p0_l : List Int) (h0 : Sl (Rep.int .i32) col w0 a0 cap0 p0_l) (a1 : Option Addr) (cap1 : Nat) (p1_want : List Int) (h1 : Sl (Rep.int .i64) col w0 a1 cap1 p1_want) (r : Bool) (hm : m_credencelaw10_same_int32 N p0_l p1_want = some r) :
    Calls Try.prog 33 #[(.slice a0 p0_l.length cap0), (.slice a1 p1_want.length cap1)] w0 (fun e w' => e = .returned (.bool r) ∧ Below w0.heap.size w0 w') := by
  refine calls_of1 4 (m := 27) (args := [(.slice a0 p0_l.length cap0), (.slice a1 p1_want.length cap1)]) Try.func33 rfl rfl rfl rfl rfl ?_
  rw [m_credencelaw10_same_int32.eq_1] at hm
  have hst := St.start col w0
  replace h0 := h0.keep (Stay.start col w0)
  replace h1 := h1.keep (Stay.start col w0)
  refine wseq ?_
  refine wregion ?_
  refine lv (v := (.bool false)) rfl rfl (r_assign rfl) ?_
  refine lnil ?_
  refine wseq ?_
  refine wseq ?_
  refine wregion ?_
  refine lv (v := (.slice a0 p0_l.length cap0)) rfl rfl (r_move rfl) ?_
  refine lv (v := (.int .i64 (p0_l.length : Int))) rfl rfl (r_len Try.underlying25 rfl) ?_
  refine lv (v := (.slice a1 p1_want.length cap1)) rfl rfl (r_move rfl) ?_
  refine lv (v := (.int .i64 (p1_want.length : Int))) rfl rfl (r_len Try.underlying22 rfl) ?_
  refine lv (v := (.bool (!decide ((p0_l.length : Int) = (p1_want.length : Int))))) rfl rfl (r_neq (p0_l.length : Int) (p1_want.length : Int) rfl rfl) ?_
  refine lnil ?_
  refine wcond (!decide ((p0_l.length : Int) = (p1_want.length : Int))) rfl (fun hb => ?_) (fun hb => ?_)
  · rw [if_pos hb] at hm
    clear hb
    refine wseq ?_
    refine wregion ?_
    refine lv (v := (.bool false)) rfl rfl (r_assign rfl) ?_
    refine lnil ?_
    refine wret ?_
    cases hm
    exact ⟨rfl, rfl, hst.below⟩
  · rw [if_neg (by rw [hb]; decide)] at hm
    clear hb
    refine wskip ?_
    refine wseq ?_
    refine wseq ?_
    refine wregion ?_
    refine lv (v := (.int .i64 0)) rfl rfl (r_assign rfl) ?_
    refine lnil ?_
    refine wblock ?_
    refine wloop (fun n f w_2 => ∃ (col_3 : Col) (i_4 : Int) (n_1 : Nat), n_1 = n ∧ m_credencelaw10_same_int32_L1 N p0_l p1_want n_1 i_4 = some r ∧ St w0 (col0 col) col_3 w_2 ∧ Sl (Rep.int .i32) col_3 w_2 a0 cap0 p0_l ∧ Sl (Rep.int .i64) col_3 w_2 a1 cap1 p1_want ∧ f 0 = (.slice a0 p0_l.length cap0) ∧ f 1 = (.slice a1 p1_want.length cap1) ∧ f 5 = (.int .i64 i_4) ∧ f 1000000 = (enc [])) N ⟨(col0 col), 0, N, rfl, hm, hst, h0, h1, rfl, rfl, rfl, rfl⟩ ?_
    clear hm; intro n f w_2 hI
    obtain ⟨col_3, i_4, n_1, hn, hm, hst, h0, h1, hs0, hs1, hs5, hs1000000⟩ := hI
    subst hn
    refine .ld (d := 0) (v := (.slice a0 p0_l.length cap0)) hs0 ?_
    refine .ld (d := 1) (v := (.slice a1 p1_want.length cap1)) hs1 ?_
    refine .ld (d := 5) (v := (.int .i64 i_4)) hs5 ?_
    refine .ld (d := 1000000) (v := (enc [])) hs1000000 ?_
    clear hs0 hs1 hs5 hs1000000
    cases n_1 with
    | zero => rw [m_credencelaw10_same_int32_L1.eq_1] at hm; cases hm
    | succ n_1 =>
      rw [m_credencelaw10_same_int32_L1.eq_2] at hm
      refine wseq ?_
      refine wseq ?_
      refine wregion ?_
      refine lv (v := (.int .i64 i_4)) rfl rfl (r_move rfl) ?_
      refine lv (v := (.slice a0 p0_l.length cap0)) rfl rfl (r_move rfl) ?_
      refine lv (v := (.int .i64 (p0_l.length : Int))) rfl rfl (r_len Try.underlying25 rfl) ?_
      refine lv (v := (.bool (decide (i_4 < (p0_l.length : Int))))) rfl rfl (r_lss i_4 (p0_l.length : Int) rfl rfl) ?_
      refine lnil ?_
      refine wcond (decide (i_4 < (p0_l.length : Int))) rfl (fun hb => ?_) (fun hb => ?_)
      · rw [if_pos hb] at hm
        clear hb
        refine wskip ?_
        refine wseq ?_
        refine wblock ?_
        refine wseq ?_
        refine wquiet (col := col_3) (by kernel_rfl) (by kernel_rfl) ?_
        refine qv (v := (.slice a0 p0_l.length cap0)) rfl (fun _ hC => r_move rfl) ?_
        refine qv (v := (.int .i64 i_4)) rfl (fun _ hC => r_move rfl) ?_
        obtain ⟨e_5, hj_6, hm⟩ := bind_some hm
        refine qv (v := (sptr a0 (Int.toNat i_4 * 1))) rfl (fun _ hC => r_idx Try.underlying25 Try.sizeOf21 rfl rfl (at?_some hj_6).1 (at?_some hj_6).2.1 (h0.addr hj_6)) ?_
        refine qv (v := (.int .i32 e_5)) rfl (fun _ hC => r_ld Try.isAgg21 rfl ((h0.gr hC).atInt hj_6)) ?_
        refine qv (v := (.int .i64 (IntKind.i64.wrap e_5))) rfl (fun _ hC => r_conv e_5 ⟨_, Try.underlying21⟩ Try.underlying3 rfl) ?_
        refine qv (v := (.slice a1 p1_want.length cap1)) rfl (fun _ hC => r_move rfl) ?_
        refine qv (v := (.int .i64 i_4)) rfl (fun _ hC => r_move rfl) ?_
        obtain ⟨e_7, hj_8, hm⟩ := bind_some hm
        refine qv (v := (sptr a1 (Int.toNat i_4 * 1))) rfl (fun _ hC => r_idx Try.underlying22 Try.sizeOf3 rfl rfl (at?_some hj_8).1 (at?_some hj_8).2.1 (h1.addr hj_8)) ?_
        refine qv (v := (.int .i64 e_7)) rfl (fun _ hC => r_ld Try.isAgg3 rfl ((h1.gr hC).atInt hj_8)) ?_
        refine qv (v := (.bool (!decide ((IntKind.i64.wrap e_5) = e_7)))) rfl (fun _ hC => r_neq (IntKind.i64.wrap e_5) e_7 rfl rfl) ?_
        refine qnil ?_
        intro w_9 hC
        replace h0 := h0.gr hC
        replace h1 := h1.gr hC
        replace hst := hst.grow hC
        refine wcond (!decide ((IntKind.i64.wrap e_5) = e_7)) rfl (fun hb => ?_) (fun hb => ?_)
        · rw [if_pos hb] at hm
          clear hb
          refine wseq ?_
          refine wregion ?_
          refine lv (v := (.bool false)) rfl rfl (r_assign rfl) ?_
          refine lnil ?_
          refine wret ?_
          cases hm
          exact ⟨rfl, rfl, hst.below⟩
        · rw [if_neg (by rw [hb]; decide)] at hm
          clear hb
          refine wskip ?_
          refine wregion ?_
          refine lv (v := (.int .i64 i_4)) rfl rfl (r_move rfl) ?_
          refine lv (v := (.int .i64 (IntKind.i64.wrap (i_4 + 1)))) rfl rfl (r_add i_4 1 rfl rfl) ?_
          refine lv (v := (.int .i64 (IntKind.i64.wrap (i_4 + 1)))) rfl rfl (r_assign rfl) ?_
          refine lnil ?_
          exact ⟨n_1, by omega, ⟨col_3, (IntKind.i64.wrap (i_4 + 1)), n_1, rfl, hm, hst, h0, h1, rfl, rfl, rfl, rfl⟩⟩
      · rw [if_neg (by rw [hb]; decide)] at hm
        clear hb
        refine wexit (inB_hit ?_)
        refine wseq ?_
        refine wregion ?_
        refine lv (v := (.bool true)) rfl rfl (r_assign rfl) ?_
        refine lnil ?_
        refine wret ?_
        cases hm
        exact ⟨rfl, rfl, hst.below⟩



theorem el3_30 : ElemOk Try.prog 3 1 8 := ⟨Try.t3, _, rfl, rfl, rfl, rfl, rfl⟩

def m_credencelaw10_plain_int32_L1 (N : Nat) (p0_l : List Int) : Nat → (List Int) → Int → Option (List Int)
  | 0, _, _ => none
  | n_1 + 1, out_6, i_8 => if (decide (i_8 < (p0_l.length : Int))) = true then ((at? p0_l i_8).bind fun e_9 => chk ((out_6.length + [IntKind.i64.wrap e_9].length) * 8 ≤ 140737488355328 ∧ out_6.length + [IntKind.i64.wrap e_9].length ≤ maxLen) ((m_credencelaw10_plain_int32_L1 N p0_l n_1) (out_6 ++ [IntKind.i64.wrap e_9]) (IntKind.i64.wrap (i_8 + 1)))) else (some out_6)

def m_credencelaw10_plain_int32 (N : Nat) (p0_l : List Int) : Option (List Int) :=
  m_credencelaw10_plain_int32_L1 N p0_l N ([] : List Int) 0

set_option maxRecDepth 100000 in
theorem c_credencelaw10_plain_int32 (N : Nat) (c1 : Nat) (col : Col) (w0 : World) (a0 : Option Addr) (cap0 : Nat) (p0_l : List Int) (h0 : Sl (Rep.int .i32) col w0 a0 cap0 p0_l) (r : (List Int)) (hm : m_credencelaw10_plain_int32 N p0_l = some r) :
    Calls Try.prog 30 #[(.slice a0 p0_l.length cap0)] w0 (fun e w' => ∃ (col' : Col) (ra1 : Option Addr) (rc1 : Nat), e = .returned (.slice ra1 r.length rc1) ∧ Grow col w0 col' w' ∧ Own (Rep.int .i64) 3 c1 col' w' ra1 rc1 r) := by
  refine calls_of1 2 (m := 20) (args := [(.slice a0 p0_l.length cap0)]) Try.func30 rfl rfl rfl rfl rfl ?_
  rw [m_credencelaw10_plain_int32.eq_1] at hm
  have hst := St.start col w0
  replace h0 := h0.keep (Stay.start col w0)
  refine wseq ?_
  refine wregion ?_
  refine lv (v := (.slice none (([] : List Int).length) 0)) rfl rfl (r_assign rfl) ?_
  refine lnil ?_
  refine wseq ?_
  refine wregion ?_
  refine lv (v := (.slice none (([] : List Int).length) 0)) rfl rfl (r_assign rfl) ?_
  refine lnil ?_
  refine wseq ?_
  refine wseq ?_
  refine wregion ?_
  refine lv (v := (.int .i64 0)) rfl rfl (r_assign rfl) ?_
  refine lnil ?_
  refine wblock ?_
  refine wloop (fun n f w_2 => ∃ (col_3 : Col) (a_4 : Option Addr) (cap_5 : Nat) (out_6 : List Int) (i_8 : Int) (n_1 : Nat), n_1 = n ∧ m_credencelaw10_plain_int32_L1 N p0_l n_1 out_6 i_8 = some r ∧ St w0 (col0 col) col_3 w_2 ∧ Sl (Rep.int .i32) col_3 w_2 a0 cap0 p0_l ∧ Own (Rep.int .i64) 3 2 col_3 w_2 a_4 cap_5 out_6 ∧ f 0 = (.slice a0 p0_l.length cap0) ∧ f 3 = (.slice a_4 out_6.length cap_5) ∧ f 4 = (.int .i64 i_8) ∧ f 1000000 = (enc [])) N ⟨(col0 col), none, 0, ([] : List Int), 0, N, rfl, hm, hst, h0, Own.nil, rfl, rfl, rfl, rfl⟩ ?_
  clear hm; intro n f w_2 hI
  obtain ⟨col_3, a_4, cap_5, out_6, i_8, n_1, hn, hm, hst, h0, h_7, hs0, hs3, hs4, hs1000000⟩ := hI
  subst hn
  refine .ld (d := 0) (v := (.slice a0 p0_l.length cap0)) hs0 ?_
  refine .ld (d := 3) (v := (.slice a_4 out_6.length cap_5)) hs3 ?_
  refine .ld (d := 4) (v := (.int .i64 i_8)) hs4 ?_
  refine .ld (d := 1000000) (v := (enc [])) hs1000000 ?_
  clear hs0 hs3 hs4 hs1000000
  cases n_1 with
  | zero => rw [m_credencelaw10_plain_int32_L1.eq_1] at hm; cases hm
  | succ n_1 =>
    rw [m_credencelaw10_plain_int32_L1.eq_2] at hm
    refine wseq ?_
    refine wseq ?_
    refine wregion ?_
    refine lv (v := (.int .i64 i_8)) rfl rfl (r_move rfl) ?_
    refine lv (v := (.slice a0 p0_l.length cap0)) rfl rfl (r_move rfl) ?_
    refine lv (v := (.int .i64 (p0_l.length : Int))) rfl rfl (r_len Try.underlying25 rfl) ?_
    refine lv (v := (.bool (decide (i_8 < (p0_l.length : Int))))) rfl rfl (r_lss i_8 (p0_l.length : Int) rfl rfl) ?_
    refine lnil ?_
    refine wcond (decide (i_8 < (p0_l.length : Int))) rfl (fun hb => ?_) (fun hb => ?_)
    · rw [if_pos hb] at hm
      clear hb
      refine wskip ?_
      refine wseq ?_
      refine wblock ?_
      refine wregion ?_
      refine lv (v := (.slice a_4 out_6.length cap_5)) rfl rfl (r_move rfl) ?_
      refine lv (v := (.slice a0 p0_l.length cap0)) rfl rfl (r_move rfl) ?_
      refine lv (v := (.int .i64 i_8)) rfl rfl (r_move rfl) ?_
      obtain ⟨e_9, hj_10, hm⟩ := bind_some hm
      refine lv (v := (sptr a0 (Int.toNat i_8 * 1))) rfl rfl (r_idx Try.underlying25 Try.sizeOf21 rfl rfl (at?_some hj_10).1 (at?_some hj_10).2.1 (h0.addr hj_10)) ?_
      refine lv (v := (.int .i32 e_9)) rfl rfl (r_ld Try.isAgg21 rfl (h0.atInt hj_10)) ?_
      refine lv (v := (.int .i64 (IntKind.i64.wrap e_9))) rfl rfl (r_conv e_9 ⟨_, Try.underlying21⟩ Try.underlying3 rfl) ?_
      refine l_lit (col := col_3) (r := (Rep.int .i64)) (xs := [IntKind.i64.wrap e_9]) [(.int .i64 (IntKind.i64.wrap e_9))] 3 rfl Try.underlying22 el3_30 rfl rfl rfl rfl rfl rfl (by intro v hv; simp only [List.mem_cons, List.not_mem_nil, or_false] at hv; subst hv; rfl) ⟨_, _, rfl, rfl, rfl⟩ ?_
      intro a_11 w_12 col_13 hg_14 h_15
      replace h0 := h0.gr hg_14
      replace h_7 := h_7.gr hg_14
      replace hst := hst.grow hg_14
      replace h0 := h0.froz 3
      replace h_7 := h_7.froz 3 (by decide)
      replace hst := hst.froz 3 (by decide) (by decide)
      replace h_15 := h_15.toSl
      obtain ⟨hb_16, hm⟩ := chk_some hm
      refine l_append (col := (froz 3 col_13)) (w := w_12) (r := (Rep.int .i64)) (c := 2) (xs := out_6) (ys := [IntKind.i64.wrap e_9]) h_7 h_15 rfl Try.underlying22 el3_30 rfl rfl rfl hb_16.1 hb_16.2 (by decide) ?_
      intro a_18 cap_19 w_20 col_21 hk_22 hs_23 h_24
      replace h0 := h0.kp hk_22 (by decide)
      replace h_15 := h_15.kp hk_22 (by decide)
      replace hst := hst.kp hk_22 hs_23 (by decide) (by decide)
      clear h_7
      refine lv (v := (.slice a_18 ((out_6 ++ [IntKind.i64.wrap e_9]).length) cap_19)) rfl rfl (r_assign rfl) ?_
      refine lnil ?_
      refine wregion ?_
      refine lv (v := (.int .i64 i_8)) rfl rfl (r_move rfl) ?_
      refine lv (v := (.int .i64 (IntKind.i64.wrap (i_8 + 1)))) rfl rfl (r_add i_8 1 rfl rfl) ?_
      refine lv (v := (.int .i64 (IntKind.i64.wrap (i_8 + 1)))) rfl rfl (r_assign rfl) ?_
      refine lnil ?_
      exact ⟨n_1, by omega, ⟨col_21, a_18, cap_19, (out_6 ++ [IntKind.i64.wrap e_9]), (IntKind.i64.wrap (i_8 + 1)), n_1, rfl, hm, hst, h0, h_24, rfl, rfl, rfl, rfl⟩⟩
    · rw [if_neg (by rw [hb]; decide)] at hm
      clear hb
      refine wexit (inB_hit ?_)
      refine wseq ?_
      refine wregion ?_
      refine lv (v := (.slice a_4 out_6.length cap_5)) rfl rfl (r_move rfl) ?_
      refine lv (v := (.slice a_4 out_6.length cap_5)) rfl rfl (r_assign rfl) ?_
      refine lnil ?_
      refine wret ?_
      cases hm
      exact ⟨rfl, colF w0.heap.size col col_3 (fun n => bif Nat.beq n 2 then c1 else 0), a_4, cap_5, rfl, hst.fin (fun n => bif Nat.beq n 2 then c1 else 0), hst.finOwn (g := (fun n => bif Nat.beq n 2 then c1 else 0)) rfl h_7 (by decide) (by decide) rfl⟩



/-- The numbers that the type has. -/
def fit_int32 (x : Int) : Prop := IntKind.i32.wrap x = x ∧ IntKind.i64.wrap x = x

theorem cnt_L2_int32 : ∀ (l : List Int) (n : Int), (∀ x ∈ l, fit_int32 x) → (∀ x ∈ l, 1 ≤ x) → 1 ≤ n → n ≤ 2147483647 → m_radix_Count_int32_L2 l n = some (goC l n)
  | [], n, _, _, _, _ => rfl
  | x :: l, n, hf, hp, h1, h2 => by
    have hx := hp x (by simp)
    rw [m_radix_Count_int32_L2.eq_2, chk_pos (by omega), goC]
    rw [(hf x (by simp)).2]
    have hq : Int.tdiv 2147483647 n = 2147483647 / n := Int.tdiv_eq_ediv_of_nonneg (by omega)
    have hq0 : 0 ≤ (2147483647 : Int) / n := Int.ediv_nonneg (by omega) (by omega)
    have hq1 : (2147483647 : Int) / n ≤ 2147483647 := Int.ediv_le_self _ (by omega)
    rw [hq, w64 (by omega)]
    by_cases h : 2147483647 < n * x
    · rw [if_pos h, if_pos (decide_eq_true (by rw [Int.ediv_lt_iff_lt_mul (by omega), Int.mul_comm]; exact h))]
    · have h3 : 1 * 1 ≤ n * x := Int.mul_le_mul h1 hx (by omega) (by omega)
      rw [if_neg h, if_neg (by rw [decide_eq_true_eq, Int.ediv_lt_iff_lt_mul (by omega), Int.mul_comm]; exact h), w64 (by omega)]
      exact cnt_L2_int32 l (n * x) (fun y hy => hf y (by simp [hy])) (fun y hy => hp y (by simp [hy])) (by omega) (by omega)

theorem cnt_L1_int32 (p : List Int) : ∀ (l : List Int) (b : Bool), m_radix_Count_int32_L1 p l b = if anyNeg l then some (0, 3) else if b || anyZero l then some (0, 0) else m_radix_Count_int32_L2 p 1
  | [], b => by cases b <;> rfl
  | x :: l, b => by
    rw [m_radix_Count_int32_L1.eq_2]
    simp only [m_radix_Count_int32_J1, cnt_L1_int32 p l, anyNeg, anyZero, List.any_cons]
    by_cases h : x < 0
    · simp [h]
    · cases b
      · simp [h]
      · simp [h]

theorem cnt_int32 (p : List Int) (hf : ∀ x ∈ p, fit_int32 x) : m_radix_Count_int32 p = some (cntS p) := by
  unfold m_radix_Count_int32 cntS
  rw [cnt_L1_int32]
  cases h1 : anyNeg p with
  | true => rfl
  | false =>
    cases h2 : anyZero p with
    | true => rfl
    | false =>
      simp only [Bool.false_eq_true, if_false, Bool.or_false]
      exact cnt_L2_int32 p 1 hf (pos_of h1 h2) (by omega) (by omega)

theorem back_int32 (N : Nat) (p : List Int) (hlen : p.length < 4611686018427387904) : ∀ (fuel k : Nat), k ≤ p.length → k < fuel → m_slices_Backward_int32_int32_1_L1 N p fuel ((k : Int) - 1) = some (bp p k) := by
  intro fuel
  induction fuel with
  | zero => intro k _ h; omega
  | succ fuel ih =>
    intro k hk hf
    rw [m_slices_Backward_int32_int32_1_L1.eq_2]
    cases k with
    | zero => rw [if_neg (by simp)]; rfl
    | succ k =>
      have hkk : ((k + 1 : Nat) : Int) - 1 = (k : Int) := by omega
      rw [hkk, if_pos (decide_eq_true (by omega)), at_get (by omega)]
      simp only [Option.bind_some]
      rw [w64 (n := (k : Int) - 1) (by omega), ih k (by omega) (by omega)]
      rfl

theorem dig_L1_int32 (p : List Int) (hf : ∀ x ∈ p, fit_int32 x) (hnz : ∀ x ∈ p, 1 ≤ x) : ∀ (k : Nat) (at_ : Int) (out : List Int), 0 ≤ at_ → at_ < 9223372036854775807 → k ≤ p.length → out.length = p.length → m_radix_digits_int32_L1 (bp p k) at_ out = some (dg p k at_ out)
  | 0, _, _, _, _, _, _ => rfl
  | k + 1, at_, out, h0, h9, hk, ho => by
    have hlt : k < p.length := by omega
    have hx := hnz _ (getD_mem hlt)
    have hfx := hf _ (getD_mem hlt)
    rw [bp, m_radix_digits_int32_L1.eq_2]
    simp only [dg]
    generalize p.getD k 0 = e at hx hfx ⊢
    rw [hfx.2]
    have hm : IntKind.i32.wrap (Int.tmod at_ e) = Int.tmod at_ e := by
      have h1 : 0 ≤ Int.tmod at_ e := Int.tmod_nonneg _ h0
      have h2 : Int.tmod at_ e < e := Int.tmod_lt_of_pos _ (by omega)
      have h3 := hfx.1
      rw [IntKind.wrap_i32] at h3 ⊢
      omega
    rw [hm]
    have hq : Int.tdiv at_ e = at_ / e := Int.tdiv_eq_ediv_of_nonneg h0
    have hq0 : 0 ≤ at_ / e := Int.ediv_nonneg h0 (by omega)
    have hq1 : at_ / e ≤ at_ := Int.ediv_le_self _ h0
    rw [chk_pos (by omega), at_get (by omega)]
    simp only [Option.bind_some, Int.toNat_natCast]
    rw [chk_pos (by omega)]
    rw [dig_L1_int32 p hf hnz k _ _ (by rw [w64] <;> omega) (by rw [w64] <;> omega) (by omega) (by simpa using ho)]

theorem dig_int32 (N : Nat) (p : List Int) (at_ : Int) (hf : ∀ x ∈ p, fit_int32 x) (hN : p.length < N) (hlen : p.length ≤ 17592186044416) : m_radix_Digits_int32 N p at_ = some (dgS p at_) := by
  unfold m_radix_Digits_int32 dgS
  rw [cnt_int32 p hf]
  simp only [Option.bind_some, m_radix_Digits_int32_J1]
  by_cases h0 : (cntS p).2 = 0
  · rw [if_neg (by simp [h0]), if_pos h0]
    by_cases h1 : at_ < 0
    · simp [h1]
    · by_cases h2 : (cntS p).1 ≤ at_
      · simp [h1, h2]
      · have hp := cnt_pos h0 (by omega)
        rw [if_neg (by simpa using h1), if_neg (by simpa using h2), if_neg (by omega)]
        unfold m_radix_digits_int32
        cases hl : p with
        | nil => rfl
        | cons x l =>
          rw [← hl, if_neg (by rw [hl]; simp; omega), chk_pos (by simp only [maxLen]; omega)]
          unfold m_slices_Backward_int32_int32 m_slices_Backward_int32_int32_1
          rw [w64 (by omega), back_int32 N p (by omega) N p.length (Nat.le_refl _) hN]
          simp only [Option.bind_some]
          rw [dig_L1_int32 p hf hp.1 p.length at_ _ (by omega) (by omega) (Nat.le_refl _) (by simp)]
          rfl
  · rw [if_pos (by simpa using h0), if_neg h0]

theorem dg_fit_int32 (p : List Int) (hf : ∀ x ∈ p, fit_int32 x) (hnz : ∀ x ∈ p, 1 ≤ x) : ∀ (k : Nat) (at_ : Int) (out : List Int), 0 ≤ at_ → at_ < 9223372036854775807 → k ≤ p.length → (∀ x ∈ out, fit_int32 x) → ∀ x ∈ dg p k at_ out, fit_int32 x
  | 0, _, _, _, _, _, ho => ho
  | k + 1, at_, out, h0, h9, hk, ho => by
    have hlt : k < p.length := by omega
    have hx := hnz _ (getD_mem hlt)
    have hfx := hf _ (getD_mem hlt)
    simp only [dg]
    generalize p.getD k 0 = e at hx hfx ⊢
    have h1 : 0 ≤ Int.tmod at_ e := Int.tmod_nonneg _ h0
    have h2 : Int.tmod at_ e < e := Int.tmod_lt_of_pos _ (by omega)
    have hq : Int.tdiv at_ e = at_ / e := Int.tdiv_eq_ediv_of_nonneg h0
    have hq0 : 0 ≤ at_ / e := Int.ediv_nonneg h0 (by omega)
    have hq1 : at_ / e ≤ at_ := Int.ediv_le_self _ h0
    have hm : fit_int32 (Int.tmod at_ e) := by
      have h3 := hfx.1
      refine ⟨?_, w64 (by rw [IntKind.wrap_i32] at h3; omega)⟩
      rw [IntKind.wrap_i32] at h3 ⊢; omega
    refine dg_fit_int32 p hf hnz k _ _ (by rw [w64] <;> omega) (by rw [w64] <;> omega) (by omega) fun x hx => ?_
    rcases List.mem_or_eq_of_mem_set hx with h | h
    · exact ho x h
    · rw [h]; exact hm
theorem dgS_fit_int32 (p : List Int) (at_ : Int) (hf : ∀ x ∈ p, fit_int32 x) : ∀ x ∈ (dgS p at_).1, fit_int32 x := by
  unfold dgS
  split
  · rename_i h0
    split
    · simp
    · rename_i h1
      have hp := cnt_pos h0 (by omega)
      refine dg_fit_int32 p hf hp.1 p.length at_ _ (by omega) (by omega) (Nat.le_refl _) fun x hx => ?_
      rw [List.eq_of_mem_replicate hx]
      exact ⟨by decide, by decide⟩
  · simp

/-! at -/
theorem at_same_int32 (N : Nat) (p d : List Int) (hl : d.length = p.length) (hfp : ∀ x ∈ p, fit_int32 x) (hfd : ∀ x ∈ d, fit_int32 x) (hlen : p.length < 4611686018427387904) : ∀ (fuel k : Nat) (at_ : Int), k ≤ p.length → p.length - k < fuel →
    ∃ r, m_radix_At_int32_L1 p (d.drop k) k at_ = some r ∧ m_credenceref10_At_L1 N p d fuel at_ (k : Int) = some r := by
  intro fuel
  induction fuel with
  | zero => intro k _ _ h; omega
  | succ fuel ih =>
    intro k at_ hk hfu
    rw [m_credenceref10_At_L1.eq_2]
    by_cases hlt : k < p.length
    · have hltd : k < d.length := by omega
      have hxp := hfp _ (getD_mem hlt)
      have hxd := hfd _ (getD_mem hltd)
      rw [if_pos (decide_eq_true (by omega)), at_get hltd, drop_getD hltd, m_radix_At_int32_L1.eq_2]
      simp only [Option.bind_some, at_get hlt, m_radix_At_int32_J1, m_credenceref10_At_J1, at_get hltd]
      have ih' := fun at_ => ih (k + 1) at_ (by omega) (by omega)
      generalize p.getD k 0 = s at hxp ⊢
      generalize d.getD k 0 = x at hxd ⊢
      rw [hxp.2, hxd.2]
      by_cases h1 : x < 0
      · exact ⟨(0, 3), by simp [h1], by simp [h1]⟩
      · by_cases h2 : s ≤ x
        · exact ⟨(0, 3), by simp [h1, h2], by simp [h1, h2]⟩
        · simp only [h1, h2, decide_false, Bool.false_eq_true, if_false, wrap_up (show k < 4611686018427387904 by omega)]
          exact ih' _
    · rw [if_neg (by simp; omega), List.drop_eq_nil_of_le (by omega)]
      exact ⟨(at_, 0), rfl, rfl⟩

theorem at_int32 (N : Nat) (p d : List Int) (hfp : ∀ x ∈ p, fit_int32 x) (hfd : ∀ x ∈ d, fit_int32 x) (hN : p.length < N) (hlen : p.length < 4611686018427387904) :
    ∃ r, m_radix_At_int32 p d = some r ∧ m_credenceref10_At N p d = some r := by
  unfold m_radix_At_int32 m_credenceref10_At
  rw [cnt_int32 p hfp, ref_count N p hN hlen]
  simp only [Option.bind_some]
  by_cases h0 : (cntS p).2 = 0
  · have e0 : (!decide ((cntS p).2 = 0)) = false := by simp [h0]
    simp only [e0, Bool.false_eq_true, if_false]
    by_cases h1 : d.length = p.length
    · have e : (!decide ((d.length : Int) = (p.length : Int))) = false := by simp [h1]
      simp only [e, Bool.false_eq_true, if_false]
      have := at_same_int32 N p d h1 hfp hfd hlen N 0 0 (by omega) (by omega)
      simpa using this
    · have h2 : ¬ ((d.length : Int) = (p.length : Int)) := by omega
      have e : (!decide ((d.length : Int) = (p.length : Int))) = true := by simp [h2]
      simp only [e, if_true]
      exact ⟨_, rfl, rfl⟩
  · have e0 : (!decide ((cntS p).2 = 0)) = true := by simp [h0]
    simp only [e0, if_true]
    exact ⟨_, rfl, rfl⟩

/-! the statements' own helpers -/
theorem roomy_int32 (N : Nat) (l : List Int) (hN : 6 ≤ N) (hlen : l.length ≤ 17592186043904) : m_credencelaw10_roomy_int32 N l = some (l.length, l ++ [77, 77, 77, 77, 77]) := by
  obtain ⟨n, rfl⟩ : ∃ n, N = n + 6 := ⟨N - 6, by omega⟩
  unfold m_credencelaw10_roomy_int32
  rw [chk_pos (by simp only [List.length_nil, maxLen]; omega)]
  have s : ∀ (f : Nat) (m : List Int) (i j : Int), i < 5 → IntKind.i64.wrap (i + 1) = j → m.length ≤ 17592186043910 → m_credencelaw10_roomy_int32_L1 (n + 6) l (f + 1) m i = m_credencelaw10_roomy_int32_L1 (n + 6) l f (m ++ [77]) j := by
    intro f m i j h1 h2 h3
    rw [m_credencelaw10_roomy_int32_L1.eq_2, if_pos (decide_eq_true h1), chk_pos (by simp only [List.length_cons, List.length_nil, maxLen]; omega), h2]
  rw [List.nil_append, s (n + 5) _ 0 1 (by omega) (by decide) (by omega), s (n + 4) _ 1 2 (by omega) (by decide) (by simp; omega), s (n + 3) _ 2 3 (by omega) (by decide) (by simp; omega), s (n + 2) _ 3 4 (by omega) (by decide) (by simp; omega),
    s (n + 1) _ 4 5 (by omega) (by decide) (by simp; omega), m_credencelaw10_roomy_int32_L1.eq_2, if_neg (by decide), chk_pos (by simp; omega)]
  simp

theorem plain_int32_L1 (N : Nat) (l : List Int) (hf : ∀ x ∈ l, fit_int32 x) (hlen : l.length ≤ 17592186044416) : ∀ (fuel k : Nat), k ≤ l.length → l.length - k < fuel → m_credencelaw10_plain_int32_L1 N l fuel (l.take k) (k : Int) = some l := by
  intro fuel
  induction fuel with
  | zero => intro k _ h; omega
  | succ fuel ih =>
    intro k hk hfu
    rw [m_credencelaw10_plain_int32_L1.eq_2]
    by_cases hlt : k < l.length
    · have hx := hf _ (getD_mem hlt)
      rw [if_pos (decide_eq_true (by omega)), at_get hlt]
      simp only [Option.bind_some]
      rw [hx.2]
      rw [chk_pos (by simp only [List.length_take, List.length_cons, List.length_nil, maxLen]; omega), wrap_up (by omega)]
      have ht : l.take k ++ [l.getD k 0] = l.take (k + 1) := by
        rw [List.take_add_one]; simp [hlt]
      rw [ht]; exact ih (k + 1) (by omega) (by omega)
    · rw [if_neg (by simp; omega), List.take_of_length_le (by omega)]
theorem plain_int32 (N : Nat) (l : List Int) (hf : ∀ x ∈ l, fit_int32 x) (hN : l.length < N) (hlen : l.length ≤ 17592186044416) : m_credencelaw10_plain_int32 N l = some l := by
  have := plain_int32_L1 N l hf hlen N 0 (by omega) (by omega)
  unfold m_credencelaw10_plain_int32
  simpa using this

theorem same_int32_L1 (N : Nat) (l : List Int) (hf : ∀ x ∈ l, fit_int32 x) (hlen : l.length < 4611686018427387904) : ∀ (fuel k : Nat), k ≤ l.length → l.length - k < fuel → m_credencelaw10_same_int32_L1 N l l fuel (k : Int) = some true := by
  intro fuel
  induction fuel with
  | zero => intro k _ h; omega
  | succ fuel ih =>
    intro k hk hfu
    rw [m_credencelaw10_same_int32_L1.eq_2]
    by_cases hlt : k < l.length
    · have hx := hf _ (getD_mem hlt)
      rw [if_pos (decide_eq_true (by omega)), at_get hlt]
      simp only [Option.bind_some]
      rw [hx.2]
      rw [if_neg (by simp), wrap_up (by omega)]
      exact ih (k + 1) (by omega) (by omega)
    · rw [if_neg (by simp; omega)]
theorem same_int32 (N : Nat) (l : List Int) (hf : ∀ x ∈ l, fit_int32 x) (hN : l.length < N) (hlen : l.length < 4611686018427387904) : m_credencelaw10_same_int32 N l l = some true := by
  unfold m_credencelaw10_same_int32
  rw [if_neg (by simp)]
  exact same_int32_L1 N l hf hlen N 0 (by omega) (by omega)

theorem kept_int32_L1 (N n0 : Nat) (l : List Int) (hn : n0 = l.length) (hlen : l.length ≤ 17592186044416) : ∀ (fuel k : Nat), k ≤ l.length + 5 → l.length + 5 - k < fuel → m_credencelaw10_kept_int32_L1 N n0 (l ++ [77, 77, 77, 77, 77]) l fuel (k : Int) = some true := by
  intro fuel
  induction fuel with
  | zero => intro k _ h; omega
  | succ fuel ih =>
    intro k hk hfu
    rw [m_credencelaw10_kept_int32_L1.eq_2]
    have hw : IntKind.i64.wrap ((l.length : Int) + 5) = ((l.length + 5 : Nat) : Int) := by rw [w64 (by omega)]; omega
    have hL : (l ++ [77, 77, 77, 77, 77]).take (Int.toNat (IntKind.i64.wrap ((l.length : Int) + 5))) = l ++ [77, 77, 77, 77, 77] := by
      rw [hw, Int.toNat_natCast, List.take_of_length_le (by simp)]
    rw [hL]
    have hlen5 : (l ++ [77, 77, 77, 77, 77] : List Int).length = l.length + 5 := by simp
    by_cases h5 : k < l.length + 5
    · rw [if_pos (decide_eq_true (by rw [hlen5]; omega))]
      rw [at_get (by rw [hlen5]; exact h5)]
      simp only [m_credencelaw10_kept_int32_J2, m_credencelaw10_kept_int32_J1, Option.bind_some, wrap_up (show k < 4611686018427387904 by omega), ih (k + 1) (by omega) (by omega)]
      by_cases hlt : k < l.length
      · have hg : (l ++ [77, 77, 77, 77, 77]).getD k 0 = l.getD k 0 := by
          rw [List.getD_eq_getElem?_getD, List.getD_eq_getElem?_getD, List.getElem?_append_left hlt]
        have h6 : ¬ ((l.length : Int) ≤ (k : Int)) := by omega
        rw [if_pos (decide_eq_true (by omega)), at_get hlt, hg]
        simp [h6]
      · have hg : (l ++ [77, 77, 77, 77, 77]).getD k 0 = 77 := by
          rw [List.getD_eq_getElem?_getD, List.getElem?_append_right (by omega)]
          have : k - l.length < 5 := by omega
          generalize k - l.length = j at this
          match j, this with
          | 0, _ => rfl
          | 1, _ => rfl
          | 2, _ => rfl
          | 3, _ => rfl
          | 4, _ => rfl
        have h6 : ((l.length : Int) ≤ (k : Int)) := by omega
        rw [if_neg (by simp; omega), hg]
        simp [h6]
    · rw [if_neg (by rw [hlen5]; simp; omega)]
      simp [hn]
theorem kept_int32 (N : Nat) (l : List Int) (hN : l.length + 5 < N) (hlen : l.length ≤ 17592186044416) : m_credencelaw10_kept_int32 N l.length (l ++ [77, 77, 77, 77, 77]) l = some true := by
  unfold m_credencelaw10_kept_int32
  rw [chk_pos (by rw [w64 (by omega)]; simp; omega)]
  exact kept_int32_L1 N l.length l rfl hlen N 0 (by omega) (by omega)

end Go.Proofs.Ytgfaoflipkmpcaa
