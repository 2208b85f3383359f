/-
  What functions of the program compute, as plain Lean functions (m_..), and proofs that they compute it (c_..). Printed by a program of the author; no conditions.
-/
import Derived.Test.YtgfaoflipkmpcaaRange
import Derived.Test.YtgfaoflipkmpcaaProg
set_option linter.unusedVariables false
namespace Go.Proofs.Ytgfaoflipkmpcaa
open Go Go.RowKit


theorem el3_22 : ElemOk Try.prog 3 1 8 := ⟨Try.t3, _, rfl, rfl, rfl, rfl, rfl⟩

def m_credencelaw10_roomy_int_L1 (N : Nat) (p0_l : List Int) : Nat → (List Int) → Int → Option (Nat × (List Int))
  | 0, _, _ => none
  | n_10 + 1, m_15, i_17 => if (decide (i_17 < 5)) = true then (chk ((m_15.length + [77].length) * 8 ≤ 140737488355328 ∧ m_15.length + [77].length ≤ maxLen) ((m_credencelaw10_roomy_int_L1 N p0_l n_10) (m_15 ++ [77]) (IntKind.i64.wrap (i_17 + 1)))) else (chk (0 ≤ (p0_l.length : Int) ∧ (p0_l.length : Int) ≤ (m_15.length : Int)) (some ((Int.toNat (p0_l.length : Int)), m_15)))

def m_credencelaw10_roomy_int (N : Nat) (p0_l : List Int) : Option (Nat × (List Int)) :=
  chk ((([] : List Int).length + p0_l.length) * 8 ≤ 140737488355328 ∧ ([] : List Int).length + p0_l.length ≤ maxLen) (m_credencelaw10_roomy_int_L1 N p0_l N (([] : List Int) ++ p0_l) 0)

set_option maxRecDepth 100000 in
theorem c_credencelaw10_roomy_int (N : Nat) (c1 : Nat) (col : Col) (w0 : World) (a0 : Option Addr) (cap0 : Nat) (p0_l : List Int) (h0 : Sl (Rep.int .i64) col w0 a0 cap0 p0_l) (r : (Nat × (List Int))) (hm : m_credencelaw10_roomy_int N p0_l = some r) :
    Calls Try.prog 22 #[(.slice a0 p0_l.length cap0)] w0 (fun e w' => ∃ (col' : Col) (ra1 : Option Addr) (rc1 : Nat), e = .returned (.slice ra1 (r.2.take r.1).length rc1) ∧ Grow col w0 col' w' ∧ Own (Rep.int .i64) 3 c1 col' w' ra1 rc1 r.2) := by
  refine calls_of1 2 (m := 19) (args := [(.slice a0 p0_l.length cap0)]) Try.func22 rfl rfl rfl rfl rfl ?_
  rw [m_credencelaw10_roomy_int.eq_1] at hm
  have hst := St.start col w0
  replace h0 := h0.keep (Stay.start col w0)
  refine wseq ?_
  refine wregion ?_
  refine lv (v := (.slice none (([] : List Int).length) 0)) rfl rfl (r_assign rfl) ?_
  refine lnil ?_
  refine wseq ?_
  refine wregion ?_
  refine lv (v := (.slice none (([] : List Int).length) 0)) rfl rfl (r_assign rfl) ?_
  refine lnil ?_
  refine wseq ?_
  refine wregion ?_
  refine lv (v := (.slice none (([] : List Int).length) 0)) rfl rfl (r_move rfl) ?_
  refine lv (v := (.slice a0 p0_l.length cap0)) rfl rfl (r_move rfl) ?_
  obtain ⟨hb_1, hm⟩ := chk_some hm
  refine l_append (col := (col0 col)) (w := w0) (r := (Rep.int .i64)) (c := 2) (xs := ([] : List Int)) (ys := p0_l) Own.nil h0 rfl Try.underlying22 el3_22 rfl rfl rfl hb_1.1 hb_1.2 (by decide) ?_
  intro a_3 cap_4 w_5 col_6 hk_7 hs_8 h_9
  replace h0 := h0.kp hk_7 (by decide)
  replace hst := hst.kp hk_7 hs_8 (by decide) (by decide)
  refine lv (v := (.slice a_3 ((([] : List Int) ++ p0_l).length) cap_4)) rfl rfl (r_assign rfl) ?_
  refine lnil ?_
  refine wseq ?_
  refine wseq ?_
  refine wregion ?_
  refine lv (v := (.int .i64 0)) rfl rfl (r_assign rfl) ?_
  refine lnil ?_
  refine wblock ?_
  refine wloop (fun n f w_11 => ∃ (col_12 : Col) (a_13 : Option Addr) (cap_14 : Nat) (m_15 : List Int) (i_17 : Int) (n_10 : Nat), n_10 = n ∧ m_credencelaw10_roomy_int_L1 N p0_l n_10 m_15 i_17 = some r ∧ St w0 (col0 col) col_12 w_11 ∧ Sl (Rep.int .i64) col_12 w_11 a0 cap0 p0_l ∧ Own (Rep.int .i64) 3 2 col_12 w_11 a_13 cap_14 m_15 ∧ f 0 = (.slice a0 p0_l.length cap0) ∧ f 3 = (.slice a_13 m_15.length cap_14) ∧ f 4 = (.int .i64 i_17) ∧ f 1000000 = (enc [])) N ⟨col_6, a_3, cap_4, (([] : List Int) ++ p0_l), 0, N, rfl, hm, hst, h0, h_9, rfl, rfl, rfl, rfl⟩ ?_
  clear hm; intro n f w_11 hI
  obtain ⟨col_12, a_13, cap_14, m_15, i_17, n_10, hn, hm, hst, h0, h_16, hs0, hs3, hs4, hs1000000⟩ := hI
  subst hn
  refine .ld (d := 0) (v := (.slice a0 p0_l.length cap0)) hs0 ?_
  refine .ld (d := 3) (v := (.slice a_13 m_15.length cap_14)) hs3 ?_
  refine .ld (d := 4) (v := (.int .i64 i_17)) hs4 ?_
  refine .ld (d := 1000000) (v := (enc [])) hs1000000 ?_
  clear hs0 hs3 hs4 hs1000000
  cases n_10 with
  | zero => rw [m_credencelaw10_roomy_int_L1.eq_1] at hm; cases hm
  | succ n_10 =>
    rw [m_credencelaw10_roomy_int_L1.eq_2] at hm
    refine wseq ?_
    refine wseq ?_
    refine wregion ?_
    refine lv (v := (.int .i64 i_17)) rfl rfl (r_move rfl) ?_
    refine lv (v := (.bool (decide (i_17 < 5)))) rfl rfl (r_lss i_17 5 rfl rfl) ?_
    refine lnil ?_
    refine wcond (decide (i_17 < 5)) rfl (fun hb => ?_) (fun hb => ?_)
    · rw [if_pos hb] at hm
      clear hb
      refine wskip ?_
      refine wseq ?_
      refine wblock ?_
      refine wregion ?_
      refine lv (v := (.slice a_13 m_15.length cap_14)) rfl rfl (r_move rfl) ?_
      refine l_lit (col := col_12) (r := (Rep.int .i64)) (xs := [77]) [(.int .i64 77)] 3 rfl Try.underlying22 el3_22 rfl rfl rfl rfl rfl rfl (by intro v hv; simp only [List.mem_cons, List.not_mem_nil, or_false] at hv; subst hv; rfl) ⟨_, _, rfl, rfl, rfl⟩ ?_
      intro a_18 w_19 col_20 hg_21 h_22
      replace h0 := h0.gr hg_21
      replace h_16 := h_16.gr hg_21
      replace hst := hst.grow hg_21
      replace h0 := h0.froz 3
      replace h_16 := h_16.froz 3 (by decide)
      replace hst := hst.froz 3 (by decide) (by decide)
      replace h_22 := h_22.toSl
      obtain ⟨hb_23, hm⟩ := chk_some hm
      refine l_append (col := (froz 3 col_20)) (w := w_19) (r := (Rep.int .i64)) (c := 2) (xs := m_15) (ys := [77]) h_16 h_22 rfl Try.underlying22 el3_22 rfl rfl rfl hb_23.1 hb_23.2 (by decide) ?_
      intro a_25 cap_26 w_27 col_28 hk_29 hs_30 h_31
      replace h0 := h0.kp hk_29 (by decide)
      replace h_22 := h_22.kp hk_29 (by decide)
      replace hst := hst.kp hk_29 hs_30 (by decide) (by decide)
      clear h_16
      refine lv (v := (.slice a_25 ((m_15 ++ [77]).length) cap_26)) rfl rfl (r_assign rfl) ?_
      refine lnil ?_
      refine wregion ?_
      refine lv (v := (.int .i64 i_17)) rfl rfl (r_move rfl) ?_
      refine lv (v := (.int .i64 (IntKind.i64.wrap (i_17 + 1)))) rfl rfl (r_add i_17 1 rfl rfl) ?_
      refine lv (v := (.int .i64 (IntKind.i64.wrap (i_17 + 1)))) rfl rfl (r_assign rfl) ?_
      refine lnil ?_
      exact ⟨n_10, by omega, ⟨col_28, a_25, cap_26, (m_15 ++ [77]), (IntKind.i64.wrap (i_17 + 1)), n_10, rfl, hm, hst, h0, h_31, rfl, rfl, rfl, rfl⟩⟩
    · rw [if_neg (by rw [hb]; decide)] at hm
      clear hb
      refine wexit (inB_hit ?_)
      refine wseq ?_
      refine wregion ?_
      refine lv (v := (.slice a_13 m_15.length cap_14)) rfl rfl (r_move rfl) ?_
      refine lv (v := (.slice a0 p0_l.length cap0)) rfl rfl (r_move rfl) ?_
      refine lv (v := (.int .i64 (p0_l.length : Int))) rfl rfl (r_len Try.underlying22 rfl) ?_
      obtain ⟨hb_32, hm⟩ := chk_some hm
      refine lv (v := .slice a_13 (Int.toNat (p0_l.length : Int)) cap_14) rfl rfl (r_sliceH Try.underlying22 Try.sizeOf3 rfl rfl hb_32.1 (by have := h_16.lecap; have := hb_32.2; omega)) ?_
      refine .ld (d := 18) (v := (.slice a_13 ((m_15.take (Int.toNat (p0_l.length : Int))).length) cap_14)) (congrArg (fun n => Value.slice a_13 n cap_14) (show (Int.toNat (p0_l.length : Int)) = (m_15.take (Int.toNat (p0_l.length : Int))).length by rw [List.length_take]; have := hb_32.2; omega)) ?_
      refine lv (v := (.slice a_13 ((m_15.take (Int.toNat (p0_l.length : Int))).length) cap_14)) rfl rfl (r_assign rfl) ?_
      refine lnil ?_
      refine wret ?_
      cases hm
      exact ⟨rfl, colF w0.heap.size col col_12 (fun n => bif Nat.beq n 2 then c1 else 0), a_13, cap_14, rfl, hst.fin (fun n => bif Nat.beq n 2 then c1 else 0), hst.finOwn (g := (fun n => bif Nat.beq n 2 then c1 else 0)) rfl h_16 (by decide) (by decide) rfl⟩




def m_radix_Count_int_L2  : List Int → Int → Option (Int × Int)
  | [], n_12 => some (n_12, 0)
  | x_13 :: l_14, n_12 => chk (n_12 ≠ 0) (if (decide ((IntKind.i64.wrap (Int.tdiv 2147483647 n_12)) < x_13)) = true then (some (0, 4)) else ((m_radix_Count_int_L2 l_14) (IntKind.i64.wrap (n_12 * x_13))))

def m_radix_Count_int_J1 (kk_L1 : (Bool → Option (Int × Int))) (none_18 : Bool) : Option (Int × Int) :=
  kk_L1 none_18

def m_radix_Count_int_L1 (p0_sizes : List Int) : List Int → Bool → Option (Int × Int)
  | [], none_5 => if none_5 = true then (some (0, 0)) else (m_radix_Count_int_L2 p0_sizes 1)
  | x_6 :: l_7, none_5 => if (decide (x_6 < 0)) = true then (some (0, 3)) else (if none_5 = true then (m_radix_Count_int_J1 (m_radix_Count_int_L1 p0_sizes l_7) true) else (m_radix_Count_int_J1 (m_radix_Count_int_L1 p0_sizes l_7) (decide (x_6 = 0))))

def m_radix_Count_int (p0_sizes : List Int) : Option (Int × Int) :=
  m_radix_Count_int_L1 p0_sizes p0_sizes false

set_option maxRecDepth 100000 in
theorem c_radix_Count_int (col : Col) (w0 : World) (a0 : Option Addr) (cap0 : Nat) (p0_sizes : List Int) (h0 : Sl (Rep.int .i64) col w0 a0 cap0 p0_sizes) (r : (Int × Int)) (hm : m_radix_Count_int p0_sizes = some r) :
    Calls Try.prog 14 #[(.slice a0 p0_sizes.length cap0)] w0 (fun e w' => e = .returned (.tuple #[.int .i64 r.1, .int .i64 r.2]) ∧ Below w0.heap.size w0 w') := by
  refine calls_of2 2 3 (m := 40) (args := [(.slice a0 p0_sizes.length cap0)]) Try.func14 rfl rfl rfl rfl rfl ?_
  rw [m_radix_Count_int.eq_1] at hm
  have hst := St.start col w0
  replace h0 := h0.keep (Stay.start col w0)
  refine wseq ?_
  refine wregion ?_
  refine lv (v := (.int .i64 0)) rfl rfl (r_assign rfl) ?_
  refine lv (v := (.int .i64 0)) rfl rfl (r_assign rfl) ?_
  refine lnil ?_
  refine wseq ?_
  refine wregion ?_
  refine lv (v := (.bool false)) rfl rfl (r_assign rfl) ?_
  refine lnil ?_
  refine wseq ?_
  refine wseq ?_
  refine wregion ?_
  refine lv (v := (.slice a0 p0_sizes.length cap0)) rfl rfl (r_move rfl) ?_
  refine lv (v := (.int .i64 (p0_sizes.length : Int))) rfl rfl (r_len Try.underlying22 rfl) ?_
  refine lv (v := (.int .i64 0)) rfl rfl (r_move rfl) ?_
  refine lnil ?_
  refine wblock ?_
  refine wloop (fun n f w_3 => ∃ (col_4 : Col) (none_5 : Bool) (k_1 : Nat) (l_2 : List Int), n = l_2.length ∧ p0_sizes.drop k_1 = l_2 ∧ m_radix_Count_int_L1 p0_sizes l_2 none_5 = some r ∧ St w0 (col0 col) col_4 w_3 ∧ Sl (Rep.int .i64) col_4 w_3 a0 cap0 p0_sizes ∧ f 12 = (.int .i64 (k_1 : Int)) ∧ f 0 = (.slice a0 p0_sizes.length cap0) ∧ f 4 = (.bool none_5) ∧ f 10 = (.slice a0 p0_sizes.length cap0) ∧ f 11 = (.int .i64 (p0_sizes.length : Int)) ∧ f 1000000 = (enc [])) p0_sizes.length ⟨(col0 col), false, 0, p0_sizes, rfl, rfl, hm, hst, h0, rfl, rfl, rfl, rfl, rfl, rfl⟩ ?_
  clear hm; intro n f w_3 hI
  obtain ⟨col_4, none_5, k_1, l_2, hn, hl, hm, hst, h0, hs12, hs0, hs4, hs10, hs11, hs1000000⟩ := hI
  subst hn
  refine .ld (d := 12) (v := (.int .i64 (k_1 : Int))) hs12 ?_
  refine .ld (d := 0) (v := (.slice a0 p0_sizes.length cap0)) hs0 ?_
  refine .ld (d := 4) (v := (.bool none_5)) hs4 ?_
  refine .ld (d := 10) (v := (.slice a0 p0_sizes.length cap0)) hs10 ?_
  refine .ld (d := 11) (v := (.int .i64 (p0_sizes.length : Int))) hs11 ?_
  refine .ld (d := 1000000) (v := (enc [])) hs1000000 ?_
  clear hs12 hs0 hs4 hs10 hs11 hs1000000
  cases l_2 with
  | nil =>
    have hk : ¬ ((k_1 : Int) < (p0_sizes.length : Int)) := by have := List.drop_eq_nil_iff.1 hl; omega
    have hkb := decide_eq_false hk
    rw [m_radix_Count_int_L1.eq_1] at hm
    refine wseq ?_
    refine wregion ?_
    refine lv (v := (.bool (decide ((k_1 : Int) < (p0_sizes.length : Int))))) rfl rfl (r_lss (k_1 : Int) (p0_sizes.length : Int) rfl rfl) ?_
    refine lnil ?_
    refine wseq ?_
    refine wcondF (congrArg Value.bool hkb) ?_
    refine wexit (inB_hit ?_)
    refine wseq ?_
    refine wseq ?_
    refine wregion ?_
    refine lv (v := (.bool none_5)) rfl rfl (r_move rfl) ?_
    refine lnil ?_
    refine wcond (none_5) rfl (fun hb => ?_) (fun hb => ?_)
    · rw [if_pos hb] at hm
      clear hb
      refine wseq ?_
      refine wregion ?_
      refine lv (v := (.int .i64 0)) rfl rfl (r_assign rfl) ?_
      refine lv (v := (.int .i64 0)) rfl rfl (r_assign rfl) ?_
      refine lnil ?_
      refine wret ?_
      cases hm
      exact ⟨rfl, rfl, hst.below⟩
    · rw [if_neg (by rw [hb]; decide)] at hm
      clear hb
      refine wskip ?_
      refine wseq ?_
      refine wregion ?_
      refine lv (v := (.int .i64 1)) rfl rfl (r_assign rfl) ?_
      refine lnil ?_
      refine wseq ?_
      refine wseq ?_
      refine wregion ?_
      refine lv (v := (.slice a0 p0_sizes.length cap0)) rfl rfl (r_move rfl) ?_
      refine lv (v := (.int .i64 (p0_sizes.length : Int))) rfl rfl (r_len Try.underlying22 rfl) ?_
      refine lv (v := (.int .i64 0)) rfl rfl (r_move rfl) ?_
      refine lnil ?_
      refine wblock ?_
      refine wloop (fun n f w_10 => ∃ (col_11 : Col) (n_12 : Int) (k_8 : Nat) (l_9 : List Int), n = l_9.length ∧ p0_sizes.drop k_8 = l_9 ∧ m_radix_Count_int_L2 l_9 n_12 = some r ∧ St w0 (col0 col) col_11 w_10 ∧ Sl (Rep.int .i64) col_11 w_10 a0 cap0 p0_sizes ∧ f 27 = (.int .i64 (k_8 : Int)) ∧ f 0 = (.slice a0 p0_sizes.length cap0) ∧ f 7 = (.int .i64 n_12) ∧ f 25 = (.slice a0 p0_sizes.length cap0) ∧ f 26 = (.int .i64 (p0_sizes.length : Int)) ∧ f 1000000 = (enc [])) p0_sizes.length ⟨col_4, 1, 0, p0_sizes, rfl, rfl, hm, hst, h0, rfl, rfl, rfl, rfl, rfl, rfl⟩ ?_
      clear hm; intro n f w_10 hI
      obtain ⟨col_11, n_12, k_8, l_9, hn, hl, hm, hst, h0, hs27, hs0, hs7, hs25, hs26, hs1000000⟩ := hI
      subst hn
      refine .ld (d := 27) (v := (.int .i64 (k_8 : Int))) hs27 ?_
      refine .ld (d := 0) (v := (.slice a0 p0_sizes.length cap0)) hs0 ?_
      refine .ld (d := 7) (v := (.int .i64 n_12)) hs7 ?_
      refine .ld (d := 25) (v := (.slice a0 p0_sizes.length cap0)) hs25 ?_
      refine .ld (d := 26) (v := (.int .i64 (p0_sizes.length : Int))) hs26 ?_
      refine .ld (d := 1000000) (v := (enc [])) hs1000000 ?_
      clear hs27 hs0 hs7 hs25 hs26 hs1000000
      cases l_9 with
      | nil =>
        have hk : ¬ ((k_8 : Int) < (p0_sizes.length : Int)) := by have := List.drop_eq_nil_iff.1 hl; omega
        have hkb := decide_eq_false hk
        rw [m_radix_Count_int_L2.eq_1] at hm
        refine wseq ?_
        refine wregion ?_
        refine lv (v := (.bool (decide ((k_8 : Int) < (p0_sizes.length : Int))))) rfl rfl (r_lss (k_8 : Int) (p0_sizes.length : Int) rfl rfl) ?_
        refine lnil ?_
        refine wseq ?_
        refine wcondF (congrArg Value.bool hkb) ?_
        refine wexit (inB_hit ?_)
        refine wseq ?_
        refine wregion ?_
        refine lv (v := (.int .i64 n_12)) rfl rfl (r_move rfl) ?_
        refine lv (v := (.int .i64 n_12)) rfl rfl (r_assign rfl) ?_
        refine lv (v := (.int .i64 0)) rfl rfl (r_assign rfl) ?_
        refine lnil ?_
        refine wret ?_
        cases hm
        exact ⟨rfl, rfl, hst.below⟩
      | cons x_13 l_14 =>
        obtain ⟨hat, hl2, hlt⟩ := drop_get hl
        have hk : (k_8 : Int) < (p0_sizes.length : Int) := by omega
        have hkb := decide_eq_true hk
        rw [m_radix_Count_int_L2.eq_2] at hm
        refine wseq ?_
        refine wregion ?_
        refine lv (v := (.bool (decide ((k_8 : Int) < (p0_sizes.length : Int))))) rfl rfl (r_lss (k_8 : Int) (p0_sizes.length : Int) rfl rfl) ?_
        refine lnil ?_
        refine wseq ?_
        refine wcondT (congrArg Value.bool hkb) ?_
        refine wskip ?_
        refine wseq ?_
        refine wblock ?_
        refine wseq ?_
        refine wregion ?_
        refine lv (v := (sptr a0 (Int.toNat (k_8 : Int) * 1))) rfl rfl (r_idx Try.underlying22 Try.sizeOf3 rfl rfl (at?_some hat).1 (at?_some hat).2.1 (h0.addr hat)) ?_
        refine lv (v := (.int .i64 x_13)) rfl rfl (r_ld Try.isAgg3 rfl (h0.atInt hat)) ?_
        refine lv (v := (.int .i64 x_13)) rfl rfl (r_assign rfl) ?_
        refine lnil ?_
        refine wseq ?_
        refine wseq ?_
        refine wregion ?_
        refine lv (v := (.int .i64 x_13)) rfl rfl (r_move rfl) ?_
        refine lv (v := (.int .i64 n_12)) rfl rfl (r_move rfl) ?_
        obtain ⟨h0_15, hm⟩ := chk_some hm
        refine lv (v := (.int .i64 (IntKind.i64.wrap (Int.tdiv 2147483647 n_12)))) rfl rfl (r_quo 2147483647 n_12 rfl rfl h0_15) ?_
        refine lv (v := (.bool (decide ((IntKind.i64.wrap (Int.tdiv 2147483647 n_12)) < x_13)))) rfl rfl (r_gtr x_13 (IntKind.i64.wrap (Int.tdiv 2147483647 n_12)) rfl rfl) ?_
        refine lnil ?_
        refine wcond (decide ((IntKind.i64.wrap (Int.tdiv 2147483647 n_12)) < x_13)) rfl (fun hb => ?_) (fun hb => ?_)
        · rw [if_pos hb] at hm
          clear hb
          refine wseq ?_
          refine wregion ?_
          refine lv (v := (.int .i64 0)) rfl rfl (r_assign rfl) ?_
          refine lv (v := (.int .i64 4)) rfl rfl (r_assign rfl) ?_
          refine lnil ?_
          refine wret ?_
          cases hm
          exact ⟨rfl, rfl, hst.below⟩
        · rw [if_neg (by rw [hb]; decide)] at hm
          clear hb
          refine wskip ?_
          refine wregion ?_
          refine lv (v := (.int .i64 n_12)) rfl rfl (r_move rfl) ?_
          refine lv (v := (.int .i64 x_13)) rfl rfl (r_move rfl) ?_
          refine lv (v := (.int .i64 (IntKind.i64.wrap (n_12 * x_13)))) rfl rfl (r_mul n_12 x_13 rfl rfl) ?_
          refine lv (v := (.int .i64 (IntKind.i64.wrap (n_12 * x_13)))) rfl rfl (r_assign rfl) ?_
          refine lnil ?_
          refine wregion ?_
          refine lv (v := (.int .i64 (IntKind.i64.wrap ((k_8 : Int) + 1)))) rfl rfl (r_add (k_8 : Int) 1 rfl rfl) ?_
          refine lv (v := (.int .i64 (IntKind.i64.wrap ((k_8 : Int) + 1)))) rfl rfl (r_move rfl) ?_
          refine lnil ?_
          exact ⟨l_14.length, by simp, ⟨col_11, (IntKind.i64.wrap (n_12 * x_13)), (k_8 + 1), l_14, rfl, hl2, hm, hst, h0, (congrArg (Value.int .i64) (wrap_succ (Nat.lt_of_lt_of_le hlt h0.1.1))), rfl, rfl, rfl, rfl, rfl⟩⟩
  | cons x_6 l_7 =>
    obtain ⟨hat, hl2, hlt⟩ := drop_get hl
    have hk : (k_1 : Int) < (p0_sizes.length : Int) := by omega
    have hkb := decide_eq_true hk
    rw [m_radix_Count_int_L1.eq_2] at hm
    refine wseq ?_
    refine wregion ?_
    refine lv (v := (.bool (decide ((k_1 : Int) < (p0_sizes.length : Int))))) rfl rfl (r_lss (k_1 : Int) (p0_sizes.length : Int) rfl rfl) ?_
    refine lnil ?_
    refine wseq ?_
    refine wcondT (congrArg Value.bool hkb) ?_
    refine wskip ?_
    refine wseq ?_
    refine Wp.cut (fun f w_16 => ∃ (col_17 : Col) (none_18 : Bool), m_radix_Count_int_J1 (m_radix_Count_int_L1 p0_sizes l_7) none_18 = some r ∧ St w0 (col0 col) col_17 w_16 ∧ Sl (Rep.int .i64) col_17 w_16 a0 cap0 p0_sizes ∧ f 0 = (.slice a0 p0_sizes.length cap0) ∧ f 4 = (.bool none_18) ∧ f 10 = (.slice a0 p0_sizes.length cap0) ∧ f 11 = (.int .i64 (p0_sizes.length : Int)) ∧ f 12 = (.int .i64 (k_1 : Int)) ∧ f 1000000 = (enc [])) ?_ ?_
    · intro f w_16 hJ
      obtain ⟨col_17, none_18, hm, hst, h0, hs0, hs4, hs10, hs11, hs12, hs1000000⟩ := hJ
      rw [m_radix_Count_int_J1.eq_1] at hm
      refine .ld (d := 0) (v := (.slice a0 p0_sizes.length cap0)) hs0 ?_
      refine .ld (d := 4) (v := (.bool none_18)) hs4 ?_
      refine .ld (d := 10) (v := (.slice a0 p0_sizes.length cap0)) hs10 ?_
      refine .ld (d := 11) (v := (.int .i64 (p0_sizes.length : Int))) hs11 ?_
      refine .ld (d := 12) (v := (.int .i64 (k_1 : Int))) hs12 ?_
      refine .ld (d := 1000000) (v := (enc [])) hs1000000 ?_
      clear hs0 hs4 hs10 hs11 hs12 hs1000000
      refine wregion ?_
      refine lv (v := (.int .i64 (IntKind.i64.wrap ((k_1 : Int) + 1)))) rfl rfl (r_add (k_1 : Int) 1 rfl rfl) ?_
      refine lv (v := (.int .i64 (IntKind.i64.wrap ((k_1 : Int) + 1)))) rfl rfl (r_move rfl) ?_
      refine lnil ?_
      exact ⟨l_7.length, by simp, ⟨col_17, none_18, (k_1 + 1), l_7, rfl, hl2, hm, hst, h0, (congrArg (Value.int .i64) (wrap_succ (Nat.lt_of_lt_of_le hlt h0.1.1))), rfl, rfl, rfl, rfl, rfl⟩⟩
    · refine wblock ?_
      refine wseq ?_
      refine wregion ?_
      refine lv (v := (sptr a0 (Int.toNat (k_1 : Int) * 1))) rfl rfl (r_idx Try.underlying22 Try.sizeOf3 rfl rfl (at?_some hat).1 (at?_some hat).2.1 (h0.addr hat)) ?_
      refine lv (v := (.int .i64 x_6)) rfl rfl (r_ld Try.isAgg3 rfl (h0.atInt hat)) ?_
      refine lv (v := (.int .i64 x_6)) rfl rfl (r_assign rfl) ?_
      refine lnil ?_
      refine wseq ?_
      refine wseq ?_
      refine wregion ?_
      refine lv (v := (.int .i64 x_6)) rfl rfl (r_move rfl) ?_
      refine lv (v := (.bool (decide (x_6 < 0)))) rfl rfl (r_lss x_6 0 rfl rfl) ?_
      refine lnil ?_
      refine wcond (decide (x_6 < 0)) rfl (fun hb => ?_) (fun hb => ?_)
      · rw [if_pos hb] at hm
        clear hb
        refine wseq ?_
        refine wregion ?_
        refine lv (v := (.int .i64 0)) rfl rfl (r_assign rfl) ?_
        refine lv (v := (.int .i64 3)) rfl rfl (r_assign rfl) ?_
        refine lnil ?_
        refine wret ?_
        cases hm
        exact ⟨rfl, rfl, hst.below⟩
      · rw [if_neg (by rw [hb]; decide)] at hm
        clear hb
        refine wskip ?_
        refine wregion ?_
        refine lv (v := (.bool none_5)) rfl rfl (r_move rfl) ?_
        refine lv (v := (.bool none_5)) rfl rfl (r_move rfl) ?_
        by_cases hg_19 : none_5 = true
        · rw [if_pos hg_19] at hm
          refine lp (b := none_5) 19 rfl rfl rfl rfl (by rw [hg_19]; rfl) ?_
          refine lp (b := none_5) 19 rfl rfl rfl rfl (by rw [hg_19]; rfl) ?_
          refine lv (v := (.bool true)) rfl rfl (r_pickT (congrArg Value.bool hg_19) rfl) ?_
          refine lv (v := (.bool true)) rfl rfl (r_assign rfl) ?_
          refine lnil ?_
          exact ⟨col_4, true, hm, hst, h0, rfl, rfl, rfl, rfl, rfl, rfl⟩
        · rw [if_neg hg_19] at hm
          replace hg_19 := Bool.eq_false_iff.2 hg_19
          refine lg (b := none_5) 19 rfl rfl rfl (by rw [hg_19]; rfl) ?_
          refine lv (v := (.int .i64 x_6)) rfl rfl (r_move rfl) ?_
          refine lg (b := none_5) 19 rfl rfl rfl (by rw [hg_19]; rfl) ?_
          refine lv (v := (.bool (decide (x_6 = 0)))) rfl rfl (r_eql x_6 0 rfl rfl) ?_
          refine lv (v := (.bool (decide (x_6 = 0)))) rfl rfl (r_pickF (congrArg Value.bool hg_19) rfl) ?_
          refine lv (v := (.bool (decide (x_6 = 0)))) rfl rfl (r_assign rfl) ?_
          refine lnil ?_
          exact ⟨col_4, (decide (x_6 = 0)), hm, hst, h0, rfl, rfl, rfl, rfl, rfl, rfl⟩



theorem el3_23 : ElemOk Try.prog 3 1 8 := ⟨Try.t3, _, rfl, rfl, rfl, rfl, rfl⟩

def m_credencelaw10_plain_int_L1 (N : Nat) (p0_l : List Int) : Nat → (List Int) → Int → Option (List Int)
  | 0, _, _ => none
  | n_1 + 1, out_6, i_8 => if (decide (i_8 < (p0_l.length : Int))) = true then ((at? p0_l i_8).bind fun e_9 => chk ((out_6.length + [e_9].length) * 8 ≤ 140737488355328 ∧ out_6.length + [e_9].length ≤ maxLen) ((m_credencelaw10_plain_int_L1 N p0_l n_1) (out_6 ++ [e_9]) (IntKind.i64.wrap (i_8 + 1)))) else (some out_6)

def m_credencelaw10_plain_int (N : Nat) (p0_l : List Int) : Option (List Int) :=
  m_credencelaw10_plain_int_L1 N p0_l N ([] : List Int) 0

set_option maxRecDepth 100000 in
theorem c_credencelaw10_plain_int (N : Nat) (c1 : Nat) (col : Col) (w0 : World) (a0 : Option Addr) (cap0 : Nat) (p0_l : List Int) (h0 : Sl (Rep.int .i64) col w0 a0 cap0 p0_l) (r : (List Int)) (hm : m_credencelaw10_plain_int N p0_l = some r) :
    Calls Try.prog 23 #[(.slice a0 p0_l.length cap0)] w0 (fun e w' => ∃ (col' : Col) (ra1 : Option Addr) (rc1 : Nat), e = .returned (.slice ra1 r.length rc1) ∧ Grow col w0 col' w' ∧ Own (Rep.int .i64) 3 c1 col' w' ra1 rc1 r) := by
  refine calls_of1 2 (m := 19) (args := [(.slice a0 p0_l.length cap0)]) Try.func23 rfl rfl rfl rfl rfl ?_
  rw [m_credencelaw10_plain_int.eq_1] at hm
  have hst := St.start col w0
  replace h0 := h0.keep (Stay.start col w0)
  refine wseq ?_
  refine wregion ?_
  refine lv (v := (.slice none (([] : List Int).length) 0)) rfl rfl (r_assign rfl) ?_
  refine lnil ?_
  refine wseq ?_
  refine wregion ?_
  refine lv (v := (.slice none (([] : List Int).length) 0)) rfl rfl (r_assign rfl) ?_
  refine lnil ?_
  refine wseq ?_
  refine wseq ?_
  refine wregion ?_
  refine lv (v := (.int .i64 0)) rfl rfl (r_assign rfl) ?_
  refine lnil ?_
  refine wblock ?_
  refine wloop (fun n f w_2 => ∃ (col_3 : Col) (a_4 : Option Addr) (cap_5 : Nat) (out_6 : List Int) (i_8 : Int) (n_1 : Nat), n_1 = n ∧ m_credencelaw10_plain_int_L1 N p0_l n_1 out_6 i_8 = some r ∧ St w0 (col0 col) col_3 w_2 ∧ Sl (Rep.int .i64) col_3 w_2 a0 cap0 p0_l ∧ Own (Rep.int .i64) 3 2 col_3 w_2 a_4 cap_5 out_6 ∧ f 0 = (.slice a0 p0_l.length cap0) ∧ f 3 = (.slice a_4 out_6.length cap_5) ∧ f 4 = (.int .i64 i_8) ∧ f 1000000 = (enc [])) N ⟨(col0 col), none, 0, ([] : List Int), 0, N, rfl, hm, hst, h0, Own.nil, rfl, rfl, rfl, rfl⟩ ?_
  clear hm; intro n f w_2 hI
  obtain ⟨col_3, a_4, cap_5, out_6, i_8, n_1, hn, hm, hst, h0, h_7, hs0, hs3, hs4, hs1000000⟩ := hI
  subst hn
  refine .ld (d := 0) (v := (.slice a0 p0_l.length cap0)) hs0 ?_
  refine .ld (d := 3) (v := (.slice a_4 out_6.length cap_5)) hs3 ?_
  refine .ld (d := 4) (v := (.int .i64 i_8)) hs4 ?_
  refine .ld (d := 1000000) (v := (enc [])) hs1000000 ?_
  clear hs0 hs3 hs4 hs1000000
  cases n_1 with
  | zero => rw [m_credencelaw10_plain_int_L1.eq_1] at hm; cases hm
  | succ n_1 =>
    rw [m_credencelaw10_plain_int_L1.eq_2] at hm
    refine wseq ?_
    refine wseq ?_
    refine wregion ?_
    refine lv (v := (.int .i64 i_8)) rfl rfl (r_move rfl) ?_
    refine lv (v := (.slice a0 p0_l.length cap0)) rfl rfl (r_move rfl) ?_
    refine lv (v := (.int .i64 (p0_l.length : Int))) rfl rfl (r_len Try.underlying22 rfl) ?_
    refine lv (v := (.bool (decide (i_8 < (p0_l.length : Int))))) rfl rfl (r_lss i_8 (p0_l.length : Int) rfl rfl) ?_
    refine lnil ?_
    refine wcond (decide (i_8 < (p0_l.length : Int))) rfl (fun hb => ?_) (fun hb => ?_)
    · rw [if_pos hb] at hm
      clear hb
      refine wskip ?_
      refine wseq ?_
      refine wblock ?_
      refine wregion ?_
      refine lv (v := (.slice a_4 out_6.length cap_5)) rfl rfl (r_move rfl) ?_
      refine lv (v := (.slice a0 p0_l.length cap0)) rfl rfl (r_move rfl) ?_
      refine lv (v := (.int .i64 i_8)) rfl rfl (r_move rfl) ?_
      obtain ⟨e_9, hj_10, hm⟩ := bind_some hm
      refine lv (v := (sptr a0 (Int.toNat i_8 * 1))) rfl rfl (r_idx Try.underlying22 Try.sizeOf3 rfl rfl (at?_some hj_10).1 (at?_some hj_10).2.1 (h0.addr hj_10)) ?_
      refine lv (v := (.int .i64 e_9)) rfl rfl (r_ld Try.isAgg3 rfl (h0.atInt hj_10)) ?_
      refine l_lit (col := col_3) (r := (Rep.int .i64)) (xs := [e_9]) [(.int .i64 e_9)] 3 rfl Try.underlying22 el3_23 rfl rfl rfl rfl rfl rfl (by intro v hv; simp only [List.mem_cons, List.not_mem_nil, or_false] at hv; subst hv; rfl) ⟨_, _, rfl, rfl, rfl⟩ ?_
      intro a_11 w_12 col_13 hg_14 h_15
      replace h0 := h0.gr hg_14
      replace h_7 := h_7.gr hg_14
      replace hst := hst.grow hg_14
      replace h0 := h0.froz 3
      replace h_7 := h_7.froz 3 (by decide)
      replace hst := hst.froz 3 (by decide) (by decide)
      replace h_15 := h_15.toSl
      obtain ⟨hb_16, hm⟩ := chk_some hm
      refine l_append (col := (froz 3 col_13)) (w := w_12) (r := (Rep.int .i64)) (c := 2) (xs := out_6) (ys := [e_9]) h_7 h_15 rfl Try.underlying22 el3_23 rfl rfl rfl hb_16.1 hb_16.2 (by decide) ?_
      intro a_18 cap_19 w_20 col_21 hk_22 hs_23 h_24
      replace h0 := h0.kp hk_22 (by decide)
      replace h_15 := h_15.kp hk_22 (by decide)
      replace hst := hst.kp hk_22 hs_23 (by decide) (by decide)
      clear h_7
      refine lv (v := (.slice a_18 ((out_6 ++ [e_9]).length) cap_19)) rfl rfl (r_assign rfl) ?_
      refine lnil ?_
      refine wregion ?_
      refine lv (v := (.int .i64 i_8)) rfl rfl (r_move rfl) ?_
      refine lv (v := (.int .i64 (IntKind.i64.wrap (i_8 + 1)))) rfl rfl (r_add i_8 1 rfl rfl) ?_
      refine lv (v := (.int .i64 (IntKind.i64.wrap (i_8 + 1)))) rfl rfl (r_assign rfl) ?_
      refine lnil ?_
      exact ⟨n_1, by omega, ⟨col_21, a_18, cap_19, (out_6 ++ [e_9]), (IntKind.i64.wrap (i_8 + 1)), n_1, rfl, hm, hst, h0, h_24, rfl, rfl, rfl, rfl⟩⟩
    · rw [if_neg (by rw [hb]; decide)] at hm
      clear hb
      refine wexit (inB_hit ?_)
      refine wseq ?_
      refine wregion ?_
      refine lv (v := (.slice a_4 out_6.length cap_5)) rfl rfl (r_move rfl) ?_
      refine lv (v := (.slice a_4 out_6.length cap_5)) rfl rfl (r_assign rfl) ?_
      refine lnil ?_
      refine wret ?_
      cases hm
      exact ⟨rfl, colF w0.heap.size col col_3 (fun n => bif Nat.beq n 2 then c1 else 0), a_4, cap_5, rfl, hst.fin (fun n => bif Nat.beq n 2 then c1 else 0), hst.finOwn (g := (fun n => bif Nat.beq n 2 then c1 else 0)) rfl h_7 (by decide) (by decide) rfl⟩




def m_credenceref10_Count_J1 (i_5 : Int) (kk_L1 : (Int → Int → Option (Int × Int))) (n_8 : Int) : Option (Int × Int) :=
  kk_L1 n_8 (IntKind.i64.wrap (i_5 + 1))

def m_credenceref10_Count_J2 (p0_sizes : List Int) (n_14 : Int) (i_15 : Int) (kk_L2 : (Int → Int → Option (Int × Int))) (v_19 : Bool) : Option (Int × Int) :=
  if v_19 = true then ((at? p0_sizes i_15).bind fun e_20 => if (decide (2147483647 < e_20)) = true then (some (0, 4)) else (if (decide (2147483647 < (IntKind.i64.wrap (n_14 * e_20)))) = true then (some (0, 4)) else (kk_L2 (IntKind.i64.wrap (n_14 * e_20)) (IntKind.i64.wrap (i_15 + 1))))) else (some (n_14, 0))

def m_credenceref10_Count_L2 (N : Nat) (p0_sizes : List Int) : Nat → Int → Int → Option (Int × Int)
  | 0, _, _ => none
  | n_11 + 1, n_14, i_15 => if (decide (i_15 < (p0_sizes.length : Int))) = true then (m_credenceref10_Count_J2 p0_sizes n_14 i_15 (m_credenceref10_Count_L2 N p0_sizes n_11) (decide (0 < n_14))) else (m_credenceref10_Count_J2 p0_sizes n_14 i_15 (m_credenceref10_Count_L2 N p0_sizes n_11) false)

def m_credenceref10_Count_L1 (N : Nat) (p0_sizes : List Int) : Nat → Int → Int → Option (Int × Int)
  | 0, _, _ => none
  | n_1 + 1, n_4, i_5 => if (decide (i_5 < (p0_sizes.length : Int))) = true then ((at? p0_sizes i_5).bind fun e_9 => if (decide (e_9 < 0)) = true then (some (0, 3)) else (if (decide (e_9 = 0)) = true then (m_credenceref10_Count_J1 i_5 (m_credenceref10_Count_L1 N p0_sizes n_1) 0) else (m_credenceref10_Count_J1 i_5 (m_credenceref10_Count_L1 N p0_sizes n_1) n_4))) else (m_credenceref10_Count_L2 N p0_sizes N n_4 0)

def m_credenceref10_Count (N : Nat) (p0_sizes : List Int) : Option (Int × Int) :=
  m_credenceref10_Count_L1 N p0_sizes N 1 0

set_option maxRecDepth 100000 in
theorem c_credenceref10_Count (N : Nat) (col : Col) (w0 : World) (a0 : Option Addr) (cap0 : Nat) (p0_sizes : List Int) (h0 : Sl (Rep.int .i64) col w0 a0 cap0 p0_sizes) (r : (Int × Int)) (hm : m_credenceref10_Count N p0_sizes = some r) :
    Calls Try.prog 24 #[(.slice a0 p0_sizes.length cap0)] w0 (fun e w' => e = .returned (.tuple #[.int .i64 r.1, .int .i64 r.2]) ∧ Below w0.heap.size w0 w') := by
  refine calls_of2 2 3 (m := 47) (args := [(.slice a0 p0_sizes.length cap0)]) Try.func24 rfl rfl rfl rfl rfl ?_
  rw [m_credenceref10_Count.eq_1] at hm
  have hst := St.start col w0
  replace h0 := h0.keep (Stay.start col w0)
  refine wseq ?_
  refine wregion ?_
  refine lv (v := (.int .i64 0)) rfl rfl (r_assign rfl) ?_
  refine lv (v := (.int .i64 0)) rfl rfl (r_assign rfl) ?_
  refine lnil ?_
  refine wseq ?_
  refine wregion ?_
  refine lv (v := (.int .i64 1)) rfl rfl (r_assign rfl) ?_
  refine lnil ?_
  refine wseq ?_
  refine wseq ?_
  refine wregion ?_
  refine lv (v := (.int .i64 0)) rfl rfl (r_assign rfl) ?_
  refine lnil ?_
  refine wblock ?_
  refine wloop (fun n f w_2 => ∃ (col_3 : Col) (n_4 : Int) (i_5 : Int) (n_1 : Nat), n_1 = n ∧ m_credenceref10_Count_L1 N p0_sizes n_1 n_4 i_5 = some r ∧ St w0 (col0 col) col_3 w_2 ∧ Sl (Rep.int .i64) col_3 w_2 a0 cap0 p0_sizes ∧ f 0 = (.slice a0 p0_sizes.length cap0) ∧ f 4 = (.int .i64 n_4) ∧ f 5 = (.int .i64 i_5) ∧ f 1000000 = (enc [])) N ⟨(col0 col), 1, 0, N, rfl, hm, hst, h0, rfl, rfl, rfl, rfl⟩ ?_
  clear hm; intro n f w_2 hI
  obtain ⟨col_3, n_4, i_5, n_1, hn, hm, hst, h0, hs0, hs4, hs5, hs1000000⟩ := hI
  subst hn
  refine .ld (d := 0) (v := (.slice a0 p0_sizes.length cap0)) hs0 ?_
  refine .ld (d := 4) (v := (.int .i64 n_4)) hs4 ?_
  refine .ld (d := 5) (v := (.int .i64 i_5)) hs5 ?_
  refine .ld (d := 1000000) (v := (enc [])) hs1000000 ?_
  clear hs0 hs4 hs5 hs1000000
  cases n_1 with
  | zero => rw [m_credenceref10_Count_L1.eq_1] at hm; cases hm
  | succ n_1 =>
    rw [m_credenceref10_Count_L1.eq_2] at hm
    refine wseq ?_
    refine wseq ?_
    refine wregion ?_
    refine lv (v := (.int .i64 i_5)) rfl rfl (r_move rfl) ?_
    refine lv (v := (.slice a0 p0_sizes.length cap0)) rfl rfl (r_move rfl) ?_
    refine lv (v := (.int .i64 (p0_sizes.length : Int))) rfl rfl (r_len Try.underlying22 rfl) ?_
    refine lv (v := (.bool (decide (i_5 < (p0_sizes.length : Int))))) rfl rfl (r_lss i_5 (p0_sizes.length : Int) rfl rfl) ?_
    refine lnil ?_
    refine wcond (decide (i_5 < (p0_sizes.length : Int))) rfl (fun hb => ?_) (fun hb => ?_)
    · rw [if_pos hb] at hm
      clear hb
      refine wskip ?_
      refine wseq ?_
      refine Wp.cut (fun f w_6 => ∃ (col_7 : Col) (n_8 : Int), m_credenceref10_Count_J1 i_5 (m_credenceref10_Count_L1 N p0_sizes n_1) n_8 = some r ∧ St w0 (col0 col) col_7 w_6 ∧ Sl (Rep.int .i64) col_7 w_6 a0 cap0 p0_sizes ∧ f 0 = (.slice a0 p0_sizes.length cap0) ∧ f 4 = (.int .i64 n_8) ∧ f 5 = (.int .i64 i_5) ∧ f 1000000 = (enc [])) ?_ ?_
      · intro f w_6 hJ
        obtain ⟨col_7, n_8, hm, hst, h0, hs0, hs4, hs5, hs1000000⟩ := hJ
        rw [m_credenceref10_Count_J1.eq_1] at hm
        refine .ld (d := 0) (v := (.slice a0 p0_sizes.length cap0)) hs0 ?_
        refine .ld (d := 4) (v := (.int .i64 n_8)) hs4 ?_
        refine .ld (d := 5) (v := (.int .i64 i_5)) hs5 ?_
        refine .ld (d := 1000000) (v := (enc [])) hs1000000 ?_
        clear hs0 hs4 hs5 hs1000000
        refine wregion ?_
        refine lv (v := (.int .i64 i_5)) rfl rfl (r_move rfl) ?_
        refine lv (v := (.int .i64 (IntKind.i64.wrap (i_5 + 1)))) rfl rfl (r_add i_5 1 rfl rfl) ?_
        refine lv (v := (.int .i64 (IntKind.i64.wrap (i_5 + 1)))) rfl rfl (r_assign rfl) ?_
        refine lnil ?_
        exact ⟨n_1, by omega, ⟨col_7, n_8, (IntKind.i64.wrap (i_5 + 1)), n_1, rfl, hm, hst, h0, rfl, rfl, rfl, rfl⟩⟩
      · refine wblock ?_
        refine wseq ?_
        refine wseq ?_
        refine wregion ?_
        refine lv (v := (.slice a0 p0_sizes.length cap0)) rfl rfl (r_move rfl) ?_
        refine lv (v := (.int .i64 i_5)) rfl rfl (r_move rfl) ?_
        obtain ⟨e_9, hj_10, hm⟩ := bind_some hm
        refine lv (v := (sptr a0 (Int.toNat i_5 * 1))) rfl rfl (r_idx Try.underlying22 Try.sizeOf3 rfl rfl (at?_some hj_10).1 (at?_some hj_10).2.1 (h0.addr hj_10)) ?_
        refine lv (v := (.int .i64 e_9)) rfl rfl (r_ld Try.isAgg3 rfl (h0.atInt hj_10)) ?_
        refine lv (v := (.bool (decide (e_9 < 0)))) rfl rfl (r_lss e_9 0 rfl rfl) ?_
        refine lnil ?_
        refine wcond (decide (e_9 < 0)) rfl (fun hb => ?_) (fun hb => ?_)
        · rw [if_pos hb] at hm
          clear hb
          refine wseq ?_
          refine wregion ?_
          refine lv (v := (.int .i64 0)) rfl rfl (r_assign rfl) ?_
          refine lv (v := (.int .i64 3)) rfl rfl (r_assign rfl) ?_
          refine lnil ?_
          refine wret ?_
          cases hm
          exact ⟨rfl, rfl, hst.below⟩
        · rw [if_neg (by rw [hb]; decide)] at hm
          clear hb
          refine wskip ?_
          refine wseq ?_
          refine wregion ?_
          refine lv (v := (.slice a0 p0_sizes.length cap0)) rfl rfl (r_move rfl) ?_
          refine lv (v := (.int .i64 i_5)) rfl rfl (r_move rfl) ?_
          refine lv (v := (sptr a0 (Int.toNat i_5 * 1))) rfl rfl (r_idx Try.underlying22 Try.sizeOf3 rfl rfl (at?_some hj_10).1 (at?_some hj_10).2.1 (h0.addr hj_10)) ?_
          refine lv (v := (.int .i64 e_9)) rfl rfl (r_ld Try.isAgg3 rfl (h0.atInt hj_10)) ?_
          refine lv (v := (.bool (decide (e_9 = 0)))) rfl rfl (r_eql e_9 0 rfl rfl) ?_
          refine lnil ?_
          refine wcond (decide (e_9 = 0)) rfl (fun hb => ?_) (fun hb => ?_)
          · rw [if_pos hb] at hm
            clear hb
            refine wregion ?_
            refine lv (v := (.int .i64 0)) rfl rfl (r_assign rfl) ?_
            refine lnil ?_
            exact ⟨col_3, 0, hm, hst, h0, rfl, rfl, rfl, rfl⟩
          · rw [if_neg (by rw [hb]; decide)] at hm
            clear hb
            refine wskip ?_
            exact ⟨col_3, n_4, hm, hst, h0, rfl, rfl, rfl, rfl⟩
    · rw [if_neg (by rw [hb]; decide)] at hm
      clear hb
      refine wexit (inB_hit ?_)
      refine wseq ?_
      refine wseq ?_
      refine wregion ?_
      refine lv (v := (.int .i64 0)) rfl rfl (r_assign rfl) ?_
      refine lnil ?_
      refine wblock ?_
      refine wloop (fun n f w_12 => ∃ (col_13 : Col) (n_14 : Int) (i_15 : Int) (n_11 : Nat), n_11 = n ∧ m_credenceref10_Count_L2 N p0_sizes n_11 n_14 i_15 = some r ∧ St w0 (col0 col) col_13 w_12 ∧ Sl (Rep.int .i64) col_13 w_12 a0 cap0 p0_sizes ∧ f 0 = (.slice a0 p0_sizes.length cap0) ∧ f 4 = (.int .i64 n_14) ∧ f 6 = (.int .i64 i_15) ∧ f 1000000 = (enc [])) N ⟨col_3, n_4, 0, N, rfl, hm, hst, h0, rfl, rfl, rfl, rfl⟩ ?_
      clear hm; intro n f w_12 hI
      obtain ⟨col_13, n_14, i_15, n_11, hn, hm, hst, h0, hs0, hs4, hs6, hs1000000⟩ := hI
      subst hn
      refine .ld (d := 0) (v := (.slice a0 p0_sizes.length cap0)) hs0 ?_
      refine .ld (d := 4) (v := (.int .i64 n_14)) hs4 ?_
      refine .ld (d := 6) (v := (.int .i64 i_15)) hs6 ?_
      refine .ld (d := 1000000) (v := (enc [])) hs1000000 ?_
      clear hs0 hs4 hs6 hs1000000
      cases n_11 with
      | zero => rw [m_credenceref10_Count_L2.eq_1] at hm; cases hm
      | succ n_11 =>
        rw [m_credenceref10_Count_L2.eq_2] at hm
        refine wseq ?_
        refine wseq ?_
        refine Wp.cut (fun f w_17 => ∃ (col_18 : Col) (v_19 : Bool), m_credenceref10_Count_J2 p0_sizes n_14 i_15 (m_credenceref10_Count_L2 N p0_sizes n_11) v_19 = some r ∧ St w0 (col0 col) col_18 w_17 ∧ Sl (Rep.int .i64) col_18 w_17 a0 cap0 p0_sizes ∧ f 0 = (.slice a0 p0_sizes.length cap0) ∧ f 4 = (.int .i64 n_14) ∧ f 6 = (.int .i64 i_15) ∧ f 30 = (.bool v_19) ∧ f 1000000 = (enc [])) ?_ ?_
        · intro f w_17 hJ
          obtain ⟨col_18, v_19, hm, hst, h0, hs0, hs4, hs6, hs30, hs1000000⟩ := hJ
          rw [m_credenceref10_Count_J2.eq_1] at hm
          refine .ld (d := 0) (v := (.slice a0 p0_sizes.length cap0)) hs0 ?_
          refine .ld (d := 4) (v := (.int .i64 n_14)) hs4 ?_
          refine .ld (d := 6) (v := (.int .i64 i_15)) hs6 ?_
          refine .ld (d := 30) (v := (.bool v_19)) hs30 ?_
          refine .ld (d := 1000000) (v := (enc [])) hs1000000 ?_
          clear hs0 hs4 hs6 hs30 hs1000000
          refine wcond (v_19) rfl (fun hb => ?_) (fun hb => ?_)
          · rw [if_pos hb] at hm
            clear hb
            refine wskip ?_
            refine wseq ?_
            refine wblock ?_
            refine wseq ?_
            refine wseq ?_
            refine wregion ?_
            refine lv (v := (.slice a0 p0_sizes.length cap0)) rfl rfl (r_move rfl) ?_
            refine lv (v := (.int .i64 i_15)) rfl rfl (r_move rfl) ?_
            obtain ⟨e_20, hj_21, hm⟩ := bind_some hm
            refine lv (v := (sptr a0 (Int.toNat i_15 * 1))) rfl rfl (r_idx Try.underlying22 Try.sizeOf3 rfl rfl (at?_some hj_21).1 (at?_some hj_21).2.1 (h0.addr hj_21)) ?_
            refine lv (v := (.int .i64 e_20)) rfl rfl (r_ld Try.isAgg3 rfl (h0.atInt hj_21)) ?_
            refine lv (v := (.bool (decide (2147483647 < e_20)))) rfl rfl (r_gtr e_20 2147483647 rfl rfl) ?_
            refine lnil ?_
            refine wcond (decide (2147483647 < e_20)) rfl (fun hb => ?_) (fun hb => ?_)
            · rw [if_pos hb] at hm
              clear hb
              refine wseq ?_
              refine wregion ?_
              refine lv (v := (.int .i64 0)) rfl rfl (r_assign rfl) ?_
              refine lv (v := (.int .i64 4)) rfl rfl (r_assign rfl) ?_
              refine lnil ?_
              refine wret ?_
              cases hm
              exact ⟨rfl, rfl, hst.below⟩
            · rw [if_neg (by rw [hb]; decide)] at hm
              clear hb
              refine wskip ?_
              refine wseq ?_
              refine wregion ?_
              refine lv (v := (.int .i64 n_14)) rfl rfl (r_move rfl) ?_
              refine lv (v := (.slice a0 p0_sizes.length cap0)) rfl rfl (r_move rfl) ?_
              refine lv (v := (.int .i64 i_15)) rfl rfl (r_move rfl) ?_
              refine lv (v := (sptr a0 (Int.toNat i_15 * 1))) rfl rfl (r_idx Try.underlying22 Try.sizeOf3 rfl rfl (at?_some hj_21).1 (at?_some hj_21).2.1 (h0.addr hj_21)) ?_
              refine lv (v := (.int .i64 e_20)) rfl rfl (r_ld Try.isAgg3 rfl (h0.atInt hj_21)) ?_
              refine lv (v := (.int .i64 (IntKind.i64.wrap (n_14 * e_20)))) rfl rfl (r_mul n_14 e_20 rfl rfl) ?_
              refine lv (v := (.int .i64 (IntKind.i64.wrap (n_14 * e_20)))) rfl rfl (r_assign rfl) ?_
              refine lnil ?_
              refine wseq ?_
              refine wregion ?_
              refine lv (v := (.int .i64 (IntKind.i64.wrap (n_14 * e_20)))) rfl rfl (r_move rfl) ?_
              refine lv (v := (.bool (decide (2147483647 < (IntKind.i64.wrap (n_14 * e_20)))))) rfl rfl (r_gtr (IntKind.i64.wrap (n_14 * e_20)) 2147483647 rfl rfl) ?_
              refine lnil ?_
              refine wcond (decide (2147483647 < (IntKind.i64.wrap (n_14 * e_20)))) rfl (fun hb => ?_) (fun hb => ?_)
              · rw [if_pos hb] at hm
                clear hb
                refine wseq ?_
                refine wregion ?_
                refine lv (v := (.int .i64 0)) rfl rfl (r_assign rfl) ?_
                refine lv (v := (.int .i64 4)) rfl rfl (r_assign rfl) ?_
                refine lnil ?_
                refine wret ?_
                cases hm
                exact ⟨rfl, rfl, hst.below⟩
              · rw [if_neg (by rw [hb]; decide)] at hm
                clear hb
                refine wskip ?_
                refine wregion ?_
                refine lv (v := (.int .i64 i_15)) rfl rfl (r_move rfl) ?_
                refine lv (v := (.int .i64 (IntKind.i64.wrap (i_15 + 1)))) rfl rfl (r_add i_15 1 rfl rfl) ?_
                refine lv (v := (.int .i64 (IntKind.i64.wrap (i_15 + 1)))) rfl rfl (r_assign rfl) ?_
                refine lnil ?_
                exact ⟨n_11, by omega, ⟨col_18, (IntKind.i64.wrap (n_14 * e_20)), (IntKind.i64.wrap (i_15 + 1)), n_11, rfl, hm, hst, h0, rfl, rfl, rfl, rfl⟩⟩
          · rw [if_neg (by rw [hb]; decide)] at hm
            clear hb
            refine wexit (inB_hit ?_)
            refine wseq ?_
            refine wregion ?_
            refine lv (v := (.int .i64 n_14)) rfl rfl (r_move rfl) ?_
            refine lv (v := (.int .i64 n_14)) rfl rfl (r_assign rfl) ?_
            refine lv (v := (.int .i64 0)) rfl rfl (r_assign rfl) ?_
            refine lnil ?_
            refine wret ?_
            cases hm
            exact ⟨rfl, rfl, hst.below⟩
        · refine wregion ?_
          refine lv (v := (.int .i64 i_15)) rfl rfl (r_move rfl) ?_
          refine lv (v := (.slice a0 p0_sizes.length cap0)) rfl rfl (r_move rfl) ?_
          refine lv (v := (.int .i64 (p0_sizes.length : Int))) rfl rfl (r_len Try.underlying22 rfl) ?_
          refine lv (v := (.bool (decide (i_15 < (p0_sizes.length : Int))))) rfl rfl (r_lss i_15 (p0_sizes.length : Int) rfl rfl) ?_
          refine lv (v := (.bool (decide (i_15 < (p0_sizes.length : Int))))) rfl rfl (r_move rfl) ?_
          by_cases hg_22 : (decide (i_15 < (p0_sizes.length : Int))) = true
          · rw [if_pos hg_22] at hm
            refine lg (b := decide (i_15 < (p0_sizes.length : Int))) 27 rfl rfl rfl (by rw [hg_22]; rfl) ?_
            refine lv (v := (.int .i64 n_14)) rfl rfl (r_move rfl) ?_
            refine lg (b := decide (i_15 < (p0_sizes.length : Int))) 27 rfl rfl rfl (by rw [hg_22]; rfl) ?_
            refine lv (v := (.bool (decide (0 < n_14)))) rfl rfl (r_gtr n_14 0 rfl rfl) ?_
            refine lv (v := (.bool (decide (0 < n_14)))) rfl rfl (r_pickT (congrArg Value.bool hg_22) rfl) ?_
            refine lnil ?_
            exact ⟨col_13, (decide (0 < n_14)), hm, hst, h0, rfl, rfl, rfl, rfl, rfl⟩
          · rw [if_neg hg_22] at hm
            replace hg_22 := Bool.eq_false_iff.2 hg_22
            refine lp (b := decide (i_15 < (p0_sizes.length : Int))) 27 rfl rfl rfl rfl (by rw [hg_22]; rfl) ?_
            refine lp (b := decide (i_15 < (p0_sizes.length : Int))) 27 rfl rfl rfl rfl (by rw [hg_22]; rfl) ?_
            refine lv (v := (.bool false)) rfl rfl (r_pickF (congrArg Value.bool hg_22) rfl) ?_
            refine lnil ?_
            exact ⟨col_13, false, hm, hst, h0, rfl, rfl, rfl, rfl, rfl⟩




def m_radix_At_int_J1 (p0_sizes : List Int) (at_9 : Int) (k_5 : Nat) (kk_L1 : (Nat → Int → Option (Int × Int))) (x_10 : Int) (v_17 : Bool) : Option (Int × Int) :=
  if v_17 = true then (some (0, 3)) else ((at? p0_sizes (k_5 : Int)).bind fun e_18 => kk_L1 (k_5 + 1) (IntKind.i64.wrap ((IntKind.i64.wrap (at_9 * e_18)) + x_10)))

def m_radix_At_int_L1 (p0_sizes : List Int) : List Int → Nat → Int → Option (Int × Int)
  | [], k_5, at_9 => some (at_9, 0)
  | x_10 :: l_11, k_5, at_9 => if (decide (x_10 < 0)) = true then (m_radix_At_int_J1 p0_sizes at_9 k_5 (m_radix_At_int_L1 p0_sizes l_11) x_10 true) else ((at? p0_sizes (k_5 : Int)).bind fun e_21 => m_radix_At_int_J1 p0_sizes at_9 k_5 (m_radix_At_int_L1 p0_sizes l_11) x_10 (decide (e_21 ≤ x_10)))

def m_radix_At_int (p0_sizes : List Int) (p1_digits : List Int) : Option (Int × Int) :=
  (m_radix_Count_int p0_sizes).bind fun r_1 => if (!decide (r_1.2 = 0)) = true then (some (0, r_1.2)) else (if (!decide ((p1_digits.length : Int) = (p0_sizes.length : Int))) = true then (some (0, 60)) else (m_radix_At_int_L1 p0_sizes p1_digits 0 0))

set_option maxRecDepth 100000 in
theorem c_radix_At_int (col : Col) (w0 : World) (a0 : Option Addr) (cap0 : Nat) (p0_sizes : List Int) (h0 : Sl (Rep.int .i64) col w0 a0 cap0 p0_sizes) (a1 : Option Addr) (cap1 : Nat) (p1_digits : List Int) (h1 : Sl (Rep.int .i64) col w0 a1 cap1 p1_digits) (r : (Int × Int)) (hm : m_radix_At_int p0_sizes p1_digits = some r) :
    Calls Try.prog 16 #[(.slice a0 p0_sizes.length cap0), (.slice a1 p1_digits.length cap1)] w0 (fun e w' => e = .returned (.tuple #[.int .i64 r.1, .int .i64 r.2]) ∧ Below w0.heap.size w0 w') := by
  refine calls_of2 4 5 (m := 51) (args := [(.slice a0 p0_sizes.length cap0), (.slice a1 p1_digits.length cap1)]) Try.func16 rfl rfl rfl rfl rfl ?_
  rw [m_radix_At_int.eq_1] at hm
  have hst := St.start col w0
  replace h0 := h0.keep (Stay.start col w0)
  replace h1 := h1.keep (Stay.start col w0)
  refine wseq ?_
  refine wregion ?_
  refine lv (v := (.int .i64 0)) rfl rfl (r_assign rfl) ?_
  refine lv (v := (.int .i64 0)) rfl rfl (r_assign rfl) ?_
  refine lnil ?_
  refine wseq ?_
  refine wseq ?_
  refine wregion ?_
  refine lv (v := (.slice a0 p0_sizes.length cap0)) rfl rfl (r_move rfl) ?_
  obtain ⟨r_1, hr_2, hm⟩ := bind_some hm
  refine lc rfl rfl (r_call1 Try.call14 rfl) (c_radix_Count_int (col0 col) _ a0 cap0 p0_sizes h0 r_1 hr_2) ?_
  rintro _ w_3 ⟨rfl, hg_4⟩
  refine ⟨_, rfl, ?_⟩
  have hg_4 : Grow (col0 col) w0 (col0 col) w_3 := .of_below hg_4
  replace h0 := h0.gr hg_4
  replace h1 := h1.gr hg_4
  replace hst := hst.grow hg_4
  refine lv (v := (.tuple #[(.int .i64 r_1.1), (.int .i64 r_1.2)])) rfl rfl (r_move rfl) ?_
  refine lv (v := (.int .i64 r_1.1)) rfl rfl (r_extract rfl rfl) ?_
  refine lv (v := (.int .i64 r_1.2)) rfl rfl (r_extract rfl rfl) ?_
  refine lv (v := (.int .i64 r_1.1)) rfl rfl (r_assign rfl) ?_
  refine lv (v := (.int .i64 r_1.2)) rfl rfl (r_assign rfl) ?_
  refine lnil ?_
  refine wseq ?_
  refine wregion ?_
  refine lv (v := (.int .i64 r_1.2)) rfl rfl (r_move rfl) ?_
  refine lv (v := (.bool (!decide (r_1.2 = 0)))) rfl rfl (r_neq r_1.2 0 rfl rfl) ?_
  refine lnil ?_
  refine wcond (!decide (r_1.2 = 0)) rfl (fun hb => ?_) (fun hb => ?_)
  · rw [if_pos hb] at hm
    clear hb
    refine wseq ?_
    refine wregion ?_
    refine lv (v := (.int .i64 r_1.2)) rfl rfl (r_move rfl) ?_
    refine lv (v := (.int .i64 0)) rfl rfl (r_assign rfl) ?_
    refine lv (v := (.int .i64 r_1.2)) rfl rfl (r_assign rfl) ?_
    refine lnil ?_
    refine wret ?_
    cases hm
    exact ⟨rfl, rfl, hst.below⟩
  · rw [if_neg (by rw [hb]; decide)] at hm
    clear hb
    refine wskip ?_
    refine wseq ?_
    refine wseq ?_
    refine wregion ?_
    refine lv (v := (.slice a1 p1_digits.length cap1)) rfl rfl (r_move rfl) ?_
    refine lv (v := (.int .i64 (p1_digits.length : Int))) rfl rfl (r_len Try.underlying22 rfl) ?_
    refine lv (v := (.slice a0 p0_sizes.length cap0)) rfl rfl (r_move rfl) ?_
    refine lv (v := (.int .i64 (p0_sizes.length : Int))) rfl rfl (r_len Try.underlying22 rfl) ?_
    refine lv (v := (.bool (!decide ((p1_digits.length : Int) = (p0_sizes.length : Int))))) rfl rfl (r_neq (p1_digits.length : Int) (p0_sizes.length : Int) rfl rfl) ?_
    refine lnil ?_
    refine wcond (!decide ((p1_digits.length : Int) = (p0_sizes.length : Int))) rfl (fun hb => ?_) (fun hb => ?_)
    · rw [if_pos hb] at hm
      clear hb
      refine wseq ?_
      refine wregion ?_
      refine lv (v := (.int .i64 0)) rfl rfl (r_assign rfl) ?_
      refine lv (v := (.int .i64 60)) rfl rfl (r_assign rfl) ?_
      refine lnil ?_
      refine wret ?_
      cases hm
      exact ⟨rfl, rfl, hst.below⟩
    · rw [if_neg (by rw [hb]; decide)] at hm
      clear hb
      refine wskip ?_
      refine wseq ?_
      refine wregion ?_
      refine lv (v := (.int .i64 0)) rfl rfl (r_assign rfl) ?_
      refine lnil ?_
      refine wseq ?_
      refine wseq ?_
      refine wregion ?_
      refine lv (v := (.slice a1 p1_digits.length cap1)) rfl rfl (r_move rfl) ?_
      refine lv (v := (.int .i64 (p1_digits.length : Int))) rfl rfl (r_len Try.underlying22 rfl) ?_
      refine lv (v := (.int .i64 0)) rfl rfl (r_move rfl) ?_
      refine lnil ?_
      refine wblock ?_
      refine wloop (fun n f w_7 => ∃ (col_8 : Col) (at_9 : Int) (k_5 : Nat) (l_6 : List Int), n = l_6.length ∧ p1_digits.drop k_5 = l_6 ∧ m_radix_At_int_L1 p0_sizes l_6 k_5 at_9 = some r ∧ St w0 (col0 col) col_8 w_7 ∧ Sl (Rep.int .i64) col_8 w_7 a0 cap0 p0_sizes ∧ Sl (Rep.int .i64) col_8 w_7 a1 cap1 p1_digits ∧ f 26 = (.int .i64 (k_5 : Int)) ∧ f 0 = (.slice a0 p0_sizes.length cap0) ∧ f 1 = (.slice a1 p1_digits.length cap1) ∧ f 8 = (.int .i64 at_9) ∧ f 24 = (.slice a1 p1_digits.length cap1) ∧ f 25 = (.int .i64 (p1_digits.length : Int)) ∧ f 1000000 = (enc [])) p1_digits.length ⟨(col0 col), 0, 0, p1_digits, rfl, rfl, hm, hst, h0, h1, rfl, rfl, rfl, rfl, rfl, rfl, rfl⟩ ?_
      clear hm; intro n f w_7 hI
      obtain ⟨col_8, at_9, k_5, l_6, hn, hl, hm, hst, h0, h1, hs26, hs0, hs1, hs8, hs24, hs25, hs1000000⟩ := hI
      subst hn
      refine .ld (d := 26) (v := (.int .i64 (k_5 : Int))) hs26 ?_
      refine .ld (d := 0) (v := (.slice a0 p0_sizes.length cap0)) hs0 ?_
      refine .ld (d := 1) (v := (.slice a1 p1_digits.length cap1)) hs1 ?_
      refine .ld (d := 8) (v := (.int .i64 at_9)) hs8 ?_
      refine .ld (d := 24) (v := (.slice a1 p1_digits.length cap1)) hs24 ?_
      refine .ld (d := 25) (v := (.int .i64 (p1_digits.length : Int))) hs25 ?_
      refine .ld (d := 1000000) (v := (enc [])) hs1000000 ?_
      clear hs26 hs0 hs1 hs8 hs24 hs25 hs1000000
      cases l_6 with
      | nil =>
        have hk : ¬ ((k_5 : Int) < (p1_digits.length : Int)) := by have := List.drop_eq_nil_iff.1 hl; omega
        have hkb := decide_eq_false hk
        rw [m_radix_At_int_L1.eq_1] at hm
        refine wseq ?_
        refine wregion ?_
        refine lv (v := (.bool (decide ((k_5 : Int) < (p1_digits.length : Int))))) rfl rfl (r_lss (k_5 : Int) (p1_digits.length : Int) rfl rfl) ?_
        refine lnil ?_
        refine wseq ?_
        refine wcondF (congrArg Value.bool hkb) ?_
        refine wexit (inB_hit ?_)
        refine wseq ?_
        refine wregion ?_
        refine lv (v := (.int .i64 at_9)) rfl rfl (r_move rfl) ?_
        refine lv (v := (.int .i64 at_9)) rfl rfl (r_assign rfl) ?_
        refine lv (v := (.int .i64 0)) rfl rfl (r_assign rfl) ?_
        refine lnil ?_
        refine wret ?_
        cases hm
        exact ⟨rfl, rfl, hst.below⟩
      | cons x_10 l_11 =>
        obtain ⟨hat, hl2, hlt⟩ := drop_get hl
        have hk : (k_5 : Int) < (p1_digits.length : Int) := by omega
        have hkb := decide_eq_true hk
        rw [m_radix_At_int_L1.eq_2] at hm
        refine wseq ?_
        refine wregion ?_
        refine lv (v := (.bool (decide ((k_5 : Int) < (p1_digits.length : Int))))) rfl rfl (r_lss (k_5 : Int) (p1_digits.length : Int) rfl rfl) ?_
        refine lnil ?_
        refine wseq ?_
        refine wcondT (congrArg Value.bool hkb) ?_
        refine wskip ?_
        refine wseq ?_
        refine wblock ?_
        refine wseq ?_
        refine wregion ?_
        refine lv (v := (.int .i64 (k_5 : Int))) rfl rfl (r_move rfl) ?_
        refine lv (v := (sptr a1 (Int.toNat (k_5 : Int) * 1))) rfl rfl (r_idx Try.underlying22 Try.sizeOf3 rfl rfl (at?_some hat).1 (at?_some hat).2.1 (h1.addr hat)) ?_
        refine lv (v := (.int .i64 x_10)) rfl rfl (r_ld Try.isAgg3 rfl (h1.atInt hat)) ?_
        refine lv (v := (.int .i64 (k_5 : Int))) rfl rfl (r_assign rfl) ?_
        refine lv (v := (.int .i64 x_10)) rfl rfl (r_assign rfl) ?_
        refine lnil ?_
        refine wseq ?_
        refine wseq ?_
        refine Wp.cut (fun f w_15 => ∃ (col_16 : Col) (v_17 : Bool), m_radix_At_int_J1 p0_sizes at_9 k_5 (m_radix_At_int_L1 p0_sizes l_11) x_10 v_17 = some r ∧ St w0 (col0 col) col_16 w_15 ∧ Sl (Rep.int .i64) col_16 w_15 a0 cap0 p0_sizes ∧ Sl (Rep.int .i64) col_16 w_15 a1 cap1 p1_digits ∧ f 0 = (.slice a0 p0_sizes.length cap0) ∧ f 1 = (.slice a1 p1_digits.length cap1) ∧ f 8 = (.int .i64 at_9) ∧ f 9 = (.int .i64 (k_5 : Int)) ∧ f 10 = (.int .i64 x_10) ∧ f 24 = (.slice a1 p1_digits.length cap1) ∧ f 25 = (.int .i64 (p1_digits.length : Int)) ∧ f 26 = (.int .i64 (k_5 : Int)) ∧ f 40 = (.bool v_17) ∧ f 1000000 = (enc [])) ?_ ?_
        · intro f w_15 hJ
          obtain ⟨col_16, v_17, hm, hst, h0, h1, hs0, hs1, hs8, hs9, hs10, hs24, hs25, hs26, hs40, hs1000000⟩ := hJ
          rw [m_radix_At_int_J1.eq_1] at hm
          refine .ld (d := 0) (v := (.slice a0 p0_sizes.length cap0)) hs0 ?_
          refine .ld (d := 1) (v := (.slice a1 p1_digits.length cap1)) hs1 ?_
          refine .ld (d := 8) (v := (.int .i64 at_9)) hs8 ?_
          refine .ld (d := 9) (v := (.int .i64 (k_5 : Int))) hs9 ?_
          refine .ld (d := 10) (v := (.int .i64 x_10)) hs10 ?_
          refine .ld (d := 24) (v := (.slice a1 p1_digits.length cap1)) hs24 ?_
          refine .ld (d := 25) (v := (.int .i64 (p1_digits.length : Int))) hs25 ?_
          refine .ld (d := 26) (v := (.int .i64 (k_5 : Int))) hs26 ?_
          refine .ld (d := 40) (v := (.bool v_17)) hs40 ?_
          refine .ld (d := 1000000) (v := (enc [])) hs1000000 ?_
          clear hs0 hs1 hs8 hs9 hs10 hs24 hs25 hs26 hs40 hs1000000
          refine wcond (v_17) rfl (fun hb => ?_) (fun hb => ?_)
          · rw [if_pos hb] at hm
            clear hb
            refine wseq ?_
            refine wregion ?_
            refine lv (v := (.int .i64 0)) rfl rfl (r_assign rfl) ?_
            refine lv (v := (.int .i64 3)) rfl rfl (r_assign rfl) ?_
            refine lnil ?_
            refine wret ?_
            cases hm
            exact ⟨rfl, rfl, hst.below⟩
          · rw [if_neg (by rw [hb]; decide)] at hm
            clear hb
            refine wskip ?_
            refine wregion ?_
            refine lv (v := (.int .i64 at_9)) rfl rfl (r_move rfl) ?_
            refine lv (v := (.slice a0 p0_sizes.length cap0)) rfl rfl (r_move rfl) ?_
            refine lv (v := (.int .i64 (k_5 : Int))) rfl rfl (r_move rfl) ?_
            obtain ⟨e_18, hj_19, hm⟩ := bind_some hm
            refine lv (v := (sptr a0 (Int.toNat (k_5 : Int) * 1))) rfl rfl (r_idx Try.underlying22 Try.sizeOf3 rfl rfl (at?_some hj_19).1 (at?_some hj_19).2.1 (h0.addr hj_19)) ?_
            refine lv (v := (.int .i64 e_18)) rfl rfl (r_ld Try.isAgg3 rfl (h0.atInt hj_19)) ?_
            refine lv (v := (.int .i64 (IntKind.i64.wrap (at_9 * e_18)))) rfl rfl (r_mul at_9 e_18 rfl rfl) ?_
            refine lv (v := (.int .i64 x_10)) rfl rfl (r_move rfl) ?_
            refine lv (v := (.int .i64 (IntKind.i64.wrap ((IntKind.i64.wrap (at_9 * e_18)) + x_10)))) rfl rfl (r_add (IntKind.i64.wrap (at_9 * e_18)) x_10 rfl rfl) ?_
            refine lv (v := (.int .i64 (IntKind.i64.wrap ((IntKind.i64.wrap (at_9 * e_18)) + x_10)))) rfl rfl (r_assign rfl) ?_
            refine lnil ?_
            refine wregion ?_
            refine lv (v := (.int .i64 (IntKind.i64.wrap ((k_5 : Int) + 1)))) rfl rfl (r_add (k_5 : Int) 1 rfl rfl) ?_
            refine lv (v := (.int .i64 (IntKind.i64.wrap ((k_5 : Int) + 1)))) rfl rfl (r_move rfl) ?_
            refine lnil ?_
            exact ⟨l_11.length, by simp, ⟨col_16, (IntKind.i64.wrap ((IntKind.i64.wrap (at_9 * e_18)) + x_10)), (k_5 + 1), l_11, rfl, hl2, hm, hst, h0, h1, (congrArg (Value.int .i64) (wrap_succ (Nat.lt_of_lt_of_le hlt h1.1.1))), rfl, rfl, rfl, rfl, rfl, rfl⟩⟩
        · refine wregion ?_
          refine lv (v := (.int .i64 x_10)) rfl rfl (r_move rfl) ?_
          refine lv (v := (.bool (decide (x_10 < 0)))) rfl rfl (r_lss x_10 0 rfl rfl) ?_
          refine lv (v := (.bool (decide (x_10 < 0)))) rfl rfl (r_move rfl) ?_
          by_cases hg_20 : (decide (x_10 < 0)) = true
          · rw [if_pos hg_20] at hm
            refine lp (b := decide (x_10 < 0)) 33 rfl rfl rfl rfl (by rw [hg_20]; rfl) ?_
            refine lp (b := decide (x_10 < 0)) 33 rfl rfl rfl rfl (by rw [hg_20]; rfl) ?_
            refine lp (b := decide (x_10 < 0)) 33 rfl rfl rfl rfl (by rw [hg_20]; rfl) ?_
            refine lp (b := decide (x_10 < 0)) 33 rfl rfl rfl rfl (by rw [hg_20]; rfl) ?_
            refine lp (b := decide (x_10 < 0)) 33 rfl rfl rfl rfl (by rw [hg_20]; rfl) ?_
            refine lp (b := decide (x_10 < 0)) 33 rfl rfl rfl rfl (by rw [hg_20]; rfl) ?_
            refine lv (v := (.bool true)) rfl rfl (r_pickT (congrArg Value.bool hg_20) rfl) ?_
            refine lnil ?_
            exact ⟨col_8, true, hm, hst, h0, h1, rfl, rfl, rfl, rfl, rfl, rfl, rfl, rfl, rfl, rfl⟩
          · rw [if_neg hg_20] at hm
            replace hg_20 := Bool.eq_false_iff.2 hg_20
            refine lg (b := decide (x_10 < 0)) 33 rfl rfl rfl (by rw [hg_20]; rfl) ?_
            refine lv (v := (.int .i64 x_10)) rfl rfl (r_move rfl) ?_
            refine lg (b := decide (x_10 < 0)) 33 rfl rfl rfl (by rw [hg_20]; rfl) ?_
            refine lv (v := (.slice a0 p0_sizes.length cap0)) rfl rfl (r_move rfl) ?_
            refine lg (b := decide (x_10 < 0)) 33 rfl rfl rfl (by rw [hg_20]; rfl) ?_
            refine lv (v := (.int .i64 (k_5 : Int))) rfl rfl (r_move rfl) ?_
            refine lg (b := decide (x_10 < 0)) 33 rfl rfl rfl (by rw [hg_20]; rfl) ?_
            obtain ⟨e_21, hj_22, hm⟩ := bind_some hm
            refine lv (v := (sptr a0 (Int.toNat (k_5 : Int) * 1))) rfl rfl (r_idx Try.underlying22 Try.sizeOf3 rfl rfl (at?_some hj_22).1 (at?_some hj_22).2.1 (h0.addr hj_22)) ?_
            refine lg (b := decide (x_10 < 0)) 33 rfl rfl rfl (by rw [hg_20]; rfl) ?_
            refine lv (v := (.int .i64 e_21)) rfl rfl (r_ld Try.isAgg3 rfl (h0.atInt hj_22)) ?_
            refine lg (b := decide (x_10 < 0)) 33 rfl rfl rfl (by rw [hg_20]; rfl) ?_
            refine lv (v := (.bool (decide (e_21 ≤ x_10)))) rfl rfl (r_geq x_10 e_21 rfl rfl) ?_
            refine lv (v := (.bool (decide (e_21 ≤ x_10)))) rfl rfl (r_pickF (congrArg Value.bool hg_20) rfl) ?_
            refine lnil ?_
            exact ⟨col_8, (decide (e_21 ≤ x_10)), hm, hst, h0, h1, rfl, rfl, rfl, rfl, rfl, rfl, rfl, rfl, rfl, rfl⟩




def m_credenceref10_At_J1 (p0_sizes : List Int) (p1_digits : List Int) (at_8 : Int) (i_9 : Int) (kk_L1 : (Int → Int → Option (Int × Int))) (v_19 : Bool) : Option (Int × Int) :=
  if v_19 = true then (some (0, 3)) else ((at? p0_sizes i_9).bind fun e_20 => (at? p1_digits i_9).bind fun e_22 => kk_L1 (IntKind.i64.wrap ((IntKind.i64.wrap (at_8 * e_20)) + e_22)) (IntKind.i64.wrap (i_9 + 1)))

def m_credenceref10_At_L1 (N : Nat) (p0_sizes : List Int) (p1_digits : List Int) : Nat → Int → Int → Option (Int × Int)
  | 0, _, _ => none
  | n_5 + 1, at_8, i_9 => if (decide (i_9 < (p0_sizes.length : Int))) = true then ((at? p1_digits i_9).bind fun e_25 => if (decide (e_25 < 0)) = true then (m_credenceref10_At_J1 p0_sizes p1_digits at_8 i_9 (m_credenceref10_At_L1 N p0_sizes p1_digits n_5) true) else ((at? p0_sizes i_9).bind fun e_29 => m_credenceref10_At_J1 p0_sizes p1_digits at_8 i_9 (m_credenceref10_At_L1 N p0_sizes p1_digits n_5) (decide (e_29 ≤ e_25)))) else (some (at_8, 0))

def m_credenceref10_At (N : Nat) (p0_sizes : List Int) (p1_digits : List Int) : Option (Int × Int) :=
  (m_credenceref10_Count N p0_sizes).bind fun r_1 => if (!decide (r_1.2 = 0)) = true then (some (0, r_1.2)) else (if (!decide ((p1_digits.length : Int) = (p0_sizes.length : Int))) = true then (some (0, 60)) else (m_credenceref10_At_L1 N p0_sizes p1_digits N 0 0))

set_option maxRecDepth 100000 in
theorem c_credenceref10_At (N : Nat) (col : Col) (w0 : World) (a0 : Option Addr) (cap0 : Nat) (p0_sizes : List Int) (h0 : Sl (Rep.int .i64) col w0 a0 cap0 p0_sizes) (a1 : Option Addr) (cap1 : Nat) (p1_digits : List Int) (h1 : Sl (Rep.int .i64) col w0 a1 cap1 p1_digits) (r : (Int × Int)) (hm : m_credenceref10_At N p0_sizes p1_digits = some r) :
    Calls Try.prog 42 #[(.slice a0 p0_sizes.length cap0), (.slice a1 p1_digits.length cap1)] w0 (fun e w' => e = .returned (.tuple #[.int .i64 r.1, .int .i64 r.2]) ∧ Below w0.heap.size w0 w') := by
  refine calls_of2 4 5 (m := 57) (args := [(.slice a0 p0_sizes.length cap0), (.slice a1 p1_digits.length cap1)]) Try.func42 rfl rfl rfl rfl rfl ?_
  rw [m_credenceref10_At.eq_1] at hm
  have hst := St.start col w0
  replace h0 := h0.keep (Stay.start col w0)
  replace h1 := h1.keep (Stay.start col w0)
  refine wseq ?_
  refine wregion ?_
  refine lv (v := (.int .i64 0)) rfl rfl (r_assign rfl) ?_
  refine lv (v := (.int .i64 0)) rfl rfl (r_assign rfl) ?_
  refine lnil ?_
  refine wseq ?_
  refine wregion ?_
  refine lv (v := (.slice a0 p0_sizes.length cap0)) rfl rfl (r_move rfl) ?_
  obtain ⟨r_1, hr_2, hm⟩ := bind_some hm
  refine lc rfl rfl (r_call1 Try.call24 rfl) (c_credenceref10_Count N (col0 col) _ a0 cap0 p0_sizes h0 r_1 hr_2) ?_
  rintro _ w_3 ⟨rfl, hg_4⟩
  refine ⟨_, rfl, ?_⟩
  have hg_4 : Grow (col0 col) w0 (col0 col) w_3 := .of_below hg_4
  replace h0 := h0.gr hg_4
  replace h1 := h1.gr hg_4
  replace hst := hst.grow hg_4
  refine lv (v := (.tuple #[(.int .i64 r_1.1), (.int .i64 r_1.2)])) rfl rfl (r_move rfl) ?_
  refine lv (v := (.int .i64 r_1.1)) rfl rfl (r_extract rfl rfl) ?_
  refine lv (v := (.int .i64 r_1.2)) rfl rfl (r_extract rfl rfl) ?_
  refine lv (v := (.int .i64 r_1.1)) rfl rfl (r_assign rfl) ?_
  refine lv (v := (.int .i64 r_1.2)) rfl rfl (r_assign rfl) ?_
  refine lnil ?_
  refine wseq ?_
  refine wseq ?_
  refine wregion ?_
  refine lv (v := (.int .i64 r_1.2)) rfl rfl (r_move rfl) ?_
  refine lv (v := (.bool (!decide (r_1.2 = 0)))) rfl rfl (r_neq r_1.2 0 rfl rfl) ?_
  refine lnil ?_
  refine wcond (!decide (r_1.2 = 0)) rfl (fun hb => ?_) (fun hb => ?_)
  · rw [if_pos hb] at hm
    clear hb
    refine wseq ?_
    refine wregion ?_
    refine lv (v := (.int .i64 r_1.2)) rfl rfl (r_move rfl) ?_
    refine lv (v := (.int .i64 0)) rfl rfl (r_assign rfl) ?_
    refine lv (v := (.int .i64 r_1.2)) rfl rfl (r_assign rfl) ?_
    refine lnil ?_
    refine wret ?_
    cases hm
    exact ⟨rfl, rfl, hst.below⟩
  · rw [if_neg (by rw [hb]; decide)] at hm
    clear hb
    refine wskip ?_
    refine wseq ?_
    refine wseq ?_
    refine wregion ?_
    refine lv (v := (.slice a1 p1_digits.length cap1)) rfl rfl (r_move rfl) ?_
    refine lv (v := (.int .i64 (p1_digits.length : Int))) rfl rfl (r_len Try.underlying22 rfl) ?_
    refine lv (v := (.slice a0 p0_sizes.length cap0)) rfl rfl (r_move rfl) ?_
    refine lv (v := (.int .i64 (p0_sizes.length : Int))) rfl rfl (r_len Try.underlying22 rfl) ?_
    refine lv (v := (.bool (!decide ((p1_digits.length : Int) = (p0_sizes.length : Int))))) rfl rfl (r_neq (p1_digits.length : Int) (p0_sizes.length : Int) rfl rfl) ?_
    refine lnil ?_
    refine wcond (!decide ((p1_digits.length : Int) = (p0_sizes.length : Int))) rfl (fun hb => ?_) (fun hb => ?_)
    · rw [if_pos hb] at hm
      clear hb
      refine wseq ?_
      refine wregion ?_
      refine lv (v := (.int .i64 0)) rfl rfl (r_assign rfl) ?_
      refine lv (v := (.int .i64 60)) rfl rfl (r_assign rfl) ?_
      refine lnil ?_
      refine wret ?_
      cases hm
      exact ⟨rfl, rfl, hst.below⟩
    · rw [if_neg (by rw [hb]; decide)] at hm
      clear hb
      refine wskip ?_
      refine wseq ?_
      refine wregion ?_
      refine lv (v := (.int .i64 0)) rfl rfl (r_assign rfl) ?_
      refine lnil ?_
      refine wseq ?_
      refine wseq ?_
      refine wregion ?_
      refine lv (v := (.int .i64 0)) rfl rfl (r_assign rfl) ?_
      refine lnil ?_
      refine wblock ?_
      refine wloop (fun n f w_6 => ∃ (col_7 : Col) (at_8 : Int) (i_9 : Int) (n_5 : Nat), n_5 = n ∧ m_credenceref10_At_L1 N p0_sizes p1_digits n_5 at_8 i_9 = some r ∧ St w0 (col0 col) col_7 w_6 ∧ Sl (Rep.int .i64) col_7 w_6 a0 cap0 p0_sizes ∧ Sl (Rep.int .i64) col_7 w_6 a1 cap1 p1_digits ∧ f 0 = (.slice a0 p0_sizes.length cap0) ∧ f 1 = (.slice a1 p1_digits.length cap1) ∧ f 8 = (.int .i64 at_8) ∧ f 9 = (.int .i64 i_9) ∧ f 1000000 = (enc [])) N ⟨(col0 col), 0, 0, N, rfl, hm, hst, h0, h1, rfl, rfl, rfl, rfl, rfl⟩ ?_
      clear hm; intro n f w_6 hI
      obtain ⟨col_7, at_8, i_9, n_5, hn, hm, hst, h0, h1, hs0, hs1, hs8, hs9, hs1000000⟩ := hI
      subst hn
      refine .ld (d := 0) (v := (.slice a0 p0_sizes.length cap0)) hs0 ?_
      refine .ld (d := 1) (v := (.slice a1 p1_digits.length cap1)) hs1 ?_
      refine .ld (d := 8) (v := (.int .i64 at_8)) hs8 ?_
      refine .ld (d := 9) (v := (.int .i64 i_9)) hs9 ?_
      refine .ld (d := 1000000) (v := (enc [])) hs1000000 ?_
      clear hs0 hs1 hs8 hs9 hs1000000
      cases n_5 with
      | zero => rw [m_credenceref10_At_L1.eq_1] at hm; cases hm
      | succ n_5 =>
        rw [m_credenceref10_At_L1.eq_2] at hm
        refine wseq ?_
        refine wseq ?_
        refine wregion ?_
        refine lv (v := (.int .i64 i_9)) rfl rfl (r_move rfl) ?_
        refine lv (v := (.slice a0 p0_sizes.length cap0)) rfl rfl (r_move rfl) ?_
        refine lv (v := (.int .i64 (p0_sizes.length : Int))) rfl rfl (r_len Try.underlying22 rfl) ?_
        refine lv (v := (.bool (decide (i_9 < (p0_sizes.length : Int))))) rfl rfl (r_lss i_9 (p0_sizes.length : Int) rfl rfl) ?_
        refine lnil ?_
        refine wcond (decide (i_9 < (p0_sizes.length : Int))) rfl (fun hb => ?_) (fun hb => ?_)
        · rw [if_pos hb] at hm
          clear hb
          refine wskip ?_
          refine wseq ?_
          refine wblock ?_
          refine wseq ?_
          refine wseq ?_
          refine Wp.cut (fun f w_17 => ∃ (col_18 : Col) (v_19 : Bool), m_credenceref10_At_J1 p0_sizes p1_digits at_8 i_9 (m_credenceref10_At_L1 N p0_sizes p1_digits n_5) v_19 = some r ∧ St w0 (col0 col) col_18 w_17 ∧ Sl (Rep.int .i64) col_18 w_17 a0 cap0 p0_sizes ∧ Sl (Rep.int .i64) col_18 w_17 a1 cap1 p1_digits ∧ f 0 = (.slice a0 p0_sizes.length cap0) ∧ f 1 = (.slice a1 p1_digits.length cap1) ∧ f 8 = (.int .i64 at_8) ∧ f 9 = (.int .i64 i_9) ∧ f 44 = (.bool v_19) ∧ f 1000000 = (enc [])) ?_ ?_
          · intro f w_17 hJ
            obtain ⟨col_18, v_19, hm, hst, h0, h1, hs0, hs1, hs8, hs9, hs44, hs1000000⟩ := hJ
            rw [m_credenceref10_At_J1.eq_1] at hm
            refine .ld (d := 0) (v := (.slice a0 p0_sizes.length cap0)) hs0 ?_
            refine .ld (d := 1) (v := (.slice a1 p1_digits.length cap1)) hs1 ?_
            refine .ld (d := 8) (v := (.int .i64 at_8)) hs8 ?_
            refine .ld (d := 9) (v := (.int .i64 i_9)) hs9 ?_
            refine .ld (d := 44) (v := (.bool v_19)) hs44 ?_
            refine .ld (d := 1000000) (v := (enc [])) hs1000000 ?_
            clear hs0 hs1 hs8 hs9 hs44 hs1000000
            refine wcond (v_19) rfl (fun hb => ?_) (fun hb => ?_)
            · rw [if_pos hb] at hm
              clear hb
              refine wseq ?_
              refine wregion ?_
              refine lv (v := (.int .i64 0)) rfl rfl (r_assign rfl) ?_
              refine lv (v := (.int .i64 3)) rfl rfl (r_assign rfl) ?_
              refine lnil ?_
              refine wret ?_
              cases hm
              exact ⟨rfl, rfl, hst.below⟩
            · rw [if_neg (by rw [hb]; decide)] at hm
              clear hb
              refine wskip ?_
              refine wquiet (col := col_18) (by kernel_rfl) (by kernel_rfl) ?_
              refine qv (v := (.int .i64 at_8)) rfl (fun _ hC => r_move rfl) ?_
              refine qv (v := (.slice a0 p0_sizes.length cap0)) rfl (fun _ hC => r_move rfl) ?_
              refine qv (v := (.int .i64 i_9)) rfl (fun _ hC => r_move rfl) ?_
              obtain ⟨e_20, hj_21, hm⟩ := bind_some hm
              refine qv (v := (sptr a0 (Int.toNat i_9 * 1))) rfl (fun _ hC => r_idx Try.underlying22 Try.sizeOf3 rfl rfl (at?_some hj_21).1 (at?_some hj_21).2.1 (h0.addr hj_21)) ?_
              refine qv (v := (.int .i64 e_20)) rfl (fun _ hC => r_ld Try.isAgg3 rfl ((h0.gr hC).atInt hj_21)) ?_
              refine qv (v := (.int .i64 (IntKind.i64.wrap (at_8 * e_20)))) rfl (fun _ hC => r_mul at_8 e_20 rfl rfl) ?_
              refine qv (v := (.slice a1 p1_digits.length cap1)) rfl (fun _ hC => r_move rfl) ?_
              refine qv (v := (.int .i64 i_9)) rfl (fun _ hC => r_move rfl) ?_
              obtain ⟨e_22, hj_23, hm⟩ := bind_some hm
              refine qv (v := (sptr a1 (Int.toNat i_9 * 1))) rfl (fun _ hC => r_idx Try.underlying22 Try.sizeOf3 rfl rfl (at?_some hj_23).1 (at?_some hj_23).2.1 (h1.addr hj_23)) ?_
              refine qv (v := (.int .i64 e_22)) rfl (fun _ hC => r_ld Try.isAgg3 rfl ((h1.gr hC).atInt hj_23)) ?_
              refine qv (v := (.int .i64 (IntKind.i64.wrap ((IntKind.i64.wrap (at_8 * e_20)) + e_22)))) rfl (fun _ hC => r_add (IntKind.i64.wrap (at_8 * e_20)) e_22 rfl rfl) ?_
              refine qv (v := (.int .i64 (IntKind.i64.wrap ((IntKind.i64.wrap (at_8 * e_20)) + e_22)))) rfl (fun _ hC => r_assign rfl) ?_
              refine qnil ?_
              intro w_24 hC
              replace h0 := h0.gr hC
              replace h1 := h1.gr hC
              replace hst := hst.grow hC
              refine wregion ?_
              refine lv (v := (.int .i64 i_9)) rfl rfl (r_move rfl) ?_
              refine lv (v := (.int .i64 (IntKind.i64.wrap (i_9 + 1)))) rfl rfl (r_add i_9 1 rfl rfl) ?_
              refine lv (v := (.int .i64 (IntKind.i64.wrap (i_9 + 1)))) rfl rfl (r_assign rfl) ?_
              refine lnil ?_
              exact ⟨n_5, by omega, ⟨col_18, (IntKind.i64.wrap ((IntKind.i64.wrap (at_8 * e_20)) + e_22)), (IntKind.i64.wrap (i_9 + 1)), n_5, rfl, hm, hst, h0, h1, rfl, rfl, rfl, rfl, rfl⟩⟩
          · refine wquiet (col := col_7) (by kernel_rfl) (by kernel_rfl) ?_
            refine qv (v := (.slice a1 p1_digits.length cap1)) rfl (fun _ hC => r_move rfl) ?_
            refine qv (v := (.int .i64 i_9)) rfl (fun _ hC => r_move rfl) ?_
            obtain ⟨e_25, hj_26, hm⟩ := bind_some hm
            refine qv (v := (sptr a1 (Int.toNat i_9 * 1))) rfl (fun _ hC => r_idx Try.underlying22 Try.sizeOf3 rfl rfl (at?_some hj_26).1 (at?_some hj_26).2.1 (h1.addr hj_26)) ?_
            refine qv (v := (.int .i64 e_25)) rfl (fun _ hC => r_ld Try.isAgg3 rfl ((h1.gr hC).atInt hj_26)) ?_
            refine qv (v := (.bool (decide (e_25 < 0)))) rfl (fun _ hC => r_lss e_25 0 rfl rfl) ?_
            refine qv (v := (.bool (decide (e_25 < 0)))) rfl (fun _ hC => r_move rfl) ?_
            by_cases hg_27 : (decide (e_25 < 0)) = true
            · rw [if_pos hg_27] at hm
              refine qp (b := decide (e_25 < 0)) 34 rfl rfl rfl rfl (by rw [hg_27]; rfl) ?_
              refine qp (b := decide (e_25 < 0)) 34 rfl rfl rfl rfl (by rw [hg_27]; rfl) ?_
              refine qp (b := decide (e_25 < 0)) 34 rfl rfl rfl rfl (by rw [hg_27]; rfl) ?_
              refine qp (b := decide (e_25 < 0)) 34 rfl rfl rfl rfl (by rw [hg_27]; rfl) ?_
              refine qp (b := decide (e_25 < 0)) 34 rfl rfl rfl rfl (by rw [hg_27]; rfl) ?_
              refine qp (b := decide (e_25 < 0)) 34 rfl rfl rfl rfl (by rw [hg_27]; rfl) ?_
              refine qp (b := decide (e_25 < 0)) 34 rfl rfl rfl rfl (by rw [hg_27]; rfl) ?_
              refine qp (b := decide (e_25 < 0)) 34 rfl rfl rfl rfl (by rw [hg_27]; rfl) ?_
              refine qp (b := decide (e_25 < 0)) 34 rfl rfl rfl rfl (by rw [hg_27]; rfl) ?_
              refine qv (v := (.bool true)) rfl (fun _ hC => r_pickT (congrArg Value.bool hg_27) rfl) ?_
              refine qnil ?_
              intro w_28 hC
              replace h0 := h0.gr hC
              replace h1 := h1.gr hC
              replace hst := hst.grow hC
              exact ⟨col_7, true, hm, hst, h0, h1, rfl, rfl, rfl, rfl, rfl, rfl⟩
            · rw [if_neg hg_27] at hm
              replace hg_27 := Bool.eq_false_iff.2 hg_27
              refine qg (b := decide (e_25 < 0)) 34 rfl rfl rfl (by rw [hg_27]; rfl) ?_
              refine qv (v := (.slice a1 p1_digits.length cap1)) rfl (fun _ hC => r_move rfl) ?_
              refine qg (b := decide (e_25 < 0)) 34 rfl rfl rfl (by rw [hg_27]; rfl) ?_
              refine qv (v := (.int .i64 i_9)) rfl (fun _ hC => r_move rfl) ?_
              refine qg (b := decide (e_25 < 0)) 34 rfl rfl rfl (by rw [hg_27]; rfl) ?_
              refine qv (v := (sptr a1 (Int.toNat i_9 * 1))) rfl (fun _ hC => r_idx Try.underlying22 Try.sizeOf3 rfl rfl (at?_some hj_26).1 (at?_some hj_26).2.1 (h1.addr hj_26)) ?_
              refine qg (b := decide (e_25 < 0)) 34 rfl rfl rfl (by rw [hg_27]; rfl) ?_
              refine qv (v := (.int .i64 e_25)) rfl (fun _ hC => r_ld Try.isAgg3 rfl ((h1.gr hC).atInt hj_26)) ?_
              refine qg (b := decide (e_25 < 0)) 34 rfl rfl rfl (by rw [hg_27]; rfl) ?_
              refine qv (v := (.slice a0 p0_sizes.length cap0)) rfl (fun _ hC => r_move rfl) ?_
              refine qg (b := decide (e_25 < 0)) 34 rfl rfl rfl (by rw [hg_27]; rfl) ?_
              refine qv (v := (.int .i64 i_9)) rfl (fun _ hC => r_move rfl) ?_
              refine qg (b := decide (e_25 < 0)) 34 rfl rfl rfl (by rw [hg_27]; rfl) ?_
              obtain ⟨e_29, hj_30, hm⟩ := bind_some hm
              refine qv (v := (sptr a0 (Int.toNat i_9 * 1))) rfl (fun _ hC => r_idx Try.underlying22 Try.sizeOf3 rfl rfl (at?_some hj_30).1 (at?_some hj_30).2.1 (h0.addr hj_30)) ?_
              refine qg (b := decide (e_25 < 0)) 34 rfl rfl rfl (by rw [hg_27]; rfl) ?_
              refine qv (v := (.int .i64 e_29)) rfl (fun _ hC => r_ld Try.isAgg3 rfl ((h0.gr hC).atInt hj_30)) ?_
              refine qg (b := decide (e_25 < 0)) 34 rfl rfl rfl (by rw [hg_27]; rfl) ?_
              refine qv (v := (.bool (decide (e_29 ≤ e_25)))) rfl (fun _ hC => r_geq e_25 e_29 rfl rfl) ?_
              refine qv (v := (.bool (decide (e_29 ≤ e_25)))) rfl (fun _ hC => r_pickF (congrArg Value.bool hg_27) rfl) ?_
              refine qnil ?_
              intro w_31 hC
              replace h0 := h0.gr hC
              replace h1 := h1.gr hC
              replace hst := hst.grow hC
              exact ⟨col_7, (decide (e_29 ≤ e_25)), hm, hst, h0, h1, rfl, rfl, rfl, rfl, rfl, rfl⟩
        · rw [if_neg (by rw [hb]; decide)] at hm
          clear hb
          refine wexit (inB_hit ?_)
          refine wseq ?_
          refine wregion ?_
          refine lv (v := (.int .i64 at_8)) rfl rfl (r_move rfl) ?_
          refine lv (v := (.int .i64 at_8)) rfl rfl (r_assign rfl) ?_
          refine lv (v := (.int .i64 0)) rfl rfl (r_assign rfl) ?_
          refine lnil ?_
          refine wret ?_
          cases hm
          exact ⟨rfl, rfl, hst.below⟩




def m_slices_Backward_int_int_1_L1 (N : Nat) (v0_v : List Int) : Nat → Int → Option (List (Int × Int))
  | 0, _ => none
  | n_1 + 1, i_4 => if (decide (0 ≤ i_4)) = true then ((at? v0_v i_4).bind fun e_5 => ((m_slices_Backward_int_int_1_L1 N v0_v n_1) (IntKind.i64.wrap (i_4 - 1))).bind fun r_7 => some ((i_4, e_5) :: r_7)) else (some [])

def m_slices_Backward_int_int_1 (N : Nat) (v0_v : List Int) : Option (List (Int × Int)) :=
  m_slices_Backward_int_int_1_L1 N v0_v N (IntKind.i64.wrap ((v0_v.length : Int) - 1))

set_option maxRecDepth 100000 in
theorem c_slices_Backward_int_int_1 (N : Nat) (col : Col) (w0 : World) (g0 : Nat) (af0 : Option Addr) (capf0 : Nat) (v0_v : List Int) (hf0 : Sl (Rep.int .i64) col w0 af0 capf0 v0_v) (hb0 : Box 22 450 col w0 g0 #[(.slice af0 v0_v.length capf0)]) (r : List (Int × Int)) (hm : m_slices_Backward_int_int_1 N v0_v = some r) :
    Goes Try.prog 58 [(.pointer (some ⟨g0, 0, none⟩))] (fun (y : Int × Int) (col : Col) (w : World) (args : List Value) => args = [.int .i64 y.1, .int .i64 y.2]) r col w0 := by
  intro l J X hjs hxs hy hst
  refine calls_of0 (m := 19) (args := [.func (.yield l) #[] #[], (.pointer (some ⟨g0, 0, none⟩))]) Try.func58 rfl rfl rfl rfl ?_
  rw [m_slices_Backward_int_int_1.eq_1] at hm
  refine wseq ?_
  refine wregion ?_
  refine lv (v := (.slice af0 v0_v.length capf0)) rfl rfl (r_ld Try.isAgg22 rfl hb0.at1) ?_
  refine lv (v := (.int .i64 (v0_v.length : Int))) rfl rfl (r_len Try.underlying22 rfl) ?_
  refine lv (v := (.int .i64 (IntKind.i64.wrap ((v0_v.length : Int) - 1)))) rfl rfl (r_sub (v0_v.length : Int) 1 rfl rfl) ?_
  refine lv (v := (.int .i64 (IntKind.i64.wrap ((v0_v.length : Int) - 1)))) rfl rfl (r_assign rfl) ?_
  refine lnil ?_
  refine wblock ?_
  refine wloop (fun n f w_2 => ∃ (col_3 : Col) (r : List (Int × Int)) (i_4 : Int) (n_1 : Nat), n_1 = n ∧ m_slices_Backward_int_int_1_L1 N v0_v n_1 i_4 = some r ∧ J r col_3 w_2 ∧ Sl (Rep.int .i64) col_3 w_2 af0 capf0 v0_v ∧ Box 22 450 col_3 w_2 g0 #[(.slice af0 v0_v.length capf0)] ∧ f 0 = (.func (.yield l) #[] #[]) ∧ f 1 = (.pointer (some ⟨g0, 0, none⟩)) ∧ f 3 = (.int .i64 i_4) ∧ f 1000000 = (enc [])) N ⟨col, r, (IntKind.i64.wrap ((v0_v.length : Int) - 1)), N, rfl, hm, hst, hf0, hb0, rfl, rfl, rfl, rfl⟩ ?_
  clear hm; intro n f w_2 hI
  obtain ⟨col_3, r, i_4, n_1, hn, hm, hst, hf0, hb0, hs0, hs1, hs3, hs1000000⟩ := hI
  subst hn
  refine .ld (d := 0) (v := (.func (.yield l) #[] #[])) hs0 ?_
  refine .ld (d := 1) (v := (.pointer (some ⟨g0, 0, none⟩))) hs1 ?_
  refine .ld (d := 3) (v := (.int .i64 i_4)) hs3 ?_
  refine .ld (d := 1000000) (v := (enc [])) hs1000000 ?_
  clear hs0 hs1 hs3 hs1000000
  cases n_1 with
  | zero => rw [m_slices_Backward_int_int_1_L1.eq_1] at hm; cases hm
  | succ n_1 =>
    rw [m_slices_Backward_int_int_1_L1.eq_2] at hm
    refine wseq ?_
    refine wseq ?_
    refine wregion ?_
    refine lv (v := (.int .i64 i_4)) rfl rfl (r_move rfl) ?_
    refine lv (v := (.bool (decide (0 ≤ i_4)))) rfl rfl (r_geq i_4 0 rfl rfl) ?_
    refine lnil ?_
    refine wcond (decide (0 ≤ i_4)) rfl (fun hb => ?_) (fun hb => ?_)
    · rw [if_pos hb] at hm
      clear hb
      refine wskip ?_
      refine wseq ?_
      refine wblock ?_
      refine wseq ?_
      refine wregion ?_
      refine lv (v := (.func (.yield l) #[] #[])) rfl rfl (r_move rfl) ?_
      refine lv (v := (.int .i64 i_4)) rfl rfl (r_move rfl) ?_
      refine lv (v := (.slice af0 v0_v.length capf0)) rfl rfl (r_ld Try.isAgg22 rfl hb0.at1) ?_
      refine lv (v := (.int .i64 i_4)) rfl rfl (r_move rfl) ?_
      obtain ⟨e_5, hj_6, hm⟩ := bind_some hm
      refine lv (v := (sptr af0 (Int.toNat i_4 * 1))) rfl rfl (r_idx Try.underlying22 Try.sizeOf3 rfl rfl (at?_some hj_6).1 (at?_some hj_6).2.1 (hf0.addr hj_6)) ?_
      refine lv (v := (.int .i64 e_5)) rfl rfl (r_ld Try.isAgg3 rfl (hf0.atInt hj_6)) ?_
      obtain ⟨r_7, hc_8m, hc_8⟩ := bind_some hm
      cases hc_8
      have hm := hc_8m
      clear hc_8m
      refine ly2 rfl rfl rfl rfl (hy _ _ _ _ [(.int .i64 i_4), (.int .i64 e_5)] hst rfl) ?_
      rintro _ w_9 ⟨col_10, hk_11, ⟨rfl, hJ⟩ | ⟨rfl, hX⟩⟩
      · refine ⟨_, rfl, ?_⟩
        clear hst
        replace hb0 := hb0.kpp hk_11 rfl
        replace hf0 := hf0.kpp hk_11 rfl
        have hst := hJ
        clear hJ
        refine lv (v := (.bool false)) rfl rfl (r_not true rfl) ?_
        refine lnil ?_
        refine wcondF rfl ?_
        refine wskip ?_
        refine wregion ?_
        refine lv (v := (.int .i64 i_4)) rfl rfl (r_move rfl) ?_
        refine lv (v := (.int .i64 (IntKind.i64.wrap (i_4 - 1)))) rfl rfl (r_sub i_4 1 rfl rfl) ?_
        refine lv (v := (.int .i64 (IntKind.i64.wrap (i_4 - 1)))) rfl rfl (r_assign rfl) ?_
        refine lnil ?_
        exact ⟨n_1, by omega, ⟨col_10, r_7, (IntKind.i64.wrap (i_4 - 1)), n_1, rfl, hm, hst, hf0, hb0, rfl, rfl, rfl, rfl⟩⟩
      · clear hm
        refine ⟨_, rfl, ?_⟩
        clear hst
        replace hb0 := hb0.kpp hk_11 rfl
        replace hf0 := hf0.kpp hk_11 rfl
        have hst := hX
        clear hX
        refine lv (v := (.bool true)) rfl rfl (r_not false rfl) ?_
        refine lnil ?_
        refine wcondT rfl ?_
        refine wret ?_
        exact ⟨rfl, ⟨_, rfl⟩, _, .inr hst⟩
    · rw [if_neg (by rw [hb]; decide)] at hm
      clear hb
      refine wexit (inB_hit ?_)
      cases hm
      exact ⟨rfl, ⟨_, rfl⟩, _, .inl hst⟩




def m_slices_Backward_int_int (N : Nat) (p0_s : List Int) : Option (List (Int × Int)) :=
  m_slices_Backward_int_int_1 N p0_s

set_option maxRecDepth 100000 in
theorem c_slices_Backward_int_int (N : Nat) (col : Col) (w0 : World) (a0 : Option Addr) (cap0 : Nat) (p0_s : List Int) (h0 : Sl (Rep.int .i64) col w0 a0 cap0 p0_s) (r : (List (Int × Int))) (hm : m_slices_Backward_int_int N p0_s = some r) :
    Calls Try.prog 55 #[(.slice a0 p0_s.length cap0)] w0 (fun e w' => ∃ (col' : Col) (rv : Value), e = .returned (rv) ∧ Grow col w0 col' w' ∧ It Try.prog rv (fun (y : Int × Int) (col : Col) (w : World) (args : List Value) => args = [.int .i64 y.1, .int .i64 y.2]) r q0 col' w') := by
  refine calls_of1 2 (m := 4) (args := [(.slice a0 p0_s.length cap0)]) Try.func55 rfl rfl rfl rfl rfl ?_
  rw [m_slices_Backward_int_int.eq_1] at hm
  have hst := St.start col w0
  replace h0 := h0.keep (Stay.start col w0)
  refine wseq ?_
  refine wregion ?_
  refine l_box (col := (col0 col)) (v := (.slice a0 p0_s.length cap0)) 1 rfl rfl ?_
  intro g_1 w_2 col_3 hg_4 hb_5
  replace h0 := h0.gr hg_4
  replace hst := hst.grow hg_4
  replace hb_5 : Box 22 1 col_3 w_2 g_1 #[(.slice a0 p0_s.length cap0)] := hb_5
  refine lv (v := _) rfl rfl (r_assign rfl) ?_
  refine lnil ?_
  refine wseq ?_
  refine wregion ?_
  refine lv (v := (.func (.func 58) #[] #[(.pointer (some ⟨g_1, 0, none⟩))])) rfl rfl (r_func1 rfl) ?_
  refine lv (v := (.func (.func 58) #[] #[(.pointer (some ⟨g_1, 0, none⟩))])) rfl rfl (r_assign rfl) ?_
  refine lnil ?_
  refine wret ?_
  have hb_5f := hst.finBox (G := (fun n => bif Nat.beq n 1 then 450 else 0)) hb_5 (by decide) (by decide) (show (fun n => bif Nat.beq n 1 then 450 else 0) 1 = 450 from rfl)
  have h0f := hst.finSl (g := (fun n => bif Nat.beq n 1 then 450 else 0)) rfl h0
  refine ⟨rfl, colF w0.heap.size col col_3 (fun n => bif Nat.beq n 1 then 450 else 0), _, rfl, hst.fin (fun n => bif Nat.beq n 1 then 450 else 0), 58, [(.pointer (some ⟨g_1, 0, none⟩))], rfl, Try.call58, ?_⟩
  intro col9 w9 hs9 hk9
  replace hb_5f := hb_5f.itk hs9 hk9 rfl
  replace h0f := h0f.itk hs9 hk9 rfl
  exact c_slices_Backward_int_int_1 N col9 w9 g_1 a0 cap0 p0_s h0f hb_5f r hm




def m_radix_digits_int_L1  : List (Int × Int) → Int → (List Int) → Option (List Int)
  | [], at_33, out_36 => some out_36
  | y_38 :: l_39, at_33, out_36 => chk (y_38.2 ≠ 0) ((at? out_36 y_38.1).bind fun e_52 => (some (out_36.set (Int.toNat y_38.1) (Int.tmod at_33 y_38.2))).bind fun xs_60 => chk (y_38.2 ≠ 0) ((m_radix_digits_int_L1 l_39) (IntKind.i64.wrap (Int.tdiv at_33 y_38.2)) xs_60))

def m_radix_digits_int (N : Nat) (p0_sizes : List Int) (p1_at : Int) : Option (List Int) :=
  if (decide ((p0_sizes.length : Int) = 0)) = true then (some ([] : List Int)) else (chk (p0_sizes.length * 8 ≤ 281474976710656 ∧ p0_sizes.length ≤ maxLen) ((m_slices_Backward_int_int N p0_sizes).bind fun r_24 => m_radix_digits_int_L1 r_24 p1_at (List.replicate p0_sizes.length (0 : Int))))

set_option maxRecDepth 100000 in
theorem c_radix_digits_int (N : Nat) (c1 : Nat) (col : Col) (w0 : World) (a0 : Option Addr) (cap0 : Nat) (p0_sizes : List Int) (h0 : Sl (Rep.int .i64) col w0 a0 cap0 p0_sizes) (p1_at : Int) (r : (List Int)) (hm : m_radix_digits_int N p0_sizes p1_at = some r) :
    Calls Try.prog 41 #[(.slice a0 p0_sizes.length cap0), (.int .i64 p1_at)] w0 (fun e w' => ∃ (col' : Col) (ra1 : Option Addr) (rc1 : Nat), e = .returned (.slice ra1 r.length rc1) ∧ Grow col w0 col' w' ∧ Own (Rep.int .i64) 3 c1 col' w' ra1 rc1 r) := by
  refine calls_ofM1 4 (m := 28) (args := [(.slice a0 p0_sizes.length cap0), (.int .i64 p1_at)]) Try.func41 rfl rfl rfl rfl rfl ?_
  rw [m_radix_digits_int.eq_1] at hm
  have hst := St.start col w0
  replace h0 := h0.keep (Stay.start col w0)
  have hmk : Marks (col0 col) w0 [] := .nil
  refine wseq ?_
  refine wregion ?_
  refine l_box (col := (col0 col)) (v := (.int .i64 p1_at)) 1 rfl rfl ?_
  intro g_1 w_2 col_3 hg_4 hb_5
  replace h0 := h0.gr hg_4
  replace hmk := hmk.gr hg_4
  replace hst := hst.grow hg_4
  replace hb_5 : Box 3 1 col_3 w_2 g_1 #[(.int .i64 p1_at)] := hb_5
  refine lv (v := (.slice none (([] : List Int).length) 0)) rfl rfl (r_assign rfl) ?_
  refine lnil ?_
  refine wseq ?_
  refine wseq ?_
  refine wregion ?_
  refine lv (v := (.slice a0 p0_sizes.length cap0)) rfl rfl (r_move rfl) ?_
  refine lv (v := (.int .i64 (p0_sizes.length : Int))) rfl rfl (r_len Try.underlying22 rfl) ?_
  refine lv (v := (.bool (decide ((p0_sizes.length : Int) = 0)))) rfl rfl (r_eql (p0_sizes.length : Int) 0 rfl rfl) ?_
  refine lnil ?_
  refine wcond (decide ((p0_sizes.length : Int) = 0)) rfl (fun hb => ?_) (fun hb => ?_)
  · rw [if_pos hb] at hm
    clear hb
    refine wseq ?_
    refine wregion ?_
    refine lv (v := (.slice none (([] : List Int).length) 0)) rfl rfl (r_assign rfl) ?_
    refine lnil ?_
    refine wret ?_
    cases hm
    refine ⟨_, [], rfl, hmk, ?_⟩
    intro w_6 hk_7 hs_8
    clear hmk
    replace h0 := h0.kp hk_7 (by decide)
    replace hb_5 := hb_5.kp hk_7 (by decide)
    replace hst := hst.kp hk_7 hs_8 (by decide) (by decide)
    exact ⟨colF w0.heap.size col col_3 (fun n => 0), none, 0, rfl, hst.fin (fun n => 0), Own.nil⟩
  · rw [if_neg (by rw [hb]; decide)] at hm
    clear hb
    refine wskip ?_
    refine wseq ?_
    refine wregion ?_
    refine lv (v := (.slice a0 p0_sizes.length cap0)) rfl rfl (r_move rfl) ?_
    refine lv (v := (.int .i64 (p0_sizes.length : Int))) rfl rfl (r_len Try.underlying22 rfl) ?_
    obtain ⟨hb_9, hm⟩ := chk_some hm
    refine l_make (col := col_3) (w := w_2) (r := (Rep.int .i64)) (n := p0_sizes.length) (x0 := 0) 4 rfl Try.underlying22 Try.t3 rfl rfl rfl rfl rfl rfl rfl hb_9.1 hb_9.2 rfl ?_
    intro a_10 w_11 col_12 hg_13 h_14
    replace h0 := h0.gr hg_13
    replace hb_5 := hb_5.gr hg_13
    replace hmk := hmk.gr hg_13
    replace hst := hst.grow hg_13
    refine l_alloc (col := col_12) (v := (.slice none (([] : List Int).length) 0)) 5 rfl Try.zeroValue22 ?_
    intro g_15 w_16 col_17 hg_18 hb_19
    replace h0 := h0.gr hg_18
    replace hb_5 := hb_5.gr hg_18
    replace h_14 := h_14.gr hg_18
    replace hmk := hmk.gr hg_18
    replace hst := hst.grow hg_18
    replace hb_19 : Box 22 5 col_17 w_16 g_15 #[(.slice none (([] : List Int).length) 0)] := hb_19
    refine l_bstore (v := (.slice a_10 ((List.replicate p0_sizes.length (0 : Int)).length) p0_sizes.length)) hb_19 Try.sizeOf22 rfl rfl (by intro u hu; simp only [Value.cells, List.mem_cons, List.not_mem_nil, or_false] at hu; subst hu; rfl) rfl rfl ?_
    intro w_20 hk_21 hs_22 hb_23
    replace h0 := h0.kp hk_21 (by decide)
    replace hb_5 := hb_5.kp hk_21 (by decide)
    replace h_14 := h_14.kp hk_21 (by decide) (by decide)
    replace hmk := hmk.kp hk_21 (by decide)
    replace hst := hst.kp hk_21 hs_22 (by decide) (by decide)
    clear hb_19
    replace hb_23 : Box 22 5 col_17 w_20 g_15 #[(.slice a_10 ((List.replicate p0_sizes.length (0 : Int)).length) p0_sizes.length)] := hb_23
    refine lnil ?_
    refine wseq ?_
    refine wseq ?_
    refine wregion ?_
    refine lv (v := (.slice a0 p0_sizes.length cap0)) rfl rfl (r_move rfl) ?_
    obtain ⟨r_24, hr_25, hm⟩ := bind_some hm
    refine lc rfl rfl (r_call1 Try.call55 rfl) (c_slices_Backward_int_int N col_17 _ a0 cap0 p0_sizes h0 r_24 hr_25) ?_
    rintro _ w_28 ⟨col_30, v_26, rfl, hg_29, h_27⟩
    refine ⟨_, rfl, ?_⟩
    replace h0 := h0.gr hg_29
    replace hb_5 := hb_5.gr hg_29
    replace h_14 := h_14.gr hg_29
    replace hb_23 := hb_23.gr hg_29
    replace hmk := hmk.gr hg_29
    replace hst := hst.grow hg_29
    refine lnil ?_
    refine wblock ?_
    refine wrange (psl := [16, 17]) (arr := (fun (y : Int × Int) (col : Col) (w : World) (args : List Value) => args = [.int .i64 y.1, .int .i64 y.2])) (ys := r_24) (col := col_30) 498 rfl h_27 rfl hmk rfl rfl (by rintro _ _ _ _ rfl; rfl) (fun ys_ col_32 w_31 => ∃ (at_33 : Int) (a_34 : Option Addr) (cap_35 : Nat) (out_36 : List Int), m_radix_digits_int_L1 ys_ at_33 out_36 = some r ∧ St w0 (col0 col) col_32 w_31 ∧ Box 3 1 col_32 w_31 g_1 #[(.int .i64 at_33)] ∧ Own (Rep.int .i64) 3 4 col_32 w_31 a_34 cap_35 out_36 ∧ Box 22 5 col_32 w_31 g_15 #[(.slice a_34 out_36.length cap_35)]) (fun _ _ _ => False) ?_ ?_ ⟨p1_at, a_10, p0_sizes.length, (List.replicate p0_sizes.length (0 : Int)), hm, hst, hb_5, h_14, hb_23⟩ ?_ ?_ ?_
    · intro ys_ col_32 w_31 col2_ w2_ hJ hk
      obtain ⟨at_33, a_34, cap_35, out_36, hm, hst, hb_5, h_37, hb_23⟩ := hJ
      exact ⟨at_33, a_34, cap_35, out_36, hm, hst.kpp hk rfl rfl, hb_5.kpp hk rfl, h_37.kpp hk rfl rfl, hb_23.kpp hk rfl⟩
    · intro _ _ _ _ _ h _
      exact h
    · intro l_44 rc_45 ds_46 y_38 l_39 col_32 w_31 args hJ hrec hmk harr
      obtain ⟨at_33, a_34, cap_35, out_36, hm, hst, hb_5, h_37, hb_23⟩ := hJ
      rw [m_radix_digits_int_L1.eq_2] at hm
      have hki := KeepP.refl pCo col_32 w_31
      subst harr
      refine wseq ?_
      refine wregion ?_
      refine lv (v := (.int .i64 y_38.1)) rfl rfl (r_assign rfl) ?_
      refine lnil ?_
      refine wregion ?_
      refine lv (v := (.int .i64 y_38.2)) rfl rfl (r_assign rfl) ?_
      refine lnil ?_
      refine ⟨_, hrec, ?_⟩
      intro w_47 rc_48 hk_49 hs_50 hrec2
      replace hb_5 := hb_5.kp hk_49 (by decide)
      replace hb_23 := hb_23.kp hk_49 (by decide)
      replace h_37 := h_37.kp hk_49 (by decide) (by decide)
      replace hmk := hmk.kp hk_49 (by decide)
      replace hki := hki.kp hk_49 hs_50 rfl
      replace hst := hst.kp hk_49 hs_50 (by decide) (by decide)
      clear hrec
      have hrec := hrec2
      clear hrec2
      refine wblock ?_
      refine wseq ?_
      refine wtail (col := col_32) _ (by kernel_rfl) rfl (by kernel_rfl) ?_
      refine qv (v := (.slice a_34 out_36.length cap_35)) rfl (fun _ hC => r_ld Try.isAgg22 rfl (hb_23.gr hC).at1) ?_
      refine qv (v := (.int .i64 y_38.1)) rfl (fun _ hC => r_move rfl) ?_
      refine qv (v := (.int .i64 at_33)) rfl (fun _ hC => r_ld Try.isAgg3 rfl (hb_5.gr hC).at1) ?_
      refine qv (v := (.int .i64 y_38.2)) rfl (fun _ hC => r_move rfl) ?_
      obtain ⟨h0_51, hm⟩ := chk_some hm
      refine qv (v := (.int .i64 (Int.tmod at_33 y_38.2))) rfl (fun _ hC => r_rem at_33 y_38.2 rfl rfl h0_51) ?_
      obtain ⟨e_52, hj_53, hm⟩ := bind_some hm
      refine qv (v := (sptr a_34 (Int.toNat y_38.1 * 1))) rfl (fun _ hC => r_idx Try.underlying22 Try.sizeOf3 rfl rfl (at?_some hj_53).1 (at?_some hj_53).2.1 (h_37.addr hj_53)) ?_
      refine qnop ?_
      refine qnil ?_
      intro w_54 hC
      replace hb_5 := hb_5.gr hC
      replace hb_23 := hb_23.gr hC
      replace h_37 := h_37.gr hC
      replace hrec := hrec.gr hC
      replace hmk := hmk.gr hC
      replace hki := hki.gr hC
      replace hst := hst.grow hC
      obtain ⟨xs_60, hz_59, hm⟩ := bind_some hm
      have hz_59 : xs_60 = out_36.set (Int.toNat y_38.1) (Int.tmod at_33 y_38.2) := (Option.some.inj hz_59).symm
      refine l_store (x1 := Int.tmod at_33 y_38.2) (v := (.int .i64 (Int.tmod at_33 y_38.2))) h_37 hj_53 rfl Try.sizeOf3 rfl rfl rfl (by decide) ?_
      intro w_55 hk_56 hs_57 h_58
      rw [← hz_59] at h_58
      replace hb_5 := hb_5.kp hk_56 (by decide)
      replace hb_23 := hb_23.kp hk_56 (by decide)
      replace hrec := hrec.kp hk_56 (by decide)
      replace hmk := hmk.kp hk_56 (by decide)
      replace hki := hki.kp hk_56 hs_57 rfl
      replace hst := hst.kp hk_56 hs_57 (by decide) (by decide)
      refine .ld (d := 18) (v := (.slice a_34 xs_60.length cap_35)) (congrArg (fun n => Value.slice a_34 n cap_35) (show out_36.length = xs_60.length by rw [hz_59, List.length_set])) ?_
      replace hb_23 : Box 22 5 col_32 w_55 g_15 #[(.slice a_34 xs_60.length cap_35)] := by rw [← (show out_36.length = xs_60.length by rw [hz_59, List.length_set])]; exact hb_23
      clear h_37
      refine lnil ?_
      refine wregion ?_
      refine lv (v := (.int .i64 at_33)) rfl rfl (r_ld Try.isAgg3 rfl hb_5.at1) ?_
      refine lv (v := (.int .i64 y_38.2)) rfl rfl (r_move rfl) ?_
      obtain ⟨h0_61, hm⟩ := chk_some hm
      refine lv (v := (.int .i64 (IntKind.i64.wrap (Int.tdiv at_33 y_38.2)))) rfl rfl (r_quo at_33 y_38.2 rfl rfl h0_61) ?_
      refine l_bstore (v := (.int .i64 (IntKind.i64.wrap (Int.tdiv at_33 y_38.2)))) hb_5 Try.sizeOf3 rfl rfl (by intro u hu; simp only [Value.cells, List.mem_cons, List.not_mem_nil, or_false] at hu; subst hu; rfl) rfl rfl ?_
      intro w_62 hk_63 hs_64 hb_65
      replace hb_23 := hb_23.kp hk_63 (by decide)
      replace h_58 := h_58.kp hk_63 (by decide) (by decide)
      replace hrec := hrec.kp hk_63 (by decide)
      replace hmk := hmk.kp hk_63 (by decide)
      replace hki := hki.kp hk_63 hs_64 rfl
      replace hst := hst.kp hk_63 hs_64 (by decide) (by decide)
      clear hb_5
      replace hb_65 : Box 3 1 col_32 w_62 g_1 #[(.int .i64 (IntKind.i64.wrap (Int.tdiv at_33 y_38.2)))] := hb_65
      refine lnil ?_
      exact ⟨_, hki, ⟨(IntKind.i64.wrap (Int.tdiv at_33 y_38.2)), a_34, cap_35, xs_60, hm, hst, hb_65, h_58, hb_23⟩, hrec, hmk⟩
    · clear hmk
      intro D_40 col_32 w_31 hJ hmk
      obtain ⟨at_33, a_34, cap_35, out_36, hm, hst, hb_5, h_37, hb_23⟩ := hJ
      rw [m_radix_digits_int_L1.eq_1] at hm
      refine wseq ?_
      refine wregion ?_
      refine lv (v := (.slice a_34 out_36.length cap_35)) rfl rfl (r_ld Try.isAgg22 rfl hb_23.at1) ?_
      refine lv (v := (.slice a_34 out_36.length cap_35)) rfl rfl (r_assign rfl) ?_
      refine lnil ?_
      refine wret ?_
      cases hm
      refine ⟨_, (D_40 :: []), rfl, hmk, ?_⟩
      intro w_41 hk_42 hs_43
      clear hmk
      replace hb_5 := hb_5.kp hk_42 (by decide)
      replace hb_23 := hb_23.kp hk_42 (by decide)
      replace h_37 := h_37.kp hk_42 (by decide) (by decide)
      replace hst := hst.kp hk_42 hs_43 (by decide) (by decide)
      exact ⟨colF w0.heap.size col col_32 (fun n => bif Nat.beq n 4 then c1 else 0), a_34, cap_35, rfl, hst.fin (fun n => bif Nat.beq n 4 then c1 else 0), hst.finOwn (g := (fun n => bif Nat.beq n 4 then c1 else 0)) rfl h_37 (by decide) (by decide) rfl⟩
    · intro _ _ _ _ h
      exact h.elim




def m_radix_Digits_int_J1 (N : Nat) (p0_sizes : List Int) (p1_at : Int) (v_8 : Bool) : Option ((List Int) × Int) :=
  if v_8 = true then (some (([] : List Int), 3)) else ((m_radix_digits_int N p0_sizes p1_at).bind fun r_9 => some (r_9, 0))

def m_radix_Digits_int (N : Nat) (p0_sizes : List Int) (p1_at : Int) : Option ((List Int) × Int) :=
  (m_radix_Count_int p0_sizes).bind fun r_1 => if (!decide (r_1.2 = 0)) = true then (some (([] : List Int), r_1.2)) else (if (decide (p1_at < 0)) = true then (m_radix_Digits_int_J1 N p0_sizes p1_at true) else (m_radix_Digits_int_J1 N p0_sizes p1_at (decide (r_1.1 ≤ p1_at))))

set_option maxRecDepth 100000 in
theorem c_radix_Digits_int (N : Nat) (c1 : Nat) (col : Col) (w0 : World) (a0 : Option Addr) (cap0 : Nat) (p0_sizes : List Int) (h0 : Sl (Rep.int .i64) col w0 a0 cap0 p0_sizes) (p1_at : Int) (r : ((List Int) × Int)) (hm : m_radix_Digits_int N p0_sizes p1_at = some r) :
    Calls Try.prog 17 #[(.slice a0 p0_sizes.length cap0), (.int .i64 p1_at)] w0 (fun e w' => ∃ (col' : Col) (ra1 : Option Addr) (rc1 : Nat), e = .returned (.tuple #[.slice ra1 r.1.length rc1, .int .i64 r.2]) ∧ Grow col w0 col' w' ∧ Own (Rep.int .i64) 3 c1 col' w' ra1 rc1 r.1) := by
  refine calls_of2 4 5 (m := 26) (args := [(.slice a0 p0_sizes.length cap0), (.int .i64 p1_at)]) Try.func17 rfl rfl rfl rfl rfl ?_
  rw [m_radix_Digits_int.eq_1] at hm
  have hst := St.start col w0
  replace h0 := h0.keep (Stay.start col w0)
  refine wseq ?_
  refine wregion ?_
  refine lv (v := (.slice none (([] : List Int).length) 0)) rfl rfl (r_assign rfl) ?_
  refine lv (v := (.int .i64 0)) rfl rfl (r_assign rfl) ?_
  refine lnil ?_
  refine wseq ?_
  refine wregion ?_
  refine lv (v := (.slice a0 p0_sizes.length cap0)) rfl rfl (r_move rfl) ?_
  obtain ⟨r_1, hr_2, hm⟩ := bind_some hm
  refine lc rfl rfl (r_call1 Try.call14 rfl) (c_radix_Count_int (col0 col) _ a0 cap0 p0_sizes h0 r_1 hr_2) ?_
  rintro _ w_3 ⟨rfl, hg_4⟩
  refine ⟨_, rfl, ?_⟩
  have hg_4 : Grow (col0 col) w0 (col0 col) w_3 := .of_below hg_4
  replace h0 := h0.gr hg_4
  replace hst := hst.grow hg_4
  refine lv (v := (.tuple #[(.int .i64 r_1.1), (.int .i64 r_1.2)])) rfl rfl (r_move rfl) ?_
  refine lv (v := (.int .i64 r_1.1)) rfl rfl (r_extract rfl rfl) ?_
  refine lv (v := (.int .i64 r_1.2)) rfl rfl (r_extract rfl rfl) ?_
  refine lv (v := (.int .i64 r_1.1)) rfl rfl (r_assign rfl) ?_
  refine lv (v := (.int .i64 r_1.2)) rfl rfl (r_assign rfl) ?_
  refine lnil ?_
  refine wseq ?_
  refine wseq ?_
  refine wregion ?_
  refine lv (v := (.int .i64 r_1.2)) rfl rfl (r_move rfl) ?_
  refine lv (v := (.bool (!decide (r_1.2 = 0)))) rfl rfl (r_neq r_1.2 0 rfl rfl) ?_
  refine lnil ?_
  refine wcond (!decide (r_1.2 = 0)) rfl (fun hb => ?_) (fun hb => ?_)
  · rw [if_pos hb] at hm
    clear hb
    refine wseq ?_
    refine wregion ?_
    refine lv (v := (.int .i64 r_1.2)) rfl rfl (r_move rfl) ?_
    refine lv (v := (.slice none (([] : List Int).length) 0)) rfl rfl (r_assign rfl) ?_
    refine lv (v := (.int .i64 r_1.2)) rfl rfl (r_assign rfl) ?_
    refine lnil ?_
    refine wret ?_
    cases hm
    exact ⟨rfl, colF w0.heap.size col (col0 col) (fun n => 0), none, 0, rfl, hst.fin (fun n => 0), Own.nil⟩
  · rw [if_neg (by rw [hb]; decide)] at hm
    clear hb
    refine wskip ?_
    refine wseq ?_
    refine wseq ?_
    refine Wp.cut (fun f w_6 => ∃ (col_7 : Col) (v_8 : Bool), m_radix_Digits_int_J1 N p0_sizes p1_at v_8 = some r ∧ St w0 (col0 col) col_7 w_6 ∧ Sl (Rep.int .i64) col_7 w_6 a0 cap0 p0_sizes ∧ f 0 = (.slice a0 p0_sizes.length cap0) ∧ f 1 = (.int .i64 p1_at) ∧ f 22 = (.bool v_8) ∧ f 1000000 = (enc [])) ?_ ?_
    · intro f w_6 hJ
      obtain ⟨col_7, v_8, hm, hst, h0, hs0, hs1, hs22, hs1000000⟩ := hJ
      rw [m_radix_Digits_int_J1.eq_1] at hm
      refine .ld (d := 0) (v := (.slice a0 p0_sizes.length cap0)) hs0 ?_
      refine .ld (d := 1) (v := (.int .i64 p1_at)) hs1 ?_
      refine .ld (d := 22) (v := (.bool v_8)) hs22 ?_
      refine .ld (d := 1000000) (v := (enc [])) hs1000000 ?_
      clear hs0 hs1 hs22 hs1000000
      refine wcond (v_8) rfl (fun hb => ?_) (fun hb => ?_)
      · rw [if_pos hb] at hm
        clear hb
        refine wseq ?_
        refine wregion ?_
        refine lv (v := (.slice none (([] : List Int).length) 0)) rfl rfl (r_assign rfl) ?_
        refine lv (v := (.int .i64 3)) rfl rfl (r_assign rfl) ?_
        refine lnil ?_
        refine wret ?_
        cases hm
        exact ⟨rfl, colF w0.heap.size col col_7 (fun n => 0), none, 0, rfl, hst.fin (fun n => 0), Own.nil⟩
      · rw [if_neg (by rw [hb]; decide)] at hm
        clear hb
        refine wskip ?_
        refine wseq ?_
        refine wregion ?_
        refine lv (v := (.slice a0 p0_sizes.length cap0)) rfl rfl (r_move rfl) ?_
        refine lv (v := (.int .i64 p1_at)) rfl rfl (r_move rfl) ?_
        obtain ⟨r_9, hr_10, hm⟩ := bind_some hm
        refine lc rfl rfl (r_call2 Try.call41 rfl rfl) (c_radix_digits_int N 4 col_7 _ a0 cap0 p0_sizes h0 p1_at r_9 hr_10) ?_
        rintro _ w_14 ⟨col_16, a_11, cap_12, rfl, hg_15, h_13⟩
        refine ⟨_, rfl, ?_⟩
        replace h0 := h0.gr hg_15
        replace hst := hst.grow hg_15
        refine lv (v := (.slice a_11 r_9.length cap_12)) rfl rfl (r_assign rfl) ?_
        refine lv (v := (.int .i64 0)) rfl rfl (r_assign rfl) ?_
        refine lnil ?_
        refine wret ?_
        cases hm
        exact ⟨rfl, colF w0.heap.size col col_16 (fun n => bif Nat.beq n 4 then c1 else 0), a_11, cap_12, rfl, hst.fin (fun n => bif Nat.beq n 4 then c1 else 0), hst.finOwn (g := (fun n => bif Nat.beq n 4 then c1 else 0)) rfl h_13 (by decide) (by decide) rfl⟩
    · refine wregion ?_
      refine lv (v := (.int .i64 p1_at)) rfl rfl (r_move rfl) ?_
      refine lv (v := (.bool (decide (p1_at < 0)))) rfl rfl (r_lss p1_at 0 rfl rfl) ?_
      refine lv (v := (.bool (decide (p1_at < 0)))) rfl rfl (r_move rfl) ?_
      by_cases hg_17 : (decide (p1_at < 0)) = true
      · rw [if_pos hg_17] at hm
        refine lp (b := decide (p1_at < 0)) 18 rfl rfl rfl rfl (by rw [hg_17]; rfl) ?_
        refine lp (b := decide (p1_at < 0)) 18 rfl rfl rfl rfl (by rw [hg_17]; rfl) ?_
        refine lp (b := decide (p1_at < 0)) 18 rfl rfl rfl rfl (by rw [hg_17]; rfl) ?_
        refine lv (v := (.bool true)) rfl rfl (r_pickT (congrArg Value.bool hg_17) rfl) ?_
        refine lnil ?_
        exact ⟨(col0 col), true, hm, hst, h0, rfl, rfl, rfl, rfl⟩
      · rw [if_neg hg_17] at hm
        replace hg_17 := Bool.eq_false_iff.2 hg_17
        refine lg (b := decide (p1_at < 0)) 18 rfl rfl rfl (by rw [hg_17]; rfl) ?_
        refine lv (v := (.int .i64 p1_at)) rfl rfl (r_move rfl) ?_
        refine lg (b := decide (p1_at < 0)) 18 rfl rfl rfl (by rw [hg_17]; rfl) ?_
        refine lv (v := (.int .i64 r_1.1)) rfl rfl (r_move rfl) ?_
        refine lg (b := decide (p1_at < 0)) 18 rfl rfl rfl (by rw [hg_17]; rfl) ?_
        refine lv (v := (.bool (decide (r_1.1 ≤ p1_at)))) rfl rfl (r_geq p1_at r_1.1 rfl rfl) ?_
        refine lv (v := (.bool (decide (r_1.1 ≤ p1_at)))) rfl rfl (r_pickF (congrArg Value.bool hg_17) rfl) ?_
        refine lnil ?_
        exact ⟨(col0 col), (decide (r_1.1 ≤ p1_at)), hm, hst, h0, rfl, rfl, rfl, rfl⟩




def m_credenceref10_Digits_L1 (N : Nat) (p0_sizes : List Int) : Nat → Int → (List Int) → Int → Option ((List Int) × Int)
  | 0, _, _, _ => none
  | n_15 + 1, at_18, out_21, i_23 => if (decide (0 ≤ i_23)) = true then ((at? p0_sizes i_23).bind fun e_24 => chk (e_24 ≠ 0) ((at? out_21 i_23).bind fun e_27 => (some (out_21.set (Int.toNat i_23) (Int.tmod at_18 e_24))).bind fun xs_34 => chk (e_24 ≠ 0) ((m_credenceref10_Digits_L1 N p0_sizes n_15) (IntKind.i64.wrap (Int.tdiv at_18 e_24)) xs_34 (IntKind.i64.wrap (i_23 - 1))))) else (some (out_21, 0))

def m_credenceref10_Digits_J1 (N : Nat) (p0_sizes : List Int) (p1_at : Int) (v_8 : Bool) : Option ((List Int) × Int) :=
  if v_8 = true then (some (([] : List Int), 3)) else (chk (p0_sizes.length * 8 ≤ 281474976710656 ∧ p0_sizes.length ≤ maxLen) (m_credenceref10_Digits_L1 N p0_sizes N p1_at (List.replicate p0_sizes.length (0 : Int)) (IntKind.i64.wrap ((p0_sizes.length : Int) - 1))))

def m_credenceref10_Digits (N : Nat) (p0_sizes : List Int) (p1_at : Int) : Option ((List Int) × Int) :=
  (m_credenceref10_Count N p0_sizes).bind fun r_1 => if (!decide (r_1.2 = 0)) = true then (some (([] : List Int), r_1.2)) else (if (decide (p1_at < 0)) = true then (m_credenceref10_Digits_J1 N p0_sizes p1_at true) else (m_credenceref10_Digits_J1 N p0_sizes p1_at (decide (r_1.1 ≤ p1_at))))

set_option maxRecDepth 100000 in
theorem c_credenceref10_Digits (N : Nat) (c1 : Nat) (col : Col) (w0 : World) (a0 : Option Addr) (cap0 : Nat) (p0_sizes : List Int) (h0 : Sl (Rep.int .i64) col w0 a0 cap0 p0_sizes) (p1_at : Int) (r : ((List Int) × Int)) (hm : m_credenceref10_Digits N p0_sizes p1_at = some r) :
    Calls Try.prog 27 #[(.slice a0 p0_sizes.length cap0), (.int .i64 p1_at)] w0 (fun e w' => ∃ (col' : Col) (ra1 : Option Addr) (rc1 : Nat), e = .returned (.tuple #[.slice ra1 r.1.length rc1, .int .i64 r.2]) ∧ Grow col w0 col' w' ∧ Own (Rep.int .i64) 3 c1 col' w' ra1 rc1 r.1) := by
  refine calls_of2 4 5 (m := 51) (args := [(.slice a0 p0_sizes.length cap0), (.int .i64 p1_at)]) Try.func27 rfl rfl rfl rfl rfl ?_
  rw [m_credenceref10_Digits.eq_1] at hm
  have hst := St.start col w0
  replace h0 := h0.keep (Stay.start col w0)
  refine wseq ?_
  refine wregion ?_
  refine lv (v := (.slice none (([] : List Int).length) 0)) rfl rfl (r_assign rfl) ?_
  refine lv (v := (.int .i64 0)) rfl rfl (r_assign rfl) ?_
  refine lnil ?_
  refine wseq ?_
  refine wregion ?_
  refine lv (v := (.slice a0 p0_sizes.length cap0)) rfl rfl (r_move rfl) ?_
  obtain ⟨r_1, hr_2, hm⟩ := bind_some hm
  refine lc rfl rfl (r_call1 Try.call24 rfl) (c_credenceref10_Count N (col0 col) _ a0 cap0 p0_sizes h0 r_1 hr_2) ?_
  rintro _ w_3 ⟨rfl, hg_4⟩
  refine ⟨_, rfl, ?_⟩
  have hg_4 : Grow (col0 col) w0 (col0 col) w_3 := .of_below hg_4
  replace h0 := h0.gr hg_4
  replace hst := hst.grow hg_4
  refine lv (v := (.tuple #[(.int .i64 r_1.1), (.int .i64 r_1.2)])) rfl rfl (r_move rfl) ?_
  refine lv (v := (.int .i64 r_1.1)) rfl rfl (r_extract rfl rfl) ?_
  refine lv (v := (.int .i64 r_1.2)) rfl rfl (r_extract rfl rfl) ?_
  refine lv (v := (.int .i64 r_1.1)) rfl rfl (r_assign rfl) ?_
  refine lv (v := (.int .i64 r_1.2)) rfl rfl (r_assign rfl) ?_
  refine lnil ?_
  refine wseq ?_
  refine wseq ?_
  refine wregion ?_
  refine lv (v := (.int .i64 r_1.2)) rfl rfl (r_move rfl) ?_
  refine lv (v := (.bool (!decide (r_1.2 = 0)))) rfl rfl (r_neq r_1.2 0 rfl rfl) ?_
  refine lnil ?_
  refine wcond (!decide (r_1.2 = 0)) rfl (fun hb => ?_) (fun hb => ?_)
  · rw [if_pos hb] at hm
    clear hb
    refine wseq ?_
    refine wregion ?_
    refine lv (v := (.int .i64 r_1.2)) rfl rfl (r_move rfl) ?_
    refine lv (v := (.slice none (([] : List Int).length) 0)) rfl rfl (r_assign rfl) ?_
    refine lv (v := (.int .i64 r_1.2)) rfl rfl (r_assign rfl) ?_
    refine lnil ?_
    refine wret ?_
    cases hm
    exact ⟨rfl, colF w0.heap.size col (col0 col) (fun n => 0), none, 0, rfl, hst.fin (fun n => 0), Own.nil⟩
  · rw [if_neg (by rw [hb]; decide)] at hm
    clear hb
    refine wskip ?_
    refine wseq ?_
    refine wseq ?_
    refine Wp.cut (fun f w_6 => ∃ (col_7 : Col) (v_8 : Bool), m_credenceref10_Digits_J1 N p0_sizes p1_at v_8 = some r ∧ St w0 (col0 col) col_7 w_6 ∧ Sl (Rep.int .i64) col_7 w_6 a0 cap0 p0_sizes ∧ f 0 = (.slice a0 p0_sizes.length cap0) ∧ f 1 = (.int .i64 p1_at) ∧ f 24 = (.bool v_8) ∧ f 1000000 = (enc [])) ?_ ?_
    · intro f w_6 hJ
      obtain ⟨col_7, v_8, hm, hst, h0, hs0, hs1, hs24, hs1000000⟩ := hJ
      rw [m_credenceref10_Digits_J1.eq_1] at hm
      refine .ld (d := 0) (v := (.slice a0 p0_sizes.length cap0)) hs0 ?_
      refine .ld (d := 1) (v := (.int .i64 p1_at)) hs1 ?_
      refine .ld (d := 24) (v := (.bool v_8)) hs24 ?_
      refine .ld (d := 1000000) (v := (enc [])) hs1000000 ?_
      clear hs0 hs1 hs24 hs1000000
      refine wcond (v_8) rfl (fun hb => ?_) (fun hb => ?_)
      · rw [if_pos hb] at hm
        clear hb
        refine wseq ?_
        refine wregion ?_
        refine lv (v := (.slice none (([] : List Int).length) 0)) rfl rfl (r_assign rfl) ?_
        refine lv (v := (.int .i64 3)) rfl rfl (r_assign rfl) ?_
        refine lnil ?_
        refine wret ?_
        cases hm
        exact ⟨rfl, colF w0.heap.size col col_7 (fun n => 0), none, 0, rfl, hst.fin (fun n => 0), Own.nil⟩
      · rw [if_neg (by rw [hb]; decide)] at hm
        clear hb
        refine wskip ?_
        refine wseq ?_
        refine wregion ?_
        refine lv (v := (.slice a0 p0_sizes.length cap0)) rfl rfl (r_move rfl) ?_
        refine lv (v := (.int .i64 (p0_sizes.length : Int))) rfl rfl (r_len Try.underlying22 rfl) ?_
        obtain ⟨hb_9, hm⟩ := chk_some hm
        refine l_make (col := col_7) (w := w_6) (r := (Rep.int .i64)) (n := p0_sizes.length) (x0 := 0) 4 rfl Try.underlying22 Try.t3 rfl rfl rfl rfl rfl rfl rfl hb_9.1 hb_9.2 rfl ?_
        intro a_10 w_11 col_12 hg_13 h_14
        replace h0 := h0.gr hg_13
        replace hst := hst.grow hg_13
        refine lv (v := (.slice a_10 ((List.replicate p0_sizes.length (0 : Int)).length) p0_sizes.length)) rfl rfl (r_assign rfl) ?_
        refine lnil ?_
        refine wseq ?_
        refine wseq ?_
        refine wregion ?_
        refine lv (v := (.slice a0 p0_sizes.length cap0)) rfl rfl (r_move rfl) ?_
        refine lv (v := (.int .i64 (p0_sizes.length : Int))) rfl rfl (r_len Try.underlying22 rfl) ?_
        refine lv (v := (.int .i64 (IntKind.i64.wrap ((p0_sizes.length : Int) - 1)))) rfl rfl (r_sub (p0_sizes.length : Int) 1 rfl rfl) ?_
        refine lv (v := (.int .i64 (IntKind.i64.wrap ((p0_sizes.length : Int) - 1)))) rfl rfl (r_assign rfl) ?_
        refine lnil ?_
        refine wblock ?_
        refine wloop (fun n f w_16 => ∃ (col_17 : Col) (at_18 : Int) (a_19 : Option Addr) (cap_20 : Nat) (out_21 : List Int) (i_23 : Int) (n_15 : Nat), n_15 = n ∧ m_credenceref10_Digits_L1 N p0_sizes n_15 at_18 out_21 i_23 = some r ∧ St w0 (col0 col) col_17 w_16 ∧ Sl (Rep.int .i64) col_17 w_16 a0 cap0 p0_sizes ∧ Own (Rep.int .i64) 3 4 col_17 w_16 a_19 cap_20 out_21 ∧ f 0 = (.slice a0 p0_sizes.length cap0) ∧ f 1 = (.int .i64 at_18) ∧ f 8 = (.slice a_19 out_21.length cap_20) ∧ f 9 = (.int .i64 i_23) ∧ f 1000000 = (enc [])) N ⟨col_12, p1_at, a_10, p0_sizes.length, (List.replicate p0_sizes.length (0 : Int)), (IntKind.i64.wrap ((p0_sizes.length : Int) - 1)), N, rfl, hm, hst, h0, h_14, rfl, rfl, rfl, rfl, rfl⟩ ?_
        clear hm; intro n f w_16 hI
        obtain ⟨col_17, at_18, a_19, cap_20, out_21, i_23, n_15, hn, hm, hst, h0, h_22, hs0, hs1, hs8, hs9, hs1000000⟩ := hI
        subst hn
        refine .ld (d := 0) (v := (.slice a0 p0_sizes.length cap0)) hs0 ?_
        refine .ld (d := 1) (v := (.int .i64 at_18)) hs1 ?_
        refine .ld (d := 8) (v := (.slice a_19 out_21.length cap_20)) hs8 ?_
        refine .ld (d := 9) (v := (.int .i64 i_23)) hs9 ?_
        refine .ld (d := 1000000) (v := (enc [])) hs1000000 ?_
        clear hs0 hs1 hs8 hs9 hs1000000
        cases n_15 with
        | zero => rw [m_credenceref10_Digits_L1.eq_1] at hm; cases hm
        | succ n_15 =>
          rw [m_credenceref10_Digits_L1.eq_2] at hm
          refine wseq ?_
          refine wseq ?_
          refine wregion ?_
          refine lv (v := (.int .i64 i_23)) rfl rfl (r_move rfl) ?_
          refine lv (v := (.bool (decide (0 ≤ i_23)))) rfl rfl (r_geq i_23 0 rfl rfl) ?_
          refine lnil ?_
          refine wcond (decide (0 ≤ i_23)) rfl (fun hb => ?_) (fun hb => ?_)
          · rw [if_pos hb] at hm
            clear hb
            refine wskip ?_
            refine wseq ?_
            refine wblock ?_
            refine wseq ?_
            refine wregion ?_
            refine lv (v := (.slice a_19 out_21.length cap_20)) rfl rfl (r_move rfl) ?_
            refine lv (v := (.int .i64 i_23)) rfl rfl (r_move rfl) ?_
            refine lv (v := (.int .i64 at_18)) rfl rfl (r_move rfl) ?_
            refine lv (v := (.slice a0 p0_sizes.length cap0)) rfl rfl (r_move rfl) ?_
            refine lv (v := (.int .i64 i_23)) rfl rfl (r_move rfl) ?_
            obtain ⟨e_24, hj_25, hm⟩ := bind_some hm
            refine lv (v := (sptr a0 (Int.toNat i_23 * 1))) rfl rfl (r_idx Try.underlying22 Try.sizeOf3 rfl rfl (at?_some hj_25).1 (at?_some hj_25).2.1 (h0.addr hj_25)) ?_
            refine lv (v := (.int .i64 e_24)) rfl rfl (r_ld Try.isAgg3 rfl (h0.atInt hj_25)) ?_
            obtain ⟨h0_26, hm⟩ := chk_some hm
            refine lv (v := (.int .i64 (Int.tmod at_18 e_24))) rfl rfl (r_rem at_18 e_24 rfl rfl h0_26) ?_
            obtain ⟨e_27, hj_28, hm⟩ := bind_some hm
            refine lv (v := (sptr a_19 (Int.toNat i_23 * 1))) rfl rfl (r_idx Try.underlying22 Try.sizeOf3 rfl rfl (at?_some hj_28).1 (at?_some hj_28).2.1 (h_22.addr hj_28)) ?_
            obtain ⟨xs_34, hz_33, hm⟩ := bind_some hm
            have hz_33 : xs_34 = out_21.set (Int.toNat i_23) (Int.tmod at_18 e_24) := (Option.some.inj hz_33).symm
            refine l_store (x1 := Int.tmod at_18 e_24) (v := (.int .i64 (Int.tmod at_18 e_24))) h_22 hj_28 rfl Try.sizeOf3 rfl rfl rfl (by decide) ?_
            intro w_29 hk_30 hs_31 h_32
            rw [← hz_33] at h_32
            replace h0 := h0.kp hk_30 (by decide)
            replace hst := hst.kp hk_30 hs_31 (by decide) (by decide)
            refine .ld (d := 8) (v := (.slice a_19 xs_34.length cap_20)) (congrArg (fun n => Value.slice a_19 n cap_20) (show out_21.length = xs_34.length by rw [hz_33, List.length_set])) ?_
            refine .ld (d := 35) (v := (.slice a_19 xs_34.length cap_20)) (congrArg (fun n => Value.slice a_19 n cap_20) (show out_21.length = xs_34.length by rw [hz_33, List.length_set])) ?_
            clear h_22
            refine lnil ?_
            refine wregion ?_
            refine lv (v := (.int .i64 at_18)) rfl rfl (r_move rfl) ?_
            refine lv (v := (.slice a0 p0_sizes.length cap0)) rfl rfl (r_move rfl) ?_
            refine lv (v := (.int .i64 i_23)) rfl rfl (r_move rfl) ?_
            refine lv (v := (sptr a0 (Int.toNat i_23 * 1))) rfl rfl (r_idx Try.underlying22 Try.sizeOf3 rfl rfl (at?_some hj_25).1 (at?_some hj_25).2.1 (h0.addr hj_25)) ?_
            refine lv (v := (.int .i64 e_24)) rfl rfl (r_ld Try.isAgg3 rfl (h0.atInt hj_25)) ?_
            obtain ⟨h0_35, hm⟩ := chk_some hm
            refine lv (v := (.int .i64 (IntKind.i64.wrap (Int.tdiv at_18 e_24)))) rfl rfl (r_quo at_18 e_24 rfl rfl h0_35) ?_
            refine lv (v := (.int .i64 (IntKind.i64.wrap (Int.tdiv at_18 e_24)))) rfl rfl (r_assign rfl) ?_
            refine lnil ?_
            refine wregion ?_
            refine lv (v := (.int .i64 i_23)) rfl rfl (r_move rfl) ?_
            refine lv (v := (.int .i64 (IntKind.i64.wrap (i_23 - 1)))) rfl rfl (r_sub i_23 1 rfl rfl) ?_
            refine lv (v := (.int .i64 (IntKind.i64.wrap (i_23 - 1)))) rfl rfl (r_assign rfl) ?_
            refine lnil ?_
            exact ⟨n_15, by omega, ⟨col_17, (IntKind.i64.wrap (Int.tdiv at_18 e_24)), a_19, cap_20, xs_34, (IntKind.i64.wrap (i_23 - 1)), n_15, rfl, hm, hst, h0, h_32, rfl, rfl, rfl, rfl, rfl⟩⟩
          · rw [if_neg (by rw [hb]; decide)] at hm
            clear hb
            refine wexit (inB_hit ?_)
            refine wseq ?_
            refine wregion ?_
            refine lv (v := (.slice a_19 out_21.length cap_20)) rfl rfl (r_move rfl) ?_
            refine lv (v := (.slice a_19 out_21.length cap_20)) rfl rfl (r_assign rfl) ?_
            refine lv (v := (.int .i64 0)) rfl rfl (r_assign rfl) ?_
            refine lnil ?_
            refine wret ?_
            cases hm
            exact ⟨rfl, colF w0.heap.size col col_17 (fun n => bif Nat.beq n 4 then c1 else 0), a_19, cap_20, rfl, hst.fin (fun n => bif Nat.beq n 4 then c1 else 0), hst.finOwn (g := (fun n => bif Nat.beq n 4 then c1 else 0)) rfl h_22 (by decide) (by decide) rfl⟩
    · refine wregion ?_
      refine lv (v := (.int .i64 p1_at)) rfl rfl (r_move rfl) ?_
      refine lv (v := (.bool (decide (p1_at < 0)))) rfl rfl (r_lss p1_at 0 rfl rfl) ?_
      refine lv (v := (.bool (decide (p1_at < 0)))) rfl rfl (r_move rfl) ?_
      by_cases hg_36 : (decide (p1_at < 0)) = true
      · rw [if_pos hg_36] at hm
        refine lp (b := decide (p1_at < 0)) 20 rfl rfl rfl rfl (by rw [hg_36]; rfl) ?_
        refine lp (b := decide (p1_at < 0)) 20 rfl rfl rfl rfl (by rw [hg_36]; rfl) ?_
        refine lp (b := decide (p1_at < 0)) 20 rfl rfl rfl rfl (by rw [hg_36]; rfl) ?_
        refine lv (v := (.bool true)) rfl rfl (r_pickT (congrArg Value.bool hg_36) rfl) ?_
        refine lnil ?_
        exact ⟨(col0 col), true, hm, hst, h0, rfl, rfl, rfl, rfl⟩
      · rw [if_neg hg_36] at hm
        replace hg_36 := Bool.eq_false_iff.2 hg_36
        refine lg (b := decide (p1_at < 0)) 20 rfl rfl rfl (by rw [hg_36]; rfl) ?_
        refine lv (v := (.int .i64 p1_at)) rfl rfl (r_move rfl) ?_
        refine lg (b := decide (p1_at < 0)) 20 rfl rfl rfl (by rw [hg_36]; rfl) ?_
        refine lv (v := (.int .i64 r_1.1)) rfl rfl (r_move rfl) ?_
        refine lg (b := decide (p1_at < 0)) 20 rfl rfl rfl (by rw [hg_36]; rfl) ?_
        refine lv (v := (.bool (decide (r_1.1 ≤ p1_at)))) rfl rfl (r_geq p1_at r_1.1 rfl rfl) ?_
        refine lv (v := (.bool (decide (r_1.1 ≤ p1_at)))) rfl rfl (r_pickF (congrArg Value.bool hg_36) rfl) ?_
        refine lnil ?_
        exact ⟨(col0 col), (decide (r_1.1 ≤ p1_at)), hm, hst, h0, rfl, rfl, rfl, rfl⟩




def m_credencelaw10_same_int_L1 (N : Nat) (p0_l : List Int) (p1_want : List Int) : Nat → Int → Option Bool
  | 0, _ => none
  | n_1 + 1, i_4 => if (decide (i_4 < (p0_l.length : Int))) = true then ((at? p0_l i_4).bind fun e_5 => (at? p1_want i_4).bind fun e_7 => if (!decide (e_5 = e_7)) = true then (some false) else ((m_credencelaw10_same_int_L1 N p0_l p1_want n_1) (IntKind.i64.wrap (i_4 + 1)))) else (some true)

def m_credencelaw10_same_int (N : Nat) (p0_l : List Int) (p1_want : List Int) : Option Bool :=
  if (!decide ((p0_l.length : Int) = (p1_want.length : Int))) = true then (some false) else (m_credencelaw10_same_int_L1 N p0_l p1_want N 0)

set_option maxRecDepth 100000 in
theorem c_credencelaw10_same_int (N : Nat) (col : Col) (w0 : World) (a0 : Option Addr) (cap0 : Nat) (p0_l : List Int) (h0 : Sl (Rep.int .i64) col w0 a0 cap0 p0_l) (a1 : Option Addr) (cap1 : Nat) (p1_want : List Int) (h1 : Sl (Rep.int .i64) col w0 a1 cap1 p1_want) (r : Bool) (hm : m_credencelaw10_same_int N p0_l p1_want = some r) :
    Calls Try.prog 28 #[(.slice a0 p0_l.length cap0), (.slice a1 p1_want.length cap1)] w0 (fun e w' => e = .returned (.bool r) ∧ Below w0.heap.size w0 w') := by
  refine calls_of1 4 (m := 26) (args := [(.slice a0 p0_l.length cap0), (.slice a1 p1_want.length cap1)]) Try.func28 rfl rfl rfl rfl rfl ?_
  rw [m_credencelaw10_same_int.eq_1] at hm
  have hst := St.start col w0
  replace h0 := h0.keep (Stay.start col w0)
  replace h1 := h1.keep (Stay.start col w0)
  refine wseq ?_
  refine wregion ?_
  refine lv (v := (.bool false)) rfl rfl (r_assign rfl) ?_
  refine lnil ?_
  refine wseq ?_
  refine wseq ?_
  refine wregion ?_
  refine lv (v := (.slice a0 p0_l.length cap0)) rfl rfl (r_move rfl) ?_
  refine lv (v := (.int .i64 (p0_l.length : Int))) rfl rfl (r_len Try.underlying22 rfl) ?_
  refine lv (v := (.slice a1 p1_want.length cap1)) rfl rfl (r_move rfl) ?_
  refine lv (v := (.int .i64 (p1_want.length : Int))) rfl rfl (r_len Try.underlying22 rfl) ?_
  refine lv (v := (.bool (!decide ((p0_l.length : Int) = (p1_want.length : Int))))) rfl rfl (r_neq (p0_l.length : Int) (p1_want.length : Int) rfl rfl) ?_
  refine lnil ?_
  refine wcond (!decide ((p0_l.length : Int) = (p1_want.length : Int))) rfl (fun hb => ?_) (fun hb => ?_)
  · rw [if_pos hb] at hm
    clear hb
    refine wseq ?_
    refine wregion ?_
    refine lv (v := (.bool false)) rfl rfl (r_assign rfl) ?_
    refine lnil ?_
    refine wret ?_
    cases hm
    exact ⟨rfl, rfl, hst.below⟩
  · rw [if_neg (by rw [hb]; decide)] at hm
    clear hb
    refine wskip ?_
    refine wseq ?_
    refine wseq ?_
    refine wregion ?_
    refine lv (v := (.int .i64 0)) rfl rfl (r_assign rfl) ?_
    refine lnil ?_
    refine wblock ?_
    refine wloop (fun n f w_2 => ∃ (col_3 : Col) (i_4 : Int) (n_1 : Nat), n_1 = n ∧ m_credencelaw10_same_int_L1 N p0_l p1_want n_1 i_4 = some r ∧ St w0 (col0 col) col_3 w_2 ∧ Sl (Rep.int .i64) col_3 w_2 a0 cap0 p0_l ∧ Sl (Rep.int .i64) col_3 w_2 a1 cap1 p1_want ∧ f 0 = (.slice a0 p0_l.length cap0) ∧ f 1 = (.slice a1 p1_want.length cap1) ∧ f 5 = (.int .i64 i_4) ∧ f 1000000 = (enc [])) N ⟨(col0 col), 0, N, rfl, hm, hst, h0, h1, rfl, rfl, rfl, rfl⟩ ?_
    clear hm; intro n f w_2 hI
    obtain ⟨col_3, i_4, n_1, hn, hm, hst, h0, h1, hs0, hs1, hs5, hs1000000⟩ := hI
    subst hn
    refine .ld (d := 0) (v := (.slice a0 p0_l.length cap0)) hs0 ?_
    refine .ld (d := 1) (v := (.slice a1 p1_want.length cap1)) hs1 ?_
    refine .ld (d := 5) (v := (.int .i64 i_4)) hs5 ?_
    refine .ld (d := 1000000) (v := (enc [])) hs1000000 ?_
    clear hs0 hs1 hs5 hs1000000
    cases n_1 with
    | zero => rw [m_credencelaw10_same_int_L1.eq_1] at hm; cases hm
    | succ n_1 =>
      rw [m_credencelaw10_same_int_L1.eq_2] at hm
      refine wseq ?_
      refine wseq ?_
      refine wregion ?_
      refine lv (v := (.int .i64 i_4)) rfl rfl (r_move rfl) ?_
      refine lv (v := (.slice a0 p0_l.length cap0)) rfl rfl (r_move rfl) ?_
      refine lv (v := (.int .i64 (p0_l.length : Int))) rfl rfl (r_len Try.underlying22 rfl) ?_
      refine lv (v := (.bool (decide (i_4 < (p0_l.length : Int))))) rfl rfl (r_lss i_4 (p0_l.length : Int) rfl rfl) ?_
      refine lnil ?_
      refine wcond (decide (i_4 < (p0_l.length : Int))) rfl (fun hb => ?_) (fun hb => ?_)
      · rw [if_pos hb] at hm
        clear hb
        refine wskip ?_
        refine wseq ?_
        refine wblock ?_
        refine wseq ?_
        refine wquiet (col := col_3) (by kernel_rfl) (by kernel_rfl) ?_
        refine qv (v := (.slice a0 p0_l.length cap0)) rfl (fun _ hC => r_move rfl) ?_
        refine qv (v := (.int .i64 i_4)) rfl (fun _ hC => r_move rfl) ?_
        obtain ⟨e_5, hj_6, hm⟩ := bind_some hm
        refine qv (v := (sptr a0 (Int.toNat i_4 * 1))) rfl (fun _ hC => r_idx Try.underlying22 Try.sizeOf3 rfl rfl (at?_some hj_6).1 (at?_some hj_6).2.1 (h0.addr hj_6)) ?_
        refine qv (v := (.int .i64 e_5)) rfl (fun _ hC => r_ld Try.isAgg3 rfl ((h0.gr hC).atInt hj_6)) ?_
        refine qv (v := (.slice a1 p1_want.length cap1)) rfl (fun _ hC => r_move rfl) ?_
        refine qv (v := (.int .i64 i_4)) rfl (fun _ hC => r_move rfl) ?_
        obtain ⟨e_7, hj_8, hm⟩ := bind_some hm
        refine qv (v := (sptr a1 (Int.toNat i_4 * 1))) rfl (fun _ hC => r_idx Try.underlying22 Try.sizeOf3 rfl rfl (at?_some hj_8).1 (at?_some hj_8).2.1 (h1.addr hj_8)) ?_
        refine qv (v := (.int .i64 e_7)) rfl (fun _ hC => r_ld Try.isAgg3 rfl ((h1.gr hC).atInt hj_8)) ?_
        refine qv (v := (.bool (!decide (e_5 = e_7)))) rfl (fun _ hC => r_neq e_5 e_7 rfl rfl) ?_
        refine qnil ?_
        intro w_9 hC
        replace h0 := h0.gr hC
        replace h1 := h1.gr hC
        replace hst := hst.grow hC
        refine wcond (!decide (e_5 = e_7)) rfl (fun hb => ?_) (fun hb => ?_)
        · rw [if_pos hb] at hm
          clear hb
          refine wseq ?_
          refine wregion ?_
          refine lv (v := (.bool false)) rfl rfl (r_assign rfl) ?_
          refine lnil ?_
          refine wret ?_
          cases hm
          exact ⟨rfl, rfl, hst.below⟩
        · rw [if_neg (by rw [hb]; decide)] at hm
          clear hb
          refine wskip ?_
          refine wregion ?_
          refine lv (v := (.int .i64 i_4)) rfl rfl (r_move rfl) ?_
          refine lv (v := (.int .i64 (IntKind.i64.wrap (i_4 + 1)))) rfl rfl (r_add i_4 1 rfl rfl) ?_
          refine lv (v := (.int .i64 (IntKind.i64.wrap (i_4 + 1)))) rfl rfl (r_assign rfl) ?_
          refine lnil ?_
          exact ⟨n_1, by omega, ⟨col_3, (IntKind.i64.wrap (i_4 + 1)), n_1, rfl, hm, hst, h0, h1, rfl, rfl, rfl, rfl⟩⟩
      · rw [if_neg (by rw [hb]; decide)] at hm
        clear hb
        refine wexit (inB_hit ?_)
        refine wseq ?_
        refine wregion ?_
        refine lv (v := (.bool true)) rfl rfl (r_assign rfl) ?_
        refine lnil ?_
        refine wret ?_
        cases hm
        exact ⟨rfl, rfl, hst.below⟩




def m_credencelaw10_kept_int_J1 (i_5 : Int) (kk_L1 : (Int → Option Bool)) : Option Bool :=
  kk_L1 (IntKind.i64.wrap (i_5 + 1))

def m_credencelaw10_kept_int_J2 (i_5 : Int) (kk_L1 : (Int → Option Bool)) (v_25 : Bool) : Option Bool :=
  if v_25 = true then (some false) else (m_credencelaw10_kept_int_J1 i_5 kk_L1)

def m_credencelaw10_kept_int_L1 (N : Nat) (n0 : Nat) (p0_m : List Int) (p1_l : List Int) : Nat → Int → Option Bool
  | 0, _ => none
  | n_2 + 1, i_5 => if (decide (i_5 < ((p0_m.take (Int.toNat (IntKind.i64.wrap ((p1_l.length : Int) + 5)))).length : Int))) = true then (if (decide (i_5 < (p1_l.length : Int))) = true then ((at? (p0_m.take (Int.toNat (IntKind.i64.wrap ((p1_l.length : Int) + 5)))) i_5).bind fun e_27 => (at? p1_l i_5).bind fun e_29 => if (!decide (e_27 = e_29)) = true then (m_credencelaw10_kept_int_J2 i_5 (m_credencelaw10_kept_int_L1 N n0 p0_m p1_l n_2) true) else (if (decide ((p1_l.length : Int) ≤ i_5)) = true then (m_credencelaw10_kept_int_J2 i_5 (m_credencelaw10_kept_int_L1 N n0 p0_m p1_l n_2) (!decide (e_27 = 77))) else (m_credencelaw10_kept_int_J2 i_5 (m_credencelaw10_kept_int_L1 N n0 p0_m p1_l n_2) false))) else (if (decide ((p1_l.length : Int) ≤ i_5)) = true then ((at? (p0_m.take (Int.toNat (IntKind.i64.wrap ((p1_l.length : Int) + 5)))) i_5).bind fun e_37 => m_credencelaw10_kept_int_J2 i_5 (m_credencelaw10_kept_int_L1 N n0 p0_m p1_l n_2) (!decide (e_37 = 77))) else (m_credencelaw10_kept_int_J2 i_5 (m_credencelaw10_kept_int_L1 N n0 p0_m p1_l n_2) false))) else (some (decide (((p0_m.take n0).length : Int) = (p1_l.length : Int))))

def m_credencelaw10_kept_int (N : Nat) (n0 : Nat) (p0_m : List Int) (p1_l : List Int) : Option Bool :=
  chk (0 ≤ (IntKind.i64.wrap ((p1_l.length : Int) + 5)) ∧ (IntKind.i64.wrap ((p1_l.length : Int) + 5)) ≤ (p0_m.length : Int)) (m_credencelaw10_kept_int_L1 N n0 p0_m p1_l N 0)

set_option maxRecDepth 100000 in
theorem c_credencelaw10_kept_int (N : Nat) (col : Col) (w0 : World) (a0 : Option Addr) (cap0 : Nat) (n0 : Nat) (p0_m : List Int) (h0 : Sl (Rep.int .i64) col w0 a0 cap0 p0_m) (a1 : Option Addr) (cap1 : Nat) (p1_l : List Int) (h1 : Sl (Rep.int .i64) col w0 a1 cap1 p1_l) (r : Bool) (hm : m_credencelaw10_kept_int N n0 p0_m p1_l = some r) :
    Calls Try.prog 26 #[(.slice a0 ((p0_m.take n0).length) cap0), (.slice a1 p1_l.length cap1)] w0 (fun e w' => e = .returned (.bool r) ∧ Below w0.heap.size w0 w') := by
  refine calls_of1 4 (m := 51) (args := [(.slice a0 ((p0_m.take n0).length) cap0), (.slice a1 p1_l.length cap1)]) Try.func26 rfl rfl rfl rfl rfl ?_
  rw [m_credencelaw10_kept_int.eq_1] at hm
  have hst := St.start col w0
  replace h0 := h0.keep (Stay.start col w0)
  replace h1 := h1.keep (Stay.start col w0)
  refine wseq ?_
  refine wregion ?_
  refine lv (v := (.bool false)) rfl rfl (r_assign rfl) ?_
  refine lnil ?_
  refine wseq ?_
  refine wregion ?_
  refine lv (v := (.slice a0 ((p0_m.take n0).length) cap0)) rfl rfl (r_move rfl) ?_
  refine lv (v := (.slice a1 p1_l.length cap1)) rfl rfl (r_move rfl) ?_
  refine lv (v := (.int .i64 (p1_l.length : Int))) rfl rfl (r_len Try.underlying22 rfl) ?_
  refine lv (v := (.int .i64 (IntKind.i64.wrap ((p1_l.length : Int) + 5)))) rfl rfl (r_add (p1_l.length : Int) 5 rfl rfl) ?_
  obtain ⟨hb_1, hm⟩ := chk_some hm
  refine lv (v := .slice a0 (Int.toNat (IntKind.i64.wrap ((p1_l.length : Int) + 5))) cap0) rfl rfl (r_sliceH Try.underlying22 Try.sizeOf3 rfl rfl hb_1.1 (by have := h0.1.2; have := hb_1.2; omega)) ?_
  refine .ld (d := 11) (v := (.slice a0 ((p0_m.take (Int.toNat (IntKind.i64.wrap ((p1_l.length : Int) + 5)))).length) cap0)) (congrArg (fun n => Value.slice a0 n cap0) (show (Int.toNat (IntKind.i64.wrap ((p1_l.length : Int) + 5))) = (p0_m.take (Int.toNat (IntKind.i64.wrap ((p1_l.length : Int) + 5)))).length by rw [List.length_take]; have := hb_1.2; omega)) ?_
  refine lv (v := (.slice a0 ((p0_m.take (Int.toNat (IntKind.i64.wrap ((p1_l.length : Int) + 5)))).length) cap0)) rfl rfl (r_assign rfl) ?_
  refine lnil ?_
  refine wseq ?_
  refine wseq ?_
  refine wregion ?_
  refine lv (v := (.int .i64 0)) rfl rfl (r_assign rfl) ?_
  refine lnil ?_
  refine wblock ?_
  refine wloop (fun n f w_3 => ∃ (col_4 : Col) (i_5 : Int) (n_2 : Nat), n_2 = n ∧ m_credencelaw10_kept_int_L1 N n0 p0_m p1_l n_2 i_5 = some r ∧ St w0 (col0 col) col_4 w_3 ∧ Sl (Rep.int .i64) col_4 w_3 a0 cap0 p0_m ∧ Sl (Rep.int .i64) col_4 w_3 a1 cap1 p1_l ∧ f 0 = (.slice a0 ((p0_m.take n0).length) cap0) ∧ f 1 = (.slice a1 p1_l.length cap1) ∧ f 5 = (.slice a0 ((p0_m.take (Int.toNat (IntKind.i64.wrap ((p1_l.length : Int) + 5)))).length) cap0) ∧ f 6 = (.int .i64 i_5) ∧ f 1000000 = (enc [])) N ⟨(col0 col), 0, N, rfl, hm, hst, h0, h1, rfl, rfl, rfl, rfl, rfl⟩ ?_
  clear hm; intro n f w_3 hI
  obtain ⟨col_4, i_5, n_2, hn, hm, hst, h0, h1, hs0, hs1, hs5, hs6, hs1000000⟩ := hI
  subst hn
  refine .ld (d := 0) (v := (.slice a0 ((p0_m.take n0).length) cap0)) hs0 ?_
  refine .ld (d := 1) (v := (.slice a1 p1_l.length cap1)) hs1 ?_
  refine .ld (d := 5) (v := (.slice a0 ((p0_m.take (Int.toNat (IntKind.i64.wrap ((p1_l.length : Int) + 5)))).length) cap0)) hs5 ?_
  refine .ld (d := 6) (v := (.int .i64 i_5)) hs6 ?_
  refine .ld (d := 1000000) (v := (enc [])) hs1000000 ?_
  clear hs0 hs1 hs5 hs6 hs1000000
  cases n_2 with
  | zero => rw [m_credencelaw10_kept_int_L1.eq_1] at hm; cases hm
  | succ n_2 =>
    rw [m_credencelaw10_kept_int_L1.eq_2] at hm
    refine wseq ?_
    refine wseq ?_
    refine wregion ?_
    refine lv (v := (.int .i64 i_5)) rfl rfl (r_move rfl) ?_
    refine lv (v := (.slice a0 ((p0_m.take (Int.toNat (IntKind.i64.wrap ((p1_l.length : Int) + 5)))).length) cap0)) rfl rfl (r_move rfl) ?_
    refine lv (v := (.int .i64 ((p0_m.take (Int.toNat (IntKind.i64.wrap ((p1_l.length : Int) + 5)))).length : Int))) rfl rfl (r_len Try.underlying22 rfl) ?_
    refine lv (v := (.bool (decide (i_5 < ((p0_m.take (Int.toNat (IntKind.i64.wrap ((p1_l.length : Int) + 5)))).length : Int))))) rfl rfl (r_lss i_5 ((p0_m.take (Int.toNat (IntKind.i64.wrap ((p1_l.length : Int) + 5)))).length : Int) rfl rfl) ?_
    refine lnil ?_
    refine wcond (decide (i_5 < ((p0_m.take (Int.toNat (IntKind.i64.wrap ((p1_l.length : Int) + 5)))).length : Int))) rfl (fun hb => ?_) (fun hb => ?_)
    · rw [if_pos hb] at hm
      clear hb
      refine wskip ?_
      refine wseq ?_
      refine Wp.cut (fun f w_6 => ∃ (col_7 : Col), m_credencelaw10_kept_int_J1 i_5 (m_credencelaw10_kept_int_L1 N n0 p0_m p1_l n_2)  = some r ∧ St w0 (col0 col) col_7 w_6 ∧ Sl (Rep.int .i64) col_7 w_6 a0 cap0 p0_m ∧ Sl (Rep.int .i64) col_7 w_6 a1 cap1 p1_l ∧ f 0 = (.slice a0 ((p0_m.take n0).length) cap0) ∧ f 1 = (.slice a1 p1_l.length cap1) ∧ f 5 = (.slice a0 ((p0_m.take (Int.toNat (IntKind.i64.wrap ((p1_l.length : Int) + 5)))).length) cap0) ∧ f 6 = (.int .i64 i_5) ∧ f 1000000 = (enc [])) ?_ ?_
      · intro f w_6 hJ
        obtain ⟨col_7, hm, hst, h0, h1, hs0, hs1, hs5, hs6, hs1000000⟩ := hJ
        rw [m_credencelaw10_kept_int_J1.eq_1] at hm
        refine .ld (d := 0) (v := (.slice a0 ((p0_m.take n0).length) cap0)) hs0 ?_
        refine .ld (d := 1) (v := (.slice a1 p1_l.length cap1)) hs1 ?_
        refine .ld (d := 5) (v := (.slice a0 ((p0_m.take (Int.toNat (IntKind.i64.wrap ((p1_l.length : Int) + 5)))).length) cap0)) hs5 ?_
        refine .ld (d := 6) (v := (.int .i64 i_5)) hs6 ?_
        refine .ld (d := 1000000) (v := (enc [])) hs1000000 ?_
        clear hs0 hs1 hs5 hs6 hs1000000
        refine wregion ?_
        refine lv (v := (.int .i64 i_5)) rfl rfl (r_move rfl) ?_
        refine lv (v := (.int .i64 (IntKind.i64.wrap (i_5 + 1)))) rfl rfl (r_add i_5 1 rfl rfl) ?_
        refine lv (v := (.int .i64 (IntKind.i64.wrap (i_5 + 1)))) rfl rfl (r_assign rfl) ?_
        refine lnil ?_
        exact ⟨n_2, by omega, ⟨col_7, (IntKind.i64.wrap (i_5 + 1)), n_2, rfl, hm, hst, h0, h1, rfl, rfl, rfl, rfl, rfl⟩⟩
      · refine wblock ?_
        refine wseq ?_
        refine Wp.cut (fun f w_23 => ∃ (col_24 : Col) (v_25 : Bool), m_credencelaw10_kept_int_J2 i_5 (m_credencelaw10_kept_int_L1 N n0 p0_m p1_l n_2) v_25 = some r ∧ St w0 (col0 col) col_24 w_23 ∧ Sl (Rep.int .i64) col_24 w_23 a0 cap0 p0_m ∧ Sl (Rep.int .i64) col_24 w_23 a1 cap1 p1_l ∧ f 0 = (.slice a0 ((p0_m.take n0).length) cap0) ∧ f 1 = (.slice a1 p1_l.length cap1) ∧ f 5 = (.slice a0 ((p0_m.take (Int.toNat (IntKind.i64.wrap ((p1_l.length : Int) + 5)))).length) cap0) ∧ f 6 = (.int .i64 i_5) ∧ f 45 = (.bool v_25) ∧ f 1000000 = (enc [])) ?_ ?_
        · intro f w_23 hJ
          obtain ⟨col_24, v_25, hm, hst, h0, h1, hs0, hs1, hs5, hs6, hs45, hs1000000⟩ := hJ
          rw [m_credencelaw10_kept_int_J2.eq_1] at hm
          refine .ld (d := 0) (v := (.slice a0 ((p0_m.take n0).length) cap0)) hs0 ?_
          refine .ld (d := 1) (v := (.slice a1 p1_l.length cap1)) hs1 ?_
          refine .ld (d := 5) (v := (.slice a0 ((p0_m.take (Int.toNat (IntKind.i64.wrap ((p1_l.length : Int) + 5)))).length) cap0)) hs5 ?_
          refine .ld (d := 6) (v := (.int .i64 i_5)) hs6 ?_
          refine .ld (d := 45) (v := (.bool v_25)) hs45 ?_
          refine .ld (d := 1000000) (v := (enc [])) hs1000000 ?_
          clear hs0 hs1 hs5 hs6 hs45 hs1000000
          refine wcond (v_25) rfl (fun hb => ?_) (fun hb => ?_)
          · rw [if_pos hb] at hm
            clear hb
            refine wseq ?_
            refine wregion ?_
            refine lv (v := (.bool false)) rfl rfl (r_assign rfl) ?_
            refine lnil ?_
            refine wret ?_
            cases hm
            exact ⟨rfl, rfl, hst.below⟩
          · rw [if_neg (by rw [hb]; decide)] at hm
            clear hb
            refine wskip ?_
            exact ⟨col_24, hm, hst, h0, h1, rfl, rfl, rfl, rfl, rfl⟩
        · refine wquiet (col := col_4) (by kernel_rfl) (by kernel_rfl) ?_
          refine qv (v := (.int .i64 i_5)) rfl (fun _ hC => r_move rfl) ?_
          refine qv (v := (.slice a1 p1_l.length cap1)) rfl (fun _ hC => r_move rfl) ?_
          refine qv (v := (.int .i64 (p1_l.length : Int))) rfl (fun _ hC => r_len Try.underlying22 rfl) ?_
          refine qv (v := (.bool (decide (i_5 < (p1_l.length : Int))))) rfl (fun _ hC => r_lss i_5 (p1_l.length : Int) rfl rfl) ?_
          refine qv (v := (.bool (decide (i_5 < (p1_l.length : Int))))) rfl (fun _ hC => r_move rfl) ?_
          by_cases hg_26 : (decide (i_5 < (p1_l.length : Int))) = true
          · rw [if_pos hg_26] at hm
            refine qg (b := decide (i_5 < (p1_l.length : Int))) 22 rfl rfl rfl (by rw [hg_26]; rfl) ?_
            refine qv (v := (.slice a0 ((p0_m.take (Int.toNat (IntKind.i64.wrap ((p1_l.length : Int) + 5)))).length) cap0)) rfl (fun _ hC => r_move rfl) ?_
            refine qg (b := decide (i_5 < (p1_l.length : Int))) 22 rfl rfl rfl (by rw [hg_26]; rfl) ?_
            refine qv (v := (.int .i64 i_5)) rfl (fun _ hC => r_move rfl) ?_
            refine qg (b := decide (i_5 < (p1_l.length : Int))) 22 rfl rfl rfl (by rw [hg_26]; rfl) ?_
            obtain ⟨e_27, hj_28, hm⟩ := bind_some hm
            refine qv (v := (sptr a0 (Int.toNat i_5 * 1))) rfl (fun _ hC => r_idx Try.underlying22 Try.sizeOf3 rfl rfl (at?_some hj_28).1 (at?_some hj_28).2.1 ((h0.take (Int.toNat (IntKind.i64.wrap ((p1_l.length : Int) + 5)))).addr hj_28)) ?_
            refine qg (b := decide (i_5 < (p1_l.length : Int))) 22 rfl rfl rfl (by rw [hg_26]; rfl) ?_
            refine qv (v := (.int .i64 e_27)) rfl (fun _ hC => r_ld Try.isAgg3 rfl (((h0.take (Int.toNat (IntKind.i64.wrap ((p1_l.length : Int) + 5)))).gr hC).atInt hj_28)) ?_
            refine qg (b := decide (i_5 < (p1_l.length : Int))) 22 rfl rfl rfl (by rw [hg_26]; rfl) ?_
            refine qv (v := (.slice a1 p1_l.length cap1)) rfl (fun _ hC => r_move rfl) ?_
            refine qg (b := decide (i_5 < (p1_l.length : Int))) 22 rfl rfl rfl (by rw [hg_26]; rfl) ?_
            refine qv (v := (.int .i64 i_5)) rfl (fun _ hC => r_move rfl) ?_
            refine qg (b := decide (i_5 < (p1_l.length : Int))) 22 rfl rfl rfl (by rw [hg_26]; rfl) ?_
            obtain ⟨e_29, hj_30, hm⟩ := bind_some hm
            refine qv (v := (sptr a1 (Int.toNat i_5 * 1))) rfl (fun _ hC => r_idx Try.underlying22 Try.sizeOf3 rfl rfl (at?_some hj_30).1 (at?_some hj_30).2.1 (h1.addr hj_30)) ?_
            refine qg (b := decide (i_5 < (p1_l.length : Int))) 22 rfl rfl rfl (by rw [hg_26]; rfl) ?_
            refine qv (v := (.int .i64 e_29)) rfl (fun _ hC => r_ld Try.isAgg3 rfl ((h1.gr hC).atInt hj_30)) ?_
            refine qg (b := decide (i_5 < (p1_l.length : Int))) 22 rfl rfl rfl (by rw [hg_26]; rfl) ?_
            refine qv (v := (.bool (!decide (e_27 = e_29)))) rfl (fun _ hC => r_neq e_27 e_29 rfl rfl) ?_
            refine qv (v := (.bool (!decide (e_27 = e_29)))) rfl (fun _ hC => r_pickT (congrArg Value.bool hg_26) rfl) ?_
            refine qv (v := (.bool (!decide (e_27 = e_29)))) rfl (fun _ hC => r_move rfl) ?_
            by_cases hg_31 : (!decide (e_27 = e_29)) = true
            · rw [if_pos hg_31] at hm
              refine qp (b := !decide (e_27 = e_29)) 33 rfl rfl rfl rfl (by rw [hg_31]; rfl) ?_
              refine qp (b := !decide (e_27 = e_29)) 33 rfl rfl rfl rfl (by rw [hg_31]; rfl) ?_
              refine qp (b := !decide (e_27 = e_29)) 33 rfl rfl rfl rfl (by rw [hg_31]; rfl) ?_
              refine qp (b := !decide (e_27 = e_29)) 33 rfl rfl rfl rfl (by rw [hg_31]; rfl) ?_
              refine qp (b := !decide (e_27 = e_29)) 33 rfl rfl rfl rfl (by rw [hg_31]; rfl) ?_
              refine qpU 38 rfl rfl rfl rfl ?_
              refine qpU 38 rfl rfl rfl rfl ?_
              refine qpU 38 rfl rfl rfl rfl ?_
              refine qpU 38 rfl rfl rfl rfl ?_
              refine qpU 38 rfl rfl rfl rfl ?_
              refine qp (b := !decide (e_27 = e_29)) 33 rfl rfl rfl rfl (by rw [hg_31]; rfl) ?_
              refine qv (v := (.bool true)) rfl (fun _ hC => r_pickT (congrArg Value.bool hg_31) rfl) ?_
              refine qnil ?_
              intro w_32 hC
              replace h0 := h0.gr hC
              replace h1 := h1.gr hC
              replace hst := hst.grow hC
              exact ⟨col_4, true, hm, hst, h0, h1, rfl, rfl, rfl, rfl, rfl, rfl⟩
            · rw [if_neg hg_31] at hm
              replace hg_31 := Bool.eq_false_iff.2 hg_31
              refine qg (b := !decide (e_27 = e_29)) 33 rfl rfl rfl (by rw [hg_31]; rfl) ?_
              refine qv (v := (.int .i64 i_5)) rfl (fun _ hC => r_move rfl) ?_
              refine qg (b := !decide (e_27 = e_29)) 33 rfl rfl rfl (by rw [hg_31]; rfl) ?_
              refine qv (v := (.slice a1 p1_l.length cap1)) rfl (fun _ hC => r_move rfl) ?_
              refine qg (b := !decide (e_27 = e_29)) 33 rfl rfl rfl (by rw [hg_31]; rfl) ?_
              refine qv (v := (.int .i64 (p1_l.length : Int))) rfl (fun _ hC => r_len Try.underlying22 rfl) ?_
              refine qg (b := !decide (e_27 = e_29)) 33 rfl rfl rfl (by rw [hg_31]; rfl) ?_
              refine qv (v := (.bool (decide ((p1_l.length : Int) ≤ i_5)))) rfl (fun _ hC => r_geq i_5 (p1_l.length : Int) rfl rfl) ?_
              refine qg (b := !decide (e_27 = e_29)) 33 rfl rfl rfl (by rw [hg_31]; rfl) ?_
              refine qv (v := (.bool (decide ((p1_l.length : Int) ≤ i_5)))) rfl (fun _ hC => r_move rfl) ?_
              by_cases hg_33 : (decide ((p1_l.length : Int) ≤ i_5)) = true
              · rw [if_pos hg_33] at hm
                refine qg (b := decide ((p1_l.length : Int) ≤ i_5)) 38 rfl rfl rfl (by rw [hg_33]; rfl) ?_
                refine qv (v := (.slice a0 ((p0_m.take (Int.toNat (IntKind.i64.wrap ((p1_l.length : Int) + 5)))).length) cap0)) rfl (fun _ hC => r_move rfl) ?_
                refine qg (b := decide ((p1_l.length : Int) ≤ i_5)) 38 rfl rfl rfl (by rw [hg_33]; rfl) ?_
                refine qv (v := (.int .i64 i_5)) rfl (fun _ hC => r_move rfl) ?_
                refine qg (b := decide ((p1_l.length : Int) ≤ i_5)) 38 rfl rfl rfl (by rw [hg_33]; rfl) ?_
                refine qv (v := (sptr a0 (Int.toNat i_5 * 1))) rfl (fun _ hC => r_idx Try.underlying22 Try.sizeOf3 rfl rfl (at?_some hj_28).1 (at?_some hj_28).2.1 ((h0.take (Int.toNat (IntKind.i64.wrap ((p1_l.length : Int) + 5)))).addr hj_28)) ?_
                refine qg (b := decide ((p1_l.length : Int) ≤ i_5)) 38 rfl rfl rfl (by rw [hg_33]; rfl) ?_
                refine qv (v := (.int .i64 e_27)) rfl (fun _ hC => r_ld Try.isAgg3 rfl (((h0.take (Int.toNat (IntKind.i64.wrap ((p1_l.length : Int) + 5)))).gr hC).atInt hj_28)) ?_
                refine qg (b := decide ((p1_l.length : Int) ≤ i_5)) 38 rfl rfl rfl (by rw [hg_33]; rfl) ?_
                refine qv (v := (.bool (!decide (e_27 = 77)))) rfl (fun _ hC => r_neq e_27 77 rfl rfl) ?_
                refine qg (b := !decide (e_27 = e_29)) 33 rfl rfl rfl (by rw [hg_31]; rfl) ?_
                refine qv (v := (.bool (!decide (e_27 = 77)))) rfl (fun _ hC => r_pickT (congrArg Value.bool hg_33) rfl) ?_
                refine qv (v := (.bool (!decide (e_27 = 77)))) rfl (fun _ hC => r_pickF (congrArg Value.bool hg_31) rfl) ?_
                refine qnil ?_
                intro w_34 hC
                replace h0 := h0.gr hC
                replace h1 := h1.gr hC
                replace hst := hst.grow hC
                exact ⟨col_4, (!decide (e_27 = 77)), hm, hst, h0, h1, rfl, rfl, rfl, rfl, rfl, rfl⟩
              · rw [if_neg hg_33] at hm
                replace hg_33 := Bool.eq_false_iff.2 hg_33
                refine qp (b := decide ((p1_l.length : Int) ≤ i_5)) 38 rfl rfl rfl rfl (by rw [hg_33]; rfl) ?_
                refine qp (b := decide ((p1_l.length : Int) ≤ i_5)) 38 rfl rfl rfl rfl (by rw [hg_33]; rfl) ?_
                refine qp (b := decide ((p1_l.length : Int) ≤ i_5)) 38 rfl rfl rfl rfl (by rw [hg_33]; rfl) ?_
                refine qp (b := decide ((p1_l.length : Int) ≤ i_5)) 38 rfl rfl rfl rfl (by rw [hg_33]; rfl) ?_
                refine qp (b := decide ((p1_l.length : Int) ≤ i_5)) 38 rfl rfl rfl rfl (by rw [hg_33]; rfl) ?_
                refine qg (b := !decide (e_27 = e_29)) 33 rfl rfl rfl (by rw [hg_31]; rfl) ?_
                refine qv (v := (.bool false)) rfl (fun _ hC => r_pickF (congrArg Value.bool hg_33) rfl) ?_
                refine qv (v := (.bool false)) rfl (fun _ hC => r_pickF (congrArg Value.bool hg_31) rfl) ?_
                refine qnil ?_
                intro w_35 hC
                replace h0 := h0.gr hC
                replace h1 := h1.gr hC
                replace hst := hst.grow hC
                exact ⟨col_4, false, hm, hst, h0, h1, rfl, rfl, rfl, rfl, rfl, rfl⟩
          · rw [if_neg hg_26] at hm
            replace hg_26 := Bool.eq_false_iff.2 hg_26
            refine qp (b := decide (i_5 < (p1_l.length : Int))) 22 rfl rfl rfl rfl (by rw [hg_26]; rfl) ?_
            refine qp (b := decide (i_5 < (p1_l.length : Int))) 22 rfl rfl rfl rfl (by rw [hg_26]; rfl) ?_
            refine qp (b := decide (i_5 < (p1_l.length : Int))) 22 rfl rfl rfl rfl (by rw [hg_26]; rfl) ?_
            refine qp (b := decide (i_5 < (p1_l.length : Int))) 22 rfl rfl rfl rfl (by rw [hg_26]; rfl) ?_
            refine qp (b := decide (i_5 < (p1_l.length : Int))) 22 rfl rfl rfl rfl (by rw [hg_26]; rfl) ?_
            refine qp (b := decide (i_5 < (p1_l.length : Int))) 22 rfl rfl rfl rfl (by rw [hg_26]; rfl) ?_
            refine qp (b := decide (i_5 < (p1_l.length : Int))) 22 rfl rfl rfl rfl (by rw [hg_26]; rfl) ?_
            refine qp (b := decide (i_5 < (p1_l.length : Int))) 22 rfl rfl rfl rfl (by rw [hg_26]; rfl) ?_
            refine qp (b := decide (i_5 < (p1_l.length : Int))) 22 rfl rfl rfl rfl (by rw [hg_26]; rfl) ?_
            refine qv (v := (.bool false)) rfl (fun _ hC => r_pickF (congrArg Value.bool hg_26) rfl) ?_
            refine qv (v := (.bool false)) rfl (fun _ hC => r_move rfl) ?_
            refine qg (b := false) 33 rfl rfl rfl rfl ?_
            refine qv (v := (.int .i64 i_5)) rfl (fun _ hC => r_move rfl) ?_
            refine qg (b := false) 33 rfl rfl rfl rfl ?_
            refine qv (v := (.slice a1 p1_l.length cap1)) rfl (fun _ hC => r_move rfl) ?_
            refine qg (b := false) 33 rfl rfl rfl rfl ?_
            refine qv (v := (.int .i64 (p1_l.length : Int))) rfl (fun _ hC => r_len Try.underlying22 rfl) ?_
            refine qg (b := false) 33 rfl rfl rfl rfl ?_
            refine qv (v := (.bool (decide ((p1_l.length : Int) ≤ i_5)))) rfl (fun _ hC => r_geq i_5 (p1_l.length : Int) rfl rfl) ?_
            refine qg (b := false) 33 rfl rfl rfl rfl ?_
            refine qv (v := (.bool (decide ((p1_l.length : Int) ≤ i_5)))) rfl (fun _ hC => r_move rfl) ?_
            by_cases hg_36 : (decide ((p1_l.length : Int) ≤ i_5)) = true
            · rw [if_pos hg_36] at hm
              refine qg (b := decide ((p1_l.length : Int) ≤ i_5)) 38 rfl rfl rfl (by rw [hg_36]; rfl) ?_
              refine qv (v := (.slice a0 ((p0_m.take (Int.toNat (IntKind.i64.wrap ((p1_l.length : Int) + 5)))).length) cap0)) rfl (fun _ hC => r_move rfl) ?_
              refine qg (b := decide ((p1_l.length : Int) ≤ i_5)) 38 rfl rfl rfl (by rw [hg_36]; rfl) ?_
              refine qv (v := (.int .i64 i_5)) rfl (fun _ hC => r_move rfl) ?_
              refine qg (b := decide ((p1_l.length : Int) ≤ i_5)) 38 rfl rfl rfl (by rw [hg_36]; rfl) ?_
              obtain ⟨e_37, hj_38, hm⟩ := bind_some hm
              refine qv (v := (sptr a0 (Int.toNat i_5 * 1))) rfl (fun _ hC => r_idx Try.underlying22 Try.sizeOf3 rfl rfl (at?_some hj_38).1 (at?_some hj_38).2.1 ((h0.take (Int.toNat (IntKind.i64.wrap ((p1_l.length : Int) + 5)))).addr hj_38)) ?_
              refine qg (b := decide ((p1_l.length : Int) ≤ i_5)) 38 rfl rfl rfl (by rw [hg_36]; rfl) ?_
              refine qv (v := (.int .i64 e_37)) rfl (fun _ hC => r_ld Try.isAgg3 rfl (((h0.take (Int.toNat (IntKind.i64.wrap ((p1_l.length : Int) + 5)))).gr hC).atInt hj_38)) ?_
              refine qg (b := decide ((p1_l.length : Int) ≤ i_5)) 38 rfl rfl rfl (by rw [hg_36]; rfl) ?_
              refine qv (v := (.bool (!decide (e_37 = 77)))) rfl (fun _ hC => r_neq e_37 77 rfl rfl) ?_
              refine qg (b := false) 33 rfl rfl rfl rfl ?_
              refine qv (v := (.bool (!decide (e_37 = 77)))) rfl (fun _ hC => r_pickT (congrArg Value.bool hg_36) rfl) ?_
              refine qv (v := (.bool (!decide (e_37 = 77)))) rfl (fun _ hC => r_pickF rfl rfl) ?_
              refine qnil ?_
              intro w_39 hC
              replace h0 := h0.gr hC
              replace h1 := h1.gr hC
              replace hst := hst.grow hC
              exact ⟨col_4, (!decide (e_37 = 77)), hm, hst, h0, h1, rfl, rfl, rfl, rfl, rfl, rfl⟩
            · rw [if_neg hg_36] at hm
              replace hg_36 := Bool.eq_false_iff.2 hg_36
              refine qp (b := decide ((p1_l.length : Int) ≤ i_5)) 38 rfl rfl rfl rfl (by rw [hg_36]; rfl) ?_
              refine qp (b := decide ((p1_l.length : Int) ≤ i_5)) 38 rfl rfl rfl rfl (by rw [hg_36]; rfl) ?_
              refine qp (b := decide ((p1_l.length : Int) ≤ i_5)) 38 rfl rfl rfl rfl (by rw [hg_36]; rfl) ?_
              refine qp (b := decide ((p1_l.length : Int) ≤ i_5)) 38 rfl rfl rfl rfl (by rw [hg_36]; rfl) ?_
              refine qp (b := decide ((p1_l.length : Int) ≤ i_5)) 38 rfl rfl rfl rfl (by rw [hg_36]; rfl) ?_
              refine qg (b := false) 33 rfl rfl rfl rfl ?_
              refine qv (v := (.bool false)) rfl (fun _ hC => r_pickF (congrArg Value.bool hg_36) rfl) ?_
              refine qv (v := (.bool false)) rfl (fun _ hC => r_pickF rfl rfl) ?_
              refine qnil ?_
              intro w_40 hC
              replace h0 := h0.gr hC
              replace h1 := h1.gr hC
              replace hst := hst.grow hC
              exact ⟨col_4, false, hm, hst, h0, h1, rfl, rfl, rfl, rfl, rfl, rfl⟩
    · rw [if_neg (by rw [hb]; decide)] at hm
      clear hb
      refine wexit (inB_hit ?_)
      refine wseq ?_
      refine wregion ?_
      refine lv (v := (.slice a0 ((p0_m.take n0).length) cap0)) rfl rfl (r_move rfl) ?_
      refine lv (v := (.int .i64 ((p0_m.take n0).length : Int))) rfl rfl (r_len Try.underlying22 rfl) ?_
      refine lv (v := (.slice a1 p1_l.length cap1)) rfl rfl (r_move rfl) ?_
      refine lv (v := (.int .i64 (p1_l.length : Int))) rfl rfl (r_len Try.underlying22 rfl) ?_
      refine lv (v := (.bool (decide (((p0_m.take n0).length : Int) = (p1_l.length : Int))))) rfl rfl (r_eql ((p0_m.take n0).length : Int) (p1_l.length : Int) rfl rfl) ?_
      refine lv (v := (.bool (decide (((p0_m.take n0).length : Int) = (p1_l.length : Int))))) rfl rfl (r_assign rfl) ?_
      refine lnil ?_
      refine wret ?_
      cases hm
      exact ⟨rfl, rfl, hst.below⟩



theorem el3_18 : ElemOk Try.prog 3 1 8 := ⟨Try.t3, _, rfl, rfl, rfl, rfl, rfl⟩

def m_credencelaw10_asked_int_J3 (v_167 : Bool) : Option Bool :=
  some v_167

def m_credencelaw10_asked_int_L2 (N : Nat) (p0_sizes : List Int) (p1_digits : List Int) (r_1 : (Nat × (List Int))) (r_9 : (Nat × (List Int))) (r_72 : ((List Int) × Int)) (r_89 : ((List Int) × Int)) : Nat → (List Int) → Int → Option Bool
  | 0, _, _ => none
  | n_128 + 1, long_133, x_135 => if (decide (x_135 < 7)) = true then (chk ((long_133.length + [98].length) * 8 ≤ 140737488355328 ∧ long_133.length + [98].length ≤ maxLen) ((m_credencelaw10_asked_int_L2 N p0_sizes p1_digits r_1 r_9 r_72 r_89 n_128) (long_133 ++ [98]) (IntKind.i64.wrap (x_135 + 1)))) else (if (decide ((long_133.length : Int) = (IntKind.i64.wrap ((r_89.1.length : Int) + 7)))) = true then ((m_credencelaw10_same_int N r_72.1 r_89.1).bind fun r_169 => if r_169 = true then ((m_credencelaw10_kept_int N r_1.1 r_1.2 p0_sizes).bind fun r_174 => if r_174 = true then ((m_credencelaw10_kept_int N r_9.1 r_9.2 p1_digits).bind fun r_179 => m_credencelaw10_asked_int_J3  r_179) else (m_credencelaw10_asked_int_J3  false)) else (m_credencelaw10_asked_int_J3  false)) else (m_credencelaw10_asked_int_J3  false))

def m_credencelaw10_asked_int_L1 (N : Nat) (p0_sizes : List Int) (p1_digits : List Int) (r_1 : (Nat × (List Int))) (r_9 : (Nat × (List Int))) (r_72 : ((List Int) × Int)) (r_89 : ((List Int) × Int)) : Nat → (List Int) → Int → Option Bool
  | 0, _, _ => none
  | n_112 + 1, a_117, x_119 => if (decide (x_119 < (a_117.length : Int))) = true then ((at? a_117 x_119).bind fun e_120 => (some (a_117.set (Int.toNat x_119) 99)).bind fun xs_127 => (m_credencelaw10_asked_int_L1 N p0_sizes p1_digits r_1 r_9 r_72 r_89 n_112) xs_127 (IntKind.i64.wrap (x_119 + 1))) else (m_credencelaw10_asked_int_L2 N p0_sizes p1_digits r_1 r_9 r_72 r_89 N a_117 0)

def m_credencelaw10_asked_int_J2 (N : Nat) (p0_sizes : List Int) (p1_digits : List Int) (r_1 : (Nat × (List Int))) (r_9 : (Nat × (List Int))) (r_63 : ((List Int) × Int)) (r_72 : ((List Int) × Int)) (r_89 : ((List Int) × Int)) (v_111 : Bool) : Option Bool :=
  if v_111 = true then (some false) else (m_credencelaw10_asked_int_L1 N p0_sizes p1_digits r_1 r_9 r_72 r_89 N r_63.1 0)

def m_credencelaw10_asked_int_J1 (N : Nat) (p0_sizes : List Int) (p1_digits : List Int) (p2_at : Int) (r_1 : (Nat × (List Int))) (r_9 : (Nat × (List Int))) (v_62 : Bool) : Option Bool :=
  if v_62 = true then (some false) else ((m_radix_Digits_int N (r_1.2.take r_1.1) p2_at).bind fun r_63 => (m_radix_Digits_int N (r_1.2.take r_1.1) p2_at).bind fun r_72 => (m_credencelaw10_plain_int N p0_sizes).bind fun r_81 => (m_credenceref10_Digits N r_81 p2_at).bind fun r_89 => if (!decide (r_63.2 = r_89.2)) = true then (m_credencelaw10_asked_int_J2 N p0_sizes p1_digits r_1 r_9 r_63 r_72 r_89 true) else (if (!decide (r_72.2 = r_89.2)) = true then (m_credencelaw10_asked_int_J2 N p0_sizes p1_digits r_1 r_9 r_63 r_72 r_89 true) else ((m_credencelaw10_same_int N r_63.1 r_89.1).bind fun r_185 => if (!r_185) = true then (m_credencelaw10_asked_int_J2 N p0_sizes p1_digits r_1 r_9 r_63 r_72 r_89 true) else ((m_credencelaw10_same_int N r_72.1 r_89.1).bind fun r_190 => m_credencelaw10_asked_int_J2 N p0_sizes p1_digits r_1 r_9 r_63 r_72 r_89 (!r_190)))))

def m_credencelaw10_asked_int (N : Nat) (p0_sizes : List Int) (p1_digits : List Int) (p2_at : Int) : Option Bool :=
  (m_credencelaw10_roomy_int N p0_sizes).bind fun r_1 => (m_credencelaw10_roomy_int N p1_digits).bind fun r_9 => (m_radix_Count_int (r_1.2.take r_1.1)).bind fun r_17 => (m_credencelaw10_plain_int N p0_sizes).bind fun r_21 => (m_credenceref10_Count N r_21).bind fun r_29 => (m_radix_At_int (r_1.2.take r_1.1) (r_9.2.take r_9.1)).bind fun r_33 => (m_credencelaw10_plain_int N p0_sizes).bind fun r_37 => (m_credencelaw10_plain_int N p1_digits).bind fun r_45 => (m_credenceref10_At N r_37 r_45).bind fun r_53 => if (!decide (r_17.1 = r_29.1)) = true then (m_credencelaw10_asked_int_J1 N p0_sizes p1_digits p2_at r_1 r_9 true) else (if (!decide (r_17.2 = r_29.2)) = true then (m_credencelaw10_asked_int_J1 N p0_sizes p1_digits p2_at r_1 r_9 true) else (if (!decide (r_33.1 = r_53.1)) = true then (m_credencelaw10_asked_int_J1 N p0_sizes p1_digits p2_at r_1 r_9 true) else (m_credencelaw10_asked_int_J1 N p0_sizes p1_digits p2_at r_1 r_9 (!decide (r_33.2 = r_53.2)))))

set_option maxRecDepth 100000 in
theorem c_credencelaw10_asked_int (N : Nat) (col : Col) (w0 : World) (a0 : Option Addr) (cap0 : Nat) (p0_sizes : List Int) (h0 : Sl (Rep.int .i64) col w0 a0 cap0 p0_sizes) (a1 : Option Addr) (cap1 : Nat) (p1_digits : List Int) (h1 : Sl (Rep.int .i64) col w0 a1 cap1 p1_digits) (p2_at : Int) (r : Bool) (hm : m_credencelaw10_asked_int N p0_sizes p1_digits p2_at = some r) :
    Calls Try.prog 18 #[(.slice a0 p0_sizes.length cap0), (.slice a1 p1_digits.length cap1), (.int .i64 p2_at)] w0 (fun e w' => e = .returned (.bool r) ∧ Below w0.heap.size w0 w') := by
  refine calls_of1 6 (m := 150) (args := [(.slice a0 p0_sizes.length cap0), (.slice a1 p1_digits.length cap1), (.int .i64 p2_at)]) Try.func18 rfl rfl rfl rfl rfl ?_
  rw [m_credencelaw10_asked_int.eq_1] at hm
  have hst := St.start col w0
  replace h0 := h0.keep (Stay.start col w0)
  replace h1 := h1.keep (Stay.start col w0)
  refine wseq ?_
  refine wregion ?_
  refine lv (v := (.bool false)) rfl rfl (r_assign rfl) ?_
  refine lnil ?_
  refine wseq ?_
  refine wregion ?_
  refine lv (v := (.slice a0 p0_sizes.length cap0)) rfl rfl (r_move rfl) ?_
  obtain ⟨r_1, hr_2, hm⟩ := bind_some hm
  refine lc rfl rfl (r_call1 Try.call22 rfl) (c_credencelaw10_roomy_int N 1 (col0 col) _ a0 cap0 p0_sizes h0 r_1 hr_2) ?_
  rintro _ w_6 ⟨col_8, a_3, cap_4, rfl, hg_7, h_5⟩
  refine ⟨_, rfl, ?_⟩
  replace h0 := h0.gr hg_7
  replace h1 := h1.gr hg_7
  replace hst := hst.grow hg_7
  refine lv (v := (.slice a_3 ((r_1.2.take r_1.1).length) cap_4)) rfl rfl (r_assign rfl) ?_
  refine lnil ?_
  refine wseq ?_
  refine wregion ?_
  refine lv (v := (.slice a1 p1_digits.length cap1)) rfl rfl (r_move rfl) ?_
  obtain ⟨r_9, hr_10, hm⟩ := bind_some hm
  refine lc rfl rfl (r_call1 Try.call22 rfl) (c_credencelaw10_roomy_int N 2 col_8 _ a1 cap1 p1_digits h1 r_9 hr_10) ?_
  rintro _ w_14 ⟨col_16, a_11, cap_12, rfl, hg_15, h_13⟩
  refine ⟨_, rfl, ?_⟩
  replace h0 := h0.gr hg_15
  replace h1 := h1.gr hg_15
  replace h_5 := h_5.gr hg_15
  replace hst := hst.grow hg_15
  refine lv (v := (.slice a_11 ((r_9.2.take r_9.1).length) cap_12)) rfl rfl (r_assign rfl) ?_
  refine lnil ?_
  refine wseq ?_
  refine wregion ?_
  refine lv (v := (.slice a_3 ((r_1.2.take r_1.1).length) cap_4)) rfl rfl (r_move rfl) ?_
  obtain ⟨r_17, hr_18, hm⟩ := bind_some hm
  refine lc rfl rfl (r_call1 Try.call14 rfl) (c_radix_Count_int (froz 1 col_16) _ a_3 cap_4 (r_1.2.take r_1.1) (((h_5).toSl).take r_1.1) r_17 hr_18) ?_
  rintro _ w_19 ⟨rfl, hg_20⟩
  refine ⟨_, rfl, ?_⟩
  have hg_20 : Grow col_16 w_14 col_16 w_19 := .of_below hg_20
  replace h0 := h0.gr hg_20
  replace h1 := h1.gr hg_20
  replace h_5 := h_5.gr hg_20
  replace h_13 := h_13.gr hg_20
  replace hst := hst.grow hg_20
  refine lv (v := (.tuple #[(.int .i64 r_17.1), (.int .i64 r_17.2)])) rfl rfl (r_move rfl) ?_
  refine lv (v := (.int .i64 r_17.1)) rfl rfl (r_extract rfl rfl) ?_
  refine lv (v := (.int .i64 r_17.2)) rfl rfl (r_extract rfl rfl) ?_
  refine lv (v := (.int .i64 r_17.1)) rfl rfl (r_assign rfl) ?_
  refine lv (v := (.int .i64 r_17.2)) rfl rfl (r_assign rfl) ?_
  refine lnil ?_
  refine wseq ?_
  refine wregion ?_
  refine lv (v := (.slice a0 p0_sizes.length cap0)) rfl rfl (r_move rfl) ?_
  obtain ⟨r_21, hr_22, hm⟩ := bind_some hm
  refine lc rfl rfl (r_call1 Try.call23 rfl) (c_credencelaw10_plain_int N 3 col_16 _ a0 cap0 p0_sizes h0 r_21 hr_22) ?_
  rintro _ w_26 ⟨col_28, a_23, cap_24, rfl, hg_27, h_25⟩
  refine ⟨_, rfl, ?_⟩
  replace h0 := h0.gr hg_27
  replace h1 := h1.gr hg_27
  replace h_5 := h_5.gr hg_27
  replace h_13 := h_13.gr hg_27
  replace hst := hst.grow hg_27
  obtain ⟨r_29, hr_30, hm⟩ := bind_some hm
  refine lc rfl rfl (r_call1 Try.call24 rfl) (c_credenceref10_Count N (froz 3 col_28) _ a_23 cap_24 r_21 ((h_25).toSl) r_29 hr_30) ?_
  rintro _ w_31 ⟨rfl, hg_32⟩
  refine ⟨_, rfl, ?_⟩
  have hg_32 : Grow col_28 w_26 col_28 w_31 := .of_below hg_32
  replace h0 := h0.gr hg_32
  replace h1 := h1.gr hg_32
  replace h_5 := h_5.gr hg_32
  replace h_13 := h_13.gr hg_32
  replace h_25 := h_25.gr hg_32
  replace hst := hst.grow hg_32
  refine lv (v := (.tuple #[(.int .i64 r_29.1), (.int .i64 r_29.2)])) rfl rfl (r_move rfl) ?_
  refine lv (v := (.int .i64 r_29.1)) rfl rfl (r_extract rfl rfl) ?_
  refine lv (v := (.int .i64 r_29.2)) rfl rfl (r_extract rfl rfl) ?_
  refine lv (v := (.int .i64 r_29.1)) rfl rfl (r_assign rfl) ?_
  refine lv (v := (.int .i64 r_29.2)) rfl rfl (r_assign rfl) ?_
  refine lnil ?_
  refine wseq ?_
  refine wregion ?_
  refine lv (v := (.slice a_3 ((r_1.2.take r_1.1).length) cap_4)) rfl rfl (r_move rfl) ?_
  refine lv (v := (.slice a_11 ((r_9.2.take r_9.1).length) cap_12)) rfl rfl (r_move rfl) ?_
  obtain ⟨r_33, hr_34, hm⟩ := bind_some hm
  refine lc rfl rfl (r_call2 Try.call16 rfl rfl) (c_radix_At_int (froz 2 (froz 1 col_28)) _ a_3 cap_4 (r_1.2.take r_1.1) ((((h_5).toSl).froz 2).take r_1.1) a_11 cap_12 (r_9.2.take r_9.1) ((((h_13).froz 1 (by decide)).toSl).take r_9.1) r_33 hr_34) ?_
  rintro _ w_35 ⟨rfl, hg_36⟩
  refine ⟨_, rfl, ?_⟩
  have hg_36 : Grow col_28 w_31 col_28 w_35 := .of_below hg_36
  replace h0 := h0.gr hg_36
  replace h1 := h1.gr hg_36
  replace h_5 := h_5.gr hg_36
  replace h_13 := h_13.gr hg_36
  replace h_25 := h_25.gr hg_36
  replace hst := hst.grow hg_36
  refine lv (v := (.tuple #[(.int .i64 r_33.1), (.int .i64 r_33.2)])) rfl rfl (r_move rfl) ?_
  refine lv (v := (.int .i64 r_33.1)) rfl rfl (r_extract rfl rfl) ?_
  refine lv (v := (.int .i64 r_33.2)) rfl rfl (r_extract rfl rfl) ?_
  refine lv (v := (.int .i64 r_33.1)) rfl rfl (r_assign rfl) ?_
  refine lv (v := (.int .i64 r_33.2)) rfl rfl (r_assign rfl) ?_
  refine lnil ?_
  refine wseq ?_
  refine wregion ?_
  refine lv (v := (.slice a0 p0_sizes.length cap0)) rfl rfl (r_move rfl) ?_
  obtain ⟨r_37, hr_38, hm⟩ := bind_some hm
  refine lc rfl rfl (r_call1 Try.call23 rfl) (c_credencelaw10_plain_int N 4 col_28 _ a0 cap0 p0_sizes h0 r_37 hr_38) ?_
  rintro _ w_42 ⟨col_44, a_39, cap_40, rfl, hg_43, h_41⟩
  refine ⟨_, rfl, ?_⟩
  replace h0 := h0.gr hg_43
  replace h1 := h1.gr hg_43
  replace h_5 := h_5.gr hg_43
  replace h_13 := h_13.gr hg_43
  replace h_25 := h_25.gr hg_43
  replace hst := hst.grow hg_43
  refine lv (v := (.slice a1 p1_digits.length cap1)) rfl rfl (r_move rfl) ?_
  obtain ⟨r_45, hr_46, hm⟩ := bind_some hm
  refine lc rfl rfl (r_call1 Try.call23 rfl) (c_credencelaw10_plain_int N 5 col_44 _ a1 cap1 p1_digits h1 r_45 hr_46) ?_
  rintro _ w_50 ⟨col_52, a_47, cap_48, rfl, hg_51, h_49⟩
  refine ⟨_, rfl, ?_⟩
  replace h0 := h0.gr hg_51
  replace h1 := h1.gr hg_51
  replace h_5 := h_5.gr hg_51
  replace h_13 := h_13.gr hg_51
  replace h_25 := h_25.gr hg_51
  replace h_41 := h_41.gr hg_51
  replace hst := hst.grow hg_51
  obtain ⟨r_53, hr_54, hm⟩ := bind_some hm
  refine lc rfl rfl (r_call2 Try.call42 rfl rfl) (c_credenceref10_At N (froz 5 (froz 4 col_52)) _ a_39 cap_40 r_37 (((h_41).toSl).froz 5) a_47 cap_48 r_45 (((h_49).froz 4 (by decide)).toSl) r_53 hr_54) ?_
  rintro _ w_55 ⟨rfl, hg_56⟩
  refine ⟨_, rfl, ?_⟩
  have hg_56 : Grow col_52 w_50 col_52 w_55 := .of_below hg_56
  replace h0 := h0.gr hg_56
  replace h1 := h1.gr hg_56
  replace h_5 := h_5.gr hg_56
  replace h_13 := h_13.gr hg_56
  replace h_25 := h_25.gr hg_56
  replace h_41 := h_41.gr hg_56
  replace h_49 := h_49.gr hg_56
  replace hst := hst.grow hg_56
  refine lv (v := (.tuple #[(.int .i64 r_53.1), (.int .i64 r_53.2)])) rfl rfl (r_move rfl) ?_
  refine lv (v := (.int .i64 r_53.1)) rfl rfl (r_extract rfl rfl) ?_
  refine lv (v := (.int .i64 r_53.2)) rfl rfl (r_extract rfl rfl) ?_
  refine lv (v := (.int .i64 r_53.1)) rfl rfl (r_assign rfl) ?_
  refine lv (v := (.int .i64 r_53.2)) rfl rfl (r_assign rfl) ?_
  refine lnil ?_
  refine wseq ?_
  refine wseq ?_
  refine Wp.cut (fun f w_60 => ∃ (col_61 : Col) (v_62 : Bool), m_credencelaw10_asked_int_J1 N p0_sizes p1_digits p2_at r_1 r_9 v_62 = some r ∧ St w0 (col0 col) col_61 w_60 ∧ Sl (Rep.int .i64) col_61 w_60 a0 cap0 p0_sizes ∧ Sl (Rep.int .i64) col_61 w_60 a1 cap1 p1_digits ∧ Own (Rep.int .i64) 3 1 col_61 w_60 a_3 cap_4 r_1.2 ∧ Own (Rep.int .i64) 3 2 col_61 w_60 a_11 cap_12 r_9.2 ∧ f 0 = (.slice a0 p0_sizes.length cap0) ∧ f 1 = (.slice a1 p1_digits.length cap1) ∧ f 2 = (.int .i64 p2_at) ∧ f 7 = (.slice a_3 ((r_1.2.take r_1.1).length) cap_4) ∧ f 8 = (.slice a_11 ((r_9.2.take r_9.1).length) cap_12) ∧ f 72 = (.bool v_62) ∧ f 1000000 = (enc [])) ?_ ?_
  · intro f w_60 hJ
    obtain ⟨col_61, v_62, hm, hst, h0, h1, h_5, h_13, hs0, hs1, hs2, hs7, hs8, hs72, hs1000000⟩ := hJ
    rw [m_credencelaw10_asked_int_J1.eq_1] at hm
    refine .ld (d := 0) (v := (.slice a0 p0_sizes.length cap0)) hs0 ?_
    refine .ld (d := 1) (v := (.slice a1 p1_digits.length cap1)) hs1 ?_
    refine .ld (d := 2) (v := (.int .i64 p2_at)) hs2 ?_
    refine .ld (d := 7) (v := (.slice a_3 ((r_1.2.take r_1.1).length) cap_4)) hs7 ?_
    refine .ld (d := 8) (v := (.slice a_11 ((r_9.2.take r_9.1).length) cap_12)) hs8 ?_
    refine .ld (d := 72) (v := (.bool v_62)) hs72 ?_
    refine .ld (d := 1000000) (v := (enc [])) hs1000000 ?_
    clear hs0 hs1 hs2 hs7 hs8 hs72 hs1000000
    refine wcond (v_62) rfl (fun hb => ?_) (fun hb => ?_)
    · rw [if_pos hb] at hm
      clear hb
      refine wseq ?_
      refine wregion ?_
      refine lv (v := (.bool false)) rfl rfl (r_assign rfl) ?_
      refine lnil ?_
      refine wret ?_
      cases hm
      exact ⟨rfl, rfl, hst.below⟩
    · rw [if_neg (by rw [hb]; decide)] at hm
      clear hb
      refine wskip ?_
      refine wseq ?_
      refine wregion ?_
      refine lv (v := (.slice a_3 ((r_1.2.take r_1.1).length) cap_4)) rfl rfl (r_move rfl) ?_
      refine lv (v := (.int .i64 p2_at)) rfl rfl (r_move rfl) ?_
      obtain ⟨r_63, hr_64, hm⟩ := bind_some hm
      refine lc rfl rfl (r_call2 Try.call17 rfl rfl) (c_radix_Digits_int N 6 (froz 1 col_61) _ a_3 cap_4 (r_1.2.take r_1.1) (((h_5).toSl).take r_1.1) p2_at r_63 hr_64) ?_
      rintro _ w_68 ⟨col_70, a_65, cap_66, rfl, hg_69, h_67⟩
      refine ⟨_, rfl, ?_⟩
      replace h_67 := h_67.thaw (flat_int .i64) hg_69 ((Fz.refl (col := col_61)).froz 1) (by decide)
      replace hg_69 := hg_69.thawR (col := col_61)
      generalize colR w_60.heap.size col_61 col_70 = col_71 at *
      replace h0 := h0.gr hg_69
      replace h1 := h1.gr hg_69
      replace h_5 := h_5.gr hg_69
      replace h_13 := h_13.gr hg_69
      replace hst := hst.grow hg_69
      refine lv (v := (.tuple #[(.slice a_65 r_63.1.length cap_66), (.int .i64 r_63.2)])) rfl rfl (r_move rfl) ?_
      refine lv (v := (.slice a_65 r_63.1.length cap_66)) rfl rfl (r_extract rfl rfl) ?_
      refine lv (v := (.int .i64 r_63.2)) rfl rfl (r_extract rfl rfl) ?_
      refine lv (v := (.slice a_65 r_63.1.length cap_66)) rfl rfl (r_assign rfl) ?_
      refine lv (v := (.int .i64 r_63.2)) rfl rfl (r_assign rfl) ?_
      refine lnil ?_
      refine wseq ?_
      refine wregion ?_
      refine lv (v := (.slice a_3 ((r_1.2.take r_1.1).length) cap_4)) rfl rfl (r_move rfl) ?_
      refine lv (v := (.int .i64 p2_at)) rfl rfl (r_move rfl) ?_
      obtain ⟨r_72, hr_73, hm⟩ := bind_some hm
      refine lc rfl rfl (r_call2 Try.call17 rfl rfl) (c_radix_Digits_int N 7 (froz 1 col_71) _ a_3 cap_4 (r_1.2.take r_1.1) (((h_5).toSl).take r_1.1) p2_at r_72 hr_73) ?_
      rintro _ w_77 ⟨col_79, a_74, cap_75, rfl, hg_78, h_76⟩
      refine ⟨_, rfl, ?_⟩
      replace h_76 := h_76.thaw (flat_int .i64) hg_78 ((Fz.refl (col := col_71)).froz 1) (by decide)
      replace hg_78 := hg_78.thawR (col := col_71)
      generalize colR w_68.heap.size col_71 col_79 = col_80 at *
      replace h0 := h0.gr hg_78
      replace h1 := h1.gr hg_78
      replace h_5 := h_5.gr hg_78
      replace h_13 := h_13.gr hg_78
      replace h_67 := h_67.gr hg_78
      replace hst := hst.grow hg_78
      refine lv (v := (.tuple #[(.slice a_74 r_72.1.length cap_75), (.int .i64 r_72.2)])) rfl rfl (r_move rfl) ?_
      refine lv (v := (.slice a_74 r_72.1.length cap_75)) rfl rfl (r_extract rfl rfl) ?_
      refine lv (v := (.int .i64 r_72.2)) rfl rfl (r_extract rfl rfl) ?_
      refine lv (v := (.slice a_74 r_72.1.length cap_75)) rfl rfl (r_assign rfl) ?_
      refine lv (v := (.int .i64 r_72.2)) rfl rfl (r_assign rfl) ?_
      refine lnil ?_
      refine wseq ?_
      refine wregion ?_
      refine lv (v := (.slice a0 p0_sizes.length cap0)) rfl rfl (r_move rfl) ?_
      obtain ⟨r_81, hr_82, hm⟩ := bind_some hm
      refine lc rfl rfl (r_call1 Try.call23 rfl) (c_credencelaw10_plain_int N 8 col_80 _ a0 cap0 p0_sizes h0 r_81 hr_82) ?_
      rintro _ w_86 ⟨col_88, a_83, cap_84, rfl, hg_87, h_85⟩
      refine ⟨_, rfl, ?_⟩
      replace h0 := h0.gr hg_87
      replace h1 := h1.gr hg_87
      replace h_5 := h_5.gr hg_87
      replace h_13 := h_13.gr hg_87
      replace h_67 := h_67.gr hg_87
      replace h_76 := h_76.gr hg_87
      replace hst := hst.grow hg_87
      refine lv (v := (.int .i64 p2_at)) rfl rfl (r_move rfl) ?_
      obtain ⟨r_89, hr_90, hm⟩ := bind_some hm
      refine lc rfl rfl (r_call2 Try.call27 rfl rfl) (c_credenceref10_Digits N 9 (froz 8 col_88) _ a_83 cap_84 r_81 ((h_85).toSl) p2_at r_89 hr_90) ?_
      rintro _ w_94 ⟨col_96, a_91, cap_92, rfl, hg_95, h_93⟩
      refine ⟨_, rfl, ?_⟩
      replace h_93 := h_93.thaw (flat_int .i64) hg_95 ((Fz.refl (col := col_88)).froz 8) (by decide)
      replace hg_95 := hg_95.thawR (col := col_88)
      generalize colR w_86.heap.size col_88 col_96 = col_97 at *
      replace h0 := h0.gr hg_95
      replace h1 := h1.gr hg_95
      replace h_5 := h_5.gr hg_95
      replace h_13 := h_13.gr hg_95
      replace h_67 := h_67.gr hg_95
      replace h_76 := h_76.gr hg_95
      replace h_85 := h_85.gr hg_95
      replace hst := hst.grow hg_95
      refine lv (v := (.tuple #[(.slice a_91 r_89.1.length cap_92), (.int .i64 r_89.2)])) rfl rfl (r_move rfl) ?_
      refine lv (v := (.slice a_91 r_89.1.length cap_92)) rfl rfl (r_extract rfl rfl) ?_
      refine lv (v := (.int .i64 r_89.2)) rfl rfl (r_extract rfl rfl) ?_
      refine lv (v := (.slice a_91 r_89.1.length cap_92)) rfl rfl (r_assign rfl) ?_
      refine lv (v := (.int .i64 r_89.2)) rfl rfl (r_assign rfl) ?_
      refine lnil ?_
      refine wseq ?_
      refine wseq ?_
      refine Wp.cut (fun f w_109 => ∃ (col_110 : Col) (v_111 : Bool), m_credencelaw10_asked_int_J2 N p0_sizes p1_digits r_1 r_9 r_63 r_72 r_89 v_111 = some r ∧ St w0 (col0 col) col_110 w_109 ∧ Sl (Rep.int .i64) col_110 w_109 a0 cap0 p0_sizes ∧ Sl (Rep.int .i64) col_110 w_109 a1 cap1 p1_digits ∧ Own (Rep.int .i64) 3 1 col_110 w_109 a_3 cap_4 r_1.2 ∧ Own (Rep.int .i64) 3 2 col_110 w_109 a_11 cap_12 r_9.2 ∧ Own (Rep.int .i64) 3 6 col_110 w_109 a_65 cap_66 r_63.1 ∧ Own (Rep.int .i64) 3 7 col_110 w_109 a_74 cap_75 r_72.1 ∧ Own (Rep.int .i64) 3 9 col_110 w_109 a_91 cap_92 r_89.1 ∧ f 0 = (.slice a0 p0_sizes.length cap0) ∧ f 1 = (.slice a1 p1_digits.length cap1) ∧ f 7 = (.slice a_3 ((r_1.2.take r_1.1).length) cap_4) ∧ f 8 = (.slice a_11 ((r_9.2.take r_9.1).length) cap_12) ∧ f 17 = (.slice a_65 r_63.1.length cap_66) ∧ f 19 = (.slice a_74 r_72.1.length cap_75) ∧ f 21 = (.slice a_91 r_89.1.length cap_92) ∧ f 111 = (.bool v_111) ∧ f 1000000 = (enc [])) ?_ ?_
      · intro f w_109 hJ
        obtain ⟨col_110, v_111, hm, hst, h0, h1, h_5, h_13, h_67, h_76, h_93, hs0, hs1, hs7, hs8, hs17, hs19, hs21, hs111, hs1000000⟩ := hJ
        rw [m_credencelaw10_asked_int_J2.eq_1] at hm
        refine .ld (d := 0) (v := (.slice a0 p0_sizes.length cap0)) hs0 ?_
        refine .ld (d := 1) (v := (.slice a1 p1_digits.length cap1)) hs1 ?_
        refine .ld (d := 7) (v := (.slice a_3 ((r_1.2.take r_1.1).length) cap_4)) hs7 ?_
        refine .ld (d := 8) (v := (.slice a_11 ((r_9.2.take r_9.1).length) cap_12)) hs8 ?_
        refine .ld (d := 17) (v := (.slice a_65 r_63.1.length cap_66)) hs17 ?_
        refine .ld (d := 19) (v := (.slice a_74 r_72.1.length cap_75)) hs19 ?_
        refine .ld (d := 21) (v := (.slice a_91 r_89.1.length cap_92)) hs21 ?_
        refine .ld (d := 111) (v := (.bool v_111)) hs111 ?_
        refine .ld (d := 1000000) (v := (enc [])) hs1000000 ?_
        clear hs0 hs1 hs7 hs8 hs17 hs19 hs21 hs111 hs1000000
        refine wcond (v_111) rfl (fun hb => ?_) (fun hb => ?_)
        · rw [if_pos hb] at hm
          clear hb
          refine wseq ?_
          refine wregion ?_
          refine lv (v := (.bool false)) rfl rfl (r_assign rfl) ?_
          refine lnil ?_
          refine wret ?_
          cases hm
          exact ⟨rfl, rfl, hst.below⟩
        · rw [if_neg (by rw [hb]; decide)] at hm
          clear hb
          refine wskip ?_
          refine wseq ?_
          refine wseq ?_
          refine wregion ?_
          refine lv (v := (.int .i64 0)) rfl rfl (r_assign rfl) ?_
          refine lnil ?_
          refine wblock ?_
          refine wloop (fun n f w_113 => ∃ (col_114 : Col) (a_115 : Option Addr) (cap_116 : Nat) (a_117 : List Int) (x_119 : Int) (n_112 : Nat), n_112 = n ∧ m_credencelaw10_asked_int_L1 N p0_sizes p1_digits r_1 r_9 r_72 r_89 n_112 a_117 x_119 = some r ∧ St w0 (col0 col) col_114 w_113 ∧ Sl (Rep.int .i64) col_114 w_113 a0 cap0 p0_sizes ∧ Sl (Rep.int .i64) col_114 w_113 a1 cap1 p1_digits ∧ Own (Rep.int .i64) 3 1 col_114 w_113 a_3 cap_4 r_1.2 ∧ Own (Rep.int .i64) 3 2 col_114 w_113 a_11 cap_12 r_9.2 ∧ Own (Rep.int .i64) 3 6 col_114 w_113 a_115 cap_116 a_117 ∧ Own (Rep.int .i64) 3 7 col_114 w_113 a_74 cap_75 r_72.1 ∧ Own (Rep.int .i64) 3 9 col_114 w_113 a_91 cap_92 r_89.1 ∧ f 0 = (.slice a0 p0_sizes.length cap0) ∧ f 1 = (.slice a1 p1_digits.length cap1) ∧ f 7 = (.slice a_3 ((r_1.2.take r_1.1).length) cap_4) ∧ f 8 = (.slice a_11 ((r_9.2.take r_9.1).length) cap_12) ∧ f 17 = (.slice a_115 a_117.length cap_116) ∧ f 19 = (.slice a_74 r_72.1.length cap_75) ∧ f 21 = (.slice a_91 r_89.1.length cap_92) ∧ f 23 = (.int .i64 x_119) ∧ f 1000000 = (enc [])) N ⟨col_110, a_65, cap_66, r_63.1, 0, N, rfl, hm, hst, h0, h1, h_5, h_13, h_67, h_76, h_93, rfl, rfl, rfl, rfl, rfl, rfl, rfl, rfl, rfl⟩ ?_
          clear hm; intro n f w_113 hI
          obtain ⟨col_114, a_115, cap_116, a_117, x_119, n_112, hn, hm, hst, h0, h1, h_5, h_13, h_118, h_76, h_93, hs0, hs1, hs7, hs8, hs17, hs19, hs21, hs23, hs1000000⟩ := hI
          subst hn
          refine .ld (d := 0) (v := (.slice a0 p0_sizes.length cap0)) hs0 ?_
          refine .ld (d := 1) (v := (.slice a1 p1_digits.length cap1)) hs1 ?_
          refine .ld (d := 7) (v := (.slice a_3 ((r_1.2.take r_1.1).length) cap_4)) hs7 ?_
          refine .ld (d := 8) (v := (.slice a_11 ((r_9.2.take r_9.1).length) cap_12)) hs8 ?_
          refine .ld (d := 17) (v := (.slice a_115 a_117.length cap_116)) hs17 ?_
          refine .ld (d := 19) (v := (.slice a_74 r_72.1.length cap_75)) hs19 ?_
          refine .ld (d := 21) (v := (.slice a_91 r_89.1.length cap_92)) hs21 ?_
          refine .ld (d := 23) (v := (.int .i64 x_119)) hs23 ?_
          refine .ld (d := 1000000) (v := (enc [])) hs1000000 ?_
          clear hs0 hs1 hs7 hs8 hs17 hs19 hs21 hs23 hs1000000
          cases n_112 with
          | zero => rw [m_credencelaw10_asked_int_L1.eq_1] at hm; cases hm
          | succ n_112 =>
            rw [m_credencelaw10_asked_int_L1.eq_2] at hm
            refine wseq ?_
            refine wseq ?_
            refine wregion ?_
            refine lv (v := (.int .i64 x_119)) rfl rfl (r_move rfl) ?_
            refine lv (v := (.slice a_115 a_117.length cap_116)) rfl rfl (r_move rfl) ?_
            refine lv (v := (.int .i64 (a_117.length : Int))) rfl rfl (r_len Try.underlying22 rfl) ?_
            refine lv (v := (.bool (decide (x_119 < (a_117.length : Int))))) rfl rfl (r_lss x_119 (a_117.length : Int) rfl rfl) ?_
            refine lnil ?_
            refine wcond (decide (x_119 < (a_117.length : Int))) rfl (fun hb => ?_) (fun hb => ?_)
            · rw [if_pos hb] at hm
              clear hb
              refine wskip ?_
              refine wseq ?_
              refine wblock ?_
              refine wregion ?_
              refine lv (v := (.slice a_115 a_117.length cap_116)) rfl rfl (r_move rfl) ?_
              refine lv (v := (.int .i64 x_119)) rfl rfl (r_move rfl) ?_
              obtain ⟨e_120, hj_121, hm⟩ := bind_some hm
              refine lv (v := (sptr a_115 (Int.toNat x_119 * 1))) rfl rfl (r_idx Try.underlying22 Try.sizeOf3 rfl rfl (at?_some hj_121).1 (at?_some hj_121).2.1 (h_118.addr hj_121)) ?_
              obtain ⟨xs_127, hz_126, hm⟩ := bind_some hm
              have hz_126 : xs_127 = a_117.set (Int.toNat x_119) 99 := (Option.some.inj hz_126).symm
              refine l_store (x1 := 99) (v := (.int .i64 99)) h_118 hj_121 rfl Try.sizeOf3 rfl rfl rfl (by decide) ?_
              intro w_122 hk_123 hs_124 h_125
              rw [← hz_126] at h_125
              replace h0 := h0.kp hk_123 (by decide)
              replace h1 := h1.kp hk_123 (by decide)
              replace h_5 := h_5.kp hk_123 (by decide) (by decide)
              replace h_13 := h_13.kp hk_123 (by decide) (by decide)
              replace h_76 := h_76.kp hk_123 (by decide) (by decide)
              replace h_93 := h_93.kp hk_123 (by decide) (by decide)
              replace hst := hst.kp hk_123 hs_124 (by decide) (by decide)
              refine .ld (d := 17) (v := (.slice a_115 xs_127.length cap_116)) (congrArg (fun n => Value.slice a_115 n cap_116) (show a_117.length = xs_127.length by rw [hz_126, List.length_set])) ?_
              refine .ld (d := 113) (v := (.slice a_115 xs_127.length cap_116)) (congrArg (fun n => Value.slice a_115 n cap_116) (show a_117.length = xs_127.length by rw [hz_126, List.length_set])) ?_
              refine .ld (d := 118) (v := (.slice a_115 xs_127.length cap_116)) (congrArg (fun n => Value.slice a_115 n cap_116) (show a_117.length = xs_127.length by rw [hz_126, List.length_set])) ?_
              clear h_118
              refine lnil ?_
              refine wregion ?_
              refine lv (v := (.int .i64 x_119)) rfl rfl (r_move rfl) ?_
              refine lv (v := (.int .i64 (IntKind.i64.wrap (x_119 + 1)))) rfl rfl (r_add x_119 1 rfl rfl) ?_
              refine lv (v := (.int .i64 (IntKind.i64.wrap (x_119 + 1)))) rfl rfl (r_assign rfl) ?_
              refine lnil ?_
              exact ⟨n_112, by omega, ⟨col_114, a_115, cap_116, xs_127, (IntKind.i64.wrap (x_119 + 1)), n_112, rfl, hm, hst, h0, h1, h_5, h_13, h_125, h_76, h_93, rfl, rfl, rfl, rfl, rfl, rfl, rfl, rfl, rfl⟩⟩
            · rw [if_neg (by rw [hb]; decide)] at hm
              clear hb
              refine wexit (inB_hit ?_)
              refine wseq ?_
              refine wregion ?_
              refine lv (v := (.slice a_115 a_117.length cap_116)) rfl rfl (r_move rfl) ?_
              refine lv (v := (.slice a_115 a_117.length cap_116)) rfl rfl (r_assign rfl) ?_
              refine lnil ?_
              refine wseq ?_
              refine wseq ?_
              refine wregion ?_
              refine lv (v := (.int .i64 0)) rfl rfl (r_assign rfl) ?_
              refine lnil ?_
              refine wblock ?_
              refine wloop (fun n f w_129 => ∃ (col_130 : Col) (a_131 : Option Addr) (cap_132 : Nat) (long_133 : List Int) (x_135 : Int) (n_128 : Nat), n_128 = n ∧ m_credencelaw10_asked_int_L2 N p0_sizes p1_digits r_1 r_9 r_72 r_89 n_128 long_133 x_135 = some r ∧ St w0 (col0 col) col_130 w_129 ∧ Sl (Rep.int .i64) col_130 w_129 a0 cap0 p0_sizes ∧ Sl (Rep.int .i64) col_130 w_129 a1 cap1 p1_digits ∧ Own (Rep.int .i64) 3 1 col_130 w_129 a_3 cap_4 r_1.2 ∧ Own (Rep.int .i64) 3 2 col_130 w_129 a_11 cap_12 r_9.2 ∧ Own (Rep.int .i64) 3 7 col_130 w_129 a_74 cap_75 r_72.1 ∧ Own (Rep.int .i64) 3 9 col_130 w_129 a_91 cap_92 r_89.1 ∧ Own (Rep.int .i64) 3 6 col_130 w_129 a_131 cap_132 long_133 ∧ f 0 = (.slice a0 p0_sizes.length cap0) ∧ f 1 = (.slice a1 p1_digits.length cap1) ∧ f 7 = (.slice a_3 ((r_1.2.take r_1.1).length) cap_4) ∧ f 8 = (.slice a_11 ((r_9.2.take r_9.1).length) cap_12) ∧ f 19 = (.slice a_74 r_72.1.length cap_75) ∧ f 21 = (.slice a_91 r_89.1.length cap_92) ∧ f 24 = (.slice a_131 long_133.length cap_132) ∧ f 25 = (.int .i64 x_135) ∧ f 1000000 = (enc [])) N ⟨col_114, a_115, cap_116, a_117, 0, N, rfl, hm, hst, h0, h1, h_5, h_13, h_76, h_93, h_118, rfl, rfl, rfl, rfl, rfl, rfl, rfl, rfl, rfl⟩ ?_
              clear hm; intro n f w_129 hI
              obtain ⟨col_130, a_131, cap_132, long_133, x_135, n_128, hn, hm, hst, h0, h1, h_5, h_13, h_76, h_93, h_134, hs0, hs1, hs7, hs8, hs19, hs21, hs24, hs25, hs1000000⟩ := hI
              subst hn
              refine .ld (d := 0) (v := (.slice a0 p0_sizes.length cap0)) hs0 ?_
              refine .ld (d := 1) (v := (.slice a1 p1_digits.length cap1)) hs1 ?_
              refine .ld (d := 7) (v := (.slice a_3 ((r_1.2.take r_1.1).length) cap_4)) hs7 ?_
              refine .ld (d := 8) (v := (.slice a_11 ((r_9.2.take r_9.1).length) cap_12)) hs8 ?_
              refine .ld (d := 19) (v := (.slice a_74 r_72.1.length cap_75)) hs19 ?_
              refine .ld (d := 21) (v := (.slice a_91 r_89.1.length cap_92)) hs21 ?_
              refine .ld (d := 24) (v := (.slice a_131 long_133.length cap_132)) hs24 ?_
              refine .ld (d := 25) (v := (.int .i64 x_135)) hs25 ?_
              refine .ld (d := 1000000) (v := (enc [])) hs1000000 ?_
              clear hs0 hs1 hs7 hs8 hs19 hs21 hs24 hs25 hs1000000
              cases n_128 with
              | zero => rw [m_credencelaw10_asked_int_L2.eq_1] at hm; cases hm
              | succ n_128 =>
                rw [m_credencelaw10_asked_int_L2.eq_2] at hm
                refine wseq ?_
                refine wseq ?_
                refine wregion ?_
                refine lv (v := (.int .i64 x_135)) rfl rfl (r_move rfl) ?_
                refine lv (v := (.bool (decide (x_135 < 7)))) rfl rfl (r_lss x_135 7 rfl rfl) ?_
                refine lnil ?_
                refine wcond (decide (x_135 < 7)) rfl (fun hb => ?_) (fun hb => ?_)
                · rw [if_pos hb] at hm
                  clear hb
                  refine wskip ?_
                  refine wseq ?_
                  refine wblock ?_
                  refine wregion ?_
                  refine lv (v := (.slice a_131 long_133.length cap_132)) rfl rfl (r_move rfl) ?_
                  refine l_lit (col := col_130) (r := (Rep.int .i64)) (xs := [98]) [(.int .i64 98)] 10 rfl Try.underlying22 el3_18 rfl rfl rfl rfl rfl rfl (by intro v hv; simp only [List.mem_cons, List.not_mem_nil, or_false] at hv; subst hv; rfl) ⟨_, _, rfl, rfl, rfl⟩ ?_
                  intro a_136 w_137 col_138 hg_139 h_140
                  replace h0 := h0.gr hg_139
                  replace h1 := h1.gr hg_139
                  replace h_5 := h_5.gr hg_139
                  replace h_13 := h_13.gr hg_139
                  replace h_76 := h_76.gr hg_139
                  replace h_93 := h_93.gr hg_139
                  replace h_134 := h_134.gr hg_139
                  replace hst := hst.grow hg_139
                  replace h0 := h0.froz 10
                  replace h1 := h1.froz 10
                  replace h_5 := h_5.froz 10 (by decide)
                  replace h_13 := h_13.froz 10 (by decide)
                  replace h_76 := h_76.froz 10 (by decide)
                  replace h_93 := h_93.froz 10 (by decide)
                  replace h_134 := h_134.froz 10 (by decide)
                  replace hst := hst.froz 10 (by decide) (by decide)
                  replace h_140 := h_140.toSl
                  obtain ⟨hb_141, hm⟩ := chk_some hm
                  refine l_append (col := (froz 10 col_138)) (w := w_137) (r := (Rep.int .i64)) (c := 6) (xs := long_133) (ys := [98]) h_134 h_140 rfl Try.underlying22 el3_18 rfl rfl rfl hb_141.1 hb_141.2 (by decide) ?_
                  intro a_143 cap_144 w_145 col_146 hk_147 hs_148 h_149
                  replace h0 := h0.kp hk_147 (by decide)
                  replace h1 := h1.kp hk_147 (by decide)
                  replace h_5 := h_5.kp hk_147 (by decide) (by decide)
                  replace h_13 := h_13.kp hk_147 (by decide) (by decide)
                  replace h_76 := h_76.kp hk_147 (by decide) (by decide)
                  replace h_93 := h_93.kp hk_147 (by decide) (by decide)
                  replace h_140 := h_140.kp hk_147 (by decide)
                  replace hst := hst.kp hk_147 hs_148 (by decide) (by decide)
                  clear h_134
                  refine lv (v := (.slice a_143 ((long_133 ++ [98]).length) cap_144)) rfl rfl (r_assign rfl) ?_
                  refine lnil ?_
                  refine wregion ?_
                  refine lv (v := (.int .i64 x_135)) rfl rfl (r_move rfl) ?_
                  refine lv (v := (.int .i64 (IntKind.i64.wrap (x_135 + 1)))) rfl rfl (r_add x_135 1 rfl rfl) ?_
                  refine lv (v := (.int .i64 (IntKind.i64.wrap (x_135 + 1)))) rfl rfl (r_assign rfl) ?_
                  refine lnil ?_
                  exact ⟨n_128, by omega, ⟨col_146, a_143, cap_144, (long_133 ++ [98]), (IntKind.i64.wrap (x_135 + 1)), n_128, rfl, hm, hst, h0, h1, h_5, h_13, h_76, h_93, h_149, rfl, rfl, rfl, rfl, rfl, rfl, rfl, rfl, rfl⟩⟩
                · rw [if_neg (by rw [hb]; decide)] at hm
                  clear hb
                  refine wexit (inB_hit ?_)
                  refine wseq ?_
                  refine Wp.cut (fun f w_165 => ∃ (col_166 : Col) (v_167 : Bool), m_credencelaw10_asked_int_J3  v_167 = some r ∧ St w0 (col0 col) col_166 w_165 ∧ f 6 = (.bool v_167) ∧ f 1000000 = (enc [])) ?_ ?_
                  · intro f w_165 hJ
                    obtain ⟨col_166, v_167, hm, hst, hs6, hs1000000⟩ := hJ
                    rw [m_credencelaw10_asked_int_J3.eq_1] at hm
                    refine .ld (d := 6) (v := (.bool v_167)) hs6 ?_
                    refine .ld (d := 1000000) (v := (enc [])) hs1000000 ?_
                    clear hs6 hs1000000
                    refine wret ?_
                    cases hm
                    exact ⟨rfl, rfl, hst.below⟩
                  · refine wregion ?_
                    refine lv (v := (.slice a_131 long_133.length cap_132)) rfl rfl (r_move rfl) ?_
                    refine lv (v := (.int .i64 (long_133.length : Int))) rfl rfl (r_len Try.underlying22 rfl) ?_
                    refine lv (v := (.slice a_91 r_89.1.length cap_92)) rfl rfl (r_move rfl) ?_
                    refine lv (v := (.int .i64 (r_89.1.length : Int))) rfl rfl (r_len Try.underlying22 rfl) ?_
                    refine lv (v := (.int .i64 (IntKind.i64.wrap ((r_89.1.length : Int) + 7)))) rfl rfl (r_add (r_89.1.length : Int) 7 rfl rfl) ?_
                    refine lv (v := (.bool (decide ((long_133.length : Int) = (IntKind.i64.wrap ((r_89.1.length : Int) + 7)))))) rfl rfl (r_eql (long_133.length : Int) (IntKind.i64.wrap ((r_89.1.length : Int) + 7)) rfl rfl) ?_
                    refine lv (v := (.bool (decide ((long_133.length : Int) = (IntKind.i64.wrap ((r_89.1.length : Int) + 7)))))) rfl rfl (r_move rfl) ?_
                    by_cases hg_168 : (decide ((long_133.length : Int) = (IntKind.i64.wrap ((r_89.1.length : Int) + 7)))) = true
                    · rw [if_pos hg_168] at hm
                      refine lg (b := decide ((long_133.length : Int) = (IntKind.i64.wrap ((r_89.1.length : Int) + 7)))) 135 rfl rfl rfl (by rw [hg_168]; rfl) ?_
                      refine lv (v := (.slice a_74 r_72.1.length cap_75)) rfl rfl (r_move rfl) ?_
                      refine lg (b := decide ((long_133.length : Int) = (IntKind.i64.wrap ((r_89.1.length : Int) + 7)))) 135 rfl rfl rfl (by rw [hg_168]; rfl) ?_
                      refine lv (v := (.slice a_91 r_89.1.length cap_92)) rfl rfl (r_move rfl) ?_
                      refine lg (b := decide ((long_133.length : Int) = (IntKind.i64.wrap ((r_89.1.length : Int) + 7)))) 135 rfl rfl rfl (by rw [hg_168]; rfl) ?_
                      obtain ⟨r_169, hr_170, hm⟩ := bind_some hm
                      refine lc rfl rfl (r_call2 Try.call28 rfl rfl) (c_credencelaw10_same_int N (froz 9 (froz 7 col_130)) _ a_74 cap_75 r_72.1 (((h_76).toSl).froz 9) a_91 cap_92 r_89.1 (((h_93).froz 7 (by decide)).toSl) r_169 hr_170) ?_
                      rintro _ w_171 ⟨rfl, hg_172⟩
                      refine ⟨_, rfl, ?_⟩
                      have hg_172 : Grow col_130 w_129 col_130 w_171 := .of_below hg_172
                      replace h0 := h0.gr hg_172
                      replace h1 := h1.gr hg_172
                      replace h_5 := h_5.gr hg_172
                      replace h_13 := h_13.gr hg_172
                      replace h_76 := h_76.gr hg_172
                      replace h_93 := h_93.gr hg_172
                      replace h_134 := h_134.gr hg_172
                      replace hst := hst.grow hg_172
                      refine lv (v := (.bool r_169)) rfl rfl (r_pickT (congrArg Value.bool hg_168) rfl) ?_
                      refine lv (v := (.bool r_169)) rfl rfl (r_move rfl) ?_
                      by_cases hg_173 : r_169 = true
                      · rw [if_pos hg_173] at hm
                        refine lg (b := r_169) 140 rfl rfl rfl (by rw [hg_173]; rfl) ?_
                        refine lv (v := (.slice a_3 ((r_1.2.take r_1.1).length) cap_4)) rfl rfl (r_move rfl) ?_
                        refine lg (b := r_169) 140 rfl rfl rfl (by rw [hg_173]; rfl) ?_
                        refine lv (v := (.slice a0 p0_sizes.length cap0)) rfl rfl (r_move rfl) ?_
                        refine lg (b := r_169) 140 rfl rfl rfl (by rw [hg_173]; rfl) ?_
                        obtain ⟨r_174, hr_175, hm⟩ := bind_some hm
                        refine lc rfl rfl (r_call2 Try.call26 rfl rfl) (c_credencelaw10_kept_int N (froz 1 col_130) _ a_3 cap_4 r_1.1 r_1.2 ((h_5).toSl) a0 cap0 p0_sizes (h0.froz 1) r_174 hr_175) ?_
                        rintro _ w_176 ⟨rfl, hg_177⟩
                        refine ⟨_, rfl, ?_⟩
                        have hg_177 : Grow col_130 w_171 col_130 w_176 := .of_below hg_177
                        replace h0 := h0.gr hg_177
                        replace h1 := h1.gr hg_177
                        replace h_5 := h_5.gr hg_177
                        replace h_13 := h_13.gr hg_177
                        replace h_76 := h_76.gr hg_177
                        replace h_93 := h_93.gr hg_177
                        replace h_134 := h_134.gr hg_177
                        replace hst := hst.grow hg_177
                        refine lv (v := (.bool r_174)) rfl rfl (r_pickT (congrArg Value.bool hg_173) rfl) ?_
                        refine lv (v := (.bool r_174)) rfl rfl (r_move rfl) ?_
                        by_cases hg_178 : r_174 = true
                        · rw [if_pos hg_178] at hm
                          refine lg (b := r_174) 145 rfl rfl rfl (by rw [hg_178]; rfl) ?_
                          refine lv (v := (.slice a_11 ((r_9.2.take r_9.1).length) cap_12)) rfl rfl (r_move rfl) ?_
                          refine lg (b := r_174) 145 rfl rfl rfl (by rw [hg_178]; rfl) ?_
                          refine lv (v := (.slice a1 p1_digits.length cap1)) rfl rfl (r_move rfl) ?_
                          refine lg (b := r_174) 145 rfl rfl rfl (by rw [hg_178]; rfl) ?_
                          obtain ⟨r_179, hr_180, hm⟩ := bind_some hm
                          refine lc rfl rfl (r_call2 Try.call26 rfl rfl) (c_credencelaw10_kept_int N (froz 2 col_130) _ a_11 cap_12 r_9.1 r_9.2 ((h_13).toSl) a1 cap1 p1_digits (h1.froz 2) r_179 hr_180) ?_
                          rintro _ w_181 ⟨rfl, hg_182⟩
                          refine ⟨_, rfl, ?_⟩
                          have hg_182 : Grow col_130 w_176 col_130 w_181 := .of_below hg_182
                          replace h0 := h0.gr hg_182
                          replace h1 := h1.gr hg_182
                          replace h_5 := h_5.gr hg_182
                          replace h_13 := h_13.gr hg_182
                          replace h_76 := h_76.gr hg_182
                          replace h_93 := h_93.gr hg_182
                          replace h_134 := h_134.gr hg_182
                          replace hst := hst.grow hg_182
                          refine lv (v := (.bool r_179)) rfl rfl (r_pickT (congrArg Value.bool hg_178) rfl) ?_
                          refine lv (v := (.bool r_179)) rfl rfl (r_assign rfl) ?_
                          refine lnil ?_
                          exact ⟨col_130, r_179, hm, hst, rfl, rfl⟩
                        · rw [if_neg hg_178] at hm
                          replace hg_178 := Bool.eq_false_iff.2 hg_178
                          refine lp (b := r_174) 145 rfl rfl rfl rfl (by rw [hg_178]; rfl) ?_
                          refine lp (b := r_174) 145 rfl rfl rfl rfl (by rw [hg_178]; rfl) ?_
                          refine lp (b := r_174) 145 rfl rfl rfl rfl (by rw [hg_178]; rfl) ?_
                          refine lv (v := (.bool false)) rfl rfl (r_pickF (congrArg Value.bool hg_178) rfl) ?_
                          refine lv (v := (.bool false)) rfl rfl (r_assign rfl) ?_
                          refine lnil ?_
                          exact ⟨col_130, false, hm, hst, rfl, rfl⟩
                      · rw [if_neg hg_173] at hm
                        replace hg_173 := Bool.eq_false_iff.2 hg_173
                        refine lp (b := r_169) 140 rfl rfl rfl rfl (by rw [hg_173]; rfl) ?_
                        refine lp (b := r_169) 140 rfl rfl rfl rfl (by rw [hg_173]; rfl) ?_
                        refine lp (b := r_169) 140 rfl rfl rfl rfl (by rw [hg_173]; rfl) ?_
                        refine lv (v := (.bool false)) rfl rfl (r_pickF (congrArg Value.bool hg_173) rfl) ?_
                        refine lv (v := (.bool false)) rfl rfl (r_move rfl) ?_
                        refine lp (b := false) 145 rfl rfl rfl rfl rfl ?_
                        refine lp (b := false) 145 rfl rfl rfl rfl rfl ?_
                        refine lp (b := false) 145 rfl rfl rfl rfl rfl ?_
                        refine lv (v := (.bool false)) rfl rfl (r_pickF rfl rfl) ?_
                        refine lv (v := (.bool false)) rfl rfl (r_assign rfl) ?_
                        refine lnil ?_
                        exact ⟨col_130, false, hm, hst, rfl, rfl⟩
                    · rw [if_neg hg_168] at hm
                      replace hg_168 := Bool.eq_false_iff.2 hg_168
                      refine lp (b := decide ((long_133.length : Int) = (IntKind.i64.wrap ((r_89.1.length : Int) + 7)))) 135 rfl rfl rfl rfl (by rw [hg_168]; rfl) ?_
                      refine lp (b := decide ((long_133.length : Int) = (IntKind.i64.wrap ((r_89.1.length : Int) + 7)))) 135 rfl rfl rfl rfl (by rw [hg_168]; rfl) ?_
                      refine lp (b := decide ((long_133.length : Int) = (IntKind.i64.wrap ((r_89.1.length : Int) + 7)))) 135 rfl rfl rfl rfl (by rw [hg_168]; rfl) ?_
                      refine lv (v := (.bool false)) rfl rfl (r_pickF (congrArg Value.bool hg_168) rfl) ?_
                      refine lv (v := (.bool false)) rfl rfl (r_move rfl) ?_
                      refine lp (b := false) 140 rfl rfl rfl rfl rfl ?_
                      refine lp (b := false) 140 rfl rfl rfl rfl rfl ?_
                      refine lp (b := false) 140 rfl rfl rfl rfl rfl ?_
                      refine lv (v := (.bool false)) rfl rfl (r_pickF rfl rfl) ?_
                      refine lv (v := (.bool false)) rfl rfl (r_move rfl) ?_
                      refine lp (b := false) 145 rfl rfl rfl rfl rfl ?_
                      refine lp (b := false) 145 rfl rfl rfl rfl rfl ?_
                      refine lp (b := false) 145 rfl rfl rfl rfl rfl ?_
                      refine lv (v := (.bool false)) rfl rfl (r_pickF rfl rfl) ?_
                      refine lv (v := (.bool false)) rfl rfl (r_assign rfl) ?_
                      refine lnil ?_
                      exact ⟨col_130, false, hm, hst, rfl, rfl⟩
      · refine wregion ?_
        refine lv (v := (.int .i64 r_63.2)) rfl rfl (r_move rfl) ?_
        refine lv (v := (.int .i64 r_89.2)) rfl rfl (r_move rfl) ?_
        refine lv (v := (.bool (!decide (r_63.2 = r_89.2)))) rfl rfl (r_neq r_63.2 r_89.2 rfl rfl) ?_
        refine lv (v := (.bool (!decide (r_63.2 = r_89.2)))) rfl rfl (r_move rfl) ?_
        by_cases hg_183 : (!decide (r_63.2 = r_89.2)) = true
        · rw [if_pos hg_183] at hm
          refine lp (b := !decide (r_63.2 = r_89.2)) 95 rfl rfl rfl rfl (by rw [hg_183]; rfl) ?_
          refine lp (b := !decide (r_63.2 = r_89.2)) 95 rfl rfl rfl rfl (by rw [hg_183]; rfl) ?_
          refine lp (b := !decide (r_63.2 = r_89.2)) 95 rfl rfl rfl rfl (by rw [hg_183]; rfl) ?_
          refine lv (v := (.bool true)) rfl rfl (r_pickT (congrArg Value.bool hg_183) rfl) ?_
          refine lv (v := (.bool true)) rfl rfl (r_move rfl) ?_
          refine lp (b := true) 100 rfl rfl rfl rfl rfl ?_
          refine lp (b := true) 100 rfl rfl rfl rfl rfl ?_
          refine lp (b := true) 100 rfl rfl rfl rfl rfl ?_
          refine lp (b := true) 100 rfl rfl rfl rfl rfl ?_
          refine lv (v := (.bool true)) rfl rfl (r_pickT rfl rfl) ?_
          refine lv (v := (.bool true)) rfl rfl (r_move rfl) ?_
          refine lp (b := true) 106 rfl rfl rfl rfl rfl ?_
          refine lp (b := true) 106 rfl rfl rfl rfl rfl ?_
          refine lp (b := true) 106 rfl rfl rfl rfl rfl ?_
          refine lp (b := true) 106 rfl rfl rfl rfl rfl ?_
          refine lv (v := (.bool true)) rfl rfl (r_pickT rfl rfl) ?_
          refine lnil ?_
          exact ⟨col_97, true, hm, hst, h0, h1, h_5, h_13, h_67, h_76, h_93, rfl, rfl, rfl, rfl, rfl, rfl, rfl, rfl, rfl⟩
        · rw [if_neg hg_183] at hm
          replace hg_183 := Bool.eq_false_iff.2 hg_183
          refine lg (b := !decide (r_63.2 = r_89.2)) 95 rfl rfl rfl (by rw [hg_183]; rfl) ?_
          refine lv (v := (.int .i64 r_72.2)) rfl rfl (r_move rfl) ?_
          refine lg (b := !decide (r_63.2 = r_89.2)) 95 rfl rfl rfl (by rw [hg_183]; rfl) ?_
          refine lv (v := (.int .i64 r_89.2)) rfl rfl (r_move rfl) ?_
          refine lg (b := !decide (r_63.2 = r_89.2)) 95 rfl rfl rfl (by rw [hg_183]; rfl) ?_
          refine lv (v := (.bool (!decide (r_72.2 = r_89.2)))) rfl rfl (r_neq r_72.2 r_89.2 rfl rfl) ?_
          refine lv (v := (.bool (!decide (r_72.2 = r_89.2)))) rfl rfl (r_pickF (congrArg Value.bool hg_183) rfl) ?_
          refine lv (v := (.bool (!decide (r_72.2 = r_89.2)))) rfl rfl (r_move rfl) ?_
          by_cases hg_184 : (!decide (r_72.2 = r_89.2)) = true
          · rw [if_pos hg_184] at hm
            refine lp (b := !decide (r_72.2 = r_89.2)) 100 rfl rfl rfl rfl (by rw [hg_184]; rfl) ?_
            refine lp (b := !decide (r_72.2 = r_89.2)) 100 rfl rfl rfl rfl (by rw [hg_184]; rfl) ?_
            refine lp (b := !decide (r_72.2 = r_89.2)) 100 rfl rfl rfl rfl (by rw [hg_184]; rfl) ?_
            refine lp (b := !decide (r_72.2 = r_89.2)) 100 rfl rfl rfl rfl (by rw [hg_184]; rfl) ?_
            refine lv (v := (.bool true)) rfl rfl (r_pickT (congrArg Value.bool hg_184) rfl) ?_
            refine lv (v := (.bool true)) rfl rfl (r_move rfl) ?_
            refine lp (b := true) 106 rfl rfl rfl rfl rfl ?_
            refine lp (b := true) 106 rfl rfl rfl rfl rfl ?_
            refine lp (b := true) 106 rfl rfl rfl rfl rfl ?_
            refine lp (b := true) 106 rfl rfl rfl rfl rfl ?_
            refine lv (v := (.bool true)) rfl rfl (r_pickT rfl rfl) ?_
            refine lnil ?_
            exact ⟨col_97, true, hm, hst, h0, h1, h_5, h_13, h_67, h_76, h_93, rfl, rfl, rfl, rfl, rfl, rfl, rfl, rfl, rfl⟩
          · rw [if_neg hg_184] at hm
            replace hg_184 := Bool.eq_false_iff.2 hg_184
            refine lg (b := !decide (r_72.2 = r_89.2)) 100 rfl rfl rfl (by rw [hg_184]; rfl) ?_
            refine lv (v := (.slice a_65 r_63.1.length cap_66)) rfl rfl (r_move rfl) ?_
            refine lg (b := !decide (r_72.2 = r_89.2)) 100 rfl rfl rfl (by rw [hg_184]; rfl) ?_
            refine lv (v := (.slice a_91 r_89.1.length cap_92)) rfl rfl (r_move rfl) ?_
            refine lg (b := !decide (r_72.2 = r_89.2)) 100 rfl rfl rfl (by rw [hg_184]; rfl) ?_
            obtain ⟨r_185, hr_186, hm⟩ := bind_some hm
            refine lc rfl rfl (r_call2 Try.call28 rfl rfl) (c_credencelaw10_same_int N (froz 9 (froz 6 col_97)) _ a_65 cap_66 r_63.1 (((h_67).toSl).froz 9) a_91 cap_92 r_89.1 (((h_93).froz 6 (by decide)).toSl) r_185 hr_186) ?_
            rintro _ w_187 ⟨rfl, hg_188⟩
            refine ⟨_, rfl, ?_⟩
            have hg_188 : Grow col_97 w_94 col_97 w_187 := .of_below hg_188
            replace h0 := h0.gr hg_188
            replace h1 := h1.gr hg_188
            replace h_5 := h_5.gr hg_188
            replace h_13 := h_13.gr hg_188
            replace h_67 := h_67.gr hg_188
            replace h_76 := h_76.gr hg_188
            replace h_85 := h_85.gr hg_188
            replace h_93 := h_93.gr hg_188
            replace hst := hst.grow hg_188
            refine lg (b := !decide (r_72.2 = r_89.2)) 100 rfl rfl rfl (by rw [hg_184]; rfl) ?_
            refine lv (v := (.bool (!r_185))) rfl rfl (r_not r_185 rfl) ?_
            refine lv (v := (.bool (!r_185))) rfl rfl (r_pickF (congrArg Value.bool hg_184) rfl) ?_
            refine lv (v := (.bool (!r_185))) rfl rfl (r_move rfl) ?_
            by_cases hg_189 : (!r_185) = true
            · rw [if_pos hg_189] at hm
              refine lp (b := !r_185) 106 rfl rfl rfl rfl (by rw [hg_189]; rfl) ?_
              refine lp (b := !r_185) 106 rfl rfl rfl rfl (by rw [hg_189]; rfl) ?_
              refine lp (b := !r_185) 106 rfl rfl rfl rfl (by rw [hg_189]; rfl) ?_
              refine lp (b := !r_185) 106 rfl rfl rfl rfl (by rw [hg_189]; rfl) ?_
              refine lv (v := (.bool true)) rfl rfl (r_pickT (congrArg Value.bool hg_189) rfl) ?_
              refine lnil ?_
              exact ⟨col_97, true, hm, hst, h0, h1, h_5, h_13, h_67, h_76, h_93, rfl, rfl, rfl, rfl, rfl, rfl, rfl, rfl, rfl⟩
            · rw [if_neg hg_189] at hm
              replace hg_189 := Bool.eq_false_iff.2 hg_189
              refine lg (b := !r_185) 106 rfl rfl rfl (by rw [hg_189]; rfl) ?_
              refine lv (v := (.slice a_74 r_72.1.length cap_75)) rfl rfl (r_move rfl) ?_
              refine lg (b := !r_185) 106 rfl rfl rfl (by rw [hg_189]; rfl) ?_
              refine lv (v := (.slice a_91 r_89.1.length cap_92)) rfl rfl (r_move rfl) ?_
              refine lg (b := !r_185) 106 rfl rfl rfl (by rw [hg_189]; rfl) ?_
              obtain ⟨r_190, hr_191, hm⟩ := bind_some hm
              refine lc rfl rfl (r_call2 Try.call28 rfl rfl) (c_credencelaw10_same_int N (froz 9 (froz 7 col_97)) _ a_74 cap_75 r_72.1 (((h_76).toSl).froz 9) a_91 cap_92 r_89.1 (((h_93).froz 7 (by decide)).toSl) r_190 hr_191) ?_
              rintro _ w_192 ⟨rfl, hg_193⟩
              refine ⟨_, rfl, ?_⟩
              have hg_193 : Grow col_97 w_187 col_97 w_192 := .of_below hg_193
              replace h0 := h0.gr hg_193
              replace h1 := h1.gr hg_193
              replace h_5 := h_5.gr hg_193
              replace h_13 := h_13.gr hg_193
              replace h_67 := h_67.gr hg_193
              replace h_76 := h_76.gr hg_193
              replace h_85 := h_85.gr hg_193
              replace h_93 := h_93.gr hg_193
              replace hst := hst.grow hg_193
              refine lg (b := !r_185) 106 rfl rfl rfl (by rw [hg_189]; rfl) ?_
              refine lv (v := (.bool (!r_190))) rfl rfl (r_not r_190 rfl) ?_
              refine lv (v := (.bool (!r_190))) rfl rfl (r_pickF (congrArg Value.bool hg_189) rfl) ?_
              refine lnil ?_
              exact ⟨col_97, (!r_190), hm, hst, h0, h1, h_5, h_13, h_67, h_76, h_93, rfl, rfl, rfl, rfl, rfl, rfl, rfl, rfl, rfl⟩
  · refine wregion ?_
    refine lv (v := (.int .i64 r_17.1)) rfl rfl (r_move rfl) ?_
    refine lv (v := (.int .i64 r_29.1)) rfl rfl (r_move rfl) ?_
    refine lv (v := (.bool (!decide (r_17.1 = r_29.1)))) rfl rfl (r_neq r_17.1 r_29.1 rfl rfl) ?_
    refine lv (v := (.bool (!decide (r_17.1 = r_29.1)))) rfl rfl (r_move rfl) ?_
    by_cases hg_194 : (!decide (r_17.1 = r_29.1)) = true
    · rw [if_pos hg_194] at hm
      refine lp (b := !decide (r_17.1 = r_29.1)) 58 rfl rfl rfl rfl (by rw [hg_194]; rfl) ?_
      refine lp (b := !decide (r_17.1 = r_29.1)) 58 rfl rfl rfl rfl (by rw [hg_194]; rfl) ?_
      refine lp (b := !decide (r_17.1 = r_29.1)) 58 rfl rfl rfl rfl (by rw [hg_194]; rfl) ?_
      refine lv (v := (.bool true)) rfl rfl (r_pickT (congrArg Value.bool hg_194) rfl) ?_
      refine lv (v := (.bool true)) rfl rfl (r_move rfl) ?_
      refine lp (b := true) 63 rfl rfl rfl rfl rfl ?_
      refine lp (b := true) 63 rfl rfl rfl rfl rfl ?_
      refine lp (b := true) 63 rfl rfl rfl rfl rfl ?_
      refine lv (v := (.bool true)) rfl rfl (r_pickT rfl rfl) ?_
      refine lv (v := (.bool true)) rfl rfl (r_move rfl) ?_
      refine lp (b := true) 68 rfl rfl rfl rfl rfl ?_
      refine lp (b := true) 68 rfl rfl rfl rfl rfl ?_
      refine lp (b := true) 68 rfl rfl rfl rfl rfl ?_
      refine lv (v := (.bool true)) rfl rfl (r_pickT rfl rfl) ?_
      refine lnil ?_
      exact ⟨col_52, true, hm, hst, h0, h1, h_5, h_13, rfl, rfl, rfl, rfl, rfl, rfl, rfl⟩
    · rw [if_neg hg_194] at hm
      replace hg_194 := Bool.eq_false_iff.2 hg_194
      refine lg (b := !decide (r_17.1 = r_29.1)) 58 rfl rfl rfl (by rw [hg_194]; rfl) ?_
      refine lv (v := (.int .i64 r_17.2)) rfl rfl (r_move rfl) ?_
      refine lg (b := !decide (r_17.1 = r_29.1)) 58 rfl rfl rfl (by rw [hg_194]; rfl) ?_
      refine lv (v := (.int .i64 r_29.2)) rfl rfl (r_move rfl) ?_
      refine lg (b := !decide (r_17.1 = r_29.1)) 58 rfl rfl rfl (by rw [hg_194]; rfl) ?_
      refine lv (v := (.bool (!decide (r_17.2 = r_29.2)))) rfl rfl (r_neq r_17.2 r_29.2 rfl rfl) ?_
      refine lv (v := (.bool (!decide (r_17.2 = r_29.2)))) rfl rfl (r_pickF (congrArg Value.bool hg_194) rfl) ?_
      refine lv (v := (.bool (!decide (r_17.2 = r_29.2)))) rfl rfl (r_move rfl) ?_
      by_cases hg_195 : (!decide (r_17.2 = r_29.2)) = true
      · rw [if_pos hg_195] at hm
        refine lp (b := !decide (r_17.2 = r_29.2)) 63 rfl rfl rfl rfl (by rw [hg_195]; rfl) ?_
        refine lp (b := !decide (r_17.2 = r_29.2)) 63 rfl rfl rfl rfl (by rw [hg_195]; rfl) ?_
        refine lp (b := !decide (r_17.2 = r_29.2)) 63 rfl rfl rfl rfl (by rw [hg_195]; rfl) ?_
        refine lv (v := (.bool true)) rfl rfl (r_pickT (congrArg Value.bool hg_195) rfl) ?_
        refine lv (v := (.bool true)) rfl rfl (r_move rfl) ?_
        refine lp (b := true) 68 rfl rfl rfl rfl rfl ?_
        refine lp (b := true) 68 rfl rfl rfl rfl rfl ?_
        refine lp (b := true) 68 rfl rfl rfl rfl rfl ?_
        refine lv (v := (.bool true)) rfl rfl (r_pickT rfl rfl) ?_
        refine lnil ?_
        exact ⟨col_52, true, hm, hst, h0, h1, h_5, h_13, rfl, rfl, rfl, rfl, rfl, rfl, rfl⟩
      · rw [if_neg hg_195] at hm
        replace hg_195 := Bool.eq_false_iff.2 hg_195
        refine lg (b := !decide (r_17.2 = r_29.2)) 63 rfl rfl rfl (by rw [hg_195]; rfl) ?_
        refine lv (v := (.int .i64 r_33.1)) rfl rfl (r_move rfl) ?_
        refine lg (b := !decide (r_17.2 = r_29.2)) 63 rfl rfl rfl (by rw [hg_195]; rfl) ?_
        refine lv (v := (.int .i64 r_53.1)) rfl rfl (r_move rfl) ?_
        refine lg (b := !decide (r_17.2 = r_29.2)) 63 rfl rfl rfl (by rw [hg_195]; rfl) ?_
        refine lv (v := (.bool (!decide (r_33.1 = r_53.1)))) rfl rfl (r_neq r_33.1 r_53.1 rfl rfl) ?_
        refine lv (v := (.bool (!decide (r_33.1 = r_53.1)))) rfl rfl (r_pickF (congrArg Value.bool hg_195) rfl) ?_
        refine lv (v := (.bool (!decide (r_33.1 = r_53.1)))) rfl rfl (r_move rfl) ?_
        by_cases hg_196 : (!decide (r_33.1 = r_53.1)) = true
        · rw [if_pos hg_196] at hm
          refine lp (b := !decide (r_33.1 = r_53.1)) 68 rfl rfl rfl rfl (by rw [hg_196]; rfl) ?_
          refine lp (b := !decide (r_33.1 = r_53.1)) 68 rfl rfl rfl rfl (by rw [hg_196]; rfl) ?_
          refine lp (b := !decide (r_33.1 = r_53.1)) 68 rfl rfl rfl rfl (by rw [hg_196]; rfl) ?_
          refine lv (v := (.bool true)) rfl rfl (r_pickT (congrArg Value.bool hg_196) rfl) ?_
          refine lnil ?_
          exact ⟨col_52, true, hm, hst, h0, h1, h_5, h_13, rfl, rfl, rfl, rfl, rfl, rfl, rfl⟩
        · rw [if_neg hg_196] at hm
          replace hg_196 := Bool.eq_false_iff.2 hg_196
          refine lg (b := !decide (r_33.1 = r_53.1)) 68 rfl rfl rfl (by rw [hg_196]; rfl) ?_
          refine lv (v := (.int .i64 r_33.2)) rfl rfl (r_move rfl) ?_
          refine lg (b := !decide (r_33.1 = r_53.1)) 68 rfl rfl rfl (by rw [hg_196]; rfl) ?_
          refine lv (v := (.int .i64 r_53.2)) rfl rfl (r_move rfl) ?_
          refine lg (b := !decide (r_33.1 = r_53.1)) 68 rfl rfl rfl (by rw [hg_196]; rfl) ?_
          refine lv (v := (.bool (!decide (r_33.2 = r_53.2)))) rfl rfl (r_neq r_33.2 r_53.2 rfl rfl) ?_
          refine lv (v := (.bool (!decide (r_33.2 = r_53.2)))) rfl rfl (r_pickF (congrArg Value.bool hg_196) rfl) ?_
          refine lnil ?_
          exact ⟨col_52, (!decide (r_33.2 = r_53.2)), hm, hst, h0, h1, h_5, h_13, rfl, rfl, rfl, rfl, rfl, rfl, rfl⟩



theorem el21_11 : ElemOk Try.prog 21 1 4 := ⟨Try.t21, _, rfl, rfl, rfl, rfl, rfl⟩

def m_credencelaw10_narrow_L1 (N : Nat) (p0_l : List Int) : Nat → (List Int) → Int → Option (List Int)
  | 0, _, _ => none
  | n_1 + 1, out_6, i_8 => if (decide (i_8 < (p0_l.length : Int))) = true then ((at? p0_l i_8).bind fun e_9 => chk ((out_6.length + [IntKind.i32.wrap e_9].length) * 4 ≤ 140737488355328 ∧ out_6.length + [IntKind.i32.wrap e_9].length ≤ maxLen) ((m_credencelaw10_narrow_L1 N p0_l n_1) (out_6 ++ [IntKind.i32.wrap e_9]) (IntKind.i64.wrap (i_8 + 1)))) else (some out_6)

def m_credencelaw10_narrow (N : Nat) (p0_l : List Int) : Option (List Int) :=
  m_credencelaw10_narrow_L1 N p0_l N ([] : List Int) 0

set_option maxRecDepth 100000 in
theorem c_credencelaw10_narrow (N : Nat) (c1 : Nat) (col : Col) (w0 : World) (a0 : Option Addr) (cap0 : Nat) (p0_l : List Int) (h0 : Sl (Rep.int .i64) col w0 a0 cap0 p0_l) (r : (List Int)) (hm : m_credencelaw10_narrow N p0_l = some r) :
    Calls Try.prog 11 #[(.slice a0 p0_l.length cap0)] w0 (fun e w' => ∃ (col' : Col) (ra1 : Option Addr) (rc1 : Nat), e = .returned (.slice ra1 r.length rc1) ∧ Grow col w0 col' w' ∧ Own (Rep.int .i32) 21 c1 col' w' ra1 rc1 r) := by
  refine calls_of1 2 (m := 20) (args := [(.slice a0 p0_l.length cap0)]) Try.func11 rfl rfl rfl rfl rfl ?_
  rw [m_credencelaw10_narrow.eq_1] at hm
  have hst := St.start col w0
  replace h0 := h0.keep (Stay.start col w0)
  refine wseq ?_
  refine wregion ?_
  refine lv (v := (.slice none (([] : List Int).length) 0)) rfl rfl (r_assign rfl) ?_
  refine lnil ?_
  refine wseq ?_
  refine wregion ?_
  refine lv (v := (.slice none (([] : List Int).length) 0)) rfl rfl (r_assign rfl) ?_
  refine lnil ?_
  refine wseq ?_
  refine wseq ?_
  refine wregion ?_
  refine lv (v := (.int .i64 0)) rfl rfl (r_assign rfl) ?_
  refine lnil ?_
  refine wblock ?_
  refine wloop (fun n f w_2 => ∃ (col_3 : Col) (a_4 : Option Addr) (cap_5 : Nat) (out_6 : List Int) (i_8 : Int) (n_1 : Nat), n_1 = n ∧ m_credencelaw10_narrow_L1 N p0_l n_1 out_6 i_8 = some r ∧ St w0 (col0 col) col_3 w_2 ∧ Sl (Rep.int .i64) col_3 w_2 a0 cap0 p0_l ∧ Own (Rep.int .i32) 21 2 col_3 w_2 a_4 cap_5 out_6 ∧ f 0 = (.slice a0 p0_l.length cap0) ∧ f 3 = (.slice a_4 out_6.length cap_5) ∧ f 4 = (.int .i64 i_8) ∧ f 1000000 = (enc [])) N ⟨(col0 col), none, 0, ([] : List Int), 0, N, rfl, hm, hst, h0, Own.nil, rfl, rfl, rfl, rfl⟩ ?_
  clear hm; intro n f w_2 hI
  obtain ⟨col_3, a_4, cap_5, out_6, i_8, n_1, hn, hm, hst, h0, h_7, hs0, hs3, hs4, hs1000000⟩ := hI
  subst hn
  refine .ld (d := 0) (v := (.slice a0 p0_l.length cap0)) hs0 ?_
  refine .ld (d := 3) (v := (.slice a_4 out_6.length cap_5)) hs3 ?_
  refine .ld (d := 4) (v := (.int .i64 i_8)) hs4 ?_
  refine .ld (d := 1000000) (v := (enc [])) hs1000000 ?_
  clear hs0 hs3 hs4 hs1000000
  cases n_1 with
  | zero => rw [m_credencelaw10_narrow_L1.eq_1] at hm; cases hm
  | succ n_1 =>
    rw [m_credencelaw10_narrow_L1.eq_2] at hm
    refine wseq ?_
    refine wseq ?_
    refine wregion ?_
    refine lv (v := (.int .i64 i_8)) rfl rfl (r_move rfl) ?_
    refine lv (v := (.slice a0 p0_l.length cap0)) rfl rfl (r_move rfl) ?_
    refine lv (v := (.int .i64 (p0_l.length : Int))) rfl rfl (r_len Try.underlying22 rfl) ?_
    refine lv (v := (.bool (decide (i_8 < (p0_l.length : Int))))) rfl rfl (r_lss i_8 (p0_l.length : Int) rfl rfl) ?_
    refine lnil ?_
    refine wcond (decide (i_8 < (p0_l.length : Int))) rfl (fun hb => ?_) (fun hb => ?_)
    · rw [if_pos hb] at hm
      clear hb
      refine wskip ?_
      refine wseq ?_
      refine wblock ?_
      refine wregion ?_
      refine lv (v := (.slice a_4 out_6.length cap_5)) rfl rfl (r_move rfl) ?_
      refine lv (v := (.slice a0 p0_l.length cap0)) rfl rfl (r_move rfl) ?_
      refine lv (v := (.int .i64 i_8)) rfl rfl (r_move rfl) ?_
      obtain ⟨e_9, hj_10, hm⟩ := bind_some hm
      refine lv (v := (sptr a0 (Int.toNat i_8 * 1))) rfl rfl (r_idx Try.underlying22 Try.sizeOf3 rfl rfl (at?_some hj_10).1 (at?_some hj_10).2.1 (h0.addr hj_10)) ?_
      refine lv (v := (.int .i64 e_9)) rfl rfl (r_ld Try.isAgg3 rfl (h0.atInt hj_10)) ?_
      refine lv (v := (.int .i32 (IntKind.i32.wrap e_9))) rfl rfl (r_conv e_9 ⟨_, Try.underlying3⟩ Try.underlying21 rfl) ?_
      refine l_lit (col := col_3) (r := (Rep.int .i32)) (xs := [IntKind.i32.wrap e_9]) [(.int .i32 (IntKind.i32.wrap e_9))] 3 rfl Try.underlying25 el21_11 rfl rfl rfl rfl rfl rfl (by intro v hv; simp only [List.mem_cons, List.not_mem_nil, or_false] at hv; subst hv; rfl) ⟨_, _, rfl, rfl, rfl⟩ ?_
      intro a_11 w_12 col_13 hg_14 h_15
      replace h0 := h0.gr hg_14
      replace h_7 := h_7.gr hg_14
      replace hst := hst.grow hg_14
      replace h0 := h0.froz 3
      replace h_7 := h_7.froz 3 (by decide)
      replace hst := hst.froz 3 (by decide) (by decide)
      replace h_15 := h_15.toSl
      obtain ⟨hb_16, hm⟩ := chk_some hm
      refine l_append (col := (froz 3 col_13)) (w := w_12) (r := (Rep.int .i32)) (c := 2) (xs := out_6) (ys := [IntKind.i32.wrap e_9]) h_7 h_15 rfl Try.underlying25 el21_11 rfl rfl rfl hb_16.1 hb_16.2 (by decide) ?_
      intro a_18 cap_19 w_20 col_21 hk_22 hs_23 h_24
      replace h0 := h0.kp hk_22 (by decide)
      replace h_15 := h_15.kp hk_22 (by decide)
      replace hst := hst.kp hk_22 hs_23 (by decide) (by decide)
      clear h_7
      refine lv (v := (.slice a_18 ((out_6 ++ [IntKind.i32.wrap e_9]).length) cap_19)) rfl rfl (r_assign rfl) ?_
      refine lnil ?_
      refine wregion ?_
      refine lv (v := (.int .i64 i_8)) rfl rfl (r_move rfl) ?_
      refine lv (v := (.int .i64 (IntKind.i64.wrap (i_8 + 1)))) rfl rfl (r_add i_8 1 rfl rfl) ?_
      refine lv (v := (.int .i64 (IntKind.i64.wrap (i_8 + 1)))) rfl rfl (r_assign rfl) ?_
      refine lnil ?_
      exact ⟨n_1, by omega, ⟨col_21, a_18, cap_19, (out_6 ++ [IntKind.i32.wrap e_9]), (IntKind.i64.wrap (i_8 + 1)), n_1, rfl, hm, hst, h0, h_24, rfl, rfl, rfl, rfl⟩⟩
    · rw [if_neg (by rw [hb]; decide)] at hm
      clear hb
      refine wexit (inB_hit ?_)
      refine wseq ?_
      refine wregion ?_
      refine lv (v := (.slice a_4 out_6.length cap_5)) rfl rfl (r_move rfl) ?_
      refine lv (v := (.slice a_4 out_6.length cap_5)) rfl rfl (r_assign rfl) ?_
      refine lnil ?_
      refine wret ?_
      cases hm
      exact ⟨rfl, colF w0.heap.size col col_3 (fun n => bif Nat.beq n 2 then c1 else 0), a_4, cap_5, rfl, hst.fin (fun n => bif Nat.beq n 2 then c1 else 0), hst.finOwn (g := (fun n => bif Nat.beq n 2 then c1 else 0)) rfl h_7 (by decide) (by decide) rfl⟩



theorem el21_29 : ElemOk Try.prog 21 1 4 := ⟨Try.t21, _, rfl, rfl, rfl, rfl, rfl⟩

def m_credencelaw10_roomy_int32_L1 (N : Nat) (p0_l : List Int) : Nat → (List Int) → Int → Option (Nat × (List Int))
  | 0, _, _ => none
  | n_10 + 1, m_15, i_17 => if (decide (i_17 < 5)) = true then (chk ((m_15.length + [77].length) * 4 ≤ 140737488355328 ∧ m_15.length + [77].length ≤ maxLen) ((m_credencelaw10_roomy_int32_L1 N p0_l n_10) (m_15 ++ [77]) (IntKind.i64.wrap (i_17 + 1)))) else (chk (0 ≤ (p0_l.length : Int) ∧ (p0_l.length : Int) ≤ (m_15.length : Int)) (some ((Int.toNat (p0_l.length : Int)), m_15)))

def m_credencelaw10_roomy_int32 (N : Nat) (p0_l : List Int) : Option (Nat × (List Int)) :=
  chk ((([] : List Int).length + p0_l.length) * 4 ≤ 140737488355328 ∧ ([] : List Int).length + p0_l.length ≤ maxLen) (m_credencelaw10_roomy_int32_L1 N p0_l N (([] : List Int) ++ p0_l) 0)

set_option maxRecDepth 100000 in
theorem c_credencelaw10_roomy_int32 (N : Nat) (c1 : Nat) (col : Col) (w0 : World) (a0 : Option Addr) (cap0 : Nat) (p0_l : List Int) (h0 : Sl (Rep.int .i32) col w0 a0 cap0 p0_l) (r : (Nat × (List Int))) (hm : m_credencelaw10_roomy_int32 N p0_l = some r) :
    Calls Try.prog 29 #[(.slice a0 p0_l.length cap0)] w0 (fun e w' => ∃ (col' : Col) (ra1 : Option Addr) (rc1 : Nat), e = .returned (.slice ra1 (r.2.take r.1).length rc1) ∧ Grow col w0 col' w' ∧ Own (Rep.int .i32) 21 c1 col' w' ra1 rc1 r.2) := by
  refine calls_of1 2 (m := 19) (args := [(.slice a0 p0_l.length cap0)]) Try.func29 rfl rfl rfl rfl rfl ?_
  rw [m_credencelaw10_roomy_int32.eq_1] at hm
  have hst := St.start col w0
  replace h0 := h0.keep (Stay.start col w0)
  refine wseq ?_
  refine wregion ?_
  refine lv (v := (.slice none (([] : List Int).length) 0)) rfl rfl (r_assign rfl) ?_
  refine lnil ?_
  refine wseq ?_
  refine wregion ?_
  refine lv (v := (.slice none (([] : List Int).length) 0)) rfl rfl (r_assign rfl) ?_
  refine lnil ?_
  refine wseq ?_
  refine wregion ?_
  refine lv (v := (.slice none (([] : List Int).length) 0)) rfl rfl (r_move rfl) ?_
  refine lv (v := (.slice a0 p0_l.length cap0)) rfl rfl (r_move rfl) ?_
  obtain ⟨hb_1, hm⟩ := chk_some hm
  refine l_append (col := (col0 col)) (w := w0) (r := (Rep.int .i32)) (c := 2) (xs := ([] : List Int)) (ys := p0_l) Own.nil h0 rfl Try.underlying25 el21_29 rfl rfl rfl hb_1.1 hb_1.2 (by decide) ?_
  intro a_3 cap_4 w_5 col_6 hk_7 hs_8 h_9
  replace h0 := h0.kp hk_7 (by decide)
  replace hst := hst.kp hk_7 hs_8 (by decide) (by decide)
  refine lv (v := (.slice a_3 ((([] : List Int) ++ p0_l).length) cap_4)) rfl rfl (r_assign rfl) ?_
  refine lnil ?_
  refine wseq ?_
  refine wseq ?_
  refine wregion ?_
  refine lv (v := (.int .i64 0)) rfl rfl (r_assign rfl) ?_
  refine lnil ?_
  refine wblock ?_
  refine wloop (fun n f w_11 => ∃ (col_12 : Col) (a_13 : Option Addr) (cap_14 : Nat) (m_15 : List Int) (i_17 : Int) (n_10 : Nat), n_10 = n ∧ m_credencelaw10_roomy_int32_L1 N p0_l n_10 m_15 i_17 = some r ∧ St w0 (col0 col) col_12 w_11 ∧ Sl (Rep.int .i32) col_12 w_11 a0 cap0 p0_l ∧ Own (Rep.int .i32) 21 2 col_12 w_11 a_13 cap_14 m_15 ∧ f 0 = (.slice a0 p0_l.length cap0) ∧ f 3 = (.slice a_13 m_15.length cap_14) ∧ f 4 = (.int .i64 i_17) ∧ f 1000000 = (enc [])) N ⟨col_6, a_3, cap_4, (([] : List Int) ++ p0_l), 0, N, rfl, hm, hst, h0, h_9, rfl, rfl, rfl, rfl⟩ ?_
  clear hm; intro n f w_11 hI
  obtain ⟨col_12, a_13, cap_14, m_15, i_17, n_10, hn, hm, hst, h0, h_16, hs0, hs3, hs4, hs1000000⟩ := hI
  subst hn
  refine .ld (d := 0) (v := (.slice a0 p0_l.length cap0)) hs0 ?_
  refine .ld (d := 3) (v := (.slice a_13 m_15.length cap_14)) hs3 ?_
  refine .ld (d := 4) (v := (.int .i64 i_17)) hs4 ?_
  refine .ld (d := 1000000) (v := (enc [])) hs1000000 ?_
  clear hs0 hs3 hs4 hs1000000
  cases n_10 with
  | zero => rw [m_credencelaw10_roomy_int32_L1.eq_1] at hm; cases hm
  | succ n_10 =>
    rw [m_credencelaw10_roomy_int32_L1.eq_2] at hm
    refine wseq ?_
    refine wseq ?_
    refine wregion ?_
    refine lv (v := (.int .i64 i_17)) rfl rfl (r_move rfl) ?_
    refine lv (v := (.bool (decide (i_17 < 5)))) rfl rfl (r_lss i_17 5 rfl rfl) ?_
    refine lnil ?_
    refine wcond (decide (i_17 < 5)) rfl (fun hb => ?_) (fun hb => ?_)
    · rw [if_pos hb] at hm
      clear hb
      refine wskip ?_
      refine wseq ?_
      refine wblock ?_
      refine wregion ?_
      refine lv (v := (.slice a_13 m_15.length cap_14)) rfl rfl (r_move rfl) ?_
      refine l_lit (col := col_12) (r := (Rep.int .i32)) (xs := [77]) [(.int .i32 77)] 3 rfl Try.underlying25 el21_29 rfl rfl rfl rfl rfl rfl (by intro v hv; simp only [List.mem_cons, List.not_mem_nil, or_false] at hv; subst hv; rfl) ⟨_, _, rfl, rfl, rfl⟩ ?_
      intro a_18 w_19 col_20 hg_21 h_22
      replace h0 := h0.gr hg_21
      replace h_16 := h_16.gr hg_21
      replace hst := hst.grow hg_21
      replace h0 := h0.froz 3
      replace h_16 := h_16.froz 3 (by decide)
      replace hst := hst.froz 3 (by decide) (by decide)
      replace h_22 := h_22.toSl
      obtain ⟨hb_23, hm⟩ := chk_some hm
      refine l_append (col := (froz 3 col_20)) (w := w_19) (r := (Rep.int .i32)) (c := 2) (xs := m_15) (ys := [77]) h_16 h_22 rfl Try.underlying25 el21_29 rfl rfl rfl hb_23.1 hb_23.2 (by decide) ?_
      intro a_25 cap_26 w_27 col_28 hk_29 hs_30 h_31
      replace h0 := h0.kp hk_29 (by decide)
      replace h_22 := h_22.kp hk_29 (by decide)
      replace hst := hst.kp hk_29 hs_30 (by decide) (by decide)
      clear h_16
      refine lv (v := (.slice a_25 ((m_15 ++ [77]).length) cap_26)) rfl rfl (r_assign rfl) ?_
      refine lnil ?_
      refine wregion ?_
      refine lv (v := (.int .i64 i_17)) rfl rfl (r_move rfl) ?_
      refine lv (v := (.int .i64 (IntKind.i64.wrap (i_17 + 1)))) rfl rfl (r_add i_17 1 rfl rfl) ?_
      refine lv (v := (.int .i64 (IntKind.i64.wrap (i_17 + 1)))) rfl rfl (r_assign rfl) ?_
      refine lnil ?_
      exact ⟨n_10, by omega, ⟨col_28, a_25, cap_26, (m_15 ++ [77]), (IntKind.i64.wrap (i_17 + 1)), n_10, rfl, hm, hst, h0, h_31, rfl, rfl, rfl, rfl⟩⟩
    · rw [if_neg (by rw [hb]; decide)] at hm
      clear hb
      refine wexit (inB_hit ?_)
      refine wseq ?_
      refine wregion ?_
      refine lv (v := (.slice a_13 m_15.length cap_14)) rfl rfl (r_move rfl) ?_
      refine lv (v := (.slice a0 p0_l.length cap0)) rfl rfl (r_move rfl) ?_
      refine lv (v := (.int .i64 (p0_l.length : Int))) rfl rfl (r_len Try.underlying25 rfl) ?_
      obtain ⟨hb_32, hm⟩ := chk_some hm
      refine lv (v := .slice a_13 (Int.toNat (p0_l.length : Int)) cap_14) rfl rfl (r_sliceH Try.underlying25 Try.sizeOf21 rfl rfl hb_32.1 (by have := h_16.lecap; have := hb_32.2; omega)) ?_
      refine .ld (d := 18) (v := (.slice a_13 ((m_15.take (Int.toNat (p0_l.length : Int))).length) cap_14)) (congrArg (fun n => Value.slice a_13 n cap_14) (show (Int.toNat (p0_l.length : Int)) = (m_15.take (Int.toNat (p0_l.length : Int))).length by rw [List.length_take]; have := hb_32.2; omega)) ?_
      refine lv (v := (.slice a_13 ((m_15.take (Int.toNat (p0_l.length : Int))).length) cap_14)) rfl rfl (r_assign rfl) ?_
      refine lnil ?_
      refine wret ?_
      cases hm
      exact ⟨rfl, colF w0.heap.size col col_12 (fun n => bif Nat.beq n 2 then c1 else 0), a_13, cap_14, rfl, hst.fin (fun n => bif Nat.beq n 2 then c1 else 0), hst.finOwn (g := (fun n => bif Nat.beq n 2 then c1 else 0)) rfl h_16 (by decide) (by decide) rfl⟩




def m_radix_Count_int32_L2  : List Int → Int → Option (Int × Int)
  | [], n_12 => some (n_12, 0)
  | x_13 :: l_14, n_12 => chk (n_12 ≠ 0) (if (decide ((IntKind.i64.wrap (Int.tdiv 2147483647 n_12)) < (IntKind.i64.wrap x_13))) = true then (some (0, 4)) else ((m_radix_Count_int32_L2 l_14) (IntKind.i64.wrap (n_12 * (IntKind.i64.wrap x_13)))))

def m_radix_Count_int32_J1 (kk_L1 : (Bool → Option (Int × Int))) (none_18 : Bool) : Option (Int × Int) :=
  kk_L1 none_18

def m_radix_Count_int32_L1 (p0_sizes : List Int) : List Int → Bool → Option (Int × Int)
  | [], none_5 => if none_5 = true then (some (0, 0)) else (m_radix_Count_int32_L2 p0_sizes 1)
  | x_6 :: l_7, none_5 => if (decide (x_6 < 0)) = true then (some (0, 3)) else (if none_5 = true then (m_radix_Count_int32_J1 (m_radix_Count_int32_L1 p0_sizes l_7) true) else (m_radix_Count_int32_J1 (m_radix_Count_int32_L1 p0_sizes l_7) (decide (x_6 = 0))))

def m_radix_Count_int32 (p0_sizes : List Int) : Option (Int × Int) :=
  m_radix_Count_int32_L1 p0_sizes p0_sizes false

set_option maxRecDepth 100000 in
theorem c_radix_Count_int32 (col : Col) (w0 : World) (a0 : Option Addr) (cap0 : Nat) (p0_sizes : List Int) (h0 : Sl (Rep.int .i32) col w0 a0 cap0 p0_sizes) (r : (Int × Int)) (hm : m_radix_Count_int32 p0_sizes = some r) :
    Calls Try.prog 43 #[(.slice a0 p0_sizes.length cap0)] w0 (fun e w' => e = .returned (.tuple #[.int .i64 r.1, .int .i64 r.2]) ∧ Below w0.heap.size w0 w') := by
  refine calls_of2 2 3 (m := 42) (args := [(.slice a0 p0_sizes.length cap0)]) Try.func43 rfl rfl rfl rfl rfl ?_
  rw [m_radix_Count_int32.eq_1] at hm
  have hst := St.start col w0
  replace h0 := h0.keep (Stay.start col w0)
  refine wseq ?_
  refine wregion ?_
  refine lv (v := (.int .i64 0)) rfl rfl (r_assign rfl) ?_
  refine lv (v := (.int .i64 0)) rfl rfl (r_assign rfl) ?_
  refine lnil ?_
  refine wseq ?_
  refine wregion ?_
  refine lv (v := (.bool false)) rfl rfl (r_assign rfl) ?_
  refine lnil ?_
  refine wseq ?_
  refine wseq ?_
  refine wregion ?_
  refine lv (v := (.slice a0 p0_sizes.length cap0)) rfl rfl (r_move rfl) ?_
  refine lv (v := (.int .i64 (p0_sizes.length : Int))) rfl rfl (r_len Try.underlying25 rfl) ?_
  refine lv (v := (.int .i64 0)) rfl rfl (r_move rfl) ?_
  refine lnil ?_
  refine wblock ?_
  refine wloop (fun n f w_3 => ∃ (col_4 : Col) (none_5 : Bool) (k_1 : Nat) (l_2 : List Int), n = l_2.length ∧ p0_sizes.drop k_1 = l_2 ∧ m_radix_Count_int32_L1 p0_sizes l_2 none_5 = some r ∧ St w0 (col0 col) col_4 w_3 ∧ Sl (Rep.int .i32) col_4 w_3 a0 cap0 p0_sizes ∧ f 12 = (.int .i64 (k_1 : Int)) ∧ f 0 = (.slice a0 p0_sizes.length cap0) ∧ f 4 = (.bool none_5) ∧ f 10 = (.slice a0 p0_sizes.length cap0) ∧ f 11 = (.int .i64 (p0_sizes.length : Int)) ∧ f 1000000 = (enc [])) p0_sizes.length ⟨(col0 col), false, 0, p0_sizes, rfl, rfl, hm, hst, h0, rfl, rfl, rfl, rfl, rfl, rfl⟩ ?_
  clear hm; intro n f w_3 hI
  obtain ⟨col_4, none_5, k_1, l_2, hn, hl, hm, hst, h0, hs12, hs0, hs4, hs10, hs11, hs1000000⟩ := hI
  subst hn
  refine .ld (d := 12) (v := (.int .i64 (k_1 : Int))) hs12 ?_
  refine .ld (d := 0) (v := (.slice a0 p0_sizes.length cap0)) hs0 ?_
  refine .ld (d := 4) (v := (.bool none_5)) hs4 ?_
  refine .ld (d := 10) (v := (.slice a0 p0_sizes.length cap0)) hs10 ?_
  refine .ld (d := 11) (v := (.int .i64 (p0_sizes.length : Int))) hs11 ?_
  refine .ld (d := 1000000) (v := (enc [])) hs1000000 ?_
  clear hs12 hs0 hs4 hs10 hs11 hs1000000
  cases l_2 with
  | nil =>
    have hk : ¬ ((k_1 : Int) < (p0_sizes.length : Int)) := by have := List.drop_eq_nil_iff.1 hl; omega
    have hkb := decide_eq_false hk
    rw [m_radix_Count_int32_L1.eq_1] at hm
    refine wseq ?_
    refine wregion ?_
    refine lv (v := (.bool (decide ((k_1 : Int) < (p0_sizes.length : Int))))) rfl rfl (r_lss (k_1 : Int) (p0_sizes.length : Int) rfl rfl) ?_
    refine lnil ?_
    refine wseq ?_
    refine wcondF (congrArg Value.bool hkb) ?_
    refine wexit (inB_hit ?_)
    refine wseq ?_
    refine wseq ?_
    refine wregion ?_
    refine lv (v := (.bool none_5)) rfl rfl (r_move rfl) ?_
    refine lnil ?_
    refine wcond (none_5) rfl (fun hb => ?_) (fun hb => ?_)
    · rw [if_pos hb] at hm
      clear hb
      refine wseq ?_
      refine wregion ?_
      refine lv (v := (.int .i64 0)) rfl rfl (r_assign rfl) ?_
      refine lv (v := (.int .i64 0)) rfl rfl (r_assign rfl) ?_
      refine lnil ?_
      refine wret ?_
      cases hm
      exact ⟨rfl, rfl, hst.below⟩
    · rw [if_neg (by rw [hb]; decide)] at hm
      clear hb
      refine wskip ?_
      refine wseq ?_
      refine wregion ?_
      refine lv (v := (.int .i64 1)) rfl rfl (r_assign rfl) ?_
      refine lnil ?_
      refine wseq ?_
      refine wseq ?_
      refine wregion ?_
      refine lv (v := (.slice a0 p0_sizes.length cap0)) rfl rfl (r_move rfl) ?_
      refine lv (v := (.int .i64 (p0_sizes.length : Int))) rfl rfl (r_len Try.underlying25 rfl) ?_
      refine lv (v := (.int .i64 0)) rfl rfl (r_move rfl) ?_
      refine lnil ?_
      refine wblock ?_
      refine wloop (fun n f w_10 => ∃ (col_11 : Col) (n_12 : Int) (k_8 : Nat) (l_9 : List Int), n = l_9.length ∧ p0_sizes.drop k_8 = l_9 ∧ m_radix_Count_int32_L2 l_9 n_12 = some r ∧ St w0 (col0 col) col_11 w_10 ∧ Sl (Rep.int .i32) col_11 w_10 a0 cap0 p0_sizes ∧ f 27 = (.int .i64 (k_8 : Int)) ∧ f 0 = (.slice a0 p0_sizes.length cap0) ∧ f 7 = (.int .i64 n_12) ∧ f 25 = (.slice a0 p0_sizes.length cap0) ∧ f 26 = (.int .i64 (p0_sizes.length : Int)) ∧ f 1000000 = (enc [])) p0_sizes.length ⟨col_4, 1, 0, p0_sizes, rfl, rfl, hm, hst, h0, rfl, rfl, rfl, rfl, rfl, rfl⟩ ?_
      clear hm; intro n f w_10 hI
      obtain ⟨col_11, n_12, k_8, l_9, hn, hl, hm, hst, h0, hs27, hs0, hs7, hs25, hs26, hs1000000⟩ := hI
      subst hn
      refine .ld (d := 27) (v := (.int .i64 (k_8 : Int))) hs27 ?_
      refine .ld (d := 0) (v := (.slice a0 p0_sizes.length cap0)) hs0 ?_
      refine .ld (d := 7) (v := (.int .i64 n_12)) hs7 ?_
      refine .ld (d := 25) (v := (.slice a0 p0_sizes.length cap0)) hs25 ?_
      refine .ld (d := 26) (v := (.int .i64 (p0_sizes.length : Int))) hs26 ?_
      refine .ld (d := 1000000) (v := (enc [])) hs1000000 ?_
      clear hs27 hs0 hs7 hs25 hs26 hs1000000
      cases l_9 with
      | nil =>
        have hk : ¬ ((k_8 : Int) < (p0_sizes.length : Int)) := by have := List.drop_eq_nil_iff.1 hl; omega
        have hkb := decide_eq_false hk
        rw [m_radix_Count_int32_L2.eq_1] at hm
        refine wseq ?_
        refine wregion ?_
        refine lv (v := (.bool (decide ((k_8 : Int) < (p0_sizes.length : Int))))) rfl rfl (r_lss (k_8 : Int) (p0_sizes.length : Int) rfl rfl) ?_
        refine lnil ?_
        refine wseq ?_
        refine wcondF (congrArg Value.bool hkb) ?_
        refine wexit (inB_hit ?_)
        refine wseq ?_
        refine wregion ?_
        refine lv (v := (.int .i64 n_12)) rfl rfl (r_move rfl) ?_
        refine lv (v := (.int .i64 n_12)) rfl rfl (r_assign rfl) ?_
        refine lv (v := (.int .i64 0)) rfl rfl (r_assign rfl) ?_
        refine lnil ?_
        refine wret ?_
        cases hm
        exact ⟨rfl, rfl, hst.below⟩
      | cons x_13 l_14 =>
        obtain ⟨hat, hl2, hlt⟩ := drop_get hl
        have hk : (k_8 : Int) < (p0_sizes.length : Int) := by omega
        have hkb := decide_eq_true hk
        rw [m_radix_Count_int32_L2.eq_2] at hm
        refine wseq ?_
        refine wregion ?_
        refine lv (v := (.bool (decide ((k_8 : Int) < (p0_sizes.length : Int))))) rfl rfl (r_lss (k_8 : Int) (p0_sizes.length : Int) rfl rfl) ?_
        refine lnil ?_
        refine wseq ?_
        refine wcondT (congrArg Value.bool hkb) ?_
        refine wskip ?_
        refine wseq ?_
        refine wblock ?_
        refine wseq ?_
        refine wregion ?_
        refine lv (v := (sptr a0 (Int.toNat (k_8 : Int) * 1))) rfl rfl (r_idx Try.underlying25 Try.sizeOf21 rfl rfl (at?_some hat).1 (at?_some hat).2.1 (h0.addr hat)) ?_
        refine lv (v := (.int .i32 x_13)) rfl rfl (r_ld Try.isAgg21 rfl (h0.atInt hat)) ?_
        refine lv (v := (.int .i32 x_13)) rfl rfl (r_assign rfl) ?_
        refine lnil ?_
        refine wseq ?_
        refine wseq ?_
        refine wregion ?_
        refine lv (v := (.int .i32 x_13)) rfl rfl (r_move rfl) ?_
        refine lv (v := (.int .i64 (IntKind.i64.wrap x_13))) rfl rfl (r_conv x_13 ⟨_, Try.underlying21⟩ Try.underlying3 rfl) ?_
        refine lv (v := (.int .i64 n_12)) rfl rfl (r_move rfl) ?_
        obtain ⟨h0_15, hm⟩ := chk_some hm
        refine lv (v := (.int .i64 (IntKind.i64.wrap (Int.tdiv 2147483647 n_12)))) rfl rfl (r_quo 2147483647 n_12 rfl rfl h0_15) ?_
        refine lv (v := (.bool (decide ((IntKind.i64.wrap (Int.tdiv 2147483647 n_12)) < (IntKind.i64.wrap x_13))))) rfl rfl (r_gtr (IntKind.i64.wrap x_13) (IntKind.i64.wrap (Int.tdiv 2147483647 n_12)) rfl rfl) ?_
        refine lnil ?_
        refine wcond (decide ((IntKind.i64.wrap (Int.tdiv 2147483647 n_12)) < (IntKind.i64.wrap x_13))) rfl (fun hb => ?_) (fun hb => ?_)
        · rw [if_pos hb] at hm
          clear hb
          refine wseq ?_
          refine wregion ?_
          refine lv (v := (.int .i64 0)) rfl rfl (r_assign rfl) ?_
          refine lv (v := (.int .i64 4)) rfl rfl (r_assign rfl) ?_
          refine lnil ?_
          refine wret ?_
          cases hm
          exact ⟨rfl, rfl, hst.below⟩
        · rw [if_neg (by rw [hb]; decide)] at hm
          clear hb
          refine wskip ?_
          refine wregion ?_
          refine lv (v := (.int .i64 n_12)) rfl rfl (r_move rfl) ?_
          refine lv (v := (.int .i32 x_13)) rfl rfl (r_move rfl) ?_
          refine lv (v := (.int .i64 (IntKind.i64.wrap x_13))) rfl rfl (r_conv x_13 ⟨_, Try.underlying21⟩ Try.underlying3 rfl) ?_
          refine lv (v := (.int .i64 (IntKind.i64.wrap (n_12 * (IntKind.i64.wrap x_13))))) rfl rfl (r_mul n_12 (IntKind.i64.wrap x_13) rfl rfl) ?_
          refine lv (v := (.int .i64 (IntKind.i64.wrap (n_12 * (IntKind.i64.wrap x_13))))) rfl rfl (r_assign rfl) ?_
          refine lnil ?_
          refine wregion ?_
          refine lv (v := (.int .i64 (IntKind.i64.wrap ((k_8 : Int) + 1)))) rfl rfl (r_add (k_8 : Int) 1 rfl rfl) ?_
          refine lv (v := (.int .i64 (IntKind.i64.wrap ((k_8 : Int) + 1)))) rfl rfl (r_move rfl) ?_
          refine lnil ?_
          exact ⟨l_14.length, by simp, ⟨col_11, (IntKind.i64.wrap (n_12 * (IntKind.i64.wrap x_13))), (k_8 + 1), l_14, rfl, hl2, hm, hst, h0, (congrArg (Value.int .i64) (wrap_succ (Nat.lt_of_lt_of_le hlt h0.1.1))), rfl, rfl, rfl, rfl, rfl⟩⟩
  | cons x_6 l_7 =>
    obtain ⟨hat, hl2, hlt⟩ := drop_get hl
    have hk : (k_1 : Int) < (p0_sizes.length : Int) := by omega
    have hkb := decide_eq_true hk
    rw [m_radix_Count_int32_L1.eq_2] at hm
    refine wseq ?_
    refine wregion ?_
    refine lv (v := (.bool (decide ((k_1 : Int) < (p0_sizes.length : Int))))) rfl rfl (r_lss (k_1 : Int) (p0_sizes.length : Int) rfl rfl) ?_
    refine lnil ?_
    refine wseq ?_
    refine wcondT (congrArg Value.bool hkb) ?_
    refine wskip ?_
    refine wseq ?_
    refine Wp.cut (fun f w_16 => ∃ (col_17 : Col) (none_18 : Bool), m_radix_Count_int32_J1 (m_radix_Count_int32_L1 p0_sizes l_7) none_18 = some r ∧ St w0 (col0 col) col_17 w_16 ∧ Sl (Rep.int .i32) col_17 w_16 a0 cap0 p0_sizes ∧ f 0 = (.slice a0 p0_sizes.length cap0) ∧ f 4 = (.bool none_18) ∧ f 10 = (.slice a0 p0_sizes.length cap0) ∧ f 11 = (.int .i64 (p0_sizes.length : Int)) ∧ f 12 = (.int .i64 (k_1 : Int)) ∧ f 1000000 = (enc [])) ?_ ?_
    · intro f w_16 hJ
      obtain ⟨col_17, none_18, hm, hst, h0, hs0, hs4, hs10, hs11, hs12, hs1000000⟩ := hJ
      rw [m_radix_Count_int32_J1.eq_1] at hm
      refine .ld (d := 0) (v := (.slice a0 p0_sizes.length cap0)) hs0 ?_
      refine .ld (d := 4) (v := (.bool none_18)) hs4 ?_
      refine .ld (d := 10) (v := (.slice a0 p0_sizes.length cap0)) hs10 ?_
      refine .ld (d := 11) (v := (.int .i64 (p0_sizes.length : Int))) hs11 ?_
      refine .ld (d := 12) (v := (.int .i64 (k_1 : Int))) hs12 ?_
      refine .ld (d := 1000000) (v := (enc [])) hs1000000 ?_
      clear hs0 hs4 hs10 hs11 hs12 hs1000000
      refine wregion ?_
      refine lv (v := (.int .i64 (IntKind.i64.wrap ((k_1 : Int) + 1)))) rfl rfl (r_add (k_1 : Int) 1 rfl rfl) ?_
      refine lv (v := (.int .i64 (IntKind.i64.wrap ((k_1 : Int) + 1)))) rfl rfl (r_move rfl) ?_
      refine lnil ?_
      exact ⟨l_7.length, by simp, ⟨col_17, none_18, (k_1 + 1), l_7, rfl, hl2, hm, hst, h0, (congrArg (Value.int .i64) (wrap_succ (Nat.lt_of_lt_of_le hlt h0.1.1))), rfl, rfl, rfl, rfl, rfl⟩⟩
    · refine wblock ?_
      refine wseq ?_
      refine wregion ?_
      refine lv (v := (sptr a0 (Int.toNat (k_1 : Int) * 1))) rfl rfl (r_idx Try.underlying25 Try.sizeOf21 rfl rfl (at?_some hat).1 (at?_some hat).2.1 (h0.addr hat)) ?_
      refine lv (v := (.int .i32 x_6)) rfl rfl (r_ld Try.isAgg21 rfl (h0.atInt hat)) ?_
      refine lv (v := (.int .i32 x_6)) rfl rfl (r_assign rfl) ?_
      refine lnil ?_
      refine wseq ?_
      refine wseq ?_
      refine wregion ?_
      refine lv (v := (.int .i32 x_6)) rfl rfl (r_move rfl) ?_
      refine lv (v := (.bool (decide (x_6 < 0)))) rfl rfl (r_lss x_6 0 rfl rfl) ?_
      refine lnil ?_
      refine wcond (decide (x_6 < 0)) rfl (fun hb => ?_) (fun hb => ?_)
      · rw [if_pos hb] at hm
        clear hb
        refine wseq ?_
        refine wregion ?_
        refine lv (v := (.int .i64 0)) rfl rfl (r_assign rfl) ?_
        refine lv (v := (.int .i64 3)) rfl rfl (r_assign rfl) ?_
        refine lnil ?_
        refine wret ?_
        cases hm
        exact ⟨rfl, rfl, hst.below⟩
      · rw [if_neg (by rw [hb]; decide)] at hm
        clear hb
        refine wskip ?_
        refine wregion ?_
        refine lv (v := (.bool none_5)) rfl rfl (r_move rfl) ?_
        refine lv (v := (.bool none_5)) rfl rfl (r_move rfl) ?_
        by_cases hg_19 : none_5 = true
        · rw [if_pos hg_19] at hm
          refine lp (b := none_5) 19 rfl rfl rfl rfl (by rw [hg_19]; rfl) ?_
          refine lp (b := none_5) 19 rfl rfl rfl rfl (by rw [hg_19]; rfl) ?_
          refine lv (v := (.bool true)) rfl rfl (r_pickT (congrArg Value.bool hg_19) rfl) ?_
          refine lv (v := (.bool true)) rfl rfl (r_assign rfl) ?_
          refine lnil ?_
          exact ⟨col_4, true, hm, hst, h0, rfl, rfl, rfl, rfl, rfl, rfl⟩
        · rw [if_neg hg_19] at hm
          replace hg_19 := Bool.eq_false_iff.2 hg_19
          refine lg (b := none_5) 19 rfl rfl rfl (by rw [hg_19]; rfl) ?_
          refine lv (v := (.int .i32 x_6)) rfl rfl (r_move rfl) ?_
          refine lg (b := none_5) 19 rfl rfl rfl (by rw [hg_19]; rfl) ?_
          refine lv (v := (.bool (decide (x_6 = 0)))) rfl rfl (r_eql x_6 0 rfl rfl) ?_
          refine lv (v := (.bool (decide (x_6 = 0)))) rfl rfl (r_pickF (congrArg Value.bool hg_19) rfl) ?_
          refine lv (v := (.bool (decide (x_6 = 0)))) rfl rfl (r_assign rfl) ?_
          refine lnil ?_
          exact ⟨col_4, (decide (x_6 = 0)), hm, hst, h0, rfl, rfl, rfl, rfl, rfl, rfl⟩



theorem el3_30 : ElemOk Try.prog 3 1 8 := ⟨Try.t3, _, rfl, rfl, rfl, rfl, rfl⟩

def m_credencelaw10_plain_int32_L1 (N : Nat) (p0_l : List Int) : Nat → (List Int) → Int → Option (List Int)
  | 0, _, _ => none
  | n_1 + 1, out_6, i_8 => if (decide (i_8 < (p0_l.length : Int))) = true then ((at? p0_l i_8).bind fun e_9 => chk ((out_6.length + [IntKind.i64.wrap e_9].length) * 8 ≤ 140737488355328 ∧ out_6.length + [IntKind.i64.wrap e_9].length ≤ maxLen) ((m_credencelaw10_plain_int32_L1 N p0_l n_1) (out_6 ++ [IntKind.i64.wrap e_9]) (IntKind.i64.wrap (i_8 + 1)))) else (some out_6)

def m_credencelaw10_plain_int32 (N : Nat) (p0_l : List Int) : Option (List Int) :=
  m_credencelaw10_plain_int32_L1 N p0_l N ([] : List Int) 0

set_option maxRecDepth 100000 in
theorem c_credencelaw10_plain_int32 (N : Nat) (c1 : Nat) (col : Col) (w0 : World) (a0 : Option Addr) (cap0 : Nat) (p0_l : List Int) (h0 : Sl (Rep.int .i32) col w0 a0 cap0 p0_l) (r : (List Int)) (hm : m_credencelaw10_plain_int32 N p0_l = some r) :
    Calls Try.prog 30 #[(.slice a0 p0_l.length cap0)] w0 (fun e w' => ∃ (col' : Col) (ra1 : Option Addr) (rc1 : Nat), e = .returned (.slice ra1 r.length rc1) ∧ Grow col w0 col' w' ∧ Own (Rep.int .i64) 3 c1 col' w' ra1 rc1 r) := by
  refine calls_of1 2 (m := 20) (args := [(.slice a0 p0_l.length cap0)]) Try.func30 rfl rfl rfl rfl rfl ?_
  rw [m_credencelaw10_plain_int32.eq_1] at hm
  have hst := St.start col w0
  replace h0 := h0.keep (Stay.start col w0)
  refine wseq ?_
  refine wregion ?_
  refine lv (v := (.slice none (([] : List Int).length) 0)) rfl rfl (r_assign rfl) ?_
  refine lnil ?_
  refine wseq ?_
  refine wregion ?_
  refine lv (v := (.slice none (([] : List Int).length) 0)) rfl rfl (r_assign rfl) ?_
  refine lnil ?_
  refine wseq ?_
  refine wseq ?_
  refine wregion ?_
  refine lv (v := (.int .i64 0)) rfl rfl (r_assign rfl) ?_
  refine lnil ?_
  refine wblock ?_
  refine wloop (fun n f w_2 => ∃ (col_3 : Col) (a_4 : Option Addr) (cap_5 : Nat) (out_6 : List Int) (i_8 : Int) (n_1 : Nat), n_1 = n ∧ m_credencelaw10_plain_int32_L1 N p0_l n_1 out_6 i_8 = some r ∧ St w0 (col0 col) col_3 w_2 ∧ Sl (Rep.int .i32) col_3 w_2 a0 cap0 p0_l ∧ Own (Rep.int .i64) 3 2 col_3 w_2 a_4 cap_5 out_6 ∧ f 0 = (.slice a0 p0_l.length cap0) ∧ f 3 = (.slice a_4 out_6.length cap_5) ∧ f 4 = (.int .i64 i_8) ∧ f 1000000 = (enc [])) N ⟨(col0 col), none, 0, ([] : List Int), 0, N, rfl, hm, hst, h0, Own.nil, rfl, rfl, rfl, rfl⟩ ?_
  clear hm; intro n f w_2 hI
  obtain ⟨col_3, a_4, cap_5, out_6, i_8, n_1, hn, hm, hst, h0, h_7, hs0, hs3, hs4, hs1000000⟩ := hI
  subst hn
  refine .ld (d := 0) (v := (.slice a0 p0_l.length cap0)) hs0 ?_
  refine .ld (d := 3) (v := (.slice a_4 out_6.length cap_5)) hs3 ?_
  refine .ld (d := 4) (v := (.int .i64 i_8)) hs4 ?_
  refine .ld (d := 1000000) (v := (enc [])) hs1000000 ?_
  clear hs0 hs3 hs4 hs1000000
  cases n_1 with
  | zero => rw [m_credencelaw10_plain_int32_L1.eq_1] at hm; cases hm
  | succ n_1 =>
    rw [m_credencelaw10_plain_int32_L1.eq_2] at hm
    refine wseq ?_
    refine wseq ?_
    refine wregion ?_
    refine lv (v := (.int .i64 i_8)) rfl rfl (r_move rfl) ?_
    refine lv (v := (.slice a0 p0_l.length cap0)) rfl rfl (r_move rfl) ?_
    refine lv (v := (.int .i64 (p0_l.length : Int))) rfl rfl (r_len Try.underlying25 rfl) ?_
    refine lv (v := (.bool (decide (i_8 < (p0_l.length : Int))))) rfl rfl (r_lss i_8 (p0_l.length : Int) rfl rfl) ?_
    refine lnil ?_
    refine wcond (decide (i_8 < (p0_l.length : Int))) rfl (fun hb => ?_) (fun hb => ?_)
    · rw [if_pos hb] at hm
      clear hb
      refine wskip ?_
      refine wseq ?_
      refine wblock ?_
      refine wregion ?_
      refine lv (v := (.slice a_4 out_6.length cap_5)) rfl rfl (r_move rfl) ?_
      refine lv (v := (.slice a0 p0_l.length cap0)) rfl rfl (r_move rfl) ?_
      refine lv (v := (.int .i64 i_8)) rfl rfl (r_move rfl) ?_
      obtain ⟨e_9, hj_10, hm⟩ := bind_some hm
      refine lv (v := (sptr a0 (Int.toNat i_8 * 1))) rfl rfl (r_idx Try.underlying25 Try.sizeOf21 rfl rfl (at?_some hj_10).1 (at?_some hj_10).2.1 (h0.addr hj_10)) ?_
      refine lv (v := (.int .i32 e_9)) rfl rfl (r_ld Try.isAgg21 rfl (h0.atInt hj_10)) ?_
      refine lv (v := (.int .i64 (IntKind.i64.wrap e_9))) rfl rfl (r_conv e_9 ⟨_, Try.underlying21⟩ Try.underlying3 rfl) ?_
      refine l_lit (col := col_3) (r := (Rep.int .i64)) (xs := [IntKind.i64.wrap e_9]) [(.int .i64 (IntKind.i64.wrap e_9))] 3 rfl Try.underlying22 el3_30 rfl rfl rfl rfl rfl rfl (by intro v hv; simp only [List.mem_cons, List.not_mem_nil, or_false] at hv; subst hv; rfl) ⟨_, _, rfl, rfl, rfl⟩ ?_
      intro a_11 w_12 col_13 hg_14 h_15
      replace h0 := h0.gr hg_14
      replace h_7 := h_7.gr hg_14
      replace hst := hst.grow hg_14
      replace h0 := h0.froz 3
      replace h_7 := h_7.froz 3 (by decide)
      replace hst := hst.froz 3 (by decide) (by decide)
      replace h_15 := h_15.toSl
      obtain ⟨hb_16, hm⟩ := chk_some hm
      refine l_append (col := (froz 3 col_13)) (w := w_12) (r := (Rep.int .i64)) (c := 2) (xs := out_6) (ys := [IntKind.i64.wrap e_9]) h_7 h_15 rfl Try.underlying22 el3_30 rfl rfl rfl hb_16.1 hb_16.2 (by decide) ?_
      intro a_18 cap_19 w_20 col_21 hk_22 hs_23 h_24
      replace h0 := h0.kp hk_22 (by decide)
      replace h_15 := h_15.kp hk_22 (by decide)
      replace hst := hst.kp hk_22 hs_23 (by decide) (by decide)
      clear h_7
      refine lv (v := (.slice a_18 ((out_6 ++ [IntKind.i64.wrap e_9]).length) cap_19)) rfl rfl (r_assign rfl) ?_
      refine lnil ?_
      refine wregion ?_
      refine lv (v := (.int .i64 i_8)) rfl rfl (r_move rfl) ?_
      refine lv (v := (.int .i64 (IntKind.i64.wrap (i_8 + 1)))) rfl rfl (r_add i_8 1 rfl rfl) ?_
      refine lv (v := (.int .i64 (IntKind.i64.wrap (i_8 + 1)))) rfl rfl (r_assign rfl) ?_
      refine lnil ?_
      exact ⟨n_1, by omega, ⟨col_21, a_18, cap_19, (out_6 ++ [IntKind.i64.wrap e_9]), (IntKind.i64.wrap (i_8 + 1)), n_1, rfl, hm, hst, h0, h_24, rfl, rfl, rfl, rfl⟩⟩
    · rw [if_neg (by rw [hb]; decide)] at hm
      clear hb
      refine wexit (inB_hit ?_)
      refine wseq ?_
      refine wregion ?_
      refine lv (v := (.slice a_4 out_6.length cap_5)) rfl rfl (r_move rfl) ?_
      refine lv (v := (.slice a_4 out_6.length cap_5)) rfl rfl (r_assign rfl) ?_
      refine lnil ?_
      refine wret ?_
      cases hm
      exact ⟨rfl, colF w0.heap.size col col_3 (fun n => bif Nat.beq n 2 then c1 else 0), a_4, cap_5, rfl, hst.fin (fun n => bif Nat.beq n 2 then c1 else 0), hst.finOwn (g := (fun n => bif Nat.beq n 2 then c1 else 0)) rfl h_7 (by decide) (by decide) rfl⟩




def m_radix_At_int32_J1 (p0_sizes : List Int) (at_9 : Int) (k_5 : Nat) (kk_L1 : (Nat → Int → Option (Int × Int))) (x_10 : Int) (v_17 : Bool) : Option (Int × Int) :=
  if v_17 = true then (some (0, 3)) else ((at? p0_sizes (k_5 : Int)).bind fun e_18 => kk_L1 (k_5 + 1) (IntKind.i64.wrap ((IntKind.i64.wrap (at_9 * (IntKind.i64.wrap e_18))) + (IntKind.i64.wrap x_10))))

def m_radix_At_int32_L1 (p0_sizes : List Int) : List Int → Nat → Int → Option (Int × Int)
  | [], k_5, at_9 => some (at_9, 0)
  | x_10 :: l_11, k_5, at_9 => if (decide (x_10 < 0)) = true then (m_radix_At_int32_J1 p0_sizes at_9 k_5 (m_radix_At_int32_L1 p0_sizes l_11) x_10 true) else ((at? p0_sizes (k_5 : Int)).bind fun e_21 => m_radix_At_int32_J1 p0_sizes at_9 k_5 (m_radix_At_int32_L1 p0_sizes l_11) x_10 (decide (e_21 ≤ x_10)))

def m_radix_At_int32 (p0_sizes : List Int) (p1_digits : List Int) : Option (Int × Int) :=
  (m_radix_Count_int32 p0_sizes).bind fun r_1 => if (!decide (r_1.2 = 0)) = true then (some (0, r_1.2)) else (if (!decide ((p1_digits.length : Int) = (p0_sizes.length : Int))) = true then (some (0, 60)) else (m_radix_At_int32_L1 p0_sizes p1_digits 0 0))

set_option maxRecDepth 100000 in
theorem c_radix_At_int32 (col : Col) (w0 : World) (a0 : Option Addr) (cap0 : Nat) (p0_sizes : List Int) (h0 : Sl (Rep.int .i32) col w0 a0 cap0 p0_sizes) (a1 : Option Addr) (cap1 : Nat) (p1_digits : List Int) (h1 : Sl (Rep.int .i32) col w0 a1 cap1 p1_digits) (r : (Int × Int)) (hm : m_radix_At_int32 p0_sizes p1_digits = some r) :
    Calls Try.prog 44 #[(.slice a0 p0_sizes.length cap0), (.slice a1 p1_digits.length cap1)] w0 (fun e w' => e = .returned (.tuple #[.int .i64 r.1, .int .i64 r.2]) ∧ Below w0.heap.size w0 w') := by
  refine calls_of2 4 5 (m := 53) (args := [(.slice a0 p0_sizes.length cap0), (.slice a1 p1_digits.length cap1)]) Try.func44 rfl rfl rfl rfl rfl ?_
  rw [m_radix_At_int32.eq_1] at hm
  have hst := St.start col w0
  replace h0 := h0.keep (Stay.start col w0)
  replace h1 := h1.keep (Stay.start col w0)
  refine wseq ?_
  refine wregion ?_
  refine lv (v := (.int .i64 0)) rfl rfl (r_assign rfl) ?_
  refine lv (v := (.int .i64 0)) rfl rfl (r_assign rfl) ?_
  refine lnil ?_
  refine wseq ?_
  refine wseq ?_
  refine wregion ?_
  refine lv (v := (.slice a0 p0_sizes.length cap0)) rfl rfl (r_move rfl) ?_
  obtain ⟨r_1, hr_2, hm⟩ := bind_some hm
  refine lc rfl rfl (r_call1 Try.call43 rfl) (c_radix_Count_int32 (col0 col) _ a0 cap0 p0_sizes h0 r_1 hr_2) ?_
  rintro _ w_3 ⟨rfl, hg_4⟩
  refine ⟨_, rfl, ?_⟩
  have hg_4 : Grow (col0 col) w0 (col0 col) w_3 := .of_below hg_4
  replace h0 := h0.gr hg_4
  replace h1 := h1.gr hg_4
  replace hst := hst.grow hg_4
  refine lv (v := (.tuple #[(.int .i64 r_1.1), (.int .i64 r_1.2)])) rfl rfl (r_move rfl) ?_
  refine lv (v := (.int .i64 r_1.1)) rfl rfl (r_extract rfl rfl) ?_
  refine lv (v := (.int .i64 r_1.2)) rfl rfl (r_extract rfl rfl) ?_
  refine lv (v := (.int .i64 r_1.1)) rfl rfl (r_assign rfl) ?_
  refine lv (v := (.int .i64 r_1.2)) rfl rfl (r_assign rfl) ?_
  refine lnil ?_
  refine wseq ?_
  refine wregion ?_
  refine lv (v := (.int .i64 r_1.2)) rfl rfl (r_move rfl) ?_
  refine lv (v := (.bool (!decide (r_1.2 = 0)))) rfl rfl (r_neq r_1.2 0 rfl rfl) ?_
  refine lnil ?_
  refine wcond (!decide (r_1.2 = 0)) rfl (fun hb => ?_) (fun hb => ?_)
  · rw [if_pos hb] at hm
    clear hb
    refine wseq ?_
    refine wregion ?_
    refine lv (v := (.int .i64 r_1.2)) rfl rfl (r_move rfl) ?_
    refine lv (v := (.int .i64 0)) rfl rfl (r_assign rfl) ?_
    refine lv (v := (.int .i64 r_1.2)) rfl rfl (r_assign rfl) ?_
    refine lnil ?_
    refine wret ?_
    cases hm
    exact ⟨rfl, rfl, hst.below⟩
  · rw [if_neg (by rw [hb]; decide)] at hm
    clear hb
    refine wskip ?_
    refine wseq ?_
    refine wseq ?_
    refine wregion ?_
    refine lv (v := (.slice a1 p1_digits.length cap1)) rfl rfl (r_move rfl) ?_
    refine lv (v := (.int .i64 (p1_digits.length : Int))) rfl rfl (r_len Try.underlying25 rfl) ?_
    refine lv (v := (.slice a0 p0_sizes.length cap0)) rfl rfl (r_move rfl) ?_
    refine lv (v := (.int .i64 (p0_sizes.length : Int))) rfl rfl (r_len Try.underlying25 rfl) ?_
    refine lv (v := (.bool (!decide ((p1_digits.length : Int) = (p0_sizes.length : Int))))) rfl rfl (r_neq (p1_digits.length : Int) (p0_sizes.length : Int) rfl rfl) ?_
    refine lnil ?_
    refine wcond (!decide ((p1_digits.length : Int) = (p0_sizes.length : Int))) rfl (fun hb => ?_) (fun hb => ?_)
    · rw [if_pos hb] at hm
      clear hb
      refine wseq ?_
      refine wregion ?_
      refine lv (v := (.int .i64 0)) rfl rfl (r_assign rfl) ?_
      refine lv (v := (.int .i64 60)) rfl rfl (r_assign rfl) ?_
      refine lnil ?_
      refine wret ?_
      cases hm
      exact ⟨rfl, rfl, hst.below⟩
    · rw [if_neg (by rw [hb]; decide)] at hm
      clear hb
      refine wskip ?_
      refine wseq ?_
      refine wregion ?_
      refine lv (v := (.int .i64 0)) rfl rfl (r_assign rfl) ?_
      refine lnil ?_
      refine wseq ?_
      refine wseq ?_
      refine wregion ?_
      refine lv (v := (.slice a1 p1_digits.length cap1)) rfl rfl (r_move rfl) ?_
      refine lv (v := (.int .i64 (p1_digits.length : Int))) rfl rfl (r_len Try.underlying25 rfl) ?_
      refine lv (v := (.int .i64 0)) rfl rfl (r_move rfl) ?_
      refine lnil ?_
      refine wblock ?_
      refine wloop (fun n f w_7 => ∃ (col_8 : Col) (at_9 : Int) (k_5 : Nat) (l_6 : List Int), n = l_6.length ∧ p1_digits.drop k_5 = l_6 ∧ m_radix_At_int32_L1 p0_sizes l_6 k_5 at_9 = some r ∧ St w0 (col0 col) col_8 w_7 ∧ Sl (Rep.int .i32) col_8 w_7 a0 cap0 p0_sizes ∧ Sl (Rep.int .i32) col_8 w_7 a1 cap1 p1_digits ∧ f 26 = (.int .i64 (k_5 : Int)) ∧ f 0 = (.slice a0 p0_sizes.length cap0) ∧ f 1 = (.slice a1 p1_digits.length cap1) ∧ f 8 = (.int .i64 at_9) ∧ f 24 = (.slice a1 p1_digits.length cap1) ∧ f 25 = (.int .i64 (p1_digits.length : Int)) ∧ f 1000000 = (enc [])) p1_digits.length ⟨(col0 col), 0, 0, p1_digits, rfl, rfl, hm, hst, h0, h1, rfl, rfl, rfl, rfl, rfl, rfl, rfl⟩ ?_
      clear hm; intro n f w_7 hI
      obtain ⟨col_8, at_9, k_5, l_6, hn, hl, hm, hst, h0, h1, hs26, hs0, hs1, hs8, hs24, hs25, hs1000000⟩ := hI
      subst hn
      refine .ld (d := 26) (v := (.int .i64 (k_5 : Int))) hs26 ?_
      refine .ld (d := 0) (v := (.slice a0 p0_sizes.length cap0)) hs0 ?_
      refine .ld (d := 1) (v := (.slice a1 p1_digits.length cap1)) hs1 ?_
      refine .ld (d := 8) (v := (.int .i64 at_9)) hs8 ?_
      refine .ld (d := 24) (v := (.slice a1 p1_digits.length cap1)) hs24 ?_
      refine .ld (d := 25) (v := (.int .i64 (p1_digits.length : Int))) hs25 ?_
      refine .ld (d := 1000000) (v := (enc [])) hs1000000 ?_
      clear hs26 hs0 hs1 hs8 hs24 hs25 hs1000000
      cases l_6 with
      | nil =>
        have hk : ¬ ((k_5 : Int) < (p1_digits.length : Int)) := by have := List.drop_eq_nil_iff.1 hl; omega
        have hkb := decide_eq_false hk
        rw [m_radix_At_int32_L1.eq_1] at hm
        refine wseq ?_
        refine wregion ?_
        refine lv (v := (.bool (decide ((k_5 : Int) < (p1_digits.length : Int))))) rfl rfl (r_lss (k_5 : Int) (p1_digits.length : Int) rfl rfl) ?_
        refine lnil ?_
        refine wseq ?_
        refine wcondF (congrArg Value.bool hkb) ?_
        refine wexit (inB_hit ?_)
        refine wseq ?_
        refine wregion ?_
        refine lv (v := (.int .i64 at_9)) rfl rfl (r_move rfl) ?_
        refine lv (v := (.int .i64 at_9)) rfl rfl (r_assign rfl) ?_
        refine lv (v := (.int .i64 0)) rfl rfl (r_assign rfl) ?_
        refine lnil ?_
        refine wret ?_
        cases hm
        exact ⟨rfl, rfl, hst.below⟩
      | cons x_10 l_11 =>
        obtain ⟨hat, hl2, hlt⟩ := drop_get hl
        have hk : (k_5 : Int) < (p1_digits.length : Int) := by omega
        have hkb := decide_eq_true hk
        rw [m_radix_At_int32_L1.eq_2] at hm
        refine wseq ?_
        refine wregion ?_
        refine lv (v := (.bool (decide ((k_5 : Int) < (p1_digits.length : Int))))) rfl rfl (r_lss (k_5 : Int) (p1_digits.length : Int) rfl rfl) ?_
        refine lnil ?_
        refine wseq ?_
        refine wcondT (congrArg Value.bool hkb) ?_
        refine wskip ?_
        refine wseq ?_
        refine wblock ?_
        refine wseq ?_
        refine wregion ?_
        refine lv (v := (.int .i64 (k_5 : Int))) rfl rfl (r_move rfl) ?_
        refine lv (v := (sptr a1 (Int.toNat (k_5 : Int) * 1))) rfl rfl (r_idx Try.underlying25 Try.sizeOf21 rfl rfl (at?_some hat).1 (at?_some hat).2.1 (h1.addr hat)) ?_
        refine lv (v := (.int .i32 x_10)) rfl rfl (r_ld Try.isAgg21 rfl (h1.atInt hat)) ?_
        refine lv (v := (.int .i64 (k_5 : Int))) rfl rfl (r_assign rfl) ?_
        refine lv (v := (.int .i32 x_10)) rfl rfl (r_assign rfl) ?_
        refine lnil ?_
        refine wseq ?_
        refine wseq ?_
        refine Wp.cut (fun f w_15 => ∃ (col_16 : Col) (v_17 : Bool), m_radix_At_int32_J1 p0_sizes at_9 k_5 (m_radix_At_int32_L1 p0_sizes l_11) x_10 v_17 = some r ∧ St w0 (col0 col) col_16 w_15 ∧ Sl (Rep.int .i32) col_16 w_15 a0 cap0 p0_sizes ∧ Sl (Rep.int .i32) col_16 w_15 a1 cap1 p1_digits ∧ f 0 = (.slice a0 p0_sizes.length cap0) ∧ f 1 = (.slice a1 p1_digits.length cap1) ∧ f 8 = (.int .i64 at_9) ∧ f 9 = (.int .i64 (k_5 : Int)) ∧ f 10 = (.int .i32 x_10) ∧ f 24 = (.slice a1 p1_digits.length cap1) ∧ f 25 = (.int .i64 (p1_digits.length : Int)) ∧ f 26 = (.int .i64 (k_5 : Int)) ∧ f 40 = (.bool v_17) ∧ f 1000000 = (enc [])) ?_ ?_
        · intro f w_15 hJ
          obtain ⟨col_16, v_17, hm, hst, h0, h1, hs0, hs1, hs8, hs9, hs10, hs24, hs25, hs26, hs40, hs1000000⟩ := hJ
          rw [m_radix_At_int32_J1.eq_1] at hm
          refine .ld (d := 0) (v := (.slice a0 p0_sizes.length cap0)) hs0 ?_
          refine .ld (d := 1) (v := (.slice a1 p1_digits.length cap1)) hs1 ?_
          refine .ld (d := 8) (v := (.int .i64 at_9)) hs8 ?_
          refine .ld (d := 9) (v := (.int .i64 (k_5 : Int))) hs9 ?_
          refine .ld (d := 10) (v := (.int .i32 x_10)) hs10 ?_
          refine .ld (d := 24) (v := (.slice a1 p1_digits.length cap1)) hs24 ?_
          refine .ld (d := 25) (v := (.int .i64 (p1_digits.length : Int))) hs25 ?_
          refine .ld (d := 26) (v := (.int .i64 (k_5 : Int))) hs26 ?_
          refine .ld (d := 40) (v := (.bool v_17)) hs40 ?_
          refine .ld (d := 1000000) (v := (enc [])) hs1000000 ?_
          clear hs0 hs1 hs8 hs9 hs10 hs24 hs25 hs26 hs40 hs1000000
          refine wcond (v_17) rfl (fun hb => ?_) (fun hb => ?_)
          · rw [if_pos hb] at hm
            clear hb
            refine wseq ?_
            refine wregion ?_
            refine lv (v := (.int .i64 0)) rfl rfl (r_assign rfl) ?_
            refine lv (v := (.int .i64 3)) rfl rfl (r_assign rfl) ?_
            refine lnil ?_
            refine wret ?_
            cases hm
            exact ⟨rfl, rfl, hst.below⟩
          · rw [if_neg (by rw [hb]; decide)] at hm
            clear hb
            refine wskip ?_
            refine wregion ?_
            refine lv (v := (.int .i64 at_9)) rfl rfl (r_move rfl) ?_
            refine lv (v := (.slice a0 p0_sizes.length cap0)) rfl rfl (r_move rfl) ?_
            refine lv (v := (.int .i64 (k_5 : Int))) rfl rfl (r_move rfl) ?_
            obtain ⟨e_18, hj_19, hm⟩ := bind_some hm
            refine lv (v := (sptr a0 (Int.toNat (k_5 : Int) * 1))) rfl rfl (r_idx Try.underlying25 Try.sizeOf21 rfl rfl (at?_some hj_19).1 (at?_some hj_19).2.1 (h0.addr hj_19)) ?_
            refine lv (v := (.int .i32 e_18)) rfl rfl (r_ld Try.isAgg21 rfl (h0.atInt hj_19)) ?_
            refine lv (v := (.int .i64 (IntKind.i64.wrap e_18))) rfl rfl (r_conv e_18 ⟨_, Try.underlying21⟩ Try.underlying3 rfl) ?_
            refine lv (v := (.int .i64 (IntKind.i64.wrap (at_9 * (IntKind.i64.wrap e_18))))) rfl rfl (r_mul at_9 (IntKind.i64.wrap e_18) rfl rfl) ?_
            refine lv (v := (.int .i32 x_10)) rfl rfl (r_move rfl) ?_
            refine lv (v := (.int .i64 (IntKind.i64.wrap x_10))) rfl rfl (r_conv x_10 ⟨_, Try.underlying21⟩ Try.underlying3 rfl) ?_
            refine lv (v := (.int .i64 (IntKind.i64.wrap ((IntKind.i64.wrap (at_9 * (IntKind.i64.wrap e_18))) + (IntKind.i64.wrap x_10))))) rfl rfl (r_add (IntKind.i64.wrap (at_9 * (IntKind.i64.wrap e_18))) (IntKind.i64.wrap x_10) rfl rfl) ?_
            refine lv (v := (.int .i64 (IntKind.i64.wrap ((IntKind.i64.wrap (at_9 * (IntKind.i64.wrap e_18))) + (IntKind.i64.wrap x_10))))) rfl rfl (r_assign rfl) ?_
            refine lnil ?_
            refine wregion ?_
            refine lv (v := (.int .i64 (IntKind.i64.wrap ((k_5 : Int) + 1)))) rfl rfl (r_add (k_5 : Int) 1 rfl rfl) ?_
            refine lv (v := (.int .i64 (IntKind.i64.wrap ((k_5 : Int) + 1)))) rfl rfl (r_move rfl) ?_
            refine lnil ?_
            exact ⟨l_11.length, by simp, ⟨col_16, (IntKind.i64.wrap ((IntKind.i64.wrap (at_9 * (IntKind.i64.wrap e_18))) + (IntKind.i64.wrap x_10))), (k_5 + 1), l_11, rfl, hl2, hm, hst, h0, h1, (congrArg (Value.int .i64) (wrap_succ (Nat.lt_of_lt_of_le hlt h1.1.1))), rfl, rfl, rfl, rfl, rfl, rfl⟩⟩
        · refine wregion ?_
          refine lv (v := (.int .i32 x_10)) rfl rfl (r_move rfl) ?_
          refine lv (v := (.bool (decide (x_10 < 0)))) rfl rfl (r_lss x_10 0 rfl rfl) ?_
          refine lv (v := (.bool (decide (x_10 < 0)))) rfl rfl (r_move rfl) ?_
          by_cases hg_20 : (decide (x_10 < 0)) = true
          · rw [if_pos hg_20] at hm
            refine lp (b := decide (x_10 < 0)) 33 rfl rfl rfl rfl (by rw [hg_20]; rfl) ?_
            refine lp (b := decide (x_10 < 0)) 33 rfl rfl rfl rfl (by rw [hg_20]; rfl) ?_
            refine lp (b := decide (x_10 < 0)) 33 rfl rfl rfl rfl (by rw [hg_20]; rfl) ?_
            refine lp (b := decide (x_10 < 0)) 33 rfl rfl rfl rfl (by rw [hg_20]; rfl) ?_
            refine lp (b := decide (x_10 < 0)) 33 rfl rfl rfl rfl (by rw [hg_20]; rfl) ?_
            refine lp (b := decide (x_10 < 0)) 33 rfl rfl rfl rfl (by rw [hg_20]; rfl) ?_
            refine lv (v := (.bool true)) rfl rfl (r_pickT (congrArg Value.bool hg_20) rfl) ?_
            refine lnil ?_
            exact ⟨col_8, true, hm, hst, h0, h1, rfl, rfl, rfl, rfl, rfl, rfl, rfl, rfl, rfl, rfl⟩
          · rw [if_neg hg_20] at hm
            replace hg_20 := Bool.eq_false_iff.2 hg_20
            refine lg (b := decide (x_10 < 0)) 33 rfl rfl rfl (by rw [hg_20]; rfl) ?_
            refine lv (v := (.int .i32 x_10)) rfl rfl (r_move rfl) ?_
            refine lg (b := decide (x_10 < 0)) 33 rfl rfl rfl (by rw [hg_20]; rfl) ?_
            refine lv (v := (.slice a0 p0_sizes.length cap0)) rfl rfl (r_move rfl) ?_
            refine lg (b := decide (x_10 < 0)) 33 rfl rfl rfl (by rw [hg_20]; rfl) ?_
            refine lv (v := (.int .i64 (k_5 : Int))) rfl rfl (r_move rfl) ?_
            refine lg (b := decide (x_10 < 0)) 33 rfl rfl rfl (by rw [hg_20]; rfl) ?_
            obtain ⟨e_21, hj_22, hm⟩ := bind_some hm
            refine lv (v := (sptr a0 (Int.toNat (k_5 : Int) * 1))) rfl rfl (r_idx Try.underlying25 Try.sizeOf21 rfl rfl (at?_some hj_22).1 (at?_some hj_22).2.1 (h0.addr hj_22)) ?_
            refine lg (b := decide (x_10 < 0)) 33 rfl rfl rfl (by rw [hg_20]; rfl) ?_
            refine lv (v := (.int .i32 e_21)) rfl rfl (r_ld Try.isAgg21 rfl (h0.atInt hj_22)) ?_
            refine lg (b := decide (x_10 < 0)) 33 rfl rfl rfl (by rw [hg_20]; rfl) ?_
            refine lv (v := (.bool (decide (e_21 ≤ x_10)))) rfl rfl (r_geq x_10 e_21 rfl rfl) ?_
            refine lv (v := (.bool (decide (e_21 ≤ x_10)))) rfl rfl (r_pickF (congrArg Value.bool hg_20) rfl) ?_
            refine lnil ?_
            exact ⟨col_8, (decide (e_21 ≤ x_10)), hm, hst, h0, h1, rfl, rfl, rfl, rfl, rfl, rfl, rfl, rfl, rfl, rfl⟩




def m_slices_Backward_int32_int32_1_L1 (N : Nat) (v0_v : List Int) : Nat → Int → Option (List (Int × Int))
  | 0, _ => none
  | n_1 + 1, i_4 => if (decide (0 ≤ i_4)) = true then ((at? v0_v i_4).bind fun e_5 => ((m_slices_Backward_int32_int32_1_L1 N v0_v n_1) (IntKind.i64.wrap (i_4 - 1))).bind fun r_7 => some ((i_4, e_5) :: r_7)) else (some [])

def m_slices_Backward_int32_int32_1 (N : Nat) (v0_v : List Int) : Option (List (Int × Int)) :=
  m_slices_Backward_int32_int32_1_L1 N v0_v N (IntKind.i64.wrap ((v0_v.length : Int) - 1))

set_option maxRecDepth 100000 in
theorem c_slices_Backward_int32_int32_1 (N : Nat) (col : Col) (w0 : World) (g0 : Nat) (af0 : Option Addr) (capf0 : Nat) (v0_v : List Int) (hf0 : Sl (Rep.int .i32) col w0 af0 capf0 v0_v) (hb0 : Box 25 450 col w0 g0 #[(.slice af0 v0_v.length capf0)]) (r : List (Int × Int)) (hm : m_slices_Backward_int32_int32_1 N v0_v = some r) :
    Goes Try.prog 59 [(.pointer (some ⟨g0, 0, none⟩))] (fun (y : Int × Int) (col : Col) (w : World) (args : List Value) => args = [.int .i64 y.1, .int .i32 y.2]) r col w0 := by
  intro l J X hjs hxs hy hst
  refine calls_of0 (m := 19) (args := [.func (.yield l) #[] #[], (.pointer (some ⟨g0, 0, none⟩))]) Try.func59 rfl rfl rfl rfl ?_
  rw [m_slices_Backward_int32_int32_1.eq_1] at hm
  refine wseq ?_
  refine wregion ?_
  refine lv (v := (.slice af0 v0_v.length capf0)) rfl rfl (r_ld Try.isAgg25 rfl hb0.at1) ?_
  refine lv (v := (.int .i64 (v0_v.length : Int))) rfl rfl (r_len Try.underlying25 rfl) ?_
  refine lv (v := (.int .i64 (IntKind.i64.wrap ((v0_v.length : Int) - 1)))) rfl rfl (r_sub (v0_v.length : Int) 1 rfl rfl) ?_
  refine lv (v := (.int .i64 (IntKind.i64.wrap ((v0_v.length : Int) - 1)))) rfl rfl (r_assign rfl) ?_
  refine lnil ?_
  refine wblock ?_
  refine wloop (fun n f w_2 => ∃ (col_3 : Col) (r : List (Int × Int)) (i_4 : Int) (n_1 : Nat), n_1 = n ∧ m_slices_Backward_int32_int32_1_L1 N v0_v n_1 i_4 = some r ∧ J r col_3 w_2 ∧ Sl (Rep.int .i32) col_3 w_2 af0 capf0 v0_v ∧ Box 25 450 col_3 w_2 g0 #[(.slice af0 v0_v.length capf0)] ∧ f 0 = (.func (.yield l) #[] #[]) ∧ f 1 = (.pointer (some ⟨g0, 0, none⟩)) ∧ f 3 = (.int .i64 i_4) ∧ f 1000000 = (enc [])) N ⟨col, r, (IntKind.i64.wrap ((v0_v.length : Int) - 1)), N, rfl, hm, hst, hf0, hb0, rfl, rfl, rfl, rfl⟩ ?_
  clear hm; intro n f w_2 hI
  obtain ⟨col_3, r, i_4, n_1, hn, hm, hst, hf0, hb0, hs0, hs1, hs3, hs1000000⟩ := hI
  subst hn
  refine .ld (d := 0) (v := (.func (.yield l) #[] #[])) hs0 ?_
  refine .ld (d := 1) (v := (.pointer (some ⟨g0, 0, none⟩))) hs1 ?_
  refine .ld (d := 3) (v := (.int .i64 i_4)) hs3 ?_
  refine .ld (d := 1000000) (v := (enc [])) hs1000000 ?_
  clear hs0 hs1 hs3 hs1000000
  cases n_1 with
  | zero => rw [m_slices_Backward_int32_int32_1_L1.eq_1] at hm; cases hm
  | succ n_1 =>
    rw [m_slices_Backward_int32_int32_1_L1.eq_2] at hm
    refine wseq ?_
    refine wseq ?_
    refine wregion ?_
    refine lv (v := (.int .i64 i_4)) rfl rfl (r_move rfl) ?_
    refine lv (v := (.bool (decide (0 ≤ i_4)))) rfl rfl (r_geq i_4 0 rfl rfl) ?_
    refine lnil ?_
    refine wcond (decide (0 ≤ i_4)) rfl (fun hb => ?_) (fun hb => ?_)
    · rw [if_pos hb] at hm
      clear hb
      refine wskip ?_
      refine wseq ?_
      refine wblock ?_
      refine wseq ?_
      refine wregion ?_
      refine lv (v := (.func (.yield l) #[] #[])) rfl rfl (r_move rfl) ?_
      refine lv (v := (.int .i64 i_4)) rfl rfl (r_move rfl) ?_
      refine lv (v := (.slice af0 v0_v.length capf0)) rfl rfl (r_ld Try.isAgg25 rfl hb0.at1) ?_
      refine lv (v := (.int .i64 i_4)) rfl rfl (r_move rfl) ?_
      obtain ⟨e_5, hj_6, hm⟩ := bind_some hm
      refine lv (v := (sptr af0 (Int.toNat i_4 * 1))) rfl rfl (r_idx Try.underlying25 Try.sizeOf21 rfl rfl (at?_some hj_6).1 (at?_some hj_6).2.1 (hf0.addr hj_6)) ?_
      refine lv (v := (.int .i32 e_5)) rfl rfl (r_ld Try.isAgg21 rfl (hf0.atInt hj_6)) ?_
      obtain ⟨r_7, hc_8m, hc_8⟩ := bind_some hm
      cases hc_8
      have hm := hc_8m
      clear hc_8m
      refine ly2 rfl rfl rfl rfl (hy _ _ _ _ [(.int .i64 i_4), (.int .i32 e_5)] hst rfl) ?_
      rintro _ w_9 ⟨col_10, hk_11, ⟨rfl, hJ⟩ | ⟨rfl, hX⟩⟩
      · refine ⟨_, rfl, ?_⟩
        clear hst
        replace hb0 := hb0.kpp hk_11 rfl
        replace hf0 := hf0.kpp hk_11 rfl
        have hst := hJ
        clear hJ
        refine lv (v := (.bool false)) rfl rfl (r_not true rfl) ?_
        refine lnil ?_
        refine wcondF rfl ?_
        refine wskip ?_
        refine wregion ?_
        refine lv (v := (.int .i64 i_4)) rfl rfl (r_move rfl) ?_
        refine lv (v := (.int .i64 (IntKind.i64.wrap (i_4 - 1)))) rfl rfl (r_sub i_4 1 rfl rfl) ?_
        refine lv (v := (.int .i64 (IntKind.i64.wrap (i_4 - 1)))) rfl rfl (r_assign rfl) ?_
        refine lnil ?_
        exact ⟨n_1, by omega, ⟨col_10, r_7, (IntKind.i64.wrap (i_4 - 1)), n_1, rfl, hm, hst, hf0, hb0, rfl, rfl, rfl, rfl⟩⟩
      · clear hm
        refine ⟨_, rfl, ?_⟩
        clear hst
        replace hb0 := hb0.kpp hk_11 rfl
        replace hf0 := hf0.kpp hk_11 rfl
        have hst := hX
        clear hX
        refine lv (v := (.bool true)) rfl rfl (r_not false rfl) ?_
        refine lnil ?_
        refine wcondT rfl ?_
        refine wret ?_
        exact ⟨rfl, ⟨_, rfl⟩, _, .inr hst⟩
    · rw [if_neg (by rw [hb]; decide)] at hm
      clear hb
      refine wexit (inB_hit ?_)
      cases hm
      exact ⟨rfl, ⟨_, rfl⟩, _, .inl hst⟩




def m_slices_Backward_int32_int32 (N : Nat) (p0_s : List Int) : Option (List (Int × Int)) :=
  m_slices_Backward_int32_int32_1 N p0_s

set_option maxRecDepth 100000 in
theorem c_slices_Backward_int32_int32 (N : Nat) (col : Col) (w0 : World) (a0 : Option Addr) (cap0 : Nat) (p0_s : List Int) (h0 : Sl (Rep.int .i32) col w0 a0 cap0 p0_s) (r : (List (Int × Int))) (hm : m_slices_Backward_int32_int32 N p0_s = some r) :
    Calls Try.prog 56 #[(.slice a0 p0_s.length cap0)] w0 (fun e w' => ∃ (col' : Col) (rv : Value), e = .returned (rv) ∧ Grow col w0 col' w' ∧ It Try.prog rv (fun (y : Int × Int) (col : Col) (w : World) (args : List Value) => args = [.int .i64 y.1, .int .i32 y.2]) r q0 col' w') := by
  refine calls_of1 2 (m := 4) (args := [(.slice a0 p0_s.length cap0)]) Try.func56 rfl rfl rfl rfl rfl ?_
  rw [m_slices_Backward_int32_int32.eq_1] at hm
  have hst := St.start col w0
  replace h0 := h0.keep (Stay.start col w0)
  refine wseq ?_
  refine wregion ?_
  refine l_box (col := (col0 col)) (v := (.slice a0 p0_s.length cap0)) 1 rfl rfl ?_
  intro g_1 w_2 col_3 hg_4 hb_5
  replace h0 := h0.gr hg_4
  replace hst := hst.grow hg_4
  replace hb_5 : Box 25 1 col_3 w_2 g_1 #[(.slice a0 p0_s.length cap0)] := hb_5
  refine lv (v := _) rfl rfl (r_assign rfl) ?_
  refine lnil ?_
  refine wseq ?_
  refine wregion ?_
  refine lv (v := (.func (.func 59) #[] #[(.pointer (some ⟨g_1, 0, none⟩))])) rfl rfl (r_func1 rfl) ?_
  refine lv (v := (.func (.func 59) #[] #[(.pointer (some ⟨g_1, 0, none⟩))])) rfl rfl (r_assign rfl) ?_
  refine lnil ?_
  refine wret ?_
  have hb_5f := hst.finBox (G := (fun n => bif Nat.beq n 1 then 450 else 0)) hb_5 (by decide) (by decide) (show (fun n => bif Nat.beq n 1 then 450 else 0) 1 = 450 from rfl)
  have h0f := hst.finSl (g := (fun n => bif Nat.beq n 1 then 450 else 0)) rfl h0
  refine ⟨rfl, colF w0.heap.size col col_3 (fun n => bif Nat.beq n 1 then 450 else 0), _, rfl, hst.fin (fun n => bif Nat.beq n 1 then 450 else 0), 59, [(.pointer (some ⟨g_1, 0, none⟩))], rfl, Try.call59, ?_⟩
  intro col9 w9 hs9 hk9
  replace hb_5f := hb_5f.itk hs9 hk9 rfl
  replace h0f := h0f.itk hs9 hk9 rfl
  exact c_slices_Backward_int32_int32_1 N col9 w9 g_1 a0 cap0 p0_s h0f hb_5f r hm


end Go.Proofs.Ytgfaoflipkmpcaa
