/-
  What functions of the program compute, as plain Lean functions (m_..), and proofs that they compute it (c_..). Printed by a program of the author; no conditions.
-/
import Derived.Test.YtgfaoflipkmpcaaRange
import Derived.Test.YtgfaoflipkmpcaaProg
set_option linter.unusedVariables false
namespace Go.Proofs.Ytgfaoflipkmpcaa
open Go Go.RowKit



def m_radix_Count_int_L2  : List Int → Int → Option (Int × Int)
  | [], n_12 => some (n_12, 0)
  | x_13 :: l_14, n_12 => chk (n_12 ≠ 0) (if (decide ((IntKind.i64.wrap (Int.tdiv 2147483647 n_12)) < x_13)) = true then (some (0, 4)) else ((m_radix_Count_int_L2 l_14) (IntKind.i64.wrap (n_12 * x_13))))

def m_radix_Count_int_J1 (kk_L1 : (Bool → Option (Int × Int))) (none_18 : Bool) : Option (Int × Int) :=
  kk_L1 none_18

def m_radix_Count_int_L1 (p0_sizes : List Int) : List Int → Bool → Option (Int × Int)
  | [], none_5 => if none_5 = true then (some (0, 0)) else (m_radix_Count_int_L2 p0_sizes 1)
  | x_6 :: l_7, none_5 => if (decide (x_6 < 0)) = true then (some (0, 3)) else (if none_5 = true then (m_radix_Count_int_J1 (m_radix_Count_int_L1 p0_sizes l_7) true) else (m_radix_Count_int_J1 (m_radix_Count_int_L1 p0_sizes l_7) (decide (x_6 = 0))))

def m_radix_Count_int (p0_sizes : List Int) : Option (Int × Int) :=
  m_radix_Count_int_L1 p0_sizes p0_sizes false

set_option maxRecDepth 100000 in
theorem c_radix_Count_int (col : Col) (w0 : World) (a0 : Option Addr) (cap0 : Nat) (p0_sizes : List Int) (h0 : Sl (Rep.int .i64) col w0 a0 cap0 p0_sizes) (r : (Int × Int)) (hm : m_radix_Count_int p0_sizes = some r) :
    Calls Try.prog 14 #[(.slice a0 p0_sizes.length cap0)] w0 (fun e w' => e = .returned (.tuple #[.int .i64 r.1, .int .i64 r.2]) ∧ Below w0.heap.size w0 w') := by
  refine calls_of2 2 3 (m := 40) (args := [(.slice a0 p0_sizes.length cap0)]) Try.func14 rfl rfl rfl rfl rfl ?_
  rw [m_radix_Count_int.eq_1] at hm
  have hst := St.start col w0
  replace h0 := h0.keep (Stay.start col w0)
  refine wseq ?_
  refine wregion ?_
  refine lv (v := (.int .i64 0)) rfl rfl (r_assign rfl) ?_
  refine lv (v := (.int .i64 0)) rfl rfl (r_assign rfl) ?_
  refine lnil ?_
  refine wseq ?_
  refine wregion ?_
  refine lv (v := (.bool false)) rfl rfl (r_assign rfl) ?_
  refine lnil ?_
  refine wseq ?_
  refine wseq ?_
  refine wregion ?_
  refine lv (v := (.slice a0 p0_sizes.length cap0)) rfl rfl (r_move rfl) ?_
  refine lv (v := (.int .i64 (p0_sizes.length : Int))) rfl rfl (r_len Try.underlying22 rfl) ?_
  refine lv (v := (.int .i64 0)) rfl rfl (r_move rfl) ?_
  refine lnil ?_
  refine wblock ?_
  refine wloop (fun n f w_3 => ∃ (col_4 : Col) (none_5 : Bool) (k_1 : Nat) (l_2 : List Int), n = l_2.length ∧ p0_sizes.drop k_1 = l_2 ∧ m_radix_Count_int_L1 p0_sizes l_2 none_5 = some r ∧ St w0 (col0 col) col_4 w_3 ∧ Sl (Rep.int .i64) col_4 w_3 a0 cap0 p0_sizes ∧ f 12 = (.int .i64 (k_1 : Int)) ∧ f 0 = (.slice a0 p0_sizes.length cap0) ∧ f 4 = (.bool none_5) ∧ f 10 = (.slice a0 p0_sizes.length cap0) ∧ f 11 = (.int .i64 (p0_sizes.length : Int)) ∧ f 1000000 = (enc [])) p0_sizes.length ⟨(col0 col), false, 0, p0_sizes, rfl, rfl, hm, hst, h0, rfl, rfl, rfl, rfl, rfl, rfl⟩ ?_
  clear hm; intro n f w_3 hI
  obtain ⟨col_4, none_5, k_1, l_2, hn, hl, hm, hst, h0, hs12, hs0, hs4, hs10, hs11, hs1000000⟩ := hI
  subst hn
  refine .ld (d := 12) (v := (.int .i64 (k_1 : Int))) hs12 ?_
  refine .ld (d := 0) (v := (.slice a0 p0_sizes.length cap0)) hs0 ?_
  refine .ld (d := 4) (v := (.bool none_5)) hs4 ?_
  refine .ld (d := 10) (v := (.slice a0 p0_sizes.length cap0)) hs10 ?_
  refine .ld (d := 11) (v := (.int .i64 (p0_sizes.length : Int))) hs11 ?_
  refine .ld (d := 1000000) (v := (enc [])) hs1000000 ?_
  clear hs12 hs0 hs4 hs10 hs11 hs1000000
  cases l_2 with
  | nil =>
    have hk : ¬ ((k_1 : Int) < (p0_sizes.length : Int)) := by have := List.drop_eq_nil_iff.1 hl; omega
    have hkb := decide_eq_false hk
    rw [m_radix_Count_int_L1.eq_1] at hm
    refine wseq ?_
    refine wregion ?_
    refine lv (v := (.bool (decide ((k_1 : Int) < (p0_sizes.length : Int))))) rfl rfl (r_lss (k_1 : Int) (p0_sizes.length : Int) rfl rfl) ?_
    refine lnil ?_
    refine wseq ?_
    refine wcondF (congrArg Value.bool hkb) ?_
    refine wexit (inB_hit ?_)
    refine wseq ?_
    refine wseq ?_
    refine wregion ?_
    refine lv (v := (.bool none_5)) rfl rfl (r_move rfl) ?_
    refine lnil ?_
    refine wcond (none_5) rfl (fun hb => ?_) (fun hb => ?_)
    · rw [if_pos hb] at hm
      clear hb
      refine wseq ?_
      refine wregion ?_
      refine lv (v := (.int .i64 0)) rfl rfl (r_assign rfl) ?_
      refine lv (v := (.int .i64 0)) rfl rfl (r_assign rfl) ?_
      refine lnil ?_
      refine wret ?_
      cases hm
      exact ⟨rfl, rfl, hst.below⟩
    · rw [if_neg (by rw [hb]; decide)] at hm
      clear hb
      refine wskip ?_
      refine wseq ?_
      refine wregion ?_
      refine lv (v := (.int .i64 1)) rfl rfl (r_assign rfl) ?_
      refine lnil ?_
      refine wseq ?_
      refine wseq ?_
      refine wregion ?_
      refine lv (v := (.slice a0 p0_sizes.length cap0)) rfl rfl (r_move rfl) ?_
      refine lv (v := (.int .i64 (p0_sizes.length : Int))) rfl rfl (r_len Try.underlying22 rfl) ?_
      refine lv (v := (.int .i64 0)) rfl rfl (r_move rfl) ?_
      refine lnil ?_
      refine wblock ?_
      refine wloop (fun n f w_10 => ∃ (col_11 : Col) (n_12 : Int) (k_8 : Nat) (l_9 : List Int), n = l_9.length ∧ p0_sizes.drop k_8 = l_9 ∧ m_radix_Count_int_L2 l_9 n_12 = some r ∧ St w0 (col0 col) col_11 w_10 ∧ Sl (Rep.int .i64) col_11 w_10 a0 cap0 p0_sizes ∧ f 27 = (.int .i64 (k_8 : Int)) ∧ f 0 = (.slice a0 p0_sizes.length cap0) ∧ f 7 = (.int .i64 n_12) ∧ f 25 = (.slice a0 p0_sizes.length cap0) ∧ f 26 = (.int .i64 (p0_sizes.length : Int)) ∧ f 1000000 = (enc [])) p0_sizes.length ⟨col_4, 1, 0, p0_sizes, rfl, rfl, hm, hst, h0, rfl, rfl, rfl, rfl, rfl, rfl⟩ ?_
      clear hm; intro n f w_10 hI
      obtain ⟨col_11, n_12, k_8, l_9, hn, hl, hm, hst, h0, hs27, hs0, hs7, hs25, hs26, hs1000000⟩ := hI
      subst hn
      refine .ld (d := 27) (v := (.int .i64 (k_8 : Int))) hs27 ?_
      refine .ld (d := 0) (v := (.slice a0 p0_sizes.length cap0)) hs0 ?_
      refine .ld (d := 7) (v := (.int .i64 n_12)) hs7 ?_
      refine .ld (d := 25) (v := (.slice a0 p0_sizes.length cap0)) hs25 ?_
      refine .ld (d := 26) (v := (.int .i64 (p0_sizes.length : Int))) hs26 ?_
      refine .ld (d := 1000000) (v := (enc [])) hs1000000 ?_
      clear hs27 hs0 hs7 hs25 hs26 hs1000000
      cases l_9 with
      | nil =>
        have hk : ¬ ((k_8 : Int) < (p0_sizes.length : Int)) := by have := List.drop_eq_nil_iff.1 hl; omega
        have hkb := decide_eq_false hk
        rw [m_radix_Count_int_L2.eq_1] at hm
        refine wseq ?_
        refine wregion ?_
        refine lv (v := (.bool (decide ((k_8 : Int) < (p0_sizes.length : Int))))) rfl rfl (r_lss (k_8 : Int) (p0_sizes.length : Int) rfl rfl) ?_
        refine lnil ?_
        refine wseq ?_
        refine wcondF (congrArg Value.bool hkb) ?_
        refine wexit (inB_hit ?_)
        refine wseq ?_
        refine wregion ?_
        refine lv (v := (.int .i64 n_12)) rfl rfl (r_move rfl) ?_
        refine lv (v := (.int .i64 n_12)) rfl rfl (r_assign rfl) ?_
        refine lv (v := (.int .i64 0)) rfl rfl (r_assign rfl) ?_
        refine lnil ?_
        refine wret ?_
        cases hm
        exact ⟨rfl, rfl, hst.below⟩
      | cons x_13 l_14 =>
        obtain ⟨hat, hl2, hlt⟩ := drop_get hl
        have hk : (k_8 : Int) < (p0_sizes.length : Int) := by omega
        have hkb := decide_eq_true hk
        rw [m_radix_Count_int_L2.eq_2] at hm
        refine wseq ?_
        refine wregion ?_
        refine lv (v := (.bool (decide ((k_8 : Int) < (p0_sizes.length : Int))))) rfl rfl (r_lss (k_8 : Int) (p0_sizes.length : Int) rfl rfl) ?_
        refine lnil ?_
        refine wseq ?_
        refine wcondT (congrArg Value.bool hkb) ?_
        refine wskip ?_
        refine wseq ?_
        refine wblock ?_
        refine wseq ?_
        refine wregion ?_
        refine lv (v := (sptr a0 (Int.toNat (k_8 : Int) * 1))) rfl rfl (r_idx Try.underlying22 Try.sizeOf3 rfl rfl (at?_some hat).1 (at?_some hat).2.1 (h0.addr hat)) ?_
        refine lv (v := (.int .i64 x_13)) rfl rfl (r_ld Try.isAgg3 rfl (h0.atInt hat)) ?_
        refine lv (v := (.int .i64 x_13)) rfl rfl (r_assign rfl) ?_
        refine lnil ?_
        refine wseq ?_
        refine wseq ?_
        refine wregion ?_
        refine lv (v := (.int .i64 x_13)) rfl rfl (r_move rfl) ?_
        refine lv (v := (.int .i64 n_12)) rfl rfl (r_move rfl) ?_
        obtain ⟨h0_15, hm⟩ := chk_some hm
        refine lv (v := (.int .i64 (IntKind.i64.wrap (Int.tdiv 2147483647 n_12)))) rfl rfl (r_quo 2147483647 n_12 rfl rfl h0_15) ?_
        refine lv (v := (.bool (decide ((IntKind.i64.wrap (Int.tdiv 2147483647 n_12)) < x_13)))) rfl rfl (r_gtr x_13 (IntKind.i64.wrap (Int.tdiv 2147483647 n_12)) rfl rfl) ?_
        refine lnil ?_
        refine wcond (decide ((IntKind.i64.wrap (Int.tdiv 2147483647 n_12)) < x_13)) rfl (fun hb => ?_) (fun hb => ?_)
        · rw [if_pos hb] at hm
          clear hb
          refine wseq ?_
          refine wregion ?_
          refine lv (v := (.int .i64 0)) rfl rfl (r_assign rfl) ?_
          refine lv (v := (.int .i64 4)) rfl rfl (r_assign rfl) ?_
          refine lnil ?_
          refine wret ?_
          cases hm
          exact ⟨rfl, rfl, hst.below⟩
        · rw [if_neg (by rw [hb]; decide)] at hm
          clear hb
          refine wskip ?_
          refine wregion ?_
          refine lv (v := (.int .i64 n_12)) rfl rfl (r_move rfl) ?_
          refine lv (v := (.int .i64 x_13)) rfl rfl (r_move rfl) ?_
          refine lv (v := (.int .i64 (IntKind.i64.wrap (n_12 * x_13)))) rfl rfl (r_mul n_12 x_13 rfl rfl) ?_
          refine lv (v := (.int .i64 (IntKind.i64.wrap (n_12 * x_13)))) rfl rfl (r_assign rfl) ?_
          refine lnil ?_
          refine wregion ?_
          refine lv (v := (.int .i64 (IntKind.i64.wrap ((k_8 : Int) + 1)))) rfl rfl (r_add (k_8 : Int) 1 rfl rfl) ?_
          refine lv (v := (.int .i64 (IntKind.i64.wrap ((k_8 : Int) + 1)))) rfl rfl (r_move rfl) ?_
          refine lnil ?_
          exact ⟨l_14.length, by simp, ⟨col_11, (IntKind.i64.wrap (n_12 * x_13)), (k_8 + 1), l_14, rfl, hl2, hm, hst, h0, (congrArg (Value.int .i64) (wrap_succ (Nat.lt_of_lt_of_le hlt h0.1.1))), rfl, rfl, rfl, rfl, rfl⟩⟩
  | cons x_6 l_7 =>
    obtain ⟨hat, hl2, hlt⟩ := drop_get hl
    have hk : (k_1 : Int) < (p0_sizes.length : Int) := by omega
    have hkb := decide_eq_true hk
    rw [m_radix_Count_int_L1.eq_2] at hm
    refine wseq ?_
    refine wregion ?_
    refine lv (v := (.bool (decide ((k_1 : Int) < (p0_sizes.length : Int))))) rfl rfl (r_lss (k_1 : Int) (p0_sizes.length : Int) rfl rfl) ?_
    refine lnil ?_
    refine wseq ?_
    refine wcondT (congrArg Value.bool hkb) ?_
    refine wskip ?_
    refine wseq ?_
    refine Wp.cut (fun f w_16 => ∃ (col_17 : Col) (none_18 : Bool), m_radix_Count_int_J1 (m_radix_Count_int_L1 p0_sizes l_7) none_18 = some r ∧ St w0 (col0 col) col_17 w_16 ∧ Sl (Rep.int .i64) col_17 w_16 a0 cap0 p0_sizes ∧ f 0 = (.slice a0 p0_sizes.length cap0) ∧ f 4 = (.bool none_18) ∧ f 10 = (.slice a0 p0_sizes.length cap0) ∧ f 11 = (.int .i64 (p0_sizes.length : Int)) ∧ f 12 = (.int .i64 (k_1 : Int)) ∧ f 1000000 = (enc [])) ?_ ?_
    · intro f w_16 hJ
      obtain ⟨col_17, none_18, hm, hst, h0, hs0, hs4, hs10, hs11, hs12, hs1000000⟩ := hJ
      rw [m_radix_Count_int_J1.eq_1] at hm
      refine .ld (d := 0) (v := (.slice a0 p0_sizes.length cap0)) hs0 ?_
      refine .ld (d := 4) (v := (.bool none_18)) hs4 ?_
      refine .ld (d := 10) (v := (.slice a0 p0_sizes.length cap0)) hs10 ?_
      refine .ld (d := 11) (v := (.int .i64 (p0_sizes.length : Int))) hs11 ?_
      refine .ld (d := 12) (v := (.int .i64 (k_1 : Int))) hs12 ?_
      refine .ld (d := 1000000) (v := (enc [])) hs1000000 ?_
      clear hs0 hs4 hs10 hs11 hs12 hs1000000
      refine wregion ?_
      refine lv (v := (.int .i64 (IntKind.i64.wrap ((k_1 : Int) + 1)))) rfl rfl (r_add (k_1 : Int) 1 rfl rfl) ?_
      refine lv (v := (.int .i64 (IntKind.i64.wrap ((k_1 : Int) + 1)))) rfl rfl (r_move rfl) ?_
      refine lnil ?_
      exact ⟨l_7.length, by simp, ⟨col_17, none_18, (k_1 + 1), l_7, rfl, hl2, hm, hst, h0, (congrArg (Value.int .i64) (wrap_succ (Nat.lt_of_lt_of_le hlt h0.1.1))), rfl, rfl, rfl, rfl, rfl⟩⟩
    · refine wblock ?_
      refine wseq ?_
      refine wregion ?_
      refine lv (v := (sptr a0 (Int.toNat (k_1 : Int) * 1))) rfl rfl (r_idx Try.underlying22 Try.sizeOf3 rfl rfl (at?_some hat).1 (at?_some hat).2.1 (h0.addr hat)) ?_
      refine lv (v := (.int .i64 x_6)) rfl rfl (r_ld Try.isAgg3 rfl (h0.atInt hat)) ?_
      refine lv (v := (.int .i64 x_6)) rfl rfl (r_assign rfl) ?_
      refine lnil ?_
      refine wseq ?_
      refine wseq ?_
      refine wregion ?_
      refine lv (v := (.int .i64 x_6)) rfl rfl (r_move rfl) ?_
      refine lv (v := (.bool (decide (x_6 < 0)))) rfl rfl (r_lss x_6 0 rfl rfl) ?_
      refine lnil ?_
      refine wcond (decide (x_6 < 0)) rfl (fun hb => ?_) (fun hb => ?_)
      · rw [if_pos hb] at hm
        clear hb
        refine wseq ?_
        refine wregion ?_
        refine lv (v := (.int .i64 0)) rfl rfl (r_assign rfl) ?_
        refine lv (v := (.int .i64 3)) rfl rfl (r_assign rfl) ?_
        refine lnil ?_
        refine wret ?_
        cases hm
        exact ⟨rfl, rfl, hst.below⟩
      · rw [if_neg (by rw [hb]; decide)] at hm
        clear hb
        refine wskip ?_
        refine wregion ?_
        refine lv (v := (.bool none_5)) rfl rfl (r_move rfl) ?_
        refine lv (v := (.bool none_5)) rfl rfl (r_move rfl) ?_
        by_cases hg_19 : none_5 = true
        · rw [if_pos hg_19] at hm
          refine lp (b := none_5) 19 rfl rfl rfl rfl (by rw [hg_19]; rfl) ?_
          refine lp (b := none_5) 19 rfl rfl rfl rfl (by rw [hg_19]; rfl) ?_
          refine lv (v := (.bool true)) rfl rfl (r_pickT (congrArg Value.bool hg_19) rfl) ?_
          refine lv (v := (.bool true)) rfl rfl (r_assign rfl) ?_
          refine lnil ?_
          exact ⟨col_4, true, hm, hst, h0, rfl, rfl, rfl, rfl, rfl, rfl⟩
        · rw [if_neg hg_19] at hm
          replace hg_19 := Bool.eq_false_iff.2 hg_19
          refine lg (b := none_5) 19 rfl rfl rfl (by rw [hg_19]; rfl) ?_
          refine lv (v := (.int .i64 x_6)) rfl rfl (r_move rfl) ?_
          refine lg (b := none_5) 19 rfl rfl rfl (by rw [hg_19]; rfl) ?_
          refine lv (v := (.bool (decide (x_6 = 0)))) rfl rfl (r_eql x_6 0 rfl rfl) ?_
          refine lv (v := (.bool (decide (x_6 = 0)))) rfl rfl (r_pickF (congrArg Value.bool hg_19) rfl) ?_
          refine lv (v := (.bool (decide (x_6 = 0)))) rfl rfl (r_assign rfl) ?_
          refine lnil ?_
          exact ⟨col_4, (decide (x_6 = 0)), hm, hst, h0, rfl, rfl, rfl, rfl, rfl, rfl⟩




def m_radix_At_int_J1 (p0_sizes : List Int) (at_9 : Int) (k_5 : Nat) (kk_L1 : (Nat → Int → Option (Int × Int))) (x_10 : Int) (v_17 : Bool) : Option (Int × Int) :=
  if v_17 = true then (some (0, 3)) else ((at? p0_sizes (k_5 : Int)).bind fun e_18 => kk_L1 (k_5 + 1) (IntKind.i64.wrap ((IntKind.i64.wrap (at_9 * e_18)) + x_10)))

def m_radix_At_int_L1 (p0_sizes : List Int) : List Int → Nat → Int → Option (Int × Int)
  | [], k_5, at_9 => some (at_9, 0)
  | x_10 :: l_11, k_5, at_9 => if (decide (x_10 < 0)) = true then (m_radix_At_int_J1 p0_sizes at_9 k_5 (m_radix_At_int_L1 p0_sizes l_11) x_10 true) else ((at? p0_sizes (k_5 : Int)).bind fun e_21 => m_radix_At_int_J1 p0_sizes at_9 k_5 (m_radix_At_int_L1 p0_sizes l_11) x_10 (decide (e_21 ≤ x_10)))

def m_radix_At_int (p0_sizes : List Int) (p1_digits : List Int) : Option (Int × Int) :=
  (m_radix_Count_int p0_sizes).bind fun r_1 => if (!decide (r_1.2 = 0)) = true then (some (0, r_1.2)) else (if (!decide ((p1_digits.length : Int) = (p0_sizes.length : Int))) = true then (some (0, 60)) else (m_radix_At_int_L1 p0_sizes p1_digits 0 0))

set_option maxRecDepth 100000 in
theorem c_radix_At_int (col : Col) (w0 : World) (a0 : Option Addr) (cap0 : Nat) (p0_sizes : List Int) (h0 : Sl (Rep.int .i64) col w0 a0 cap0 p0_sizes) (a1 : Option Addr) (cap1 : Nat) (p1_digits : List Int) (h1 : Sl (Rep.int .i64) col w0 a1 cap1 p1_digits) (r : (Int × Int)) (hm : m_radix_At_int p0_sizes p1_digits = some r) :
    Calls Try.prog 16 #[(.slice a0 p0_sizes.length cap0), (.slice a1 p1_digits.length cap1)] w0 (fun e w' => e = .returned (.tuple #[.int .i64 r.1, .int .i64 r.2]) ∧ Below w0.heap.size w0 w') := by
  refine calls_of2 4 5 (m := 51) (args := [(.slice a0 p0_sizes.length cap0), (.slice a1 p1_digits.length cap1)]) Try.func16 rfl rfl rfl rfl rfl ?_
  rw [m_radix_At_int.eq_1] at hm
  have hst := St.start col w0
  replace h0 := h0.keep (Stay.start col w0)
  replace h1 := h1.keep (Stay.start col w0)
  refine wseq ?_
  refine wregion ?_
  refine lv (v := (.int .i64 0)) rfl rfl (r_assign rfl) ?_
  refine lv (v := (.int .i64 0)) rfl rfl (r_assign rfl) ?_
  refine lnil ?_
  refine wseq ?_
  refine wseq ?_
  refine wregion ?_
  refine lv (v := (.slice a0 p0_sizes.length cap0)) rfl rfl (r_move rfl) ?_
  obtain ⟨r_1, hr_2, hm⟩ := bind_some hm
  refine lc rfl rfl (r_call1 Try.call14 rfl) (c_radix_Count_int (col0 col) _ a0 cap0 p0_sizes h0 r_1 hr_2) ?_
  rintro _ w_3 ⟨rfl, hg_4⟩
  refine ⟨_, rfl, ?_⟩
  have hg_4 : Grow (col0 col) w0 (col0 col) w_3 := .of_below hg_4
  replace h0 := h0.gr hg_4
  replace h1 := h1.gr hg_4
  replace hst := hst.grow hg_4
  refine lv (v := (.tuple #[(.int .i64 r_1.1), (.int .i64 r_1.2)])) rfl rfl (r_move rfl) ?_
  refine lv (v := (.int .i64 r_1.1)) rfl rfl (r_extract rfl rfl) ?_
  refine lv (v := (.int .i64 r_1.2)) rfl rfl (r_extract rfl rfl) ?_
  refine lv (v := (.int .i64 r_1.1)) rfl rfl (r_assign rfl) ?_
  refine lv (v := (.int .i64 r_1.2)) rfl rfl (r_assign rfl) ?_
  refine lnil ?_
  refine wseq ?_
  refine wregion ?_
  refine lv (v := (.int .i64 r_1.2)) rfl rfl (r_move rfl) ?_
  refine lv (v := (.bool (!decide (r_1.2 = 0)))) rfl rfl (r_neq r_1.2 0 rfl rfl) ?_
  refine lnil ?_
  refine wcond (!decide (r_1.2 = 0)) rfl (fun hb => ?_) (fun hb => ?_)
  · rw [if_pos hb] at hm
    clear hb
    refine wseq ?_
    refine wregion ?_
    refine lv (v := (.int .i64 r_1.2)) rfl rfl (r_move rfl) ?_
    refine lv (v := (.int .i64 0)) rfl rfl (r_assign rfl) ?_
    refine lv (v := (.int .i64 r_1.2)) rfl rfl (r_assign rfl) ?_
    refine lnil ?_
    refine wret ?_
    cases hm
    exact ⟨rfl, rfl, hst.below⟩
  · rw [if_neg (by rw [hb]; decide)] at hm
    clear hb
    refine wskip ?_
    refine wseq ?_
    refine wseq ?_
    refine wregion ?_
    refine lv (v := (.slice a1 p1_digits.length cap1)) rfl rfl (r_move rfl) ?_
    refine lv (v := (.int .i64 (p1_digits.length : Int))) rfl rfl (r_len Try.underlying22 rfl) ?_
    refine lv (v := (.slice a0 p0_sizes.length cap0)) rfl rfl (r_move rfl) ?_
    refine lv (v := (.int .i64 (p0_sizes.length : Int))) rfl rfl (r_len Try.underlying22 rfl) ?_
    refine lv (v := (.bool (!decide ((p1_digits.length : Int) = (p0_sizes.length : Int))))) rfl rfl (r_neq (p1_digits.length : Int) (p0_sizes.length : Int) rfl rfl) ?_
    refine lnil ?_
    refine wcond (!decide ((p1_digits.length : Int) = (p0_sizes.length : Int))) rfl (fun hb => ?_) (fun hb => ?_)
    · rw [if_pos hb] at hm
      clear hb
      refine wseq ?_
      refine wregion ?_
      refine lv (v := (.int .i64 0)) rfl rfl (r_assign rfl) ?_
      refine lv (v := (.int .i64 60)) rfl rfl (r_assign rfl) ?_
      refine lnil ?_
      refine wret ?_
      cases hm
      exact ⟨rfl, rfl, hst.below⟩
    · rw [if_neg (by rw [hb]; decide)] at hm
      clear hb
      refine wskip ?_
      refine wseq ?_
      refine wregion ?_
      refine lv (v := (.int .i64 0)) rfl rfl (r_assign rfl) ?_
      refine lnil ?_
      refine wseq ?_
      refine wseq ?_
      refine wregion ?_
      refine lv (v := (.slice a1 p1_digits.length cap1)) rfl rfl (r_move rfl) ?_
      refine lv (v := (.int .i64 (p1_digits.length : Int))) rfl rfl (r_len Try.underlying22 rfl) ?_
      refine lv (v := (.int .i64 0)) rfl rfl (r_move rfl) ?_
      refine lnil ?_
      refine wblock ?_
      refine wloop (fun n f w_7 => ∃ (col_8 : Col) (at_9 : Int) (k_5 : Nat) (l_6 : List Int), n = l_6.length ∧ p1_digits.drop k_5 = l_6 ∧ m_radix_At_int_L1 p0_sizes l_6 k_5 at_9 = some r ∧ St w0 (col0 col) col_8 w_7 ∧ Sl (Rep.int .i64) col_8 w_7 a0 cap0 p0_sizes ∧ Sl (Rep.int .i64) col_8 w_7 a1 cap1 p1_digits ∧ f 26 = (.int .i64 (k_5 : Int)) ∧ f 0 = (.slice a0 p0_sizes.length cap0) ∧ f 1 = (.slice a1 p1_digits.length cap1) ∧ f 8 = (.int .i64 at_9) ∧ f 24 = (.slice a1 p1_digits.length cap1) ∧ f 25 = (.int .i64 (p1_digits.length : Int)) ∧ f 1000000 = (enc [])) p1_digits.length ⟨(col0 col), 0, 0, p1_digits, rfl, rfl, hm, hst, h0, h1, rfl, rfl, rfl, rfl, rfl, rfl, rfl⟩ ?_
      clear hm; intro n f w_7 hI
      obtain ⟨col_8, at_9, k_5, l_6, hn, hl, hm, hst, h0, h1, hs26, hs0, hs1, hs8, hs24, hs25, hs1000000⟩ := hI
      subst hn
      refine .ld (d := 26) (v := (.int .i64 (k_5 : Int))) hs26 ?_
      refine .ld (d := 0) (v := (.slice a0 p0_sizes.length cap0)) hs0 ?_
      refine .ld (d := 1) (v := (.slice a1 p1_digits.length cap1)) hs1 ?_
      refine .ld (d := 8) (v := (.int .i64 at_9)) hs8 ?_
      refine .ld (d := 24) (v := (.slice a1 p1_digits.length cap1)) hs24 ?_
      refine .ld (d := 25) (v := (.int .i64 (p1_digits.length : Int))) hs25 ?_
      refine .ld (d := 1000000) (v := (enc [])) hs1000000 ?_
      clear hs26 hs0 hs1 hs8 hs24 hs25 hs1000000
      cases l_6 with
      | nil =>
        have hk : ¬ ((k_5 : Int) < (p1_digits.length : Int)) := by have := List.drop_eq_nil_iff.1 hl; omega
        have hkb := decide_eq_false hk
        rw [m_radix_At_int_L1.eq_1] at hm
        refine wseq ?_
        refine wregion ?_
        refine lv (v := (.bool (decide ((k_5 : Int) < (p1_digits.length : Int))))) rfl rfl (r_lss (k_5 : Int) (p1_digits.length : Int) rfl rfl) ?_
        refine lnil ?_
        refine wseq ?_
        refine wcondF (congrArg Value.bool hkb) ?_
        refine wexit (inB_hit ?_)
        refine wseq ?_
        refine wregion ?_
        refine lv (v := (.int .i64 at_9)) rfl rfl (r_move rfl) ?_
        refine lv (v := (.int .i64 at_9)) rfl rfl (r_assign rfl) ?_
        refine lv (v := (.int .i64 0)) rfl rfl (r_assign rfl) ?_
        refine lnil ?_
        refine wret ?_
        cases hm
        exact ⟨rfl, rfl, hst.below⟩
      | cons x_10 l_11 =>
        obtain ⟨hat, hl2, hlt⟩ := drop_get hl
        have hk : (k_5 : Int) < (p1_digits.length : Int) := by omega
        have hkb := decide_eq_true hk
        rw [m_radix_At_int_L1.eq_2] at hm
        refine wseq ?_
        refine wregion ?_
        refine lv (v := (.bool (decide ((k_5 : Int) < (p1_digits.length : Int))))) rfl rfl (r_lss (k_5 : Int) (p1_digits.length : Int) rfl rfl) ?_
        refine lnil ?_
        refine wseq ?_
        refine wcondT (congrArg Value.bool hkb) ?_
        refine wskip ?_
        refine wseq ?_
        refine wblock ?_
        refine wseq ?_
        refine wregion ?_
        refine lv (v := (.int .i64 (k_5 : Int))) rfl rfl (r_move rfl) ?_
        refine lv (v := (sptr a1 (Int.toNat (k_5 : Int) * 1))) rfl rfl (r_idx Try.underlying22 Try.sizeOf3 rfl rfl (at?_some hat).1 (at?_some hat).2.1 (h1.addr hat)) ?_
        refine lv (v := (.int .i64 x_10)) rfl rfl (r_ld Try.isAgg3 rfl (h1.atInt hat)) ?_
        refine lv (v := (.int .i64 (k_5 : Int))) rfl rfl (r_assign rfl) ?_
        refine lv (v := (.int .i64 x_10)) rfl rfl (r_assign rfl) ?_
        refine lnil ?_
        refine wseq ?_
        refine wseq ?_
        refine Wp.cut (fun f w_15 => ∃ (col_16 : Col) (v_17 : Bool), m_radix_At_int_J1 p0_sizes at_9 k_5 (m_radix_At_int_L1 p0_sizes l_11) x_10 v_17 = some r ∧ St w0 (col0 col) col_16 w_15 ∧ Sl (Rep.int .i64) col_16 w_15 a0 cap0 p0_sizes ∧ Sl (Rep.int .i64) col_16 w_15 a1 cap1 p1_digits ∧ f 0 = (.slice a0 p0_sizes.length cap0) ∧ f 1 = (.slice a1 p1_digits.length cap1) ∧ f 8 = (.int .i64 at_9) ∧ f 9 = (.int .i64 (k_5 : Int)) ∧ f 10 = (.int .i64 x_10) ∧ f 24 = (.slice a1 p1_digits.length cap1) ∧ f 25 = (.int .i64 (p1_digits.length : Int)) ∧ f 26 = (.int .i64 (k_5 : Int)) ∧ f 40 = (.bool v_17) ∧ f 1000000 = (enc [])) ?_ ?_
        · intro f w_15 hJ
          obtain ⟨col_16, v_17, hm, hst, h0, h1, hs0, hs1, hs8, hs9, hs10, hs24, hs25, hs26, hs40, hs1000000⟩ := hJ
          rw [m_radix_At_int_J1.eq_1] at hm
          refine .ld (d := 0) (v := (.slice a0 p0_sizes.length cap0)) hs0 ?_
          refine .ld (d := 1) (v := (.slice a1 p1_digits.length cap1)) hs1 ?_
          refine .ld (d := 8) (v := (.int .i64 at_9)) hs8 ?_
          refine .ld (d := 9) (v := (.int .i64 (k_5 : Int))) hs9 ?_
          refine .ld (d := 10) (v := (.int .i64 x_10)) hs10 ?_
          refine .ld (d := 24) (v := (.slice a1 p1_digits.length cap1)) hs24 ?_
          refine .ld (d := 25) (v := (.int .i64 (p1_digits.length : Int))) hs25 ?_
          refine .ld (d := 26) (v := (.int .i64 (k_5 : Int))) hs26 ?_
          refine .ld (d := 40) (v := (.bool v_17)) hs40 ?_
          refine .ld (d := 1000000) (v := (enc [])) hs1000000 ?_
          clear hs0 hs1 hs8 hs9 hs10 hs24 hs25 hs26 hs40 hs1000000
          refine wcond (v_17) rfl (fun hb => ?_) (fun hb => ?_)
          · rw [if_pos hb] at hm
            clear hb
            refine wseq ?_
            refine wregion ?_
            refine lv (v := (.int .i64 0)) rfl rfl (r_assign rfl) ?_
            refine lv (v := (.int .i64 3)) rfl rfl (r_assign rfl) ?_
            refine lnil ?_
            refine wret ?_
            cases hm
            exact ⟨rfl, rfl, hst.below⟩
          · rw [if_neg (by rw [hb]; decide)] at hm
            clear hb
            refine wskip ?_
            refine wregion ?_
            refine lv (v := (.int .i64 at_9)) rfl rfl (r_move rfl) ?_
            refine lv (v := (.slice a0 p0_sizes.length cap0)) rfl rfl (r_move rfl) ?_
            refine lv (v := (.int .i64 (k_5 : Int))) rfl rfl (r_move rfl) ?_
            obtain ⟨e_18, hj_19, hm⟩ := bind_some hm
            refine lv (v := (sptr a0 (Int.toNat (k_5 : Int) * 1))) rfl rfl (r_idx Try.underlying22 Try.sizeOf3 rfl rfl (at?_some hj_19).1 (at?_some hj_19).2.1 (h0.addr hj_19)) ?_
            refine lv (v := (.int .i64 e_18)) rfl rfl (r_ld Try.isAgg3 rfl (h0.atInt hj_19)) ?_
            refine lv (v := (.int .i64 (IntKind.i64.wrap (at_9 * e_18)))) rfl rfl (r_mul at_9 e_18 rfl rfl) ?_
            refine lv (v := (.int .i64 x_10)) rfl rfl (r_move rfl) ?_
            refine lv (v := (.int .i64 (IntKind.i64.wrap ((IntKind.i64.wrap (at_9 * e_18)) + x_10)))) rfl rfl (r_add (IntKind.i64.wrap (at_9 * e_18)) x_10 rfl rfl) ?_
            refine lv (v := (.int .i64 (IntKind.i64.wrap ((IntKind.i64.wrap (at_9 * e_18)) + x_10)))) rfl rfl (r_assign rfl) ?_
            refine lnil ?_
            refine wregion ?_
            refine lv (v := (.int .i64 (IntKind.i64.wrap ((k_5 : Int) + 1)))) rfl rfl (r_add (k_5 : Int) 1 rfl rfl) ?_
            refine lv (v := (.int .i64 (IntKind.i64.wrap ((k_5 : Int) + 1)))) rfl rfl (r_move rfl) ?_
            refine lnil ?_
            exact ⟨l_11.length, by simp, ⟨col_16, (IntKind.i64.wrap ((IntKind.i64.wrap (at_9 * e_18)) + x_10)), (k_5 + 1), l_11, rfl, hl2, hm, hst, h0, h1, (congrArg (Value.int .i64) (wrap_succ (Nat.lt_of_lt_of_le hlt h1.1.1))), rfl, rfl, rfl, rfl, rfl, rfl⟩⟩
        · refine wregion ?_
          refine lv (v := (.int .i64 x_10)) rfl rfl (r_move rfl) ?_
          refine lv (v := (.bool (decide (x_10 < 0)))) rfl rfl (r_lss x_10 0 rfl rfl) ?_
          refine lv (v := (.bool (decide (x_10 < 0)))) rfl rfl (r_move rfl) ?_
          by_cases hg_20 : (decide (x_10 < 0)) = true
          · rw [if_pos hg_20] at hm
            refine lp (b := decide (x_10 < 0)) 33 rfl rfl rfl rfl (by rw [hg_20]; rfl) ?_
            refine lp (b := decide (x_10 < 0)) 33 rfl rfl rfl rfl (by rw [hg_20]; rfl) ?_
            refine lp (b := decide (x_10 < 0)) 33 rfl rfl rfl rfl (by rw [hg_20]; rfl) ?_
            refine lp (b := decide (x_10 < 0)) 33 rfl rfl rfl rfl (by rw [hg_20]; rfl) ?_
            refine lp (b := decide (x_10 < 0)) 33 rfl rfl rfl rfl (by rw [hg_20]; rfl) ?_
            refine lp (b := decide (x_10 < 0)) 33 rfl rfl rfl rfl (by rw [hg_20]; rfl) ?_
            refine lv (v := (.bool true)) rfl rfl (r_pickT (congrArg Value.bool hg_20) rfl) ?_
            refine lnil ?_
            exact ⟨col_8, true, hm, hst, h0, h1, rfl, rfl, rfl, rfl, rfl, rfl, rfl, rfl, rfl, rfl⟩
          · rw [if_neg hg_20] at hm
            replace hg_20 := Bool.eq_false_iff.2 hg_20
            refine lg (b := decide (x_10 < 0)) 33 rfl rfl rfl (by rw [hg_20]; rfl) ?_
            refine lv (v := (.int .i64 x_10)) rfl rfl (r_move rfl) ?_
            refine lg (b := decide (x_10 < 0)) 33 rfl rfl rfl (by rw [hg_20]; rfl) ?_
            refine lv (v := (.slice a0 p0_sizes.length cap0)) rfl rfl (r_move rfl) ?_
            refine lg (b := decide (x_10 < 0)) 33 rfl rfl rfl (by rw [hg_20]; rfl) ?_
            refine lv (v := (.int .i64 (k_5 : Int))) rfl rfl (r_move rfl) ?_
            refine lg (b := decide (x_10 < 0)) 33 rfl rfl rfl (by rw [hg_20]; rfl) ?_
            obtain ⟨e_21, hj_22, hm⟩ := bind_some hm
            refine lv (v := (sptr a0 (Int.toNat (k_5 : Int) * 1))) rfl rfl (r_idx Try.underlying22 Try.sizeOf3 rfl rfl (at?_some hj_22).1 (at?_some hj_22).2.1 (h0.addr hj_22)) ?_
            refine lg (b := decide (x_10 < 0)) 33 rfl rfl rfl (by rw [hg_20]; rfl) ?_
            refine lv (v := (.int .i64 e_21)) rfl rfl (r_ld Try.isAgg3 rfl (h0.atInt hj_22)) ?_
            refine lg (b := decide (x_10 < 0)) 33 rfl rfl rfl (by rw [hg_20]; rfl) ?_
            refine lv (v := (.bool (decide (e_21 ≤ x_10)))) rfl rfl (r_geq x_10 e_21 rfl rfl) ?_
            refine lv (v := (.bool (decide (e_21 ≤ x_10)))) rfl rfl (r_pickF (congrArg Value.bool hg_20) rfl) ?_
            refine lnil ?_
            exact ⟨col_8, (decide (e_21 ≤ x_10)), hm, hst, h0, h1, rfl, rfl, rfl, rfl, rfl, rfl, rfl, rfl, rfl, rfl⟩




def m_radix_Count_int32_L2  : List Int → Int → Option (Int × Int)
  | [], n_12 => some (n_12, 0)
  | x_13 :: l_14, n_12 => chk (n_12 ≠ 0) (if (decide ((IntKind.i64.wrap (Int.tdiv 2147483647 n_12)) < (IntKind.i64.wrap x_13))) = true then (some (0, 4)) else ((m_radix_Count_int32_L2 l_14) (IntKind.i64.wrap (n_12 * (IntKind.i64.wrap x_13)))))

def m_radix_Count_int32_J1 (kk_L1 : (Bool → Option (Int × Int))) (none_18 : Bool) : Option (Int × Int) :=
  kk_L1 none_18

def m_radix_Count_int32_L1 (p0_sizes : List Int) : List Int → Bool → Option (Int × Int)
  | [], none_5 => if none_5 = true then (some (0, 0)) else (m_radix_Count_int32_L2 p0_sizes 1)
  | x_6 :: l_7, none_5 => if (decide (x_6 < 0)) = true then (some (0, 3)) else (if none_5 = true then (m_radix_Count_int32_J1 (m_radix_Count_int32_L1 p0_sizes l_7) true) else (m_radix_Count_int32_J1 (m_radix_Count_int32_L1 p0_sizes l_7) (decide (x_6 = 0))))

def m_radix_Count_int32 (p0_sizes : List Int) : Option (Int × Int) :=
  m_radix_Count_int32_L1 p0_sizes p0_sizes false

set_option maxRecDepth 100000 in
theorem c_radix_Count_int32 (col : Col) (w0 : World) (a0 : Option Addr) (cap0 : Nat) (p0_sizes : List Int) (h0 : Sl (Rep.int .i32) col w0 a0 cap0 p0_sizes) (r : (Int × Int)) (hm : m_radix_Count_int32 p0_sizes = some r) :
    Calls Try.prog 43 #[(.slice a0 p0_sizes.length cap0)] w0 (fun e w' => e = .returned (.tuple #[.int .i64 r.1, .int .i64 r.2]) ∧ Below w0.heap.size w0 w') := by
  refine calls_of2 2 3 (m := 42) (args := [(.slice a0 p0_sizes.length cap0)]) Try.func43 rfl rfl rfl rfl rfl ?_
  rw [m_radix_Count_int32.eq_1] at hm
  have hst := St.start col w0
  replace h0 := h0.keep (Stay.start col w0)
  refine wseq ?_
  refine wregion ?_
  refine lv (v := (.int .i64 0)) rfl rfl (r_assign rfl) ?_
  refine lv (v := (.int .i64 0)) rfl rfl (r_assign rfl) ?_
  refine lnil ?_
  refine wseq ?_
  refine wregion ?_
  refine lv (v := (.bool false)) rfl rfl (r_assign rfl) ?_
  refine lnil ?_
  refine wseq ?_
  refine wseq ?_
  refine wregion ?_
  refine lv (v := (.slice a0 p0_sizes.length cap0)) rfl rfl (r_move rfl) ?_
  refine lv (v := (.int .i64 (p0_sizes.length : Int))) rfl rfl (r_len Try.underlying25 rfl) ?_
  refine lv (v := (.int .i64 0)) rfl rfl (r_move rfl) ?_
  refine lnil ?_
  refine wblock ?_
  refine wloop (fun n f w_3 => ∃ (col_4 : Col) (none_5 : Bool) (k_1 : Nat) (l_2 : List Int), n = l_2.length ∧ p0_sizes.drop k_1 = l_2 ∧ m_radix_Count_int32_L1 p0_sizes l_2 none_5 = some r ∧ St w0 (col0 col) col_4 w_3 ∧ Sl (Rep.int .i32) col_4 w_3 a0 cap0 p0_sizes ∧ f 12 = (.int .i64 (k_1 : Int)) ∧ f 0 = (.slice a0 p0_sizes.length cap0) ∧ f 4 = (.bool none_5) ∧ f 10 = (.slice a0 p0_sizes.length cap0) ∧ f 11 = (.int .i64 (p0_sizes.length : Int)) ∧ f 1000000 = (enc [])) p0_sizes.length ⟨(col0 col), false, 0, p0_sizes, rfl, rfl, hm, hst, h0, rfl, rfl, rfl, rfl, rfl, rfl⟩ ?_
  clear hm; intro n f w_3 hI
  obtain ⟨col_4, none_5, k_1, l_2, hn, hl, hm, hst, h0, hs12, hs0, hs4, hs10, hs11, hs1000000⟩ := hI
  subst hn
  refine .ld (d := 12) (v := (.int .i64 (k_1 : Int))) hs12 ?_
  refine .ld (d := 0) (v := (.slice a0 p0_sizes.length cap0)) hs0 ?_
  refine .ld (d := 4) (v := (.bool none_5)) hs4 ?_
  refine .ld (d := 10) (v := (.slice a0 p0_sizes.length cap0)) hs10 ?_
  refine .ld (d := 11) (v := (.int .i64 (p0_sizes.length : Int))) hs11 ?_
  refine .ld (d := 1000000) (v := (enc [])) hs1000000 ?_
  clear hs12 hs0 hs4 hs10 hs11 hs1000000
  cases l_2 with
  | nil =>
    have hk : ¬ ((k_1 : Int) < (p0_sizes.length : Int)) := by have := List.drop_eq_nil_iff.1 hl; omega
    have hkb := decide_eq_false hk
    rw [m_radix_Count_int32_L1.eq_1] at hm
    refine wseq ?_
    refine wregion ?_
    refine lv (v := (.bool (decide ((k_1 : Int) < (p0_sizes.length : Int))))) rfl rfl (r_lss (k_1 : Int) (p0_sizes.length : Int) rfl rfl) ?_
    refine lnil ?_
    refine wseq ?_
    refine wcondF (congrArg Value.bool hkb) ?_
    refine wexit (inB_hit ?_)
    refine wseq ?_
    refine wseq ?_
    refine wregion ?_
    refine lv (v := (.bool none_5)) rfl rfl (r_move rfl) ?_
    refine lnil ?_
    refine wcond (none_5) rfl (fun hb => ?_) (fun hb => ?_)
    · rw [if_pos hb] at hm
      clear hb
      refine wseq ?_
      refine wregion ?_
      refine lv (v := (.int .i64 0)) rfl rfl (r_assign rfl) ?_
      refine lv (v := (.int .i64 0)) rfl rfl (r_assign rfl) ?_
      refine lnil ?_
      refine wret ?_
      cases hm
      exact ⟨rfl, rfl, hst.below⟩
    · rw [if_neg (by rw [hb]; decide)] at hm
      clear hb
      refine wskip ?_
      refine wseq ?_
      refine wregion ?_
      refine lv (v := (.int .i64 1)) rfl rfl (r_assign rfl) ?_
      refine lnil ?_
      refine wseq ?_
      refine wseq ?_
      refine wregion ?_
      refine lv (v := (.slice a0 p0_sizes.length cap0)) rfl rfl (r_move rfl) ?_
      refine lv (v := (.int .i64 (p0_sizes.length : Int))) rfl rfl (r_len Try.underlying25 rfl) ?_
      refine lv (v := (.int .i64 0)) rfl rfl (r_move rfl) ?_
      refine lnil ?_
      refine wblock ?_
      refine wloop (fun n f w_10 => ∃ (col_11 : Col) (n_12 : Int) (k_8 : Nat) (l_9 : List Int), n = l_9.length ∧ p0_sizes.drop k_8 = l_9 ∧ m_radix_Count_int32_L2 l_9 n_12 = some r ∧ St w0 (col0 col) col_11 w_10 ∧ Sl (Rep.int .i32) col_11 w_10 a0 cap0 p0_sizes ∧ f 27 = (.int .i64 (k_8 : Int)) ∧ f 0 = (.slice a0 p0_sizes.length cap0) ∧ f 7 = (.int .i64 n_12) ∧ f 25 = (.slice a0 p0_sizes.length cap0) ∧ f 26 = (.int .i64 (p0_sizes.length : Int)) ∧ f 1000000 = (enc [])) p0_sizes.length ⟨col_4, 1, 0, p0_sizes, rfl, rfl, hm, hst, h0, rfl, rfl, rfl, rfl, rfl, rfl⟩ ?_
      clear hm; intro n f w_10 hI
      obtain ⟨col_11, n_12, k_8, l_9, hn, hl, hm, hst, h0, hs27, hs0, hs7, hs25, hs26, hs1000000⟩ := hI
      subst hn
      refine .ld (d := 27) (v := (.int .i64 (k_8 : Int))) hs27 ?_
      refine .ld (d := 0) (v := (.slice a0 p0_sizes.length cap0)) hs0 ?_
      refine .ld (d := 7) (v := (.int .i64 n_12)) hs7 ?_
      refine .ld (d := 25) (v := (.slice a0 p0_sizes.length cap0)) hs25 ?_
      refine .ld (d := 26) (v := (.int .i64 (p0_sizes.length : Int))) hs26 ?_
      refine .ld (d := 1000000) (v := (enc [])) hs1000000 ?_
      clear hs27 hs0 hs7 hs25 hs26 hs1000000
      cases l_9 with
      | nil =>
        have hk : ¬ ((k_8 : Int) < (p0_sizes.length : Int)) := by have := List.drop_eq_nil_iff.1 hl; omega
        have hkb := decide_eq_false hk
        rw [m_radix_Count_int32_L2.eq_1] at hm
        refine wseq ?_
        refine wregion ?_
        refine lv (v := (.bool (decide ((k_8 : Int) < (p0_sizes.length : Int))))) rfl rfl (r_lss (k_8 : Int) (p0_sizes.length : Int) rfl rfl) ?_
        refine lnil ?_
        refine wseq ?_
        refine wcondF (congrArg Value.bool hkb) ?_
        refine wexit (inB_hit ?_)
        refine wseq ?_
        refine wregion ?_
        refine lv (v := (.int .i64 n_12)) rfl rfl (r_move rfl) ?_
        refine lv (v := (.int .i64 n_12)) rfl rfl (r_assign rfl) ?_
        refine lv (v := (.int .i64 0)) rfl rfl (r_assign rfl) ?_
        refine lnil ?_
        refine wret ?_
        cases hm
        exact ⟨rfl, rfl, hst.below⟩
      | cons x_13 l_14 =>
        obtain ⟨hat, hl2, hlt⟩ := drop_get hl
        have hk : (k_8 : Int) < (p0_sizes.length : Int) := by omega
        have hkb := decide_eq_true hk
        rw [m_radix_Count_int32_L2.eq_2] at hm
        refine wseq ?_
        refine wregion ?_
        refine lv (v := (.bool (decide ((k_8 : Int) < (p0_sizes.length : Int))))) rfl rfl (r_lss (k_8 : Int) (p0_sizes.length : Int) rfl rfl) ?_
        refine lnil ?_
        refine wseq ?_
        refine wcondT (congrArg Value.bool hkb) ?_
        refine wskip ?_
        refine wseq ?_
        refine wblock ?_
        refine wseq ?_
        refine wregion ?_
        refine lv (v := (sptr a0 (Int.toNat (k_8 : Int) * 1))) rfl rfl (r_idx Try.underlying25 Try.sizeOf21 rfl rfl (at?_some hat).1 (at?_some hat).2.1 (h0.addr hat)) ?_
        refine lv (v := (.int .i32 x_13)) rfl rfl (r_ld Try.isAgg21 rfl (h0.atInt hat)) ?_
        refine lv (v := (.int .i32 x_13)) rfl rfl (r_assign rfl) ?_
        refine lnil ?_
        refine wseq ?_
        refine wseq ?_
        refine wregion ?_
        refine lv (v := (.int .i32 x_13)) rfl rfl (r_move rfl) ?_
        refine lv (v := (.int .i64 (IntKind.i64.wrap x_13))) rfl rfl (r_conv x_13 ⟨_, Try.underlying21⟩ Try.underlying3 rfl) ?_
        refine lv (v := (.int .i64 n_12)) rfl rfl (r_move rfl) ?_
        obtain ⟨h0_15, hm⟩ := chk_some hm
        refine lv (v := (.int .i64 (IntKind.i64.wrap (Int.tdiv 2147483647 n_12)))) rfl rfl (r_quo 2147483647 n_12 rfl rfl h0_15) ?_
        refine lv (v := (.bool (decide ((IntKind.i64.wrap (Int.tdiv 2147483647 n_12)) < (IntKind.i64.wrap x_13))))) rfl rfl (r_gtr (IntKind.i64.wrap x_13) (IntKind.i64.wrap (Int.tdiv 2147483647 n_12)) rfl rfl) ?_
        refine lnil ?_
        refine wcond (decide ((IntKind.i64.wrap (Int.tdiv 2147483647 n_12)) < (IntKind.i64.wrap x_13))) rfl (fun hb => ?_) (fun hb => ?_)
        · rw [if_pos hb] at hm
          clear hb
          refine wseq ?_
          refine wregion ?_
          refine lv (v := (.int .i64 0)) rfl rfl (r_assign rfl) ?_
          refine lv (v := (.int .i64 4)) rfl rfl (r_assign rfl) ?_
          refine lnil ?_
          refine wret ?_
          cases hm
          exact ⟨rfl, rfl, hst.below⟩
        · rw [if_neg (by rw [hb]; decide)] at hm
          clear hb
          refine wskip ?_
          refine wregion ?_
          refine lv (v := (.int .i64 n_12)) rfl rfl (r_move rfl) ?_
          refine lv (v := (.int .i32 x_13)) rfl rfl (r_move rfl) ?_
          refine lv (v := (.int .i64 (IntKind.i64.wrap x_13))) rfl rfl (r_conv x_13 ⟨_, Try.underlying21⟩ Try.underlying3 rfl) ?_
          refine lv (v := (.int .i64 (IntKind.i64.wrap (n_12 * (IntKind.i64.wrap x_13))))) rfl rfl (r_mul n_12 (IntKind.i64.wrap x_13) rfl rfl) ?_
          refine lv (v := (.int .i64 (IntKind.i64.wrap (n_12 * (IntKind.i64.wrap x_13))))) rfl rfl (r_assign rfl) ?_
          refine lnil ?_
          refine wregion ?_
          refine lv (v := (.int .i64 (IntKind.i64.wrap ((k_8 : Int) + 1)))) rfl rfl (r_add (k_8 : Int) 1 rfl rfl) ?_
          refine lv (v := (.int .i64 (IntKind.i64.wrap ((k_8 : Int) + 1)))) rfl rfl (r_move rfl) ?_
          refine lnil ?_
          exact ⟨l_14.length, by simp, ⟨col_11, (IntKind.i64.wrap (n_12 * (IntKind.i64.wrap x_13))), (k_8 + 1), l_14, rfl, hl2, hm, hst, h0, (congrArg (Value.int .i64) (wrap_succ (Nat.lt_of_lt_of_le hlt h0.1.1))), rfl, rfl, rfl, rfl, rfl⟩⟩
  | cons x_6 l_7 =>
    obtain ⟨hat, hl2, hlt⟩ := drop_get hl
    have hk : (k_1 : Int) < (p0_sizes.length : Int) := by omega
    have hkb := decide_eq_true hk
    rw [m_radix_Count_int32_L1.eq_2] at hm
    refine wseq ?_
    refine wregion ?_
    refine lv (v := (.bool (decide ((k_1 : Int) < (p0_sizes.length : Int))))) rfl rfl (r_lss (k_1 : Int) (p0_sizes.length : Int) rfl rfl) ?_
    refine lnil ?_
    refine wseq ?_
    refine wcondT (congrArg Value.bool hkb) ?_
    refine wskip ?_
    refine wseq ?_
    refine Wp.cut (fun f w_16 => ∃ (col_17 : Col) (none_18 : Bool), m_radix_Count_int32_J1 (m_radix_Count_int32_L1 p0_sizes l_7) none_18 = some r ∧ St w0 (col0 col) col_17 w_16 ∧ Sl (Rep.int .i32) col_17 w_16 a0 cap0 p0_sizes ∧ f 0 = (.slice a0 p0_sizes.length cap0) ∧ f 4 = (.bool none_18) ∧ f 10 = (.slice a0 p0_sizes.length cap0) ∧ f 11 = (.int .i64 (p0_sizes.length : Int)) ∧ f 12 = (.int .i64 (k_1 : Int)) ∧ f 1000000 = (enc [])) ?_ ?_
    · intro f w_16 hJ
      obtain ⟨col_17, none_18, hm, hst, h0, hs0, hs4, hs10, hs11, hs12, hs1000000⟩ := hJ
      rw [m_radix_Count_int32_J1.eq_1] at hm
      refine .ld (d := 0) (v := (.slice a0 p0_sizes.length cap0)) hs0 ?_
      refine .ld (d := 4) (v := (.bool none_18)) hs4 ?_
      refine .ld (d := 10) (v := (.slice a0 p0_sizes.length cap0)) hs10 ?_
      refine .ld (d := 11) (v := (.int .i64 (p0_sizes.length : Int))) hs11 ?_
      refine .ld (d := 12) (v := (.int .i64 (k_1 : Int))) hs12 ?_
      refine .ld (d := 1000000) (v := (enc [])) hs1000000 ?_
      clear hs0 hs4 hs10 hs11 hs12 hs1000000
      refine wregion ?_
      refine lv (v := (.int .i64 (IntKind.i64.wrap ((k_1 : Int) + 1)))) rfl rfl (r_add (k_1 : Int) 1 rfl rfl) ?_
      refine lv (v := (.int .i64 (IntKind.i64.wrap ((k_1 : Int) + 1)))) rfl rfl (r_move rfl) ?_
      refine lnil ?_
      exact ⟨l_7.length, by simp, ⟨col_17, none_18, (k_1 + 1), l_7, rfl, hl2, hm, hst, h0, (congrArg (Value.int .i64) (wrap_succ (Nat.lt_of_lt_of_le hlt h0.1.1))), rfl, rfl, rfl, rfl, rfl⟩⟩
    · refine wblock ?_
      refine wseq ?_
      refine wregion ?_
      refine lv (v := (sptr a0 (Int.toNat (k_1 : Int) * 1))) rfl rfl (r_idx Try.underlying25 Try.sizeOf21 rfl rfl (at?_some hat).1 (at?_some hat).2.1 (h0.addr hat)) ?_
      refine lv (v := (.int .i32 x_6)) rfl rfl (r_ld Try.isAgg21 rfl (h0.atInt hat)) ?_
      refine lv (v := (.int .i32 x_6)) rfl rfl (r_assign rfl) ?_
      refine lnil ?_
      refine wseq ?_
      refine wseq ?_
      refine wregion ?_
      refine lv (v := (.int .i32 x_6)) rfl rfl (r_move rfl) ?_
      refine lv (v := (.bool (decide (x_6 < 0)))) rfl rfl (r_lss x_6 0 rfl rfl) ?_
      refine lnil ?_
      refine wcond (decide (x_6 < 0)) rfl (fun hb => ?_) (fun hb => ?_)
      · rw [if_pos hb] at hm
        clear hb
        refine wseq ?_
        refine wregion ?_
        refine lv (v := (.int .i64 0)) rfl rfl (r_assign rfl) ?_
        refine lv (v := (.int .i64 3)) rfl rfl (r_assign rfl) ?_
        refine lnil ?_
        refine wret ?_
        cases hm
        exact ⟨rfl, rfl, hst.below⟩
      · rw [if_neg (by rw [hb]; decide)] at hm
        clear hb
        refine wskip ?_
        refine wregion ?_
        refine lv (v := (.bool none_5)) rfl rfl (r_move rfl) ?_
        refine lv (v := (.bool none_5)) rfl rfl (r_move rfl) ?_
        by_cases hg_19 : none_5 = true
        · rw [if_pos hg_19] at hm
          refine lp (b := none_5) 19 rfl rfl rfl rfl (by rw [hg_19]; rfl) ?_
          refine lp (b := none_5) 19 rfl rfl rfl rfl (by rw [hg_19]; rfl) ?_
          refine lv (v := (.bool true)) rfl rfl (r_pickT (congrArg Value.bool hg_19) rfl) ?_
          refine lv (v := (.bool true)) rfl rfl (r_assign rfl) ?_
          refine lnil ?_
          exact ⟨col_4, true, hm, hst, h0, rfl, rfl, rfl, rfl, rfl, rfl⟩
        · rw [if_neg hg_19] at hm
          replace hg_19 := Bool.eq_false_iff.2 hg_19
          refine lg (b := none_5) 19 rfl rfl rfl (by rw [hg_19]; rfl) ?_
          refine lv (v := (.int .i32 x_6)) rfl rfl (r_move rfl) ?_
          refine lg (b := none_5) 19 rfl rfl rfl (by rw [hg_19]; rfl) ?_
          refine lv (v := (.bool (decide (x_6 = 0)))) rfl rfl (r_eql x_6 0 rfl rfl) ?_
          refine lv (v := (.bool (decide (x_6 = 0)))) rfl rfl (r_pickF (congrArg Value.bool hg_19) rfl) ?_
          refine lv (v := (.bool (decide (x_6 = 0)))) rfl rfl (r_assign rfl) ?_
          refine lnil ?_
          exact ⟨col_4, (decide (x_6 = 0)), hm, hst, h0, rfl, rfl, rfl, rfl, rfl, rfl⟩




def m_slices_Backward_int32_int32_1_L1 (N : Nat) (v0_v : List Int) : Nat → Int → Option (List (Int × Int))
  | 0, _ => none
  | n_1 + 1, i_4 => if (decide (0 ≤ i_4)) = true then ((at? v0_v i_4).bind fun e_5 => ((m_slices_Backward_int32_int32_1_L1 N v0_v n_1) (IntKind.i64.wrap (i_4 - 1))).bind fun r_7 => some ((i_4, e_5) :: r_7)) else (some [])

def m_slices_Backward_int32_int32_1 (N : Nat) (v0_v : List Int) : Option (List (Int × Int)) :=
  m_slices_Backward_int32_int32_1_L1 N v0_v N (IntKind.i64.wrap ((v0_v.length : Int) - 1))

set_option maxRecDepth 100000 in
theorem c_slices_Backward_int32_int32_1 (N : Nat) (col : Col) (w0 : World) (g0 : Nat) (af0 : Option Addr) (capf0 : Nat) (v0_v : List Int) (hf0 : Sl (Rep.int .i32) col w0 af0 capf0 v0_v) (hb0 : Box 25 450 col w0 g0 #[(.slice af0 v0_v.length capf0)]) (r : List (Int × Int)) (hm : m_slices_Backward_int32_int32_1 N v0_v = some r) :
    Goes Try.prog 59 [(.pointer (some ⟨g0, 0, none⟩))] (fun (y : Int × Int) (col : Col) (w : World) (args : List Value) => args = [.int .i64 y.1, .int .i32 y.2]) r col w0 := by
  intro l J X hjs hxs hy hst
  refine calls_of0 (m := 19) (args := [.func (.yield l) #[] #[], (.pointer (some ⟨g0, 0, none⟩))]) Try.func59 rfl rfl rfl rfl ?_
  rw [m_slices_Backward_int32_int32_1.eq_1] at hm
  refine wseq ?_
  refine wregion ?_
  refine lv (v := (.slice af0 v0_v.length capf0)) rfl rfl (r_ld Try.isAgg25 rfl hb0.at1) ?_
  refine lv (v := (.int .i64 (v0_v.length : Int))) rfl rfl (r_len Try.underlying25 rfl) ?_
  refine lv (v := (.int .i64 (IntKind.i64.wrap ((v0_v.length : Int) - 1)))) rfl rfl (r_sub (v0_v.length : Int) 1 rfl rfl) ?_
  refine lv (v := (.int .i64 (IntKind.i64.wrap ((v0_v.length : Int) - 1)))) rfl rfl (r_assign rfl) ?_
  refine lnil ?_
  refine wblock ?_
  refine wloop (fun n f w_2 => ∃ (col_3 : Col) (r : List (Int × Int)) (i_4 : Int) (n_1 : Nat), n_1 = n ∧ m_slices_Backward_int32_int32_1_L1 N v0_v n_1 i_4 = some r ∧ J r col_3 w_2 ∧ Sl (Rep.int .i32) col_3 w_2 af0 capf0 v0_v ∧ Box 25 450 col_3 w_2 g0 #[(.slice af0 v0_v.length capf0)] ∧ f 0 = (.func (.yield l) #[] #[]) ∧ f 1 = (.pointer (some ⟨g0, 0, none⟩)) ∧ f 3 = (.int .i64 i_4) ∧ f 1000000 = (enc [])) N ⟨col, r, (IntKind.i64.wrap ((v0_v.length : Int) - 1)), N, rfl, hm, hst, hf0, hb0, rfl, rfl, rfl, rfl⟩ ?_
  clear hm; intro n f w_2 hI
  obtain ⟨col_3, r, i_4, n_1, hn, hm, hst, hf0, hb0, hs0, hs1, hs3, hs1000000⟩ := hI
  subst hn
  refine .ld (d := 0) (v := (.func (.yield l) #[] #[])) hs0 ?_
  refine .ld (d := 1) (v := (.pointer (some ⟨g0, 0, none⟩))) hs1 ?_
  refine .ld (d := 3) (v := (.int .i64 i_4)) hs3 ?_
  refine .ld (d := 1000000) (v := (enc [])) hs1000000 ?_
  clear hs0 hs1 hs3 hs1000000
  cases n_1 with
  | zero => rw [m_slices_Backward_int32_int32_1_L1.eq_1] at hm; cases hm
  | succ n_1 =>
    rw [m_slices_Backward_int32_int32_1_L1.eq_2] at hm
    refine wseq ?_
    refine wseq ?_
    refine wregion ?_
    refine lv (v := (.int .i64 i_4)) rfl rfl (r_move rfl) ?_
    refine lv (v := (.bool (decide (0 ≤ i_4)))) rfl rfl (r_geq i_4 0 rfl rfl) ?_
    refine lnil ?_
    refine wcond (decide (0 ≤ i_4)) rfl (fun hb => ?_) (fun hb => ?_)
    · rw [if_pos hb] at hm
      clear hb
      refine wskip ?_
      refine wseq ?_
      refine wblock ?_
      refine wseq ?_
      refine wregion ?_
      refine lv (v := (.func (.yield l) #[] #[])) rfl rfl (r_move rfl) ?_
      refine lv (v := (.int .i64 i_4)) rfl rfl (r_move rfl) ?_
      refine lv (v := (.slice af0 v0_v.length capf0)) rfl rfl (r_ld Try.isAgg25 rfl hb0.at1) ?_
      refine lv (v := (.int .i64 i_4)) rfl rfl (r_move rfl) ?_
      obtain ⟨e_5, hj_6, hm⟩ := bind_some hm
      refine lv (v := (sptr af0 (Int.toNat i_4 * 1))) rfl rfl (r_idx Try.underlying25 Try.sizeOf21 rfl rfl (at?_some hj_6).1 (at?_some hj_6).2.1 (hf0.addr hj_6)) ?_
      refine lv (v := (.int .i32 e_5)) rfl rfl (r_ld Try.isAgg21 rfl (hf0.atInt hj_6)) ?_
      obtain ⟨r_7, hc_8m, hc_8⟩ := bind_some hm
      cases hc_8
      have hm := hc_8m
      clear hc_8m
      refine ly2 rfl rfl rfl rfl (hy _ _ _ _ [(.int .i64 i_4), (.int .i32 e_5)] hst rfl) ?_
      rintro _ w_9 ⟨col_10, hk_11, ⟨rfl, hJ⟩ | ⟨rfl, hX⟩⟩
      · refine ⟨_, rfl, ?_⟩
        clear hst
        replace hb0 := hb0.kpp hk_11 rfl
        replace hf0 := hf0.kpp hk_11 rfl
        have hst := hJ
        clear hJ
        refine lv (v := (.bool false)) rfl rfl (r_not true rfl) ?_
        refine lnil ?_
        refine wcondF rfl ?_
        refine wskip ?_
        refine wregion ?_
        refine lv (v := (.int .i64 i_4)) rfl rfl (r_move rfl) ?_
        refine lv (v := (.int .i64 (IntKind.i64.wrap (i_4 - 1)))) rfl rfl (r_sub i_4 1 rfl rfl) ?_
        refine lv (v := (.int .i64 (IntKind.i64.wrap (i_4 - 1)))) rfl rfl (r_assign rfl) ?_
        refine lnil ?_
        exact ⟨n_1, by omega, ⟨col_10, r_7, (IntKind.i64.wrap (i_4 - 1)), n_1, rfl, hm, hst, hf0, hb0, rfl, rfl, rfl, rfl⟩⟩
      · clear hm
        refine ⟨_, rfl, ?_⟩
        clear hst
        replace hb0 := hb0.kpp hk_11 rfl
        replace hf0 := hf0.kpp hk_11 rfl
        have hst := hX
        clear hX
        refine lv (v := (.bool true)) rfl rfl (r_not false rfl) ?_
        refine lnil ?_
        refine wcondT rfl ?_
        refine wret ?_
        exact ⟨rfl, ⟨_, rfl⟩, _, .inr hst⟩
    · rw [if_neg (by rw [hb]; decide)] at hm
      clear hb
      refine wexit (inB_hit ?_)
      cases hm
      exact ⟨rfl, ⟨_, rfl⟩, _, .inl hst⟩




def m_slices_Backward_int32_int32 (N : Nat) (p0_s : List Int) : Option (List (Int × Int)) :=
  m_slices_Backward_int32_int32_1 N p0_s

set_option maxRecDepth 100000 in
theorem c_slices_Backward_int32_int32 (N : Nat) (col : Col) (w0 : World) (a0 : Option Addr) (cap0 : Nat) (p0_s : List Int) (h0 : Sl (Rep.int .i32) col w0 a0 cap0 p0_s) (r : (List (Int × Int))) (hm : m_slices_Backward_int32_int32 N p0_s = some r) :
    Calls Try.prog 56 #[(.slice a0 p0_s.length cap0)] w0 (fun e w' => ∃ (col' : Col) (rv : Value), e = .returned (rv) ∧ Grow col w0 col' w' ∧ It Try.prog rv (fun (y : Int × Int) (col : Col) (w : World) (args : List Value) => args = [.int .i64 y.1, .int .i32 y.2]) r q0 col' w') := by
  refine calls_of1 2 (m := 4) (args := [(.slice a0 p0_s.length cap0)]) Try.func56 rfl rfl rfl rfl rfl ?_
  rw [m_slices_Backward_int32_int32.eq_1] at hm
  have hst := St.start col w0
  replace h0 := h0.keep (Stay.start col w0)
  refine wseq ?_
  refine wregion ?_
  refine l_box (col := (col0 col)) (v := (.slice a0 p0_s.length cap0)) 1 rfl rfl ?_
  intro g_1 w_2 col_3 hg_4 hb_5
  replace h0 := h0.gr hg_4
  replace hst := hst.grow hg_4
  replace hb_5 : Box 25 1 col_3 w_2 g_1 #[(.slice a0 p0_s.length cap0)] := hb_5
  refine lv (v := _) rfl rfl (r_assign rfl) ?_
  refine lnil ?_
  refine wseq ?_
  refine wregion ?_
  refine lv (v := (.func (.func 59) #[] #[(.pointer (some ⟨g_1, 0, none⟩))])) rfl rfl (r_func1 rfl) ?_
  refine lv (v := (.func (.func 59) #[] #[(.pointer (some ⟨g_1, 0, none⟩))])) rfl rfl (r_assign rfl) ?_
  refine lnil ?_
  refine wret ?_
  have hb_5f := hst.finBox (G := (fun n => bif Nat.beq n 1 then 450 else 0)) hb_5 (by decide) (by decide) (show (fun n => bif Nat.beq n 1 then 450 else 0) 1 = 450 from rfl)
  have h0f := hst.finSl (g := (fun n => bif Nat.beq n 1 then 450 else 0)) rfl h0
  refine ⟨rfl, colF w0.heap.size col col_3 (fun n => bif Nat.beq n 1 then 450 else 0), _, rfl, hst.fin (fun n => bif Nat.beq n 1 then 450 else 0), 59, [(.pointer (some ⟨g_1, 0, none⟩))], rfl, Try.call59, ?_⟩
  intro col9 w9 hs9 hk9
  replace hb_5f := hb_5f.itk hs9 hk9 rfl
  replace h0f := h0f.itk hs9 hk9 rfl
  exact c_slices_Backward_int32_int32_1 N col9 w9 g_1 a0 cap0 p0_s h0f hb_5f r hm




def m_radix_digits_int32_L1  : List (Int × Int) → Int → (List Int) → Option (List Int)
  | [], at_33, out_36 => some out_36
  | y_38 :: l_39, at_33, out_36 => chk ((IntKind.i64.wrap y_38.2) ≠ 0) ((at? out_36 y_38.1).bind fun e_52 => (some (out_36.set (Int.toNat y_38.1) (IntKind.i32.wrap (Int.tmod at_33 (IntKind.i64.wrap y_38.2))))).bind fun xs_60 => chk ((IntKind.i64.wrap y_38.2) ≠ 0) ((m_radix_digits_int32_L1 l_39) (IntKind.i64.wrap (Int.tdiv at_33 (IntKind.i64.wrap y_38.2))) xs_60))

def m_radix_digits_int32 (N : Nat) (p0_sizes : List Int) (p1_at : Int) : Option (List Int) :=
  if (decide ((p0_sizes.length : Int) = 0)) = true then (some ([] : List Int)) else (chk (p0_sizes.length * 4 ≤ 281474976710656 ∧ p0_sizes.length ≤ maxLen) ((m_slices_Backward_int32_int32 N p0_sizes).bind fun r_24 => m_radix_digits_int32_L1 r_24 p1_at (List.replicate p0_sizes.length (0 : Int))))

set_option maxRecDepth 100000 in
theorem c_radix_digits_int32 (N : Nat) (c1 : Nat) (col : Col) (w0 : World) (a0 : Option Addr) (cap0 : Nat) (p0_sizes : List Int) (h0 : Sl (Rep.int .i32) col w0 a0 cap0 p0_sizes) (p1_at : Int) (r : (List Int)) (hm : m_radix_digits_int32 N p0_sizes p1_at = some r) :
    Calls Try.prog 51 #[(.slice a0 p0_sizes.length cap0), (.int .i64 p1_at)] w0 (fun e w' => ∃ (col' : Col) (ra1 : Option Addr) (rc1 : Nat), e = .returned (.slice ra1 r.length rc1) ∧ Grow col w0 col' w' ∧ Own (Rep.int .i32) 21 c1 col' w' ra1 rc1 r) := by
  refine calls_ofM1 4 (m := 31) (args := [(.slice a0 p0_sizes.length cap0), (.int .i64 p1_at)]) Try.func51 rfl rfl rfl rfl rfl ?_
  rw [m_radix_digits_int32.eq_1] at hm
  have hst := St.start col w0
  replace h0 := h0.keep (Stay.start col w0)
  have hmk : Marks (col0 col) w0 [] := .nil
  refine wseq ?_
  refine wregion ?_
  refine l_box (col := (col0 col)) (v := (.int .i64 p1_at)) 1 rfl rfl ?_
  intro g_1 w_2 col_3 hg_4 hb_5
  replace h0 := h0.gr hg_4
  replace hmk := hmk.gr hg_4
  replace hst := hst.grow hg_4
  replace hb_5 : Box 3 1 col_3 w_2 g_1 #[(.int .i64 p1_at)] := hb_5
  refine lv (v := (.slice none (([] : List Int).length) 0)) rfl rfl (r_assign rfl) ?_
  refine lnil ?_
  refine wseq ?_
  refine wseq ?_
  refine wregion ?_
  refine lv (v := (.slice a0 p0_sizes.length cap0)) rfl rfl (r_move rfl) ?_
  refine lv (v := (.int .i64 (p0_sizes.length : Int))) rfl rfl (r_len Try.underlying25 rfl) ?_
  refine lv (v := (.bool (decide ((p0_sizes.length : Int) = 0)))) rfl rfl (r_eql (p0_sizes.length : Int) 0 rfl rfl) ?_
  refine lnil ?_
  refine wcond (decide ((p0_sizes.length : Int) = 0)) rfl (fun hb => ?_) (fun hb => ?_)
  · rw [if_pos hb] at hm
    clear hb
    refine wseq ?_
    refine wregion ?_
    refine lv (v := (.slice none (([] : List Int).length) 0)) rfl rfl (r_assign rfl) ?_
    refine lnil ?_
    refine wret ?_
    cases hm
    refine ⟨_, [], rfl, hmk, ?_⟩
    intro w_6 hk_7 hs_8
    clear hmk
    replace h0 := h0.kp hk_7 (by decide)
    replace hb_5 := hb_5.kp hk_7 (by decide)
    replace hst := hst.kp hk_7 hs_8 (by decide) (by decide)
    exact ⟨colF w0.heap.size col col_3 (fun n => 0), none, 0, rfl, hst.fin (fun n => 0), Own.nil⟩
  · rw [if_neg (by rw [hb]; decide)] at hm
    clear hb
    refine wskip ?_
    refine wseq ?_
    refine wregion ?_
    refine lv (v := (.slice a0 p0_sizes.length cap0)) rfl rfl (r_move rfl) ?_
    refine lv (v := (.int .i64 (p0_sizes.length : Int))) rfl rfl (r_len Try.underlying25 rfl) ?_
    obtain ⟨hb_9, hm⟩ := chk_some hm
    refine l_make (col := col_3) (w := w_2) (r := (Rep.int .i32)) (n := p0_sizes.length) (x0 := 0) 4 rfl Try.underlying25 Try.t21 rfl rfl rfl rfl rfl rfl rfl hb_9.1 hb_9.2 rfl ?_
    intro a_10 w_11 col_12 hg_13 h_14
    replace h0 := h0.gr hg_13
    replace hb_5 := hb_5.gr hg_13
    replace hmk := hmk.gr hg_13
    replace hst := hst.grow hg_13
    refine l_alloc (col := col_12) (v := (.slice none (([] : List Int).length) 0)) 5 rfl Try.zeroValue25 ?_
    intro g_15 w_16 col_17 hg_18 hb_19
    replace h0 := h0.gr hg_18
    replace hb_5 := hb_5.gr hg_18
    replace h_14 := h_14.gr hg_18
    replace hmk := hmk.gr hg_18
    replace hst := hst.grow hg_18
    replace hb_19 : Box 25 5 col_17 w_16 g_15 #[(.slice none (([] : List Int).length) 0)] := hb_19
    refine l_bstore (v := (.slice a_10 ((List.replicate p0_sizes.length (0 : Int)).length) p0_sizes.length)) hb_19 Try.sizeOf25 rfl rfl (by intro u hu; simp only [Value.cells, List.mem_cons, List.not_mem_nil, or_false] at hu; subst hu; rfl) rfl rfl ?_
    intro w_20 hk_21 hs_22 hb_23
    replace h0 := h0.kp hk_21 (by decide)
    replace hb_5 := hb_5.kp hk_21 (by decide)
    replace h_14 := h_14.kp hk_21 (by decide) (by decide)
    replace hmk := hmk.kp hk_21 (by decide)
    replace hst := hst.kp hk_21 hs_22 (by decide) (by decide)
    clear hb_19
    replace hb_23 : Box 25 5 col_17 w_20 g_15 #[(.slice a_10 ((List.replicate p0_sizes.length (0 : Int)).length) p0_sizes.length)] := hb_23
    refine lnil ?_
    refine wseq ?_
    refine wseq ?_
    refine wregion ?_
    refine lv (v := (.slice a0 p0_sizes.length cap0)) rfl rfl (r_move rfl) ?_
    obtain ⟨r_24, hr_25, hm⟩ := bind_some hm
    refine lc rfl rfl (r_call1 Try.call56 rfl) (c_slices_Backward_int32_int32 N col_17 _ a0 cap0 p0_sizes h0 r_24 hr_25) ?_
    rintro _ w_28 ⟨col_30, v_26, rfl, hg_29, h_27⟩
    refine ⟨_, rfl, ?_⟩
    replace h0 := h0.gr hg_29
    replace hb_5 := hb_5.gr hg_29
    replace h_14 := h_14.gr hg_29
    replace hb_23 := hb_23.gr hg_29
    replace hmk := hmk.gr hg_29
    replace hst := hst.grow hg_29
    refine lnil ?_
    refine wblock ?_
    refine wrange (psl := [16, 17]) (arr := (fun (y : Int × Int) (col : Col) (w : World) (args : List Value) => args = [.int .i64 y.1, .int .i32 y.2])) (ys := r_24) (col := col_30) 498 rfl h_27 rfl hmk rfl rfl (by rintro _ _ _ _ rfl; rfl) (fun ys_ col_32 w_31 => ∃ (at_33 : Int) (a_34 : Option Addr) (cap_35 : Nat) (out_36 : List Int), m_radix_digits_int32_L1 ys_ at_33 out_36 = some r ∧ St w0 (col0 col) col_32 w_31 ∧ Box 3 1 col_32 w_31 g_1 #[(.int .i64 at_33)] ∧ Own (Rep.int .i32) 21 4 col_32 w_31 a_34 cap_35 out_36 ∧ Box 25 5 col_32 w_31 g_15 #[(.slice a_34 out_36.length cap_35)]) (fun _ _ _ => False) ?_ ?_ ⟨p1_at, a_10, p0_sizes.length, (List.replicate p0_sizes.length (0 : Int)), hm, hst, hb_5, h_14, hb_23⟩ ?_ ?_ ?_
    · intro ys_ col_32 w_31 col2_ w2_ hJ hk
      obtain ⟨at_33, a_34, cap_35, out_36, hm, hst, hb_5, h_37, hb_23⟩ := hJ
      exact ⟨at_33, a_34, cap_35, out_36, hm, hst.kpp hk rfl rfl, hb_5.kpp hk rfl, h_37.kpp hk rfl rfl, hb_23.kpp hk rfl⟩
    · intro _ _ _ _ _ h _
      exact h
    · intro l_44 rc_45 ds_46 y_38 l_39 col_32 w_31 args hJ hrec hmk harr
      obtain ⟨at_33, a_34, cap_35, out_36, hm, hst, hb_5, h_37, hb_23⟩ := hJ
      rw [m_radix_digits_int32_L1.eq_2] at hm
      have hki := KeepP.refl pCo col_32 w_31
      subst harr
      refine wseq ?_
      refine wregion ?_
      refine lv (v := (.int .i64 y_38.1)) rfl rfl (r_assign rfl) ?_
      refine lnil ?_
      refine wregion ?_
      refine lv (v := (.int .i32 y_38.2)) rfl rfl (r_assign rfl) ?_
      refine lnil ?_
      refine ⟨_, hrec, ?_⟩
      intro w_47 rc_48 hk_49 hs_50 hrec2
      replace hb_5 := hb_5.kp hk_49 (by decide)
      replace hb_23 := hb_23.kp hk_49 (by decide)
      replace h_37 := h_37.kp hk_49 (by decide) (by decide)
      replace hmk := hmk.kp hk_49 (by decide)
      replace hki := hki.kp hk_49 hs_50 rfl
      replace hst := hst.kp hk_49 hs_50 (by decide) (by decide)
      clear hrec
      have hrec := hrec2
      clear hrec2
      refine wblock ?_
      refine wseq ?_
      refine wtail (col := col_32) _ (by kernel_rfl) rfl (by kernel_rfl) ?_
      refine qv (v := (.slice a_34 out_36.length cap_35)) rfl (fun _ hC => r_ld Try.isAgg25 rfl (hb_23.gr hC).at1) ?_
      refine qv (v := (.int .i64 y_38.1)) rfl (fun _ hC => r_move rfl) ?_
      refine qv (v := (.int .i64 at_33)) rfl (fun _ hC => r_ld Try.isAgg3 rfl (hb_5.gr hC).at1) ?_
      refine qv (v := (.int .i32 y_38.2)) rfl (fun _ hC => r_move rfl) ?_
      refine qv (v := (.int .i64 (IntKind.i64.wrap y_38.2))) rfl (fun _ hC => r_conv y_38.2 ⟨_, Try.underlying21⟩ Try.underlying3 rfl) ?_
      obtain ⟨h0_51, hm⟩ := chk_some hm
      refine qv (v := (.int .i64 (Int.tmod at_33 (IntKind.i64.wrap y_38.2)))) rfl (fun _ hC => r_rem at_33 (IntKind.i64.wrap y_38.2) rfl rfl h0_51) ?_
      refine qv (v := (.int .i32 (IntKind.i32.wrap (Int.tmod at_33 (IntKind.i64.wrap y_38.2))))) rfl (fun _ hC => r_conv (Int.tmod at_33 (IntKind.i64.wrap y_38.2)) ⟨_, Try.underlying3⟩ Try.underlying21 rfl) ?_
      obtain ⟨e_52, hj_53, hm⟩ := bind_some hm
      refine qv (v := (sptr a_34 (Int.toNat y_38.1 * 1))) rfl (fun _ hC => r_idx Try.underlying25 Try.sizeOf21 rfl rfl (at?_some hj_53).1 (at?_some hj_53).2.1 (h_37.addr hj_53)) ?_
      refine qnop ?_
      refine qnil ?_
      intro w_54 hC
      replace hb_5 := hb_5.gr hC
      replace hb_23 := hb_23.gr hC
      replace h_37 := h_37.gr hC
      replace hrec := hrec.gr hC
      replace hmk := hmk.gr hC
      replace hki := hki.gr hC
      replace hst := hst.grow hC
      obtain ⟨xs_60, hz_59, hm⟩ := bind_some hm
      have hz_59 : xs_60 = out_36.set (Int.toNat y_38.1) (IntKind.i32.wrap (Int.tmod at_33 (IntKind.i64.wrap y_38.2))) := (Option.some.inj hz_59).symm
      refine l_store (x1 := IntKind.i32.wrap (Int.tmod at_33 (IntKind.i64.wrap y_38.2))) (v := (.int .i32 (IntKind.i32.wrap (Int.tmod at_33 (IntKind.i64.wrap y_38.2))))) h_37 hj_53 rfl Try.sizeOf21 rfl rfl rfl (by decide) ?_
      intro w_55 hk_56 hs_57 h_58
      rw [← hz_59] at h_58
      replace hb_5 := hb_5.kp hk_56 (by decide)
      replace hb_23 := hb_23.kp hk_56 (by decide)
      replace hrec := hrec.kp hk_56 (by decide)
      replace hmk := hmk.kp hk_56 (by decide)
      replace hki := hki.kp hk_56 hs_57 rfl
      replace hst := hst.kp hk_56 hs_57 (by decide) (by decide)
      refine .ld (d := 18) (v := (.slice a_34 xs_60.length cap_35)) (congrArg (fun n => Value.slice a_34 n cap_35) (show out_36.length = xs_60.length by rw [hz_59, List.length_set])) ?_
      replace hb_23 : Box 25 5 col_32 w_55 g_15 #[(.slice a_34 xs_60.length cap_35)] := by rw [← (show out_36.length = xs_60.length by rw [hz_59, List.length_set])]; exact hb_23
      clear h_37
      refine lnil ?_
      refine wregion ?_
      refine lv (v := (.int .i64 at_33)) rfl rfl (r_ld Try.isAgg3 rfl hb_5.at1) ?_
      refine lv (v := (.int .i32 y_38.2)) rfl rfl (r_move rfl) ?_
      refine lv (v := (.int .i64 (IntKind.i64.wrap y_38.2))) rfl rfl (r_conv y_38.2 ⟨_, Try.underlying21⟩ Try.underlying3 rfl) ?_
      obtain ⟨h0_61, hm⟩ := chk_some hm
      refine lv (v := (.int .i64 (IntKind.i64.wrap (Int.tdiv at_33 (IntKind.i64.wrap y_38.2))))) rfl rfl (r_quo at_33 (IntKind.i64.wrap y_38.2) rfl rfl h0_61) ?_
      refine l_bstore (v := (.int .i64 (IntKind.i64.wrap (Int.tdiv at_33 (IntKind.i64.wrap y_38.2))))) hb_5 Try.sizeOf3 rfl rfl (by intro u hu; simp only [Value.cells, List.mem_cons, List.not_mem_nil, or_false] at hu; subst hu; rfl) rfl rfl ?_
      intro w_62 hk_63 hs_64 hb_65
      replace hb_23 := hb_23.kp hk_63 (by decide)
      replace h_58 := h_58.kp hk_63 (by decide) (by decide)
      replace hrec := hrec.kp hk_63 (by decide)
      replace hmk := hmk.kp hk_63 (by decide)
      replace hki := hki.kp hk_63 hs_64 rfl
      replace hst := hst.kp hk_63 hs_64 (by decide) (by decide)
      clear hb_5
      replace hb_65 : Box 3 1 col_32 w_62 g_1 #[(.int .i64 (IntKind.i64.wrap (Int.tdiv at_33 (IntKind.i64.wrap y_38.2))))] := hb_65
      refine lnil ?_
      exact ⟨_, hki, ⟨(IntKind.i64.wrap (Int.tdiv at_33 (IntKind.i64.wrap y_38.2))), a_34, cap_35, xs_60, hm, hst, hb_65, h_58, hb_23⟩, hrec, hmk⟩
    · clear hmk
      intro D_40 col_32 w_31 hJ hmk
      obtain ⟨at_33, a_34, cap_35, out_36, hm, hst, hb_5, h_37, hb_23⟩ := hJ
      rw [m_radix_digits_int32_L1.eq_1] at hm
      refine wseq ?_
      refine wregion ?_
      refine lv (v := (.slice a_34 out_36.length cap_35)) rfl rfl (r_ld Try.isAgg25 rfl hb_23.at1) ?_
      refine lv (v := (.slice a_34 out_36.length cap_35)) rfl rfl (r_assign rfl) ?_
      refine lnil ?_
      refine wret ?_
      cases hm
      refine ⟨_, (D_40 :: []), rfl, hmk, ?_⟩
      intro w_41 hk_42 hs_43
      clear hmk
      replace hb_5 := hb_5.kp hk_42 (by decide)
      replace hb_23 := hb_23.kp hk_42 (by decide)
      replace h_37 := h_37.kp hk_42 (by decide) (by decide)
      replace hst := hst.kp hk_42 hs_43 (by decide) (by decide)
      exact ⟨colF w0.heap.size col col_32 (fun n => bif Nat.beq n 4 then c1 else 0), a_34, cap_35, rfl, hst.fin (fun n => bif Nat.beq n 4 then c1 else 0), hst.finOwn (g := (fun n => bif Nat.beq n 4 then c1 else 0)) rfl h_37 (by decide) (by decide) rfl⟩
    · intro _ _ _ _ h
      exact h.elim




def m_radix_Digits_int32_J1 (N : Nat) (p0_sizes : List Int) (p1_at : Int) (v_8 : Bool) : Option ((List Int) × Int) :=
  if v_8 = true then (some (([] : List Int), 3)) else ((m_radix_digits_int32 N p0_sizes p1_at).bind fun r_9 => some (r_9, 0))

def m_radix_Digits_int32 (N : Nat) (p0_sizes : List Int) (p1_at : Int) : Option ((List Int) × Int) :=
  (m_radix_Count_int32 p0_sizes).bind fun r_1 => if (!decide (r_1.2 = 0)) = true then (some (([] : List Int), r_1.2)) else (if (decide (p1_at < 0)) = true then (m_radix_Digits_int32_J1 N p0_sizes p1_at true) else (m_radix_Digits_int32_J1 N p0_sizes p1_at (decide (r_1.1 ≤ p1_at))))

set_option maxRecDepth 100000 in
theorem c_radix_Digits_int32 (N : Nat) (c1 : Nat) (col : Col) (w0 : World) (a0 : Option Addr) (cap0 : Nat) (p0_sizes : List Int) (h0 : Sl (Rep.int .i32) col w0 a0 cap0 p0_sizes) (p1_at : Int) (r : ((List Int) × Int)) (hm : m_radix_Digits_int32 N p0_sizes p1_at = some r) :
    Calls Try.prog 39 #[(.slice a0 p0_sizes.length cap0), (.int .i64 p1_at)] w0 (fun e w' => ∃ (col' : Col) (ra1 : Option Addr) (rc1 : Nat), e = .returned (.tuple #[.slice ra1 r.1.length rc1, .int .i64 r.2]) ∧ Grow col w0 col' w' ∧ Own (Rep.int .i32) 21 c1 col' w' ra1 rc1 r.1) := by
  refine calls_of2 4 5 (m := 26) (args := [(.slice a0 p0_sizes.length cap0), (.int .i64 p1_at)]) Try.func39 rfl rfl rfl rfl rfl ?_
  rw [m_radix_Digits_int32.eq_1] at hm
  have hst := St.start col w0
  replace h0 := h0.keep (Stay.start col w0)
  refine wseq ?_
  refine wregion ?_
  refine lv (v := (.slice none (([] : List Int).length) 0)) rfl rfl (r_assign rfl) ?_
  refine lv (v := (.int .i64 0)) rfl rfl (r_assign rfl) ?_
  refine lnil ?_
  refine wseq ?_
  refine wregion ?_
  refine lv (v := (.slice a0 p0_sizes.length cap0)) rfl rfl (r_move rfl) ?_
  obtain ⟨r_1, hr_2, hm⟩ := bind_some hm
  refine lc rfl rfl (r_call1 Try.call43 rfl) (c_radix_Count_int32 (col0 col) _ a0 cap0 p0_sizes h0 r_1 hr_2) ?_
  rintro _ w_3 ⟨rfl, hg_4⟩
  refine ⟨_, rfl, ?_⟩
  have hg_4 : Grow (col0 col) w0 (col0 col) w_3 := .of_below hg_4
  replace h0 := h0.gr hg_4
  replace hst := hst.grow hg_4
  refine lv (v := (.tuple #[(.int .i64 r_1.1), (.int .i64 r_1.2)])) rfl rfl (r_move rfl) ?_
  refine lv (v := (.int .i64 r_1.1)) rfl rfl (r_extract rfl rfl) ?_
  refine lv (v := (.int .i64 r_1.2)) rfl rfl (r_extract rfl rfl) ?_
  refine lv (v := (.int .i64 r_1.1)) rfl rfl (r_assign rfl) ?_
  refine lv (v := (.int .i64 r_1.2)) rfl rfl (r_assign rfl) ?_
  refine lnil ?_
  refine wseq ?_
  refine wseq ?_
  refine wregion ?_
  refine lv (v := (.int .i64 r_1.2)) rfl rfl (r_move rfl) ?_
  refine lv (v := (.bool (!decide (r_1.2 = 0)))) rfl rfl (r_neq r_1.2 0 rfl rfl) ?_
  refine lnil ?_
  refine wcond (!decide (r_1.2 = 0)) rfl (fun hb => ?_) (fun hb => ?_)
  · rw [if_pos hb] at hm
    clear hb
    refine wseq ?_
    refine wregion ?_
    refine lv (v := (.int .i64 r_1.2)) rfl rfl (r_move rfl) ?_
    refine lv (v := (.slice none (([] : List Int).length) 0)) rfl rfl (r_assign rfl) ?_
    refine lv (v := (.int .i64 r_1.2)) rfl rfl (r_assign rfl) ?_
    refine lnil ?_
    refine wret ?_
    cases hm
    exact ⟨rfl, colF w0.heap.size col (col0 col) (fun n => 0), none, 0, rfl, hst.fin (fun n => 0), Own.nil⟩
  · rw [if_neg (by rw [hb]; decide)] at hm
    clear hb
    refine wskip ?_
    refine wseq ?_
    refine wseq ?_
    refine Wp.cut (fun f w_6 => ∃ (col_7 : Col) (v_8 : Bool), m_radix_Digits_int32_J1 N p0_sizes p1_at v_8 = some r ∧ St w0 (col0 col) col_7 w_6 ∧ Sl (Rep.int .i32) col_7 w_6 a0 cap0 p0_sizes ∧ f 0 = (.slice a0 p0_sizes.length cap0) ∧ f 1 = (.int .i64 p1_at) ∧ f 22 = (.bool v_8) ∧ f 1000000 = (enc [])) ?_ ?_
    · intro f w_6 hJ
      obtain ⟨col_7, v_8, hm, hst, h0, hs0, hs1, hs22, hs1000000⟩ := hJ
      rw [m_radix_Digits_int32_J1.eq_1] at hm
      refine .ld (d := 0) (v := (.slice a0 p0_sizes.length cap0)) hs0 ?_
      refine .ld (d := 1) (v := (.int .i64 p1_at)) hs1 ?_
      refine .ld (d := 22) (v := (.bool v_8)) hs22 ?_
      refine .ld (d := 1000000) (v := (enc [])) hs1000000 ?_
      clear hs0 hs1 hs22 hs1000000
      refine wcond (v_8) rfl (fun hb => ?_) (fun hb => ?_)
      · rw [if_pos hb] at hm
        clear hb
        refine wseq ?_
        refine wregion ?_
        refine lv (v := (.slice none (([] : List Int).length) 0)) rfl rfl (r_assign rfl) ?_
        refine lv (v := (.int .i64 3)) rfl rfl (r_assign rfl) ?_
        refine lnil ?_
        refine wret ?_
        cases hm
        exact ⟨rfl, colF w0.heap.size col col_7 (fun n => 0), none, 0, rfl, hst.fin (fun n => 0), Own.nil⟩
      · rw [if_neg (by rw [hb]; decide)] at hm
        clear hb
        refine wskip ?_
        refine wseq ?_
        refine wregion ?_
        refine lv (v := (.slice a0 p0_sizes.length cap0)) rfl rfl (r_move rfl) ?_
        refine lv (v := (.int .i64 p1_at)) rfl rfl (r_move rfl) ?_
        obtain ⟨r_9, hr_10, hm⟩ := bind_some hm
        refine lc rfl rfl (r_call2 Try.call51 rfl rfl) (c_radix_digits_int32 N 4 col_7 _ a0 cap0 p0_sizes h0 p1_at r_9 hr_10) ?_
        rintro _ w_14 ⟨col_16, a_11, cap_12, rfl, hg_15, h_13⟩
        refine ⟨_, rfl, ?_⟩
        replace h0 := h0.gr hg_15
        replace hst := hst.grow hg_15
        refine lv (v := (.slice a_11 r_9.length cap_12)) rfl rfl (r_assign rfl) ?_
        refine lv (v := (.int .i64 0)) rfl rfl (r_assign rfl) ?_
        refine lnil ?_
        refine wret ?_
        cases hm
        exact ⟨rfl, colF w0.heap.size col col_16 (fun n => bif Nat.beq n 4 then c1 else 0), a_11, cap_12, rfl, hst.fin (fun n => bif Nat.beq n 4 then c1 else 0), hst.finOwn (g := (fun n => bif Nat.beq n 4 then c1 else 0)) rfl h_13 (by decide) (by decide) rfl⟩
    · refine wregion ?_
      refine lv (v := (.int .i64 p1_at)) rfl rfl (r_move rfl) ?_
      refine lv (v := (.bool (decide (p1_at < 0)))) rfl rfl (r_lss p1_at 0 rfl rfl) ?_
      refine lv (v := (.bool (decide (p1_at < 0)))) rfl rfl (r_move rfl) ?_
      by_cases hg_17 : (decide (p1_at < 0)) = true
      · rw [if_pos hg_17] at hm
        refine lp (b := decide (p1_at < 0)) 18 rfl rfl rfl rfl (by rw [hg_17]; rfl) ?_
        refine lp (b := decide (p1_at < 0)) 18 rfl rfl rfl rfl (by rw [hg_17]; rfl) ?_
        refine lp (b := decide (p1_at < 0)) 18 rfl rfl rfl rfl (by rw [hg_17]; rfl) ?_
        refine lv (v := (.bool true)) rfl rfl (r_pickT (congrArg Value.bool hg_17) rfl) ?_
        refine lnil ?_
        exact ⟨(col0 col), true, hm, hst, h0, rfl, rfl, rfl, rfl⟩
      · rw [if_neg hg_17] at hm
        replace hg_17 := Bool.eq_false_iff.2 hg_17
        refine lg (b := decide (p1_at < 0)) 18 rfl rfl rfl (by rw [hg_17]; rfl) ?_
        refine lv (v := (.int .i64 p1_at)) rfl rfl (r_move rfl) ?_
        refine lg (b := decide (p1_at < 0)) 18 rfl rfl rfl (by rw [hg_17]; rfl) ?_
        refine lv (v := (.int .i64 r_1.1)) rfl rfl (r_move rfl) ?_
        refine lg (b := decide (p1_at < 0)) 18 rfl rfl rfl (by rw [hg_17]; rfl) ?_
        refine lv (v := (.bool (decide (r_1.1 ≤ p1_at)))) rfl rfl (r_geq p1_at r_1.1 rfl rfl) ?_
        refine lv (v := (.bool (decide (r_1.1 ≤ p1_at)))) rfl rfl (r_pickF (congrArg Value.bool hg_17) rfl) ?_
        refine lnil ?_
        exact ⟨(col0 col), (decide (r_1.1 ≤ p1_at)), hm, hst, h0, rfl, rfl, rfl, rfl⟩




def m_radix_Count_credencelaw10_Small_L2  : List Int → Int → Option (Int × Int)
  | [], n_12 => some (n_12, 0)
  | x_13 :: l_14, n_12 => chk (n_12 ≠ 0) (if (decide ((IntKind.i64.wrap (Int.tdiv 2147483647 n_12)) < (IntKind.i64.wrap x_13))) = true then (some (0, 4)) else ((m_radix_Count_credencelaw10_Small_L2 l_14) (IntKind.i64.wrap (n_12 * (IntKind.i64.wrap x_13)))))

def m_radix_Count_credencelaw10_Small_J1 (kk_L1 : (Bool → Option (Int × Int))) (none_18 : Bool) : Option (Int × Int) :=
  kk_L1 none_18

def m_radix_Count_credencelaw10_Small_L1 (p0_sizes : List Int) : List Int → Bool → Option (Int × Int)
  | [], none_5 => if none_5 = true then (some (0, 0)) else (m_radix_Count_credencelaw10_Small_L2 p0_sizes 1)
  | x_6 :: l_7, none_5 => if (decide (x_6 < 0)) = true then (some (0, 3)) else (if none_5 = true then (m_radix_Count_credencelaw10_Small_J1 (m_radix_Count_credencelaw10_Small_L1 p0_sizes l_7) true) else (m_radix_Count_credencelaw10_Small_J1 (m_radix_Count_credencelaw10_Small_L1 p0_sizes l_7) (decide (x_6 = 0))))

def m_radix_Count_credencelaw10_Small (p0_sizes : List Int) : Option (Int × Int) :=
  m_radix_Count_credencelaw10_Small_L1 p0_sizes p0_sizes false

set_option maxRecDepth 100000 in
theorem c_radix_Count_credencelaw10_Small (col : Col) (w0 : World) (a0 : Option Addr) (cap0 : Nat) (p0_sizes : List Int) (h0 : Sl (Rep.int .u16) col w0 a0 cap0 p0_sizes) (r : (Int × Int)) (hm : m_radix_Count_credencelaw10_Small p0_sizes = some r) :
    Calls Try.prog 40 #[(.slice a0 p0_sizes.length cap0)] w0 (fun e w' => e = .returned (.tuple #[.int .i64 r.1, .int .i64 r.2]) ∧ Below w0.heap.size w0 w') := by
  refine calls_of2 2 3 (m := 42) (args := [(.slice a0 p0_sizes.length cap0)]) Try.func40 rfl rfl rfl rfl rfl ?_
  rw [m_radix_Count_credencelaw10_Small.eq_1] at hm
  have hst := St.start col w0
  replace h0 := h0.keep (Stay.start col w0)
  refine wseq ?_
  refine wregion ?_
  refine lv (v := (.int .i64 0)) rfl rfl (r_assign rfl) ?_
  refine lv (v := (.int .i64 0)) rfl rfl (r_assign rfl) ?_
  refine lnil ?_
  refine wseq ?_
  refine wregion ?_
  refine lv (v := (.bool false)) rfl rfl (r_assign rfl) ?_
  refine lnil ?_
  refine wseq ?_
  refine wseq ?_
  refine wregion ?_
  refine lv (v := (.slice a0 p0_sizes.length cap0)) rfl rfl (r_move rfl) ?_
  refine lv (v := (.int .i64 (p0_sizes.length : Int))) rfl rfl (r_len Try.underlying30 rfl) ?_
  refine lv (v := (.int .i64 0)) rfl rfl (r_move rfl) ?_
  refine lnil ?_
  refine wblock ?_
  refine wloop (fun n f w_3 => ∃ (col_4 : Col) (none_5 : Bool) (k_1 : Nat) (l_2 : List Int), n = l_2.length ∧ p0_sizes.drop k_1 = l_2 ∧ m_radix_Count_credencelaw10_Small_L1 p0_sizes l_2 none_5 = some r ∧ St w0 (col0 col) col_4 w_3 ∧ Sl (Rep.int .u16) col_4 w_3 a0 cap0 p0_sizes ∧ f 12 = (.int .i64 (k_1 : Int)) ∧ f 0 = (.slice a0 p0_sizes.length cap0) ∧ f 4 = (.bool none_5) ∧ f 10 = (.slice a0 p0_sizes.length cap0) ∧ f 11 = (.int .i64 (p0_sizes.length : Int)) ∧ f 1000000 = (enc [])) p0_sizes.length ⟨(col0 col), false, 0, p0_sizes, rfl, rfl, hm, hst, h0, rfl, rfl, rfl, rfl, rfl, rfl⟩ ?_
  clear hm; intro n f w_3 hI
  obtain ⟨col_4, none_5, k_1, l_2, hn, hl, hm, hst, h0, hs12, hs0, hs4, hs10, hs11, hs1000000⟩ := hI
  subst hn
  refine .ld (d := 12) (v := (.int .i64 (k_1 : Int))) hs12 ?_
  refine .ld (d := 0) (v := (.slice a0 p0_sizes.length cap0)) hs0 ?_
  refine .ld (d := 4) (v := (.bool none_5)) hs4 ?_
  refine .ld (d := 10) (v := (.slice a0 p0_sizes.length cap0)) hs10 ?_
  refine .ld (d := 11) (v := (.int .i64 (p0_sizes.length : Int))) hs11 ?_
  refine .ld (d := 1000000) (v := (enc [])) hs1000000 ?_
  clear hs12 hs0 hs4 hs10 hs11 hs1000000
  cases l_2 with
  | nil =>
    have hk : ¬ ((k_1 : Int) < (p0_sizes.length : Int)) := by have := List.drop_eq_nil_iff.1 hl; omega
    have hkb := decide_eq_false hk
    rw [m_radix_Count_credencelaw10_Small_L1.eq_1] at hm
    refine wseq ?_
    refine wregion ?_
    refine lv (v := (.bool (decide ((k_1 : Int) < (p0_sizes.length : Int))))) rfl rfl (r_lss (k_1 : Int) (p0_sizes.length : Int) rfl rfl) ?_
    refine lnil ?_
    refine wseq ?_
    refine wcondF (congrArg Value.bool hkb) ?_
    refine wexit (inB_hit ?_)
    refine wseq ?_
    refine wseq ?_
    refine wregion ?_
    refine lv (v := (.bool none_5)) rfl rfl (r_move rfl) ?_
    refine lnil ?_
    refine wcond (none_5) rfl (fun hb => ?_) (fun hb => ?_)
    · rw [if_pos hb] at hm
      clear hb
      refine wseq ?_
      refine wregion ?_
      refine lv (v := (.int .i64 0)) rfl rfl (r_assign rfl) ?_
      refine lv (v := (.int .i64 0)) rfl rfl (r_assign rfl) ?_
      refine lnil ?_
      refine wret ?_
      cases hm
      exact ⟨rfl, rfl, hst.below⟩
    · rw [if_neg (by rw [hb]; decide)] at hm
      clear hb
      refine wskip ?_
      refine wseq ?_
      refine wregion ?_
      refine lv (v := (.int .i64 1)) rfl rfl (r_assign rfl) ?_
      refine lnil ?_
      refine wseq ?_
      refine wseq ?_
      refine wregion ?_
      refine lv (v := (.slice a0 p0_sizes.length cap0)) rfl rfl (r_move rfl) ?_
      refine lv (v := (.int .i64 (p0_sizes.length : Int))) rfl rfl (r_len Try.underlying30 rfl) ?_
      refine lv (v := (.int .i64 0)) rfl rfl (r_move rfl) ?_
      refine lnil ?_
      refine wblock ?_
      refine wloop (fun n f w_10 => ∃ (col_11 : Col) (n_12 : Int) (k_8 : Nat) (l_9 : List Int), n = l_9.length ∧ p0_sizes.drop k_8 = l_9 ∧ m_radix_Count_credencelaw10_Small_L2 l_9 n_12 = some r ∧ St w0 (col0 col) col_11 w_10 ∧ Sl (Rep.int .u16) col_11 w_10 a0 cap0 p0_sizes ∧ f 27 = (.int .i64 (k_8 : Int)) ∧ f 0 = (.slice a0 p0_sizes.length cap0) ∧ f 7 = (.int .i64 n_12) ∧ f 25 = (.slice a0 p0_sizes.length cap0) ∧ f 26 = (.int .i64 (p0_sizes.length : Int)) ∧ f 1000000 = (enc [])) p0_sizes.length ⟨col_4, 1, 0, p0_sizes, rfl, rfl, hm, hst, h0, rfl, rfl, rfl, rfl, rfl, rfl⟩ ?_
      clear hm; intro n f w_10 hI
      obtain ⟨col_11, n_12, k_8, l_9, hn, hl, hm, hst, h0, hs27, hs0, hs7, hs25, hs26, hs1000000⟩ := hI
      subst hn
      refine .ld (d := 27) (v := (.int .i64 (k_8 : Int))) hs27 ?_
      refine .ld (d := 0) (v := (.slice a0 p0_sizes.length cap0)) hs0 ?_
      refine .ld (d := 7) (v := (.int .i64 n_12)) hs7 ?_
      refine .ld (d := 25) (v := (.slice a0 p0_sizes.length cap0)) hs25 ?_
      refine .ld (d := 26) (v := (.int .i64 (p0_sizes.length : Int))) hs26 ?_
      refine .ld (d := 1000000) (v := (enc [])) hs1000000 ?_
      clear hs27 hs0 hs7 hs25 hs26 hs1000000
      cases l_9 with
      | nil =>
        have hk : ¬ ((k_8 : Int) < (p0_sizes.length : Int)) := by have := List.drop_eq_nil_iff.1 hl; omega
        have hkb := decide_eq_false hk
        rw [m_radix_Count_credencelaw10_Small_L2.eq_1] at hm
        refine wseq ?_
        refine wregion ?_
        refine lv (v := (.bool (decide ((k_8 : Int) < (p0_sizes.length : Int))))) rfl rfl (r_lss (k_8 : Int) (p0_sizes.length : Int) rfl rfl) ?_
        refine lnil ?_
        refine wseq ?_
        refine wcondF (congrArg Value.bool hkb) ?_
        refine wexit (inB_hit ?_)
        refine wseq ?_
        refine wregion ?_
        refine lv (v := (.int .i64 n_12)) rfl rfl (r_move rfl) ?_
        refine lv (v := (.int .i64 n_12)) rfl rfl (r_assign rfl) ?_
        refine lv (v := (.int .i64 0)) rfl rfl (r_assign rfl) ?_
        refine lnil ?_
        refine wret ?_
        cases hm
        exact ⟨rfl, rfl, hst.below⟩
      | cons x_13 l_14 =>
        obtain ⟨hat, hl2, hlt⟩ := drop_get hl
        have hk : (k_8 : Int) < (p0_sizes.length : Int) := by omega
        have hkb := decide_eq_true hk
        rw [m_radix_Count_credencelaw10_Small_L2.eq_2] at hm
        refine wseq ?_
        refine wregion ?_
        refine lv (v := (.bool (decide ((k_8 : Int) < (p0_sizes.length : Int))))) rfl rfl (r_lss (k_8 : Int) (p0_sizes.length : Int) rfl rfl) ?_
        refine lnil ?_
        refine wseq ?_
        refine wcondT (congrArg Value.bool hkb) ?_
        refine wskip ?_
        refine wseq ?_
        refine wblock ?_
        refine wseq ?_
        refine wregion ?_
        refine lv (v := (sptr a0 (Int.toNat (k_8 : Int) * 1))) rfl rfl (r_idx Try.underlying30 Try.sizeOf29 rfl rfl (at?_some hat).1 (at?_some hat).2.1 (h0.addr hat)) ?_
        refine lv (v := (.int .u16 x_13)) rfl rfl (r_ld Try.isAgg29 rfl (h0.atInt hat)) ?_
        refine lv (v := (.int .u16 x_13)) rfl rfl (r_assign rfl) ?_
        refine lnil ?_
        refine wseq ?_
        refine wseq ?_
        refine wregion ?_
        refine lv (v := (.int .u16 x_13)) rfl rfl (r_move rfl) ?_
        refine lv (v := (.int .i64 (IntKind.i64.wrap x_13))) rfl rfl (r_conv x_13 ⟨_, Try.underlying29⟩ Try.underlying3 rfl) ?_
        refine lv (v := (.int .i64 n_12)) rfl rfl (r_move rfl) ?_
        obtain ⟨h0_15, hm⟩ := chk_some hm
        refine lv (v := (.int .i64 (IntKind.i64.wrap (Int.tdiv 2147483647 n_12)))) rfl rfl (r_quo 2147483647 n_12 rfl rfl h0_15) ?_
        refine lv (v := (.bool (decide ((IntKind.i64.wrap (Int.tdiv 2147483647 n_12)) < (IntKind.i64.wrap x_13))))) rfl rfl (r_gtr (IntKind.i64.wrap x_13) (IntKind.i64.wrap (Int.tdiv 2147483647 n_12)) rfl rfl) ?_
        refine lnil ?_
        refine wcond (decide ((IntKind.i64.wrap (Int.tdiv 2147483647 n_12)) < (IntKind.i64.wrap x_13))) rfl (fun hb => ?_) (fun hb => ?_)
        · rw [if_pos hb] at hm
          clear hb
          refine wseq ?_
          refine wregion ?_
          refine lv (v := (.int .i64 0)) rfl rfl (r_assign rfl) ?_
          refine lv (v := (.int .i64 4)) rfl rfl (r_assign rfl) ?_
          refine lnil ?_
          refine wret ?_
          cases hm
          exact ⟨rfl, rfl, hst.below⟩
        · rw [if_neg (by rw [hb]; decide)] at hm
          clear hb
          refine wskip ?_
          refine wregion ?_
          refine lv (v := (.int .i64 n_12)) rfl rfl (r_move rfl) ?_
          refine lv (v := (.int .u16 x_13)) rfl rfl (r_move rfl) ?_
          refine lv (v := (.int .i64 (IntKind.i64.wrap x_13))) rfl rfl (r_conv x_13 ⟨_, Try.underlying29⟩ Try.underlying3 rfl) ?_
          refine lv (v := (.int .i64 (IntKind.i64.wrap (n_12 * (IntKind.i64.wrap x_13))))) rfl rfl (r_mul n_12 (IntKind.i64.wrap x_13) rfl rfl) ?_
          refine lv (v := (.int .i64 (IntKind.i64.wrap (n_12 * (IntKind.i64.wrap x_13))))) rfl rfl (r_assign rfl) ?_
          refine lnil ?_
          refine wregion ?_
          refine lv (v := (.int .i64 (IntKind.i64.wrap ((k_8 : Int) + 1)))) rfl rfl (r_add (k_8 : Int) 1 rfl rfl) ?_
          refine lv (v := (.int .i64 (IntKind.i64.wrap ((k_8 : Int) + 1)))) rfl rfl (r_move rfl) ?_
          refine lnil ?_
          exact ⟨l_14.length, by simp, ⟨col_11, (IntKind.i64.wrap (n_12 * (IntKind.i64.wrap x_13))), (k_8 + 1), l_14, rfl, hl2, hm, hst, h0, (congrArg (Value.int .i64) (wrap_succ (Nat.lt_of_lt_of_le hlt h0.1.1))), rfl, rfl, rfl, rfl, rfl⟩⟩
  | cons x_6 l_7 =>
    obtain ⟨hat, hl2, hlt⟩ := drop_get hl
    have hk : (k_1 : Int) < (p0_sizes.length : Int) := by omega
    have hkb := decide_eq_true hk
    rw [m_radix_Count_credencelaw10_Small_L1.eq_2] at hm
    refine wseq ?_
    refine wregion ?_
    refine lv (v := (.bool (decide ((k_1 : Int) < (p0_sizes.length : Int))))) rfl rfl (r_lss (k_1 : Int) (p0_sizes.length : Int) rfl rfl) ?_
    refine lnil ?_
    refine wseq ?_
    refine wcondT (congrArg Value.bool hkb) ?_
    refine wskip ?_
    refine wseq ?_
    refine Wp.cut (fun f w_16 => ∃ (col_17 : Col) (none_18 : Bool), m_radix_Count_credencelaw10_Small_J1 (m_radix_Count_credencelaw10_Small_L1 p0_sizes l_7) none_18 = some r ∧ St w0 (col0 col) col_17 w_16 ∧ Sl (Rep.int .u16) col_17 w_16 a0 cap0 p0_sizes ∧ f 0 = (.slice a0 p0_sizes.length cap0) ∧ f 4 = (.bool none_18) ∧ f 10 = (.slice a0 p0_sizes.length cap0) ∧ f 11 = (.int .i64 (p0_sizes.length : Int)) ∧ f 12 = (.int .i64 (k_1 : Int)) ∧ f 1000000 = (enc [])) ?_ ?_
    · intro f w_16 hJ
      obtain ⟨col_17, none_18, hm, hst, h0, hs0, hs4, hs10, hs11, hs12, hs1000000⟩ := hJ
      rw [m_radix_Count_credencelaw10_Small_J1.eq_1] at hm
      refine .ld (d := 0) (v := (.slice a0 p0_sizes.length cap0)) hs0 ?_
      refine .ld (d := 4) (v := (.bool none_18)) hs4 ?_
      refine .ld (d := 10) (v := (.slice a0 p0_sizes.length cap0)) hs10 ?_
      refine .ld (d := 11) (v := (.int .i64 (p0_sizes.length : Int))) hs11 ?_
      refine .ld (d := 12) (v := (.int .i64 (k_1 : Int))) hs12 ?_
      refine .ld (d := 1000000) (v := (enc [])) hs1000000 ?_
      clear hs0 hs4 hs10 hs11 hs12 hs1000000
      refine wregion ?_
      refine lv (v := (.int .i64 (IntKind.i64.wrap ((k_1 : Int) + 1)))) rfl rfl (r_add (k_1 : Int) 1 rfl rfl) ?_
      refine lv (v := (.int .i64 (IntKind.i64.wrap ((k_1 : Int) + 1)))) rfl rfl (r_move rfl) ?_
      refine lnil ?_
      exact ⟨l_7.length, by simp, ⟨col_17, none_18, (k_1 + 1), l_7, rfl, hl2, hm, hst, h0, (congrArg (Value.int .i64) (wrap_succ (Nat.lt_of_lt_of_le hlt h0.1.1))), rfl, rfl, rfl, rfl, rfl⟩⟩
    · refine wblock ?_
      refine wseq ?_
      refine wregion ?_
      refine lv (v := (sptr a0 (Int.toNat (k_1 : Int) * 1))) rfl rfl (r_idx Try.underlying30 Try.sizeOf29 rfl rfl (at?_some hat).1 (at?_some hat).2.1 (h0.addr hat)) ?_
      refine lv (v := (.int .u16 x_6)) rfl rfl (r_ld Try.isAgg29 rfl (h0.atInt hat)) ?_
      refine lv (v := (.int .u16 x_6)) rfl rfl (r_assign rfl) ?_
      refine lnil ?_
      refine wseq ?_
      refine wseq ?_
      refine wregion ?_
      refine lv (v := (.int .u16 x_6)) rfl rfl (r_move rfl) ?_
      refine lv (v := (.bool (decide (x_6 < 0)))) rfl rfl (r_lss x_6 0 rfl rfl) ?_
      refine lnil ?_
      refine wcond (decide (x_6 < 0)) rfl (fun hb => ?_) (fun hb => ?_)
      · rw [if_pos hb] at hm
        clear hb
        refine wseq ?_
        refine wregion ?_
        refine lv (v := (.int .i64 0)) rfl rfl (r_assign rfl) ?_
        refine lv (v := (.int .i64 3)) rfl rfl (r_assign rfl) ?_
        refine lnil ?_
        refine wret ?_
        cases hm
        exact ⟨rfl, rfl, hst.below⟩
      · rw [if_neg (by rw [hb]; decide)] at hm
        clear hb
        refine wskip ?_
        refine wregion ?_
        refine lv (v := (.bool none_5)) rfl rfl (r_move rfl) ?_
        refine lv (v := (.bool none_5)) rfl rfl (r_move rfl) ?_
        by_cases hg_19 : none_5 = true
        · rw [if_pos hg_19] at hm
          refine lp (b := none_5) 19 rfl rfl rfl rfl (by rw [hg_19]; rfl) ?_
          refine lp (b := none_5) 19 rfl rfl rfl rfl (by rw [hg_19]; rfl) ?_
          refine lv (v := (.bool true)) rfl rfl (r_pickT (congrArg Value.bool hg_19) rfl) ?_
          refine lv (v := (.bool true)) rfl rfl (r_assign rfl) ?_
          refine lnil ?_
          exact ⟨col_4, true, hm, hst, h0, rfl, rfl, rfl, rfl, rfl, rfl⟩
        · rw [if_neg hg_19] at hm
          replace hg_19 := Bool.eq_false_iff.2 hg_19
          refine lg (b := none_5) 19 rfl rfl rfl (by rw [hg_19]; rfl) ?_
          refine lv (v := (.int .u16 x_6)) rfl rfl (r_move rfl) ?_
          refine lg (b := none_5) 19 rfl rfl rfl (by rw [hg_19]; rfl) ?_
          refine lv (v := (.bool (decide (x_6 = 0)))) rfl rfl (r_eql x_6 0 rfl rfl) ?_
          refine lv (v := (.bool (decide (x_6 = 0)))) rfl rfl (r_pickF (congrArg Value.bool hg_19) rfl) ?_
          refine lv (v := (.bool (decide (x_6 = 0)))) rfl rfl (r_assign rfl) ?_
          refine lnil ?_
          exact ⟨col_4, (decide (x_6 = 0)), hm, hst, h0, rfl, rfl, rfl, rfl, rfl, rfl⟩



theorem el3_15 : ElemOk Try.prog 3 1 8 := ⟨Try.t3, _, rfl, rfl, rfl, rfl, rfl⟩
theorem el21_15 : ElemOk Try.prog 21 1 4 := ⟨Try.t21, _, rfl, rfl, rfl, rfl, rfl⟩
theorem el29_15 : ElemOk Try.prog 29 1 2 := ⟨Try.t29, _, rfl, rfl, rfl, rfl, rfl⟩

def m_credencelaw10_alive_J1 (v_40 : Bool) : Option Bool :=
  some v_40

def m_credencelaw10_alive (N : Nat)  : Option Bool :=
  (m_radix_At_int [2, 3] [1, 2]).bind fun r_11 => (m_radix_Digits_int32 N [2, 3] 5).bind fun r_20 => (m_radix_Count_credencelaw10_Small [2, 3]).bind fun r_34 => if (decide (r_11.2 = 0)) = true then (if (decide (r_11.1 = 5)) = true then (if (decide (r_20.2 = 0)) = true then (if (decide ((r_20.1.length : Int) = 2)) = true then ((at? r_20.1 0).bind fun e_45 => if (decide (e_45 = 1)) = true then ((at? r_20.1 1).bind fun e_48 => if (decide (e_48 = 2)) = true then (if (decide (r_34.2 = 0)) = true then (m_credencelaw10_alive_J1  (decide (r_34.1 = 6))) else (m_credencelaw10_alive_J1  false)) else (m_credencelaw10_alive_J1  false)) else (m_credencelaw10_alive_J1  false)) else (m_credencelaw10_alive_J1  false)) else (m_credencelaw10_alive_J1  false)) else (m_credencelaw10_alive_J1  false)) else (m_credencelaw10_alive_J1  false)

set_option maxRecDepth 100000 in
theorem c_credencelaw10_alive (N : Nat) (col : Col) (w0 : World)  (r : Bool) (hm : m_credencelaw10_alive N  = some r) :
    Calls Try.prog 15 #[] w0 (fun e w' => e = .returned (.bool r) ∧ Below w0.heap.size w0 w') := by
  refine calls_of1 0 (m := 58) (args := []) Try.func15 rfl rfl rfl rfl rfl ?_
  rw [m_credencelaw10_alive.eq_1] at hm
  have hst := St.start col w0
  refine wseq ?_
  refine wregion ?_
  refine lv (v := (.bool false)) rfl rfl (r_assign rfl) ?_
  refine lnil ?_
  refine wseq ?_
  refine wregion ?_
  refine l_lit (col := (col0 col)) (r := (Rep.int .i64)) (xs := [2, 3]) [(.int .i64 2), (.int .i64 3)] 1 rfl Try.underlying22 el3_15 rfl rfl rfl rfl rfl rfl (by intro v hv; simp only [List.mem_cons, List.not_mem_nil, or_false] at hv; rcases hv with rfl | rfl <;> rfl) ⟨_, _, rfl, rfl, ⟨_, _, rfl, rfl, rfl⟩⟩ ?_
  intro a_1 w_2 col_3 hg_4 h_5
  replace hst := hst.grow hg_4
  refine l_lit (col := col_3) (r := (Rep.int .i64)) (xs := [1, 2]) [(.int .i64 1), (.int .i64 2)] 2 rfl Try.underlying22 el3_15 rfl rfl rfl rfl rfl rfl (by intro v hv; simp only [List.mem_cons, List.not_mem_nil, or_false] at hv; rcases hv with rfl | rfl <;> rfl) ⟨_, _, rfl, rfl, ⟨_, _, rfl, rfl, rfl⟩⟩ ?_
  intro a_6 w_7 col_8 hg_9 h_10
  replace h_5 := h_5.gr hg_9
  replace hst := hst.grow hg_9
  obtain ⟨r_11, hr_12, hm⟩ := bind_some hm
  refine lc rfl rfl (r_call2 Try.call16 rfl rfl) (c_radix_At_int (froz 2 (froz 1 col_8)) _ a_1 2 [2, 3] (((h_5).toSl).froz 2) a_6 2 [1, 2] (((h_10).froz 1 (by decide)).toSl) r_11 hr_12) ?_
  rintro _ w_13 ⟨rfl, hg_14⟩
  refine ⟨_, rfl, ?_⟩
  have hg_14 : Grow col_8 w_7 col_8 w_13 := .of_below hg_14
  replace h_5 := h_5.gr hg_14
  replace h_10 := h_10.gr hg_14
  replace hst := hst.grow hg_14
  refine lv (v := (.tuple #[(.int .i64 r_11.1), (.int .i64 r_11.2)])) rfl rfl (r_move rfl) ?_
  refine lv (v := (.int .i64 r_11.1)) rfl rfl (r_extract rfl rfl) ?_
  refine lv (v := (.int .i64 r_11.2)) rfl rfl (r_extract rfl rfl) ?_
  refine lv (v := (.int .i64 r_11.1)) rfl rfl (r_assign rfl) ?_
  refine lv (v := (.int .i64 r_11.2)) rfl rfl (r_assign rfl) ?_
  refine lnil ?_
  refine wseq ?_
  refine wregion ?_
  refine l_lit (col := col_8) (r := (Rep.int .i32)) (xs := [2, 3]) [(.int .i32 2), (.int .i32 3)] 3 rfl Try.underlying25 el21_15 rfl rfl rfl rfl rfl rfl (by intro v hv; simp only [List.mem_cons, List.not_mem_nil, or_false] at hv; rcases hv with rfl | rfl <;> rfl) ⟨_, _, rfl, rfl, ⟨_, _, rfl, rfl, rfl⟩⟩ ?_
  intro a_15 w_16 col_17 hg_18 h_19
  replace h_5 := h_5.gr hg_18
  replace h_10 := h_10.gr hg_18
  replace hst := hst.grow hg_18
  obtain ⟨r_20, hr_21, hm⟩ := bind_some hm
  refine lc rfl rfl (r_call2 Try.call39 rfl rfl) (c_radix_Digits_int32 N 4 (froz 3 col_17) _ a_15 2 [2, 3] ((h_19).toSl) 5 r_20 hr_21) ?_
  rintro _ w_25 ⟨col_27, a_22, cap_23, rfl, hg_26, h_24⟩
  refine ⟨_, rfl, ?_⟩
  replace h_24 := h_24.thaw (flat_int .i32) hg_26 ((Fz.refl (col := col_17)).froz 3) (by decide)
  replace hg_26 := hg_26.thawR (col := col_17)
  generalize colR w_16.heap.size col_17 col_27 = col_28 at *
  replace h_5 := h_5.gr hg_26
  replace h_10 := h_10.gr hg_26
  replace h_19 := h_19.gr hg_26
  replace hst := hst.grow hg_26
  refine lv (v := (.tuple #[(.slice a_22 r_20.1.length cap_23), (.int .i64 r_20.2)])) rfl rfl (r_move rfl) ?_
  refine lv (v := (.slice a_22 r_20.1.length cap_23)) rfl rfl (r_extract rfl rfl) ?_
  refine lv (v := (.int .i64 r_20.2)) rfl rfl (r_extract rfl rfl) ?_
  refine lv (v := (.slice a_22 r_20.1.length cap_23)) rfl rfl (r_assign rfl) ?_
  refine lv (v := (.int .i64 r_20.2)) rfl rfl (r_assign rfl) ?_
  refine lnil ?_
  refine wseq ?_
  refine wregion ?_
  refine l_lit (col := col_28) (r := (Rep.int .u16)) (xs := [2, 3]) [(.int .u16 2), (.int .u16 3)] 5 rfl Try.underlying30 el29_15 rfl rfl rfl rfl rfl rfl (by intro v hv; simp only [List.mem_cons, List.not_mem_nil, or_false] at hv; rcases hv with rfl | rfl <;> rfl) ⟨_, _, rfl, rfl, ⟨_, _, rfl, rfl, rfl⟩⟩ ?_
  intro a_29 w_30 col_31 hg_32 h_33
  replace h_5 := h_5.gr hg_32
  replace h_10 := h_10.gr hg_32
  replace h_19 := h_19.gr hg_32
  replace h_24 := h_24.gr hg_32
  replace hst := hst.grow hg_32
  obtain ⟨r_34, hr_35, hm⟩ := bind_some hm
  refine lc rfl rfl (r_call1 Try.call40 rfl) (c_radix_Count_credencelaw10_Small (froz 5 col_31) _ a_29 2 [2, 3] ((h_33).toSl) r_34 hr_35) ?_
  rintro _ w_36 ⟨rfl, hg_37⟩
  refine ⟨_, rfl, ?_⟩
  have hg_37 : Grow col_31 w_30 col_31 w_36 := .of_below hg_37
  replace h_5 := h_5.gr hg_37
  replace h_10 := h_10.gr hg_37
  replace h_19 := h_19.gr hg_37
  replace h_24 := h_24.gr hg_37
  replace h_33 := h_33.gr hg_37
  replace hst := hst.grow hg_37
  refine lv (v := (.tuple #[(.int .i64 r_34.1), (.int .i64 r_34.2)])) rfl rfl (r_move rfl) ?_
  refine lv (v := (.int .i64 r_34.1)) rfl rfl (r_extract rfl rfl) ?_
  refine lv (v := (.int .i64 r_34.2)) rfl rfl (r_extract rfl rfl) ?_
  refine lv (v := (.int .i64 r_34.1)) rfl rfl (r_assign rfl) ?_
  refine lv (v := (.int .i64 r_34.2)) rfl rfl (r_assign rfl) ?_
  refine lnil ?_
  refine wseq ?_
  refine Wp.cut (fun f w_38 => ∃ (col_39 : Col) (v_40 : Bool), m_credencelaw10_alive_J1  v_40 = some r ∧ St w0 (col0 col) col_39 w_38 ∧ f 0 = (.bool v_40) ∧ f 1000000 = (enc [])) ?_ ?_
  · intro f w_38 hJ
    obtain ⟨col_39, v_40, hm, hst, hs0, hs1000000⟩ := hJ
    rw [m_credencelaw10_alive_J1.eq_1] at hm
    refine .ld (d := 0) (v := (.bool v_40)) hs0 ?_
    refine .ld (d := 1000000) (v := (enc [])) hs1000000 ?_
    clear hs0 hs1000000
    refine wret ?_
    cases hm
    exact ⟨rfl, rfl, hst.below⟩
  · refine wregion ?_
    refine lv (v := (.int .i64 r_11.2)) rfl rfl (r_move rfl) ?_
    refine lv (v := (.bool (decide (r_11.2 = 0)))) rfl rfl (r_eql r_11.2 0 rfl rfl) ?_
    refine lv (v := (.bool (decide (r_11.2 = 0)))) rfl rfl (r_move rfl) ?_
    by_cases hg_41 : (decide (r_11.2 = 0)) = true
    · rw [if_pos hg_41] at hm
      refine lg (b := decide (r_11.2 = 0)) 25 rfl rfl rfl (by rw [hg_41]; rfl) ?_
      refine lv (v := (.int .i64 r_11.1)) rfl rfl (r_move rfl) ?_
      refine lg (b := decide (r_11.2 = 0)) 25 rfl rfl rfl (by rw [hg_41]; rfl) ?_
      refine lv (v := (.bool (decide (r_11.1 = 5)))) rfl rfl (r_eql r_11.1 5 rfl rfl) ?_
      refine lv (v := (.bool (decide (r_11.1 = 5)))) rfl rfl (r_pickT (congrArg Value.bool hg_41) rfl) ?_
      refine lv (v := (.bool (decide (r_11.1 = 5)))) rfl rfl (r_move rfl) ?_
      by_cases hg_42 : (decide (r_11.1 = 5)) = true
      · rw [if_pos hg_42] at hm
        refine lg (b := decide (r_11.1 = 5)) 29 rfl rfl rfl (by rw [hg_42]; rfl) ?_
        refine lv (v := (.int .i64 r_20.2)) rfl rfl (r_move rfl) ?_
        refine lg (b := decide (r_11.1 = 5)) 29 rfl rfl rfl (by rw [hg_42]; rfl) ?_
        refine lv (v := (.bool (decide (r_20.2 = 0)))) rfl rfl (r_eql r_20.2 0 rfl rfl) ?_
        refine lv (v := (.bool (decide (r_20.2 = 0)))) rfl rfl (r_pickT (congrArg Value.bool hg_42) rfl) ?_
        refine lv (v := (.bool (decide (r_20.2 = 0)))) rfl rfl (r_move rfl) ?_
        by_cases hg_43 : (decide (r_20.2 = 0)) = true
        · rw [if_pos hg_43] at hm
          refine lg (b := decide (r_20.2 = 0)) 33 rfl rfl rfl (by rw [hg_43]; rfl) ?_
          refine lv (v := (.slice a_22 r_20.1.length cap_23)) rfl rfl (r_move rfl) ?_
          refine lg (b := decide (r_20.2 = 0)) 33 rfl rfl rfl (by rw [hg_43]; rfl) ?_
          refine lv (v := (.int .i64 (r_20.1.length : Int))) rfl rfl (r_len Try.underlying25 rfl) ?_
          refine lg (b := decide (r_20.2 = 0)) 33 rfl rfl rfl (by rw [hg_43]; rfl) ?_
          refine lv (v := (.bool (decide ((r_20.1.length : Int) = 2)))) rfl rfl (r_eql (r_20.1.length : Int) 2 rfl rfl) ?_
          refine lv (v := (.bool (decide ((r_20.1.length : Int) = 2)))) rfl rfl (r_pickT (congrArg Value.bool hg_43) rfl) ?_
          refine lv (v := (.bool (decide ((r_20.1.length : Int) = 2)))) rfl rfl (r_move rfl) ?_
          by_cases hg_44 : (decide ((r_20.1.length : Int) = 2)) = true
          · rw [if_pos hg_44] at hm
            refine lg (b := decide ((r_20.1.length : Int) = 2)) 38 rfl rfl rfl (by rw [hg_44]; rfl) ?_
            refine lv (v := (.slice a_22 r_20.1.length cap_23)) rfl rfl (r_move rfl) ?_
            refine lg (b := decide ((r_20.1.length : Int) = 2)) 38 rfl rfl rfl (by rw [hg_44]; rfl) ?_
            obtain ⟨e_45, hj_46, hm⟩ := bind_some hm
            refine lv (v := (sptr a_22 (Int.toNat 0 * 1))) rfl rfl (r_idx Try.underlying25 Try.sizeOf21 rfl rfl (at?_some hj_46).1 (at?_some hj_46).2.1 (h_24.addr hj_46)) ?_
            refine lg (b := decide ((r_20.1.length : Int) = 2)) 38 rfl rfl rfl (by rw [hg_44]; rfl) ?_
            refine lv (v := (.int .i32 e_45)) rfl rfl (r_ld Try.isAgg21 rfl (h_24.atInt hj_46)) ?_
            refine lg (b := decide ((r_20.1.length : Int) = 2)) 38 rfl rfl rfl (by rw [hg_44]; rfl) ?_
            refine lv (v := (.bool (decide (e_45 = 1)))) rfl rfl (r_eql e_45 1 rfl rfl) ?_
            refine lv (v := (.bool (decide (e_45 = 1)))) rfl rfl (r_pickT (congrArg Value.bool hg_44) rfl) ?_
            refine lv (v := (.bool (decide (e_45 = 1)))) rfl rfl (r_move rfl) ?_
            by_cases hg_47 : (decide (e_45 = 1)) = true
            · rw [if_pos hg_47] at hm
              refine lg (b := decide (e_45 = 1)) 44 rfl rfl rfl (by rw [hg_47]; rfl) ?_
              refine lv (v := (.slice a_22 r_20.1.length cap_23)) rfl rfl (r_move rfl) ?_
              refine lg (b := decide (e_45 = 1)) 44 rfl rfl rfl (by rw [hg_47]; rfl) ?_
              obtain ⟨e_48, hj_49, hm⟩ := bind_some hm
              refine lv (v := (sptr a_22 (Int.toNat 1 * 1))) rfl rfl (r_idx Try.underlying25 Try.sizeOf21 rfl rfl (at?_some hj_49).1 (at?_some hj_49).2.1 (h_24.addr hj_49)) ?_
              refine lg (b := decide (e_45 = 1)) 44 rfl rfl rfl (by rw [hg_47]; rfl) ?_
              refine lv (v := (.int .i32 e_48)) rfl rfl (r_ld Try.isAgg21 rfl (h_24.atInt hj_49)) ?_
              refine lg (b := decide (e_45 = 1)) 44 rfl rfl rfl (by rw [hg_47]; rfl) ?_
              refine lv (v := (.bool (decide (e_48 = 2)))) rfl rfl (r_eql e_48 2 rfl rfl) ?_
              refine lv (v := (.bool (decide (e_48 = 2)))) rfl rfl (r_pickT (congrArg Value.bool hg_47) rfl) ?_
              refine lv (v := (.bool (decide (e_48 = 2)))) rfl rfl (r_move rfl) ?_
              by_cases hg_50 : (decide (e_48 = 2)) = true
              · rw [if_pos hg_50] at hm
                refine lg (b := decide (e_48 = 2)) 50 rfl rfl rfl (by rw [hg_50]; rfl) ?_
                refine lv (v := (.int .i64 r_34.2)) rfl rfl (r_move rfl) ?_
                refine lg (b := decide (e_48 = 2)) 50 rfl rfl rfl (by rw [hg_50]; rfl) ?_
                refine lv (v := (.bool (decide (r_34.2 = 0)))) rfl rfl (r_eql r_34.2 0 rfl rfl) ?_
                refine lv (v := (.bool (decide (r_34.2 = 0)))) rfl rfl (r_pickT (congrArg Value.bool hg_50) rfl) ?_
                refine lv (v := (.bool (decide (r_34.2 = 0)))) rfl rfl (r_move rfl) ?_
                by_cases hg_51 : (decide (r_34.2 = 0)) = true
                · rw [if_pos hg_51] at hm
                  refine lg (b := decide (r_34.2 = 0)) 54 rfl rfl rfl (by rw [hg_51]; rfl) ?_
                  refine lv (v := (.int .i64 r_34.1)) rfl rfl (r_move rfl) ?_
                  refine lg (b := decide (r_34.2 = 0)) 54 rfl rfl rfl (by rw [hg_51]; rfl) ?_
                  refine lv (v := (.bool (decide (r_34.1 = 6)))) rfl rfl (r_eql r_34.1 6 rfl rfl) ?_
                  refine lv (v := (.bool (decide (r_34.1 = 6)))) rfl rfl (r_pickT (congrArg Value.bool hg_51) rfl) ?_
                  refine lv (v := (.bool (decide (r_34.1 = 6)))) rfl rfl (r_assign rfl) ?_
                  refine lnil ?_
                  exact ⟨col_31, (decide (r_34.1 = 6)), hm, hst, rfl, rfl⟩
                · rw [if_neg hg_51] at hm
                  replace hg_51 := Bool.eq_false_iff.2 hg_51
                  refine lp (b := decide (r_34.2 = 0)) 54 rfl rfl rfl rfl (by rw [hg_51]; rfl) ?_
                  refine lp (b := decide (r_34.2 = 0)) 54 rfl rfl rfl rfl (by rw [hg_51]; rfl) ?_
                  refine lv (v := (.bool false)) rfl rfl (r_pickF (congrArg Value.bool hg_51) rfl) ?_
                  refine lv (v := (.bool false)) rfl rfl (r_assign rfl) ?_
                  refine lnil ?_
                  exact ⟨col_31, false, hm, hst, rfl, rfl⟩
              · rw [if_neg hg_50] at hm
                replace hg_50 := Bool.eq_false_iff.2 hg_50
                refine lp (b := decide (e_48 = 2)) 50 rfl rfl rfl rfl (by rw [hg_50]; rfl) ?_
                refine lp (b := decide (e_48 = 2)) 50 rfl rfl rfl rfl (by rw [hg_50]; rfl) ?_
                refine lv (v := (.bool false)) rfl rfl (r_pickF (congrArg Value.bool hg_50) rfl) ?_
                refine lv (v := (.bool false)) rfl rfl (r_move rfl) ?_
                refine lp (b := false) 54 rfl rfl rfl rfl rfl ?_
                refine lp (b := false) 54 rfl rfl rfl rfl rfl ?_
                refine lv (v := (.bool false)) rfl rfl (r_pickF rfl rfl) ?_
                refine lv (v := (.bool false)) rfl rfl (r_assign rfl) ?_
                refine lnil ?_
                exact ⟨col_31, false, hm, hst, rfl, rfl⟩
            · rw [if_neg hg_47] at hm
              replace hg_47 := Bool.eq_false_iff.2 hg_47
              refine lp (b := decide (e_45 = 1)) 44 rfl rfl rfl rfl (by rw [hg_47]; rfl) ?_
              refine lp (b := decide (e_45 = 1)) 44 rfl rfl rfl rfl (by rw [hg_47]; rfl) ?_
              refine lp (b := decide (e_45 = 1)) 44 rfl rfl rfl rfl (by rw [hg_47]; rfl) ?_
              refine lp (b := decide (e_45 = 1)) 44 rfl rfl rfl rfl (by rw [hg_47]; rfl) ?_
              refine lv (v := (.bool false)) rfl rfl (r_pickF (congrArg Value.bool hg_47) rfl) ?_
              refine lv (v := (.bool false)) rfl rfl (r_move rfl) ?_
              refine lp (b := false) 50 rfl rfl rfl rfl rfl ?_
              refine lp (b := false) 50 rfl rfl rfl rfl rfl ?_
              refine lv (v := (.bool false)) rfl rfl (r_pickF rfl rfl) ?_
              refine lv (v := (.bool false)) rfl rfl (r_move rfl) ?_
              refine lp (b := false) 54 rfl rfl rfl rfl rfl ?_
              refine lp (b := false) 54 rfl rfl rfl rfl rfl ?_
              refine lv (v := (.bool false)) rfl rfl (r_pickF rfl rfl) ?_
              refine lv (v := (.bool false)) rfl rfl (r_assign rfl) ?_
              refine lnil ?_
              exact ⟨col_31, false, hm, hst, rfl, rfl⟩
          · rw [if_neg hg_44] at hm
            replace hg_44 := Bool.eq_false_iff.2 hg_44
            refine lp (b := decide ((r_20.1.length : Int) = 2)) 38 rfl rfl rfl rfl (by rw [hg_44]; rfl) ?_
            refine lp (b := decide ((r_20.1.length : Int) = 2)) 38 rfl rfl rfl rfl (by rw [hg_44]; rfl) ?_
            refine lp (b := decide ((r_20.1.length : Int) = 2)) 38 rfl rfl rfl rfl (by rw [hg_44]; rfl) ?_
            refine lp (b := decide ((r_20.1.length : Int) = 2)) 38 rfl rfl rfl rfl (by rw [hg_44]; rfl) ?_
            refine lv (v := (.bool false)) rfl rfl (r_pickF (congrArg Value.bool hg_44) rfl) ?_
            refine lv (v := (.bool false)) rfl rfl (r_move rfl) ?_
            refine lp (b := false) 44 rfl rfl rfl rfl rfl ?_
            refine lp (b := false) 44 rfl rfl rfl rfl rfl ?_
            refine lp (b := false) 44 rfl rfl rfl rfl rfl ?_
            refine lp (b := false) 44 rfl rfl rfl rfl rfl ?_
            refine lv (v := (.bool false)) rfl rfl (r_pickF rfl rfl) ?_
            refine lv (v := (.bool false)) rfl rfl (r_move rfl) ?_
            refine lp (b := false) 50 rfl rfl rfl rfl rfl ?_
            refine lp (b := false) 50 rfl rfl rfl rfl rfl ?_
            refine lv (v := (.bool false)) rfl rfl (r_pickF rfl rfl) ?_
            refine lv (v := (.bool false)) rfl rfl (r_move rfl) ?_
            refine lp (b := false) 54 rfl rfl rfl rfl rfl ?_
            refine lp (b := false) 54 rfl rfl rfl rfl rfl ?_
            refine lv (v := (.bool false)) rfl rfl (r_pickF rfl rfl) ?_
            refine lv (v := (.bool false)) rfl rfl (r_assign rfl) ?_
            refine lnil ?_
            exact ⟨col_31, false, hm, hst, rfl, rfl⟩
        · rw [if_neg hg_43] at hm
          replace hg_43 := Bool.eq_false_iff.2 hg_43
          refine lp (b := decide (r_20.2 = 0)) 33 rfl rfl rfl rfl (by rw [hg_43]; rfl) ?_
          refine lp (b := decide (r_20.2 = 0)) 33 rfl rfl rfl rfl (by rw [hg_43]; rfl) ?_
          refine lp (b := decide (r_20.2 = 0)) 33 rfl rfl rfl rfl (by rw [hg_43]; rfl) ?_
          refine lv (v := (.bool false)) rfl rfl (r_pickF (congrArg Value.bool hg_43) rfl) ?_
          refine lv (v := (.bool false)) rfl rfl (r_move rfl) ?_
          refine lp (b := false) 38 rfl rfl rfl rfl rfl ?_
          refine lp (b := false) 38 rfl rfl rfl rfl rfl ?_
          refine lp (b := false) 38 rfl rfl rfl rfl rfl ?_
          refine lp (b := false) 38 rfl rfl rfl rfl rfl ?_
          refine lv (v := (.bool false)) rfl rfl (r_pickF rfl rfl) ?_
          refine lv (v := (.bool false)) rfl rfl (r_move rfl) ?_
          refine lp (b := false) 44 rfl rfl rfl rfl rfl ?_
          refine lp (b := false) 44 rfl rfl rfl rfl rfl ?_
          refine lp (b := false) 44 rfl rfl rfl rfl rfl ?_
          refine lp (b := false) 44 rfl rfl rfl rfl rfl ?_
          refine lv (v := (.bool false)) rfl rfl (r_pickF rfl rfl) ?_
          refine lv (v := (.bool false)) rfl rfl (r_move rfl) ?_
          refine lp (b := false) 50 rfl rfl rfl rfl rfl ?_
          refine lp (b := false) 50 rfl rfl rfl rfl rfl ?_
          refine lv (v := (.bool false)) rfl rfl (r_pickF rfl rfl) ?_
          refine lv (v := (.bool false)) rfl rfl (r_move rfl) ?_
          refine lp (b := false) 54 rfl rfl rfl rfl rfl ?_
          refine lp (b := false) 54 rfl rfl rfl rfl rfl ?_
          refine lv (v := (.bool false)) rfl rfl (r_pickF rfl rfl) ?_
          refine lv (v := (.bool false)) rfl rfl (r_assign rfl) ?_
          refine lnil ?_
          exact ⟨col_31, false, hm, hst, rfl, rfl⟩
      · rw [if_neg hg_42] at hm
        replace hg_42 := Bool.eq_false_iff.2 hg_42
        refine lp (b := decide (r_11.1 = 5)) 29 rfl rfl rfl rfl (by rw [hg_42]; rfl) ?_
        refine lp (b := decide (r_11.1 = 5)) 29 rfl rfl rfl rfl (by rw [hg_42]; rfl) ?_
        refine lv (v := (.bool false)) rfl rfl (r_pickF (congrArg Value.bool hg_42) rfl) ?_
        refine lv (v := (.bool false)) rfl rfl (r_move rfl) ?_
        refine lp (b := false) 33 rfl rfl rfl rfl rfl ?_
        refine lp (b := false) 33 rfl rfl rfl rfl rfl ?_
        refine lp (b := false) 33 rfl rfl rfl rfl rfl ?_
        refine lv (v := (.bool false)) rfl rfl (r_pickF rfl rfl) ?_
        refine lv (v := (.bool false)) rfl rfl (r_move rfl) ?_
        refine lp (b := false) 38 rfl rfl rfl rfl rfl ?_
        refine lp (b := false) 38 rfl rfl rfl rfl rfl ?_
        refine lp (b := false) 38 rfl rfl rfl rfl rfl ?_
        refine lp (b := false) 38 rfl rfl rfl rfl rfl ?_
        refine lv (v := (.bool false)) rfl rfl (r_pickF rfl rfl) ?_
        refine lv (v := (.bool false)) rfl rfl (r_move rfl) ?_
        refine lp (b := false) 44 rfl rfl rfl rfl rfl ?_
        refine lp (b := false) 44 rfl rfl rfl rfl rfl ?_
        refine lp (b := false) 44 rfl rfl rfl rfl rfl ?_
        refine lp (b := false) 44 rfl rfl rfl rfl rfl ?_
        refine lv (v := (.bool false)) rfl rfl (r_pickF rfl rfl) ?_
        refine lv (v := (.bool false)) rfl rfl (r_move rfl) ?_
        refine lp (b := false) 50 rfl rfl rfl rfl rfl ?_
        refine lp (b := false) 50 rfl rfl rfl rfl rfl ?_
        refine lv (v := (.bool false)) rfl rfl (r_pickF rfl rfl) ?_
        refine lv (v := (.bool false)) rfl rfl (r_move rfl) ?_
        refine lp (b := false) 54 rfl rfl rfl rfl rfl ?_
        refine lp (b := false) 54 rfl rfl rfl rfl rfl ?_
        refine lv (v := (.bool false)) rfl rfl (r_pickF rfl rfl) ?_
        refine lv (v := (.bool false)) rfl rfl (r_assign rfl) ?_
        refine lnil ?_
        exact ⟨col_31, false, hm, hst, rfl, rfl⟩
    · rw [if_neg hg_41] at hm
      replace hg_41 := Bool.eq_false_iff.2 hg_41
      refine lp (b := decide (r_11.2 = 0)) 25 rfl rfl rfl rfl (by rw [hg_41]; rfl) ?_
      refine lp (b := decide (r_11.2 = 0)) 25 rfl rfl rfl rfl (by rw [hg_41]; rfl) ?_
      refine lv (v := (.bool false)) rfl rfl (r_pickF (congrArg Value.bool hg_41) rfl) ?_
      refine lv (v := (.bool false)) rfl rfl (r_move rfl) ?_
      refine lp (b := false) 29 rfl rfl rfl rfl rfl ?_
      refine lp (b := false) 29 rfl rfl rfl rfl rfl ?_
      refine lv (v := (.bool false)) rfl rfl (r_pickF rfl rfl) ?_
      refine lv (v := (.bool false)) rfl rfl (r_move rfl) ?_
      refine lp (b := false) 33 rfl rfl rfl rfl rfl ?_
      refine lp (b := false) 33 rfl rfl rfl rfl rfl ?_
      refine lp (b := false) 33 rfl rfl rfl rfl rfl ?_
      refine lv (v := (.bool false)) rfl rfl (r_pickF rfl rfl) ?_
      refine lv (v := (.bool false)) rfl rfl (r_move rfl) ?_
      refine lp (b := false) 38 rfl rfl rfl rfl rfl ?_
      refine lp (b := false) 38 rfl rfl rfl rfl rfl ?_
      refine lp (b := false) 38 rfl rfl rfl rfl rfl ?_
      refine lp (b := false) 38 rfl rfl rfl rfl rfl ?_
      refine lv (v := (.bool false)) rfl rfl (r_pickF rfl rfl) ?_
      refine lv (v := (.bool false)) rfl rfl (r_move rfl) ?_
      refine lp (b := false) 44 rfl rfl rfl rfl rfl ?_
      refine lp (b := false) 44 rfl rfl rfl rfl rfl ?_
      refine lp (b := false) 44 rfl rfl rfl rfl rfl ?_
      refine lp (b := false) 44 rfl rfl rfl rfl rfl ?_
      refine lv (v := (.bool false)) rfl rfl (r_pickF rfl rfl) ?_
      refine lv (v := (.bool false)) rfl rfl (r_move rfl) ?_
      refine lp (b := false) 50 rfl rfl rfl rfl rfl ?_
      refine lp (b := false) 50 rfl rfl rfl rfl rfl ?_
      refine lv (v := (.bool false)) rfl rfl (r_pickF rfl rfl) ?_
      refine lv (v := (.bool false)) rfl rfl (r_move rfl) ?_
      refine lp (b := false) 54 rfl rfl rfl rfl rfl ?_
      refine lp (b := false) 54 rfl rfl rfl rfl rfl ?_
      refine lv (v := (.bool false)) rfl rfl (r_pickF rfl rfl) ?_
      refine lv (v := (.bool false)) rfl rfl (r_assign rfl) ?_
      refine lnil ?_
      exact ⟨col_31, false, hm, hst, rfl, rfl⟩



theorem el3_21 : ElemOk Try.prog 3 1 8 := ⟨Try.t3, _, rfl, rfl, rfl, rfl, rfl⟩

def m_credencelaw10_bases_J2 (i_8 : Int) (kk_L1 : ((List Int) → Int → Option (List Int))) (out_17 : List Int) : Option (List Int) :=
  kk_L1 out_17 (IntKind.i64.wrap (i_8 + 1))

def m_credencelaw10_bases_J3 (out_6 : List Int) (i_8 : Int) (kk_L1 : ((List Int) → Int → Option (List Int))) (b_23 : Int) : Option (List Int) :=
  chk ((out_6.length + [IntKind.i64.wrap (b_23 + 1)].length) * 8 ≤ 140737488355328 ∧ out_6.length + [IntKind.i64.wrap (b_23 + 1)].length ≤ maxLen) (m_credencelaw10_bases_J2 i_8 kk_L1 (out_6 ++ [IntKind.i64.wrap (b_23 + 1)]))

def m_credencelaw10_bases_J1 (p0_l : List Int) (out_6 : List Int) (i_8 : Int) (kk_L1 : ((List Int) → Int → Option (List Int))) (v_12 : Bool) : Option (List Int) :=
  if v_12 = true then ((at? p0_l i_8).bind fun e_19 => if (decide ((Int.tmod e_19 9) < 0)) = true then (m_credencelaw10_bases_J3 out_6 i_8 kk_L1 (IntKind.i64.wrap ((Int.tmod e_19 9) + 9))) else (m_credencelaw10_bases_J3 out_6 i_8 kk_L1 (Int.tmod e_19 9))) else (some out_6)

def m_credencelaw10_bases_L1 (N : Nat) (p0_l : List Int) : Nat → (List Int) → Int → Option (List Int)
  | 0, _, _ => none
  | n_1 + 1, out_6, i_8 => if (decide (i_8 < (p0_l.length : Int))) = true then (m_credencelaw10_bases_J1 p0_l out_6 i_8 (m_credencelaw10_bases_L1 N p0_l n_1) (decide (i_8 < 7))) else (m_credencelaw10_bases_J1 p0_l out_6 i_8 (m_credencelaw10_bases_L1 N p0_l n_1) false)

def m_credencelaw10_bases (N : Nat) (p0_l : List Int) : Option (List Int) :=
  m_credencelaw10_bases_L1 N p0_l N ([] : List Int) 0

set_option maxRecDepth 100000 in
theorem c_credencelaw10_bases (N : Nat) (c1 : Nat) (col : Col) (w0 : World) (a0 : Option Addr) (cap0 : Nat) (p0_l : List Int) (h0 : Sl (Rep.int .i64) col w0 a0 cap0 p0_l) (r : (List Int)) (hm : m_credencelaw10_bases N p0_l = some r) :
    Calls Try.prog 21 #[(.slice a0 p0_l.length cap0)] w0 (fun e w' => ∃ (col' : Col) (ra1 : Option Addr) (rc1 : Nat), e = .returned (.slice ra1 r.length rc1) ∧ Grow col w0 col' w' ∧ Own (Rep.int .i64) 3 c1 col' w' ra1 rc1 r) := by
  refine calls_of1 2 (m := 31) (args := [(.slice a0 p0_l.length cap0)]) Try.func21 rfl rfl rfl rfl rfl ?_
  rw [m_credencelaw10_bases.eq_1] at hm
  have hst := St.start col w0
  replace h0 := h0.keep (Stay.start col w0)
  refine wseq ?_
  refine wregion ?_
  refine lv (v := (.slice none (([] : List Int).length) 0)) rfl rfl (r_assign rfl) ?_
  refine lnil ?_
  refine wseq ?_
  refine wregion ?_
  refine lv (v := (.slice none (([] : List Int).length) 0)) rfl rfl (r_assign rfl) ?_
  refine lnil ?_
  refine wseq ?_
  refine wseq ?_
  refine wregion ?_
  refine lv (v := (.int .i64 0)) rfl rfl (r_assign rfl) ?_
  refine lnil ?_
  refine wblock ?_
  refine wloop (fun n f w_2 => ∃ (col_3 : Col) (a_4 : Option Addr) (cap_5 : Nat) (out_6 : List Int) (i_8 : Int) (n_1 : Nat), n_1 = n ∧ m_credencelaw10_bases_L1 N p0_l n_1 out_6 i_8 = some r ∧ St w0 (col0 col) col_3 w_2 ∧ Sl (Rep.int .i64) col_3 w_2 a0 cap0 p0_l ∧ Own (Rep.int .i64) 3 2 col_3 w_2 a_4 cap_5 out_6 ∧ f 0 = (.slice a0 p0_l.length cap0) ∧ f 3 = (.slice a_4 out_6.length cap_5) ∧ f 4 = (.int .i64 i_8) ∧ f 1000000 = (enc [])) N ⟨(col0 col), none, 0, ([] : List Int), 0, N, rfl, hm, hst, h0, Own.nil, rfl, rfl, rfl, rfl⟩ ?_
  clear hm; intro n f w_2 hI
  obtain ⟨col_3, a_4, cap_5, out_6, i_8, n_1, hn, hm, hst, h0, h_7, hs0, hs3, hs4, hs1000000⟩ := hI
  subst hn
  refine .ld (d := 0) (v := (.slice a0 p0_l.length cap0)) hs0 ?_
  refine .ld (d := 3) (v := (.slice a_4 out_6.length cap_5)) hs3 ?_
  refine .ld (d := 4) (v := (.int .i64 i_8)) hs4 ?_
  refine .ld (d := 1000000) (v := (enc [])) hs1000000 ?_
  clear hs0 hs3 hs4 hs1000000
  cases n_1 with
  | zero => rw [m_credencelaw10_bases_L1.eq_1] at hm; cases hm
  | succ n_1 =>
    rw [m_credencelaw10_bases_L1.eq_2] at hm
    refine wseq ?_
    refine wseq ?_
    refine Wp.cut (fun f w_10 => ∃ (col_11 : Col) (v_12 : Bool), m_credencelaw10_bases_J1 p0_l out_6 i_8 (m_credencelaw10_bases_L1 N p0_l n_1) v_12 = some r ∧ St w0 (col0 col) col_11 w_10 ∧ Sl (Rep.int .i64) col_11 w_10 a0 cap0 p0_l ∧ Own (Rep.int .i64) 3 2 col_11 w_10 a_4 cap_5 out_6 ∧ f 0 = (.slice a0 p0_l.length cap0) ∧ f 3 = (.slice a_4 out_6.length cap_5) ∧ f 4 = (.int .i64 i_8) ∧ f 13 = (.bool v_12) ∧ f 1000000 = (enc [])) ?_ ?_
    · intro f w_10 hJ
      obtain ⟨col_11, v_12, hm, hst, h0, h_7, hs0, hs3, hs4, hs13, hs1000000⟩ := hJ
      rw [m_credencelaw10_bases_J1.eq_1] at hm
      refine .ld (d := 0) (v := (.slice a0 p0_l.length cap0)) hs0 ?_
      refine .ld (d := 3) (v := (.slice a_4 out_6.length cap_5)) hs3 ?_
      refine .ld (d := 4) (v := (.int .i64 i_8)) hs4 ?_
      refine .ld (d := 13) (v := (.bool v_12)) hs13 ?_
      refine .ld (d := 1000000) (v := (enc [])) hs1000000 ?_
      clear hs0 hs3 hs4 hs13 hs1000000
      refine wcond (v_12) rfl (fun hb => ?_) (fun hb => ?_)
      · rw [if_pos hb] at hm
        clear hb
        refine wskip ?_
        refine wseq ?_
        refine Wp.cut (fun f w_13 => ∃ (col_14 : Col) (a_15 : Option Addr) (cap_16 : Nat) (out_17 : List Int), m_credencelaw10_bases_J2 i_8 (m_credencelaw10_bases_L1 N p0_l n_1) out_17 = some r ∧ St w0 (col0 col) col_14 w_13 ∧ Sl (Rep.int .i64) col_14 w_13 a0 cap0 p0_l ∧ Own (Rep.int .i64) 3 2 col_14 w_13 a_15 cap_16 out_17 ∧ f 0 = (.slice a0 p0_l.length cap0) ∧ f 3 = (.slice a_15 out_17.length cap_16) ∧ f 4 = (.int .i64 i_8) ∧ f 1000000 = (enc [])) ?_ ?_
        · intro f w_13 hJ
          obtain ⟨col_14, a_15, cap_16, out_17, hm, hst, h0, h_18, hs0, hs3, hs4, hs1000000⟩ := hJ
          rw [m_credencelaw10_bases_J2.eq_1] at hm
          refine .ld (d := 0) (v := (.slice a0 p0_l.length cap0)) hs0 ?_
          refine .ld (d := 3) (v := (.slice a_15 out_17.length cap_16)) hs3 ?_
          refine .ld (d := 4) (v := (.int .i64 i_8)) hs4 ?_
          refine .ld (d := 1000000) (v := (enc [])) hs1000000 ?_
          clear hs0 hs3 hs4 hs1000000
          refine wregion ?_
          refine lv (v := (.int .i64 i_8)) rfl rfl (r_move rfl) ?_
          refine lv (v := (.int .i64 (IntKind.i64.wrap (i_8 + 1)))) rfl rfl (r_add i_8 1 rfl rfl) ?_
          refine lv (v := (.int .i64 (IntKind.i64.wrap (i_8 + 1)))) rfl rfl (r_assign rfl) ?_
          refine lnil ?_
          exact ⟨n_1, by omega, ⟨col_14, a_15, cap_16, out_17, (IntKind.i64.wrap (i_8 + 1)), n_1, rfl, hm, hst, h0, h_18, rfl, rfl, rfl, rfl⟩⟩
        · refine wblock ?_
          refine wseq ?_
          refine wregion ?_
          refine lv (v := (.slice a0 p0_l.length cap0)) rfl rfl (r_move rfl) ?_
          refine lv (v := (.int .i64 i_8)) rfl rfl (r_move rfl) ?_
          obtain ⟨e_19, hj_20, hm⟩ := bind_some hm
          refine lv (v := (sptr a0 (Int.toNat i_8 * 1))) rfl rfl (r_idx Try.underlying22 Try.sizeOf3 rfl rfl (at?_some hj_20).1 (at?_some hj_20).2.1 (h0.addr hj_20)) ?_
          refine lv (v := (.int .i64 e_19)) rfl rfl (r_ld Try.isAgg3 rfl (h0.atInt hj_20)) ?_
          refine lv (v := (.int .i64 (Int.tmod e_19 9))) rfl rfl (r_rem e_19 9 rfl rfl (by decide)) ?_
          refine lv (v := (.int .i64 (Int.tmod e_19 9))) rfl rfl (r_assign rfl) ?_
          refine lnil ?_
          refine wseq ?_
          refine Wp.cut (fun f w_21 => ∃ (col_22 : Col) (b_23 : Int), m_credencelaw10_bases_J3 out_6 i_8 (m_credencelaw10_bases_L1 N p0_l n_1) b_23 = some r ∧ St w0 (col0 col) col_22 w_21 ∧ Sl (Rep.int .i64) col_22 w_21 a0 cap0 p0_l ∧ Own (Rep.int .i64) 3 2 col_22 w_21 a_4 cap_5 out_6 ∧ f 0 = (.slice a0 p0_l.length cap0) ∧ f 3 = (.slice a_4 out_6.length cap_5) ∧ f 4 = (.int .i64 i_8) ∧ f 5 = (.int .i64 b_23) ∧ f 1000000 = (enc [])) ?_ ?_
          · intro f w_21 hJ
            obtain ⟨col_22, b_23, hm, hst, h0, h_7, hs0, hs3, hs4, hs5, hs1000000⟩ := hJ
            rw [m_credencelaw10_bases_J3.eq_1] at hm
            refine .ld (d := 0) (v := (.slice a0 p0_l.length cap0)) hs0 ?_
            refine .ld (d := 3) (v := (.slice a_4 out_6.length cap_5)) hs3 ?_
            refine .ld (d := 4) (v := (.int .i64 i_8)) hs4 ?_
            refine .ld (d := 5) (v := (.int .i64 b_23)) hs5 ?_
            refine .ld (d := 1000000) (v := (enc [])) hs1000000 ?_
            clear hs0 hs3 hs4 hs5 hs1000000
            refine wregion ?_
            refine lv (v := (.slice a_4 out_6.length cap_5)) rfl rfl (r_move rfl) ?_
            refine lv (v := (.int .i64 b_23)) rfl rfl (r_move rfl) ?_
            refine lv (v := (.int .i64 (IntKind.i64.wrap (b_23 + 1)))) rfl rfl (r_add b_23 1 rfl rfl) ?_
            refine l_lit (col := col_22) (r := (Rep.int .i64)) (xs := [IntKind.i64.wrap (b_23 + 1)]) [(.int .i64 (IntKind.i64.wrap (b_23 + 1)))] 3 rfl Try.underlying22 el3_21 rfl rfl rfl rfl rfl rfl (by intro v hv; simp only [List.mem_cons, List.not_mem_nil, or_false] at hv; subst hv; rfl) ⟨_, _, rfl, rfl, rfl⟩ ?_
            intro a_24 w_25 col_26 hg_27 h_28
            replace h0 := h0.gr hg_27
            replace h_7 := h_7.gr hg_27
            replace hst := hst.grow hg_27
            replace h0 := h0.froz 3
            replace h_7 := h_7.froz 3 (by decide)
            replace hst := hst.froz 3 (by decide) (by decide)
            replace h_28 := h_28.toSl
            obtain ⟨hb_29, hm⟩ := chk_some hm
            refine l_append (col := (froz 3 col_26)) (w := w_25) (r := (Rep.int .i64)) (c := 2) (xs := out_6) (ys := [IntKind.i64.wrap (b_23 + 1)]) h_7 h_28 rfl Try.underlying22 el3_21 rfl rfl rfl hb_29.1 hb_29.2 (by decide) ?_
            intro a_31 cap_32 w_33 col_34 hk_35 hs_36 h_37
            replace h0 := h0.kp hk_35 (by decide)
            replace h_28 := h_28.kp hk_35 (by decide)
            replace hst := hst.kp hk_35 hs_36 (by decide) (by decide)
            clear h_7
            refine lv (v := (.slice a_31 ((out_6 ++ [IntKind.i64.wrap (b_23 + 1)]).length) cap_32)) rfl rfl (r_assign rfl) ?_
            refine lnil ?_
            exact ⟨col_34, a_31, cap_32, (out_6 ++ [IntKind.i64.wrap (b_23 + 1)]), hm, hst, h0, h_37, rfl, rfl, rfl, rfl⟩
          · refine wseq ?_
            refine wregion ?_
            refine lv (v := (.int .i64 (Int.tmod e_19 9))) rfl rfl (r_move rfl) ?_
            refine lv (v := (.bool (decide ((Int.tmod e_19 9) < 0)))) rfl rfl (r_lss (Int.tmod e_19 9) 0 rfl rfl) ?_
            refine lnil ?_
            refine wcond (decide ((Int.tmod e_19 9) < 0)) rfl (fun hb => ?_) (fun hb => ?_)
            · rw [if_pos hb] at hm
              clear hb
              refine wregion ?_
              refine lv (v := (.int .i64 (Int.tmod e_19 9))) rfl rfl (r_move rfl) ?_
              refine lv (v := (.int .i64 (IntKind.i64.wrap ((Int.tmod e_19 9) + 9)))) rfl rfl (r_add (Int.tmod e_19 9) 9 rfl rfl) ?_
              refine lv (v := (.int .i64 (IntKind.i64.wrap ((Int.tmod e_19 9) + 9)))) rfl rfl (r_assign rfl) ?_
              refine lnil ?_
              exact ⟨col_11, (IntKind.i64.wrap ((Int.tmod e_19 9) + 9)), hm, hst, h0, h_7, rfl, rfl, rfl, rfl, rfl⟩
            · rw [if_neg (by rw [hb]; decide)] at hm
              clear hb
              refine wskip ?_
              exact ⟨col_11, (Int.tmod e_19 9), hm, hst, h0, h_7, rfl, rfl, rfl, rfl, rfl⟩
      · rw [if_neg (by rw [hb]; decide)] at hm
        clear hb
        refine wexit (inB_hit ?_)
        refine wseq ?_
        refine wregion ?_
        refine lv (v := (.slice a_4 out_6.length cap_5)) rfl rfl (r_move rfl) ?_
        refine lv (v := (.slice a_4 out_6.length cap_5)) rfl rfl (r_assign rfl) ?_
        refine lnil ?_
        refine wret ?_
        cases hm
        exact ⟨rfl, colF w0.heap.size col col_11 (fun n => bif Nat.beq n 2 then c1 else 0), a_4, cap_5, rfl, hst.fin (fun n => bif Nat.beq n 2 then c1 else 0), hst.finOwn (g := (fun n => bif Nat.beq n 2 then c1 else 0)) rfl h_7 (by decide) (by decide) rfl⟩
    · refine wregion ?_
      refine lv (v := (.int .i64 i_8)) rfl rfl (r_move rfl) ?_
      refine lv (v := (.slice a0 p0_l.length cap0)) rfl rfl (r_move rfl) ?_
      refine lv (v := (.int .i64 (p0_l.length : Int))) rfl rfl (r_len Try.underlying22 rfl) ?_
      refine lv (v := (.bool (decide (i_8 < (p0_l.length : Int))))) rfl rfl (r_lss i_8 (p0_l.length : Int) rfl rfl) ?_
      refine lv (v := (.bool (decide (i_8 < (p0_l.length : Int))))) rfl rfl (r_move rfl) ?_
      by_cases hg_38 : (decide (i_8 < (p0_l.length : Int))) = true
      · rw [if_pos hg_38] at hm
        refine lg (b := decide (i_8 < (p0_l.length : Int))) 10 rfl rfl rfl (by rw [hg_38]; rfl) ?_
        refine lv (v := (.int .i64 i_8)) rfl rfl (r_move rfl) ?_
        refine lg (b := decide (i_8 < (p0_l.length : Int))) 10 rfl rfl rfl (by rw [hg_38]; rfl) ?_
        refine lv (v := (.bool (decide (i_8 < 7)))) rfl rfl (r_lss i_8 7 rfl rfl) ?_
        refine lv (v := (.bool (decide (i_8 < 7)))) rfl rfl (r_pickT (congrArg Value.bool hg_38) rfl) ?_
        refine lnil ?_
        exact ⟨col_3, (decide (i_8 < 7)), hm, hst, h0, h_7, rfl, rfl, rfl, rfl, rfl⟩
      · rw [if_neg hg_38] at hm
        replace hg_38 := Bool.eq_false_iff.2 hg_38
        refine lp (b := decide (i_8 < (p0_l.length : Int))) 10 rfl rfl rfl rfl (by rw [hg_38]; rfl) ?_
        refine lp (b := decide (i_8 < (p0_l.length : Int))) 10 rfl rfl rfl rfl (by rw [hg_38]; rfl) ?_
        refine lv (v := (.bool false)) rfl rfl (r_pickF (congrArg Value.bool hg_38) rfl) ?_
        refine lnil ?_
        exact ⟨col_3, false, hm, hst, h0, h_7, rfl, rfl, rfl, rfl, rfl⟩




def m_slices_Backward_int_int_1_L1 (N : Nat) (v0_v : List Int) : Nat → Int → Option (List (Int × Int))
  | 0, _ => none
  | n_1 + 1, i_4 => if (decide (0 ≤ i_4)) = true then ((at? v0_v i_4).bind fun e_5 => ((m_slices_Backward_int_int_1_L1 N v0_v n_1) (IntKind.i64.wrap (i_4 - 1))).bind fun r_7 => some ((i_4, e_5) :: r_7)) else (some [])

def m_slices_Backward_int_int_1 (N : Nat) (v0_v : List Int) : Option (List (Int × Int)) :=
  m_slices_Backward_int_int_1_L1 N v0_v N (IntKind.i64.wrap ((v0_v.length : Int) - 1))

set_option maxRecDepth 100000 in
theorem c_slices_Backward_int_int_1 (N : Nat) (col : Col) (w0 : World) (g0 : Nat) (af0 : Option Addr) (capf0 : Nat) (v0_v : List Int) (hf0 : Sl (Rep.int .i64) col w0 af0 capf0 v0_v) (hb0 : Box 22 450 col w0 g0 #[(.slice af0 v0_v.length capf0)]) (r : List (Int × Int)) (hm : m_slices_Backward_int_int_1 N v0_v = some r) :
    Goes Try.prog 58 [(.pointer (some ⟨g0, 0, none⟩))] (fun (y : Int × Int) (col : Col) (w : World) (args : List Value) => args = [.int .i64 y.1, .int .i64 y.2]) r col w0 := by
  intro l J X hjs hxs hy hst
  refine calls_of0 (m := 19) (args := [.func (.yield l) #[] #[], (.pointer (some ⟨g0, 0, none⟩))]) Try.func58 rfl rfl rfl rfl ?_
  rw [m_slices_Backward_int_int_1.eq_1] at hm
  refine wseq ?_
  refine wregion ?_
  refine lv (v := (.slice af0 v0_v.length capf0)) rfl rfl (r_ld Try.isAgg22 rfl hb0.at1) ?_
  refine lv (v := (.int .i64 (v0_v.length : Int))) rfl rfl (r_len Try.underlying22 rfl) ?_
  refine lv (v := (.int .i64 (IntKind.i64.wrap ((v0_v.length : Int) - 1)))) rfl rfl (r_sub (v0_v.length : Int) 1 rfl rfl) ?_
  refine lv (v := (.int .i64 (IntKind.i64.wrap ((v0_v.length : Int) - 1)))) rfl rfl (r_assign rfl) ?_
  refine lnil ?_
  refine wblock ?_
  refine wloop (fun n f w_2 => ∃ (col_3 : Col) (r : List (Int × Int)) (i_4 : Int) (n_1 : Nat), n_1 = n ∧ m_slices_Backward_int_int_1_L1 N v0_v n_1 i_4 = some r ∧ J r col_3 w_2 ∧ Sl (Rep.int .i64) col_3 w_2 af0 capf0 v0_v ∧ Box 22 450 col_3 w_2 g0 #[(.slice af0 v0_v.length capf0)] ∧ f 0 = (.func (.yield l) #[] #[]) ∧ f 1 = (.pointer (some ⟨g0, 0, none⟩)) ∧ f 3 = (.int .i64 i_4) ∧ f 1000000 = (enc [])) N ⟨col, r, (IntKind.i64.wrap ((v0_v.length : Int) - 1)), N, rfl, hm, hst, hf0, hb0, rfl, rfl, rfl, rfl⟩ ?_
  clear hm; intro n f w_2 hI
  obtain ⟨col_3, r, i_4, n_1, hn, hm, hst, hf0, hb0, hs0, hs1, hs3, hs1000000⟩ := hI
  subst hn
  refine .ld (d := 0) (v := (.func (.yield l) #[] #[])) hs0 ?_
  refine .ld (d := 1) (v := (.pointer (some ⟨g0, 0, none⟩))) hs1 ?_
  refine .ld (d := 3) (v := (.int .i64 i_4)) hs3 ?_
  refine .ld (d := 1000000) (v := (enc [])) hs1000000 ?_
  clear hs0 hs1 hs3 hs1000000
  cases n_1 with
  | zero => rw [m_slices_Backward_int_int_1_L1.eq_1] at hm; cases hm
  | succ n_1 =>
    rw [m_slices_Backward_int_int_1_L1.eq_2] at hm
    refine wseq ?_
    refine wseq ?_
    refine wregion ?_
    refine lv (v := (.int .i64 i_4)) rfl rfl (r_move rfl) ?_
    refine lv (v := (.bool (decide (0 ≤ i_4)))) rfl rfl (r_geq i_4 0 rfl rfl) ?_
    refine lnil ?_
    refine wcond (decide (0 ≤ i_4)) rfl (fun hb => ?_) (fun hb => ?_)
    · rw [if_pos hb] at hm
      clear hb
      refine wskip ?_
      refine wseq ?_
      refine wblock ?_
      refine wseq ?_
      refine wregion ?_
      refine lv (v := (.func (.yield l) #[] #[])) rfl rfl (r_move rfl) ?_
      refine lv (v := (.int .i64 i_4)) rfl rfl (r_move rfl) ?_
      refine lv (v := (.slice af0 v0_v.length capf0)) rfl rfl (r_ld Try.isAgg22 rfl hb0.at1) ?_
      refine lv (v := (.int .i64 i_4)) rfl rfl (r_move rfl) ?_
      obtain ⟨e_5, hj_6, hm⟩ := bind_some hm
      refine lv (v := (sptr af0 (Int.toNat i_4 * 1))) rfl rfl (r_idx Try.underlying22 Try.sizeOf3 rfl rfl (at?_some hj_6).1 (at?_some hj_6).2.1 (hf0.addr hj_6)) ?_
      refine lv (v := (.int .i64 e_5)) rfl rfl (r_ld Try.isAgg3 rfl (hf0.atInt hj_6)) ?_
      obtain ⟨r_7, hc_8m, hc_8⟩ := bind_some hm
      cases hc_8
      have hm := hc_8m
      clear hc_8m
      refine ly2 rfl rfl rfl rfl (hy _ _ _ _ [(.int .i64 i_4), (.int .i64 e_5)] hst rfl) ?_
      rintro _ w_9 ⟨col_10, hk_11, ⟨rfl, hJ⟩ | ⟨rfl, hX⟩⟩
      · refine ⟨_, rfl, ?_⟩
        clear hst
        replace hb0 := hb0.kpp hk_11 rfl
        replace hf0 := hf0.kpp hk_11 rfl
        have hst := hJ
        clear hJ
        refine lv (v := (.bool false)) rfl rfl (r_not true rfl) ?_
        refine lnil ?_
        refine wcondF rfl ?_
        refine wskip ?_
        refine wregion ?_
        refine lv (v := (.int .i64 i_4)) rfl rfl (r_move rfl) ?_
        refine lv (v := (.int .i64 (IntKind.i64.wrap (i_4 - 1)))) rfl rfl (r_sub i_4 1 rfl rfl) ?_
        refine lv (v := (.int .i64 (IntKind.i64.wrap (i_4 - 1)))) rfl rfl (r_assign rfl) ?_
        refine lnil ?_
        exact ⟨n_1, by omega, ⟨col_10, r_7, (IntKind.i64.wrap (i_4 - 1)), n_1, rfl, hm, hst, hf0, hb0, rfl, rfl, rfl, rfl⟩⟩
      · clear hm
        refine ⟨_, rfl, ?_⟩
        clear hst
        replace hb0 := hb0.kpp hk_11 rfl
        replace hf0 := hf0.kpp hk_11 rfl
        have hst := hX
        clear hX
        refine lv (v := (.bool true)) rfl rfl (r_not false rfl) ?_
        refine lnil ?_
        refine wcondT rfl ?_
        refine wret ?_
        exact ⟨rfl, ⟨_, rfl⟩, _, .inr hst⟩
    · rw [if_neg (by rw [hb]; decide)] at hm
      clear hb
      refine wexit (inB_hit ?_)
      cases hm
      exact ⟨rfl, ⟨_, rfl⟩, _, .inl hst⟩




def m_slices_Backward_int_int (N : Nat) (p0_s : List Int) : Option (List (Int × Int)) :=
  m_slices_Backward_int_int_1 N p0_s

set_option maxRecDepth 100000 in
theorem c_slices_Backward_int_int (N : Nat) (col : Col) (w0 : World) (a0 : Option Addr) (cap0 : Nat) (p0_s : List Int) (h0 : Sl (Rep.int .i64) col w0 a0 cap0 p0_s) (r : (List (Int × Int))) (hm : m_slices_Backward_int_int N p0_s = some r) :
    Calls Try.prog 55 #[(.slice a0 p0_s.length cap0)] w0 (fun e w' => ∃ (col' : Col) (rv : Value), e = .returned (rv) ∧ Grow col w0 col' w' ∧ It Try.prog rv (fun (y : Int × Int) (col : Col) (w : World) (args : List Value) => args = [.int .i64 y.1, .int .i64 y.2]) r q0 col' w') := by
  refine calls_of1 2 (m := 4) (args := [(.slice a0 p0_s.length cap0)]) Try.func55 rfl rfl rfl rfl rfl ?_
  rw [m_slices_Backward_int_int.eq_1] at hm
  have hst := St.start col w0
  replace h0 := h0.keep (Stay.start col w0)
  refine wseq ?_
  refine wregion ?_
  refine l_box (col := (col0 col)) (v := (.slice a0 p0_s.length cap0)) 1 rfl rfl ?_
  intro g_1 w_2 col_3 hg_4 hb_5
  replace h0 := h0.gr hg_4
  replace hst := hst.grow hg_4
  replace hb_5 : Box 22 1 col_3 w_2 g_1 #[(.slice a0 p0_s.length cap0)] := hb_5
  refine lv (v := _) rfl rfl (r_assign rfl) ?_
  refine lnil ?_
  refine wseq ?_
  refine wregion ?_
  refine lv (v := (.func (.func 58) #[] #[(.pointer (some ⟨g_1, 0, none⟩))])) rfl rfl (r_func1 rfl) ?_
  refine lv (v := (.func (.func 58) #[] #[(.pointer (some ⟨g_1, 0, none⟩))])) rfl rfl (r_assign rfl) ?_
  refine lnil ?_
  refine wret ?_
  have hb_5f := hst.finBox (G := (fun n => bif Nat.beq n 1 then 450 else 0)) hb_5 (by decide) (by decide) (show (fun n => bif Nat.beq n 1 then 450 else 0) 1 = 450 from rfl)
  have h0f := hst.finSl (g := (fun n => bif Nat.beq n 1 then 450 else 0)) rfl h0
  refine ⟨rfl, colF w0.heap.size col col_3 (fun n => bif Nat.beq n 1 then 450 else 0), _, rfl, hst.fin (fun n => bif Nat.beq n 1 then 450 else 0), 58, [(.pointer (some ⟨g_1, 0, none⟩))], rfl, Try.call58, ?_⟩
  intro col9 w9 hs9 hk9
  replace hb_5f := hb_5f.itk hs9 hk9 rfl
  replace h0f := h0f.itk hs9 hk9 rfl
  exact c_slices_Backward_int_int_1 N col9 w9 g_1 a0 cap0 p0_s h0f hb_5f r hm




def m_radix_digits_int_L1  : List (Int × Int) → Int → (List Int) → Option (List Int)
  | [], at_33, out_36 => some out_36
  | y_38 :: l_39, at_33, out_36 => chk (y_38.2 ≠ 0) ((at? out_36 y_38.1).bind fun e_52 => (some (out_36.set (Int.toNat y_38.1) (Int.tmod at_33 y_38.2))).bind fun xs_60 => chk (y_38.2 ≠ 0) ((m_radix_digits_int_L1 l_39) (IntKind.i64.wrap (Int.tdiv at_33 y_38.2)) xs_60))

def m_radix_digits_int (N : Nat) (p0_sizes : List Int) (p1_at : Int) : Option (List Int) :=
  if (decide ((p0_sizes.length : Int) = 0)) = true then (some ([] : List Int)) else (chk (p0_sizes.length * 8 ≤ 281474976710656 ∧ p0_sizes.length ≤ maxLen) ((m_slices_Backward_int_int N p0_sizes).bind fun r_24 => m_radix_digits_int_L1 r_24 p1_at (List.replicate p0_sizes.length (0 : Int))))

set_option maxRecDepth 100000 in
theorem c_radix_digits_int (N : Nat) (c1 : Nat) (col : Col) (w0 : World) (a0 : Option Addr) (cap0 : Nat) (p0_sizes : List Int) (h0 : Sl (Rep.int .i64) col w0 a0 cap0 p0_sizes) (p1_at : Int) (r : (List Int)) (hm : m_radix_digits_int N p0_sizes p1_at = some r) :
    Calls Try.prog 41 #[(.slice a0 p0_sizes.length cap0), (.int .i64 p1_at)] w0 (fun e w' => ∃ (col' : Col) (ra1 : Option Addr) (rc1 : Nat), e = .returned (.slice ra1 r.length rc1) ∧ Grow col w0 col' w' ∧ Own (Rep.int .i64) 3 c1 col' w' ra1 rc1 r) := by
  refine calls_ofM1 4 (m := 28) (args := [(.slice a0 p0_sizes.length cap0), (.int .i64 p1_at)]) Try.func41 rfl rfl rfl rfl rfl ?_
  rw [m_radix_digits_int.eq_1] at hm
  have hst := St.start col w0
  replace h0 := h0.keep (Stay.start col w0)
  have hmk : Marks (col0 col) w0 [] := .nil
  refine wseq ?_
  refine wregion ?_
  refine l_box (col := (col0 col)) (v := (.int .i64 p1_at)) 1 rfl rfl ?_
  intro g_1 w_2 col_3 hg_4 hb_5
  replace h0 := h0.gr hg_4
  replace hmk := hmk.gr hg_4
  replace hst := hst.grow hg_4
  replace hb_5 : Box 3 1 col_3 w_2 g_1 #[(.int .i64 p1_at)] := hb_5
  refine lv (v := (.slice none (([] : List Int).length) 0)) rfl rfl (r_assign rfl) ?_
  refine lnil ?_
  refine wseq ?_
  refine wseq ?_
  refine wregion ?_
  refine lv (v := (.slice a0 p0_sizes.length cap0)) rfl rfl (r_move rfl) ?_
  refine lv (v := (.int .i64 (p0_sizes.length : Int))) rfl rfl (r_len Try.underlying22 rfl) ?_
  refine lv (v := (.bool (decide ((p0_sizes.length : Int) = 0)))) rfl rfl (r_eql (p0_sizes.length : Int) 0 rfl rfl) ?_
  refine lnil ?_
  refine wcond (decide ((p0_sizes.length : Int) = 0)) rfl (fun hb => ?_) (fun hb => ?_)
  · rw [if_pos hb] at hm
    clear hb
    refine wseq ?_
    refine wregion ?_
    refine lv (v := (.slice none (([] : List Int).length) 0)) rfl rfl (r_assign rfl) ?_
    refine lnil ?_
    refine wret ?_
    cases hm
    refine ⟨_, [], rfl, hmk, ?_⟩
    intro w_6 hk_7 hs_8
    clear hmk
    replace h0 := h0.kp hk_7 (by decide)
    replace hb_5 := hb_5.kp hk_7 (by decide)
    replace hst := hst.kp hk_7 hs_8 (by decide) (by decide)
    exact ⟨colF w0.heap.size col col_3 (fun n => 0), none, 0, rfl, hst.fin (fun n => 0), Own.nil⟩
  · rw [if_neg (by rw [hb]; decide)] at hm
    clear hb
    refine wskip ?_
    refine wseq ?_
    refine wregion ?_
    refine lv (v := (.slice a0 p0_sizes.length cap0)) rfl rfl (r_move rfl) ?_
    refine lv (v := (.int .i64 (p0_sizes.length : Int))) rfl rfl (r_len Try.underlying22 rfl) ?_
    obtain ⟨hb_9, hm⟩ := chk_some hm
    refine l_make (col := col_3) (w := w_2) (r := (Rep.int .i64)) (n := p0_sizes.length) (x0 := 0) 4 rfl Try.underlying22 Try.t3 rfl rfl rfl rfl rfl rfl rfl hb_9.1 hb_9.2 rfl ?_
    intro a_10 w_11 col_12 hg_13 h_14
    replace h0 := h0.gr hg_13
    replace hb_5 := hb_5.gr hg_13
    replace hmk := hmk.gr hg_13
    replace hst := hst.grow hg_13
    refine l_alloc (col := col_12) (v := (.slice none (([] : List Int).length) 0)) 5 rfl Try.zeroValue22 ?_
    intro g_15 w_16 col_17 hg_18 hb_19
    replace h0 := h0.gr hg_18
    replace hb_5 := hb_5.gr hg_18
    replace h_14 := h_14.gr hg_18
    replace hmk := hmk.gr hg_18
    replace hst := hst.grow hg_18
    replace hb_19 : Box 22 5 col_17 w_16 g_15 #[(.slice none (([] : List Int).length) 0)] := hb_19
    refine l_bstore (v := (.slice a_10 ((List.replicate p0_sizes.length (0 : Int)).length) p0_sizes.length)) hb_19 Try.sizeOf22 rfl rfl (by intro u hu; simp only [Value.cells, List.mem_cons, List.not_mem_nil, or_false] at hu; subst hu; rfl) rfl rfl ?_
    intro w_20 hk_21 hs_22 hb_23
    replace h0 := h0.kp hk_21 (by decide)
    replace hb_5 := hb_5.kp hk_21 (by decide)
    replace h_14 := h_14.kp hk_21 (by decide) (by decide)
    replace hmk := hmk.kp hk_21 (by decide)
    replace hst := hst.kp hk_21 hs_22 (by decide) (by decide)
    clear hb_19
    replace hb_23 : Box 22 5 col_17 w_20 g_15 #[(.slice a_10 ((List.replicate p0_sizes.length (0 : Int)).length) p0_sizes.length)] := hb_23
    refine lnil ?_
    refine wseq ?_
    refine wseq ?_
    refine wregion ?_
    refine lv (v := (.slice a0 p0_sizes.length cap0)) rfl rfl (r_move rfl) ?_
    obtain ⟨r_24, hr_25, hm⟩ := bind_some hm
    refine lc rfl rfl (r_call1 Try.call55 rfl) (c_slices_Backward_int_int N col_17 _ a0 cap0 p0_sizes h0 r_24 hr_25) ?_
    rintro _ w_28 ⟨col_30, v_26, rfl, hg_29, h_27⟩
    refine ⟨_, rfl, ?_⟩
    replace h0 := h0.gr hg_29
    replace hb_5 := hb_5.gr hg_29
    replace h_14 := h_14.gr hg_29
    replace hb_23 := hb_23.gr hg_29
    replace hmk := hmk.gr hg_29
    replace hst := hst.grow hg_29
    refine lnil ?_
    refine wblock ?_
    refine wrange (psl := [16, 17]) (arr := (fun (y : Int × Int) (col : Col) (w : World) (args : List Value) => args = [.int .i64 y.1, .int .i64 y.2])) (ys := r_24) (col := col_30) 498 rfl h_27 rfl hmk rfl rfl (by rintro _ _ _ _ rfl; rfl) (fun ys_ col_32 w_31 => ∃ (at_33 : Int) (a_34 : Option Addr) (cap_35 : Nat) (out_36 : List Int), m_radix_digits_int_L1 ys_ at_33 out_36 = some r ∧ St w0 (col0 col) col_32 w_31 ∧ Box 3 1 col_32 w_31 g_1 #[(.int .i64 at_33)] ∧ Own (Rep.int .i64) 3 4 col_32 w_31 a_34 cap_35 out_36 ∧ Box 22 5 col_32 w_31 g_15 #[(.slice a_34 out_36.length cap_35)]) (fun _ _ _ => False) ?_ ?_ ⟨p1_at, a_10, p0_sizes.length, (List.replicate p0_sizes.length (0 : Int)), hm, hst, hb_5, h_14, hb_23⟩ ?_ ?_ ?_
    · intro ys_ col_32 w_31 col2_ w2_ hJ hk
      obtain ⟨at_33, a_34, cap_35, out_36, hm, hst, hb_5, h_37, hb_23⟩ := hJ
      exact ⟨at_33, a_34, cap_35, out_36, hm, hst.kpp hk rfl rfl, hb_5.kpp hk rfl, h_37.kpp hk rfl rfl, hb_23.kpp hk rfl⟩
    · intro _ _ _ _ _ h _
      exact h
    · intro l_44 rc_45 ds_46 y_38 l_39 col_32 w_31 args hJ hrec hmk harr
      obtain ⟨at_33, a_34, cap_35, out_36, hm, hst, hb_5, h_37, hb_23⟩ := hJ
      rw [m_radix_digits_int_L1.eq_2] at hm
      have hki := KeepP.refl pCo col_32 w_31
      subst harr
      refine wseq ?_
      refine wregion ?_
      refine lv (v := (.int .i64 y_38.1)) rfl rfl (r_assign rfl) ?_
      refine lnil ?_
      refine wregion ?_
      refine lv (v := (.int .i64 y_38.2)) rfl rfl (r_assign rfl) ?_
      refine lnil ?_
      refine ⟨_, hrec, ?_⟩
      intro w_47 rc_48 hk_49 hs_50 hrec2
      replace hb_5 := hb_5.kp hk_49 (by decide)
      replace hb_23 := hb_23.kp hk_49 (by decide)
      replace h_37 := h_37.kp hk_49 (by decide) (by decide)
      replace hmk := hmk.kp hk_49 (by decide)
      replace hki := hki.kp hk_49 hs_50 rfl
      replace hst := hst.kp hk_49 hs_50 (by decide) (by decide)
      clear hrec
      have hrec := hrec2
      clear hrec2
      refine wblock ?_
      refine wseq ?_
      refine wtail (col := col_32) _ (by kernel_rfl) rfl (by kernel_rfl) ?_
      refine qv (v := (.slice a_34 out_36.length cap_35)) rfl (fun _ hC => r_ld Try.isAgg22 rfl (hb_23.gr hC).at1) ?_
      refine qv (v := (.int .i64 y_38.1)) rfl (fun _ hC => r_move rfl) ?_
      refine qv (v := (.int .i64 at_33)) rfl (fun _ hC => r_ld Try.isAgg3 rfl (hb_5.gr hC).at1) ?_
      refine qv (v := (.int .i64 y_38.2)) rfl (fun _ hC => r_move rfl) ?_
      obtain ⟨h0_51, hm⟩ := chk_some hm
      refine qv (v := (.int .i64 (Int.tmod at_33 y_38.2))) rfl (fun _ hC => r_rem at_33 y_38.2 rfl rfl h0_51) ?_
      obtain ⟨e_52, hj_53, hm⟩ := bind_some hm
      refine qv (v := (sptr a_34 (Int.toNat y_38.1 * 1))) rfl (fun _ hC => r_idx Try.underlying22 Try.sizeOf3 rfl rfl (at?_some hj_53).1 (at?_some hj_53).2.1 (h_37.addr hj_53)) ?_
      refine qnop ?_
      refine qnil ?_
      intro w_54 hC
      replace hb_5 := hb_5.gr hC
      replace hb_23 := hb_23.gr hC
      replace h_37 := h_37.gr hC
      replace hrec := hrec.gr hC
      replace hmk := hmk.gr hC
      replace hki := hki.gr hC
      replace hst := hst.grow hC
      obtain ⟨xs_60, hz_59, hm⟩ := bind_some hm
      have hz_59 : xs_60 = out_36.set (Int.toNat y_38.1) (Int.tmod at_33 y_38.2) := (Option.some.inj hz_59).symm
      refine l_store (x1 := Int.tmod at_33 y_38.2) (v := (.int .i64 (Int.tmod at_33 y_38.2))) h_37 hj_53 rfl Try.sizeOf3 rfl rfl rfl (by decide) ?_
      intro w_55 hk_56 hs_57 h_58
      rw [← hz_59] at h_58
      replace hb_5 := hb_5.kp hk_56 (by decide)
      replace hb_23 := hb_23.kp hk_56 (by decide)
      replace hrec := hrec.kp hk_56 (by decide)
      replace hmk := hmk.kp hk_56 (by decide)
      replace hki := hki.kp hk_56 hs_57 rfl
      replace hst := hst.kp hk_56 hs_57 (by decide) (by decide)
      refine .ld (d := 18) (v := (.slice a_34 xs_60.length cap_35)) (congrArg (fun n => Value.slice a_34 n cap_35) (show out_36.length = xs_60.length by rw [hz_59, List.length_set])) ?_
      replace hb_23 : Box 22 5 col_32 w_55 g_15 #[(.slice a_34 xs_60.length cap_35)] := by rw [← (show out_36.length = xs_60.length by rw [hz_59, List.length_set])]; exact hb_23
      clear h_37
      refine lnil ?_
      refine wregion ?_
      refine lv (v := (.int .i64 at_33)) rfl rfl (r_ld Try.isAgg3 rfl hb_5.at1) ?_
      refine lv (v := (.int .i64 y_38.2)) rfl rfl (r_move rfl) ?_
      obtain ⟨h0_61, hm⟩ := chk_some hm
      refine lv (v := (.int .i64 (IntKind.i64.wrap (Int.tdiv at_33 y_38.2)))) rfl rfl (r_quo at_33 y_38.2 rfl rfl h0_61) ?_
      refine l_bstore (v := (.int .i64 (IntKind.i64.wrap (Int.tdiv at_33 y_38.2)))) hb_5 Try.sizeOf3 rfl rfl (by intro u hu; simp only [Value.cells, List.mem_cons, List.not_mem_nil, or_false] at hu; subst hu; rfl) rfl rfl ?_
      intro w_62 hk_63 hs_64 hb_65
      replace hb_23 := hb_23.kp hk_63 (by decide)
      replace h_58 := h_58.kp hk_63 (by decide) (by decide)
      replace hrec := hrec.kp hk_63 (by decide)
      replace hmk := hmk.kp hk_63 (by decide)
      replace hki := hki.kp hk_63 hs_64 rfl
      replace hst := hst.kp hk_63 hs_64 (by decide) (by decide)
      clear hb_5
      replace hb_65 : Box 3 1 col_32 w_62 g_1 #[(.int .i64 (IntKind.i64.wrap (Int.tdiv at_33 y_38.2)))] := hb_65
      refine lnil ?_
      exact ⟨_, hki, ⟨(IntKind.i64.wrap (Int.tdiv at_33 y_38.2)), a_34, cap_35, xs_60, hm, hst, hb_65, h_58, hb_23⟩, hrec, hmk⟩
    · clear hmk
      intro D_40 col_32 w_31 hJ hmk
      obtain ⟨at_33, a_34, cap_35, out_36, hm, hst, hb_5, h_37, hb_23⟩ := hJ
      rw [m_radix_digits_int_L1.eq_1] at hm
      refine wseq ?_
      refine wregion ?_
      refine lv (v := (.slice a_34 out_36.length cap_35)) rfl rfl (r_ld Try.isAgg22 rfl hb_23.at1) ?_
      refine lv (v := (.slice a_34 out_36.length cap_35)) rfl rfl (r_assign rfl) ?_
      refine lnil ?_
      refine wret ?_
      cases hm
      refine ⟨_, (D_40 :: []), rfl, hmk, ?_⟩
      intro w_41 hk_42 hs_43
      clear hmk
      replace hb_5 := hb_5.kp hk_42 (by decide)
      replace hb_23 := hb_23.kp hk_42 (by decide)
      replace h_37 := h_37.kp hk_42 (by decide) (by decide)
      replace hst := hst.kp hk_42 hs_43 (by decide) (by decide)
      exact ⟨colF w0.heap.size col col_32 (fun n => bif Nat.beq n 4 then c1 else 0), a_34, cap_35, rfl, hst.fin (fun n => bif Nat.beq n 4 then c1 else 0), hst.finOwn (g := (fun n => bif Nat.beq n 4 then c1 else 0)) rfl h_37 (by decide) (by decide) rfl⟩
    · intro _ _ _ _ h
      exact h.elim




def m_radix_Digits_int_J1 (N : Nat) (p0_sizes : List Int) (p1_at : Int) (v_8 : Bool) : Option ((List Int) × Int) :=
  if v_8 = true then (some (([] : List Int), 3)) else ((m_radix_digits_int N p0_sizes p1_at).bind fun r_9 => some (r_9, 0))

def m_radix_Digits_int (N : Nat) (p0_sizes : List Int) (p1_at : Int) : Option ((List Int) × Int) :=
  (m_radix_Count_int p0_sizes).bind fun r_1 => if (!decide (r_1.2 = 0)) = true then (some (([] : List Int), r_1.2)) else (if (decide (p1_at < 0)) = true then (m_radix_Digits_int_J1 N p0_sizes p1_at true) else (m_radix_Digits_int_J1 N p0_sizes p1_at (decide (r_1.1 ≤ p1_at))))

set_option maxRecDepth 100000 in
theorem c_radix_Digits_int (N : Nat) (c1 : Nat) (col : Col) (w0 : World) (a0 : Option Addr) (cap0 : Nat) (p0_sizes : List Int) (h0 : Sl (Rep.int .i64) col w0 a0 cap0 p0_sizes) (p1_at : Int) (r : ((List Int) × Int)) (hm : m_radix_Digits_int N p0_sizes p1_at = some r) :
    Calls Try.prog 17 #[(.slice a0 p0_sizes.length cap0), (.int .i64 p1_at)] w0 (fun e w' => ∃ (col' : Col) (ra1 : Option Addr) (rc1 : Nat), e = .returned (.tuple #[.slice ra1 r.1.length rc1, .int .i64 r.2]) ∧ Grow col w0 col' w' ∧ Own (Rep.int .i64) 3 c1 col' w' ra1 rc1 r.1) := by
  refine calls_of2 4 5 (m := 26) (args := [(.slice a0 p0_sizes.length cap0), (.int .i64 p1_at)]) Try.func17 rfl rfl rfl rfl rfl ?_
  rw [m_radix_Digits_int.eq_1] at hm
  have hst := St.start col w0
  replace h0 := h0.keep (Stay.start col w0)
  refine wseq ?_
  refine wregion ?_
  refine lv (v := (.slice none (([] : List Int).length) 0)) rfl rfl (r_assign rfl) ?_
  refine lv (v := (.int .i64 0)) rfl rfl (r_assign rfl) ?_
  refine lnil ?_
  refine wseq ?_
  refine wregion ?_
  refine lv (v := (.slice a0 p0_sizes.length cap0)) rfl rfl (r_move rfl) ?_
  obtain ⟨r_1, hr_2, hm⟩ := bind_some hm
  refine lc rfl rfl (r_call1 Try.call14 rfl) (c_radix_Count_int (col0 col) _ a0 cap0 p0_sizes h0 r_1 hr_2) ?_
  rintro _ w_3 ⟨rfl, hg_4⟩
  refine ⟨_, rfl, ?_⟩
  have hg_4 : Grow (col0 col) w0 (col0 col) w_3 := .of_below hg_4
  replace h0 := h0.gr hg_4
  replace hst := hst.grow hg_4
  refine lv (v := (.tuple #[(.int .i64 r_1.1), (.int .i64 r_1.2)])) rfl rfl (r_move rfl) ?_
  refine lv (v := (.int .i64 r_1.1)) rfl rfl (r_extract rfl rfl) ?_
  refine lv (v := (.int .i64 r_1.2)) rfl rfl (r_extract rfl rfl) ?_
  refine lv (v := (.int .i64 r_1.1)) rfl rfl (r_assign rfl) ?_
  refine lv (v := (.int .i64 r_1.2)) rfl rfl (r_assign rfl) ?_
  refine lnil ?_
  refine wseq ?_
  refine wseq ?_
  refine wregion ?_
  refine lv (v := (.int .i64 r_1.2)) rfl rfl (r_move rfl) ?_
  refine lv (v := (.bool (!decide (r_1.2 = 0)))) rfl rfl (r_neq r_1.2 0 rfl rfl) ?_
  refine lnil ?_
  refine wcond (!decide (r_1.2 = 0)) rfl (fun hb => ?_) (fun hb => ?_)
  · rw [if_pos hb] at hm
    clear hb
    refine wseq ?_
    refine wregion ?_
    refine lv (v := (.int .i64 r_1.2)) rfl rfl (r_move rfl) ?_
    refine lv (v := (.slice none (([] : List Int).length) 0)) rfl rfl (r_assign rfl) ?_
    refine lv (v := (.int .i64 r_1.2)) rfl rfl (r_assign rfl) ?_
    refine lnil ?_
    refine wret ?_
    cases hm
    exact ⟨rfl, colF w0.heap.size col (col0 col) (fun n => 0), none, 0, rfl, hst.fin (fun n => 0), Own.nil⟩
  · rw [if_neg (by rw [hb]; decide)] at hm
    clear hb
    refine wskip ?_
    refine wseq ?_
    refine wseq ?_
    refine Wp.cut (fun f w_6 => ∃ (col_7 : Col) (v_8 : Bool), m_radix_Digits_int_J1 N p0_sizes p1_at v_8 = some r ∧ St w0 (col0 col) col_7 w_6 ∧ Sl (Rep.int .i64) col_7 w_6 a0 cap0 p0_sizes ∧ f 0 = (.slice a0 p0_sizes.length cap0) ∧ f 1 = (.int .i64 p1_at) ∧ f 22 = (.bool v_8) ∧ f 1000000 = (enc [])) ?_ ?_
    · intro f w_6 hJ
      obtain ⟨col_7, v_8, hm, hst, h0, hs0, hs1, hs22, hs1000000⟩ := hJ
      rw [m_radix_Digits_int_J1.eq_1] at hm
      refine .ld (d := 0) (v := (.slice a0 p0_sizes.length cap0)) hs0 ?_
      refine .ld (d := 1) (v := (.int .i64 p1_at)) hs1 ?_
      refine .ld (d := 22) (v := (.bool v_8)) hs22 ?_
      refine .ld (d := 1000000) (v := (enc [])) hs1000000 ?_
      clear hs0 hs1 hs22 hs1000000
      refine wcond (v_8) rfl (fun hb => ?_) (fun hb => ?_)
      · rw [if_pos hb] at hm
        clear hb
        refine wseq ?_
        refine wregion ?_
        refine lv (v := (.slice none (([] : List Int).length) 0)) rfl rfl (r_assign rfl) ?_
        refine lv (v := (.int .i64 3)) rfl rfl (r_assign rfl) ?_
        refine lnil ?_
        refine wret ?_
        cases hm
        exact ⟨rfl, colF w0.heap.size col col_7 (fun n => 0), none, 0, rfl, hst.fin (fun n => 0), Own.nil⟩
      · rw [if_neg (by rw [hb]; decide)] at hm
        clear hb
        refine wskip ?_
        refine wseq ?_
        refine wregion ?_
        refine lv (v := (.slice a0 p0_sizes.length cap0)) rfl rfl (r_move rfl) ?_
        refine lv (v := (.int .i64 p1_at)) rfl rfl (r_move rfl) ?_
        obtain ⟨r_9, hr_10, hm⟩ := bind_some hm
        refine lc rfl rfl (r_call2 Try.call41 rfl rfl) (c_radix_digits_int N 4 col_7 _ a0 cap0 p0_sizes h0 p1_at r_9 hr_10) ?_
        rintro _ w_14 ⟨col_16, a_11, cap_12, rfl, hg_15, h_13⟩
        refine ⟨_, rfl, ?_⟩
        replace h0 := h0.gr hg_15
        replace hst := hst.grow hg_15
        refine lv (v := (.slice a_11 r_9.length cap_12)) rfl rfl (r_assign rfl) ?_
        refine lv (v := (.int .i64 0)) rfl rfl (r_assign rfl) ?_
        refine lnil ?_
        refine wret ?_
        cases hm
        exact ⟨rfl, colF w0.heap.size col col_16 (fun n => bif Nat.beq n 4 then c1 else 0), a_11, cap_12, rfl, hst.fin (fun n => bif Nat.beq n 4 then c1 else 0), hst.finOwn (g := (fun n => bif Nat.beq n 4 then c1 else 0)) rfl h_13 (by decide) (by decide) rfl⟩
    · refine wregion ?_
      refine lv (v := (.int .i64 p1_at)) rfl rfl (r_move rfl) ?_
      refine lv (v := (.bool (decide (p1_at < 0)))) rfl rfl (r_lss p1_at 0 rfl rfl) ?_
      refine lv (v := (.bool (decide (p1_at < 0)))) rfl rfl (r_move rfl) ?_
      by_cases hg_17 : (decide (p1_at < 0)) = true
      · rw [if_pos hg_17] at hm
        refine lp (b := decide (p1_at < 0)) 18 rfl rfl rfl rfl (by rw [hg_17]; rfl) ?_
        refine lp (b := decide (p1_at < 0)) 18 rfl rfl rfl rfl (by rw [hg_17]; rfl) ?_
        refine lp (b := decide (p1_at < 0)) 18 rfl rfl rfl rfl (by rw [hg_17]; rfl) ?_
        refine lv (v := (.bool true)) rfl rfl (r_pickT (congrArg Value.bool hg_17) rfl) ?_
        refine lnil ?_
        exact ⟨(col0 col), true, hm, hst, h0, rfl, rfl, rfl, rfl⟩
      · rw [if_neg hg_17] at hm
        replace hg_17 := Bool.eq_false_iff.2 hg_17
        refine lg (b := decide (p1_at < 0)) 18 rfl rfl rfl (by rw [hg_17]; rfl) ?_
        refine lv (v := (.int .i64 p1_at)) rfl rfl (r_move rfl) ?_
        refine lg (b := decide (p1_at < 0)) 18 rfl rfl rfl (by rw [hg_17]; rfl) ?_
        refine lv (v := (.int .i64 r_1.1)) rfl rfl (r_move rfl) ?_
        refine lg (b := decide (p1_at < 0)) 18 rfl rfl rfl (by rw [hg_17]; rfl) ?_
        refine lv (v := (.bool (decide (r_1.1 ≤ p1_at)))) rfl rfl (r_geq p1_at r_1.1 rfl rfl) ?_
        refine lv (v := (.bool (decide (r_1.1 ≤ p1_at)))) rfl rfl (r_pickF (congrArg Value.bool hg_17) rfl) ?_
        refine lnil ?_
        exact ⟨(col0 col), (decide (r_1.1 ≤ p1_at)), hm, hst, h0, rfl, rfl, rfl, rfl⟩




def m_credencelaw10_RadixBack_L1 (N : Nat) (r_5 : (List Int)) (r_26 : ((List Int) × Int)) (r_45 : ((List Int) × Int)) : Nat → Int → Option Bool
  | 0, _ => none
  | n_54 + 1, i_57 => if (decide (i_57 < (r_26.1.length : Int))) = true then ((at? r_26.1 i_57).bind fun e_58 => (at? r_5 i_57).bind fun e_60 => if (!decide (e_58 = (IntKind.i64.wrap (e_60 - 1)))) = true then (some false) else ((m_credencelaw10_RadixBack_L1 N r_5 r_26 r_45 n_54) (IntKind.i64.wrap (i_57 + 1)))) else (some (decide (r_45.2 = 3)))

def m_credencelaw10_RadixBack_L3 (N : Nat) (r_26 : ((List Int) × Int)) (r_45 : ((List Int) × Int)) (i_70 : Int) : Nat → Int → Option Bool
  | 0, _ => none
  | n_93 + 1, j_96 => if (decide (j_96 < i_70)) = true then ((at? r_45.1 j_96).bind fun e_97 => (at? r_26.1 j_96).bind fun e_99 => if (!decide (e_97 = e_99)) = true then (some false) else ((m_credencelaw10_RadixBack_L3 N r_26 r_45 i_70 n_93) (IntKind.i64.wrap (j_96 + 1)))) else (some true)

def m_credencelaw10_RadixBack_J6 (N : Nat) (r_26 : ((List Int) × Int)) (r_45 : ((List Int) × Int)) (i_70 : Int) (v_92 : Bool) : Option Bool :=
  if v_92 = true then (some false) else (m_credencelaw10_RadixBack_L3 N r_26 r_45 i_70 N 0)

def m_credencelaw10_RadixBack_J5 (N : Nat) (r_26 : ((List Int) × Int)) (r_45 : ((List Int) × Int)) (i_70 : Int) (kk_L2 : (Int → Option Bool)) (v_80 : Bool) : Option Bool :=
  if v_80 = true then ((at? r_45.1 i_70).bind fun e_81 => if (!decide (e_81 = 0)) = true then (some false) else (kk_L2 (IntKind.i64.wrap (i_70 - 1)))) else (if (decide (i_70 < 0)) = true then (m_credencelaw10_RadixBack_J6 N r_26 r_45 i_70 true) else ((at? r_45.1 i_70).bind fun e_104 => (at? r_26.1 i_70).bind fun e_106 => m_credencelaw10_RadixBack_J6 N r_26 r_45 i_70 (!decide (e_104 = (IntKind.i64.wrap (e_106 + 1))))))

def m_credencelaw10_RadixBack_L2 (N : Nat) (r_5 : (List Int)) (r_26 : ((List Int) × Int)) (r_45 : ((List Int) × Int)) : Nat → Int → Option Bool
  | 0, _ => none
  | n_67 + 1, i_70 => if (decide (0 ≤ i_70)) = true then ((at? r_26.1 i_70).bind fun e_110 => (at? r_5 i_70).bind fun e_112 => m_credencelaw10_RadixBack_J5 N r_26 r_45 i_70 (m_credencelaw10_RadixBack_L2 N r_5 r_26 r_45 n_67) (decide (e_110 = (IntKind.i64.wrap (e_112 - 1))))) else (m_credencelaw10_RadixBack_J5 N r_26 r_45 i_70 (m_credencelaw10_RadixBack_L2 N r_5 r_26 r_45 n_67) false)

def m_credencelaw10_RadixBack_J4 (N : Nat) (r_5 : (List Int)) (r_26 : ((List Int) × Int)) (r_45 : ((List Int) × Int)) (v_66 : Bool) : Option Bool :=
  if v_66 = true then (some false) else (m_credencelaw10_RadixBack_L2 N r_5 r_26 r_45 N (IntKind.i64.wrap ((r_26.1.length : Int) - 1)))

def m_credencelaw10_RadixBack_J3 (N : Nat) (r_5 : (List Int)) (r_13 : (Int × Int)) (k_25 : Int) (r_26 : ((List Int) × Int)) (v_44 : Bool) : Option Bool :=
  if v_44 = true then (some false) else ((m_radix_Digits_int N r_5 (IntKind.i64.wrap (k_25 + 1))).bind fun r_45 => if (decide ((IntKind.i64.wrap (k_25 + 1)) = r_13.1)) = true then (m_credencelaw10_RadixBack_L1 N r_5 r_26 r_45 N 0) else (if (!decide (r_45.2 = 0)) = true then (m_credencelaw10_RadixBack_J4 N r_5 r_26 r_45 true) else (m_credencelaw10_RadixBack_J4 N r_5 r_26 r_45 (!decide ((r_45.1.length : Int) = (r_26.1.length : Int))))))

def m_credencelaw10_RadixBack_J2 (N : Nat) (r_5 : (List Int)) (r_13 : (Int × Int)) (k_25 : Int) : Option Bool :=
  (m_radix_Digits_int N r_5 k_25).bind fun r_26 => (m_radix_At_int r_5 r_26.1).bind fun r_35 => if (!decide (r_26.2 = 0)) = true then (m_credencelaw10_RadixBack_J3 N r_5 r_13 k_25 r_26 true) else (if (!decide (r_35.2 = 0)) = true then (m_credencelaw10_RadixBack_J3 N r_5 r_13 k_25 r_26 true) else (if (!decide (r_35.1 = k_25)) = true then (m_credencelaw10_RadixBack_J3 N r_5 r_13 k_25 r_26 true) else (m_credencelaw10_RadixBack_J3 N r_5 r_13 k_25 r_26 (!decide ((r_26.1.length : Int) = (r_5.length : Int))))))

def m_credencelaw10_RadixBack_J1 (N : Nat) (p1_at : Int) (r_5 : (List Int)) (r_13 : (Int × Int)) (v_21 : Bool) : Option Bool :=
  if v_21 = true then (some false) else (chk (r_13.1 ≠ 0) (if (decide ((Int.tmod p1_at r_13.1) < 0)) = true then (m_credencelaw10_RadixBack_J2 N r_5 r_13 (IntKind.i64.wrap ((Int.tmod p1_at r_13.1) + r_13.1))) else (m_credencelaw10_RadixBack_J2 N r_5 r_13 (Int.tmod p1_at r_13.1))))

def m_credencelaw10_RadixBack (N : Nat) (p0_l : List Int) (p1_at : Int) : Option Bool :=
  (m_credencelaw10_alive N).bind fun r_1 => (m_credencelaw10_bases N p0_l).bind fun r_5 => (m_radix_Count_int r_5).bind fun r_13 => if (!r_1) = true then (m_credencelaw10_RadixBack_J1 N p1_at r_5 r_13 true) else (if (!decide (r_13.2 = 0)) = true then (m_credencelaw10_RadixBack_J1 N p1_at r_5 r_13 true) else (m_credencelaw10_RadixBack_J1 N p1_at r_5 r_13 (decide (r_13.1 < 1))))

set_option maxRecDepth 100000 in
theorem c_credencelaw10_RadixBack (N : Nat) (col : Col) (w0 : World) (a0 : Option Addr) (cap0 : Nat) (p0_l : List Int) (h0 : Sl (Rep.int .i64) col w0 a0 cap0 p0_l) (p1_at : Int) (r : Bool) (hm : m_credencelaw10_RadixBack N p0_l p1_at = some r) :
    Calls Try.prog 7 #[(.slice a0 p0_l.length cap0), (.int .i64 p1_at)] w0 (fun e w' => e = .returned (.bool r) ∧ Below w0.heap.size w0 w') := by
  refine calls_of1 4 (m := 165) (args := [(.slice a0 p0_l.length cap0), (.int .i64 p1_at)]) Try.func7 rfl rfl rfl rfl rfl ?_
  rw [m_credencelaw10_RadixBack.eq_1] at hm
  have hst := St.start col w0
  replace h0 := h0.keep (Stay.start col w0)
  refine wseq ?_
  refine wregion ?_
  refine lv (v := (.bool false)) rfl rfl (r_assign rfl) ?_
  refine lnil ?_
  refine wseq ?_
  refine wregion ?_
  obtain ⟨r_1, hr_2, hm⟩ := bind_some hm
  refine lc rfl rfl (r_call0 Try.call15 ) (c_credencelaw10_alive N (col0 col) _ r_1 hr_2) ?_
  rintro _ w_3 ⟨rfl, hg_4⟩
  refine ⟨_, rfl, ?_⟩
  have hg_4 : Grow (col0 col) w0 (col0 col) w_3 := .of_below hg_4
  replace h0 := h0.gr hg_4
  replace hst := hst.grow hg_4
  refine lv (v := (.bool r_1)) rfl rfl (r_assign rfl) ?_
  refine lnil ?_
  refine wseq ?_
  refine wregion ?_
  refine lv (v := (.slice a0 p0_l.length cap0)) rfl rfl (r_move rfl) ?_
  obtain ⟨r_5, hr_6, hm⟩ := bind_some hm
  refine lc rfl rfl (r_call1 Try.call21 rfl) (c_credencelaw10_bases N 1 (col0 col) _ a0 cap0 p0_l h0 r_5 hr_6) ?_
  rintro _ w_10 ⟨col_12, a_7, cap_8, rfl, hg_11, h_9⟩
  refine ⟨_, rfl, ?_⟩
  replace h0 := h0.gr hg_11
  replace hst := hst.grow hg_11
  refine lv (v := (.slice a_7 r_5.length cap_8)) rfl rfl (r_assign rfl) ?_
  refine lnil ?_
  refine wseq ?_
  refine wregion ?_
  refine lv (v := (.slice a_7 r_5.length cap_8)) rfl rfl (r_move rfl) ?_
  obtain ⟨r_13, hr_14, hm⟩ := bind_some hm
  refine lc rfl rfl (r_call1 Try.call14 rfl) (c_radix_Count_int (froz 1 col_12) _ a_7 cap_8 r_5 ((h_9).toSl) r_13 hr_14) ?_
  rintro _ w_15 ⟨rfl, hg_16⟩
  refine ⟨_, rfl, ?_⟩
  have hg_16 : Grow col_12 w_10 col_12 w_15 := .of_below hg_16
  replace h0 := h0.gr hg_16
  replace h_9 := h_9.gr hg_16
  replace hst := hst.grow hg_16
  refine lv (v := (.tuple #[(.int .i64 r_13.1), (.int .i64 r_13.2)])) rfl rfl (r_move rfl) ?_
  refine lv (v := (.int .i64 r_13.1)) rfl rfl (r_extract rfl rfl) ?_
  refine lv (v := (.int .i64 r_13.2)) rfl rfl (r_extract rfl rfl) ?_
  refine lv (v := (.int .i64 r_13.1)) rfl rfl (r_assign rfl) ?_
  refine lv (v := (.int .i64 r_13.2)) rfl rfl (r_assign rfl) ?_
  refine lnil ?_
  refine wseq ?_
  refine wseq ?_
  refine Wp.cut (fun f w_19 => ∃ (col_20 : Col) (v_21 : Bool), m_credencelaw10_RadixBack_J1 N p1_at r_5 r_13 v_21 = some r ∧ St w0 (col0 col) col_20 w_19 ∧ Own (Rep.int .i64) 3 1 col_20 w_19 a_7 cap_8 r_5 ∧ f 1 = (.int .i64 p1_at) ∧ f 6 = (.slice a_7 r_5.length cap_8) ∧ f 7 = (.int .i64 r_13.1) ∧ f 36 = (.bool v_21) ∧ f 1000000 = (enc [])) ?_ ?_
  · intro f w_19 hJ
    obtain ⟨col_20, v_21, hm, hst, h_9, hs1, hs6, hs7, hs36, hs1000000⟩ := hJ
    rw [m_credencelaw10_RadixBack_J1.eq_1] at hm
    refine .ld (d := 1) (v := (.int .i64 p1_at)) hs1 ?_
    refine .ld (d := 6) (v := (.slice a_7 r_5.length cap_8)) hs6 ?_
    refine .ld (d := 7) (v := (.int .i64 r_13.1)) hs7 ?_
    refine .ld (d := 36) (v := (.bool v_21)) hs36 ?_
    refine .ld (d := 1000000) (v := (enc [])) hs1000000 ?_
    clear hs1 hs6 hs7 hs36 hs1000000
    refine wcond (v_21) rfl (fun hb => ?_) (fun hb => ?_)
    · rw [if_pos hb] at hm
      clear hb
      refine wseq ?_
      refine wregion ?_
      refine lv (v := (.bool false)) rfl rfl (r_assign rfl) ?_
      refine lnil ?_
      refine wret ?_
      cases hm
      exact ⟨rfl, rfl, hst.below⟩
    · rw [if_neg (by rw [hb]; decide)] at hm
      clear hb
      refine wskip ?_
      refine wseq ?_
      refine wregion ?_
      refine lv (v := (.int .i64 p1_at)) rfl rfl (r_move rfl) ?_
      refine lv (v := (.int .i64 r_13.1)) rfl rfl (r_move rfl) ?_
      obtain ⟨h0_22, hm⟩ := chk_some hm
      refine lv (v := (.int .i64 (Int.tmod p1_at r_13.1))) rfl rfl (r_rem p1_at r_13.1 rfl rfl h0_22) ?_
      refine lv (v := (.int .i64 (Int.tmod p1_at r_13.1))) rfl rfl (r_assign rfl) ?_
      refine lnil ?_
      refine wseq ?_
      refine Wp.cut (fun f w_23 => ∃ (col_24 : Col) (k_25 : Int), m_credencelaw10_RadixBack_J2 N r_5 r_13 k_25 = some r ∧ St w0 (col0 col) col_24 w_23 ∧ Own (Rep.int .i64) 3 1 col_24 w_23 a_7 cap_8 r_5 ∧ f 6 = (.slice a_7 r_5.length cap_8) ∧ f 7 = (.int .i64 r_13.1) ∧ f 9 = (.int .i64 k_25) ∧ f 1000000 = (enc [])) ?_ ?_
      · intro f w_23 hJ
        obtain ⟨col_24, k_25, hm, hst, h_9, hs6, hs7, hs9, hs1000000⟩ := hJ
        rw [m_credencelaw10_RadixBack_J2.eq_1] at hm
        refine .ld (d := 6) (v := (.slice a_7 r_5.length cap_8)) hs6 ?_
        refine .ld (d := 7) (v := (.int .i64 r_13.1)) hs7 ?_
        refine .ld (d := 9) (v := (.int .i64 k_25)) hs9 ?_
        refine .ld (d := 1000000) (v := (enc [])) hs1000000 ?_
        clear hs6 hs7 hs9 hs1000000
        refine wseq ?_
        refine wregion ?_
        refine lv (v := (.slice a_7 r_5.length cap_8)) rfl rfl (r_move rfl) ?_
        refine lv (v := (.int .i64 k_25)) rfl rfl (r_move rfl) ?_
        obtain ⟨r_26, hr_27, hm⟩ := bind_some hm
        refine lc rfl rfl (r_call2 Try.call17 rfl rfl) (c_radix_Digits_int N 2 (froz 1 col_24) _ a_7 cap_8 r_5 ((h_9).toSl) k_25 r_26 hr_27) ?_
        rintro _ w_31 ⟨col_33, a_28, cap_29, rfl, hg_32, h_30⟩
        refine ⟨_, rfl, ?_⟩
        replace h_30 := h_30.thaw (flat_int .i64) hg_32 ((Fz.refl (col := col_24)).froz 1) (by decide)
        replace hg_32 := hg_32.thawR (col := col_24)
        generalize colR w_23.heap.size col_24 col_33 = col_34 at *
        replace h_9 := h_9.gr hg_32
        replace hst := hst.grow hg_32
        refine lv (v := (.tuple #[(.slice a_28 r_26.1.length cap_29), (.int .i64 r_26.2)])) rfl rfl (r_move rfl) ?_
        refine lv (v := (.slice a_28 r_26.1.length cap_29)) rfl rfl (r_extract rfl rfl) ?_
        refine lv (v := (.int .i64 r_26.2)) rfl rfl (r_extract rfl rfl) ?_
        refine lv (v := (.slice a_28 r_26.1.length cap_29)) rfl rfl (r_assign rfl) ?_
        refine lv (v := (.int .i64 r_26.2)) rfl rfl (r_assign rfl) ?_
        refine lnil ?_
        refine wseq ?_
        refine wregion ?_
        refine lv (v := (.slice a_7 r_5.length cap_8)) rfl rfl (r_move rfl) ?_
        refine lv (v := (.slice a_28 r_26.1.length cap_29)) rfl rfl (r_move rfl) ?_
        obtain ⟨r_35, hr_36, hm⟩ := bind_some hm
        refine lc rfl rfl (r_call2 Try.call16 rfl rfl) (c_radix_At_int (froz 2 (froz 1 col_34)) _ a_7 cap_8 r_5 (((h_9).toSl).froz 2) a_28 cap_29 r_26.1 (((h_30).froz 1 (by decide)).toSl) r_35 hr_36) ?_
        rintro _ w_37 ⟨rfl, hg_38⟩
        refine ⟨_, rfl, ?_⟩
        have hg_38 : Grow col_34 w_31 col_34 w_37 := .of_below hg_38
        replace h_9 := h_9.gr hg_38
        replace h_30 := h_30.gr hg_38
        replace hst := hst.grow hg_38
        refine lv (v := (.tuple #[(.int .i64 r_35.1), (.int .i64 r_35.2)])) rfl rfl (r_move rfl) ?_
        refine lv (v := (.int .i64 r_35.1)) rfl rfl (r_extract rfl rfl) ?_
        refine lv (v := (.int .i64 r_35.2)) rfl rfl (r_extract rfl rfl) ?_
        refine lv (v := (.int .i64 r_35.1)) rfl rfl (r_assign rfl) ?_
        refine lv (v := (.int .i64 r_35.2)) rfl rfl (r_assign rfl) ?_
        refine lnil ?_
        refine wseq ?_
        refine wseq ?_
        refine Wp.cut (fun f w_42 => ∃ (col_43 : Col) (v_44 : Bool), m_credencelaw10_RadixBack_J3 N r_5 r_13 k_25 r_26 v_44 = some r ∧ St w0 (col0 col) col_43 w_42 ∧ Own (Rep.int .i64) 3 1 col_43 w_42 a_7 cap_8 r_5 ∧ Own (Rep.int .i64) 3 2 col_43 w_42 a_28 cap_29 r_26.1 ∧ f 6 = (.slice a_7 r_5.length cap_8) ∧ f 7 = (.int .i64 r_13.1) ∧ f 9 = (.int .i64 k_25) ∧ f 10 = (.slice a_28 r_26.1.length cap_29) ∧ f 74 = (.bool v_44) ∧ f 1000000 = (enc [])) ?_ ?_
        · intro f w_42 hJ
          obtain ⟨col_43, v_44, hm, hst, h_9, h_30, hs6, hs7, hs9, hs10, hs74, hs1000000⟩ := hJ
          rw [m_credencelaw10_RadixBack_J3.eq_1] at hm
          refine .ld (d := 6) (v := (.slice a_7 r_5.length cap_8)) hs6 ?_
          refine .ld (d := 7) (v := (.int .i64 r_13.1)) hs7 ?_
          refine .ld (d := 9) (v := (.int .i64 k_25)) hs9 ?_
          refine .ld (d := 10) (v := (.slice a_28 r_26.1.length cap_29)) hs10 ?_
          refine .ld (d := 74) (v := (.bool v_44)) hs74 ?_
          refine .ld (d := 1000000) (v := (enc [])) hs1000000 ?_
          clear hs6 hs7 hs9 hs10 hs74 hs1000000
          refine wcond (v_44) rfl (fun hb => ?_) (fun hb => ?_)
          · rw [if_pos hb] at hm
            clear hb
            refine wseq ?_
            refine wregion ?_
            refine lv (v := (.bool false)) rfl rfl (r_assign rfl) ?_
            refine lnil ?_
            refine wret ?_
            cases hm
            exact ⟨rfl, rfl, hst.below⟩
          · rw [if_neg (by rw [hb]; decide)] at hm
            clear hb
            refine wskip ?_
            refine wseq ?_
            refine wregion ?_
            refine lv (v := (.slice a_7 r_5.length cap_8)) rfl rfl (r_move rfl) ?_
            refine lv (v := (.int .i64 k_25)) rfl rfl (r_move rfl) ?_
            refine lv (v := (.int .i64 (IntKind.i64.wrap (k_25 + 1)))) rfl rfl (r_add k_25 1 rfl rfl) ?_
            obtain ⟨r_45, hr_46, hm⟩ := bind_some hm
            refine lc rfl rfl (r_call2 Try.call17 rfl rfl) (c_radix_Digits_int N 3 (froz 1 col_43) _ a_7 cap_8 r_5 ((h_9).toSl) (IntKind.i64.wrap (k_25 + 1)) r_45 hr_46) ?_
            rintro _ w_50 ⟨col_52, a_47, cap_48, rfl, hg_51, h_49⟩
            refine ⟨_, rfl, ?_⟩
            replace h_49 := h_49.thaw (flat_int .i64) hg_51 ((Fz.refl (col := col_43)).froz 1) (by decide)
            replace hg_51 := hg_51.thawR (col := col_43)
            generalize colR w_42.heap.size col_43 col_52 = col_53 at *
            replace h_9 := h_9.gr hg_51
            replace h_30 := h_30.gr hg_51
            replace hst := hst.grow hg_51
            refine lv (v := (.tuple #[(.slice a_47 r_45.1.length cap_48), (.int .i64 r_45.2)])) rfl rfl (r_move rfl) ?_
            refine lv (v := (.slice a_47 r_45.1.length cap_48)) rfl rfl (r_extract rfl rfl) ?_
            refine lv (v := (.int .i64 r_45.2)) rfl rfl (r_extract rfl rfl) ?_
            refine lv (v := (.slice a_47 r_45.1.length cap_48)) rfl rfl (r_assign rfl) ?_
            refine lv (v := (.int .i64 r_45.2)) rfl rfl (r_assign rfl) ?_
            refine lnil ?_
            refine wseq ?_
            refine wseq ?_
            refine wregion ?_
            refine lv (v := (.int .i64 k_25)) rfl rfl (r_move rfl) ?_
            refine lv (v := (.int .i64 (IntKind.i64.wrap (k_25 + 1)))) rfl rfl (r_add k_25 1 rfl rfl) ?_
            refine lv (v := (.int .i64 r_13.1)) rfl rfl (r_move rfl) ?_
            refine lv (v := (.bool (decide ((IntKind.i64.wrap (k_25 + 1)) = r_13.1)))) rfl rfl (r_eql (IntKind.i64.wrap (k_25 + 1)) r_13.1 rfl rfl) ?_
            refine lnil ?_
            refine wcond (decide ((IntKind.i64.wrap (k_25 + 1)) = r_13.1)) rfl (fun hb => ?_) (fun hb => ?_)
            · rw [if_pos hb] at hm
              clear hb
              refine wseq ?_
              refine wseq ?_
              refine wregion ?_
              refine lv (v := (.int .i64 0)) rfl rfl (r_assign rfl) ?_
              refine lnil ?_
              refine wblock ?_
              refine wloop (fun n f w_55 => ∃ (col_56 : Col) (i_57 : Int) (n_54 : Nat), n_54 = n ∧ m_credencelaw10_RadixBack_L1 N r_5 r_26 r_45 n_54 i_57 = some r ∧ St w0 (col0 col) col_56 w_55 ∧ Own (Rep.int .i64) 3 1 col_56 w_55 a_7 cap_8 r_5 ∧ Own (Rep.int .i64) 3 2 col_56 w_55 a_28 cap_29 r_26.1 ∧ f 6 = (.slice a_7 r_5.length cap_8) ∧ f 10 = (.slice a_28 r_26.1.length cap_29) ∧ f 15 = (.int .i64 r_45.2) ∧ f 16 = (.int .i64 i_57) ∧ f 1000000 = (enc [])) N ⟨col_53, 0, N, rfl, hm, hst, h_9, h_30, rfl, rfl, rfl, rfl, rfl⟩ ?_
              clear hm; intro n f w_55 hI
              obtain ⟨col_56, i_57, n_54, hn, hm, hst, h_9, h_30, hs6, hs10, hs15, hs16, hs1000000⟩ := hI
              subst hn
              refine .ld (d := 6) (v := (.slice a_7 r_5.length cap_8)) hs6 ?_
              refine .ld (d := 10) (v := (.slice a_28 r_26.1.length cap_29)) hs10 ?_
              refine .ld (d := 15) (v := (.int .i64 r_45.2)) hs15 ?_
              refine .ld (d := 16) (v := (.int .i64 i_57)) hs16 ?_
              refine .ld (d := 1000000) (v := (enc [])) hs1000000 ?_
              clear hs6 hs10 hs15 hs16 hs1000000
              cases n_54 with
              | zero => rw [m_credencelaw10_RadixBack_L1.eq_1] at hm; cases hm
              | succ n_54 =>
                rw [m_credencelaw10_RadixBack_L1.eq_2] at hm
                refine wseq ?_
                refine wseq ?_
                refine wregion ?_
                refine lv (v := (.int .i64 i_57)) rfl rfl (r_move rfl) ?_
                refine lv (v := (.slice a_28 r_26.1.length cap_29)) rfl rfl (r_move rfl) ?_
                refine lv (v := (.int .i64 (r_26.1.length : Int))) rfl rfl (r_len Try.underlying22 rfl) ?_
                refine lv (v := (.bool (decide (i_57 < (r_26.1.length : Int))))) rfl rfl (r_lss i_57 (r_26.1.length : Int) rfl rfl) ?_
                refine lnil ?_
                refine wcond (decide (i_57 < (r_26.1.length : Int))) rfl (fun hb => ?_) (fun hb => ?_)
                · rw [if_pos hb] at hm
                  clear hb
                  refine wskip ?_
                  refine wseq ?_
                  refine wblock ?_
                  refine wseq ?_
                  refine wquiet (col := col_56) (by kernel_rfl) (by kernel_rfl) ?_
                  refine qv (v := (.slice a_28 r_26.1.length cap_29)) rfl (fun _ hC => r_move rfl) ?_
                  refine qv (v := (.int .i64 i_57)) rfl (fun _ hC => r_move rfl) ?_
                  obtain ⟨e_58, hj_59, hm⟩ := bind_some hm
                  refine qv (v := (sptr a_28 (Int.toNat i_57 * 1))) rfl (fun _ hC => r_idx Try.underlying22 Try.sizeOf3 rfl rfl (at?_some hj_59).1 (at?_some hj_59).2.1 (h_30.addr hj_59)) ?_
                  refine qv (v := (.int .i64 e_58)) rfl (fun _ hC => r_ld Try.isAgg3 rfl ((h_30.gr hC).atInt hj_59)) ?_
                  refine qv (v := (.slice a_7 r_5.length cap_8)) rfl (fun _ hC => r_move rfl) ?_
                  refine qv (v := (.int .i64 i_57)) rfl (fun _ hC => r_move rfl) ?_
                  obtain ⟨e_60, hj_61, hm⟩ := bind_some hm
                  refine qv (v := (sptr a_7 (Int.toNat i_57 * 1))) rfl (fun _ hC => r_idx Try.underlying22 Try.sizeOf3 rfl rfl (at?_some hj_61).1 (at?_some hj_61).2.1 (h_9.addr hj_61)) ?_
                  refine qv (v := (.int .i64 e_60)) rfl (fun _ hC => r_ld Try.isAgg3 rfl ((h_9.gr hC).atInt hj_61)) ?_
                  refine qv (v := (.int .i64 (IntKind.i64.wrap (e_60 - 1)))) rfl (fun _ hC => r_sub e_60 1 rfl rfl) ?_
                  refine qv (v := (.bool (!decide (e_58 = (IntKind.i64.wrap (e_60 - 1)))))) rfl (fun _ hC => r_neq e_58 (IntKind.i64.wrap (e_60 - 1)) rfl rfl) ?_
                  refine qnil ?_
                  intro w_62 hC
                  replace h_9 := h_9.gr hC
                  replace h_30 := h_30.gr hC
                  replace hst := hst.grow hC
                  refine wcond (!decide (e_58 = (IntKind.i64.wrap (e_60 - 1)))) rfl (fun hb => ?_) (fun hb => ?_)
                  · rw [if_pos hb] at hm
                    clear hb
                    refine wseq ?_
                    refine wregion ?_
                    refine lv (v := (.bool false)) rfl rfl (r_assign rfl) ?_
                    refine lnil ?_
                    refine wret ?_
                    cases hm
                    exact ⟨rfl, rfl, hst.below⟩
                  · rw [if_neg (by rw [hb]; decide)] at hm
                    clear hb
                    refine wskip ?_
                    refine wregion ?_
                    refine lv (v := (.int .i64 i_57)) rfl rfl (r_move rfl) ?_
                    refine lv (v := (.int .i64 (IntKind.i64.wrap (i_57 + 1)))) rfl rfl (r_add i_57 1 rfl rfl) ?_
                    refine lv (v := (.int .i64 (IntKind.i64.wrap (i_57 + 1)))) rfl rfl (r_assign rfl) ?_
                    refine lnil ?_
                    exact ⟨n_54, by omega, ⟨col_56, (IntKind.i64.wrap (i_57 + 1)), n_54, rfl, hm, hst, h_9, h_30, rfl, rfl, rfl, rfl, rfl⟩⟩
                · rw [if_neg (by rw [hb]; decide)] at hm
                  clear hb
                  refine wexit (inB_hit ?_)
                  refine wseq ?_
                  refine wregion ?_
                  refine lv (v := (.int .i64 r_45.2)) rfl rfl (r_move rfl) ?_
                  refine lv (v := (.bool (decide (r_45.2 = 3)))) rfl rfl (r_eql r_45.2 3 rfl rfl) ?_
                  refine lv (v := (.bool (decide (r_45.2 = 3)))) rfl rfl (r_assign rfl) ?_
                  refine lnil ?_
                  refine wret ?_
                  cases hm
                  exact ⟨rfl, rfl, hst.below⟩
            · rw [if_neg (by rw [hb]; decide)] at hm
              clear hb
              refine wskip ?_
              refine wseq ?_
              refine wseq ?_
              refine Wp.cut (fun f w_64 => ∃ (col_65 : Col) (v_66 : Bool), m_credencelaw10_RadixBack_J4 N r_5 r_26 r_45 v_66 = some r ∧ St w0 (col0 col) col_65 w_64 ∧ Own (Rep.int .i64) 3 1 col_65 w_64 a_7 cap_8 r_5 ∧ Own (Rep.int .i64) 3 2 col_65 w_64 a_28 cap_29 r_26.1 ∧ Own (Rep.int .i64) 3 3 col_65 w_64 a_47 cap_48 r_45.1 ∧ f 6 = (.slice a_7 r_5.length cap_8) ∧ f 10 = (.slice a_28 r_26.1.length cap_29) ∧ f 14 = (.slice a_47 r_45.1.length cap_48) ∧ f 112 = (.bool v_66) ∧ f 1000000 = (enc [])) ?_ ?_
              · intro f w_64 hJ
                obtain ⟨col_65, v_66, hm, hst, h_9, h_30, h_49, hs6, hs10, hs14, hs112, hs1000000⟩ := hJ
                rw [m_credencelaw10_RadixBack_J4.eq_1] at hm
                refine .ld (d := 6) (v := (.slice a_7 r_5.length cap_8)) hs6 ?_
                refine .ld (d := 10) (v := (.slice a_28 r_26.1.length cap_29)) hs10 ?_
                refine .ld (d := 14) (v := (.slice a_47 r_45.1.length cap_48)) hs14 ?_
                refine .ld (d := 112) (v := (.bool v_66)) hs112 ?_
                refine .ld (d := 1000000) (v := (enc [])) hs1000000 ?_
                clear hs6 hs10 hs14 hs112 hs1000000
                refine wcond (v_66) rfl (fun hb => ?_) (fun hb => ?_)
                · rw [if_pos hb] at hm
                  clear hb
                  refine wseq ?_
                  refine wregion ?_
                  refine lv (v := (.bool false)) rfl rfl (r_assign rfl) ?_
                  refine lnil ?_
                  refine wret ?_
                  cases hm
                  exact ⟨rfl, rfl, hst.below⟩
                · rw [if_neg (by rw [hb]; decide)] at hm
                  clear hb
                  refine wskip ?_
                  refine wseq ?_
                  refine wregion ?_
                  refine lv (v := (.slice a_28 r_26.1.length cap_29)) rfl rfl (r_move rfl) ?_
                  refine lv (v := (.int .i64 (r_26.1.length : Int))) rfl rfl (r_len Try.underlying22 rfl) ?_
                  refine lv (v := (.int .i64 (IntKind.i64.wrap ((r_26.1.length : Int) - 1)))) rfl rfl (r_sub (r_26.1.length : Int) 1 rfl rfl) ?_
                  refine lv (v := (.int .i64 (IntKind.i64.wrap ((r_26.1.length : Int) - 1)))) rfl rfl (r_assign rfl) ?_
                  refine lnil ?_
                  refine wseq ?_
                  refine wblock ?_
                  refine wloop (fun n f w_68 => ∃ (col_69 : Col) (i_70 : Int) (n_67 : Nat), n_67 = n ∧ m_credencelaw10_RadixBack_L2 N r_5 r_26 r_45 n_67 i_70 = some r ∧ St w0 (col0 col) col_69 w_68 ∧ Own (Rep.int .i64) 3 1 col_69 w_68 a_7 cap_8 r_5 ∧ Own (Rep.int .i64) 3 2 col_69 w_68 a_28 cap_29 r_26.1 ∧ Own (Rep.int .i64) 3 3 col_69 w_68 a_47 cap_48 r_45.1 ∧ f 6 = (.slice a_7 r_5.length cap_8) ∧ f 10 = (.slice a_28 r_26.1.length cap_29) ∧ f 14 = (.slice a_47 r_45.1.length cap_48) ∧ f 17 = (.int .i64 i_70) ∧ f 1000000 = (enc [])) N ⟨col_65, (IntKind.i64.wrap ((r_26.1.length : Int) - 1)), N, rfl, hm, hst, h_9, h_30, h_49, rfl, rfl, rfl, rfl, rfl⟩ ?_
                  clear hm; intro n f w_68 hI
                  obtain ⟨col_69, i_70, n_67, hn, hm, hst, h_9, h_30, h_49, hs6, hs10, hs14, hs17, hs1000000⟩ := hI
                  subst hn
                  refine .ld (d := 6) (v := (.slice a_7 r_5.length cap_8)) hs6 ?_
                  refine .ld (d := 10) (v := (.slice a_28 r_26.1.length cap_29)) hs10 ?_
                  refine .ld (d := 14) (v := (.slice a_47 r_45.1.length cap_48)) hs14 ?_
                  refine .ld (d := 17) (v := (.int .i64 i_70)) hs17 ?_
                  refine .ld (d := 1000000) (v := (enc [])) hs1000000 ?_
                  clear hs6 hs10 hs14 hs17 hs1000000
                  cases n_67 with
                  | zero => rw [m_credencelaw10_RadixBack_L2.eq_1] at hm; cases hm
                  | succ n_67 =>
                    rw [m_credencelaw10_RadixBack_L2.eq_2] at hm
                    refine wseq ?_
                    refine wseq ?_
                    refine Wp.cut (fun f w_78 => ∃ (col_79 : Col) (v_80 : Bool), m_credencelaw10_RadixBack_J5 N r_26 r_45 i_70 (m_credencelaw10_RadixBack_L2 N r_5 r_26 r_45 n_67) v_80 = some r ∧ St w0 (col0 col) col_79 w_78 ∧ Own (Rep.int .i64) 3 1 col_79 w_78 a_7 cap_8 r_5 ∧ Own (Rep.int .i64) 3 2 col_79 w_78 a_28 cap_29 r_26.1 ∧ Own (Rep.int .i64) 3 3 col_79 w_78 a_47 cap_48 r_45.1 ∧ f 6 = (.slice a_7 r_5.length cap_8) ∧ f 10 = (.slice a_28 r_26.1.length cap_29) ∧ f 14 = (.slice a_47 r_45.1.length cap_48) ∧ f 17 = (.int .i64 i_70) ∧ f 129 = (.bool v_80) ∧ f 1000000 = (enc [])) ?_ ?_
                    · intro f w_78 hJ
                      obtain ⟨col_79, v_80, hm, hst, h_9, h_30, h_49, hs6, hs10, hs14, hs17, hs129, hs1000000⟩ := hJ
                      rw [m_credencelaw10_RadixBack_J5.eq_1] at hm
                      refine .ld (d := 6) (v := (.slice a_7 r_5.length cap_8)) hs6 ?_
                      refine .ld (d := 10) (v := (.slice a_28 r_26.1.length cap_29)) hs10 ?_
                      refine .ld (d := 14) (v := (.slice a_47 r_45.1.length cap_48)) hs14 ?_
                      refine .ld (d := 17) (v := (.int .i64 i_70)) hs17 ?_
                      refine .ld (d := 129) (v := (.bool v_80)) hs129 ?_
                      refine .ld (d := 1000000) (v := (enc [])) hs1000000 ?_
                      clear hs6 hs10 hs14 hs17 hs129 hs1000000
                      refine wcond (v_80) rfl (fun hb => ?_) (fun hb => ?_)
                      · rw [if_pos hb] at hm
                        clear hb
                        refine wskip ?_
                        refine wblock ?_
                        refine wseq ?_
                        refine wseq ?_
                        refine wregion ?_
                        refine lv (v := (.slice a_47 r_45.1.length cap_48)) rfl rfl (r_move rfl) ?_
                        refine lv (v := (.int .i64 i_70)) rfl rfl (r_move rfl) ?_
                        obtain ⟨e_81, hj_82, hm⟩ := bind_some hm
                        refine lv (v := (sptr a_47 (Int.toNat i_70 * 1))) rfl rfl (r_idx Try.underlying22 Try.sizeOf3 rfl rfl (at?_some hj_82).1 (at?_some hj_82).2.1 (h_49.addr hj_82)) ?_
                        refine lv (v := (.int .i64 e_81)) rfl rfl (r_ld Try.isAgg3 rfl (h_49.atInt hj_82)) ?_
                        refine lv (v := (.bool (!decide (e_81 = 0)))) rfl rfl (r_neq e_81 0 rfl rfl) ?_
                        refine lnil ?_
                        refine wcond (!decide (e_81 = 0)) rfl (fun hb => ?_) (fun hb => ?_)
                        · rw [if_pos hb] at hm
                          clear hb
                          refine wseq ?_
                          refine wregion ?_
                          refine lv (v := (.bool false)) rfl rfl (r_assign rfl) ?_
                          refine lnil ?_
                          refine wret ?_
                          cases hm
                          exact ⟨rfl, rfl, hst.below⟩
                        · rw [if_neg (by rw [hb]; decide)] at hm
                          clear hb
                          refine wskip ?_
                          refine wregion ?_
                          refine lv (v := (.int .i64 i_70)) rfl rfl (r_move rfl) ?_
                          refine lv (v := (.int .i64 (IntKind.i64.wrap (i_70 - 1)))) rfl rfl (r_sub i_70 1 rfl rfl) ?_
                          refine lv (v := (.int .i64 (IntKind.i64.wrap (i_70 - 1)))) rfl rfl (r_assign rfl) ?_
                          refine lnil ?_
                          exact ⟨n_67, by omega, ⟨col_79, (IntKind.i64.wrap (i_70 - 1)), n_67, rfl, hm, hst, h_9, h_30, h_49, rfl, rfl, rfl, rfl, rfl⟩⟩
                      · rw [if_neg (by rw [hb]; decide)] at hm
                        clear hb
                        refine wexit (inB_hit ?_)
                        refine wseq ?_
                        refine wseq ?_
                        refine Wp.cut (fun f w_90 => ∃ (col_91 : Col) (v_92 : Bool), m_credencelaw10_RadixBack_J6 N r_26 r_45 i_70 v_92 = some r ∧ St w0 (col0 col) col_91 w_90 ∧ Own (Rep.int .i64) 3 2 col_91 w_90 a_28 cap_29 r_26.1 ∧ Own (Rep.int .i64) 3 3 col_91 w_90 a_47 cap_48 r_45.1 ∧ f 10 = (.slice a_28 r_26.1.length cap_29) ∧ f 14 = (.slice a_47 r_45.1.length cap_48) ∧ f 17 = (.int .i64 i_70) ∧ f 150 = (.bool v_92) ∧ f 1000000 = (enc [])) ?_ ?_
                        · intro f w_90 hJ
                          obtain ⟨col_91, v_92, hm, hst, h_30, h_49, hs10, hs14, hs17, hs150, hs1000000⟩ := hJ
                          rw [m_credencelaw10_RadixBack_J6.eq_1] at hm
                          refine .ld (d := 10) (v := (.slice a_28 r_26.1.length cap_29)) hs10 ?_
                          refine .ld (d := 14) (v := (.slice a_47 r_45.1.length cap_48)) hs14 ?_
                          refine .ld (d := 17) (v := (.int .i64 i_70)) hs17 ?_
                          refine .ld (d := 150) (v := (.bool v_92)) hs150 ?_
                          refine .ld (d := 1000000) (v := (enc [])) hs1000000 ?_
                          clear hs10 hs14 hs17 hs150 hs1000000
                          refine wcond (v_92) rfl (fun hb => ?_) (fun hb => ?_)
                          · rw [if_pos hb] at hm
                            clear hb
                            refine wseq ?_
                            refine wregion ?_
                            refine lv (v := (.bool false)) rfl rfl (r_assign rfl) ?_
                            refine lnil ?_
                            refine wret ?_
                            cases hm
                            exact ⟨rfl, rfl, hst.below⟩
                          · rw [if_neg (by rw [hb]; decide)] at hm
                            clear hb
                            refine wskip ?_
                            refine wseq ?_
                            refine wseq ?_
                            refine wregion ?_
                            refine lv (v := (.int .i64 0)) rfl rfl (r_assign rfl) ?_
                            refine lnil ?_
                            refine wblock ?_
                            refine wloop (fun n f w_94 => ∃ (col_95 : Col) (j_96 : Int) (n_93 : Nat), n_93 = n ∧ m_credencelaw10_RadixBack_L3 N r_26 r_45 i_70 n_93 j_96 = some r ∧ St w0 (col0 col) col_95 w_94 ∧ Own (Rep.int .i64) 3 2 col_95 w_94 a_28 cap_29 r_26.1 ∧ Own (Rep.int .i64) 3 3 col_95 w_94 a_47 cap_48 r_45.1 ∧ f 10 = (.slice a_28 r_26.1.length cap_29) ∧ f 14 = (.slice a_47 r_45.1.length cap_48) ∧ f 17 = (.int .i64 i_70) ∧ f 18 = (.int .i64 j_96) ∧ f 1000000 = (enc [])) N ⟨col_91, 0, N, rfl, hm, hst, h_30, h_49, rfl, rfl, rfl, rfl, rfl⟩ ?_
                            clear hm; intro n f w_94 hI
                            obtain ⟨col_95, j_96, n_93, hn, hm, hst, h_30, h_49, hs10, hs14, hs17, hs18, hs1000000⟩ := hI
                            subst hn
                            refine .ld (d := 10) (v := (.slice a_28 r_26.1.length cap_29)) hs10 ?_
                            refine .ld (d := 14) (v := (.slice a_47 r_45.1.length cap_48)) hs14 ?_
                            refine .ld (d := 17) (v := (.int .i64 i_70)) hs17 ?_
                            refine .ld (d := 18) (v := (.int .i64 j_96)) hs18 ?_
                            refine .ld (d := 1000000) (v := (enc [])) hs1000000 ?_
                            clear hs10 hs14 hs17 hs18 hs1000000
                            cases n_93 with
                            | zero => rw [m_credencelaw10_RadixBack_L3.eq_1] at hm; cases hm
                            | succ n_93 =>
                              rw [m_credencelaw10_RadixBack_L3.eq_2] at hm
                              refine wseq ?_
                              refine wseq ?_
                              refine wregion ?_
                              refine lv (v := (.int .i64 j_96)) rfl rfl (r_move rfl) ?_
                              refine lv (v := (.int .i64 i_70)) rfl rfl (r_move rfl) ?_
                              refine lv (v := (.bool (decide (j_96 < i_70)))) rfl rfl (r_lss j_96 i_70 rfl rfl) ?_
                              refine lnil ?_
                              refine wcond (decide (j_96 < i_70)) rfl (fun hb => ?_) (fun hb => ?_)
                              · rw [if_pos hb] at hm
                                clear hb
                                refine wskip ?_
                                refine wseq ?_
                                refine wblock ?_
                                refine wseq ?_
                                refine wquiet (col := col_95) (by kernel_rfl) (by kernel_rfl) ?_
                                refine qv (v := (.slice a_47 r_45.1.length cap_48)) rfl (fun _ hC => r_move rfl) ?_
                                refine qv (v := (.int .i64 j_96)) rfl (fun _ hC => r_move rfl) ?_
                                obtain ⟨e_97, hj_98, hm⟩ := bind_some hm
                                refine qv (v := (sptr a_47 (Int.toNat j_96 * 1))) rfl (fun _ hC => r_idx Try.underlying22 Try.sizeOf3 rfl rfl (at?_some hj_98).1 (at?_some hj_98).2.1 (h_49.addr hj_98)) ?_
                                refine qv (v := (.int .i64 e_97)) rfl (fun _ hC => r_ld Try.isAgg3 rfl ((h_49.gr hC).atInt hj_98)) ?_
                                refine qv (v := (.slice a_28 r_26.1.length cap_29)) rfl (fun _ hC => r_move rfl) ?_
                                refine qv (v := (.int .i64 j_96)) rfl (fun _ hC => r_move rfl) ?_
                                obtain ⟨e_99, hj_100, hm⟩ := bind_some hm
                                refine qv (v := (sptr a_28 (Int.toNat j_96 * 1))) rfl (fun _ hC => r_idx Try.underlying22 Try.sizeOf3 rfl rfl (at?_some hj_100).1 (at?_some hj_100).2.1 (h_30.addr hj_100)) ?_
                                refine qv (v := (.int .i64 e_99)) rfl (fun _ hC => r_ld Try.isAgg3 rfl ((h_30.gr hC).atInt hj_100)) ?_
                                refine qv (v := (.bool (!decide (e_97 = e_99)))) rfl (fun _ hC => r_neq e_97 e_99 rfl rfl) ?_
                                refine qnil ?_
                                intro w_101 hC
                                replace h_30 := h_30.gr hC
                                replace h_49 := h_49.gr hC
                                replace hst := hst.grow hC
                                refine wcond (!decide (e_97 = e_99)) rfl (fun hb => ?_) (fun hb => ?_)
                                · rw [if_pos hb] at hm
                                  clear hb
                                  refine wseq ?_
                                  refine wregion ?_
                                  refine lv (v := (.bool false)) rfl rfl (r_assign rfl) ?_
                                  refine lnil ?_
                                  refine wret ?_
                                  cases hm
                                  exact ⟨rfl, rfl, hst.below⟩
                                · rw [if_neg (by rw [hb]; decide)] at hm
                                  clear hb
                                  refine wskip ?_
                                  refine wregion ?_
                                  refine lv (v := (.int .i64 j_96)) rfl rfl (r_move rfl) ?_
                                  refine lv (v := (.int .i64 (IntKind.i64.wrap (j_96 + 1)))) rfl rfl (r_add j_96 1 rfl rfl) ?_
                                  refine lv (v := (.int .i64 (IntKind.i64.wrap (j_96 + 1)))) rfl rfl (r_assign rfl) ?_
                                  refine lnil ?_
                                  exact ⟨n_93, by omega, ⟨col_95, (IntKind.i64.wrap (j_96 + 1)), n_93, rfl, hm, hst, h_30, h_49, rfl, rfl, rfl, rfl, rfl⟩⟩
                              · rw [if_neg (by rw [hb]; decide)] at hm
                                clear hb
                                refine wexit (inB_hit ?_)
                                refine wseq ?_
                                refine wregion ?_
                                refine lv (v := (.bool true)) rfl rfl (r_assign rfl) ?_
                                refine lnil ?_
                                refine wret ?_
                                cases hm
                                exact ⟨rfl, rfl, hst.below⟩
                        · refine wquiet (col := col_79) (by kernel_rfl) (by kernel_rfl) ?_
                          refine qv (v := (.int .i64 i_70)) rfl (fun _ hC => r_move rfl) ?_
                          refine qv (v := (.bool (decide (i_70 < 0)))) rfl (fun _ hC => r_lss i_70 0 rfl rfl) ?_
                          refine qv (v := (.bool (decide (i_70 < 0)))) rfl (fun _ hC => r_move rfl) ?_
                          by_cases hg_102 : (decide (i_70 < 0)) = true
                          · rw [if_pos hg_102] at hm
                            refine qp (b := decide (i_70 < 0)) 139 rfl rfl rfl rfl (by rw [hg_102]; rfl) ?_
                            refine qp (b := decide (i_70 < 0)) 139 rfl rfl rfl rfl (by rw [hg_102]; rfl) ?_
                            refine qp (b := decide (i_70 < 0)) 139 rfl rfl rfl rfl (by rw [hg_102]; rfl) ?_
                            refine qp (b := decide (i_70 < 0)) 139 rfl rfl rfl rfl (by rw [hg_102]; rfl) ?_
                            refine qp (b := decide (i_70 < 0)) 139 rfl rfl rfl rfl (by rw [hg_102]; rfl) ?_
                            refine qp (b := decide (i_70 < 0)) 139 rfl rfl rfl rfl (by rw [hg_102]; rfl) ?_
                            refine qp (b := decide (i_70 < 0)) 139 rfl rfl rfl rfl (by rw [hg_102]; rfl) ?_
                            refine qp (b := decide (i_70 < 0)) 139 rfl rfl rfl rfl (by rw [hg_102]; rfl) ?_
                            refine qp (b := decide (i_70 < 0)) 139 rfl rfl rfl rfl (by rw [hg_102]; rfl) ?_
                            refine qp (b := decide (i_70 < 0)) 139 rfl rfl rfl rfl (by rw [hg_102]; rfl) ?_
                            refine qv (v := (.bool true)) rfl (fun _ hC => r_pickT (congrArg Value.bool hg_102) rfl) ?_
                            refine qnil ?_
                            intro w_103 hC
                            replace h_9 := h_9.gr hC
                            replace h_30 := h_30.gr hC
                            replace h_49 := h_49.gr hC
                            replace hst := hst.grow hC
                            exact ⟨col_79, true, hm, hst, h_30, h_49, rfl, rfl, rfl, rfl, rfl⟩
                          · rw [if_neg hg_102] at hm
                            replace hg_102 := Bool.eq_false_iff.2 hg_102
                            refine qg (b := decide (i_70 < 0)) 139 rfl rfl rfl (by rw [hg_102]; rfl) ?_
                            refine qv (v := (.slice a_47 r_45.1.length cap_48)) rfl (fun _ hC => r_move rfl) ?_
                            refine qg (b := decide (i_70 < 0)) 139 rfl rfl rfl (by rw [hg_102]; rfl) ?_
                            refine qv (v := (.int .i64 i_70)) rfl (fun _ hC => r_move rfl) ?_
                            refine qg (b := decide (i_70 < 0)) 139 rfl rfl rfl (by rw [hg_102]; rfl) ?_
                            obtain ⟨e_104, hj_105, hm⟩ := bind_some hm
                            refine qv (v := (sptr a_47 (Int.toNat i_70 * 1))) rfl (fun _ hC => r_idx Try.underlying22 Try.sizeOf3 rfl rfl (at?_some hj_105).1 (at?_some hj_105).2.1 (h_49.addr hj_105)) ?_
                            refine qg (b := decide (i_70 < 0)) 139 rfl rfl rfl (by rw [hg_102]; rfl) ?_
                            refine qv (v := (.int .i64 e_104)) rfl (fun _ hC => r_ld Try.isAgg3 rfl ((h_49.gr hC).atInt hj_105)) ?_
                            refine qg (b := decide (i_70 < 0)) 139 rfl rfl rfl (by rw [hg_102]; rfl) ?_
                            refine qv (v := (.slice a_28 r_26.1.length cap_29)) rfl (fun _ hC => r_move rfl) ?_
                            refine qg (b := decide (i_70 < 0)) 139 rfl rfl rfl (by rw [hg_102]; rfl) ?_
                            refine qv (v := (.int .i64 i_70)) rfl (fun _ hC => r_move rfl) ?_
                            refine qg (b := decide (i_70 < 0)) 139 rfl rfl rfl (by rw [hg_102]; rfl) ?_
                            obtain ⟨e_106, hj_107, hm⟩ := bind_some hm
                            refine qv (v := (sptr a_28 (Int.toNat i_70 * 1))) rfl (fun _ hC => r_idx Try.underlying22 Try.sizeOf3 rfl rfl (at?_some hj_107).1 (at?_some hj_107).2.1 (h_30.addr hj_107)) ?_
                            refine qg (b := decide (i_70 < 0)) 139 rfl rfl rfl (by rw [hg_102]; rfl) ?_
                            refine qv (v := (.int .i64 e_106)) rfl (fun _ hC => r_ld Try.isAgg3 rfl ((h_30.gr hC).atInt hj_107)) ?_
                            refine qg (b := decide (i_70 < 0)) 139 rfl rfl rfl (by rw [hg_102]; rfl) ?_
                            refine qv (v := (.int .i64 (IntKind.i64.wrap (e_106 + 1)))) rfl (fun _ hC => r_add e_106 1 rfl rfl) ?_
                            refine qg (b := decide (i_70 < 0)) 139 rfl rfl rfl (by rw [hg_102]; rfl) ?_
                            refine qv (v := (.bool (!decide (e_104 = (IntKind.i64.wrap (e_106 + 1)))))) rfl (fun _ hC => r_neq e_104 (IntKind.i64.wrap (e_106 + 1)) rfl rfl) ?_
                            refine qv (v := (.bool (!decide (e_104 = (IntKind.i64.wrap (e_106 + 1)))))) rfl (fun _ hC => r_pickF (congrArg Value.bool hg_102) rfl) ?_
                            refine qnil ?_
                            intro w_108 hC
                            replace h_9 := h_9.gr hC
                            replace h_30 := h_30.gr hC
                            replace h_49 := h_49.gr hC
                            replace hst := hst.grow hC
                            exact ⟨col_79, (!decide (e_104 = (IntKind.i64.wrap (e_106 + 1)))), hm, hst, h_30, h_49, rfl, rfl, rfl, rfl, rfl⟩
                    · refine wquiet (col := col_69) (by kernel_rfl) (by kernel_rfl) ?_
                      refine qv (v := (.int .i64 i_70)) rfl (fun _ hC => r_move rfl) ?_
                      refine qv (v := (.bool (decide (0 ≤ i_70)))) rfl (fun _ hC => r_geq i_70 0 rfl rfl) ?_
                      refine qv (v := (.bool (decide (0 ≤ i_70)))) rfl (fun _ hC => r_move rfl) ?_
                      by_cases hg_109 : (decide (0 ≤ i_70)) = true
                      · rw [if_pos hg_109] at hm
                        refine qg (b := decide (0 ≤ i_70)) 118 rfl rfl rfl (by rw [hg_109]; rfl) ?_
                        refine qv (v := (.slice a_28 r_26.1.length cap_29)) rfl (fun _ hC => r_move rfl) ?_
                        refine qg (b := decide (0 ≤ i_70)) 118 rfl rfl rfl (by rw [hg_109]; rfl) ?_
                        refine qv (v := (.int .i64 i_70)) rfl (fun _ hC => r_move rfl) ?_
                        refine qg (b := decide (0 ≤ i_70)) 118 rfl rfl rfl (by rw [hg_109]; rfl) ?_
                        obtain ⟨e_110, hj_111, hm⟩ := bind_some hm
                        refine qv (v := (sptr a_28 (Int.toNat i_70 * 1))) rfl (fun _ hC => r_idx Try.underlying22 Try.sizeOf3 rfl rfl (at?_some hj_111).1 (at?_some hj_111).2.1 (h_30.addr hj_111)) ?_
                        refine qg (b := decide (0 ≤ i_70)) 118 rfl rfl rfl (by rw [hg_109]; rfl) ?_
                        refine qv (v := (.int .i64 e_110)) rfl (fun _ hC => r_ld Try.isAgg3 rfl ((h_30.gr hC).atInt hj_111)) ?_
                        refine qg (b := decide (0 ≤ i_70)) 118 rfl rfl rfl (by rw [hg_109]; rfl) ?_
                        refine qv (v := (.slice a_7 r_5.length cap_8)) rfl (fun _ hC => r_move rfl) ?_
                        refine qg (b := decide (0 ≤ i_70)) 118 rfl rfl rfl (by rw [hg_109]; rfl) ?_
                        refine qv (v := (.int .i64 i_70)) rfl (fun _ hC => r_move rfl) ?_
                        refine qg (b := decide (0 ≤ i_70)) 118 rfl rfl rfl (by rw [hg_109]; rfl) ?_
                        obtain ⟨e_112, hj_113, hm⟩ := bind_some hm
                        refine qv (v := (sptr a_7 (Int.toNat i_70 * 1))) rfl (fun _ hC => r_idx Try.underlying22 Try.sizeOf3 rfl rfl (at?_some hj_113).1 (at?_some hj_113).2.1 (h_9.addr hj_113)) ?_
                        refine qg (b := decide (0 ≤ i_70)) 118 rfl rfl rfl (by rw [hg_109]; rfl) ?_
                        refine qv (v := (.int .i64 e_112)) rfl (fun _ hC => r_ld Try.isAgg3 rfl ((h_9.gr hC).atInt hj_113)) ?_
                        refine qg (b := decide (0 ≤ i_70)) 118 rfl rfl rfl (by rw [hg_109]; rfl) ?_
                        refine qv (v := (.int .i64 (IntKind.i64.wrap (e_112 - 1)))) rfl (fun _ hC => r_sub e_112 1 rfl rfl) ?_
                        refine qg (b := decide (0 ≤ i_70)) 118 rfl rfl rfl (by rw [hg_109]; rfl) ?_
                        refine qv (v := (.bool (decide (e_110 = (IntKind.i64.wrap (e_112 - 1)))))) rfl (fun _ hC => r_eql e_110 (IntKind.i64.wrap (e_112 - 1)) rfl rfl) ?_
                        refine qv (v := (.bool (decide (e_110 = (IntKind.i64.wrap (e_112 - 1)))))) rfl (fun _ hC => r_pickT (congrArg Value.bool hg_109) rfl) ?_
                        refine qnil ?_
                        intro w_114 hC
                        replace h_9 := h_9.gr hC
                        replace h_30 := h_30.gr hC
                        replace h_49 := h_49.gr hC
                        replace hst := hst.grow hC
                        exact ⟨col_69, (decide (e_110 = (IntKind.i64.wrap (e_112 - 1)))), hm, hst, h_9, h_30, h_49, rfl, rfl, rfl, rfl, rfl, rfl⟩
                      · rw [if_neg hg_109] at hm
                        replace hg_109 := Bool.eq_false_iff.2 hg_109
                        refine qp (b := decide (0 ≤ i_70)) 118 rfl rfl rfl rfl (by rw [hg_109]; rfl) ?_
                        refine qp (b := decide (0 ≤ i_70)) 118 rfl rfl rfl rfl (by rw [hg_109]; rfl) ?_
                        refine qp (b := decide (0 ≤ i_70)) 118 rfl rfl rfl rfl (by rw [hg_109]; rfl) ?_
                        refine qp (b := decide (0 ≤ i_70)) 118 rfl rfl rfl rfl (by rw [hg_109]; rfl) ?_
                        refine qp (b := decide (0 ≤ i_70)) 118 rfl rfl rfl rfl (by rw [hg_109]; rfl) ?_
                        refine qp (b := decide (0 ≤ i_70)) 118 rfl rfl rfl rfl (by rw [hg_109]; rfl) ?_
                        refine qp (b := decide (0 ≤ i_70)) 118 rfl rfl rfl rfl (by rw [hg_109]; rfl) ?_
                        refine qp (b := decide (0 ≤ i_70)) 118 rfl rfl rfl rfl (by rw [hg_109]; rfl) ?_
                        refine qp (b := decide (0 ≤ i_70)) 118 rfl rfl rfl rfl (by rw [hg_109]; rfl) ?_
                        refine qp (b := decide (0 ≤ i_70)) 118 rfl rfl rfl rfl (by rw [hg_109]; rfl) ?_
                        refine qv (v := (.bool false)) rfl (fun _ hC => r_pickF (congrArg Value.bool hg_109) rfl) ?_
                        refine qnil ?_
                        intro w_115 hC
                        replace h_9 := h_9.gr hC
                        replace h_30 := h_30.gr hC
                        replace h_49 := h_49.gr hC
                        replace hst := hst.grow hC
                        exact ⟨col_69, false, hm, hst, h_9, h_30, h_49, rfl, rfl, rfl, rfl, rfl, rfl⟩
              · refine wregion ?_
                refine lv (v := (.int .i64 r_45.2)) rfl rfl (r_move rfl) ?_
                refine lv (v := (.bool (!decide (r_45.2 = 0)))) rfl rfl (r_neq r_45.2 0 rfl rfl) ?_
                refine lv (v := (.bool (!decide (r_45.2 = 0)))) rfl rfl (r_move rfl) ?_
                by_cases hg_116 : (!decide (r_45.2 = 0)) = true
                · rw [if_pos hg_116] at hm
                  refine lp (b := !decide (r_45.2 = 0)) 106 rfl rfl rfl rfl (by rw [hg_116]; rfl) ?_
                  refine lp (b := !decide (r_45.2 = 0)) 106 rfl rfl rfl rfl (by rw [hg_116]; rfl) ?_
                  refine lp (b := !decide (r_45.2 = 0)) 106 rfl rfl rfl rfl (by rw [hg_116]; rfl) ?_
                  refine lp (b := !decide (r_45.2 = 0)) 106 rfl rfl rfl rfl (by rw [hg_116]; rfl) ?_
                  refine lp (b := !decide (r_45.2 = 0)) 106 rfl rfl rfl rfl (by rw [hg_116]; rfl) ?_
                  refine lv (v := (.bool true)) rfl rfl (r_pickT (congrArg Value.bool hg_116) rfl) ?_
                  refine lnil ?_
                  exact ⟨col_53, true, hm, hst, h_9, h_30, h_49, rfl, rfl, rfl, rfl, rfl⟩
                · rw [if_neg hg_116] at hm
                  replace hg_116 := Bool.eq_false_iff.2 hg_116
                  refine lg (b := !decide (r_45.2 = 0)) 106 rfl rfl rfl (by rw [hg_116]; rfl) ?_
                  refine lv (v := (.slice a_47 r_45.1.length cap_48)) rfl rfl (r_move rfl) ?_
                  refine lg (b := !decide (r_45.2 = 0)) 106 rfl rfl rfl (by rw [hg_116]; rfl) ?_
                  refine lv (v := (.int .i64 (r_45.1.length : Int))) rfl rfl (r_len Try.underlying22 rfl) ?_
                  refine lg (b := !decide (r_45.2 = 0)) 106 rfl rfl rfl (by rw [hg_116]; rfl) ?_
                  refine lv (v := (.slice a_28 r_26.1.length cap_29)) rfl rfl (r_move rfl) ?_
                  refine lg (b := !decide (r_45.2 = 0)) 106 rfl rfl rfl (by rw [hg_116]; rfl) ?_
                  refine lv (v := (.int .i64 (r_26.1.length : Int))) rfl rfl (r_len Try.underlying22 rfl) ?_
                  refine lg (b := !decide (r_45.2 = 0)) 106 rfl rfl rfl (by rw [hg_116]; rfl) ?_
                  refine lv (v := (.bool (!decide ((r_45.1.length : Int) = (r_26.1.length : Int))))) rfl rfl (r_neq (r_45.1.length : Int) (r_26.1.length : Int) rfl rfl) ?_
                  refine lv (v := (.bool (!decide ((r_45.1.length : Int) = (r_26.1.length : Int))))) rfl rfl (r_pickF (congrArg Value.bool hg_116) rfl) ?_
                  refine lnil ?_
                  exact ⟨col_53, (!decide ((r_45.1.length : Int) = (r_26.1.length : Int))), hm, hst, h_9, h_30, h_49, rfl, rfl, rfl, rfl, rfl⟩
        · refine wregion ?_
          refine lv (v := (.int .i64 r_26.2)) rfl rfl (r_move rfl) ?_
          refine lv (v := (.bool (!decide (r_26.2 = 0)))) rfl rfl (r_neq r_26.2 0 rfl rfl) ?_
          refine lv (v := (.bool (!decide (r_26.2 = 0)))) rfl rfl (r_move rfl) ?_
          by_cases hg_117 : (!decide (r_26.2 = 0)) = true
          · rw [if_pos hg_117] at hm
            refine lp (b := !decide (r_26.2 = 0)) 59 rfl rfl rfl rfl (by rw [hg_117]; rfl) ?_
            refine lp (b := !decide (r_26.2 = 0)) 59 rfl rfl rfl rfl (by rw [hg_117]; rfl) ?_
            refine lv (v := (.bool true)) rfl rfl (r_pickT (congrArg Value.bool hg_117) rfl) ?_
            refine lv (v := (.bool true)) rfl rfl (r_move rfl) ?_
            refine lp (b := true) 63 rfl rfl rfl rfl rfl ?_
            refine lp (b := true) 63 rfl rfl rfl rfl rfl ?_
            refine lp (b := true) 63 rfl rfl rfl rfl rfl ?_
            refine lv (v := (.bool true)) rfl rfl (r_pickT rfl rfl) ?_
            refine lv (v := (.bool true)) rfl rfl (r_move rfl) ?_
            refine lp (b := true) 68 rfl rfl rfl rfl rfl ?_
            refine lp (b := true) 68 rfl rfl rfl rfl rfl ?_
            refine lp (b := true) 68 rfl rfl rfl rfl rfl ?_
            refine lp (b := true) 68 rfl rfl rfl rfl rfl ?_
            refine lp (b := true) 68 rfl rfl rfl rfl rfl ?_
            refine lv (v := (.bool true)) rfl rfl (r_pickT rfl rfl) ?_
            refine lnil ?_
            exact ⟨col_34, true, hm, hst, h_9, h_30, rfl, rfl, rfl, rfl, rfl, rfl⟩
          · rw [if_neg hg_117] at hm
            replace hg_117 := Bool.eq_false_iff.2 hg_117
            refine lg (b := !decide (r_26.2 = 0)) 59 rfl rfl rfl (by rw [hg_117]; rfl) ?_
            refine lv (v := (.int .i64 r_35.2)) rfl rfl (r_move rfl) ?_
            refine lg (b := !decide (r_26.2 = 0)) 59 rfl rfl rfl (by rw [hg_117]; rfl) ?_
            refine lv (v := (.bool (!decide (r_35.2 = 0)))) rfl rfl (r_neq r_35.2 0 rfl rfl) ?_
            refine lv (v := (.bool (!decide (r_35.2 = 0)))) rfl rfl (r_pickF (congrArg Value.bool hg_117) rfl) ?_
            refine lv (v := (.bool (!decide (r_35.2 = 0)))) rfl rfl (r_move rfl) ?_
            by_cases hg_118 : (!decide (r_35.2 = 0)) = true
            · rw [if_pos hg_118] at hm
              refine lp (b := !decide (r_35.2 = 0)) 63 rfl rfl rfl rfl (by rw [hg_118]; rfl) ?_
              refine lp (b := !decide (r_35.2 = 0)) 63 rfl rfl rfl rfl (by rw [hg_118]; rfl) ?_
              refine lp (b := !decide (r_35.2 = 0)) 63 rfl rfl rfl rfl (by rw [hg_118]; rfl) ?_
              refine lv (v := (.bool true)) rfl rfl (r_pickT (congrArg Value.bool hg_118) rfl) ?_
              refine lv (v := (.bool true)) rfl rfl (r_move rfl) ?_
              refine lp (b := true) 68 rfl rfl rfl rfl rfl ?_
              refine lp (b := true) 68 rfl rfl rfl rfl rfl ?_
              refine lp (b := true) 68 rfl rfl rfl rfl rfl ?_
              refine lp (b := true) 68 rfl rfl rfl rfl rfl ?_
              refine lp (b := true) 68 rfl rfl rfl rfl rfl ?_
              refine lv (v := (.bool true)) rfl rfl (r_pickT rfl rfl) ?_
              refine lnil ?_
              exact ⟨col_34, true, hm, hst, h_9, h_30, rfl, rfl, rfl, rfl, rfl, rfl⟩
            · rw [if_neg hg_118] at hm
              replace hg_118 := Bool.eq_false_iff.2 hg_118
              refine lg (b := !decide (r_35.2 = 0)) 63 rfl rfl rfl (by rw [hg_118]; rfl) ?_
              refine lv (v := (.int .i64 r_35.1)) rfl rfl (r_move rfl) ?_
              refine lg (b := !decide (r_35.2 = 0)) 63 rfl rfl rfl (by rw [hg_118]; rfl) ?_
              refine lv (v := (.int .i64 k_25)) rfl rfl (r_move rfl) ?_
              refine lg (b := !decide (r_35.2 = 0)) 63 rfl rfl rfl (by rw [hg_118]; rfl) ?_
              refine lv (v := (.bool (!decide (r_35.1 = k_25)))) rfl rfl (r_neq r_35.1 k_25 rfl rfl) ?_
              refine lv (v := (.bool (!decide (r_35.1 = k_25)))) rfl rfl (r_pickF (congrArg Value.bool hg_118) rfl) ?_
              refine lv (v := (.bool (!decide (r_35.1 = k_25)))) rfl rfl (r_move rfl) ?_
              by_cases hg_119 : (!decide (r_35.1 = k_25)) = true
              · rw [if_pos hg_119] at hm
                refine lp (b := !decide (r_35.1 = k_25)) 68 rfl rfl rfl rfl (by rw [hg_119]; rfl) ?_
                refine lp (b := !decide (r_35.1 = k_25)) 68 rfl rfl rfl rfl (by rw [hg_119]; rfl) ?_
                refine lp (b := !decide (r_35.1 = k_25)) 68 rfl rfl rfl rfl (by rw [hg_119]; rfl) ?_
                refine lp (b := !decide (r_35.1 = k_25)) 68 rfl rfl rfl rfl (by rw [hg_119]; rfl) ?_
                refine lp (b := !decide (r_35.1 = k_25)) 68 rfl rfl rfl rfl (by rw [hg_119]; rfl) ?_
                refine lv (v := (.bool true)) rfl rfl (r_pickT (congrArg Value.bool hg_119) rfl) ?_
                refine lnil ?_
                exact ⟨col_34, true, hm, hst, h_9, h_30, rfl, rfl, rfl, rfl, rfl, rfl⟩
              · rw [if_neg hg_119] at hm
                replace hg_119 := Bool.eq_false_iff.2 hg_119
                refine lg (b := !decide (r_35.1 = k_25)) 68 rfl rfl rfl (by rw [hg_119]; rfl) ?_
                refine lv (v := (.slice a_28 r_26.1.length cap_29)) rfl rfl (r_move rfl) ?_
                refine lg (b := !decide (r_35.1 = k_25)) 68 rfl rfl rfl (by rw [hg_119]; rfl) ?_
                refine lv (v := (.int .i64 (r_26.1.length : Int))) rfl rfl (r_len Try.underlying22 rfl) ?_
                refine lg (b := !decide (r_35.1 = k_25)) 68 rfl rfl rfl (by rw [hg_119]; rfl) ?_
                refine lv (v := (.slice a_7 r_5.length cap_8)) rfl rfl (r_move rfl) ?_
                refine lg (b := !decide (r_35.1 = k_25)) 68 rfl rfl rfl (by rw [hg_119]; rfl) ?_
                refine lv (v := (.int .i64 (r_5.length : Int))) rfl rfl (r_len Try.underlying22 rfl) ?_
                refine lg (b := !decide (r_35.1 = k_25)) 68 rfl rfl rfl (by rw [hg_119]; rfl) ?_
                refine lv (v := (.bool (!decide ((r_26.1.length : Int) = (r_5.length : Int))))) rfl rfl (r_neq (r_26.1.length : Int) (r_5.length : Int) rfl rfl) ?_
                refine lv (v := (.bool (!decide ((r_26.1.length : Int) = (r_5.length : Int))))) rfl rfl (r_pickF (congrArg Value.bool hg_119) rfl) ?_
                refine lnil ?_
                exact ⟨col_34, (!decide ((r_26.1.length : Int) = (r_5.length : Int))), hm, hst, h_9, h_30, rfl, rfl, rfl, rfl, rfl, rfl⟩
      · refine wseq ?_
        refine wregion ?_
        refine lv (v := (.int .i64 (Int.tmod p1_at r_13.1))) rfl rfl (r_move rfl) ?_
        refine lv (v := (.bool (decide ((Int.tmod p1_at r_13.1) < 0)))) rfl rfl (r_lss (Int.tmod p1_at r_13.1) 0 rfl rfl) ?_
        refine lnil ?_
        refine wcond (decide ((Int.tmod p1_at r_13.1) < 0)) rfl (fun hb => ?_) (fun hb => ?_)
        · rw [if_pos hb] at hm
          clear hb
          refine wregion ?_
          refine lv (v := (.int .i64 (Int.tmod p1_at r_13.1))) rfl rfl (r_move rfl) ?_
          refine lv (v := (.int .i64 r_13.1)) rfl rfl (r_move rfl) ?_
          refine lv (v := (.int .i64 (IntKind.i64.wrap ((Int.tmod p1_at r_13.1) + r_13.1)))) rfl rfl (r_add (Int.tmod p1_at r_13.1) r_13.1 rfl rfl) ?_
          refine lv (v := (.int .i64 (IntKind.i64.wrap ((Int.tmod p1_at r_13.1) + r_13.1)))) rfl rfl (r_assign rfl) ?_
          refine lnil ?_
          exact ⟨col_20, (IntKind.i64.wrap ((Int.tmod p1_at r_13.1) + r_13.1)), hm, hst, h_9, rfl, rfl, rfl, rfl⟩
        · rw [if_neg (by rw [hb]; decide)] at hm
          clear hb
          refine wskip ?_
          exact ⟨col_20, (Int.tmod p1_at r_13.1), hm, hst, h_9, rfl, rfl, rfl, rfl⟩
  · refine wregion ?_
    refine lv (v := (.bool r_1)) rfl rfl (r_move rfl) ?_
    refine lv (v := (.bool (!r_1))) rfl rfl (r_not r_1 rfl) ?_
    refine lv (v := (.bool (!r_1))) rfl rfl (r_move rfl) ?_
    by_cases hg_120 : (!r_1) = true
    · rw [if_pos hg_120] at hm
      refine lp (b := !r_1) 29 rfl rfl rfl rfl (by rw [hg_120]; rfl) ?_
      refine lp (b := !r_1) 29 rfl rfl rfl rfl (by rw [hg_120]; rfl) ?_
      refine lv (v := (.bool true)) rfl rfl (r_pickT (congrArg Value.bool hg_120) rfl) ?_
      refine lv (v := (.bool true)) rfl rfl (r_move rfl) ?_
      refine lp (b := true) 33 rfl rfl rfl rfl rfl ?_
      refine lp (b := true) 33 rfl rfl rfl rfl rfl ?_
      refine lv (v := (.bool true)) rfl rfl (r_pickT rfl rfl) ?_
      refine lnil ?_
      exact ⟨col_12, true, hm, hst, h_9, rfl, rfl, rfl, rfl, rfl⟩
    · rw [if_neg hg_120] at hm
      replace hg_120 := Bool.eq_false_iff.2 hg_120
      refine lg (b := !r_1) 29 rfl rfl rfl (by rw [hg_120]; rfl) ?_
      refine lv (v := (.int .i64 r_13.2)) rfl rfl (r_move rfl) ?_
      refine lg (b := !r_1) 29 rfl rfl rfl (by rw [hg_120]; rfl) ?_
      refine lv (v := (.bool (!decide (r_13.2 = 0)))) rfl rfl (r_neq r_13.2 0 rfl rfl) ?_
      refine lv (v := (.bool (!decide (r_13.2 = 0)))) rfl rfl (r_pickF (congrArg Value.bool hg_120) rfl) ?_
      refine lv (v := (.bool (!decide (r_13.2 = 0)))) rfl rfl (r_move rfl) ?_
      by_cases hg_121 : (!decide (r_13.2 = 0)) = true
      · rw [if_pos hg_121] at hm
        refine lp (b := !decide (r_13.2 = 0)) 33 rfl rfl rfl rfl (by rw [hg_121]; rfl) ?_
        refine lp (b := !decide (r_13.2 = 0)) 33 rfl rfl rfl rfl (by rw [hg_121]; rfl) ?_
        refine lv (v := (.bool true)) rfl rfl (r_pickT (congrArg Value.bool hg_121) rfl) ?_
        refine lnil ?_
        exact ⟨col_12, true, hm, hst, h_9, rfl, rfl, rfl, rfl, rfl⟩
      · rw [if_neg hg_121] at hm
        replace hg_121 := Bool.eq_false_iff.2 hg_121
        refine lg (b := !decide (r_13.2 = 0)) 33 rfl rfl rfl (by rw [hg_121]; rfl) ?_
        refine lv (v := (.int .i64 r_13.1)) rfl rfl (r_move rfl) ?_
        refine lg (b := !decide (r_13.2 = 0)) 33 rfl rfl rfl (by rw [hg_121]; rfl) ?_
        refine lv (v := (.bool (decide (r_13.1 < 1)))) rfl rfl (r_lss r_13.1 1 rfl rfl) ?_
        refine lv (v := (.bool (decide (r_13.1 < 1)))) rfl rfl (r_pickF (congrArg Value.bool hg_121) rfl) ?_
        refine lnil ?_
        exact ⟨col_12, (decide (r_13.1 < 1)), hm, hst, h_9, rfl, rfl, rfl, rfl, rfl⟩



theorem w64 {n : Int} (h : -9223372036854775808 ≤ n ∧ n ≤ 9223372036854775807) : IntKind.i64.wrap n = n := by rw [IntKind.wrap_i64]; omega
theorem w32 {n : Int} (h : -2147483648 ≤ n ∧ n ≤ 2147483647) : IntKind.i32.wrap n = n := by rw [IntKind.wrap_i32]; omega
theorem w16 {n : Int} (h : 0 ≤ n ∧ n ≤ 65535) : IntKind.u16.wrap n = n := by rw [IntKind.wrap_u16]; omega
def goC : List Int → Int → Int × Int
  | [], n => (n, 0)
  | x :: l, n => if 2147483647 < n * x then (0, 4) else goC l (n * x)
def anyNeg (l : List Int) : Bool := l.any fun x => decide (x < 0)
def anyZero (l : List Int) : Bool := l.any fun x => decide (x = 0)
def cntS (l : List Int) : Int × Int := if anyNeg l then (0, 3) else if anyZero l then (0, 0) else goC l 1

theorem pos_of {l : List Int} (h1 : anyNeg l = false) (h2 : anyZero l = false) : ∀ x ∈ l, 1 ≤ x := by
  intro x hx
  have a := List.any_eq_false.1 h1 x hx
  have b := List.any_eq_false.1 h2 x hx
  simp only [decide_eq_true_eq] at a b
  omega

theorem goC_snd : ∀ (l : List Int) (n : Int), 1 ≤ n → n ≤ 2147483647 → (∀ x ∈ l, 1 ≤ x) → (goC l n).2 = 0 → 1 ≤ (goC l n).1 ∧ (goC l n).1 ≤ 2147483647
  | [], n, h, h', _, _ => ⟨h, h'⟩
  | x :: l, n, h, h', hp, h0 => by
    have hx := hp x (by simp)
    simp only [goC] at h0 ⊢
    split at h0
    · simp at h0
    · rename_i hle
      rw [if_neg hle]
      have : 1 * 1 ≤ n * x := Int.mul_le_mul h hx (by omega) (by omega)
      exact goC_snd l (n * x) (by omega) (by omega) (fun y hy => hp y (by simp [hy])) h0

theorem mul_le_big {n e : Int} (h1 : 0 ≤ n) (h2 : n ≤ 2147483647) (h3 : 0 ≤ e) (h4 : e ≤ 2147483647) : 0 ≤ n * e ∧ n * e ≤ 4611686014132420609 := by
  refine ⟨Int.mul_nonneg h1 h3, ?_⟩
  have := Int.mul_le_mul h2 h4 h3 (by omega : (0 : Int) ≤ 2147483647)
  omega
theorem le_mul_pos {n e : Int} (h1 : 1 ≤ n) (h3 : 0 ≤ e) : e ≤ n * e := by
  have := Int.mul_le_mul_of_nonneg_right h1 h3
  omega

/-- The digits that are set: in front of place k. -/
def dg (xs : List Int) : Nat → Int → List Int → List Int
  | 0, _, out => out
  | k + 1, at_, out => dg xs k (IntKind.i64.wrap (Int.tdiv at_ (xs.getD k 0))) (out.set k (Int.tmod at_ (xs.getD k 0)))
theorem dg_length (xs : List Int) : ∀ k at_ out, (dg xs k at_ out).length = out.length
  | 0, _, _ => rfl
  | k + 1, at_, out => by simp [dg, dg_length xs k]
/-- Places and bases, from place k - 1 down. -/
def bp (xs : List Int) : Nat → List (Int × Int)
  | 0 => []
  | k + 1 => ((k : Int), xs.getD k 0) :: bp xs k

theorem at_get {xs : List Int} {k : Nat} (h : k < xs.length) : at? xs (k : Int) = some (xs.getD k 0) := by
  rw [at?_nat, List.getElem?_eq_getElem h]; simp [h]
theorem at_ge {xs : List Int} {k : Nat} (h : xs.length ≤ k) : at? xs (k : Int) = none := by
  rw [at?_nat, List.getElem?_eq_none h]
theorem wrap_up {k : Nat} (h : k < 4611686018427387904) : IntKind.i64.wrap ((k : Int) + 1) = ((k + 1 : Nat) : Int) := by
  rw [w64 (by omega)]; omega
theorem wrap_dn (k : Nat) (h : k < 4611686018427387904) : IntKind.i64.wrap (((k + 1 : Nat) : Int) - 1) = (k : Int) := by
  rw [w64 (by omega)]; omega
theorem chk_pos {β : Type} {c : Prop} [Decidable c] {x : Option β} (h : c) : chk c x = x := by unfold chk; rw [if_pos h]



def m_credenceref10_Count_J1 (i_5 : Int) (kk_L1 : (Int → Int → Option (Int × Int))) (n_8 : Int) : Option (Int × Int) :=
  kk_L1 n_8 (IntKind.i64.wrap (i_5 + 1))

def m_credenceref10_Count_J2 (p0_sizes : List Int) (n_14 : Int) (i_15 : Int) (kk_L2 : (Int → Int → Option (Int × Int))) (v_19 : Bool) : Option (Int × Int) :=
  if v_19 = true then ((at? p0_sizes i_15).bind fun e_20 => if (decide (2147483647 < e_20)) = true then (some (0, 4)) else (if (decide (2147483647 < (IntKind.i64.wrap (n_14 * e_20)))) = true then (some (0, 4)) else (kk_L2 (IntKind.i64.wrap (n_14 * e_20)) (IntKind.i64.wrap (i_15 + 1))))) else (some (n_14, 0))

def m_credenceref10_Count_L2 (N : Nat) (p0_sizes : List Int) : Nat → Int → Int → Option (Int × Int)
  | 0, _, _ => none
  | n_11 + 1, n_14, i_15 => if (decide (i_15 < (p0_sizes.length : Int))) = true then (m_credenceref10_Count_J2 p0_sizes n_14 i_15 (m_credenceref10_Count_L2 N p0_sizes n_11) (decide (0 < n_14))) else (m_credenceref10_Count_J2 p0_sizes n_14 i_15 (m_credenceref10_Count_L2 N p0_sizes n_11) false)

def m_credenceref10_Count_L1 (N : Nat) (p0_sizes : List Int) : Nat → Int → Int → Option (Int × Int)
  | 0, _, _ => none
  | n_1 + 1, n_4, i_5 => if (decide (i_5 < (p0_sizes.length : Int))) = true then ((at? p0_sizes i_5).bind fun e_9 => if (decide (e_9 < 0)) = true then (some (0, 3)) else (if (decide (e_9 = 0)) = true then (m_credenceref10_Count_J1 i_5 (m_credenceref10_Count_L1 N p0_sizes n_1) 0) else (m_credenceref10_Count_J1 i_5 (m_credenceref10_Count_L1 N p0_sizes n_1) n_4))) else (m_credenceref10_Count_L2 N p0_sizes N n_4 0)

def m_credenceref10_Count (N : Nat) (p0_sizes : List Int) : Option (Int × Int) :=
  m_credenceref10_Count_L1 N p0_sizes N 1 0

set_option maxRecDepth 100000 in
theorem c_credenceref10_Count (N : Nat) (col : Col) (w0 : World) (a0 : Option Addr) (cap0 : Nat) (p0_sizes : List Int) (h0 : Sl (Rep.int .i64) col w0 a0 cap0 p0_sizes) (r : (Int × Int)) (hm : m_credenceref10_Count N p0_sizes = some r) :
    Calls Try.prog 24 #[(.slice a0 p0_sizes.length cap0)] w0 (fun e w' => e = .returned (.tuple #[.int .i64 r.1, .int .i64 r.2]) ∧ Below w0.heap.size w0 w') := by
  refine calls_of2 2 3 (m := 47) (args := [(.slice a0 p0_sizes.length cap0)]) Try.func24 rfl rfl rfl rfl rfl ?_
  rw [m_credenceref10_Count.eq_1] at hm
  have hst := St.start col w0
  replace h0 := h0.keep (Stay.start col w0)
  refine wseq ?_
  refine wregion ?_
  refine lv (v := (.int .i64 0)) rfl rfl (r_assign rfl) ?_
  refine lv (v := (.int .i64 0)) rfl rfl (r_assign rfl) ?_
  refine lnil ?_
  refine wseq ?_
  refine wregion ?_
  refine lv (v := (.int .i64 1)) rfl rfl (r_assign rfl) ?_
  refine lnil ?_
  refine wseq ?_
  refine wseq ?_
  refine wregion ?_
  refine lv (v := (.int .i64 0)) rfl rfl (r_assign rfl) ?_
  refine lnil ?_
  refine wblock ?_
  refine wloop (fun n f w_2 => ∃ (col_3 : Col) (n_4 : Int) (i_5 : Int) (n_1 : Nat), n_1 = n ∧ m_credenceref10_Count_L1 N p0_sizes n_1 n_4 i_5 = some r ∧ St w0 (col0 col) col_3 w_2 ∧ Sl (Rep.int .i64) col_3 w_2 a0 cap0 p0_sizes ∧ f 0 = (.slice a0 p0_sizes.length cap0) ∧ f 4 = (.int .i64 n_4) ∧ f 5 = (.int .i64 i_5) ∧ f 1000000 = (enc [])) N ⟨(col0 col), 1, 0, N, rfl, hm, hst, h0, rfl, rfl, rfl, rfl⟩ ?_
  clear hm; intro n f w_2 hI
  obtain ⟨col_3, n_4, i_5, n_1, hn, hm, hst, h0, hs0, hs4, hs5, hs1000000⟩ := hI
  subst hn
  refine .ld (d := 0) (v := (.slice a0 p0_sizes.length cap0)) hs0 ?_
  refine .ld (d := 4) (v := (.int .i64 n_4)) hs4 ?_
  refine .ld (d := 5) (v := (.int .i64 i_5)) hs5 ?_
  refine .ld (d := 1000000) (v := (enc [])) hs1000000 ?_
  clear hs0 hs4 hs5 hs1000000
  cases n_1 with
  | zero => rw [m_credenceref10_Count_L1.eq_1] at hm; cases hm
  | succ n_1 =>
    rw [m_credenceref10_Count_L1.eq_2] at hm
    refine wseq ?_
    refine wseq ?_
    refine wregion ?_
    refine lv (v := (.int .i64 i_5)) rfl rfl (r_move rfl) ?_
    refine lv (v := (.slice a0 p0_sizes.length cap0)) rfl rfl (r_move rfl) ?_
    refine lv (v := (.int .i64 (p0_sizes.length : Int))) rfl rfl (r_len Try.underlying22 rfl) ?_
    refine lv (v := (.bool (decide (i_5 < (p0_sizes.length : Int))))) rfl rfl (r_lss i_5 (p0_sizes.length : Int) rfl rfl) ?_
    refine lnil ?_
    refine wcond (decide (i_5 < (p0_sizes.length : Int))) rfl (fun hb => ?_) (fun hb => ?_)
    · rw [if_pos hb] at hm
      clear hb
      refine wskip ?_
      refine wseq ?_
      refine Wp.cut (fun f w_6 => ∃ (col_7 : Col) (n_8 : Int), m_credenceref10_Count_J1 i_5 (m_credenceref10_Count_L1 N p0_sizes n_1) n_8 = some r ∧ St w0 (col0 col) col_7 w_6 ∧ Sl (Rep.int .i64) col_7 w_6 a0 cap0 p0_sizes ∧ f 0 = (.slice a0 p0_sizes.length cap0) ∧ f 4 = (.int .i64 n_8) ∧ f 5 = (.int .i64 i_5) ∧ f 1000000 = (enc [])) ?_ ?_
      · intro f w_6 hJ
        obtain ⟨col_7, n_8, hm, hst, h0, hs0, hs4, hs5, hs1000000⟩ := hJ
        rw [m_credenceref10_Count_J1.eq_1] at hm
        refine .ld (d := 0) (v := (.slice a0 p0_sizes.length cap0)) hs0 ?_
        refine .ld (d := 4) (v := (.int .i64 n_8)) hs4 ?_
        refine .ld (d := 5) (v := (.int .i64 i_5)) hs5 ?_
        refine .ld (d := 1000000) (v := (enc [])) hs1000000 ?_
        clear hs0 hs4 hs5 hs1000000
        refine wregion ?_
        refine lv (v := (.int .i64 i_5)) rfl rfl (r_move rfl) ?_
        refine lv (v := (.int .i64 (IntKind.i64.wrap (i_5 + 1)))) rfl rfl (r_add i_5 1 rfl rfl) ?_
        refine lv (v := (.int .i64 (IntKind.i64.wrap (i_5 + 1)))) rfl rfl (r_assign rfl) ?_
        refine lnil ?_
        exact ⟨n_1, by omega, ⟨col_7, n_8, (IntKind.i64.wrap (i_5 + 1)), n_1, rfl, hm, hst, h0, rfl, rfl, rfl, rfl⟩⟩
      · refine wblock ?_
        refine wseq ?_
        refine wseq ?_
        refine wregion ?_
        refine lv (v := (.slice a0 p0_sizes.length cap0)) rfl rfl (r_move rfl) ?_
        refine lv (v := (.int .i64 i_5)) rfl rfl (r_move rfl) ?_
        obtain ⟨e_9, hj_10, hm⟩ := bind_some hm
        refine lv (v := (sptr a0 (Int.toNat i_5 * 1))) rfl rfl (r_idx Try.underlying22 Try.sizeOf3 rfl rfl (at?_some hj_10).1 (at?_some hj_10).2.1 (h0.addr hj_10)) ?_
        refine lv (v := (.int .i64 e_9)) rfl rfl (r_ld Try.isAgg3 rfl (h0.atInt hj_10)) ?_
        refine lv (v := (.bool (decide (e_9 < 0)))) rfl rfl (r_lss e_9 0 rfl rfl) ?_
        refine lnil ?_
        refine wcond (decide (e_9 < 0)) rfl (fun hb => ?_) (fun hb => ?_)
        · rw [if_pos hb] at hm
          clear hb
          refine wseq ?_
          refine wregion ?_
          refine lv (v := (.int .i64 0)) rfl rfl (r_assign rfl) ?_
          refine lv (v := (.int .i64 3)) rfl rfl (r_assign rfl) ?_
          refine lnil ?_
          refine wret ?_
          cases hm
          exact ⟨rfl, rfl, hst.below⟩
        · rw [if_neg (by rw [hb]; decide)] at hm
          clear hb
          refine wskip ?_
          refine wseq ?_
          refine wregion ?_
          refine lv (v := (.slice a0 p0_sizes.length cap0)) rfl rfl (r_move rfl) ?_
          refine lv (v := (.int .i64 i_5)) rfl rfl (r_move rfl) ?_
          refine lv (v := (sptr a0 (Int.toNat i_5 * 1))) rfl rfl (r_idx Try.underlying22 Try.sizeOf3 rfl rfl (at?_some hj_10).1 (at?_some hj_10).2.1 (h0.addr hj_10)) ?_
          refine lv (v := (.int .i64 e_9)) rfl rfl (r_ld Try.isAgg3 rfl (h0.atInt hj_10)) ?_
          refine lv (v := (.bool (decide (e_9 = 0)))) rfl rfl (r_eql e_9 0 rfl rfl) ?_
          refine lnil ?_
          refine wcond (decide (e_9 = 0)) rfl (fun hb => ?_) (fun hb => ?_)
          · rw [if_pos hb] at hm
            clear hb
            refine wregion ?_
            refine lv (v := (.int .i64 0)) rfl rfl (r_assign rfl) ?_
            refine lnil ?_
            exact ⟨col_3, 0, hm, hst, h0, rfl, rfl, rfl, rfl⟩
          · rw [if_neg (by rw [hb]; decide)] at hm
            clear hb
            refine wskip ?_
            exact ⟨col_3, n_4, hm, hst, h0, rfl, rfl, rfl, rfl⟩
    · rw [if_neg (by rw [hb]; decide)] at hm
      clear hb
      refine wexit (inB_hit ?_)
      refine wseq ?_
      refine wseq ?_
      refine wregion ?_
      refine lv (v := (.int .i64 0)) rfl rfl (r_assign rfl) ?_
      refine lnil ?_
      refine wblock ?_
      refine wloop (fun n f w_12 => ∃ (col_13 : Col) (n_14 : Int) (i_15 : Int) (n_11 : Nat), n_11 = n ∧ m_credenceref10_Count_L2 N p0_sizes n_11 n_14 i_15 = some r ∧ St w0 (col0 col) col_13 w_12 ∧ Sl (Rep.int .i64) col_13 w_12 a0 cap0 p0_sizes ∧ f 0 = (.slice a0 p0_sizes.length cap0) ∧ f 4 = (.int .i64 n_14) ∧ f 6 = (.int .i64 i_15) ∧ f 1000000 = (enc [])) N ⟨col_3, n_4, 0, N, rfl, hm, hst, h0, rfl, rfl, rfl, rfl⟩ ?_
      clear hm; intro n f w_12 hI
      obtain ⟨col_13, n_14, i_15, n_11, hn, hm, hst, h0, hs0, hs4, hs6, hs1000000⟩ := hI
      subst hn
      refine .ld (d := 0) (v := (.slice a0 p0_sizes.length cap0)) hs0 ?_
      refine .ld (d := 4) (v := (.int .i64 n_14)) hs4 ?_
      refine .ld (d := 6) (v := (.int .i64 i_15)) hs6 ?_
      refine .ld (d := 1000000) (v := (enc [])) hs1000000 ?_
      clear hs0 hs4 hs6 hs1000000
      cases n_11 with
      | zero => rw [m_credenceref10_Count_L2.eq_1] at hm; cases hm
      | succ n_11 =>
        rw [m_credenceref10_Count_L2.eq_2] at hm
        refine wseq ?_
        refine wseq ?_
        refine Wp.cut (fun f w_17 => ∃ (col_18 : Col) (v_19 : Bool), m_credenceref10_Count_J2 p0_sizes n_14 i_15 (m_credenceref10_Count_L2 N p0_sizes n_11) v_19 = some r ∧ St w0 (col0 col) col_18 w_17 ∧ Sl (Rep.int .i64) col_18 w_17 a0 cap0 p0_sizes ∧ f 0 = (.slice a0 p0_sizes.length cap0) ∧ f 4 = (.int .i64 n_14) ∧ f 6 = (.int .i64 i_15) ∧ f 30 = (.bool v_19) ∧ f 1000000 = (enc [])) ?_ ?_
        · intro f w_17 hJ
          obtain ⟨col_18, v_19, hm, hst, h0, hs0, hs4, hs6, hs30, hs1000000⟩ := hJ
          rw [m_credenceref10_Count_J2.eq_1] at hm
          refine .ld (d := 0) (v := (.slice a0 p0_sizes.length cap0)) hs0 ?_
          refine .ld (d := 4) (v := (.int .i64 n_14)) hs4 ?_
          refine .ld (d := 6) (v := (.int .i64 i_15)) hs6 ?_
          refine .ld (d := 30) (v := (.bool v_19)) hs30 ?_
          refine .ld (d := 1000000) (v := (enc [])) hs1000000 ?_
          clear hs0 hs4 hs6 hs30 hs1000000
          refine wcond (v_19) rfl (fun hb => ?_) (fun hb => ?_)
          · rw [if_pos hb] at hm
            clear hb
            refine wskip ?_
            refine wseq ?_
            refine wblock ?_
            refine wseq ?_
            refine wseq ?_
            refine wregion ?_
            refine lv (v := (.slice a0 p0_sizes.length cap0)) rfl rfl (r_move rfl) ?_
            refine lv (v := (.int .i64 i_15)) rfl rfl (r_move rfl) ?_
            obtain ⟨e_20, hj_21, hm⟩ := bind_some hm
            refine lv (v := (sptr a0 (Int.toNat i_15 * 1))) rfl rfl (r_idx Try.underlying22 Try.sizeOf3 rfl rfl (at?_some hj_21).1 (at?_some hj_21).2.1 (h0.addr hj_21)) ?_
            refine lv (v := (.int .i64 e_20)) rfl rfl (r_ld Try.isAgg3 rfl (h0.atInt hj_21)) ?_
            refine lv (v := (.bool (decide (2147483647 < e_20)))) rfl rfl (r_gtr e_20 2147483647 rfl rfl) ?_
            refine lnil ?_
            refine wcond (decide (2147483647 < e_20)) rfl (fun hb => ?_) (fun hb => ?_)
            · rw [if_pos hb] at hm
              clear hb
              refine wseq ?_
              refine wregion ?_
              refine lv (v := (.int .i64 0)) rfl rfl (r_assign rfl) ?_
              refine lv (v := (.int .i64 4)) rfl rfl (r_assign rfl) ?_
              refine lnil ?_
              refine wret ?_
              cases hm
              exact ⟨rfl, rfl, hst.below⟩
            · rw [if_neg (by rw [hb]; decide)] at hm
              clear hb
              refine wskip ?_
              refine wseq ?_
              refine wregion ?_
              refine lv (v := (.int .i64 n_14)) rfl rfl (r_move rfl) ?_
              refine lv (v := (.slice a0 p0_sizes.length cap0)) rfl rfl (r_move rfl) ?_
              refine lv (v := (.int .i64 i_15)) rfl rfl (r_move rfl) ?_
              refine lv (v := (sptr a0 (Int.toNat i_15 * 1))) rfl rfl (r_idx Try.underlying22 Try.sizeOf3 rfl rfl (at?_some hj_21).1 (at?_some hj_21).2.1 (h0.addr hj_21)) ?_
              refine lv (v := (.int .i64 e_20)) rfl rfl (r_ld Try.isAgg3 rfl (h0.atInt hj_21)) ?_
              refine lv (v := (.int .i64 (IntKind.i64.wrap (n_14 * e_20)))) rfl rfl (r_mul n_14 e_20 rfl rfl) ?_
              refine lv (v := (.int .i64 (IntKind.i64.wrap (n_14 * e_20)))) rfl rfl (r_assign rfl) ?_
              refine lnil ?_
              refine wseq ?_
              refine wregion ?_
              refine lv (v := (.int .i64 (IntKind.i64.wrap (n_14 * e_20)))) rfl rfl (r_move rfl) ?_
              refine lv (v := (.bool (decide (2147483647 < (IntKind.i64.wrap (n_14 * e_20)))))) rfl rfl (r_gtr (IntKind.i64.wrap (n_14 * e_20)) 2147483647 rfl rfl) ?_
              refine lnil ?_
              refine wcond (decide (2147483647 < (IntKind.i64.wrap (n_14 * e_20)))) rfl (fun hb => ?_) (fun hb => ?_)
              · rw [if_pos hb] at hm
                clear hb
                refine wseq ?_
                refine wregion ?_
                refine lv (v := (.int .i64 0)) rfl rfl (r_assign rfl) ?_
                refine lv (v := (.int .i64 4)) rfl rfl (r_assign rfl) ?_
                refine lnil ?_
                refine wret ?_
                cases hm
                exact ⟨rfl, rfl, hst.below⟩
              · rw [if_neg (by rw [hb]; decide)] at hm
                clear hb
                refine wskip ?_
                refine wregion ?_
                refine lv (v := (.int .i64 i_15)) rfl rfl (r_move rfl) ?_
                refine lv (v := (.int .i64 (IntKind.i64.wrap (i_15 + 1)))) rfl rfl (r_add i_15 1 rfl rfl) ?_
                refine lv (v := (.int .i64 (IntKind.i64.wrap (i_15 + 1)))) rfl rfl (r_assign rfl) ?_
                refine lnil ?_
                exact ⟨n_11, by omega, ⟨col_18, (IntKind.i64.wrap (n_14 * e_20)), (IntKind.i64.wrap (i_15 + 1)), n_11, rfl, hm, hst, h0, rfl, rfl, rfl, rfl⟩⟩
          · rw [if_neg (by rw [hb]; decide)] at hm
            clear hb
            refine wexit (inB_hit ?_)
            refine wseq ?_
            refine wregion ?_
            refine lv (v := (.int .i64 n_14)) rfl rfl (r_move rfl) ?_
            refine lv (v := (.int .i64 n_14)) rfl rfl (r_assign rfl) ?_
            refine lv (v := (.int .i64 0)) rfl rfl (r_assign rfl) ?_
            refine lnil ?_
            refine wret ?_
            cases hm
            exact ⟨rfl, rfl, hst.below⟩
        · refine wregion ?_
          refine lv (v := (.int .i64 i_15)) rfl rfl (r_move rfl) ?_
          refine lv (v := (.slice a0 p0_sizes.length cap0)) rfl rfl (r_move rfl) ?_
          refine lv (v := (.int .i64 (p0_sizes.length : Int))) rfl rfl (r_len Try.underlying22 rfl) ?_
          refine lv (v := (.bool (decide (i_15 < (p0_sizes.length : Int))))) rfl rfl (r_lss i_15 (p0_sizes.length : Int) rfl rfl) ?_
          refine lv (v := (.bool (decide (i_15 < (p0_sizes.length : Int))))) rfl rfl (r_move rfl) ?_
          by_cases hg_22 : (decide (i_15 < (p0_sizes.length : Int))) = true
          · rw [if_pos hg_22] at hm
            refine lg (b := decide (i_15 < (p0_sizes.length : Int))) 27 rfl rfl rfl (by rw [hg_22]; rfl) ?_
            refine lv (v := (.int .i64 n_14)) rfl rfl (r_move rfl) ?_
            refine lg (b := decide (i_15 < (p0_sizes.length : Int))) 27 rfl rfl rfl (by rw [hg_22]; rfl) ?_
            refine lv (v := (.bool (decide (0 < n_14)))) rfl rfl (r_gtr n_14 0 rfl rfl) ?_
            refine lv (v := (.bool (decide (0 < n_14)))) rfl rfl (r_pickT (congrArg Value.bool hg_22) rfl) ?_
            refine lnil ?_
            exact ⟨col_13, (decide (0 < n_14)), hm, hst, h0, rfl, rfl, rfl, rfl, rfl⟩
          · rw [if_neg hg_22] at hm
            replace hg_22 := Bool.eq_false_iff.2 hg_22
            refine lp (b := decide (i_15 < (p0_sizes.length : Int))) 27 rfl rfl rfl rfl (by rw [hg_22]; rfl) ?_
            refine lp (b := decide (i_15 < (p0_sizes.length : Int))) 27 rfl rfl rfl rfl (by rw [hg_22]; rfl) ?_
            refine lv (v := (.bool false)) rfl rfl (r_pickF (congrArg Value.bool hg_22) rfl) ?_
            refine lnil ?_
            exact ⟨col_13, false, hm, hst, h0, rfl, rfl, rfl, rfl, rfl⟩




def m_credenceref10_At_J1 (p0_sizes : List Int) (p1_digits : List Int) (at_8 : Int) (i_9 : Int) (kk_L1 : (Int → Int → Option (Int × Int))) (v_19 : Bool) : Option (Int × Int) :=
  if v_19 = true then (some (0, 3)) else ((at? p0_sizes i_9).bind fun e_20 => (at? p1_digits i_9).bind fun e_22 => kk_L1 (IntKind.i64.wrap ((IntKind.i64.wrap (at_8 * e_20)) + e_22)) (IntKind.i64.wrap (i_9 + 1)))

def m_credenceref10_At_L1 (N : Nat) (p0_sizes : List Int) (p1_digits : List Int) : Nat → Int → Int → Option (Int × Int)
  | 0, _, _ => none
  | n_5 + 1, at_8, i_9 => if (decide (i_9 < (p0_sizes.length : Int))) = true then ((at? p1_digits i_9).bind fun e_25 => if (decide (e_25 < 0)) = true then (m_credenceref10_At_J1 p0_sizes p1_digits at_8 i_9 (m_credenceref10_At_L1 N p0_sizes p1_digits n_5) true) else ((at? p0_sizes i_9).bind fun e_29 => m_credenceref10_At_J1 p0_sizes p1_digits at_8 i_9 (m_credenceref10_At_L1 N p0_sizes p1_digits n_5) (decide (e_29 ≤ e_25)))) else (some (at_8, 0))

def m_credenceref10_At (N : Nat) (p0_sizes : List Int) (p1_digits : List Int) : Option (Int × Int) :=
  (m_credenceref10_Count N p0_sizes).bind fun r_1 => if (!decide (r_1.2 = 0)) = true then (some (0, r_1.2)) else (if (!decide ((p1_digits.length : Int) = (p0_sizes.length : Int))) = true then (some (0, 60)) else (m_credenceref10_At_L1 N p0_sizes p1_digits N 0 0))

set_option maxRecDepth 100000 in
theorem c_credenceref10_At (N : Nat) (col : Col) (w0 : World) (a0 : Option Addr) (cap0 : Nat) (p0_sizes : List Int) (h0 : Sl (Rep.int .i64) col w0 a0 cap0 p0_sizes) (a1 : Option Addr) (cap1 : Nat) (p1_digits : List Int) (h1 : Sl (Rep.int .i64) col w0 a1 cap1 p1_digits) (r : (Int × Int)) (hm : m_credenceref10_At N p0_sizes p1_digits = some r) :
    Calls Try.prog 42 #[(.slice a0 p0_sizes.length cap0), (.slice a1 p1_digits.length cap1)] w0 (fun e w' => e = .returned (.tuple #[.int .i64 r.1, .int .i64 r.2]) ∧ Below w0.heap.size w0 w') := by
  refine calls_of2 4 5 (m := 57) (args := [(.slice a0 p0_sizes.length cap0), (.slice a1 p1_digits.length cap1)]) Try.func42 rfl rfl rfl rfl rfl ?_
  rw [m_credenceref10_At.eq_1] at hm
  have hst := St.start col w0
  replace h0 := h0.keep (Stay.start col w0)
  replace h1 := h1.keep (Stay.start col w0)
  refine wseq ?_
  refine wregion ?_
  refine lv (v := (.int .i64 0)) rfl rfl (r_assign rfl) ?_
  refine lv (v := (.int .i64 0)) rfl rfl (r_assign rfl) ?_
  refine lnil ?_
  refine wseq ?_
  refine wregion ?_
  refine lv (v := (.slice a0 p0_sizes.length cap0)) rfl rfl (r_move rfl) ?_
  obtain ⟨r_1, hr_2, hm⟩ := bind_some hm
  refine lc rfl rfl (r_call1 Try.call24 rfl) (c_credenceref10_Count N (col0 col) _ a0 cap0 p0_sizes h0 r_1 hr_2) ?_
  rintro _ w_3 ⟨rfl, hg_4⟩
  refine ⟨_, rfl, ?_⟩
  have hg_4 : Grow (col0 col) w0 (col0 col) w_3 := .of_below hg_4
  replace h0 := h0.gr hg_4
  replace h1 := h1.gr hg_4
  replace hst := hst.grow hg_4
  refine lv (v := (.tuple #[(.int .i64 r_1.1), (.int .i64 r_1.2)])) rfl rfl (r_move rfl) ?_
  refine lv (v := (.int .i64 r_1.1)) rfl rfl (r_extract rfl rfl) ?_
  refine lv (v := (.int .i64 r_1.2)) rfl rfl (r_extract rfl rfl) ?_
  refine lv (v := (.int .i64 r_1.1)) rfl rfl (r_assign rfl) ?_
  refine lv (v := (.int .i64 r_1.2)) rfl rfl (r_assign rfl) ?_
  refine lnil ?_
  refine wseq ?_
  refine wseq ?_
  refine wregion ?_
  refine lv (v := (.int .i64 r_1.2)) rfl rfl (r_move rfl) ?_
  refine lv (v := (.bool (!decide (r_1.2 = 0)))) rfl rfl (r_neq r_1.2 0 rfl rfl) ?_
  refine lnil ?_
  refine wcond (!decide (r_1.2 = 0)) rfl (fun hb => ?_) (fun hb => ?_)
  · rw [if_pos hb] at hm
    clear hb
    refine wseq ?_
    refine wregion ?_
    refine lv (v := (.int .i64 r_1.2)) rfl rfl (r_move rfl) ?_
    refine lv (v := (.int .i64 0)) rfl rfl (r_assign rfl) ?_
    refine lv (v := (.int .i64 r_1.2)) rfl rfl (r_assign rfl) ?_
    refine lnil ?_
    refine wret ?_
    cases hm
    exact ⟨rfl, rfl, hst.below⟩
  · rw [if_neg (by rw [hb]; decide)] at hm
    clear hb
    refine wskip ?_
    refine wseq ?_
    refine wseq ?_
    refine wregion ?_
    refine lv (v := (.slice a1 p1_digits.length cap1)) rfl rfl (r_move rfl) ?_
    refine lv (v := (.int .i64 (p1_digits.length : Int))) rfl rfl (r_len Try.underlying22 rfl) ?_
    refine lv (v := (.slice a0 p0_sizes.length cap0)) rfl rfl (r_move rfl) ?_
    refine lv (v := (.int .i64 (p0_sizes.length : Int))) rfl rfl (r_len Try.underlying22 rfl) ?_
    refine lv (v := (.bool (!decide ((p1_digits.length : Int) = (p0_sizes.length : Int))))) rfl rfl (r_neq (p1_digits.length : Int) (p0_sizes.length : Int) rfl rfl) ?_
    refine lnil ?_
    refine wcond (!decide ((p1_digits.length : Int) = (p0_sizes.length : Int))) rfl (fun hb => ?_) (fun hb => ?_)
    · rw [if_pos hb] at hm
      clear hb
      refine wseq ?_
      refine wregion ?_
      refine lv (v := (.int .i64 0)) rfl rfl (r_assign rfl) ?_
      refine lv (v := (.int .i64 60)) rfl rfl (r_assign rfl) ?_
      refine lnil ?_
      refine wret ?_
      cases hm
      exact ⟨rfl, rfl, hst.below⟩
    · rw [if_neg (by rw [hb]; decide)] at hm
      clear hb
      refine wskip ?_
      refine wseq ?_
      refine wregion ?_
      refine lv (v := (.int .i64 0)) rfl rfl (r_assign rfl) ?_
      refine lnil ?_
      refine wseq ?_
      refine wseq ?_
      refine wregion ?_
      refine lv (v := (.int .i64 0)) rfl rfl (r_assign rfl) ?_
      refine lnil ?_
      refine wblock ?_
      refine wloop (fun n f w_6 => ∃ (col_7 : Col) (at_8 : Int) (i_9 : Int) (n_5 : Nat), n_5 = n ∧ m_credenceref10_At_L1 N p0_sizes p1_digits n_5 at_8 i_9 = some r ∧ St w0 (col0 col) col_7 w_6 ∧ Sl (Rep.int .i64) col_7 w_6 a0 cap0 p0_sizes ∧ Sl (Rep.int .i64) col_7 w_6 a1 cap1 p1_digits ∧ f 0 = (.slice a0 p0_sizes.length cap0) ∧ f 1 = (.slice a1 p1_digits.length cap1) ∧ f 8 = (.int .i64 at_8) ∧ f 9 = (.int .i64 i_9) ∧ f 1000000 = (enc [])) N ⟨(col0 col), 0, 0, N, rfl, hm, hst, h0, h1, rfl, rfl, rfl, rfl, rfl⟩ ?_
      clear hm; intro n f w_6 hI
      obtain ⟨col_7, at_8, i_9, n_5, hn, hm, hst, h0, h1, hs0, hs1, hs8, hs9, hs1000000⟩ := hI
      subst hn
      refine .ld (d := 0) (v := (.slice a0 p0_sizes.length cap0)) hs0 ?_
      refine .ld (d := 1) (v := (.slice a1 p1_digits.length cap1)) hs1 ?_
      refine .ld (d := 8) (v := (.int .i64 at_8)) hs8 ?_
      refine .ld (d := 9) (v := (.int .i64 i_9)) hs9 ?_
      refine .ld (d := 1000000) (v := (enc [])) hs1000000 ?_
      clear hs0 hs1 hs8 hs9 hs1000000
      cases n_5 with
      | zero => rw [m_credenceref10_At_L1.eq_1] at hm; cases hm
      | succ n_5 =>
        rw [m_credenceref10_At_L1.eq_2] at hm
        refine wseq ?_
        refine wseq ?_
        refine wregion ?_
        refine lv (v := (.int .i64 i_9)) rfl rfl (r_move rfl) ?_
        refine lv (v := (.slice a0 p0_sizes.length cap0)) rfl rfl (r_move rfl) ?_
        refine lv (v := (.int .i64 (p0_sizes.length : Int))) rfl rfl (r_len Try.underlying22 rfl) ?_
        refine lv (v := (.bool (decide (i_9 < (p0_sizes.length : Int))))) rfl rfl (r_lss i_9 (p0_sizes.length : Int) rfl rfl) ?_
        refine lnil ?_
        refine wcond (decide (i_9 < (p0_sizes.length : Int))) rfl (fun hb => ?_) (fun hb => ?_)
        · rw [if_pos hb] at hm
          clear hb
          refine wskip ?_
          refine wseq ?_
          refine wblock ?_
          refine wseq ?_
          refine wseq ?_
          refine Wp.cut (fun f w_17 => ∃ (col_18 : Col) (v_19 : Bool), m_credenceref10_At_J1 p0_sizes p1_digits at_8 i_9 (m_credenceref10_At_L1 N p0_sizes p1_digits n_5) v_19 = some r ∧ St w0 (col0 col) col_18 w_17 ∧ Sl (Rep.int .i64) col_18 w_17 a0 cap0 p0_sizes ∧ Sl (Rep.int .i64) col_18 w_17 a1 cap1 p1_digits ∧ f 0 = (.slice a0 p0_sizes.length cap0) ∧ f 1 = (.slice a1 p1_digits.length cap1) ∧ f 8 = (.int .i64 at_8) ∧ f 9 = (.int .i64 i_9) ∧ f 44 = (.bool v_19) ∧ f 1000000 = (enc [])) ?_ ?_
          · intro f w_17 hJ
            obtain ⟨col_18, v_19, hm, hst, h0, h1, hs0, hs1, hs8, hs9, hs44, hs1000000⟩ := hJ
            rw [m_credenceref10_At_J1.eq_1] at hm
            refine .ld (d := 0) (v := (.slice a0 p0_sizes.length cap0)) hs0 ?_
            refine .ld (d := 1) (v := (.slice a1 p1_digits.length cap1)) hs1 ?_
            refine .ld (d := 8) (v := (.int .i64 at_8)) hs8 ?_
            refine .ld (d := 9) (v := (.int .i64 i_9)) hs9 ?_
            refine .ld (d := 44) (v := (.bool v_19)) hs44 ?_
            refine .ld (d := 1000000) (v := (enc [])) hs1000000 ?_
            clear hs0 hs1 hs8 hs9 hs44 hs1000000
            refine wcond (v_19) rfl (fun hb => ?_) (fun hb => ?_)
            · rw [if_pos hb] at hm
              clear hb
              refine wseq ?_
              refine wregion ?_
              refine lv (v := (.int .i64 0)) rfl rfl (r_assign rfl) ?_
              refine lv (v := (.int .i64 3)) rfl rfl (r_assign rfl) ?_
              refine lnil ?_
              refine wret ?_
              cases hm
              exact ⟨rfl, rfl, hst.below⟩
            · rw [if_neg (by rw [hb]; decide)] at hm
              clear hb
              refine wskip ?_
              refine wquiet (col := col_18) (by kernel_rfl) (by kernel_rfl) ?_
              refine qv (v := (.int .i64 at_8)) rfl (fun _ hC => r_move rfl) ?_
              refine qv (v := (.slice a0 p0_sizes.length cap0)) rfl (fun _ hC => r_move rfl) ?_
              refine qv (v := (.int .i64 i_9)) rfl (fun _ hC => r_move rfl) ?_
              obtain ⟨e_20, hj_21, hm⟩ := bind_some hm
              refine qv (v := (sptr a0 (Int.toNat i_9 * 1))) rfl (fun _ hC => r_idx Try.underlying22 Try.sizeOf3 rfl rfl (at?_some hj_21).1 (at?_some hj_21).2.1 (h0.addr hj_21)) ?_
              refine qv (v := (.int .i64 e_20)) rfl (fun _ hC => r_ld Try.isAgg3 rfl ((h0.gr hC).atInt hj_21)) ?_
              refine qv (v := (.int .i64 (IntKind.i64.wrap (at_8 * e_20)))) rfl (fun _ hC => r_mul at_8 e_20 rfl rfl) ?_
              refine qv (v := (.slice a1 p1_digits.length cap1)) rfl (fun _ hC => r_move rfl) ?_
              refine qv (v := (.int .i64 i_9)) rfl (fun _ hC => r_move rfl) ?_
              obtain ⟨e_22, hj_23, hm⟩ := bind_some hm
              refine qv (v := (sptr a1 (Int.toNat i_9 * 1))) rfl (fun _ hC => r_idx Try.underlying22 Try.sizeOf3 rfl rfl (at?_some hj_23).1 (at?_some hj_23).2.1 (h1.addr hj_23)) ?_
              refine qv (v := (.int .i64 e_22)) rfl (fun _ hC => r_ld Try.isAgg3 rfl ((h1.gr hC).atInt hj_23)) ?_
              refine qv (v := (.int .i64 (IntKind.i64.wrap ((IntKind.i64.wrap (at_8 * e_20)) + e_22)))) rfl (fun _ hC => r_add (IntKind.i64.wrap (at_8 * e_20)) e_22 rfl rfl) ?_
              refine qv (v := (.int .i64 (IntKind.i64.wrap ((IntKind.i64.wrap (at_8 * e_20)) + e_22)))) rfl (fun _ hC => r_assign rfl) ?_
              refine qnil ?_
              intro w_24 hC
              replace h0 := h0.gr hC
              replace h1 := h1.gr hC
              replace hst := hst.grow hC
              refine wregion ?_
              refine lv (v := (.int .i64 i_9)) rfl rfl (r_move rfl) ?_
              refine lv (v := (.int .i64 (IntKind.i64.wrap (i_9 + 1)))) rfl rfl (r_add i_9 1 rfl rfl) ?_
              refine lv (v := (.int .i64 (IntKind.i64.wrap (i_9 + 1)))) rfl rfl (r_assign rfl) ?_
              refine lnil ?_
              exact ⟨n_5, by omega, ⟨col_18, (IntKind.i64.wrap ((IntKind.i64.wrap (at_8 * e_20)) + e_22)), (IntKind.i64.wrap (i_9 + 1)), n_5, rfl, hm, hst, h0, h1, rfl, rfl, rfl, rfl, rfl⟩⟩
          · refine wquiet (col := col_7) (by kernel_rfl) (by kernel_rfl) ?_
            refine qv (v := (.slice a1 p1_digits.length cap1)) rfl (fun _ hC => r_move rfl) ?_
            refine qv (v := (.int .i64 i_9)) rfl (fun _ hC => r_move rfl) ?_
            obtain ⟨e_25, hj_26, hm⟩ := bind_some hm
            refine qv (v := (sptr a1 (Int.toNat i_9 * 1))) rfl (fun _ hC => r_idx Try.underlying22 Try.sizeOf3 rfl rfl (at?_some hj_26).1 (at?_some hj_26).2.1 (h1.addr hj_26)) ?_
            refine qv (v := (.int .i64 e_25)) rfl (fun _ hC => r_ld Try.isAgg3 rfl ((h1.gr hC).atInt hj_26)) ?_
            refine qv (v := (.bool (decide (e_25 < 0)))) rfl (fun _ hC => r_lss e_25 0 rfl rfl) ?_
            refine qv (v := (.bool (decide (e_25 < 0)))) rfl (fun _ hC => r_move rfl) ?_
            by_cases hg_27 : (decide (e_25 < 0)) = true
            · rw [if_pos hg_27] at hm
              refine qp (b := decide (e_25 < 0)) 34 rfl rfl rfl rfl (by rw [hg_27]; rfl) ?_
              refine qp (b := decide (e_25 < 0)) 34 rfl rfl rfl rfl (by rw [hg_27]; rfl) ?_
              refine qp (b := decide (e_25 < 0)) 34 rfl rfl rfl rfl (by rw [hg_27]; rfl) ?_
              refine qp (b := decide (e_25 < 0)) 34 rfl rfl rfl rfl (by rw [hg_27]; rfl) ?_
              refine qp (b := decide (e_25 < 0)) 34 rfl rfl rfl rfl (by rw [hg_27]; rfl) ?_
              refine qp (b := decide (e_25 < 0)) 34 rfl rfl rfl rfl (by rw [hg_27]; rfl) ?_
              refine qp (b := decide (e_25 < 0)) 34 rfl rfl rfl rfl (by rw [hg_27]; rfl) ?_
              refine qp (b := decide (e_25 < 0)) 34 rfl rfl rfl rfl (by rw [hg_27]; rfl) ?_
              refine qp (b := decide (e_25 < 0)) 34 rfl rfl rfl rfl (by rw [hg_27]; rfl) ?_
              refine qv (v := (.bool true)) rfl (fun _ hC => r_pickT (congrArg Value.bool hg_27) rfl) ?_
              refine qnil ?_
              intro w_28 hC
              replace h0 := h0.gr hC
              replace h1 := h1.gr hC
              replace hst := hst.grow hC
              exact ⟨col_7, true, hm, hst, h0, h1, rfl, rfl, rfl, rfl, rfl, rfl⟩
            · rw [if_neg hg_27] at hm
              replace hg_27 := Bool.eq_false_iff.2 hg_27
              refine qg (b := decide (e_25 < 0)) 34 rfl rfl rfl (by rw [hg_27]; rfl) ?_
              refine qv (v := (.slice a1 p1_digits.length cap1)) rfl (fun _ hC => r_move rfl) ?_
              refine qg (b := decide (e_25 < 0)) 34 rfl rfl rfl (by rw [hg_27]; rfl) ?_
              refine qv (v := (.int .i64 i_9)) rfl (fun _ hC => r_move rfl) ?_
              refine qg (b := decide (e_25 < 0)) 34 rfl rfl rfl (by rw [hg_27]; rfl) ?_
              refine qv (v := (sptr a1 (Int.toNat i_9 * 1))) rfl (fun _ hC => r_idx Try.underlying22 Try.sizeOf3 rfl rfl (at?_some hj_26).1 (at?_some hj_26).2.1 (h1.addr hj_26)) ?_
              refine qg (b := decide (e_25 < 0)) 34 rfl rfl rfl (by rw [hg_27]; rfl) ?_
              refine qv (v := (.int .i64 e_25)) rfl (fun _ hC => r_ld Try.isAgg3 rfl ((h1.gr hC).atInt hj_26)) ?_
              refine qg (b := decide (e_25 < 0)) 34 rfl rfl rfl (by rw [hg_27]; rfl) ?_
              refine qv (v := (.slice a0 p0_sizes.length cap0)) rfl (fun _ hC => r_move rfl) ?_
              refine qg (b := decide (e_25 < 0)) 34 rfl rfl rfl (by rw [hg_27]; rfl) ?_
              refine qv (v := (.int .i64 i_9)) rfl (fun _ hC => r_move rfl) ?_
              refine qg (b := decide (e_25 < 0)) 34 rfl rfl rfl (by rw [hg_27]; rfl) ?_
              obtain ⟨e_29, hj_30, hm⟩ := bind_some hm
              refine qv (v := (sptr a0 (Int.toNat i_9 * 1))) rfl (fun _ hC => r_idx Try.underlying22 Try.sizeOf3 rfl rfl (at?_some hj_30).1 (at?_some hj_30).2.1 (h0.addr hj_30)) ?_
              refine qg (b := decide (e_25 < 0)) 34 rfl rfl rfl (by rw [hg_27]; rfl) ?_
              refine qv (v := (.int .i64 e_29)) rfl (fun _ hC => r_ld Try.isAgg3 rfl ((h0.gr hC).atInt hj_30)) ?_
              refine qg (b := decide (e_25 < 0)) 34 rfl rfl rfl (by rw [hg_27]; rfl) ?_
              refine qv (v := (.bool (decide (e_29 ≤ e_25)))) rfl (fun _ hC => r_geq e_25 e_29 rfl rfl) ?_
              refine qv (v := (.bool (decide (e_29 ≤ e_25)))) rfl (fun _ hC => r_pickF (congrArg Value.bool hg_27) rfl) ?_
              refine qnil ?_
              intro w_31 hC
              replace h0 := h0.gr hC
              replace h1 := h1.gr hC
              replace hst := hst.grow hC
              exact ⟨col_7, (decide (e_29 ≤ e_25)), hm, hst, h0, h1, rfl, rfl, rfl, rfl, rfl, rfl⟩
        · rw [if_neg (by rw [hb]; decide)] at hm
          clear hb
          refine wexit (inB_hit ?_)
          refine wseq ?_
          refine wregion ?_
          refine lv (v := (.int .i64 at_8)) rfl rfl (r_move rfl) ?_
          refine lv (v := (.int .i64 at_8)) rfl rfl (r_assign rfl) ?_
          refine lv (v := (.int .i64 0)) rfl rfl (r_assign rfl) ?_
          refine lnil ?_
          refine wret ?_
          cases hm
          exact ⟨rfl, rfl, hst.below⟩




def m_credenceref10_Digits_L1 (N : Nat) (p0_sizes : List Int) : Nat → Int → (List Int) → Int → Option ((List Int) × Int)
  | 0, _, _, _ => none
  | n_15 + 1, at_18, out_21, i_23 => if (decide (0 ≤ i_23)) = true then ((at? p0_sizes i_23).bind fun e_24 => chk (e_24 ≠ 0) ((at? out_21 i_23).bind fun e_27 => (some (out_21.set (Int.toNat i_23) (Int.tmod at_18 e_24))).bind fun xs_34 => chk (e_24 ≠ 0) ((m_credenceref10_Digits_L1 N p0_sizes n_15) (IntKind.i64.wrap (Int.tdiv at_18 e_24)) xs_34 (IntKind.i64.wrap (i_23 - 1))))) else (some (out_21, 0))

def m_credenceref10_Digits_J1 (N : Nat) (p0_sizes : List Int) (p1_at : Int) (v_8 : Bool) : Option ((List Int) × Int) :=
  if v_8 = true then (some (([] : List Int), 3)) else (chk (p0_sizes.length * 8 ≤ 281474976710656 ∧ p0_sizes.length ≤ maxLen) (m_credenceref10_Digits_L1 N p0_sizes N p1_at (List.replicate p0_sizes.length (0 : Int)) (IntKind.i64.wrap ((p0_sizes.length : Int) - 1))))

def m_credenceref10_Digits (N : Nat) (p0_sizes : List Int) (p1_at : Int) : Option ((List Int) × Int) :=
  (m_credenceref10_Count N p0_sizes).bind fun r_1 => if (!decide (r_1.2 = 0)) = true then (some (([] : List Int), r_1.2)) else (if (decide (p1_at < 0)) = true then (m_credenceref10_Digits_J1 N p0_sizes p1_at true) else (m_credenceref10_Digits_J1 N p0_sizes p1_at (decide (r_1.1 ≤ p1_at))))

set_option maxRecDepth 100000 in
theorem c_credenceref10_Digits (N : Nat) (c1 : Nat) (col : Col) (w0 : World) (a0 : Option Addr) (cap0 : Nat) (p0_sizes : List Int) (h0 : Sl (Rep.int .i64) col w0 a0 cap0 p0_sizes) (p1_at : Int) (r : ((List Int) × Int)) (hm : m_credenceref10_Digits N p0_sizes p1_at = some r) :
    Calls Try.prog 27 #[(.slice a0 p0_sizes.length cap0), (.int .i64 p1_at)] w0 (fun e w' => ∃ (col' : Col) (ra1 : Option Addr) (rc1 : Nat), e = .returned (.tuple #[.slice ra1 r.1.length rc1, .int .i64 r.2]) ∧ Grow col w0 col' w' ∧ Own (Rep.int .i64) 3 c1 col' w' ra1 rc1 r.1) := by
  refine calls_of2 4 5 (m := 51) (args := [(.slice a0 p0_sizes.length cap0), (.int .i64 p1_at)]) Try.func27 rfl rfl rfl rfl rfl ?_
  rw [m_credenceref10_Digits.eq_1] at hm
  have hst := St.start col w0
  replace h0 := h0.keep (Stay.start col w0)
  refine wseq ?_
  refine wregion ?_
  refine lv (v := (.slice none (([] : List Int).length) 0)) rfl rfl (r_assign rfl) ?_
  refine lv (v := (.int .i64 0)) rfl rfl (r_assign rfl) ?_
  refine lnil ?_
  refine wseq ?_
  refine wregion ?_
  refine lv (v := (.slice a0 p0_sizes.length cap0)) rfl rfl (r_move rfl) ?_
  obtain ⟨r_1, hr_2, hm⟩ := bind_some hm
  refine lc rfl rfl (r_call1 Try.call24 rfl) (c_credenceref10_Count N (col0 col) _ a0 cap0 p0_sizes h0 r_1 hr_2) ?_
  rintro _ w_3 ⟨rfl, hg_4⟩
  refine ⟨_, rfl, ?_⟩
  have hg_4 : Grow (col0 col) w0 (col0 col) w_3 := .of_below hg_4
  replace h0 := h0.gr hg_4
  replace hst := hst.grow hg_4
  refine lv (v := (.tuple #[(.int .i64 r_1.1), (.int .i64 r_1.2)])) rfl rfl (r_move rfl) ?_
  refine lv (v := (.int .i64 r_1.1)) rfl rfl (r_extract rfl rfl) ?_
  refine lv (v := (.int .i64 r_1.2)) rfl rfl (r_extract rfl rfl) ?_
  refine lv (v := (.int .i64 r_1.1)) rfl rfl (r_assign rfl) ?_
  refine lv (v := (.int .i64 r_1.2)) rfl rfl (r_assign rfl) ?_
  refine lnil ?_
  refine wseq ?_
  refine wseq ?_
  refine wregion ?_
  refine lv (v := (.int .i64 r_1.2)) rfl rfl (r_move rfl) ?_
  refine lv (v := (.bool (!decide (r_1.2 = 0)))) rfl rfl (r_neq r_1.2 0 rfl rfl) ?_
  refine lnil ?_
  refine wcond (!decide (r_1.2 = 0)) rfl (fun hb => ?_) (fun hb => ?_)
  · rw [if_pos hb] at hm
    clear hb
    refine wseq ?_
    refine wregion ?_
    refine lv (v := (.int .i64 r_1.2)) rfl rfl (r_move rfl) ?_
    refine lv (v := (.slice none (([] : List Int).length) 0)) rfl rfl (r_assign rfl) ?_
    refine lv (v := (.int .i64 r_1.2)) rfl rfl (r_assign rfl) ?_
    refine lnil ?_
    refine wret ?_
    cases hm
    exact ⟨rfl, colF w0.heap.size col (col0 col) (fun n => 0), none, 0, rfl, hst.fin (fun n => 0), Own.nil⟩
  · rw [if_neg (by rw [hb]; decide)] at hm
    clear hb
    refine wskip ?_
    refine wseq ?_
    refine wseq ?_
    refine Wp.cut (fun f w_6 => ∃ (col_7 : Col) (v_8 : Bool), m_credenceref10_Digits_J1 N p0_sizes p1_at v_8 = some r ∧ St w0 (col0 col) col_7 w_6 ∧ Sl (Rep.int .i64) col_7 w_6 a0 cap0 p0_sizes ∧ f 0 = (.slice a0 p0_sizes.length cap0) ∧ f 1 = (.int .i64 p1_at) ∧ f 24 = (.bool v_8) ∧ f 1000000 = (enc [])) ?_ ?_
    · intro f w_6 hJ
      obtain ⟨col_7, v_8, hm, hst, h0, hs0, hs1, hs24, hs1000000⟩ := hJ
      rw [m_credenceref10_Digits_J1.eq_1] at hm
      refine .ld (d := 0) (v := (.slice a0 p0_sizes.length cap0)) hs0 ?_
      refine .ld (d := 1) (v := (.int .i64 p1_at)) hs1 ?_
      refine .ld (d := 24) (v := (.bool v_8)) hs24 ?_
      refine .ld (d := 1000000) (v := (enc [])) hs1000000 ?_
      clear hs0 hs1 hs24 hs1000000
      refine wcond (v_8) rfl (fun hb => ?_) (fun hb => ?_)
      · rw [if_pos hb] at hm
        clear hb
        refine wseq ?_
        refine wregion ?_
        refine lv (v := (.slice none (([] : List Int).length) 0)) rfl rfl (r_assign rfl) ?_
        refine lv (v := (.int .i64 3)) rfl rfl (r_assign rfl) ?_
        refine lnil ?_
        refine wret ?_
        cases hm
        exact ⟨rfl, colF w0.heap.size col col_7 (fun n => 0), none, 0, rfl, hst.fin (fun n => 0), Own.nil⟩
      · rw [if_neg (by rw [hb]; decide)] at hm
        clear hb
        refine wskip ?_
        refine wseq ?_
        refine wregion ?_
        refine lv (v := (.slice a0 p0_sizes.length cap0)) rfl rfl (r_move rfl) ?_
        refine lv (v := (.int .i64 (p0_sizes.length : Int))) rfl rfl (r_len Try.underlying22 rfl) ?_
        obtain ⟨hb_9, hm⟩ := chk_some hm
        refine l_make (col := col_7) (w := w_6) (r := (Rep.int .i64)) (n := p0_sizes.length) (x0 := 0) 4 rfl Try.underlying22 Try.t3 rfl rfl rfl rfl rfl rfl rfl hb_9.1 hb_9.2 rfl ?_
        intro a_10 w_11 col_12 hg_13 h_14
        replace h0 := h0.gr hg_13
        replace hst := hst.grow hg_13
        refine lv (v := (.slice a_10 ((List.replicate p0_sizes.length (0 : Int)).length) p0_sizes.length)) rfl rfl (r_assign rfl) ?_
        refine lnil ?_
        refine wseq ?_
        refine wseq ?_
        refine wregion ?_
        refine lv (v := (.slice a0 p0_sizes.length cap0)) rfl rfl (r_move rfl) ?_
        refine lv (v := (.int .i64 (p0_sizes.length : Int))) rfl rfl (r_len Try.underlying22 rfl) ?_
        refine lv (v := (.int .i64 (IntKind.i64.wrap ((p0_sizes.length : Int) - 1)))) rfl rfl (r_sub (p0_sizes.length : Int) 1 rfl rfl) ?_
        refine lv (v := (.int .i64 (IntKind.i64.wrap ((p0_sizes.length : Int) - 1)))) rfl rfl (r_assign rfl) ?_
        refine lnil ?_
        refine wblock ?_
        refine wloop (fun n f w_16 => ∃ (col_17 : Col) (at_18 : Int) (a_19 : Option Addr) (cap_20 : Nat) (out_21 : List Int) (i_23 : Int) (n_15 : Nat), n_15 = n ∧ m_credenceref10_Digits_L1 N p0_sizes n_15 at_18 out_21 i_23 = some r ∧ St w0 (col0 col) col_17 w_16 ∧ Sl (Rep.int .i64) col_17 w_16 a0 cap0 p0_sizes ∧ Own (Rep.int .i64) 3 4 col_17 w_16 a_19 cap_20 out_21 ∧ f 0 = (.slice a0 p0_sizes.length cap0) ∧ f 1 = (.int .i64 at_18) ∧ f 8 = (.slice a_19 out_21.length cap_20) ∧ f 9 = (.int .i64 i_23) ∧ f 1000000 = (enc [])) N ⟨col_12, p1_at, a_10, p0_sizes.length, (List.replicate p0_sizes.length (0 : Int)), (IntKind.i64.wrap ((p0_sizes.length : Int) - 1)), N, rfl, hm, hst, h0, h_14, rfl, rfl, rfl, rfl, rfl⟩ ?_
        clear hm; intro n f w_16 hI
        obtain ⟨col_17, at_18, a_19, cap_20, out_21, i_23, n_15, hn, hm, hst, h0, h_22, hs0, hs1, hs8, hs9, hs1000000⟩ := hI
        subst hn
        refine .ld (d := 0) (v := (.slice a0 p0_sizes.length cap0)) hs0 ?_
        refine .ld (d := 1) (v := (.int .i64 at_18)) hs1 ?_
        refine .ld (d := 8) (v := (.slice a_19 out_21.length cap_20)) hs8 ?_
        refine .ld (d := 9) (v := (.int .i64 i_23)) hs9 ?_
        refine .ld (d := 1000000) (v := (enc [])) hs1000000 ?_
        clear hs0 hs1 hs8 hs9 hs1000000
        cases n_15 with
        | zero => rw [m_credenceref10_Digits_L1.eq_1] at hm; cases hm
        | succ n_15 =>
          rw [m_credenceref10_Digits_L1.eq_2] at hm
          refine wseq ?_
          refine wseq ?_
          refine wregion ?_
          refine lv (v := (.int .i64 i_23)) rfl rfl (r_move rfl) ?_
          refine lv (v := (.bool (decide (0 ≤ i_23)))) rfl rfl (r_geq i_23 0 rfl rfl) ?_
          refine lnil ?_
          refine wcond (decide (0 ≤ i_23)) rfl (fun hb => ?_) (fun hb => ?_)
          · rw [if_pos hb] at hm
            clear hb
            refine wskip ?_
            refine wseq ?_
            refine wblock ?_
            refine wseq ?_
            refine wregion ?_
            refine lv (v := (.slice a_19 out_21.length cap_20)) rfl rfl (r_move rfl) ?_
            refine lv (v := (.int .i64 i_23)) rfl rfl (r_move rfl) ?_
            refine lv (v := (.int .i64 at_18)) rfl rfl (r_move rfl) ?_
            refine lv (v := (.slice a0 p0_sizes.length cap0)) rfl rfl (r_move rfl) ?_
            refine lv (v := (.int .i64 i_23)) rfl rfl (r_move rfl) ?_
            obtain ⟨e_24, hj_25, hm⟩ := bind_some hm
            refine lv (v := (sptr a0 (Int.toNat i_23 * 1))) rfl rfl (r_idx Try.underlying22 Try.sizeOf3 rfl rfl (at?_some hj_25).1 (at?_some hj_25).2.1 (h0.addr hj_25)) ?_
            refine lv (v := (.int .i64 e_24)) rfl rfl (r_ld Try.isAgg3 rfl (h0.atInt hj_25)) ?_
            obtain ⟨h0_26, hm⟩ := chk_some hm
            refine lv (v := (.int .i64 (Int.tmod at_18 e_24))) rfl rfl (r_rem at_18 e_24 rfl rfl h0_26) ?_
            obtain ⟨e_27, hj_28, hm⟩ := bind_some hm
            refine lv (v := (sptr a_19 (Int.toNat i_23 * 1))) rfl rfl (r_idx Try.underlying22 Try.sizeOf3 rfl rfl (at?_some hj_28).1 (at?_some hj_28).2.1 (h_22.addr hj_28)) ?_
            obtain ⟨xs_34, hz_33, hm⟩ := bind_some hm
            have hz_33 : xs_34 = out_21.set (Int.toNat i_23) (Int.tmod at_18 e_24) := (Option.some.inj hz_33).symm
            refine l_store (x1 := Int.tmod at_18 e_24) (v := (.int .i64 (Int.tmod at_18 e_24))) h_22 hj_28 rfl Try.sizeOf3 rfl rfl rfl (by decide) ?_
            intro w_29 hk_30 hs_31 h_32
            rw [← hz_33] at h_32
            replace h0 := h0.kp hk_30 (by decide)
            replace hst := hst.kp hk_30 hs_31 (by decide) (by decide)
            refine .ld (d := 8) (v := (.slice a_19 xs_34.length cap_20)) (congrArg (fun n => Value.slice a_19 n cap_20) (show out_21.length = xs_34.length by rw [hz_33, List.length_set])) ?_
            refine .ld (d := 35) (v := (.slice a_19 xs_34.length cap_20)) (congrArg (fun n => Value.slice a_19 n cap_20) (show out_21.length = xs_34.length by rw [hz_33, List.length_set])) ?_
            clear h_22
            refine lnil ?_
            refine wregion ?_
            refine lv (v := (.int .i64 at_18)) rfl rfl (r_move rfl) ?_
            refine lv (v := (.slice a0 p0_sizes.length cap0)) rfl rfl (r_move rfl) ?_
            refine lv (v := (.int .i64 i_23)) rfl rfl (r_move rfl) ?_
            refine lv (v := (sptr a0 (Int.toNat i_23 * 1))) rfl rfl (r_idx Try.underlying22 Try.sizeOf3 rfl rfl (at?_some hj_25).1 (at?_some hj_25).2.1 (h0.addr hj_25)) ?_
            refine lv (v := (.int .i64 e_24)) rfl rfl (r_ld Try.isAgg3 rfl (h0.atInt hj_25)) ?_
            obtain ⟨h0_35, hm⟩ := chk_some hm
            refine lv (v := (.int .i64 (IntKind.i64.wrap (Int.tdiv at_18 e_24)))) rfl rfl (r_quo at_18 e_24 rfl rfl h0_35) ?_
            refine lv (v := (.int .i64 (IntKind.i64.wrap (Int.tdiv at_18 e_24)))) rfl rfl (r_assign rfl) ?_
            refine lnil ?_
            refine wregion ?_
            refine lv (v := (.int .i64 i_23)) rfl rfl (r_move rfl) ?_
            refine lv (v := (.int .i64 (IntKind.i64.wrap (i_23 - 1)))) rfl rfl (r_sub i_23 1 rfl rfl) ?_
            refine lv (v := (.int .i64 (IntKind.i64.wrap (i_23 - 1)))) rfl rfl (r_assign rfl) ?_
            refine lnil ?_
            exact ⟨n_15, by omega, ⟨col_17, (IntKind.i64.wrap (Int.tdiv at_18 e_24)), a_19, cap_20, xs_34, (IntKind.i64.wrap (i_23 - 1)), n_15, rfl, hm, hst, h0, h_32, rfl, rfl, rfl, rfl, rfl⟩⟩
          · rw [if_neg (by rw [hb]; decide)] at hm
            clear hb
            refine wexit (inB_hit ?_)
            refine wseq ?_
            refine wregion ?_
            refine lv (v := (.slice a_19 out_21.length cap_20)) rfl rfl (r_move rfl) ?_
            refine lv (v := (.slice a_19 out_21.length cap_20)) rfl rfl (r_assign rfl) ?_
            refine lv (v := (.int .i64 0)) rfl rfl (r_assign rfl) ?_
            refine lnil ?_
            refine wret ?_
            cases hm
            exact ⟨rfl, colF w0.heap.size col col_17 (fun n => bif Nat.beq n 4 then c1 else 0), a_19, cap_20, rfl, hst.fin (fun n => bif Nat.beq n 4 then c1 else 0), hst.finOwn (g := (fun n => bif Nat.beq n 4 then c1 else 0)) rfl h_22 (by decide) (by decide) rfl⟩
    · refine wregion ?_
      refine lv (v := (.int .i64 p1_at)) rfl rfl (r_move rfl) ?_
      refine lv (v := (.bool (decide (p1_at < 0)))) rfl rfl (r_lss p1_at 0 rfl rfl) ?_
      refine lv (v := (.bool (decide (p1_at < 0)))) rfl rfl (r_move rfl) ?_
      by_cases hg_36 : (decide (p1_at < 0)) = true
      · rw [if_pos hg_36] at hm
        refine lp (b := decide (p1_at < 0)) 20 rfl rfl rfl rfl (by rw [hg_36]; rfl) ?_
        refine lp (b := decide (p1_at < 0)) 20 rfl rfl rfl rfl (by rw [hg_36]; rfl) ?_
        refine lp (b := decide (p1_at < 0)) 20 rfl rfl rfl rfl (by rw [hg_36]; rfl) ?_
        refine lv (v := (.bool true)) rfl rfl (r_pickT (congrArg Value.bool hg_36) rfl) ?_
        refine lnil ?_
        exact ⟨(col0 col), true, hm, hst, h0, rfl, rfl, rfl, rfl⟩
      · rw [if_neg hg_36] at hm
        replace hg_36 := Bool.eq_false_iff.2 hg_36
        refine lg (b := decide (p1_at < 0)) 20 rfl rfl rfl (by rw [hg_36]; rfl) ?_
        refine lv (v := (.int .i64 p1_at)) rfl rfl (r_move rfl) ?_
        refine lg (b := decide (p1_at < 0)) 20 rfl rfl rfl (by rw [hg_36]; rfl) ?_
        refine lv (v := (.int .i64 r_1.1)) rfl rfl (r_move rfl) ?_
        refine lg (b := decide (p1_at < 0)) 20 rfl rfl rfl (by rw [hg_36]; rfl) ?_
        refine lv (v := (.bool (decide (r_1.1 ≤ p1_at)))) rfl rfl (r_geq p1_at r_1.1 rfl rfl) ?_
        refine lv (v := (.bool (decide (r_1.1 ≤ p1_at)))) rfl rfl (r_pickF (congrArg Value.bool hg_36) rfl) ?_
        refine lnil ?_
        exact ⟨(col0 col), (decide (r_1.1 ≤ p1_at)), hm, hst, h0, rfl, rfl, rfl, rfl⟩


end Go.Proofs.Ytgfaoflipkmpcaa
