/-
  What functions of the program compute, as plain Lean functions (m_..), and proofs that they compute it (c_..). Printed by a program of the author; no conditions.
-/
import Derived.Test.YtjnkbkbllcfoaaaTwo
import Derived.Test.YtjnkbkbllcfoaaaProg
set_option linter.unusedVariables false
namespace Go.Proofs.Ytjnkbkbllcfoaaa
open Go Go.RowKit


theorem el3_9 : ElemOk Try.prog 3 1 8 := ⟨Try.t3, _, rfl, rfl, rfl, rfl, rfl⟩

def m_credencelaw10_roomy_int_L1 (N : Nat) (p0_l : (List Int)) : Nat → (List Int) → Int → Option (Nat × (List Int))
  | 0, _, _ => none
  | n_8 + 1, m_11, i_15 => if (decide (i_15 < 5)) = true then (chk ((m_11.length + [77].length) * 8 ≤ 140737488355328 ∧ m_11.length + [77].length ≤ maxLen) ((m_credencelaw10_roomy_int_L1 N p0_l n_8) (m_11 ++ [77]) (IntKind.i64.wrap (i_15 + 1)))) else (chk ((0 : Int) ≤ (p0_l.length : Int) ∧ (p0_l.length : Int) ≤ (m_11.length : Int)) (some ((Int.toNat (p0_l.length : Int)), m_11)))

def m_credencelaw10_roomy_int (N : Nat) (p0_l : (List Int)) : Option (Nat × (List Int)) :=
  chk ((([] : List Int).length + p0_l.length) * 8 ≤ 140737488355328 ∧ ([] : List Int).length + p0_l.length ≤ maxLen) (m_credencelaw10_roomy_int_L1 N p0_l N (([] : List Int) ++ p0_l) 0)

set_option maxRecDepth 100000 in
theorem c_credencelaw10_roomy_int (N : Nat) (c1 : Nat) (col : Col) (w0 : World) (a0 : Option Addr) (cap0 : Nat) (p0_l : (List Int)) (h0 : Sl (Rep.int .i64) col w0 a0 cap0 p0_l) (r : (Nat × (List Int))) (hm : m_credencelaw10_roomy_int N p0_l = some r) :
    Calls Try.prog 9 #[(.slice a0 p0_l.length cap0)] w0 (fun e w' => ∃ (col' : Col) (ra1 : Option Addr) (rc2 : Nat), e = .returned ((.slice ra1 ((r.2.take r.1).length) rc2)) ∧ Grow col w0 col' w' ∧ Own (Rep.int .i64) 3 c1 col' w' ra1 rc2 r.2) := by
  refine calls_of1 2 (m := 19) (args := [(.slice a0 p0_l.length cap0)]) Try.func9 rfl rfl rfl rfl rfl ?_
  rw [m_credencelaw10_roomy_int.eq_1] at hm
  have hst := St.start col w0
  replace h0 := h0.keep (Stay.start col w0)
  refine wseq ?_
  refine wregion ?_
  refine lv (v := (.slice none (([] : List Int).length) 0)) rfl rfl (r_assign rfl) ?_
  refine lnil ?_
  refine wseq ?_
  refine wregion ?_
  refine lv (v := (.slice none (([] : List Int).length) 0)) rfl rfl (r_assign rfl) ?_
  refine lnil ?_
  refine wseq ?_
  refine wregion ?_
  refine lv (v := (.slice none (([] : List Int).length) 0)) rfl rfl (r_move rfl) ?_
  refine lv (v := (.slice a0 p0_l.length cap0)) rfl rfl (r_move rfl) ?_
  obtain ⟨hb_1, hm⟩ := chk_some hm
  refine l_appendM (col := (col0 col)) (w := w0) (r := (Rep.int .i64)) (c := 1) (c2 := 1) (xs := ([] : List Int)) (ys := p0_l) Own.nil h0.srcC rfl Try.underlying22 el3_9 rfl rfl rfl hb_1.1 hb_1.2 (by decide) ?_
  intro a_2 cap_3 w_4 col_5 hk_6 h_7
  replace h0 := h0.kpp hk_6 rfl
  replace hst := hst.kpp hk_6 rfl rfl
  refine lv (v := (.slice a_2 ((([] : List Int) ++ p0_l).length) cap_3)) rfl rfl (r_assign rfl) ?_
  refine lnil ?_
  refine wseq ?_
  refine wseq ?_
  refine wregion ?_
  refine lv (v := (.int .i64 0)) rfl rfl (r_assign rfl) ?_
  refine lnil ?_
  refine wblock ?_
  refine wloop (fun n f w_9 => ∃ (col_10 : Col) (a_12 : Option Addr) (cap_13 : Nat) (m_11 : List Int) (i_15 : Int) (n_8 : Nat), n_8 = n ∧ m_credencelaw10_roomy_int_L1 N p0_l n_8 m_11 i_15 = some r ∧ St w0 (col0 col) col_10 w_9 ∧ Sl (Rep.int .i64) col_10 w_9 a0 cap0 p0_l ∧ Own (Rep.int .i64) 3 1 col_10 w_9 a_12 cap_13 m_11 ∧ f 0 = (.slice a0 p0_l.length cap0) ∧ f 3 = (.slice a_12 m_11.length cap_13) ∧ f 4 = (.int .i64 i_15) ∧ f 1000000 = (enc [])) N ⟨col_5, a_2, cap_3, (([] : List Int) ++ p0_l), 0, N, rfl, hm, hst, h0, h_7, rfl, rfl, rfl, rfl⟩ ?_
  clear hm; intro n f w_9 hI
  obtain ⟨col_10, a_12, cap_13, m_11, i_15, n_8, hn, hm, hst, h0, h_14, hs0, hs3, hs4, hs1000000⟩ := hI
  subst hn
  refine .ld (d := 0) (v := (.slice a0 p0_l.length cap0)) hs0 ?_
  refine .ld (d := 3) (v := (.slice a_12 m_11.length cap_13)) hs3 ?_
  refine .ld (d := 4) (v := (.int .i64 i_15)) hs4 ?_
  refine .ld (d := 1000000) (v := (enc [])) hs1000000 ?_
  clear hs0 hs3 hs4 hs1000000
  cases n_8 with
  | zero => rw [m_credencelaw10_roomy_int_L1.eq_1] at hm; cases hm
  | succ n_8 =>
    rw [m_credencelaw10_roomy_int_L1.eq_2] at hm
    refine wseq ?_
    refine wseq ?_
    refine wregion ?_
    refine lv (v := (.int .i64 i_15)) rfl rfl (r_move rfl) ?_
    refine lv (v := (.bool (decide (i_15 < 5)))) rfl rfl (r_lss i_15 5 rfl rfl) ?_
    refine lnil ?_
    refine wcond (decide (i_15 < 5)) rfl (fun hb => ?_) (fun hb => ?_)
    · rw [if_pos hb] at hm
      clear hb
      refine wskip ?_
      refine wseq ?_
      refine wblock ?_
      refine wregion ?_
      refine lv (v := (.slice a_12 m_11.length cap_13)) rfl rfl (r_move rfl) ?_
      refine l_lit (col := col_10) (r := (Rep.int .i64)) (xs := [77]) [(.int .i64 77)] 2 rfl Try.underlying22 el3_9 rfl rfl rfl rfl rfl rfl (by intro v hv; simp only [List.mem_cons, List.not_mem_nil, or_false] at hv; subst hv; rfl) (RowsH.ofF (Rows.consF (r := (Rep.int .i64)) (x := 77) (cs := [(.int .i64 77)]) (rd_int .i64 77) Rows.nil0)) ?_
      intro a_16 w_17 col_18 hg_19 h_20
      replace h0 := h0.gr hg_19
      replace h_14 := h_14.gr hg_19
      replace hst := hst.grow hg_19
      obtain ⟨hb_21, hm⟩ := chk_some hm
      refine l_appendM (col := col_18) (w := w_17) (r := (Rep.int .i64)) (c := 1) (c2 := 1) (xs := m_11) (ys := [77]) h_14 (h_20.srcN (NB.int (k := .i64))) rfl Try.underlying22 el3_9 rfl rfl rfl hb_21.1 hb_21.2 (by decide) ?_
      intro a_22 cap_23 w_24 col_25 hk_26 h_27
      replace h0 := h0.kpp hk_26 rfl
      replace h_20 := h_20.kpp hk_26 rfl rfl
      replace hst := hst.kpp hk_26 rfl rfl
      clear h_14
      refine lv (v := (.slice a_22 ((m_11 ++ [77]).length) cap_23)) rfl rfl (r_assign rfl) ?_
      refine lnil ?_
      refine wregion ?_
      refine lv (v := (.int .i64 i_15)) rfl rfl (r_move rfl) ?_
      refine lv (v := (.int .i64 (IntKind.i64.wrap (i_15 + 1)))) rfl rfl (r_add i_15 1 rfl rfl) ?_
      refine lv (v := (.int .i64 (IntKind.i64.wrap (i_15 + 1)))) rfl rfl (r_assign rfl) ?_
      refine lnil ?_
      exact ⟨n_8, by omega, ⟨col_25, a_22, cap_23, (m_11 ++ [77]), (IntKind.i64.wrap (i_15 + 1)), n_8, rfl, hm, hst, h0, h_27, rfl, rfl, rfl, rfl⟩⟩
    · rw [if_neg (by rw [hb]; decide)] at hm
      clear hb
      refine wexit (inB_hit ?_)
      refine wseq ?_
      refine wregion ?_
      refine lv (v := (.slice a_12 m_11.length cap_13)) rfl rfl (r_move rfl) ?_
      refine lv (v := (.slice a0 p0_l.length cap0)) rfl rfl (r_move rfl) ?_
      refine lv (v := (.int .i64 (p0_l.length : Int))) rfl rfl (r_len Try.underlying22 rfl) ?_
      obtain ⟨hb_28, hm⟩ := chk_some hm
      refine lv (v := .slice a_12 (Int.toNat (p0_l.length : Int)) cap_13) rfl rfl (r_sliceH Try.underlying22 Try.sizeOf3 rfl rfl hb_28.1 (by have := h_14.lecap; have := hb_28.2; omega)) ?_
      refine .ld (d := 18) (v := (.slice a_12 ((m_11.take (Int.toNat (p0_l.length : Int))).length) cap_13)) (congrArg (fun n => Value.slice a_12 n cap_13) (List.length_take_of_le (show (Int.toNat (p0_l.length : Int)) ≤ m_11.length by have := hb_28.2; omega)).symm) ?_
      refine lv (v := (.slice a_12 ((m_11.take (Int.toNat (p0_l.length : Int))).length) cap_13)) rfl rfl (r_assign rfl) ?_
      refine lnil ?_
      refine wret ?_
      cases hm
      exact ⟨rfl, colF w0.heap.size col col_10 (fun n => bif Nat.beq n 1 then c1 else 0), a_12, cap_13, rfl, hst.fin (fun n => bif Nat.beq n 1 then c1 else 0), hst.finOwn (g := (fun n => bif Nat.beq n 1 then c1 else 0)) rfl h_14 (by decide) (by decide) rfl⟩



theorem el3_10 : ElemOk Try.prog 3 1 8 := ⟨Try.t3, _, rfl, rfl, rfl, rfl, rfl⟩

def m_credencelaw10_plain_int_L1 (N : Nat) (p0_l : (List Int)) : Nat → (List Int) → Int → Option (List Int)
  | 0, _, _ => none
  | n_1 + 1, out_4, i_8 => if (decide (i_8 < (p0_l.length : Int))) = true then ((at? p0_l i_8).bind fun e_9 => chk ((out_4.length + [e_9].length) * 8 ≤ 140737488355328 ∧ out_4.length + [e_9].length ≤ maxLen) ((m_credencelaw10_plain_int_L1 N p0_l n_1) (out_4 ++ [e_9]) (IntKind.i64.wrap (i_8 + 1)))) else (some out_4)

def m_credencelaw10_plain_int (N : Nat) (p0_l : (List Int)) : Option (List Int) :=
  m_credencelaw10_plain_int_L1 N p0_l N ([] : List Int) 0

set_option maxRecDepth 100000 in
theorem c_credencelaw10_plain_int (N : Nat) (c1 : Nat) (col : Col) (w0 : World) (a0 : Option Addr) (cap0 : Nat) (p0_l : (List Int)) (h0 : Sl (Rep.int .i64) col w0 a0 cap0 p0_l) (r : (List Int)) (hm : m_credencelaw10_plain_int N p0_l = some r) :
    Calls Try.prog 10 #[(.slice a0 p0_l.length cap0)] w0 (fun e w' => ∃ (col' : Col) (ra1 : Option Addr) (rc2 : Nat), e = .returned ((.slice ra1 r.length rc2)) ∧ Grow col w0 col' w' ∧ Own (Rep.int .i64) 3 c1 col' w' ra1 rc2 r) := by
  refine calls_of1 2 (m := 19) (args := [(.slice a0 p0_l.length cap0)]) Try.func10 rfl rfl rfl rfl rfl ?_
  rw [m_credencelaw10_plain_int.eq_1] at hm
  have hst := St.start col w0
  replace h0 := h0.keep (Stay.start col w0)
  refine wseq ?_
  refine wregion ?_
  refine lv (v := (.slice none (([] : List Int).length) 0)) rfl rfl (r_assign rfl) ?_
  refine lnil ?_
  refine wseq ?_
  refine wregion ?_
  refine lv (v := (.slice none (([] : List Int).length) 0)) rfl rfl (r_assign rfl) ?_
  refine lnil ?_
  refine wseq ?_
  refine wseq ?_
  refine wregion ?_
  refine lv (v := (.int .i64 0)) rfl rfl (r_assign rfl) ?_
  refine lnil ?_
  refine wblock ?_
  refine wloop (fun n f w_2 => ∃ (col_3 : Col) (a_5 : Option Addr) (cap_6 : Nat) (out_4 : List Int) (i_8 : Int) (n_1 : Nat), n_1 = n ∧ m_credencelaw10_plain_int_L1 N p0_l n_1 out_4 i_8 = some r ∧ St w0 (col0 col) col_3 w_2 ∧ Sl (Rep.int .i64) col_3 w_2 a0 cap0 p0_l ∧ Own (Rep.int .i64) 3 1 col_3 w_2 a_5 cap_6 out_4 ∧ f 0 = (.slice a0 p0_l.length cap0) ∧ f 3 = (.slice a_5 out_4.length cap_6) ∧ f 4 = (.int .i64 i_8) ∧ f 1000000 = (enc [])) N ⟨(col0 col), none, 0, ([] : List Int), 0, N, rfl, hm, hst, h0, Own.nil, rfl, rfl, rfl, rfl⟩ ?_
  clear hm; intro n f w_2 hI
  obtain ⟨col_3, a_5, cap_6, out_4, i_8, n_1, hn, hm, hst, h0, h_7, hs0, hs3, hs4, hs1000000⟩ := hI
  subst hn
  refine .ld (d := 0) (v := (.slice a0 p0_l.length cap0)) hs0 ?_
  refine .ld (d := 3) (v := (.slice a_5 out_4.length cap_6)) hs3 ?_
  refine .ld (d := 4) (v := (.int .i64 i_8)) hs4 ?_
  refine .ld (d := 1000000) (v := (enc [])) hs1000000 ?_
  clear hs0 hs3 hs4 hs1000000
  cases n_1 with
  | zero => rw [m_credencelaw10_plain_int_L1.eq_1] at hm; cases hm
  | succ n_1 =>
    rw [m_credencelaw10_plain_int_L1.eq_2] at hm
    refine wseq ?_
    refine wseq ?_
    refine wregion ?_
    refine lv (v := (.int .i64 i_8)) rfl rfl (r_move rfl) ?_
    refine lv (v := (.slice a0 p0_l.length cap0)) rfl rfl (r_move rfl) ?_
    refine lv (v := (.int .i64 (p0_l.length : Int))) rfl rfl (r_len Try.underlying22 rfl) ?_
    refine lv (v := (.bool (decide (i_8 < (p0_l.length : Int))))) rfl rfl (r_lss i_8 (p0_l.length : Int) rfl rfl) ?_
    refine lnil ?_
    refine wcond (decide (i_8 < (p0_l.length : Int))) rfl (fun hb => ?_) (fun hb => ?_)
    · rw [if_pos hb] at hm
      clear hb
      refine wskip ?_
      refine wseq ?_
      refine wblock ?_
      refine wregion ?_
      refine lv (v := (.slice a_5 out_4.length cap_6)) rfl rfl (r_move rfl) ?_
      refine lv (v := (.slice a0 p0_l.length cap0)) rfl rfl (r_move rfl) ?_
      refine lv (v := (.int .i64 i_8)) rfl rfl (r_move rfl) ?_
      obtain ⟨e_9, hj_10, hm⟩ := bind_some hm
      refine lv (v := (sptr a0 (Int.toNat i_8 * 1))) rfl rfl (r_idx Try.underlying22 Try.sizeOf3 rfl rfl (at?_some hj_10).1 (at?_some hj_10).2.1 (h0.addr hj_10)) ?_
      refine lv (v := (.int .i64 e_9)) rfl rfl (r_ld Try.isAgg3 rfl (h0.atInt hj_10)) ?_
      refine l_lit (col := col_3) (r := (Rep.int .i64)) (xs := [e_9]) [(.int .i64 e_9)] 2 rfl Try.underlying22 el3_10 rfl rfl rfl rfl rfl rfl (by intro v hv; simp only [List.mem_cons, List.not_mem_nil, or_false] at hv; subst hv; rfl) (RowsH.ofF (Rows.consF (r := (Rep.int .i64)) (x := e_9) (cs := [(.int .i64 e_9)]) (rd_int .i64 e_9) Rows.nil0)) ?_
      intro a_11 w_12 col_13 hg_14 h_15
      replace h0 := h0.gr hg_14
      replace h_7 := h_7.gr hg_14
      replace hst := hst.grow hg_14
      obtain ⟨hb_16, hm⟩ := chk_some hm
      refine l_appendM (col := col_13) (w := w_12) (r := (Rep.int .i64)) (c := 1) (c2 := 1) (xs := out_4) (ys := [e_9]) h_7 (h_15.srcN (NB.int (k := .i64))) rfl Try.underlying22 el3_10 rfl rfl rfl hb_16.1 hb_16.2 (by decide) ?_
      intro a_17 cap_18 w_19 col_20 hk_21 h_22
      replace h0 := h0.kpp hk_21 rfl
      replace h_15 := h_15.kpp hk_21 rfl rfl
      replace hst := hst.kpp hk_21 rfl rfl
      clear h_7
      refine lv (v := (.slice a_17 ((out_4 ++ [e_9]).length) cap_18)) rfl rfl (r_assign rfl) ?_
      refine lnil ?_
      refine wregion ?_
      refine lv (v := (.int .i64 i_8)) rfl rfl (r_move rfl) ?_
      refine lv (v := (.int .i64 (IntKind.i64.wrap (i_8 + 1)))) rfl rfl (r_add i_8 1 rfl rfl) ?_
      refine lv (v := (.int .i64 (IntKind.i64.wrap (i_8 + 1)))) rfl rfl (r_assign rfl) ?_
      refine lnil ?_
      exact ⟨n_1, by omega, ⟨col_20, a_17, cap_18, (out_4 ++ [e_9]), (IntKind.i64.wrap (i_8 + 1)), n_1, rfl, hm, hst, h0, h_22, rfl, rfl, rfl, rfl⟩⟩
    · rw [if_neg (by rw [hb]; decide)] at hm
      clear hb
      refine wexit (inB_hit ?_)
      refine wseq ?_
      refine wregion ?_
      refine lv (v := (.slice a_5 out_4.length cap_6)) rfl rfl (r_move rfl) ?_
      refine lv (v := (.slice a_5 out_4.length cap_6)) rfl rfl (r_assign rfl) ?_
      refine lnil ?_
      refine wret ?_
      cases hm
      exact ⟨rfl, colF w0.heap.size col col_3 (fun n => bif Nat.beq n 1 then c1 else 0), a_5, cap_6, rfl, hst.fin (fun n => bif Nat.beq n 1 then c1 else 0), hst.finOwn (g := (fun n => bif Nat.beq n 1 then c1 else 0)) rfl h_7 (by decide) (by decide) rfl⟩




def m_credenceref10_Count_J1 (i_5 : Int) (kk_L1 : (Int → Int → Option (Int × Int))) (n_8 : Int) : Option (Int × Int) :=
  kk_L1 n_8 (IntKind.i64.wrap (i_5 + 1))

def m_credenceref10_Count_J2 (p0_sizes : (List Int)) (n_14 : Int) (i_15 : Int) (kk_L2 : (Int → Int → Option (Int × Int))) (v_19 : Bool) : Option (Int × Int) :=
  if v_19 = true then ((at? p0_sizes i_15).bind fun e_20 => if (decide (2147483647 < e_20)) = true then (some (0, 4)) else (if (decide (2147483647 < (IntKind.i64.wrap (n_14 * e_20)))) = true then (some (0, 4)) else (kk_L2 (IntKind.i64.wrap (n_14 * e_20)) (IntKind.i64.wrap (i_15 + 1))))) else (some (n_14, 0))

def m_credenceref10_Count_L2 (N : Nat) (p0_sizes : (List Int)) : Nat → Int → Int → Option (Int × Int)
  | 0, _, _ => none
  | n_11 + 1, n_14, i_15 => if (decide (i_15 < (p0_sizes.length : Int))) = true then (m_credenceref10_Count_J2 p0_sizes n_14 i_15 (m_credenceref10_Count_L2 N p0_sizes n_11) (decide (0 < n_14))) else (m_credenceref10_Count_J2 p0_sizes n_14 i_15 (m_credenceref10_Count_L2 N p0_sizes n_11) false)

def m_credenceref10_Count_L1 (N : Nat) (p0_sizes : (List Int)) : Nat → Int → Int → Option (Int × Int)
  | 0, _, _ => none
  | n_1 + 1, n_4, i_5 => if (decide (i_5 < (p0_sizes.length : Int))) = true then ((at? p0_sizes i_5).bind fun e_9 => if (decide (e_9 < 0)) = true then (some (0, 3)) else (if (decide (e_9 = 0)) = true then (m_credenceref10_Count_J1 i_5 (m_credenceref10_Count_L1 N p0_sizes n_1) 0) else (m_credenceref10_Count_J1 i_5 (m_credenceref10_Count_L1 N p0_sizes n_1) n_4))) else (m_credenceref10_Count_L2 N p0_sizes N n_4 0)

def m_credenceref10_Count (N : Nat) (p0_sizes : (List Int)) : Option (Int × Int) :=
  m_credenceref10_Count_L1 N p0_sizes N 1 0

set_option maxRecDepth 100000 in
theorem c_credenceref10_Count (N : Nat) (col : Col) (w0 : World) (a0 : Option Addr) (cap0 : Nat) (p0_sizes : (List Int)) (h0 : Sl (Rep.int .i64) col w0 a0 cap0 p0_sizes) (r : (Int × Int)) (hm : m_credenceref10_Count N p0_sizes = some r) :
    Calls Try.prog 11 #[(.slice a0 p0_sizes.length cap0)] w0 (fun e w' => e = .returned (.tuple #[(.int .i64 r.1), (.int .i64 r.2)]) ∧ Below w0.heap.size w0 w') := by
  refine calls_of2 2 3 (m := 47) (args := [(.slice a0 p0_sizes.length cap0)]) Try.func11 rfl rfl rfl rfl rfl ?_
  rw [m_credenceref10_Count.eq_1] at hm
  have hst := St.start col w0
  replace h0 := h0.keep (Stay.start col w0)
  refine wseq ?_
  refine wregion ?_
  refine lv (v := (.int .i64 0)) rfl rfl (r_assign rfl) ?_
  refine lv (v := (.int .i64 0)) rfl rfl (r_assign rfl) ?_
  refine lnil ?_
  refine wseq ?_
  refine wregion ?_
  refine lv (v := (.int .i64 1)) rfl rfl (r_assign rfl) ?_
  refine lnil ?_
  refine wseq ?_
  refine wseq ?_
  refine wregion ?_
  refine lv (v := (.int .i64 0)) rfl rfl (r_assign rfl) ?_
  refine lnil ?_
  refine wblock ?_
  refine wloop (fun n f w_2 => ∃ (col_3 : Col) (n_4 : Int) (i_5 : Int) (n_1 : Nat), n_1 = n ∧ m_credenceref10_Count_L1 N p0_sizes n_1 n_4 i_5 = some r ∧ St w0 (col0 col) col_3 w_2 ∧ Sl (Rep.int .i64) col_3 w_2 a0 cap0 p0_sizes ∧ f 0 = (.slice a0 p0_sizes.length cap0) ∧ f 4 = (.int .i64 n_4) ∧ f 5 = (.int .i64 i_5) ∧ f 1000000 = (enc [])) N ⟨(col0 col), 1, 0, N, rfl, hm, hst, h0, rfl, rfl, rfl, rfl⟩ ?_
  clear hm; intro n f w_2 hI
  obtain ⟨col_3, n_4, i_5, n_1, hn, hm, hst, h0, hs0, hs4, hs5, hs1000000⟩ := hI
  subst hn
  refine .ld (d := 0) (v := (.slice a0 p0_sizes.length cap0)) hs0 ?_
  refine .ld (d := 4) (v := (.int .i64 n_4)) hs4 ?_
  refine .ld (d := 5) (v := (.int .i64 i_5)) hs5 ?_
  refine .ld (d := 1000000) (v := (enc [])) hs1000000 ?_
  clear hs0 hs4 hs5 hs1000000
  cases n_1 with
  | zero => rw [m_credenceref10_Count_L1.eq_1] at hm; cases hm
  | succ n_1 =>
    rw [m_credenceref10_Count_L1.eq_2] at hm
    refine wseq ?_
    refine wseq ?_
    refine wregion ?_
    refine lv (v := (.int .i64 i_5)) rfl rfl (r_move rfl) ?_
    refine lv (v := (.slice a0 p0_sizes.length cap0)) rfl rfl (r_move rfl) ?_
    refine lv (v := (.int .i64 (p0_sizes.length : Int))) rfl rfl (r_len Try.underlying22 rfl) ?_
    refine lv (v := (.bool (decide (i_5 < (p0_sizes.length : Int))))) rfl rfl (r_lss i_5 (p0_sizes.length : Int) rfl rfl) ?_
    refine lnil ?_
    refine wcond (decide (i_5 < (p0_sizes.length : Int))) rfl (fun hb => ?_) (fun hb => ?_)
    · rw [if_pos hb] at hm
      clear hb
      refine wskip ?_
      refine wseq ?_
      refine Wp.cut (fun f w_6 => ∃ (col_7 : Col) (n_8 : Int), m_credenceref10_Count_J1 i_5 (m_credenceref10_Count_L1 N p0_sizes n_1) n_8 = some r ∧ St w0 (col0 col) col_7 w_6 ∧ Sl (Rep.int .i64) col_7 w_6 a0 cap0 p0_sizes ∧ f 0 = (.slice a0 p0_sizes.length cap0) ∧ f 4 = (.int .i64 n_8) ∧ f 5 = (.int .i64 i_5) ∧ f 1000000 = (enc [])) ?_ ?_
      · intro f w_6 hJ
        obtain ⟨col_7, n_8, hm, hst, h0, hs0, hs4, hs5, hs1000000⟩ := hJ
        rw [m_credenceref10_Count_J1.eq_1] at hm
        refine .ld (d := 0) (v := (.slice a0 p0_sizes.length cap0)) hs0 ?_
        refine .ld (d := 4) (v := (.int .i64 n_8)) hs4 ?_
        refine .ld (d := 5) (v := (.int .i64 i_5)) hs5 ?_
        refine .ld (d := 1000000) (v := (enc [])) hs1000000 ?_
        clear hs0 hs4 hs5 hs1000000
        refine wregion ?_
        refine lv (v := (.int .i64 i_5)) rfl rfl (r_move rfl) ?_
        refine lv (v := (.int .i64 (IntKind.i64.wrap (i_5 + 1)))) rfl rfl (r_add i_5 1 rfl rfl) ?_
        refine lv (v := (.int .i64 (IntKind.i64.wrap (i_5 + 1)))) rfl rfl (r_assign rfl) ?_
        refine lnil ?_
        exact ⟨n_1, by omega, ⟨col_7, n_8, (IntKind.i64.wrap (i_5 + 1)), n_1, rfl, hm, hst, h0, rfl, rfl, rfl, rfl⟩⟩
      · refine wblock ?_
        refine wseq ?_
        refine wseq ?_
        refine wregion ?_
        refine lv (v := (.slice a0 p0_sizes.length cap0)) rfl rfl (r_move rfl) ?_
        refine lv (v := (.int .i64 i_5)) rfl rfl (r_move rfl) ?_
        obtain ⟨e_9, hj_10, hm⟩ := bind_some hm
        refine lv (v := (sptr a0 (Int.toNat i_5 * 1))) rfl rfl (r_idx Try.underlying22 Try.sizeOf3 rfl rfl (at?_some hj_10).1 (at?_some hj_10).2.1 (h0.addr hj_10)) ?_
        refine lv (v := (.int .i64 e_9)) rfl rfl (r_ld Try.isAgg3 rfl (h0.atInt hj_10)) ?_
        refine lv (v := (.bool (decide (e_9 < 0)))) rfl rfl (r_lss e_9 0 rfl rfl) ?_
        refine lnil ?_
        refine wcond (decide (e_9 < 0)) rfl (fun hb => ?_) (fun hb => ?_)
        · rw [if_pos hb] at hm
          clear hb
          refine wseq ?_
          refine wregion ?_
          refine lv (v := (.int .i64 0)) rfl rfl (r_assign rfl) ?_
          refine lv (v := (.int .i64 3)) rfl rfl (r_assign rfl) ?_
          refine lnil ?_
          refine wret ?_
          cases hm
          exact ⟨rfl, rfl, hst.below⟩
        · rw [if_neg (by rw [hb]; decide)] at hm
          clear hb
          refine wskip ?_
          refine wseq ?_
          refine wregion ?_
          refine lv (v := (.slice a0 p0_sizes.length cap0)) rfl rfl (r_move rfl) ?_
          refine lv (v := (.int .i64 i_5)) rfl rfl (r_move rfl) ?_
          refine lv (v := (sptr a0 (Int.toNat i_5 * 1))) rfl rfl (r_idx Try.underlying22 Try.sizeOf3 rfl rfl (at?_some hj_10).1 (at?_some hj_10).2.1 (h0.addr hj_10)) ?_
          refine lv (v := (.int .i64 e_9)) rfl rfl (r_ld Try.isAgg3 rfl (h0.atInt hj_10)) ?_
          refine lv (v := (.bool (decide (e_9 = 0)))) rfl rfl (r_eql e_9 0 rfl rfl) ?_
          refine lnil ?_
          refine wcond (decide (e_9 = 0)) rfl (fun hb => ?_) (fun hb => ?_)
          · rw [if_pos hb] at hm
            clear hb
            refine wregion ?_
            refine lv (v := (.int .i64 0)) rfl rfl (r_assign rfl) ?_
            refine lnil ?_
            exact ⟨col_3, 0, hm, hst, h0, rfl, rfl, rfl, rfl⟩
          · rw [if_neg (by rw [hb]; decide)] at hm
            clear hb
            refine wskip ?_
            exact ⟨col_3, n_4, hm, hst, h0, rfl, rfl, rfl, rfl⟩
    · rw [if_neg (by rw [hb]; decide)] at hm
      clear hb
      refine wexit (inB_hit ?_)
      refine wseq ?_
      refine wseq ?_
      refine wregion ?_
      refine lv (v := (.int .i64 0)) rfl rfl (r_assign rfl) ?_
      refine lnil ?_
      refine wblock ?_
      refine wloop (fun n f w_12 => ∃ (col_13 : Col) (n_14 : Int) (i_15 : Int) (n_11 : Nat), n_11 = n ∧ m_credenceref10_Count_L2 N p0_sizes n_11 n_14 i_15 = some r ∧ St w0 (col0 col) col_13 w_12 ∧ Sl (Rep.int .i64) col_13 w_12 a0 cap0 p0_sizes ∧ f 0 = (.slice a0 p0_sizes.length cap0) ∧ f 4 = (.int .i64 n_14) ∧ f 6 = (.int .i64 i_15) ∧ f 1000000 = (enc [])) N ⟨col_3, n_4, 0, N, rfl, hm, hst, h0, rfl, rfl, rfl, rfl⟩ ?_
      clear hm; intro n f w_12 hI
      obtain ⟨col_13, n_14, i_15, n_11, hn, hm, hst, h0, hs0, hs4, hs6, hs1000000⟩ := hI
      subst hn
      refine .ld (d := 0) (v := (.slice a0 p0_sizes.length cap0)) hs0 ?_
      refine .ld (d := 4) (v := (.int .i64 n_14)) hs4 ?_
      refine .ld (d := 6) (v := (.int .i64 i_15)) hs6 ?_
      refine .ld (d := 1000000) (v := (enc [])) hs1000000 ?_
      clear hs0 hs4 hs6 hs1000000
      cases n_11 with
      | zero => rw [m_credenceref10_Count_L2.eq_1] at hm; cases hm
      | succ n_11 =>
        rw [m_credenceref10_Count_L2.eq_2] at hm
        refine wseq ?_
        refine wseq ?_
        refine Wp.cut (fun f w_17 => ∃ (col_18 : Col) (v_19 : Bool), m_credenceref10_Count_J2 p0_sizes n_14 i_15 (m_credenceref10_Count_L2 N p0_sizes n_11) v_19 = some r ∧ St w0 (col0 col) col_18 w_17 ∧ Sl (Rep.int .i64) col_18 w_17 a0 cap0 p0_sizes ∧ f 0 = (.slice a0 p0_sizes.length cap0) ∧ f 30 = (.bool v_19) ∧ f 4 = (.int .i64 n_14) ∧ f 6 = (.int .i64 i_15) ∧ f 1000000 = (enc [])) ?_ ?_
        · intro f w_17 hJ
          obtain ⟨col_18, v_19, hm, hst, h0, hs0, hs30, hs4, hs6, hs1000000⟩ := hJ
          rw [m_credenceref10_Count_J2.eq_1] at hm
          refine .ld (d := 0) (v := (.slice a0 p0_sizes.length cap0)) hs0 ?_
          refine .ld (d := 30) (v := (.bool v_19)) hs30 ?_
          refine .ld (d := 4) (v := (.int .i64 n_14)) hs4 ?_
          refine .ld (d := 6) (v := (.int .i64 i_15)) hs6 ?_
          refine .ld (d := 1000000) (v := (enc [])) hs1000000 ?_
          clear hs0 hs30 hs4 hs6 hs1000000
          refine wcond (v_19) rfl (fun hb => ?_) (fun hb => ?_)
          · rw [if_pos hb] at hm
            clear hb
            refine wskip ?_
            refine wseq ?_
            refine wblock ?_
            refine wseq ?_
            refine wseq ?_
            refine wregion ?_
            refine lv (v := (.slice a0 p0_sizes.length cap0)) rfl rfl (r_move rfl) ?_
            refine lv (v := (.int .i64 i_15)) rfl rfl (r_move rfl) ?_
            obtain ⟨e_20, hj_21, hm⟩ := bind_some hm
            refine lv (v := (sptr a0 (Int.toNat i_15 * 1))) rfl rfl (r_idx Try.underlying22 Try.sizeOf3 rfl rfl (at?_some hj_21).1 (at?_some hj_21).2.1 (h0.addr hj_21)) ?_
            refine lv (v := (.int .i64 e_20)) rfl rfl (r_ld Try.isAgg3 rfl (h0.atInt hj_21)) ?_
            refine lv (v := (.bool (decide (2147483647 < e_20)))) rfl rfl (r_gtr e_20 2147483647 rfl rfl) ?_
            refine lnil ?_
            refine wcond (decide (2147483647 < e_20)) rfl (fun hb => ?_) (fun hb => ?_)
            · rw [if_pos hb] at hm
              clear hb
              refine wseq ?_
              refine wregion ?_
              refine lv (v := (.int .i64 0)) rfl rfl (r_assign rfl) ?_
              refine lv (v := (.int .i64 4)) rfl rfl (r_assign rfl) ?_
              refine lnil ?_
              refine wret ?_
              cases hm
              exact ⟨rfl, rfl, hst.below⟩
            · rw [if_neg (by rw [hb]; decide)] at hm
              clear hb
              refine wskip ?_
              refine wseq ?_
              refine wregion ?_
              refine lv (v := (.int .i64 n_14)) rfl rfl (r_move rfl) ?_
              refine lv (v := (.slice a0 p0_sizes.length cap0)) rfl rfl (r_move rfl) ?_
              refine lv (v := (.int .i64 i_15)) rfl rfl (r_move rfl) ?_
              refine lv (v := (sptr a0 (Int.toNat i_15 * 1))) rfl rfl (r_idx Try.underlying22 Try.sizeOf3 rfl rfl (at?_some hj_21).1 (at?_some hj_21).2.1 (h0.addr hj_21)) ?_
              refine lv (v := (.int .i64 e_20)) rfl rfl (r_ld Try.isAgg3 rfl (h0.atInt hj_21)) ?_
              refine lv (v := (.int .i64 (IntKind.i64.wrap (n_14 * e_20)))) rfl rfl (r_mul n_14 e_20 rfl rfl) ?_
              refine lv (v := (.int .i64 (IntKind.i64.wrap (n_14 * e_20)))) rfl rfl (r_assign rfl) ?_
              refine lnil ?_
              refine wseq ?_
              refine wregion ?_
              refine lv (v := (.int .i64 (IntKind.i64.wrap (n_14 * e_20)))) rfl rfl (r_move rfl) ?_
              refine lv (v := (.bool (decide (2147483647 < (IntKind.i64.wrap (n_14 * e_20)))))) rfl rfl (r_gtr (IntKind.i64.wrap (n_14 * e_20)) 2147483647 rfl rfl) ?_
              refine lnil ?_
              refine wcond (decide (2147483647 < (IntKind.i64.wrap (n_14 * e_20)))) rfl (fun hb => ?_) (fun hb => ?_)
              · rw [if_pos hb] at hm
                clear hb
                refine wseq ?_
                refine wregion ?_
                refine lv (v := (.int .i64 0)) rfl rfl (r_assign rfl) ?_
                refine lv (v := (.int .i64 4)) rfl rfl (r_assign rfl) ?_
                refine lnil ?_
                refine wret ?_
                cases hm
                exact ⟨rfl, rfl, hst.below⟩
              · rw [if_neg (by rw [hb]; decide)] at hm
                clear hb
                refine wskip ?_
                refine wregion ?_
                refine lv (v := (.int .i64 i_15)) rfl rfl (r_move rfl) ?_
                refine lv (v := (.int .i64 (IntKind.i64.wrap (i_15 + 1)))) rfl rfl (r_add i_15 1 rfl rfl) ?_
                refine lv (v := (.int .i64 (IntKind.i64.wrap (i_15 + 1)))) rfl rfl (r_assign rfl) ?_
                refine lnil ?_
                exact ⟨n_11, by omega, ⟨col_18, (IntKind.i64.wrap (n_14 * e_20)), (IntKind.i64.wrap (i_15 + 1)), n_11, rfl, hm, hst, h0, rfl, rfl, rfl, rfl⟩⟩
          · rw [if_neg (by rw [hb]; decide)] at hm
            clear hb
            refine wexit (inB_hit ?_)
            refine wseq ?_
            refine wregion ?_
            refine lv (v := (.int .i64 n_14)) rfl rfl (r_move rfl) ?_
            refine lv (v := (.int .i64 n_14)) rfl rfl (r_assign rfl) ?_
            refine lv (v := (.int .i64 0)) rfl rfl (r_assign rfl) ?_
            refine lnil ?_
            refine wret ?_
            cases hm
            exact ⟨rfl, rfl, hst.below⟩
        · refine wregion ?_
          refine lv (v := (.int .i64 i_15)) rfl rfl (r_move rfl) ?_
          refine lv (v := (.slice a0 p0_sizes.length cap0)) rfl rfl (r_move rfl) ?_
          refine lv (v := (.int .i64 (p0_sizes.length : Int))) rfl rfl (r_len Try.underlying22 rfl) ?_
          refine lv (v := (.bool (decide (i_15 < (p0_sizes.length : Int))))) rfl rfl (r_lss i_15 (p0_sizes.length : Int) rfl rfl) ?_
          refine lv (v := (.bool (decide (i_15 < (p0_sizes.length : Int))))) rfl rfl (r_move rfl) ?_
          by_cases hg_22 : (decide (i_15 < (p0_sizes.length : Int))) = true
          · rw [if_pos hg_22] at hm
            refine lg (b := decide (i_15 < (p0_sizes.length : Int))) 27 rfl rfl rfl (by rw [hg_22]; rfl) ?_
            refine lv (v := (.int .i64 n_14)) rfl rfl (r_move rfl) ?_
            refine lg (b := decide (i_15 < (p0_sizes.length : Int))) 27 rfl rfl rfl (by rw [hg_22]; rfl) ?_
            refine lv (v := (.bool (decide (0 < n_14)))) rfl rfl (r_gtr n_14 0 rfl rfl) ?_
            refine lv (v := (.bool (decide (0 < n_14)))) rfl rfl (r_pickT (congrArg Value.bool hg_22) rfl) ?_
            refine lnil ?_
            exact ⟨col_13, (decide (0 < n_14)), hm, hst, h0, rfl, rfl, rfl, rfl, rfl⟩
          · rw [if_neg hg_22] at hm
            replace hg_22 := Bool.eq_false_iff.2 hg_22
            refine lp (b := decide (i_15 < (p0_sizes.length : Int))) 27 rfl rfl rfl rfl (by rw [hg_22]; rfl) ?_
            refine lp (b := decide (i_15 < (p0_sizes.length : Int))) 27 rfl rfl rfl rfl (by rw [hg_22]; rfl) ?_
            refine lv (v := (.bool false)) rfl rfl (r_pickF (congrArg Value.bool hg_22) rfl) ?_
            refine lnil ?_
            exact ⟨col_13, false, hm, hst, h0, rfl, rfl, rfl, rfl, rfl⟩



theorem el3_26 : ElemOk Try.prog 3 1 8 := ⟨Try.t3, _, rfl, rfl, rfl, rfl, rfl⟩

def m_slices_Clone_int_int (p0_s : (List Int)) : Option (List Int) :=
  chk ((([] : List Int).length + p0_s.length) * 8 ≤ 140737488355328 ∧ ([] : List Int).length + p0_s.length ≤ maxLen) (some (([] : List Int) ++ p0_s))

set_option maxRecDepth 100000 in
theorem c_slices_Clone_int_int (c1 : Nat) (col : Col) (w0 : World) (a0 : Option Addr) (cap0 : Nat) (p0_s : (List Int)) (h0 : Sl (Rep.int .i64) col w0 a0 cap0 p0_s) (r : (List Int)) (hm : m_slices_Clone_int_int p0_s = some r) :
    Calls Try.prog 26 #[(.slice a0 p0_s.length cap0)] w0 (fun e w' => ∃ (col' : Col) (ra1 : Option Addr) (rc2 : Nat), e = .returned ((.slice ra1 r.length rc2)) ∧ Grow col w0 col' w' ∧ Own (Rep.int .i64) 3 c1 col' w' ra1 rc2 r) := by
  refine calls_of1 2 (m := 8) (args := [(.slice a0 p0_s.length cap0)]) Try.func26 rfl rfl rfl rfl rfl ?_
  rw [m_slices_Clone_int_int.eq_1] at hm
  have hst := St.start col w0
  replace h0 := h0.keep (Stay.start col w0)
  refine wseq ?_
  refine wregion ?_
  refine lv (v := (.slice none (([] : List Int).length) 0)) rfl rfl (r_assign rfl) ?_
  refine lnil ?_
  refine wseq ?_
  refine wseq ?_
  refine wregion ?_
  refine lv (v := (.slice a0 p0_s.length cap0)) rfl rfl (r_move rfl) ?_
  rcases nil_or h0 with hn_1 | hn_1
  · replace hm : some ([] : List Int) = some r := by have h0 := hn_1.2; subst h0; simpa [chk, maxLen] using hm
    refine lv (v := .bool a0.isNone) rfl rfl (r_eqlNil Try.underlying22 rfl) ?_
    refine .ld (d := 4) (v := .bool true) (congrArg Value.bool hn_1.1) ?_
    refine lnil ?_
    refine wcondT rfl ?_
    refine wseq ?_
    refine wregion ?_
    refine lv (v := (.slice none (([] : List Int).length) 0)) rfl rfl (r_assign rfl) ?_
    refine lnil ?_
    refine wret ?_
    cases hm
    exact ⟨rfl, colF w0.heap.size col (col0 col) (fun n => 0), none, 0, rfl, hst.fin (fun n => 0), Own.nil⟩
  · refine lv (v := .bool a0.isNone) rfl rfl (r_eqlNil Try.underlying22 rfl) ?_
    refine .ld (d := 4) (v := .bool false) (congrArg Value.bool hn_1) ?_
    refine lnil ?_
    refine wcondF rfl ?_
    refine wskip ?_
    refine wseq ?_
    refine wregion ?_
    refine l_lit0 (col := (col0 col)) (r := (Rep.int .i64)) 1 rfl Try.underlying22 el3_26 rfl ?_
    intro a_2 w_3 col_4 hg_5 h_6
    replace h0 := h0.gr hg_5
    replace hst := hst.grow hg_5
    refine lv (v := (.slice a0 p0_s.length cap0)) rfl rfl (r_move rfl) ?_
    obtain ⟨hb_7, hm⟩ := chk_some hm
    refine l_appendM (col := col_4) (w := w_3) (r := (Rep.int .i64)) (c := 1) (c2 := 1) (xs := ([] : List Int)) (ys := p0_s) h_6 h0.srcC rfl Try.underlying22 el3_26 rfl rfl rfl hb_7.1 hb_7.2 (by decide) ?_
    intro a_8 cap_9 w_10 col_11 hk_12 h_13
    replace h0 := h0.kpp hk_12 rfl
    replace hst := hst.kpp hk_12 rfl rfl
    clear h_6
    refine lv (v := (.slice a_8 ((([] : List Int) ++ p0_s).length) cap_9)) rfl rfl (r_assign rfl) ?_
    refine lnil ?_
    refine wret ?_
    cases hm
    exact ⟨rfl, colF w0.heap.size col col_11 (fun n => bif Nat.beq n 1 then c1 else 0), a_8, cap_9, rfl, hst.fin (fun n => bif Nat.beq n 1 then c1 else 0), hst.finOwn (g := (fun n => bif Nat.beq n 1 then c1 else 0)) rfl h_13 (by decide) (by decide) rfl⟩




def m_radix_Count_int_L2  : List Int → Int → Option (Int × Int)
  | [], n_12 => some (n_12, 0)
  | x_13 :: l_14, n_12 => chk (n_12 ≠ 0) (if (decide ((IntKind.i64.wrap (Int.tdiv 2147483647 n_12)) < x_13)) = true then (some (0, 4)) else ((m_radix_Count_int_L2 l_14) (IntKind.i64.wrap (n_12 * x_13))))

def m_radix_Count_int_J1 (kk_L1 : (Bool → Option (Int × Int))) (none_18 : Bool) : Option (Int × Int) :=
  kk_L1 none_18

def m_radix_Count_int_L1 (p0_sizes : (List Int)) : List Int → Bool → Option (Int × Int)
  | [], none_5 => if none_5 = true then (some (0, 0)) else (m_radix_Count_int_L2 p0_sizes 1)
  | x_6 :: l_7, none_5 => if (decide (x_6 < 0)) = true then (some (0, 3)) else (if none_5 = true then (m_radix_Count_int_J1 (m_radix_Count_int_L1 p0_sizes l_7) true) else (m_radix_Count_int_J1 (m_radix_Count_int_L1 p0_sizes l_7) (decide (x_6 = 0))))

def m_radix_Count_int (p0_sizes : (List Int)) : Option (Int × Int) :=
  m_radix_Count_int_L1 p0_sizes p0_sizes false

set_option maxRecDepth 100000 in
theorem c_radix_Count_int (col : Col) (w0 : World) (a0 : Option Addr) (cap0 : Nat) (p0_sizes : (List Int)) (h0 : Sl (Rep.int .i64) col w0 a0 cap0 p0_sizes) (r : (Int × Int)) (hm : m_radix_Count_int p0_sizes = some r) :
    Calls Try.prog 27 #[(.slice a0 p0_sizes.length cap0)] w0 (fun e w' => e = .returned (.tuple #[(.int .i64 r.1), (.int .i64 r.2)]) ∧ Below w0.heap.size w0 w') := by
  refine calls_of2 2 3 (m := 40) (args := [(.slice a0 p0_sizes.length cap0)]) Try.func27 rfl rfl rfl rfl rfl ?_
  rw [m_radix_Count_int.eq_1] at hm
  have hst := St.start col w0
  replace h0 := h0.keep (Stay.start col w0)
  refine wseq ?_
  refine wregion ?_
  refine lv (v := (.int .i64 0)) rfl rfl (r_assign rfl) ?_
  refine lv (v := (.int .i64 0)) rfl rfl (r_assign rfl) ?_
  refine lnil ?_
  refine wseq ?_
  refine wregion ?_
  refine lv (v := (.bool false)) rfl rfl (r_assign rfl) ?_
  refine lnil ?_
  refine wseq ?_
  refine wseq ?_
  refine wregion ?_
  refine lv (v := (.slice a0 p0_sizes.length cap0)) rfl rfl (r_move rfl) ?_
  refine lv (v := (.int .i64 (p0_sizes.length : Int))) rfl rfl (r_len Try.underlying22 rfl) ?_
  refine lv (v := (.int .i64 0)) rfl rfl (r_move rfl) ?_
  refine lnil ?_
  refine wblock ?_
  refine wloop (fun n f w_3 => ∃ (col_4 : Col) (k_1 : Nat) (none_5 : Bool) (l_2 : List Int), n = l_2.length ∧ p0_sizes.drop k_1 = l_2 ∧ m_radix_Count_int_L1 p0_sizes l_2 none_5 = some r ∧ St w0 (col0 col) col_4 w_3 ∧ Sl (Rep.int .i64) col_4 w_3 a0 cap0 p0_sizes ∧ f 12 = (.int .i64 (k_1 : Int)) ∧ f 0 = (.slice a0 p0_sizes.length cap0) ∧ f 10 = (.slice a0 p0_sizes.length cap0) ∧ f 11 = (.int .i64 (p0_sizes.length : Int)) ∧ f 4 = (.bool none_5) ∧ f 1000000 = (enc [])) p0_sizes.length ⟨(col0 col), 0, false, p0_sizes, rfl, rfl, hm, hst, h0, rfl, rfl, rfl, rfl, rfl, rfl⟩ ?_
  clear hm; intro n f w_3 hI
  obtain ⟨col_4, k_1, none_5, l_2, hn, hl, hm, hst, h0, hs12, hs0, hs10, hs11, hs4, hs1000000⟩ := hI
  subst hn
  refine .ld (d := 12) (v := (.int .i64 (k_1 : Int))) hs12 ?_
  refine .ld (d := 0) (v := (.slice a0 p0_sizes.length cap0)) hs0 ?_
  refine .ld (d := 10) (v := (.slice a0 p0_sizes.length cap0)) hs10 ?_
  refine .ld (d := 11) (v := (.int .i64 (p0_sizes.length : Int))) hs11 ?_
  refine .ld (d := 4) (v := (.bool none_5)) hs4 ?_
  refine .ld (d := 1000000) (v := (enc [])) hs1000000 ?_
  clear hs12 hs0 hs10 hs11 hs4 hs1000000
  cases l_2 with
  | nil =>
    have hk : ¬ ((k_1 : Int) < (p0_sizes.length : Int)) := by have := List.drop_eq_nil_iff.1 hl; omega
    have hkb := decide_eq_false hk
    rw [m_radix_Count_int_L1.eq_1] at hm
    refine wseq ?_
    refine wregion ?_
    refine lv (v := (.bool (decide ((k_1 : Int) < (p0_sizes.length : Int))))) rfl rfl (r_lss (k_1 : Int) (p0_sizes.length : Int) rfl rfl) ?_
    refine lnil ?_
    refine wseq ?_
    refine wcondF (congrArg Value.bool hkb) ?_
    refine wexit (inB_hit ?_)
    refine wseq ?_
    refine wseq ?_
    refine wregion ?_
    refine lv (v := (.bool none_5)) rfl rfl (r_move rfl) ?_
    refine lnil ?_
    refine wcond (none_5) rfl (fun hb => ?_) (fun hb => ?_)
    · rw [if_pos hb] at hm
      clear hb
      refine wseq ?_
      refine wregion ?_
      refine lv (v := (.int .i64 0)) rfl rfl (r_assign rfl) ?_
      refine lv (v := (.int .i64 0)) rfl rfl (r_assign rfl) ?_
      refine lnil ?_
      refine wret ?_
      cases hm
      exact ⟨rfl, rfl, hst.below⟩
    · rw [if_neg (by rw [hb]; decide)] at hm
      clear hb
      refine wskip ?_
      refine wseq ?_
      refine wregion ?_
      refine lv (v := (.int .i64 1)) rfl rfl (r_assign rfl) ?_
      refine lnil ?_
      refine wseq ?_
      refine wseq ?_
      refine wregion ?_
      refine lv (v := (.slice a0 p0_sizes.length cap0)) rfl rfl (r_move rfl) ?_
      refine lv (v := (.int .i64 (p0_sizes.length : Int))) rfl rfl (r_len Try.underlying22 rfl) ?_
      refine lv (v := (.int .i64 0)) rfl rfl (r_move rfl) ?_
      refine lnil ?_
      refine wblock ?_
      refine wloop (fun n f w_10 => ∃ (col_11 : Col) (k_8 : Nat) (n_12 : Int) (l_9 : List Int), n = l_9.length ∧ p0_sizes.drop k_8 = l_9 ∧ m_radix_Count_int_L2 l_9 n_12 = some r ∧ St w0 (col0 col) col_11 w_10 ∧ Sl (Rep.int .i64) col_11 w_10 a0 cap0 p0_sizes ∧ f 27 = (.int .i64 (k_8 : Int)) ∧ f 25 = (.slice a0 p0_sizes.length cap0) ∧ f 26 = (.int .i64 (p0_sizes.length : Int)) ∧ f 7 = (.int .i64 n_12) ∧ f 1000000 = (enc [])) p0_sizes.length ⟨col_4, 0, 1, p0_sizes, rfl, rfl, hm, hst, h0, rfl, rfl, rfl, rfl, rfl⟩ ?_
      clear hm; intro n f w_10 hI
      obtain ⟨col_11, k_8, n_12, l_9, hn, hl, hm, hst, h0, hs27, hs25, hs26, hs7, hs1000000⟩ := hI
      subst hn
      refine .ld (d := 27) (v := (.int .i64 (k_8 : Int))) hs27 ?_
      refine .ld (d := 25) (v := (.slice a0 p0_sizes.length cap0)) hs25 ?_
      refine .ld (d := 26) (v := (.int .i64 (p0_sizes.length : Int))) hs26 ?_
      refine .ld (d := 7) (v := (.int .i64 n_12)) hs7 ?_
      refine .ld (d := 1000000) (v := (enc [])) hs1000000 ?_
      clear hs27 hs25 hs26 hs7 hs1000000
      cases l_9 with
      | nil =>
        have hk : ¬ ((k_8 : Int) < (p0_sizes.length : Int)) := by have := List.drop_eq_nil_iff.1 hl; omega
        have hkb := decide_eq_false hk
        rw [m_radix_Count_int_L2.eq_1] at hm
        refine wseq ?_
        refine wregion ?_
        refine lv (v := (.bool (decide ((k_8 : Int) < (p0_sizes.length : Int))))) rfl rfl (r_lss (k_8 : Int) (p0_sizes.length : Int) rfl rfl) ?_
        refine lnil ?_
        refine wseq ?_
        refine wcondF (congrArg Value.bool hkb) ?_
        refine wexit (inB_hit ?_)
        refine wseq ?_
        refine wregion ?_
        refine lv (v := (.int .i64 n_12)) rfl rfl (r_move rfl) ?_
        refine lv (v := (.int .i64 n_12)) rfl rfl (r_assign rfl) ?_
        refine lv (v := (.int .i64 0)) rfl rfl (r_assign rfl) ?_
        refine lnil ?_
        refine wret ?_
        cases hm
        exact ⟨rfl, rfl, hst.below⟩
      | cons x_13 l_14 =>
        obtain ⟨hat, hl2, hlt⟩ := drop_get hl
        have hk : (k_8 : Int) < (p0_sizes.length : Int) := by omega
        have hkb := decide_eq_true hk
        rw [m_radix_Count_int_L2.eq_2] at hm
        refine wseq ?_
        refine wregion ?_
        refine lv (v := (.bool (decide ((k_8 : Int) < (p0_sizes.length : Int))))) rfl rfl (r_lss (k_8 : Int) (p0_sizes.length : Int) rfl rfl) ?_
        refine lnil ?_
        refine wseq ?_
        refine wcondT (congrArg Value.bool hkb) ?_
        refine wskip ?_
        refine wseq ?_
        refine wblock ?_
        refine wseq ?_
        refine wregion ?_
        refine lv (v := (sptr a0 (Int.toNat (k_8 : Int) * 1))) rfl rfl (r_idx Try.underlying22 Try.sizeOf3 rfl rfl (at?_some hat).1 (at?_some hat).2.1 (h0.addr hat)) ?_
        refine lv (v := (.int .i64 x_13)) rfl rfl (r_ld Try.isAgg3 rfl (h0.atInt hat)) ?_
        refine lv (v := (.int .i64 x_13)) rfl rfl (r_assign rfl) ?_
        refine lnil ?_
        refine wseq ?_
        refine wseq ?_
        refine wregion ?_
        refine lv (v := (.int .i64 x_13)) rfl rfl (r_move rfl) ?_
        refine lv (v := (.int .i64 n_12)) rfl rfl (r_move rfl) ?_
        obtain ⟨h0_15, hm⟩ := chk_some hm
        refine lv (v := (.int .i64 (IntKind.i64.wrap (Int.tdiv 2147483647 n_12)))) rfl rfl (r_quo 2147483647 n_12 rfl rfl h0_15) ?_
        refine lv (v := (.bool (decide ((IntKind.i64.wrap (Int.tdiv 2147483647 n_12)) < x_13)))) rfl rfl (r_gtr x_13 (IntKind.i64.wrap (Int.tdiv 2147483647 n_12)) rfl rfl) ?_
        refine lnil ?_
        refine wcond (decide ((IntKind.i64.wrap (Int.tdiv 2147483647 n_12)) < x_13)) rfl (fun hb => ?_) (fun hb => ?_)
        · rw [if_pos hb] at hm
          clear hb
          refine wseq ?_
          refine wregion ?_
          refine lv (v := (.int .i64 0)) rfl rfl (r_assign rfl) ?_
          refine lv (v := (.int .i64 4)) rfl rfl (r_assign rfl) ?_
          refine lnil ?_
          refine wret ?_
          cases hm
          exact ⟨rfl, rfl, hst.below⟩
        · rw [if_neg (by rw [hb]; decide)] at hm
          clear hb
          refine wskip ?_
          refine wregion ?_
          refine lv (v := (.int .i64 n_12)) rfl rfl (r_move rfl) ?_
          refine lv (v := (.int .i64 x_13)) rfl rfl (r_move rfl) ?_
          refine lv (v := (.int .i64 (IntKind.i64.wrap (n_12 * x_13)))) rfl rfl (r_mul n_12 x_13 rfl rfl) ?_
          refine lv (v := (.int .i64 (IntKind.i64.wrap (n_12 * x_13)))) rfl rfl (r_assign rfl) ?_
          refine lnil ?_
          refine wregion ?_
          refine lv (v := (.int .i64 (IntKind.i64.wrap ((k_8 : Int) + 1)))) rfl rfl (r_add (k_8 : Int) 1 rfl rfl) ?_
          refine lv (v := (.int .i64 (IntKind.i64.wrap ((k_8 : Int) + 1)))) rfl rfl (r_move rfl) ?_
          refine lnil ?_
          exact ⟨l_14.length, by simp, ⟨col_11, (k_8 + 1), (IntKind.i64.wrap (n_12 * x_13)), l_14, rfl, hl2, hm, hst, h0, (congrArg (Value.int .i64) (wrap_succ (Nat.lt_of_lt_of_le hlt h0.1.1))), rfl, rfl, rfl, rfl⟩⟩
  | cons x_6 l_7 =>
    obtain ⟨hat, hl2, hlt⟩ := drop_get hl
    have hk : (k_1 : Int) < (p0_sizes.length : Int) := by omega
    have hkb := decide_eq_true hk
    rw [m_radix_Count_int_L1.eq_2] at hm
    refine wseq ?_
    refine wregion ?_
    refine lv (v := (.bool (decide ((k_1 : Int) < (p0_sizes.length : Int))))) rfl rfl (r_lss (k_1 : Int) (p0_sizes.length : Int) rfl rfl) ?_
    refine lnil ?_
    refine wseq ?_
    refine wcondT (congrArg Value.bool hkb) ?_
    refine wskip ?_
    refine wseq ?_
    refine Wp.cut (fun f w_16 => ∃ (col_17 : Col) (none_18 : Bool), m_radix_Count_int_J1 (m_radix_Count_int_L1 p0_sizes l_7) none_18 = some r ∧ St w0 (col0 col) col_17 w_16 ∧ Sl (Rep.int .i64) col_17 w_16 a0 cap0 p0_sizes ∧ f 0 = (.slice a0 p0_sizes.length cap0) ∧ f 10 = (.slice a0 p0_sizes.length cap0) ∧ f 11 = (.int .i64 (p0_sizes.length : Int)) ∧ f 12 = (.int .i64 (k_1 : Int)) ∧ f 4 = (.bool none_18) ∧ f 1000000 = (enc [])) ?_ ?_
    · intro f w_16 hJ
      obtain ⟨col_17, none_18, hm, hst, h0, hs0, hs10, hs11, hs12, hs4, hs1000000⟩ := hJ
      rw [m_radix_Count_int_J1.eq_1] at hm
      refine .ld (d := 0) (v := (.slice a0 p0_sizes.length cap0)) hs0 ?_
      refine .ld (d := 10) (v := (.slice a0 p0_sizes.length cap0)) hs10 ?_
      refine .ld (d := 11) (v := (.int .i64 (p0_sizes.length : Int))) hs11 ?_
      refine .ld (d := 12) (v := (.int .i64 (k_1 : Int))) hs12 ?_
      refine .ld (d := 4) (v := (.bool none_18)) hs4 ?_
      refine .ld (d := 1000000) (v := (enc [])) hs1000000 ?_
      clear hs0 hs10 hs11 hs12 hs4 hs1000000
      refine wregion ?_
      refine lv (v := (.int .i64 (IntKind.i64.wrap ((k_1 : Int) + 1)))) rfl rfl (r_add (k_1 : Int) 1 rfl rfl) ?_
      refine lv (v := (.int .i64 (IntKind.i64.wrap ((k_1 : Int) + 1)))) rfl rfl (r_move rfl) ?_
      refine lnil ?_
      exact ⟨l_7.length, by simp, ⟨col_17, (k_1 + 1), none_18, l_7, rfl, hl2, hm, hst, h0, (congrArg (Value.int .i64) (wrap_succ (Nat.lt_of_lt_of_le hlt h0.1.1))), rfl, rfl, rfl, rfl, rfl⟩⟩
    · refine wblock ?_
      refine wseq ?_
      refine wregion ?_
      refine lv (v := (sptr a0 (Int.toNat (k_1 : Int) * 1))) rfl rfl (r_idx Try.underlying22 Try.sizeOf3 rfl rfl (at?_some hat).1 (at?_some hat).2.1 (h0.addr hat)) ?_
      refine lv (v := (.int .i64 x_6)) rfl rfl (r_ld Try.isAgg3 rfl (h0.atInt hat)) ?_
      refine lv (v := (.int .i64 x_6)) rfl rfl (r_assign rfl) ?_
      refine lnil ?_
      refine wseq ?_
      refine wseq ?_
      refine wregion ?_
      refine lv (v := (.int .i64 x_6)) rfl rfl (r_move rfl) ?_
      refine lv (v := (.bool (decide (x_6 < 0)))) rfl rfl (r_lss x_6 0 rfl rfl) ?_
      refine lnil ?_
      refine wcond (decide (x_6 < 0)) rfl (fun hb => ?_) (fun hb => ?_)
      · rw [if_pos hb] at hm
        clear hb
        refine wseq ?_
        refine wregion ?_
        refine lv (v := (.int .i64 0)) rfl rfl (r_assign rfl) ?_
        refine lv (v := (.int .i64 3)) rfl rfl (r_assign rfl) ?_
        refine lnil ?_
        refine wret ?_
        cases hm
        exact ⟨rfl, rfl, hst.below⟩
      · rw [if_neg (by rw [hb]; decide)] at hm
        clear hb
        refine wskip ?_
        refine wregion ?_
        refine lv (v := (.bool none_5)) rfl rfl (r_move rfl) ?_
        refine lv (v := (.bool none_5)) rfl rfl (r_move rfl) ?_
        by_cases hg_19 : none_5 = true
        · rw [if_pos hg_19] at hm
          refine lp (b := none_5) 19 rfl rfl rfl rfl (by rw [hg_19]; rfl) ?_
          refine lp (b := none_5) 19 rfl rfl rfl rfl (by rw [hg_19]; rfl) ?_
          refine lv (v := (.bool true)) rfl rfl (r_pickT (congrArg Value.bool hg_19) rfl) ?_
          refine lv (v := (.bool true)) rfl rfl (r_assign rfl) ?_
          refine lnil ?_
          exact ⟨col_4, true, hm, hst, h0, rfl, rfl, rfl, rfl, rfl, rfl⟩
        · rw [if_neg hg_19] at hm
          replace hg_19 := Bool.eq_false_iff.2 hg_19
          refine lg (b := none_5) 19 rfl rfl rfl (by rw [hg_19]; rfl) ?_
          refine lv (v := (.int .i64 x_6)) rfl rfl (r_move rfl) ?_
          refine lg (b := none_5) 19 rfl rfl rfl (by rw [hg_19]; rfl) ?_
          refine lv (v := (.bool (decide (x_6 = 0)))) rfl rfl (r_eql x_6 0 rfl rfl) ?_
          refine lv (v := (.bool (decide (x_6 = 0)))) rfl rfl (r_pickF (congrArg Value.bool hg_19) rfl) ?_
          refine lv (v := (.bool (decide (x_6 = 0)))) rfl rfl (r_assign rfl) ?_
          refine lnil ?_
          exact ⟨col_4, (decide (x_6 = 0)), hm, hst, h0, rfl, rfl, rfl, rfl, rfl, rfl⟩




def m_slices_Backward_int_int_1_L1 (N : Nat) (v0_v : List Int) : Nat → Int → Option (List (Int × Int))
  | 0, _ => none
  | n_1 + 1, i_4 => if (decide (0 ≤ i_4)) = true then ((at? v0_v i_4).bind fun e_5 => ((m_slices_Backward_int_int_1_L1 N v0_v n_1) (IntKind.i64.wrap (i_4 - 1))).bind fun r_7 => some ((i_4, e_5) :: r_7)) else (some [])

def m_slices_Backward_int_int_1 (N : Nat) (v0_v : List Int) : Option (List (Int × Int)) :=
  m_slices_Backward_int_int_1_L1 N v0_v N (IntKind.i64.wrap ((v0_v.length : Int) - 1))

set_option maxRecDepth 100000 in
theorem c_slices_Backward_int_int_1 (N : Nat) (col : Col) (w0 : World) (g0 : Nat) (af0 : Option Addr) (capf0 : Nat) (v0_v : List Int) (hf0 : Sl (Rep.int .i64) col w0 af0 capf0 v0_v) (hb0 : Box 22 450 col w0 g0 #[(.slice af0 v0_v.length capf0)]) (r : List (Int × Int)) (hm : m_slices_Backward_int_int_1 N v0_v = some r) :
    Goes Try.prog 41 [(.pointer (some ⟨g0, 0, none⟩))] (fun (y : Int × Int) (col : Col) (w : World) (args : List Value) => args = [.int .i64 y.1, .int .i64 y.2]) r col w0 := by
  intro l J X hjs hxs hy hst
  refine calls_of0 (m := 19) (args := [.func (.yield l) #[] #[], (.pointer (some ⟨g0, 0, none⟩))]) Try.func41 rfl rfl rfl rfl ?_
  rw [m_slices_Backward_int_int_1.eq_1] at hm
  refine wseq ?_
  refine wregion ?_
  refine lv (v := (.slice af0 v0_v.length capf0)) rfl rfl (r_ld Try.isAgg22 rfl hb0.at1) ?_
  refine lv (v := (.int .i64 (v0_v.length : Int))) rfl rfl (r_len Try.underlying22 rfl) ?_
  refine lv (v := (.int .i64 (IntKind.i64.wrap ((v0_v.length : Int) - 1)))) rfl rfl (r_sub (v0_v.length : Int) 1 rfl rfl) ?_
  refine lv (v := (.int .i64 (IntKind.i64.wrap ((v0_v.length : Int) - 1)))) rfl rfl (r_assign rfl) ?_
  refine lnil ?_
  refine wblock ?_
  refine wloop (fun n f w_2 => ∃ (col_3 : Col) (r : List (Int × Int)) (i_4 : Int) (n_1 : Nat), n_1 = n ∧ m_slices_Backward_int_int_1_L1 N v0_v n_1 i_4 = some r ∧ J r col_3 w_2 ∧ Sl (Rep.int .i64) col_3 w_2 af0 capf0 v0_v ∧ Box 22 450 col_3 w_2 g0 #[(.slice af0 v0_v.length capf0)] ∧ f 0 = (.func (.yield l) #[] #[]) ∧ f 1 = (.pointer (some ⟨g0, 0, none⟩)) ∧ f 3 = (.int .i64 i_4) ∧ f 1000000 = (enc [])) N ⟨col, r, (IntKind.i64.wrap ((v0_v.length : Int) - 1)), N, rfl, hm, hst, hf0, hb0, rfl, rfl, rfl, rfl⟩ ?_
  clear hm; intro n f w_2 hI
  obtain ⟨col_3, r, i_4, n_1, hn, hm, hst, hf0, hb0, hs0, hs1, hs3, hs1000000⟩ := hI
  subst hn
  refine .ld (d := 0) (v := (.func (.yield l) #[] #[])) hs0 ?_
  refine .ld (d := 1) (v := (.pointer (some ⟨g0, 0, none⟩))) hs1 ?_
  refine .ld (d := 3) (v := (.int .i64 i_4)) hs3 ?_
  refine .ld (d := 1000000) (v := (enc [])) hs1000000 ?_
  clear hs0 hs1 hs3 hs1000000
  cases n_1 with
  | zero => rw [m_slices_Backward_int_int_1_L1.eq_1] at hm; cases hm
  | succ n_1 =>
    rw [m_slices_Backward_int_int_1_L1.eq_2] at hm
    refine wseq ?_
    refine wseq ?_
    refine wregion ?_
    refine lv (v := (.int .i64 i_4)) rfl rfl (r_move rfl) ?_
    refine lv (v := (.bool (decide (0 ≤ i_4)))) rfl rfl (r_geq i_4 0 rfl rfl) ?_
    refine lnil ?_
    refine wcond (decide (0 ≤ i_4)) rfl (fun hb => ?_) (fun hb => ?_)
    · rw [if_pos hb] at hm
      clear hb
      refine wskip ?_
      refine wseq ?_
      refine wblock ?_
      refine wseq ?_
      refine wregion ?_
      refine lv (v := (.func (.yield l) #[] #[])) rfl rfl (r_move rfl) ?_
      refine lv (v := (.int .i64 i_4)) rfl rfl (r_move rfl) ?_
      refine lv (v := (.slice af0 v0_v.length capf0)) rfl rfl (r_ld Try.isAgg22 rfl hb0.at1) ?_
      refine lv (v := (.int .i64 i_4)) rfl rfl (r_move rfl) ?_
      obtain ⟨e_5, hj_6, hm⟩ := bind_some hm
      refine lv (v := (sptr af0 (Int.toNat i_4 * 1))) rfl rfl (r_idx Try.underlying22 Try.sizeOf3 rfl rfl (at?_some hj_6).1 (at?_some hj_6).2.1 (hf0.addr hj_6)) ?_
      refine lv (v := (.int .i64 e_5)) rfl rfl (r_ld Try.isAgg3 rfl (hf0.atInt hj_6)) ?_
      obtain ⟨r_7, hc_8m, hc_8⟩ := bind_some hm
      cases hc_8
      have hm := hc_8m
      clear hc_8m
      refine ly2 rfl rfl rfl rfl (hy _ _ _ _ [(.int .i64 i_4), (.int .i64 e_5)] hst rfl) ?_
      rintro _ w_9 ⟨col_10, hk_11, ⟨rfl, hJ⟩ | ⟨rfl, hX⟩⟩
      · refine ⟨_, rfl, ?_⟩
        clear hst
        replace hf0 := hf0.kpp hk_11 rfl
        replace hb0 := hb0.kpp hk_11 rfl
        have hst := hJ
        clear hJ
        refine lv (v := (.bool false)) rfl rfl (r_not true rfl) ?_
        refine lnil ?_
        refine wcondF rfl ?_
        refine wskip ?_
        refine wregion ?_
        refine lv (v := (.int .i64 i_4)) rfl rfl (r_move rfl) ?_
        refine lv (v := (.int .i64 (IntKind.i64.wrap (i_4 - 1)))) rfl rfl (r_sub i_4 1 rfl rfl) ?_
        refine lv (v := (.int .i64 (IntKind.i64.wrap (i_4 - 1)))) rfl rfl (r_assign rfl) ?_
        refine lnil ?_
        exact ⟨n_1, by omega, ⟨col_10, r_7, (IntKind.i64.wrap (i_4 - 1)), n_1, rfl, hm, hst, hf0, hb0, rfl, rfl, rfl, rfl⟩⟩
      · clear hm
        refine ⟨_, rfl, ?_⟩
        clear hst
        replace hf0 := hf0.kpp hk_11 rfl
        replace hb0 := hb0.kpp hk_11 rfl
        have hst := hX
        clear hX
        refine lv (v := (.bool true)) rfl rfl (r_not false rfl) ?_
        refine lnil ?_
        refine wcondT rfl ?_
        refine wret ?_
        exact ⟨rfl, ⟨_, rfl⟩, _, .inr hst⟩
    · rw [if_neg (by rw [hb]; decide)] at hm
      clear hb
      refine wexit (inB_hit ?_)
      cases hm
      exact ⟨rfl, ⟨_, rfl⟩, _, .inl hst⟩




def m_slices_Backward_int_int (N : Nat) (p0_s : (List Int)) : Option (List (Int × Int)) :=
  m_slices_Backward_int_int_1 N p0_s

set_option maxRecDepth 100000 in
theorem c_slices_Backward_int_int (N : Nat) (col : Col) (w0 : World) (a0 : Option Addr) (cap0 : Nat) (p0_s : (List Int)) (h0 : Sl (Rep.int .i64) col w0 a0 cap0 p0_s) (r : (List (Int × Int))) (hm : m_slices_Backward_int_int N p0_s = some r) :
    Calls Try.prog 38 #[(.slice a0 p0_s.length cap0)] w0 (fun e w' => ∃ (col' : Col) (rv1 : Value), e = .returned (rv1) ∧ Grow col w0 col' w' ∧ It Try.prog rv1 (fun (y : Int × Int) (col : Col) (w : World) (args : List Value) => args = [.int .i64 y.1, .int .i64 y.2]) r q0 col' w') := by
  refine calls_of1 2 (m := 4) (args := [(.slice a0 p0_s.length cap0)]) Try.func38 rfl rfl rfl rfl rfl ?_
  rw [m_slices_Backward_int_int.eq_1] at hm
  have hst := St.start col w0
  replace h0 := h0.keep (Stay.start col w0)
  refine wseq ?_
  refine wregion ?_
  refine l_box (col := (col0 col)) (v := (.slice a0 p0_s.length cap0)) 1 rfl rfl ?_
  intro g_1 w_2 col_3 hg_4 hb_5
  replace h0 := h0.gr hg_4
  replace hst := hst.grow hg_4
  replace hb_5 : Box 22 1 col_3 w_2 g_1 #[(.slice a0 p0_s.length cap0)] := hb_5
  refine lv (v := _) rfl rfl (r_assign rfl) ?_
  refine lnil ?_
  refine wseq ?_
  refine wregion ?_
  refine lv (v := (.func (.func 41) #[] #[(.pointer (some ⟨g_1, 0, none⟩))])) rfl rfl (r_func1 rfl) ?_
  refine lv (v := (.func (.func 41) #[] #[(.pointer (some ⟨g_1, 0, none⟩))])) rfl rfl (r_assign rfl) ?_
  refine lnil ?_
  refine wret ?_
  have hb_5f := hst.finBox (G := (fun n => bif Nat.beq n 1 then 450 else 0)) hb_5 (by decide) (by decide) (show (fun n => bif Nat.beq n 1 then 450 else 0) 1 = 450 from rfl)
  have h0f := hst.finSl (g := (fun n => bif Nat.beq n 1 then 450 else 0)) rfl h0
  refine ⟨rfl, colF w0.heap.size col col_3 (fun n => bif Nat.beq n 1 then 450 else 0), _, rfl, hst.fin (fun n => bif Nat.beq n 1 then 450 else 0), 41, [(.pointer (some ⟨g_1, 0, none⟩))], rfl, Try.call41, ?_⟩
  intro col9 w9 hs9 hk9
  replace hb_5f := hb_5f.itk hs9 hk9 rfl
  replace h0f := h0f.itk hs9 hk9 rfl
  exact c_slices_Backward_int_int_1 N col9 w9 g_1 a0 cap0 p0_s h0f hb_5f r hm




def m_radix_digits_int_L1  : List (Int × Int) → Int → (List Int) → Option (List Int)
  | [], at_33, out_34 => some out_34
  | y_38 :: l_39, at_33, out_34 => chk (y_38.2 ≠ 0) ((at? out_34 y_38.1).bind fun e_52 => (some (out_34.set (Int.toNat y_38.1) (Int.tmod at_33 y_38.2))).bind fun xs_60 => chk (y_38.2 ≠ 0) ((m_radix_digits_int_L1 l_39) (IntKind.i64.wrap (Int.tdiv at_33 y_38.2)) xs_60))

def m_radix_digits_int (N : Nat) (p0_sizes : (List Int)) (p1_at : Int) : Option (List Int) :=
  if (decide ((p0_sizes.length : Int) = 0)) = true then (some ([] : List Int)) else (chk (p0_sizes.length * 8 ≤ 281474976710656 ∧ p0_sizes.length ≤ maxLen) ((m_slices_Backward_int_int N p0_sizes).bind fun r_24 => m_radix_digits_int_L1 r_24 p1_at (List.replicate p0_sizes.length (0 : Int))))

set_option maxRecDepth 100000 in
theorem c_radix_digits_int (N : Nat) (c1 : Nat) (col : Col) (w0 : World) (a0 : Option Addr) (cap0 : Nat) (p0_sizes : (List Int)) (p1_at : Int) (h0 : Sl (Rep.int .i64) col w0 a0 cap0 p0_sizes) (r : (List Int)) (hm : m_radix_digits_int N p0_sizes p1_at = some r) :
    Calls Try.prog 29 #[(.slice a0 p0_sizes.length cap0), (.int .i64 p1_at)] w0 (fun e w' => ∃ (col' : Col) (ra1 : Option Addr) (rc2 : Nat), e = .returned ((.slice ra1 r.length rc2)) ∧ Grow col w0 col' w' ∧ Own (Rep.int .i64) 3 c1 col' w' ra1 rc2 r) := by
  refine calls_ofM1 4 (m := 28) (args := [(.slice a0 p0_sizes.length cap0), (.int .i64 p1_at)]) Try.func29 rfl rfl rfl rfl rfl ?_
  rw [m_radix_digits_int.eq_1] at hm
  have hst := St.start col w0
  replace h0 := h0.keep (Stay.start col w0)
  have hmk : Marks (col0 col) w0 [] := .nil
  refine wseq ?_
  refine wregion ?_
  refine l_box (col := (col0 col)) (v := (.int .i64 p1_at)) 1 rfl rfl ?_
  intro g_1 w_2 col_3 hg_4 hb_5
  replace h0 := h0.gr hg_4
  replace hmk := hmk.gr hg_4
  replace hst := hst.grow hg_4
  replace hb_5 : Box 3 1 col_3 w_2 g_1 #[(.int .i64 p1_at)] := hb_5
  refine lv (v := (.slice none (([] : List Int).length) 0)) rfl rfl (r_assign rfl) ?_
  refine lnil ?_
  refine wseq ?_
  refine wseq ?_
  refine wregion ?_
  refine lv (v := (.slice a0 p0_sizes.length cap0)) rfl rfl (r_move rfl) ?_
  refine lv (v := (.int .i64 (p0_sizes.length : Int))) rfl rfl (r_len Try.underlying22 rfl) ?_
  refine lv (v := (.bool (decide ((p0_sizes.length : Int) = 0)))) rfl rfl (r_eql (p0_sizes.length : Int) 0 rfl rfl) ?_
  refine lnil ?_
  refine wcond (decide ((p0_sizes.length : Int) = 0)) rfl (fun hb => ?_) (fun hb => ?_)
  · rw [if_pos hb] at hm
    clear hb
    refine wseq ?_
    refine wregion ?_
    refine lv (v := (.slice none (([] : List Int).length) 0)) rfl rfl (r_assign rfl) ?_
    refine lnil ?_
    refine wret ?_
    cases hm
    refine ⟨_, [], rfl, hmk, ?_⟩
    intro w_6 hk_7 hs_8
    clear hmk
    replace hst := hst.kp hk_7 hs_8 (by decide) (by decide)
    exact ⟨colF w0.heap.size col col_3 (fun n => 0), none, 0, rfl, hst.fin (fun n => 0), Own.nil⟩
  · rw [if_neg (by rw [hb]; decide)] at hm
    clear hb
    refine wskip ?_
    refine wseq ?_
    refine wregion ?_
    refine lv (v := (.slice a0 p0_sizes.length cap0)) rfl rfl (r_move rfl) ?_
    refine lv (v := (.int .i64 (p0_sizes.length : Int))) rfl rfl (r_len Try.underlying22 rfl) ?_
    obtain ⟨hb_9, hm⟩ := chk_some hm
    refine l_make (col := col_3) (w := w_2) (r := (Rep.int .i64)) (n := p0_sizes.length) (x0 := 0) 2 rfl Try.underlying22 Try.t3 rfl rfl rfl rfl rfl rfl rfl hb_9.1 hb_9.2 (rd_int .i64 0) ?_
    intro a_10 w_11 col_12 hg_13 h_14
    replace h0 := h0.gr hg_13
    replace hb_5 := hb_5.gr hg_13
    replace hmk := hmk.gr hg_13
    replace hst := hst.grow hg_13
    refine l_alloc (col := col_12) (v := (.slice none (([] : List Int).length) 0)) 3 rfl Try.zeroValue22 ?_
    intro g_15 w_16 col_17 hg_18 hb_19
    replace h0 := h0.gr hg_18
    replace h_14 := h_14.gr hg_18
    replace hb_5 := hb_5.gr hg_18
    replace hmk := hmk.gr hg_18
    replace hst := hst.grow hg_18
    replace hb_19 : Box 22 3 col_17 w_16 g_15 #[(.slice none (([] : List Int).length) 0)] := hb_19
    refine l_bstore (v := (.slice a_10 ((List.replicate p0_sizes.length (0 : Int)).length) p0_sizes.length)) hb_19 Try.sizeOf22 rfl rfl (by intro u hu; simp only [Value.cells, List.mem_cons, List.not_mem_nil, or_false] at hu; subst hu; rfl) rfl rfl ?_
    intro w_20 hk_21 hs_22 hb_23
    replace h0 := h0.kp hk_21 (by decide)
    replace h_14 := h_14.kp hk_21 (by decide) (by decide)
    replace hb_5 := hb_5.kp hk_21 (by decide)
    replace hmk := hmk.kp hk_21 (by decide)
    replace hst := hst.kp hk_21 hs_22 (by decide) (by decide)
    clear hb_19
    replace hb_23 : Box 22 3 col_17 w_20 g_15 #[(.slice a_10 ((List.replicate p0_sizes.length (0 : Int)).length) p0_sizes.length)] := hb_23
    refine lnil ?_
    refine wseq ?_
    refine wseq ?_
    refine wregion ?_
    refine lv (v := (.slice a0 p0_sizes.length cap0)) rfl rfl (r_move rfl) ?_
    obtain ⟨r_24, hr_25, hm⟩ := bind_some hm
    refine lc rfl rfl (r_call1 Try.call38 rfl) (c_slices_Backward_int_int N col_17 _ a0 cap0 p0_sizes h0 r_24 hr_25) ?_
    rintro _ w_28 ⟨col_30, rv_26, rfl, hg_29, rh_27⟩
    refine ⟨_, rfl, ?_⟩
    replace h_14 := h_14.gr hg_29
    replace h0 := h0.gr hg_29
    replace hb_5 := hb_5.gr hg_29
    replace hb_23 := hb_23.gr hg_29
    replace hmk := hmk.gr hg_29
    replace hst := hst.grow hg_29
    refine lnil ?_
    refine wblock ?_
    refine wrange (psl := [16, 17]) (arr := (fun (y : Int × Int) (col : Col) (w : World) (args : List Value) => args = [.int .i64 y.1, .int .i64 y.2])) (ys := r_24) (col := col_30) 498 rfl rh_27 rfl hmk rfl rfl (by rintro _ _ _ _ rfl; rfl) (fun ys_ col_32 w_31 => ∃ (at_33 : Int) (a_35 : Option Addr) (cap_36 : Nat) (out_34 : List Int), m_radix_digits_int_L1 ys_ at_33 out_34 = some r ∧ St w0 (col0 col) col_32 w_31 ∧ Box 3 1 col_32 w_31 g_1 #[(.int .i64 at_33)] ∧ Own (Rep.int .i64) 3 2 col_32 w_31 a_35 cap_36 out_34 ∧ Box 22 3 col_32 w_31 g_15 #[(.slice a_35 out_34.length cap_36)]) (fun _ _ _ => False) ?_ ?_ ⟨p1_at, a_10, p0_sizes.length, (List.replicate p0_sizes.length (0 : Int)), hm, hst, hb_5, h_14, hb_23⟩ ?_ ?_ ?_
    · intro ys_ col_32 w_31 col2_ w2_ hJ hk
      obtain ⟨at_33, a_35, cap_36, out_34, hm, hst, hb_5, h_37, hb_23⟩ := hJ
      exact ⟨at_33, a_35, cap_36, out_34, hm, hst.kpp hk rfl rfl, hb_5.kpp hk rfl, h_37.kpp hk rfl rfl, hb_23.kpp hk rfl⟩
    · intro _ _ _ _ _ h _
      exact h
    · intro l_44 rc_45 ds_46 y_38 l_39 col_32 w_31 args hJ hrec hmk harr
      obtain ⟨at_33, a_35, cap_36, out_34, hm, hst, hb_5, h_37, hb_23⟩ := hJ
      rw [m_radix_digits_int_L1.eq_2] at hm
      have hki := KeepP.refl pCo col_32 w_31
      subst harr
      refine wseq ?_
      refine wregion ?_
      refine lv (v := (.int .i64 y_38.1)) rfl rfl (r_assign rfl) ?_
      refine lnil ?_
      refine wregion ?_
      refine lv (v := (.int .i64 y_38.2)) rfl rfl (r_assign rfl) ?_
      refine lnil ?_
      refine ⟨_, hrec, ?_⟩
      intro w_47 rc_48 hk_49 hs_50 hrec2
      replace h_37 := h_37.kp hk_49 (by decide) (by decide)
      replace hb_5 := hb_5.kp hk_49 (by decide)
      replace hb_23 := hb_23.kp hk_49 (by decide)
      replace hmk := hmk.kp hk_49 (by decide)
      replace hki := hki.kp hk_49 hs_50 rfl
      replace hst := hst.kp hk_49 hs_50 (by decide) (by decide)
      clear hrec
      have hrec := hrec2
      clear hrec2
      refine wblock ?_
      refine wseq ?_
      refine wmix (col := col_32) [(0, 0), (1, 1), (2, 0), (3, 1), (4, 1), (5, 1), (6, 2)] (by kernel_rfl) (by kernel_rfl) ?_
      refine xv (v := (.slice a_35 out_34.length cap_36)) rfl rfl (fun _ hC => r_ld Try.isAgg22 rfl (hb_23.at1.gr (Grow.of_below (col := col_32) hC.below))) ?_
      refine xu (v := (.int .i64 y_38.1)) rfl rfl (fun _ => r_move rfl) ?_
      refine xv (v := (.int .i64 at_33)) rfl rfl (fun _ hC => r_ld Try.isAgg3 rfl (hb_5.at1.gr (Grow.of_below (col := col_32) hC.below))) ?_
      refine xu (v := (.int .i64 y_38.2)) rfl rfl (fun _ => r_move rfl) ?_
      obtain ⟨h0_51, hm⟩ := chk_some hm
      refine xu (v := (.int .i64 (Int.tmod at_33 y_38.2))) rfl rfl (fun _ => r_rem at_33 y_38.2 rfl rfl h0_51) ?_
      obtain ⟨e_52, hj_53, hm⟩ := bind_some hm
      refine xu (v := (sptr a_35 (Int.toNat y_38.1 * 1))) rfl rfl (fun _ => r_idx Try.underlying22 Try.sizeOf3 rfl rfl (at?_some hj_53).1 (at?_some hj_53).2.1 (h_37.addr hj_53)) ?_
      refine xe rfl rfl ?_
      intro w_54 hC0
      have hC : Grow col_32 w_47 col_32 w_54 := .of_below hC0.below
      replace h_37 := h_37.gr hC
      replace hb_5 := hb_5.gr hC
      replace hb_23 := hb_23.gr hC
      replace hrec := hrec.gr hC
      replace hmk := hmk.gr hC
      replace hki := hki.gr hC
      replace hst := hst.grow hC
      obtain ⟨xs_60, hz_59, hm⟩ := bind_some hm
      have hz_59 : xs_60 = out_34.set (Int.toNat y_38.1) (Int.tmod at_33 y_38.2) := (Option.some.inj hz_59).symm
      refine l_store (x1 := Int.tmod at_33 y_38.2) (v := (.int .i64 (Int.tmod at_33 y_38.2))) h_37 hj_53 rfl Try.sizeOf3 (rd_int .i64 (Int.tmod at_33 y_38.2)) rfl rfl (by decide) ?_
      intro w_55 hk_56 hs_57 h_58
      rw [← hz_59] at h_58
      replace hb_5 := hb_5.kp hk_56 (by decide)
      replace hb_23 := hb_23.kp hk_56 (by decide)
      replace hrec := hrec.kp hk_56 (by decide)
      replace hmk := hmk.kp hk_56 (by decide)
      replace hki := hki.kp hk_56 hs_57 rfl
      replace hst := hst.kp hk_56 hs_57 (by decide) (by decide)
      replace hb_23 : Box 22 3 col_32 w_55 g_15 #[(.slice a_35 xs_60.length cap_36)] := by rw [← (show out_34.length = xs_60.length by rw [hz_59, List.length_set])]; exact hb_23
      clear h_37
      refine lnil ⟨fun w' => Grow col_32 w_55 col_32 w', Grow.refl _ _, fun h => absurd h (by decide), ?_⟩
      refine xnil ?_
      intro w_61 hC
      replace hC : Grow col_32 w_55 col_32 w_61 := .of_below hC.below
      replace h_58 := h_58.gr hC
      replace hb_5 := hb_5.gr hC
      replace hb_23 := hb_23.gr hC
      replace hrec := hrec.gr hC
      replace hmk := hmk.gr hC
      replace hki := hki.gr hC
      replace hst := hst.grow hC
      refine wregion ?_
      refine lv (v := (.int .i64 at_33)) rfl rfl (r_ld Try.isAgg3 rfl hb_5.at1) ?_
      refine lv (v := (.int .i64 y_38.2)) rfl rfl (r_move rfl) ?_
      obtain ⟨h0_62, hm⟩ := chk_some hm
      refine lv (v := (.int .i64 (IntKind.i64.wrap (Int.tdiv at_33 y_38.2)))) rfl rfl (r_quo at_33 y_38.2 rfl rfl h0_62) ?_
      refine l_bstore (v := (.int .i64 (IntKind.i64.wrap (Int.tdiv at_33 y_38.2)))) hb_5 Try.sizeOf3 rfl rfl (by intro u hu; simp only [Value.cells, List.mem_cons, List.not_mem_nil, or_false] at hu; subst hu; rfl) rfl rfl ?_
      intro w_63 hk_64 hs_65 hb_66
      replace h_58 := h_58.kp hk_64 (by decide) (by decide)
      replace hb_23 := hb_23.kp hk_64 (by decide)
      replace hrec := hrec.kp hk_64 (by decide)
      replace hmk := hmk.kp hk_64 (by decide)
      replace hki := hki.kp hk_64 hs_65 rfl
      replace hst := hst.kp hk_64 hs_65 (by decide) (by decide)
      clear hb_5
      replace hb_66 : Box 3 1 col_32 w_63 g_1 #[(.int .i64 (IntKind.i64.wrap (Int.tdiv at_33 y_38.2)))] := hb_66
      refine lnil ?_
      exact ⟨_, hki, ⟨(IntKind.i64.wrap (Int.tdiv at_33 y_38.2)), a_35, cap_36, xs_60, hm, hst, hb_66, h_58, hb_23⟩, hrec, hmk⟩
    · clear hmk
      intro D_40 col_32 w_31 hJ hmk
      obtain ⟨at_33, a_35, cap_36, out_34, hm, hst, hb_5, h_37, hb_23⟩ := hJ
      rw [m_radix_digits_int_L1.eq_1] at hm
      refine wseq ?_
      refine wregion ?_
      refine lv (v := (.slice a_35 out_34.length cap_36)) rfl rfl (r_ld Try.isAgg22 rfl hb_23.at1) ?_
      refine lv (v := (.slice a_35 out_34.length cap_36)) rfl rfl (r_assign rfl) ?_
      refine lnil ?_
      refine wret ?_
      cases hm
      refine ⟨_, (D_40 :: []), rfl, hmk, ?_⟩
      intro w_41 hk_42 hs_43
      clear hmk
      replace h_37 := h_37.kp hk_42 (by decide) (by decide)
      replace hst := hst.kp hk_42 hs_43 (by decide) (by decide)
      exact ⟨colF w0.heap.size col col_32 (fun n => bif Nat.beq n 2 then c1 else 0), a_35, cap_36, rfl, hst.fin (fun n => bif Nat.beq n 2 then c1 else 0), hst.finOwn (g := (fun n => bif Nat.beq n 2 then c1 else 0)) rfl h_37 (by decide) (by decide) rfl⟩
    · intro _ _ _ _ h
      exact h.elim




def m_radix_All_int_1_L1 (N : Nat) (v0_v : Int) (v1_v : List Int) : Nat → Int → Option (List (Int × (List Int)))
  | 0, _ => none
  | n_1 + 1, v_4 => if (decide (v_4 < v0_v)) = true then ((m_radix_digits_int N v1_v v_4).bind fun r_5 => ((m_radix_All_int_1_L1 N v0_v v1_v n_1) (IntKind.i64.wrap (v_4 + 1))).bind fun r_14 => some ((v_4, r_5) :: r_14)) else (some [])

def m_radix_All_int_1 (N : Nat) (v0_v : Int) (v1_v : List Int) : Option (List (Int × (List Int))) :=
  m_radix_All_int_1_L1 N v0_v v1_v N 0

set_option maxRecDepth 100000 in
theorem c_radix_All_int_1 (N : Nat) (cy : Nat) (col : Col) (w0 : World) (g0 : Nat) (v0_v : Int) (hb0 : Box 3 450 col w0 g0 #[(.int .i64 v0_v)]) (g1 : Nat) (af1 : Option Addr) (capf1 : Nat) (v1_v : List Int) (hf1 : Own (Rep.int .i64) 3 450 col w0 af1 capf1 v1_v) (hb1 : Box 22 450 col w0 g1 #[(.slice af1 v1_v.length capf1)]) (r : List (Int × (List Int))) (hm : m_radix_All_int_1 N v0_v v1_v = some r) :
    Goes Try.prog 28 [(.pointer (some ⟨g0, 0, none⟩)), (.pointer (some ⟨g1, 0, none⟩))] (fun (y : Int × (List Int)) (col : Col) (w : World) (args : List Value) => ∃ (a1 : Option Addr) (cap1 : Nat), args = [.int .i64 y.1, .slice a1 y.2.length cap1] ∧ Own (Rep.int .i64) 3 cy col w a1 cap1 y.2) r col w0 := by
  intro l J X hjs hxs hy hst
  refine calls_of0 (m := 17) (args := [.func (.yield l) #[] #[], (.pointer (some ⟨g0, 0, none⟩)), (.pointer (some ⟨g1, 0, none⟩))]) Try.func28 rfl rfl rfl rfl ?_
  rw [m_radix_All_int_1.eq_1] at hm
  refine wseq ?_
  refine wregion ?_
  refine lv (v := (.int .i64 v0_v)) rfl rfl (r_ld Try.isAgg3 rfl hb0.at1) ?_
  refine lv (v := (.int .i64 0)) rfl rfl (r_move rfl) ?_
  refine lnil ?_
  refine wblock ?_
  refine wloop (fun n f w_2 => ∃ (col_3 : Col) (r : List (Int × (List Int))) (v_4 : Int) (n_1 : Nat), n_1 = n ∧ m_radix_All_int_1_L1 N v0_v v1_v n_1 v_4 = some r ∧ J r col_3 w_2 ∧ Own (Rep.int .i64) 3 450 col_3 w_2 af1 capf1 v1_v ∧ Box 22 450 col_3 w_2 g1 #[(.slice af1 v1_v.length capf1)] ∧ Box 3 450 col_3 w_2 g0 #[(.int .i64 v0_v)] ∧ f 0 = (.func (.yield l) #[] #[]) ∧ f 2 = (.pointer (some ⟨g1, 0, none⟩)) ∧ f 5 = (.int .i64 v0_v) ∧ f 6 = (.int .i64 v_4) ∧ f 1000000 = (enc [])) N ⟨col, r, 0, N, rfl, hm, hst, hf1, hb1, hb0, rfl, rfl, rfl, rfl, rfl⟩ ?_
  clear hm; intro n f w_2 hI
  obtain ⟨col_3, r, v_4, n_1, hn, hm, hst, hf1, hb1, hb0, hs0, hs2, hs5, hs6, hs1000000⟩ := hI
  subst hn
  refine .ld (d := 0) (v := (.func (.yield l) #[] #[])) hs0 ?_
  refine .ld (d := 2) (v := (.pointer (some ⟨g1, 0, none⟩))) hs2 ?_
  refine .ld (d := 5) (v := (.int .i64 v0_v)) hs5 ?_
  refine .ld (d := 6) (v := (.int .i64 v_4)) hs6 ?_
  refine .ld (d := 1000000) (v := (enc [])) hs1000000 ?_
  clear hs0 hs2 hs5 hs6 hs1000000
  cases n_1 with
  | zero => rw [m_radix_All_int_1_L1.eq_1] at hm; cases hm
  | succ n_1 =>
    rw [m_radix_All_int_1_L1.eq_2] at hm
    refine wseq ?_
    refine wregion ?_
    refine lv (v := (.bool (decide (v_4 < v0_v)))) rfl rfl (r_lss v_4 v0_v rfl rfl) ?_
    refine lnil ?_
    refine wseq ?_
    refine wcond (decide (v_4 < v0_v)) rfl (fun hb => ?_) (fun hb => ?_)
    · rw [if_pos hb] at hm
      clear hb
      refine wskip ?_
      refine wseq ?_
      refine wblock ?_
      refine wseq ?_
      refine wregion ?_
      refine lv (v := (.int .i64 v_4)) rfl rfl (r_move rfl) ?_
      refine lv (v := (.int .i64 v_4)) rfl rfl (r_assign rfl) ?_
      refine lnil ?_
      refine wseq ?_
      refine wregion ?_
      refine lv (v := (.func (.yield l) #[] #[])) rfl rfl (r_move rfl) ?_
      refine lv (v := (.int .i64 v_4)) rfl rfl (r_move rfl) ?_
      refine lv (v := (.slice af1 v1_v.length capf1)) rfl rfl (r_ld Try.isAgg22 rfl hb1.at1) ?_
      refine lv (v := (.int .i64 v_4)) rfl rfl (r_move rfl) ?_
      obtain ⟨r_5, hr_6, hm⟩ := bind_some hm
      refine lc rfl rfl (r_call2 Try.call29 rfl rfl) (c_radix_digits_int N 501 (frC 450 col_3) _ af1 capf1 v1_v v_4 (hf1.toSlF (Froz.int .i64)) r_5 hr_6) ?_
      rintro _ w_10 ⟨col_12, ra_7, rc_8, rfl, hg_11, rh_9⟩
      refine ⟨_, rfl, ?_⟩
      replace rh_9 := rh_9.thaw (flat_int .i64) hg_11 ((Fz.refl (col := col_3)).froz 450) (by decide)
      replace hg_11 := hg_11.thawR (col := col_3)
      generalize colR w_2.heap.size col_3 col_12 = col_13 at *
      replace hf1 := hf1.gr hg_11
      replace hb1 := hb1.gr hg_11
      replace hb0 := hb0.gr hg_11
      replace hst := hjs _ _ _ _ _ hst hg_11.toP
      replace hf1 := hf1.recol 501 cy (by decide)
      replace rh_9 := rh_9.recolSelf cy (by decide)
      replace hb1 := hb1.recol 501 cy (by decide)
      replace hb0 := hb0.recol 501 cy (by decide)
      replace hst := hjs _ _ _ _ _ hst ((KeepP.refl _ _ _).recol 501 cy rfl)
      obtain ⟨r_14, hc_15m, hc_15⟩ := bind_some hm
      cases hc_15
      have hm := hc_15m
      clear hc_15m
      refine ly2 rfl rfl rfl rfl (hy _ _ _ _ [(.int .i64 v_4), (.slice ra_7 r_5.length rc_8)] hst ⟨ra_7, rc_8, rfl, rh_9⟩) ?_
      rintro _ w_16 ⟨col_17, hk_18, ⟨rfl, hJ⟩ | ⟨rfl, hX⟩⟩
      · refine ⟨_, rfl, ?_⟩
        clear hst
        replace hf1 := hf1.kpp hk_18 rfl rfl
        replace hb1 := hb1.kpp hk_18 rfl
        replace hb0 := hb0.kpp hk_18 rfl
        have hst := hJ
        clear hJ
        refine lv (v := (.bool false)) rfl rfl (r_not true rfl) ?_
        refine lnil ?_
        refine wcondF rfl ?_
        refine wskip ?_
        refine wregion ?_
        refine lv (v := (.int .i64 (IntKind.i64.wrap (v_4 + 1)))) rfl rfl (r_add v_4 1 rfl rfl) ?_
        refine lv (v := (.int .i64 (IntKind.i64.wrap (v_4 + 1)))) rfl rfl (r_move rfl) ?_
        refine lnil ?_
        exact ⟨n_1, by omega, ⟨col_17, r_14, (IntKind.i64.wrap (v_4 + 1)), n_1, rfl, hm, hst, hf1, hb1, hb0, rfl, rfl, rfl, rfl, rfl⟩⟩
      · clear hm
        refine ⟨_, rfl, ?_⟩
        clear hst
        replace hf1 := hf1.kpp hk_18 rfl rfl
        replace hb1 := hb1.kpp hk_18 rfl
        replace hb0 := hb0.kpp hk_18 rfl
        have hst := hX
        clear hX
        refine lv (v := (.bool true)) rfl rfl (r_not false rfl) ?_
        refine lnil ?_
        refine wcondT rfl ?_
        refine wret ?_
        exact ⟨rfl, ⟨_, rfl⟩, _, .inr hst⟩
    · rw [if_neg (by rw [hb]; decide)] at hm
      clear hb
      refine wexit (inB_hit ?_)
      cases hm
      exact ⟨rfl, ⟨_, rfl⟩, _, .inl hst⟩




def m_radix_All_int (N : Nat) (p0_sizes : (List Int)) : Option (List (Int × (List Int))) :=
  (m_slices_Clone_int_int p0_sizes).bind fun r_1 => (m_radix_Count_int r_1).bind fun r_18 => m_radix_All_int_1 N r_18.1 r_1

set_option maxRecDepth 100000 in
theorem c_radix_All_int (N : Nat) (cy : Nat) (col : Col) (w0 : World) (a0 : Option Addr) (cap0 : Nat) (p0_sizes : (List Int)) (h0 : Sl (Rep.int .i64) col w0 a0 cap0 p0_sizes) (r : (List (Int × (List Int)))) (hm : m_radix_All_int N p0_sizes = some r) :
    Calls Try.prog 12 #[(.slice a0 p0_sizes.length cap0)] w0 (fun e w' => ∃ (col' : Col) (rv1 : Value), e = .returned (rv1) ∧ Grow col w0 col' w' ∧ It Try.prog rv1 (fun (y : Int × (List Int)) (col : Col) (w : World) (args : List Value) => ∃ (a1 : Option Addr) (cap1 : Nat), args = [.int .i64 y.1, .slice a1 y.2.length cap1] ∧ Own (Rep.int .i64) 3 cy col w a1 cap1 y.2) r q1 col' w') := by
  refine calls_of1 2 (m := 14) (args := [(.slice a0 p0_sizes.length cap0)]) Try.func12 rfl rfl rfl rfl rfl ?_
  rw [m_radix_All_int.eq_1] at hm
  have hst := St.start col w0
  replace h0 := h0.keep (Stay.start col w0)
  refine wseq ?_
  refine wregion ?_
  refine lv (v := _) rfl rfl (r_assign rfl) ?_
  refine lnil ?_
  refine wseq ?_
  refine wregion ?_
  refine lv (v := (.slice a0 p0_sizes.length cap0)) rfl rfl (r_move rfl) ?_
  obtain ⟨r_1, hr_2, hm⟩ := bind_some hm
  refine lc rfl rfl (r_call1 Try.call26 rfl) (c_slices_Clone_int_int 1 (col0 col) _ a0 cap0 p0_sizes h0 r_1 hr_2) ?_
  rintro _ w_6 ⟨col_8, ra_3, rc_4, rfl, hg_7, rh_5⟩
  refine ⟨_, rfl, ?_⟩
  replace h0 := h0.gr hg_7
  replace hst := hst.grow hg_7
  refine l_alloc (col := col_8) (v := (.slice none (([] : List Int).length) 0)) 2 rfl Try.zeroValue22 ?_
  intro g_9 w_10 col_11 hg_12 hb_13
  replace rh_5 := rh_5.gr hg_12
  replace hst := hst.grow hg_12
  replace hb_13 : Box 22 2 col_11 w_10 g_9 #[(.slice none (([] : List Int).length) 0)] := hb_13
  refine l_bstore (v := (.slice ra_3 r_1.length rc_4)) hb_13 Try.sizeOf22 rfl rfl (by intro u hu; simp only [Value.cells, List.mem_cons, List.not_mem_nil, or_false] at hu; subst hu; rfl) rfl rfl ?_
  intro w_14 hk_15 hs_16 hb_17
  replace rh_5 := rh_5.kp hk_15 (by decide) (by decide)
  replace hst := hst.kp hk_15 hs_16 (by decide) (by decide)
  clear hb_13
  replace hb_17 : Box 22 2 col_11 w_14 g_9 #[(.slice ra_3 r_1.length rc_4)] := hb_17
  refine lnil ?_
  refine wseq ?_
  refine wregion ?_
  refine lv (v := (.slice ra_3 r_1.length rc_4)) rfl rfl (r_ld Try.isAgg22 rfl hb_17.at1) ?_
  obtain ⟨r_18, hr_19, hm⟩ := bind_some hm
  refine lc rfl rfl (r_call1 Try.call27 rfl) (c_radix_Count_int (frC 1 col_11) _ ra_3 rc_4 r_1 (rh_5.toSlF (Froz.int .i64)) r_18 hr_19) ?_
  rintro _ w_20 ⟨rfl, hg_21⟩
  refine ⟨_, rfl, ?_⟩
  replace hg_21 : Grow col_11 w_14 col_11 w_20 := .of_below hg_21
  replace rh_5 := rh_5.gr hg_21
  replace hb_17 := hb_17.gr hg_21
  replace hst := hst.grow hg_21
  refine lv (v := (.tuple #[(.int .i64 r_18.1), (.int .i64 r_18.2)])) rfl rfl (r_move rfl) ?_
  refine lv (v := (.int .i64 r_18.1)) rfl rfl (r_extract rfl rfl) ?_
  refine lv (v := (.int .i64 r_18.2)) rfl rfl (r_extract rfl rfl) ?_
  refine l_alloc (col := col_11) (v := (.int .i64 0)) 3 rfl Try.zeroValue3 ?_
  intro g_22 w_23 col_24 hg_25 hb_26
  replace rh_5 := rh_5.gr hg_25
  replace hb_17 := hb_17.gr hg_25
  replace hst := hst.grow hg_25
  replace hb_26 : Box 3 3 col_24 w_23 g_22 #[(.int .i64 0)] := hb_26
  refine l_bstore (v := (.int .i64 r_18.1)) hb_26 Try.sizeOf3 rfl rfl (by intro u hu; simp only [Value.cells, List.mem_cons, List.not_mem_nil, or_false] at hu; subst hu; rfl) rfl rfl ?_
  intro w_27 hk_28 hs_29 hb_30
  replace rh_5 := rh_5.kp hk_28 (by decide) (by decide)
  replace hb_17 := hb_17.kp hk_28 (by decide)
  replace hst := hst.kp hk_28 hs_29 (by decide) (by decide)
  clear hb_26
  replace hb_30 : Box 3 3 col_24 w_27 g_22 #[(.int .i64 r_18.1)] := hb_30
  refine lv (v := (.int .i64 r_18.2)) rfl rfl (r_assign rfl) ?_
  refine lnil ?_
  refine wseq ?_
  refine wregion ?_
  refine lv (v := (.func (.func 28) #[] #[(.pointer (some ⟨g_22, 0, none⟩)), (.pointer (some ⟨g_9, 0, none⟩))])) rfl rfl (r_func2 rfl rfl) ?_
  refine lv (v := (.func (.func 28) #[] #[(.pointer (some ⟨g_22, 0, none⟩)), (.pointer (some ⟨g_9, 0, none⟩))])) rfl rfl (r_assign rfl) ?_
  refine lnil ?_
  refine wret ?_
  have hb_30f := hst.finBox (G := (fun n => bif Nat.beq n 3 then 450 else bif Nat.beq n 2 then 450 else bif Nat.beq n 1 then 450 else 0)) hb_30 (by decide) (by decide) (show (fun n => bif Nat.beq n 3 then 450 else bif Nat.beq n 2 then 450 else bif Nat.beq n 1 then 450 else 0) 3 = 450 from rfl)
  have hb_17f := hst.finBox (G := (fun n => bif Nat.beq n 3 then 450 else bif Nat.beq n 2 then 450 else bif Nat.beq n 1 then 450 else 0)) hb_17 (by decide) (by decide) (show (fun n => bif Nat.beq n 3 then 450 else bif Nat.beq n 2 then 450 else bif Nat.beq n 1 then 450 else 0) 2 = 450 from rfl)
  have rh_5f := hst.finOwn (g := (fun n => bif Nat.beq n 3 then 450 else bif Nat.beq n 2 then 450 else bif Nat.beq n 1 then 450 else 0)) rfl rh_5 (by decide) (by decide) (show (fun n => bif Nat.beq n 3 then 450 else bif Nat.beq n 2 then 450 else bif Nat.beq n 1 then 450 else 0) 1 = 450 from rfl)
  refine ⟨rfl, colF w0.heap.size col col_24 (fun n => bif Nat.beq n 3 then 450 else bif Nat.beq n 2 then 450 else bif Nat.beq n 1 then 450 else 0), _, rfl, hst.fin (fun n => bif Nat.beq n 3 then 450 else bif Nat.beq n 2 then 450 else bif Nat.beq n 1 then 450 else 0), 28, [(.pointer (some ⟨g_22, 0, none⟩)), (.pointer (some ⟨g_9, 0, none⟩))], rfl, Try.call28, ?_⟩
  intro col9 w9 hs9 hk9
  replace hb_30f := hb_30f.itk hs9 hk9 rfl
  replace hb_17f := hb_17f.itk hs9 hk9 rfl
  replace rh_5f := rh_5f.itk hs9 hk9 rfl (flat_int .i64)
  exact c_radix_All_int_1 N cy col9 w9 g_22 r_18.1 hb_30f g_9 ra_3 rc_4 r_1 rh_5f hb_17f r hm




def m_credencelaw10_kept_int_J1 (i_5 : Int) (kk_L1 : (Int → Option Bool)) : Option Bool :=
  kk_L1 (IntKind.i64.wrap (i_5 + 1))

def m_credencelaw10_kept_int_J2 (i_5 : Int) (kk_L1 : (Int → Option Bool)) (v_25 : Bool) : Option Bool :=
  if v_25 = true then (some false) else (m_credencelaw10_kept_int_J1 i_5 kk_L1)

def m_credencelaw10_kept_int_L1 (N : Nat) (n0 : Nat) (p0_m : (List Int)) (p1_l : (List Int)) : Nat → Int → Option Bool
  | 0, _ => none
  | n_2 + 1, i_5 => if (decide (i_5 < ((p0_m.take (Int.toNat (IntKind.i64.wrap ((p1_l.length : Int) + 5)))).length : Int))) = true then (if (decide (i_5 < (p1_l.length : Int))) = true then ((at? (p0_m.take (Int.toNat (IntKind.i64.wrap ((p1_l.length : Int) + 5)))) i_5).bind fun e_27 => (at? p1_l i_5).bind fun e_29 => if (!decide (e_27 = e_29)) = true then (m_credencelaw10_kept_int_J2 i_5 (m_credencelaw10_kept_int_L1 N n0 p0_m p1_l n_2) true) else (if (decide ((p1_l.length : Int) ≤ i_5)) = true then (m_credencelaw10_kept_int_J2 i_5 (m_credencelaw10_kept_int_L1 N n0 p0_m p1_l n_2) (!decide (e_27 = 77))) else (m_credencelaw10_kept_int_J2 i_5 (m_credencelaw10_kept_int_L1 N n0 p0_m p1_l n_2) false))) else (if (decide ((p1_l.length : Int) ≤ i_5)) = true then ((at? (p0_m.take (Int.toNat (IntKind.i64.wrap ((p1_l.length : Int) + 5)))) i_5).bind fun e_37 => m_credencelaw10_kept_int_J2 i_5 (m_credencelaw10_kept_int_L1 N n0 p0_m p1_l n_2) (!decide (e_37 = 77))) else (m_credencelaw10_kept_int_J2 i_5 (m_credencelaw10_kept_int_L1 N n0 p0_m p1_l n_2) false))) else (some (decide (((p0_m.take n0).length : Int) = (p1_l.length : Int))))

def m_credencelaw10_kept_int (N : Nat) (n0 : Nat) (p0_m : (List Int)) (p1_l : (List Int)) : Option Bool :=
  chk ((0 : Int) ≤ (IntKind.i64.wrap ((p1_l.length : Int) + 5)) ∧ (IntKind.i64.wrap ((p1_l.length : Int) + 5)) ≤ (p0_m.length : Int)) (m_credencelaw10_kept_int_L1 N n0 p0_m p1_l N 0)

set_option maxRecDepth 100000 in
theorem c_credencelaw10_kept_int (N : Nat) (col : Col) (w0 : World) (a0 : Option Addr) (cap0 : Nat) (n0 : Nat) (p0_m : (List Int)) (a1 : Option Addr) (cap1 : Nat) (p1_l : (List Int)) (h0 : Sl (Rep.int .i64) col w0 a0 cap0 p0_m) (h1 : Sl (Rep.int .i64) col w0 a1 cap1 p1_l) (r : Bool) (hm : m_credencelaw10_kept_int N n0 p0_m p1_l = some r) :
    Calls Try.prog 13 #[(.slice a0 ((p0_m.take n0).length) cap0), (.slice a1 p1_l.length cap1)] w0 (fun e w' => e = .returned ((.bool r)) ∧ Below w0.heap.size w0 w') := by
  refine calls_of1 4 (m := 51) (args := [(.slice a0 ((p0_m.take n0).length) cap0), (.slice a1 p1_l.length cap1)]) Try.func13 rfl rfl rfl rfl rfl ?_
  rw [m_credencelaw10_kept_int.eq_1] at hm
  have hst := St.start col w0
  replace h0 := h0.keep (Stay.start col w0)
  replace h1 := h1.keep (Stay.start col w0)
  refine wseq ?_
  refine wregion ?_
  refine lv (v := (.bool false)) rfl rfl (r_assign rfl) ?_
  refine lnil ?_
  refine wseq ?_
  refine wregion ?_
  refine lv (v := (.slice a0 ((p0_m.take n0).length) cap0)) rfl rfl (r_move rfl) ?_
  refine lv (v := (.slice a1 p1_l.length cap1)) rfl rfl (r_move rfl) ?_
  refine lv (v := (.int .i64 (p1_l.length : Int))) rfl rfl (r_len Try.underlying22 rfl) ?_
  refine lv (v := (.int .i64 (IntKind.i64.wrap ((p1_l.length : Int) + 5)))) rfl rfl (r_add (p1_l.length : Int) 5 rfl rfl) ?_
  obtain ⟨hb_1, hm⟩ := chk_some hm
  refine lv (v := .slice a0 (Int.toNat (IntKind.i64.wrap ((p1_l.length : Int) + 5))) cap0) rfl rfl (r_sliceH Try.underlying22 Try.sizeOf3 rfl rfl hb_1.1 (by have := h0.1.2; have := hb_1.2; omega)) ?_
  refine .ld (d := 11) (v := (.slice a0 ((p0_m.take (Int.toNat (IntKind.i64.wrap ((p1_l.length : Int) + 5)))).length) cap0)) (congrArg (fun n => Value.slice a0 n cap0) (List.length_take_of_le (show (Int.toNat (IntKind.i64.wrap ((p1_l.length : Int) + 5))) ≤ p0_m.length by have := hb_1.2; omega)).symm) ?_
  refine lv (v := (.slice a0 ((p0_m.take (Int.toNat (IntKind.i64.wrap ((p1_l.length : Int) + 5)))).length) cap0)) rfl rfl (r_assign rfl) ?_
  refine lnil ?_
  refine wseq ?_
  refine wseq ?_
  refine wregion ?_
  refine lv (v := (.int .i64 0)) rfl rfl (r_assign rfl) ?_
  refine lnil ?_
  refine wblock ?_
  refine wloop (fun n f w_3 => ∃ (col_4 : Col) (i_5 : Int) (n_2 : Nat), n_2 = n ∧ m_credencelaw10_kept_int_L1 N n0 p0_m p1_l n_2 i_5 = some r ∧ St w0 (col0 col) col_4 w_3 ∧ Sl (Rep.int .i64) col_4 w_3 a0 cap0 p0_m ∧ Sl (Rep.int .i64) col_4 w_3 a1 cap1 p1_l ∧ f 0 = (.slice a0 ((p0_m.take n0).length) cap0) ∧ f 1 = (.slice a1 p1_l.length cap1) ∧ f 5 = (.slice a0 ((p0_m.take (Int.toNat (IntKind.i64.wrap ((p1_l.length : Int) + 5)))).length) cap0) ∧ f 6 = (.int .i64 i_5) ∧ f 1000000 = (enc [])) N ⟨(col0 col), 0, N, rfl, hm, hst, h0, h1, rfl, rfl, rfl, rfl, rfl⟩ ?_
  clear hm; intro n f w_3 hI
  obtain ⟨col_4, i_5, n_2, hn, hm, hst, h0, h1, hs0, hs1, hs5, hs6, hs1000000⟩ := hI
  subst hn
  refine .ld (d := 0) (v := (.slice a0 ((p0_m.take n0).length) cap0)) hs0 ?_
  refine .ld (d := 1) (v := (.slice a1 p1_l.length cap1)) hs1 ?_
  refine .ld (d := 5) (v := (.slice a0 ((p0_m.take (Int.toNat (IntKind.i64.wrap ((p1_l.length : Int) + 5)))).length) cap0)) hs5 ?_
  refine .ld (d := 6) (v := (.int .i64 i_5)) hs6 ?_
  refine .ld (d := 1000000) (v := (enc [])) hs1000000 ?_
  clear hs0 hs1 hs5 hs6 hs1000000
  cases n_2 with
  | zero => rw [m_credencelaw10_kept_int_L1.eq_1] at hm; cases hm
  | succ n_2 =>
    rw [m_credencelaw10_kept_int_L1.eq_2] at hm
    refine wseq ?_
    refine wseq ?_
    refine wregion ?_
    refine lv (v := (.int .i64 i_5)) rfl rfl (r_move rfl) ?_
    refine lv (v := (.slice a0 ((p0_m.take (Int.toNat (IntKind.i64.wrap ((p1_l.length : Int) + 5)))).length) cap0)) rfl rfl (r_move rfl) ?_
    refine lv (v := (.int .i64 ((p0_m.take (Int.toNat (IntKind.i64.wrap ((p1_l.length : Int) + 5)))).length : Int))) rfl rfl (r_len Try.underlying22 rfl) ?_
    refine lv (v := (.bool (decide (i_5 < ((p0_m.take (Int.toNat (IntKind.i64.wrap ((p1_l.length : Int) + 5)))).length : Int))))) rfl rfl (r_lss i_5 ((p0_m.take (Int.toNat (IntKind.i64.wrap ((p1_l.length : Int) + 5)))).length : Int) rfl rfl) ?_
    refine lnil ?_
    refine wcond (decide (i_5 < ((p0_m.take (Int.toNat (IntKind.i64.wrap ((p1_l.length : Int) + 5)))).length : Int))) rfl (fun hb => ?_) (fun hb => ?_)
    · rw [if_pos hb] at hm
      clear hb
      refine wskip ?_
      refine wseq ?_
      refine Wp.cut (fun f w_6 => ∃ (col_7 : Col), m_credencelaw10_kept_int_J1 i_5 (m_credencelaw10_kept_int_L1 N n0 p0_m p1_l n_2)  = some r ∧ St w0 (col0 col) col_7 w_6 ∧ Sl (Rep.int .i64) col_7 w_6 a0 cap0 p0_m ∧ Sl (Rep.int .i64) col_7 w_6 a1 cap1 p1_l ∧ f 0 = (.slice a0 ((p0_m.take n0).length) cap0) ∧ f 1 = (.slice a1 p1_l.length cap1) ∧ f 5 = (.slice a0 ((p0_m.take (Int.toNat (IntKind.i64.wrap ((p1_l.length : Int) + 5)))).length) cap0) ∧ f 6 = (.int .i64 i_5) ∧ f 1000000 = (enc [])) ?_ ?_
      · intro f w_6 hJ
        obtain ⟨col_7, hm, hst, h0, h1, hs0, hs1, hs5, hs6, hs1000000⟩ := hJ
        rw [m_credencelaw10_kept_int_J1.eq_1] at hm
        refine .ld (d := 0) (v := (.slice a0 ((p0_m.take n0).length) cap0)) hs0 ?_
        refine .ld (d := 1) (v := (.slice a1 p1_l.length cap1)) hs1 ?_
        refine .ld (d := 5) (v := (.slice a0 ((p0_m.take (Int.toNat (IntKind.i64.wrap ((p1_l.length : Int) + 5)))).length) cap0)) hs5 ?_
        refine .ld (d := 6) (v := (.int .i64 i_5)) hs6 ?_
        refine .ld (d := 1000000) (v := (enc [])) hs1000000 ?_
        clear hs0 hs1 hs5 hs6 hs1000000
        refine wregion ?_
        refine lv (v := (.int .i64 i_5)) rfl rfl (r_move rfl) ?_
        refine lv (v := (.int .i64 (IntKind.i64.wrap (i_5 + 1)))) rfl rfl (r_add i_5 1 rfl rfl) ?_
        refine lv (v := (.int .i64 (IntKind.i64.wrap (i_5 + 1)))) rfl rfl (r_assign rfl) ?_
        refine lnil ?_
        exact ⟨n_2, by omega, ⟨col_7, (IntKind.i64.wrap (i_5 + 1)), n_2, rfl, hm, hst, h0, h1, rfl, rfl, rfl, rfl, rfl⟩⟩
      · refine wblock ?_
        refine wseq ?_
        refine Wp.cut (fun f w_23 => ∃ (col_24 : Col) (v_25 : Bool), m_credencelaw10_kept_int_J2 i_5 (m_credencelaw10_kept_int_L1 N n0 p0_m p1_l n_2) v_25 = some r ∧ St w0 (col0 col) col_24 w_23 ∧ Sl (Rep.int .i64) col_24 w_23 a0 cap0 p0_m ∧ Sl (Rep.int .i64) col_24 w_23 a1 cap1 p1_l ∧ f 0 = (.slice a0 ((p0_m.take n0).length) cap0) ∧ f 1 = (.slice a1 p1_l.length cap1) ∧ f 45 = (.bool v_25) ∧ f 5 = (.slice a0 ((p0_m.take (Int.toNat (IntKind.i64.wrap ((p1_l.length : Int) + 5)))).length) cap0) ∧ f 6 = (.int .i64 i_5) ∧ f 1000000 = (enc [])) ?_ ?_
        · intro f w_23 hJ
          obtain ⟨col_24, v_25, hm, hst, h0, h1, hs0, hs1, hs45, hs5, hs6, hs1000000⟩ := hJ
          rw [m_credencelaw10_kept_int_J2.eq_1] at hm
          refine .ld (d := 0) (v := (.slice a0 ((p0_m.take n0).length) cap0)) hs0 ?_
          refine .ld (d := 1) (v := (.slice a1 p1_l.length cap1)) hs1 ?_
          refine .ld (d := 45) (v := (.bool v_25)) hs45 ?_
          refine .ld (d := 5) (v := (.slice a0 ((p0_m.take (Int.toNat (IntKind.i64.wrap ((p1_l.length : Int) + 5)))).length) cap0)) hs5 ?_
          refine .ld (d := 6) (v := (.int .i64 i_5)) hs6 ?_
          refine .ld (d := 1000000) (v := (enc [])) hs1000000 ?_
          clear hs0 hs1 hs45 hs5 hs6 hs1000000
          refine wcond (v_25) rfl (fun hb => ?_) (fun hb => ?_)
          · rw [if_pos hb] at hm
            clear hb
            refine wseq ?_
            refine wregion ?_
            refine lv (v := (.bool false)) rfl rfl (r_assign rfl) ?_
            refine lnil ?_
            refine wret ?_
            cases hm
            exact ⟨rfl, rfl, hst.below⟩
          · rw [if_neg (by rw [hb]; decide)] at hm
            clear hb
            refine wskip ?_
            exact ⟨col_24, hm, hst, h0, h1, rfl, rfl, rfl, rfl, rfl⟩
        · refine wquiet (col := col_4) (by kernel_rfl) (by kernel_rfl) ?_
          refine qv (v := (.int .i64 i_5)) rfl (fun _ hC => r_move rfl) ?_
          refine qv (v := (.slice a1 p1_l.length cap1)) rfl (fun _ hC => r_move rfl) ?_
          refine qv (v := (.int .i64 (p1_l.length : Int))) rfl (fun _ hC => r_len Try.underlying22 rfl) ?_
          refine qv (v := (.bool (decide (i_5 < (p1_l.length : Int))))) rfl (fun _ hC => r_lss i_5 (p1_l.length : Int) rfl rfl) ?_
          refine qv (v := (.bool (decide (i_5 < (p1_l.length : Int))))) rfl (fun _ hC => r_move rfl) ?_
          by_cases hg_26 : (decide (i_5 < (p1_l.length : Int))) = true
          · rw [if_pos hg_26] at hm
            refine qg (b := decide (i_5 < (p1_l.length : Int))) 22 rfl rfl rfl (by rw [hg_26]; rfl) ?_
            refine qv (v := (.slice a0 ((p0_m.take (Int.toNat (IntKind.i64.wrap ((p1_l.length : Int) + 5)))).length) cap0)) rfl (fun _ hC => r_move rfl) ?_
            refine qg (b := decide (i_5 < (p1_l.length : Int))) 22 rfl rfl rfl (by rw [hg_26]; rfl) ?_
            refine qv (v := (.int .i64 i_5)) rfl (fun _ hC => r_move rfl) ?_
            refine qg (b := decide (i_5 < (p1_l.length : Int))) 22 rfl rfl rfl (by rw [hg_26]; rfl) ?_
            obtain ⟨e_27, hj_28, hm⟩ := bind_some hm
            refine qv (v := (sptr a0 (Int.toNat i_5 * 1))) rfl (fun _ hC => r_idx Try.underlying22 Try.sizeOf3 rfl rfl (at?_some hj_28).1 (at?_some hj_28).2.1 ((h0.take (Int.toNat (IntKind.i64.wrap ((p1_l.length : Int) + 5)))).addr hj_28)) ?_
            refine qg (b := decide (i_5 < (p1_l.length : Int))) 22 rfl rfl rfl (by rw [hg_26]; rfl) ?_
            refine qv (v := (.int .i64 e_27)) rfl (fun _ hC => r_ld Try.isAgg3 rfl (((h0.take (Int.toNat (IntKind.i64.wrap ((p1_l.length : Int) + 5)))).gr (Grow.of_below (col := col_4) hC.below)).atInt hj_28)) ?_
            refine qg (b := decide (i_5 < (p1_l.length : Int))) 22 rfl rfl rfl (by rw [hg_26]; rfl) ?_
            refine qv (v := (.slice a1 p1_l.length cap1)) rfl (fun _ hC => r_move rfl) ?_
            refine qg (b := decide (i_5 < (p1_l.length : Int))) 22 rfl rfl rfl (by rw [hg_26]; rfl) ?_
            refine qv (v := (.int .i64 i_5)) rfl (fun _ hC => r_move rfl) ?_
            refine qg (b := decide (i_5 < (p1_l.length : Int))) 22 rfl rfl rfl (by rw [hg_26]; rfl) ?_
            obtain ⟨e_29, hj_30, hm⟩ := bind_some hm
            refine qv (v := (sptr a1 (Int.toNat i_5 * 1))) rfl (fun _ hC => r_idx Try.underlying22 Try.sizeOf3 rfl rfl (at?_some hj_30).1 (at?_some hj_30).2.1 (h1.addr hj_30)) ?_
            refine qg (b := decide (i_5 < (p1_l.length : Int))) 22 rfl rfl rfl (by rw [hg_26]; rfl) ?_
            refine qv (v := (.int .i64 e_29)) rfl (fun _ hC => r_ld Try.isAgg3 rfl ((h1.gr (Grow.of_below (col := col_4) hC.below)).atInt hj_30)) ?_
            refine qg (b := decide (i_5 < (p1_l.length : Int))) 22 rfl rfl rfl (by rw [hg_26]; rfl) ?_
            refine qv (v := (.bool (!decide (e_27 = e_29)))) rfl (fun _ hC => r_neq e_27 e_29 rfl rfl) ?_
            refine qv (v := (.bool (!decide (e_27 = e_29)))) rfl (fun _ hC => r_pickT (congrArg Value.bool hg_26) rfl) ?_
            refine qv (v := (.bool (!decide (e_27 = e_29)))) rfl (fun _ hC => r_move rfl) ?_
            by_cases hg_31 : (!decide (e_27 = e_29)) = true
            · rw [if_pos hg_31] at hm
              refine qp (b := !decide (e_27 = e_29)) 33 rfl rfl rfl rfl (by rw [hg_31]; rfl) ?_
              refine qp (b := !decide (e_27 = e_29)) 33 rfl rfl rfl rfl (by rw [hg_31]; rfl) ?_
              refine qp (b := !decide (e_27 = e_29)) 33 rfl rfl rfl rfl (by rw [hg_31]; rfl) ?_
              refine qp (b := !decide (e_27 = e_29)) 33 rfl rfl rfl rfl (by rw [hg_31]; rfl) ?_
              refine qp (b := !decide (e_27 = e_29)) 33 rfl rfl rfl rfl (by rw [hg_31]; rfl) ?_
              refine qpU 38 rfl rfl rfl rfl ?_
              refine qpU 38 rfl rfl rfl rfl ?_
              refine qpU 38 rfl rfl rfl rfl ?_
              refine qpU 38 rfl rfl rfl rfl ?_
              refine qpU 38 rfl rfl rfl rfl ?_
              refine qp (b := !decide (e_27 = e_29)) 33 rfl rfl rfl rfl (by rw [hg_31]; rfl) ?_
              refine qv (v := (.bool true)) rfl (fun _ hC => r_pickT (congrArg Value.bool hg_31) rfl) ?_
              refine qnil ?_
              intro w_32 hC
              replace hC : Grow col_4 w_3 col_4 w_32 := .of_below hC.below
              replace h0 := h0.gr hC
              replace h1 := h1.gr hC
              replace hst := hst.grow hC
              exact ⟨col_4, true, hm, hst, h0, h1, rfl, rfl, rfl, rfl, rfl, rfl⟩
            · rw [if_neg hg_31] at hm
              replace hg_31 := Bool.eq_false_iff.2 hg_31
              refine qg (b := !decide (e_27 = e_29)) 33 rfl rfl rfl (by rw [hg_31]; rfl) ?_
              refine qv (v := (.int .i64 i_5)) rfl (fun _ hC => r_move rfl) ?_
              refine qg (b := !decide (e_27 = e_29)) 33 rfl rfl rfl (by rw [hg_31]; rfl) ?_
              refine qv (v := (.slice a1 p1_l.length cap1)) rfl (fun _ hC => r_move rfl) ?_
              refine qg (b := !decide (e_27 = e_29)) 33 rfl rfl rfl (by rw [hg_31]; rfl) ?_
              refine qv (v := (.int .i64 (p1_l.length : Int))) rfl (fun _ hC => r_len Try.underlying22 rfl) ?_
              refine qg (b := !decide (e_27 = e_29)) 33 rfl rfl rfl (by rw [hg_31]; rfl) ?_
              refine qv (v := (.bool (decide ((p1_l.length : Int) ≤ i_5)))) rfl (fun _ hC => r_geq i_5 (p1_l.length : Int) rfl rfl) ?_
              refine qg (b := !decide (e_27 = e_29)) 33 rfl rfl rfl (by rw [hg_31]; rfl) ?_
              refine qv (v := (.bool (decide ((p1_l.length : Int) ≤ i_5)))) rfl (fun _ hC => r_move rfl) ?_
              by_cases hg_33 : (decide ((p1_l.length : Int) ≤ i_5)) = true
              · rw [if_pos hg_33] at hm
                refine qg (b := decide ((p1_l.length : Int) ≤ i_5)) 38 rfl rfl rfl (by rw [hg_33]; rfl) ?_
                refine qv (v := (.slice a0 ((p0_m.take (Int.toNat (IntKind.i64.wrap ((p1_l.length : Int) + 5)))).length) cap0)) rfl (fun _ hC => r_move rfl) ?_
                refine qg (b := decide ((p1_l.length : Int) ≤ i_5)) 38 rfl rfl rfl (by rw [hg_33]; rfl) ?_
                refine qv (v := (.int .i64 i_5)) rfl (fun _ hC => r_move rfl) ?_
                refine qg (b := decide ((p1_l.length : Int) ≤ i_5)) 38 rfl rfl rfl (by rw [hg_33]; rfl) ?_
                refine qv (v := (sptr a0 (Int.toNat i_5 * 1))) rfl (fun _ hC => r_idx Try.underlying22 Try.sizeOf3 rfl rfl (at?_some hj_28).1 (at?_some hj_28).2.1 ((h0.take (Int.toNat (IntKind.i64.wrap ((p1_l.length : Int) + 5)))).addr hj_28)) ?_
                refine qg (b := decide ((p1_l.length : Int) ≤ i_5)) 38 rfl rfl rfl (by rw [hg_33]; rfl) ?_
                refine qv (v := (.int .i64 e_27)) rfl (fun _ hC => r_ld Try.isAgg3 rfl (((h0.take (Int.toNat (IntKind.i64.wrap ((p1_l.length : Int) + 5)))).gr (Grow.of_below (col := col_4) hC.below)).atInt hj_28)) ?_
                refine qg (b := decide ((p1_l.length : Int) ≤ i_5)) 38 rfl rfl rfl (by rw [hg_33]; rfl) ?_
                refine qv (v := (.bool (!decide (e_27 = 77)))) rfl (fun _ hC => r_neq e_27 77 rfl rfl) ?_
                refine qg (b := !decide (e_27 = e_29)) 33 rfl rfl rfl (by rw [hg_31]; rfl) ?_
                refine qv (v := (.bool (!decide (e_27 = 77)))) rfl (fun _ hC => r_pickT (congrArg Value.bool hg_33) rfl) ?_
                refine qv (v := (.bool (!decide (e_27 = 77)))) rfl (fun _ hC => r_pickF (congrArg Value.bool hg_31) rfl) ?_
                refine qnil ?_
                intro w_34 hC
                replace hC : Grow col_4 w_3 col_4 w_34 := .of_below hC.below
                replace h0 := h0.gr hC
                replace h1 := h1.gr hC
                replace hst := hst.grow hC
                exact ⟨col_4, (!decide (e_27 = 77)), hm, hst, h0, h1, rfl, rfl, rfl, rfl, rfl, rfl⟩
              · rw [if_neg hg_33] at hm
                replace hg_33 := Bool.eq_false_iff.2 hg_33
                refine qp (b := decide ((p1_l.length : Int) ≤ i_5)) 38 rfl rfl rfl rfl (by rw [hg_33]; rfl) ?_
                refine qp (b := decide ((p1_l.length : Int) ≤ i_5)) 38 rfl rfl rfl rfl (by rw [hg_33]; rfl) ?_
                refine qp (b := decide ((p1_l.length : Int) ≤ i_5)) 38 rfl rfl rfl rfl (by rw [hg_33]; rfl) ?_
                refine qp (b := decide ((p1_l.length : Int) ≤ i_5)) 38 rfl rfl rfl rfl (by rw [hg_33]; rfl) ?_
                refine qp (b := decide ((p1_l.length : Int) ≤ i_5)) 38 rfl rfl rfl rfl (by rw [hg_33]; rfl) ?_
                refine qg (b := !decide (e_27 = e_29)) 33 rfl rfl rfl (by rw [hg_31]; rfl) ?_
                refine qv (v := (.bool false)) rfl (fun _ hC => r_pickF (congrArg Value.bool hg_33) rfl) ?_
                refine qv (v := (.bool false)) rfl (fun _ hC => r_pickF (congrArg Value.bool hg_31) rfl) ?_
                refine qnil ?_
                intro w_35 hC
                replace hC : Grow col_4 w_3 col_4 w_35 := .of_below hC.below
                replace h0 := h0.gr hC
                replace h1 := h1.gr hC
                replace hst := hst.grow hC
                exact ⟨col_4, false, hm, hst, h0, h1, rfl, rfl, rfl, rfl, rfl, rfl⟩
          · rw [if_neg hg_26] at hm
            replace hg_26 := Bool.eq_false_iff.2 hg_26
            refine qp (b := decide (i_5 < (p1_l.length : Int))) 22 rfl rfl rfl rfl (by rw [hg_26]; rfl) ?_
            refine qp (b := decide (i_5 < (p1_l.length : Int))) 22 rfl rfl rfl rfl (by rw [hg_26]; rfl) ?_
            refine qp (b := decide (i_5 < (p1_l.length : Int))) 22 rfl rfl rfl rfl (by rw [hg_26]; rfl) ?_
            refine qp (b := decide (i_5 < (p1_l.length : Int))) 22 rfl rfl rfl rfl (by rw [hg_26]; rfl) ?_
            refine qp (b := decide (i_5 < (p1_l.length : Int))) 22 rfl rfl rfl rfl (by rw [hg_26]; rfl) ?_
            refine qp (b := decide (i_5 < (p1_l.length : Int))) 22 rfl rfl rfl rfl (by rw [hg_26]; rfl) ?_
            refine qp (b := decide (i_5 < (p1_l.length : Int))) 22 rfl rfl rfl rfl (by rw [hg_26]; rfl) ?_
            refine qp (b := decide (i_5 < (p1_l.length : Int))) 22 rfl rfl rfl rfl (by rw [hg_26]; rfl) ?_
            refine qp (b := decide (i_5 < (p1_l.length : Int))) 22 rfl rfl rfl rfl (by rw [hg_26]; rfl) ?_
            refine qv (v := (.bool false)) rfl (fun _ hC => r_pickF (congrArg Value.bool hg_26) rfl) ?_
            refine qv (v := (.bool false)) rfl (fun _ hC => r_move rfl) ?_
            refine qg (b := false) 33 rfl rfl rfl rfl ?_
            refine qv (v := (.int .i64 i_5)) rfl (fun _ hC => r_move rfl) ?_
            refine qg (b := false) 33 rfl rfl rfl rfl ?_
            refine qv (v := (.slice a1 p1_l.length cap1)) rfl (fun _ hC => r_move rfl) ?_
            refine qg (b := false) 33 rfl rfl rfl rfl ?_
            refine qv (v := (.int .i64 (p1_l.length : Int))) rfl (fun _ hC => r_len Try.underlying22 rfl) ?_
            refine qg (b := false) 33 rfl rfl rfl rfl ?_
            refine qv (v := (.bool (decide ((p1_l.length : Int) ≤ i_5)))) rfl (fun _ hC => r_geq i_5 (p1_l.length : Int) rfl rfl) ?_
            refine qg (b := false) 33 rfl rfl rfl rfl ?_
            refine qv (v := (.bool (decide ((p1_l.length : Int) ≤ i_5)))) rfl (fun _ hC => r_move rfl) ?_
            by_cases hg_36 : (decide ((p1_l.length : Int) ≤ i_5)) = true
            · rw [if_pos hg_36] at hm
              refine qg (b := decide ((p1_l.length : Int) ≤ i_5)) 38 rfl rfl rfl (by rw [hg_36]; rfl) ?_
              refine qv (v := (.slice a0 ((p0_m.take (Int.toNat (IntKind.i64.wrap ((p1_l.length : Int) + 5)))).length) cap0)) rfl (fun _ hC => r_move rfl) ?_
              refine qg (b := decide ((p1_l.length : Int) ≤ i_5)) 38 rfl rfl rfl (by rw [hg_36]; rfl) ?_
              refine qv (v := (.int .i64 i_5)) rfl (fun _ hC => r_move rfl) ?_
              refine qg (b := decide ((p1_l.length : Int) ≤ i_5)) 38 rfl rfl rfl (by rw [hg_36]; rfl) ?_
              obtain ⟨e_37, hj_38, hm⟩ := bind_some hm
              refine qv (v := (sptr a0 (Int.toNat i_5 * 1))) rfl (fun _ hC => r_idx Try.underlying22 Try.sizeOf3 rfl rfl (at?_some hj_38).1 (at?_some hj_38).2.1 ((h0.take (Int.toNat (IntKind.i64.wrap ((p1_l.length : Int) + 5)))).addr hj_38)) ?_
              refine qg (b := decide ((p1_l.length : Int) ≤ i_5)) 38 rfl rfl rfl (by rw [hg_36]; rfl) ?_
              refine qv (v := (.int .i64 e_37)) rfl (fun _ hC => r_ld Try.isAgg3 rfl (((h0.take (Int.toNat (IntKind.i64.wrap ((p1_l.length : Int) + 5)))).gr (Grow.of_below (col := col_4) hC.below)).atInt hj_38)) ?_
              refine qg (b := decide ((p1_l.length : Int) ≤ i_5)) 38 rfl rfl rfl (by rw [hg_36]; rfl) ?_
              refine qv (v := (.bool (!decide (e_37 = 77)))) rfl (fun _ hC => r_neq e_37 77 rfl rfl) ?_
              refine qg (b := false) 33 rfl rfl rfl rfl ?_
              refine qv (v := (.bool (!decide (e_37 = 77)))) rfl (fun _ hC => r_pickT (congrArg Value.bool hg_36) rfl) ?_
              refine qv (v := (.bool (!decide (e_37 = 77)))) rfl (fun _ hC => r_pickF rfl rfl) ?_
              refine qnil ?_
              intro w_39 hC
              replace hC : Grow col_4 w_3 col_4 w_39 := .of_below hC.below
              replace h0 := h0.gr hC
              replace h1 := h1.gr hC
              replace hst := hst.grow hC
              exact ⟨col_4, (!decide (e_37 = 77)), hm, hst, h0, h1, rfl, rfl, rfl, rfl, rfl, rfl⟩
            · rw [if_neg hg_36] at hm
              replace hg_36 := Bool.eq_false_iff.2 hg_36
              refine qp (b := decide ((p1_l.length : Int) ≤ i_5)) 38 rfl rfl rfl rfl (by rw [hg_36]; rfl) ?_
              refine qp (b := decide ((p1_l.length : Int) ≤ i_5)) 38 rfl rfl rfl rfl (by rw [hg_36]; rfl) ?_
              refine qp (b := decide ((p1_l.length : Int) ≤ i_5)) 38 rfl rfl rfl rfl (by rw [hg_36]; rfl) ?_
              refine qp (b := decide ((p1_l.length : Int) ≤ i_5)) 38 rfl rfl rfl rfl (by rw [hg_36]; rfl) ?_
              refine qp (b := decide ((p1_l.length : Int) ≤ i_5)) 38 rfl rfl rfl rfl (by rw [hg_36]; rfl) ?_
              refine qg (b := false) 33 rfl rfl rfl rfl ?_
              refine qv (v := (.bool false)) rfl (fun _ hC => r_pickF (congrArg Value.bool hg_36) rfl) ?_
              refine qv (v := (.bool false)) rfl (fun _ hC => r_pickF rfl rfl) ?_
              refine qnil ?_
              intro w_40 hC
              replace hC : Grow col_4 w_3 col_4 w_40 := .of_below hC.below
              replace h0 := h0.gr hC
              replace h1 := h1.gr hC
              replace hst := hst.grow hC
              exact ⟨col_4, false, hm, hst, h0, h1, rfl, rfl, rfl, rfl, rfl, rfl⟩
    · rw [if_neg (by rw [hb]; decide)] at hm
      clear hb
      refine wexit (inB_hit ?_)
      refine wseq ?_
      refine wregion ?_
      refine lv (v := (.slice a0 ((p0_m.take n0).length) cap0)) rfl rfl (r_move rfl) ?_
      refine lv (v := (.int .i64 ((p0_m.take n0).length : Int))) rfl rfl (r_len Try.underlying22 rfl) ?_
      refine lv (v := (.slice a1 p1_l.length cap1)) rfl rfl (r_move rfl) ?_
      refine lv (v := (.int .i64 (p1_l.length : Int))) rfl rfl (r_len Try.underlying22 rfl) ?_
      refine lv (v := (.bool (decide (((p0_m.take n0).length : Int) = (p1_l.length : Int))))) rfl rfl (r_eql ((p0_m.take n0).length : Int) (p1_l.length : Int) rfl rfl) ?_
      refine lv (v := (.bool (decide (((p0_m.take n0).length : Int) = (p1_l.length : Int))))) rfl rfl (r_assign rfl) ?_
      refine lnil ?_
      refine wret ?_
      cases hm
      exact ⟨rfl, rfl, hst.below⟩




def m_credenceref10_Digits_L1 (N : Nat) (p0_sizes : (List Int)) : Nat → Int → (List Int) → Int → Option ((List Int) × Int)
  | 0, _, _, _ => none
  | n_15 + 1, at_18, out_19, i_23 => if (decide (0 ≤ i_23)) = true then ((at? p0_sizes i_23).bind fun e_24 => chk (e_24 ≠ 0) ((at? out_19 i_23).bind fun e_27 => (some (out_19.set (Int.toNat i_23) (Int.tmod at_18 e_24))).bind fun xs_34 => chk (e_24 ≠ 0) ((m_credenceref10_Digits_L1 N p0_sizes n_15) (IntKind.i64.wrap (Int.tdiv at_18 e_24)) xs_34 (IntKind.i64.wrap (i_23 - 1))))) else (some (out_19, 0))

def m_credenceref10_Digits_J1 (N : Nat) (p0_sizes : (List Int)) (p1_at : Int) (v_8 : Bool) : Option ((List Int) × Int) :=
  if v_8 = true then (some (([] : List Int), 3)) else (chk (p0_sizes.length * 8 ≤ 281474976710656 ∧ p0_sizes.length ≤ maxLen) (m_credenceref10_Digits_L1 N p0_sizes N p1_at (List.replicate p0_sizes.length (0 : Int)) (IntKind.i64.wrap ((p0_sizes.length : Int) - 1))))

def m_credenceref10_Digits (N : Nat) (p0_sizes : (List Int)) (p1_at : Int) : Option ((List Int) × Int) :=
  (m_credenceref10_Count N p0_sizes).bind fun r_1 => if (!decide (r_1.2 = 0)) = true then (some (([] : List Int), r_1.2)) else (if (decide (p1_at < 0)) = true then (m_credenceref10_Digits_J1 N p0_sizes p1_at true) else (m_credenceref10_Digits_J1 N p0_sizes p1_at (decide (r_1.1 ≤ p1_at))))

set_option maxRecDepth 100000 in
theorem c_credenceref10_Digits (N : Nat) (c1 : Nat) (col : Col) (w0 : World) (a0 : Option Addr) (cap0 : Nat) (p0_sizes : (List Int)) (p1_at : Int) (h0 : Sl (Rep.int .i64) col w0 a0 cap0 p0_sizes) (r : ((List Int) × Int)) (hm : m_credenceref10_Digits N p0_sizes p1_at = some r) :
    Calls Try.prog 14 #[(.slice a0 p0_sizes.length cap0), (.int .i64 p1_at)] w0 (fun e w' => ∃ (col' : Col) (ra1 : Option Addr) (rc2 : Nat), e = .returned (.tuple #[(.slice ra1 r.1.length rc2), (.int .i64 r.2)]) ∧ Grow col w0 col' w' ∧ Own (Rep.int .i64) 3 c1 col' w' ra1 rc2 r.1) := by
  refine calls_of2 4 5 (m := 51) (args := [(.slice a0 p0_sizes.length cap0), (.int .i64 p1_at)]) Try.func14 rfl rfl rfl rfl rfl ?_
  rw [m_credenceref10_Digits.eq_1] at hm
  have hst := St.start col w0
  replace h0 := h0.keep (Stay.start col w0)
  refine wseq ?_
  refine wregion ?_
  refine lv (v := (.slice none (([] : List Int).length) 0)) rfl rfl (r_assign rfl) ?_
  refine lv (v := (.int .i64 0)) rfl rfl (r_assign rfl) ?_
  refine lnil ?_
  refine wseq ?_
  refine wregion ?_
  refine lv (v := (.slice a0 p0_sizes.length cap0)) rfl rfl (r_move rfl) ?_
  obtain ⟨r_1, hr_2, hm⟩ := bind_some hm
  refine lc rfl rfl (r_call1 Try.call11 rfl) (c_credenceref10_Count N (col0 col) _ a0 cap0 p0_sizes h0 r_1 hr_2) ?_
  rintro _ w_3 ⟨rfl, hg_4⟩
  refine ⟨_, rfl, ?_⟩
  replace hg_4 : Grow (col0 col) w0 (col0 col) w_3 := .of_below hg_4
  replace h0 := h0.gr hg_4
  replace hst := hst.grow hg_4
  refine lv (v := (.tuple #[(.int .i64 r_1.1), (.int .i64 r_1.2)])) rfl rfl (r_move rfl) ?_
  refine lv (v := (.int .i64 r_1.1)) rfl rfl (r_extract rfl rfl) ?_
  refine lv (v := (.int .i64 r_1.2)) rfl rfl (r_extract rfl rfl) ?_
  refine lv (v := (.int .i64 r_1.1)) rfl rfl (r_assign rfl) ?_
  refine lv (v := (.int .i64 r_1.2)) rfl rfl (r_assign rfl) ?_
  refine lnil ?_
  refine wseq ?_
  refine wseq ?_
  refine wregion ?_
  refine lv (v := (.int .i64 r_1.2)) rfl rfl (r_move rfl) ?_
  refine lv (v := (.bool (!decide (r_1.2 = 0)))) rfl rfl (r_neq r_1.2 0 rfl rfl) ?_
  refine lnil ?_
  refine wcond (!decide (r_1.2 = 0)) rfl (fun hb => ?_) (fun hb => ?_)
  · rw [if_pos hb] at hm
    clear hb
    refine wseq ?_
    refine wregion ?_
    refine lv (v := (.int .i64 r_1.2)) rfl rfl (r_move rfl) ?_
    refine lv (v := (.slice none (([] : List Int).length) 0)) rfl rfl (r_assign rfl) ?_
    refine lv (v := (.int .i64 r_1.2)) rfl rfl (r_assign rfl) ?_
    refine lnil ?_
    refine wret ?_
    cases hm
    exact ⟨rfl, colF w0.heap.size col (col0 col) (fun n => 0), none, 0, rfl, hst.fin (fun n => 0), Own.nil⟩
  · rw [if_neg (by rw [hb]; decide)] at hm
    clear hb
    refine wskip ?_
    refine wseq ?_
    refine wseq ?_
    refine Wp.cut (fun f w_6 => ∃ (col_7 : Col) (v_8 : Bool), m_credenceref10_Digits_J1 N p0_sizes p1_at v_8 = some r ∧ St w0 (col0 col) col_7 w_6 ∧ Sl (Rep.int .i64) col_7 w_6 a0 cap0 p0_sizes ∧ f 0 = (.slice a0 p0_sizes.length cap0) ∧ f 1 = (.int .i64 p1_at) ∧ f 24 = (.bool v_8) ∧ f 1000000 = (enc [])) ?_ ?_
    · intro f w_6 hJ
      obtain ⟨col_7, v_8, hm, hst, h0, hs0, hs1, hs24, hs1000000⟩ := hJ
      rw [m_credenceref10_Digits_J1.eq_1] at hm
      refine .ld (d := 0) (v := (.slice a0 p0_sizes.length cap0)) hs0 ?_
      refine .ld (d := 1) (v := (.int .i64 p1_at)) hs1 ?_
      refine .ld (d := 24) (v := (.bool v_8)) hs24 ?_
      refine .ld (d := 1000000) (v := (enc [])) hs1000000 ?_
      clear hs0 hs1 hs24 hs1000000
      refine wcond (v_8) rfl (fun hb => ?_) (fun hb => ?_)
      · rw [if_pos hb] at hm
        clear hb
        refine wseq ?_
        refine wregion ?_
        refine lv (v := (.slice none (([] : List Int).length) 0)) rfl rfl (r_assign rfl) ?_
        refine lv (v := (.int .i64 3)) rfl rfl (r_assign rfl) ?_
        refine lnil ?_
        refine wret ?_
        cases hm
        exact ⟨rfl, colF w0.heap.size col col_7 (fun n => 0), none, 0, rfl, hst.fin (fun n => 0), Own.nil⟩
      · rw [if_neg (by rw [hb]; decide)] at hm
        clear hb
        refine wskip ?_
        refine wseq ?_
        refine wregion ?_
        refine lv (v := (.slice a0 p0_sizes.length cap0)) rfl rfl (r_move rfl) ?_
        refine lv (v := (.int .i64 (p0_sizes.length : Int))) rfl rfl (r_len Try.underlying22 rfl) ?_
        obtain ⟨hb_9, hm⟩ := chk_some hm
        refine l_make (col := col_7) (w := w_6) (r := (Rep.int .i64)) (n := p0_sizes.length) (x0 := 0) 1 rfl Try.underlying22 Try.t3 rfl rfl rfl rfl rfl rfl rfl hb_9.1 hb_9.2 (rd_int .i64 0) ?_
        intro a_10 w_11 col_12 hg_13 h_14
        replace h0 := h0.gr hg_13
        replace hst := hst.grow hg_13
        refine lv (v := (.slice a_10 ((List.replicate p0_sizes.length (0 : Int)).length) p0_sizes.length)) rfl rfl (r_assign rfl) ?_
        refine lnil ?_
        refine wseq ?_
        refine wseq ?_
        refine wregion ?_
        refine lv (v := (.slice a0 p0_sizes.length cap0)) rfl rfl (r_move rfl) ?_
        refine lv (v := (.int .i64 (p0_sizes.length : Int))) rfl rfl (r_len Try.underlying22 rfl) ?_
        refine lv (v := (.int .i64 (IntKind.i64.wrap ((p0_sizes.length : Int) - 1)))) rfl rfl (r_sub (p0_sizes.length : Int) 1 rfl rfl) ?_
        refine lv (v := (.int .i64 (IntKind.i64.wrap ((p0_sizes.length : Int) - 1)))) rfl rfl (r_assign rfl) ?_
        refine lnil ?_
        refine wblock ?_
        refine wloop (fun n f w_16 => ∃ (col_17 : Col) (at_18 : Int) (a_20 : Option Addr) (cap_21 : Nat) (out_19 : List Int) (i_23 : Int) (n_15 : Nat), n_15 = n ∧ m_credenceref10_Digits_L1 N p0_sizes n_15 at_18 out_19 i_23 = some r ∧ St w0 (col0 col) col_17 w_16 ∧ Sl (Rep.int .i64) col_17 w_16 a0 cap0 p0_sizes ∧ Own (Rep.int .i64) 3 1 col_17 w_16 a_20 cap_21 out_19 ∧ f 0 = (.slice a0 p0_sizes.length cap0) ∧ f 1 = (.int .i64 at_18) ∧ f 8 = (.slice a_20 out_19.length cap_21) ∧ f 9 = (.int .i64 i_23) ∧ f 1000000 = (enc [])) N ⟨col_12, p1_at, a_10, p0_sizes.length, (List.replicate p0_sizes.length (0 : Int)), (IntKind.i64.wrap ((p0_sizes.length : Int) - 1)), N, rfl, hm, hst, h0, h_14, rfl, rfl, rfl, rfl, rfl⟩ ?_
        clear hm; intro n f w_16 hI
        obtain ⟨col_17, at_18, a_20, cap_21, out_19, i_23, n_15, hn, hm, hst, h0, h_22, hs0, hs1, hs8, hs9, hs1000000⟩ := hI
        subst hn
        refine .ld (d := 0) (v := (.slice a0 p0_sizes.length cap0)) hs0 ?_
        refine .ld (d := 1) (v := (.int .i64 at_18)) hs1 ?_
        refine .ld (d := 8) (v := (.slice a_20 out_19.length cap_21)) hs8 ?_
        refine .ld (d := 9) (v := (.int .i64 i_23)) hs9 ?_
        refine .ld (d := 1000000) (v := (enc [])) hs1000000 ?_
        clear hs0 hs1 hs8 hs9 hs1000000
        cases n_15 with
        | zero => rw [m_credenceref10_Digits_L1.eq_1] at hm; cases hm
        | succ n_15 =>
          rw [m_credenceref10_Digits_L1.eq_2] at hm
          refine wseq ?_
          refine wseq ?_
          refine wregion ?_
          refine lv (v := (.int .i64 i_23)) rfl rfl (r_move rfl) ?_
          refine lv (v := (.bool (decide (0 ≤ i_23)))) rfl rfl (r_geq i_23 0 rfl rfl) ?_
          refine lnil ?_
          refine wcond (decide (0 ≤ i_23)) rfl (fun hb => ?_) (fun hb => ?_)
          · rw [if_pos hb] at hm
            clear hb
            refine wskip ?_
            refine wseq ?_
            refine wblock ?_
            refine wseq ?_
            refine wregion ?_
            refine lv (v := (.slice a_20 out_19.length cap_21)) rfl rfl (r_move rfl) ?_
            refine lv (v := (.int .i64 i_23)) rfl rfl (r_move rfl) ?_
            refine lv (v := (.int .i64 at_18)) rfl rfl (r_move rfl) ?_
            refine lv (v := (.slice a0 p0_sizes.length cap0)) rfl rfl (r_move rfl) ?_
            refine lv (v := (.int .i64 i_23)) rfl rfl (r_move rfl) ?_
            obtain ⟨e_24, hj_25, hm⟩ := bind_some hm
            refine lv (v := (sptr a0 (Int.toNat i_23 * 1))) rfl rfl (r_idx Try.underlying22 Try.sizeOf3 rfl rfl (at?_some hj_25).1 (at?_some hj_25).2.1 (h0.addr hj_25)) ?_
            refine lv (v := (.int .i64 e_24)) rfl rfl (r_ld Try.isAgg3 rfl (h0.atInt hj_25)) ?_
            obtain ⟨h0_26, hm⟩ := chk_some hm
            refine lv (v := (.int .i64 (Int.tmod at_18 e_24))) rfl rfl (r_rem at_18 e_24 rfl rfl h0_26) ?_
            obtain ⟨e_27, hj_28, hm⟩ := bind_some hm
            refine lv (v := (sptr a_20 (Int.toNat i_23 * 1))) rfl rfl (r_idx Try.underlying22 Try.sizeOf3 rfl rfl (at?_some hj_28).1 (at?_some hj_28).2.1 (h_22.addr hj_28)) ?_
            obtain ⟨xs_34, hz_33, hm⟩ := bind_some hm
            have hz_33 : xs_34 = out_19.set (Int.toNat i_23) (Int.tmod at_18 e_24) := (Option.some.inj hz_33).symm
            refine l_store (x1 := Int.tmod at_18 e_24) (v := (.int .i64 (Int.tmod at_18 e_24))) h_22 hj_28 rfl Try.sizeOf3 (rd_int .i64 (Int.tmod at_18 e_24)) rfl rfl (by decide) ?_
            intro w_29 hk_30 hs_31 h_32
            rw [← hz_33] at h_32
            replace h0 := h0.kp hk_30 (by decide)
            replace hst := hst.kp hk_30 hs_31 (by decide) (by decide)
            refine .ld (d := 8) (v := (.slice a_20 xs_34.length cap_21)) (congrArg (fun n => Value.slice a_20 n cap_21) (show out_19.length = xs_34.length by rw [hz_33, List.length_set])) ?_
            clear h_22
            refine lnil ?_
            refine wregion ?_
            refine lv (v := (.int .i64 at_18)) rfl rfl (r_move rfl) ?_
            refine lv (v := (.slice a0 p0_sizes.length cap0)) rfl rfl (r_move rfl) ?_
            refine lv (v := (.int .i64 i_23)) rfl rfl (r_move rfl) ?_
            refine lv (v := (sptr a0 (Int.toNat i_23 * 1))) rfl rfl (r_idx Try.underlying22 Try.sizeOf3 rfl rfl (at?_some hj_25).1 (at?_some hj_25).2.1 (h0.addr hj_25)) ?_
            refine lv (v := (.int .i64 e_24)) rfl rfl (r_ld Try.isAgg3 rfl (h0.atInt hj_25)) ?_
            obtain ⟨h0_35, hm⟩ := chk_some hm
            refine lv (v := (.int .i64 (IntKind.i64.wrap (Int.tdiv at_18 e_24)))) rfl rfl (r_quo at_18 e_24 rfl rfl h0_35) ?_
            refine lv (v := (.int .i64 (IntKind.i64.wrap (Int.tdiv at_18 e_24)))) rfl rfl (r_assign rfl) ?_
            refine lnil ?_
            refine wregion ?_
            refine lv (v := (.int .i64 i_23)) rfl rfl (r_move rfl) ?_
            refine lv (v := (.int .i64 (IntKind.i64.wrap (i_23 - 1)))) rfl rfl (r_sub i_23 1 rfl rfl) ?_
            refine lv (v := (.int .i64 (IntKind.i64.wrap (i_23 - 1)))) rfl rfl (r_assign rfl) ?_
            refine lnil ?_
            exact ⟨n_15, by omega, ⟨col_17, (IntKind.i64.wrap (Int.tdiv at_18 e_24)), a_20, cap_21, xs_34, (IntKind.i64.wrap (i_23 - 1)), n_15, rfl, hm, hst, h0, h_32, rfl, rfl, rfl, rfl, rfl⟩⟩
          · rw [if_neg (by rw [hb]; decide)] at hm
            clear hb
            refine wexit (inB_hit ?_)
            refine wseq ?_
            refine wregion ?_
            refine lv (v := (.slice a_20 out_19.length cap_21)) rfl rfl (r_move rfl) ?_
            refine lv (v := (.slice a_20 out_19.length cap_21)) rfl rfl (r_assign rfl) ?_
            refine lv (v := (.int .i64 0)) rfl rfl (r_assign rfl) ?_
            refine lnil ?_
            refine wret ?_
            cases hm
            exact ⟨rfl, colF w0.heap.size col col_17 (fun n => bif Nat.beq n 1 then c1 else 0), a_20, cap_21, rfl, hst.fin (fun n => bif Nat.beq n 1 then c1 else 0), hst.finOwn (g := (fun n => bif Nat.beq n 1 then c1 else 0)) rfl h_22 (by decide) (by decide) rfl⟩
    · refine wregion ?_
      refine lv (v := (.int .i64 p1_at)) rfl rfl (r_move rfl) ?_
      refine lv (v := (.bool (decide (p1_at < 0)))) rfl rfl (r_lss p1_at 0 rfl rfl) ?_
      refine lv (v := (.bool (decide (p1_at < 0)))) rfl rfl (r_move rfl) ?_
      by_cases hg_36 : (decide (p1_at < 0)) = true
      · rw [if_pos hg_36] at hm
        refine lp (b := decide (p1_at < 0)) 20 rfl rfl rfl rfl (by rw [hg_36]; rfl) ?_
        refine lp (b := decide (p1_at < 0)) 20 rfl rfl rfl rfl (by rw [hg_36]; rfl) ?_
        refine lp (b := decide (p1_at < 0)) 20 rfl rfl rfl rfl (by rw [hg_36]; rfl) ?_
        refine lv (v := (.bool true)) rfl rfl (r_pickT (congrArg Value.bool hg_36) rfl) ?_
        refine lnil ?_
        exact ⟨(col0 col), true, hm, hst, h0, rfl, rfl, rfl, rfl⟩
      · rw [if_neg hg_36] at hm
        replace hg_36 := Bool.eq_false_iff.2 hg_36
        refine lg (b := decide (p1_at < 0)) 20 rfl rfl rfl (by rw [hg_36]; rfl) ?_
        refine lv (v := (.int .i64 p1_at)) rfl rfl (r_move rfl) ?_
        refine lg (b := decide (p1_at < 0)) 20 rfl rfl rfl (by rw [hg_36]; rfl) ?_
        refine lv (v := (.int .i64 r_1.1)) rfl rfl (r_move rfl) ?_
        refine lg (b := decide (p1_at < 0)) 20 rfl rfl rfl (by rw [hg_36]; rfl) ?_
        refine lv (v := (.bool (decide (r_1.1 ≤ p1_at)))) rfl rfl (r_geq p1_at r_1.1 rfl rfl) ?_
        refine lv (v := (.bool (decide (r_1.1 ≤ p1_at)))) rfl rfl (r_pickF (congrArg Value.bool hg_36) rfl) ?_
        refine lnil ?_
        exact ⟨(col0 col), (decide (r_1.1 ≤ p1_at)), hm, hst, h0, rfl, rfl, rfl, rfl⟩




def m_credencelaw10_same_int_L1 (N : Nat) (p0_l : (List Int)) (p1_want : (List Int)) : Nat → Int → Option Bool
  | 0, _ => none
  | n_1 + 1, i_4 => if (decide (i_4 < (p0_l.length : Int))) = true then ((at? p0_l i_4).bind fun e_5 => (at? p1_want i_4).bind fun e_7 => if (!decide (e_5 = e_7)) = true then (some false) else ((m_credencelaw10_same_int_L1 N p0_l p1_want n_1) (IntKind.i64.wrap (i_4 + 1)))) else (some true)

def m_credencelaw10_same_int (N : Nat) (p0_l : (List Int)) (p1_want : (List Int)) : Option Bool :=
  if (!decide ((p0_l.length : Int) = (p1_want.length : Int))) = true then (some false) else (m_credencelaw10_same_int_L1 N p0_l p1_want N 0)

set_option maxRecDepth 100000 in
theorem c_credencelaw10_same_int (N : Nat) (col : Col) (w0 : World) (a0 : Option Addr) (cap0 : Nat) (p0_l : (List Int)) (a1 : Option Addr) (cap1 : Nat) (p1_want : (List Int)) (h0 : Sl (Rep.int .i64) col w0 a0 cap0 p0_l) (h1 : Sl (Rep.int .i64) col w0 a1 cap1 p1_want) (r : Bool) (hm : m_credencelaw10_same_int N p0_l p1_want = some r) :
    Calls Try.prog 15 #[(.slice a0 p0_l.length cap0), (.slice a1 p1_want.length cap1)] w0 (fun e w' => e = .returned ((.bool r)) ∧ Below w0.heap.size w0 w') := by
  refine calls_of1 4 (m := 26) (args := [(.slice a0 p0_l.length cap0), (.slice a1 p1_want.length cap1)]) Try.func15 rfl rfl rfl rfl rfl ?_
  rw [m_credencelaw10_same_int.eq_1] at hm
  have hst := St.start col w0
  replace h0 := h0.keep (Stay.start col w0)
  replace h1 := h1.keep (Stay.start col w0)
  refine wseq ?_
  refine wregion ?_
  refine lv (v := (.bool false)) rfl rfl (r_assign rfl) ?_
  refine lnil ?_
  refine wseq ?_
  refine wseq ?_
  refine wregion ?_
  refine lv (v := (.slice a0 p0_l.length cap0)) rfl rfl (r_move rfl) ?_
  refine lv (v := (.int .i64 (p0_l.length : Int))) rfl rfl (r_len Try.underlying22 rfl) ?_
  refine lv (v := (.slice a1 p1_want.length cap1)) rfl rfl (r_move rfl) ?_
  refine lv (v := (.int .i64 (p1_want.length : Int))) rfl rfl (r_len Try.underlying22 rfl) ?_
  refine lv (v := (.bool (!decide ((p0_l.length : Int) = (p1_want.length : Int))))) rfl rfl (r_neq (p0_l.length : Int) (p1_want.length : Int) rfl rfl) ?_
  refine lnil ?_
  refine wcond (!decide ((p0_l.length : Int) = (p1_want.length : Int))) rfl (fun hb => ?_) (fun hb => ?_)
  · rw [if_pos hb] at hm
    clear hb
    refine wseq ?_
    refine wregion ?_
    refine lv (v := (.bool false)) rfl rfl (r_assign rfl) ?_
    refine lnil ?_
    refine wret ?_
    cases hm
    exact ⟨rfl, rfl, hst.below⟩
  · rw [if_neg (by rw [hb]; decide)] at hm
    clear hb
    refine wskip ?_
    refine wseq ?_
    refine wseq ?_
    refine wregion ?_
    refine lv (v := (.int .i64 0)) rfl rfl (r_assign rfl) ?_
    refine lnil ?_
    refine wblock ?_
    refine wloop (fun n f w_2 => ∃ (col_3 : Col) (i_4 : Int) (n_1 : Nat), n_1 = n ∧ m_credencelaw10_same_int_L1 N p0_l p1_want n_1 i_4 = some r ∧ St w0 (col0 col) col_3 w_2 ∧ Sl (Rep.int .i64) col_3 w_2 a0 cap0 p0_l ∧ Sl (Rep.int .i64) col_3 w_2 a1 cap1 p1_want ∧ f 0 = (.slice a0 p0_l.length cap0) ∧ f 1 = (.slice a1 p1_want.length cap1) ∧ f 5 = (.int .i64 i_4) ∧ f 1000000 = (enc [])) N ⟨(col0 col), 0, N, rfl, hm, hst, h0, h1, rfl, rfl, rfl, rfl⟩ ?_
    clear hm; intro n f w_2 hI
    obtain ⟨col_3, i_4, n_1, hn, hm, hst, h0, h1, hs0, hs1, hs5, hs1000000⟩ := hI
    subst hn
    refine .ld (d := 0) (v := (.slice a0 p0_l.length cap0)) hs0 ?_
    refine .ld (d := 1) (v := (.slice a1 p1_want.length cap1)) hs1 ?_
    refine .ld (d := 5) (v := (.int .i64 i_4)) hs5 ?_
    refine .ld (d := 1000000) (v := (enc [])) hs1000000 ?_
    clear hs0 hs1 hs5 hs1000000
    cases n_1 with
    | zero => rw [m_credencelaw10_same_int_L1.eq_1] at hm; cases hm
    | succ n_1 =>
      rw [m_credencelaw10_same_int_L1.eq_2] at hm
      refine wseq ?_
      refine wseq ?_
      refine wregion ?_
      refine lv (v := (.int .i64 i_4)) rfl rfl (r_move rfl) ?_
      refine lv (v := (.slice a0 p0_l.length cap0)) rfl rfl (r_move rfl) ?_
      refine lv (v := (.int .i64 (p0_l.length : Int))) rfl rfl (r_len Try.underlying22 rfl) ?_
      refine lv (v := (.bool (decide (i_4 < (p0_l.length : Int))))) rfl rfl (r_lss i_4 (p0_l.length : Int) rfl rfl) ?_
      refine lnil ?_
      refine wcond (decide (i_4 < (p0_l.length : Int))) rfl (fun hb => ?_) (fun hb => ?_)
      · rw [if_pos hb] at hm
        clear hb
        refine wskip ?_
        refine wseq ?_
        refine wblock ?_
        refine wseq ?_
        refine wquiet (col := col_3) (by kernel_rfl) (by kernel_rfl) ?_
        refine qv (v := (.slice a0 p0_l.length cap0)) rfl (fun _ hC => r_move rfl) ?_
        refine qv (v := (.int .i64 i_4)) rfl (fun _ hC => r_move rfl) ?_
        obtain ⟨e_5, hj_6, hm⟩ := bind_some hm
        refine qv (v := (sptr a0 (Int.toNat i_4 * 1))) rfl (fun _ hC => r_idx Try.underlying22 Try.sizeOf3 rfl rfl (at?_some hj_6).1 (at?_some hj_6).2.1 (h0.addr hj_6)) ?_
        refine qv (v := (.int .i64 e_5)) rfl (fun _ hC => r_ld Try.isAgg3 rfl ((h0.gr (Grow.of_below (col := col_3) hC.below)).atInt hj_6)) ?_
        refine qv (v := (.slice a1 p1_want.length cap1)) rfl (fun _ hC => r_move rfl) ?_
        refine qv (v := (.int .i64 i_4)) rfl (fun _ hC => r_move rfl) ?_
        obtain ⟨e_7, hj_8, hm⟩ := bind_some hm
        refine qv (v := (sptr a1 (Int.toNat i_4 * 1))) rfl (fun _ hC => r_idx Try.underlying22 Try.sizeOf3 rfl rfl (at?_some hj_8).1 (at?_some hj_8).2.1 (h1.addr hj_8)) ?_
        refine qv (v := (.int .i64 e_7)) rfl (fun _ hC => r_ld Try.isAgg3 rfl ((h1.gr (Grow.of_below (col := col_3) hC.below)).atInt hj_8)) ?_
        refine qv (v := (.bool (!decide (e_5 = e_7)))) rfl (fun _ hC => r_neq e_5 e_7 rfl rfl) ?_
        refine qnil ?_
        intro w_9 hC
        replace hC : Grow col_3 w_2 col_3 w_9 := .of_below hC.below
        replace h0 := h0.gr hC
        replace h1 := h1.gr hC
        replace hst := hst.grow hC
        refine wcond (!decide (e_5 = e_7)) rfl (fun hb => ?_) (fun hb => ?_)
        · rw [if_pos hb] at hm
          clear hb
          refine wseq ?_
          refine wregion ?_
          refine lv (v := (.bool false)) rfl rfl (r_assign rfl) ?_
          refine lnil ?_
          refine wret ?_
          cases hm
          exact ⟨rfl, rfl, hst.below⟩
        · rw [if_neg (by rw [hb]; decide)] at hm
          clear hb
          refine wskip ?_
          refine wregion ?_
          refine lv (v := (.int .i64 i_4)) rfl rfl (r_move rfl) ?_
          refine lv (v := (.int .i64 (IntKind.i64.wrap (i_4 + 1)))) rfl rfl (r_add i_4 1 rfl rfl) ?_
          refine lv (v := (.int .i64 (IntKind.i64.wrap (i_4 + 1)))) rfl rfl (r_assign rfl) ?_
          refine lnil ?_
          exact ⟨n_1, by omega, ⟨col_3, (IntKind.i64.wrap (i_4 + 1)), n_1, rfl, hm, hst, h0, h1, rfl, rfl, rfl, rfl⟩⟩
      · rw [if_neg (by rw [hb]; decide)] at hm
        clear hb
        refine wexit (inB_hit ?_)
        refine wseq ?_
        refine wregion ?_
        refine lv (v := (.bool true)) rfl rfl (r_assign rfl) ?_
        refine lnil ?_
        refine wret ?_
        cases hm
        exact ⟨rfl, rfl, hst.below⟩


end Go.Proofs.Ytjnkbkbllcfoaaa
