/-
  What functions of the program compute, as plain Lean functions (m_..), and proofs that they compute it (c_..). Printed by a program of the author; no conditions.
-/
import Derived.Test.YtgggjmmljagkmaaCell
import Derived.Test.YtgggjmmljagkmaaProg
import Derived.Test.YtgggjmmljagkmaaDagSaysF2
set_option linter.unusedVariables false
namespace Go.Proofs.Ytgggjmmljagkmaa
open Go Go.RowKit



def m_credenceref14_Order (N : Nat) (p0_parents : (List (List Int))) : Option ((List Int) × Int) :=
  (m_credenceref14_Check N p0_parents).bind fun r_1 => if (!decide (r_1 = 0)) = true then (some (([] : List Int), r_1)) else ((m_credenceref14_out N p0_parents).bind fun r_5 => some (r_5, 0))

set_option maxRecDepth 100000 in
theorem c_credenceref14_Order (N : Nat) (c1 : Nat) (col : Col) (w0 : World) (a0 : Option Addr) (cap0 : Nat) (p0_parents : (List (List Int))) (h0 : Sl (Rep.slice (Rep.int .i64)) col w0 a0 cap0 p0_parents) (r : ((List Int) × Int)) (hm : m_credenceref14_Order N p0_parents = some r) :
    Calls Try.prog 42 #[(.slice a0 p0_parents.length cap0)] w0 (fun e w' => ∃ (col' : Col) (ra1 : Option Addr) (rc2 : Nat), e = .returned (.tuple #[(.slice ra1 r.1.length rc2), (.int .i64 r.2)]) ∧ Grow col w0 col' w' ∧ Own (Rep.int .i64) 3 c1 col' w' ra1 rc2 r.1) := by
  refine calls_of2 2 3 (m := 12) (args := [(.slice a0 p0_parents.length cap0)]) Try.func42 rfl rfl rfl rfl rfl ?_
  rw [m_credenceref14_Order.eq_1] at hm
  have hst := St.start col w0
  replace h0 := h0.keep (Stay.start col w0)
  refine wseq ?_
  refine wregion ?_
  refine lv (v := (.slice none (([] : List Int).length) 0)) rfl rfl (r_assign rfl) ?_
  refine lv (v := (.int .i64 0)) rfl rfl (r_assign rfl) ?_
  refine lnil ?_
  refine wseq ?_
  refine wregion ?_
  refine lv (v := (.slice a0 p0_parents.length cap0)) rfl rfl (r_move rfl) ?_
  obtain ⟨r_1, hr_2, hm⟩ := bind_some hm
  refine lc rfl rfl (r_call1 Try.call22 rfl) (c_credenceref14_Check N (col0 col) _ a0 cap0 p0_parents h0 r_1 hr_2) ?_
  rintro _ w_3 ⟨rfl, hg_4⟩
  refine ⟨_, rfl, ?_⟩
  replace hg_4 : Grow (col0 col) w0 (col0 col) w_3 := .of_below hg_4
  replace h0 := h0.gr hg_4
  replace hst := hst.grow hg_4
  refine lv (v := (.int .i64 r_1)) rfl rfl (r_assign rfl) ?_
  refine lnil ?_
  refine wseq ?_
  refine wseq ?_
  refine wregion ?_
  refine lv (v := (.int .i64 r_1)) rfl rfl (r_move rfl) ?_
  refine lv (v := (.bool (!decide (r_1 = 0)))) rfl rfl (r_neq r_1 0 rfl rfl) ?_
  refine lnil ?_
  refine wcond (!decide (r_1 = 0)) rfl (fun hb => ?_) (fun hb => ?_)
  · rw [if_pos hb] at hm
    clear hb
    refine wseq ?_
    refine wregion ?_
    refine lv (v := (.int .i64 r_1)) rfl rfl (r_move rfl) ?_
    refine lv (v := (.slice none (([] : List Int).length) 0)) rfl rfl (r_assign rfl) ?_
    refine lv (v := (.int .i64 r_1)) rfl rfl (r_assign rfl) ?_
    refine lnil ?_
    refine wret ?_
    cases hm
    exact ⟨rfl, colF w0.heap.size col (col0 col) (fun n => 0), none, 0, rfl, hst.fin (fun n => 0), Own.nil⟩
  · rw [if_neg (by rw [hb]; decide)] at hm
    clear hb
    refine wskip ?_
    refine wseq ?_
    refine wregion ?_
    refine lv (v := (.slice a0 p0_parents.length cap0)) rfl rfl (r_move rfl) ?_
    obtain ⟨r_5, hr_6, hm⟩ := bind_some hm
    refine lc rfl rfl (r_call1 Try.call37 rfl) (c_credenceref14_out N 1 (col0 col) _ a0 cap0 p0_parents h0 r_5 hr_6) ?_
    rintro _ w_10 ⟨col_12, ra_7, rc_8, rfl, hg_11, rh_9⟩
    refine ⟨_, rfl, ?_⟩
    replace h0 := h0.gr hg_11
    replace hst := hst.grow hg_11
    refine lv (v := (.slice ra_7 r_5.length rc_8)) rfl rfl (r_assign rfl) ?_
    refine lv (v := (.int .i64 0)) rfl rfl (r_assign rfl) ?_
    refine lnil ?_
    refine wret ?_
    cases hm
    exact ⟨rfl, colF w0.heap.size col col_12 (fun n => bif Nat.beq n 1 then c1 else 0), ra_7, rc_8, rfl, hst.fin (fun n => bif Nat.beq n 1 then c1 else 0), hst.finOwn (g := (fun n => bif Nat.beq n 1 then c1 else 0)) rfl rh_9 (by decide) (by decide) rfl⟩




def m_credenceref14_Above (N : Nat) (p0_parents : (List (List Int))) (p1_points : (List Int)) : Option ((List Int) × Int) :=
  (m_credenceref14_Check N p0_parents).bind fun r_1 => if (!decide (r_1 = 0)) = true then (some (([] : List Int), r_1)) else ((m_credenceref14_closed N p0_parents p1_points).bind fun r_5 => some (r_5.1, r_5.2))

set_option maxRecDepth 100000 in
theorem c_credenceref14_Above (N : Nat) (c1 : Nat) (col : Col) (w0 : World) (a0 : Option Addr) (cap0 : Nat) (p0_parents : (List (List Int))) (a1 : Option Addr) (cap1 : Nat) (p1_points : (List Int)) (h0 : Sl (Rep.slice (Rep.int .i64)) col w0 a0 cap0 p0_parents) (h1 : Sl (Rep.int .i64) col w0 a1 cap1 p1_points) (r : ((List Int) × Int)) (hm : m_credenceref14_Above N p0_parents p1_points = some r) :
    Calls Try.prog 43 #[(.slice a0 p0_parents.length cap0), (.slice a1 p1_points.length cap1)] w0 (fun e w' => ∃ (col' : Col) (ra1 : Option Addr) (rc2 : Nat), e = .returned (.tuple #[(.slice ra1 r.1.length rc2), (.int .i64 r.2)]) ∧ Grow col w0 col' w' ∧ Own (Rep.int .i64) 3 c1 col' w' ra1 rc2 r.1) := by
  refine calls_of2 4 5 (m := 17) (args := [(.slice a0 p0_parents.length cap0), (.slice a1 p1_points.length cap1)]) Try.func43 rfl rfl rfl rfl rfl ?_
  rw [m_credenceref14_Above.eq_1] at hm
  have hst := St.start col w0
  replace h0 := h0.keep (Stay.start col w0)
  replace h1 := h1.keep (Stay.start col w0)
  refine wseq ?_
  refine wregion ?_
  refine lv (v := (.slice none (([] : List Int).length) 0)) rfl rfl (r_assign rfl) ?_
  refine lv (v := (.int .i64 0)) rfl rfl (r_assign rfl) ?_
  refine lnil ?_
  refine wseq ?_
  refine wregion ?_
  refine lv (v := (.slice a0 p0_parents.length cap0)) rfl rfl (r_move rfl) ?_
  obtain ⟨r_1, hr_2, hm⟩ := bind_some hm
  refine lc rfl rfl (r_call1 Try.call22 rfl) (c_credenceref14_Check N (col0 col) _ a0 cap0 p0_parents h0 r_1 hr_2) ?_
  rintro _ w_3 ⟨rfl, hg_4⟩
  refine ⟨_, rfl, ?_⟩
  replace hg_4 : Grow (col0 col) w0 (col0 col) w_3 := .of_below hg_4
  replace h0 := h0.gr hg_4
  replace h1 := h1.gr hg_4
  replace hst := hst.grow hg_4
  refine lv (v := (.int .i64 r_1)) rfl rfl (r_assign rfl) ?_
  refine lnil ?_
  refine wseq ?_
  refine wseq ?_
  refine wregion ?_
  refine lv (v := (.int .i64 r_1)) rfl rfl (r_move rfl) ?_
  refine lv (v := (.bool (!decide (r_1 = 0)))) rfl rfl (r_neq r_1 0 rfl rfl) ?_
  refine lnil ?_
  refine wcond (!decide (r_1 = 0)) rfl (fun hb => ?_) (fun hb => ?_)
  · rw [if_pos hb] at hm
    clear hb
    refine wseq ?_
    refine wregion ?_
    refine lv (v := (.int .i64 r_1)) rfl rfl (r_move rfl) ?_
    refine lv (v := (.slice none (([] : List Int).length) 0)) rfl rfl (r_assign rfl) ?_
    refine lv (v := (.int .i64 r_1)) rfl rfl (r_assign rfl) ?_
    refine lnil ?_
    refine wret ?_
    cases hm
    exact ⟨rfl, colF w0.heap.size col (col0 col) (fun n => 0), none, 0, rfl, hst.fin (fun n => 0), Own.nil⟩
  · rw [if_neg (by rw [hb]; decide)] at hm
    clear hb
    refine wskip ?_
    refine wseq ?_
    refine wregion ?_
    refine lv (v := (.slice a0 p0_parents.length cap0)) rfl rfl (r_move rfl) ?_
    refine lv (v := (.slice a1 p1_points.length cap1)) rfl rfl (r_move rfl) ?_
    obtain ⟨r_5, hr_6, hm⟩ := bind_some hm
    refine lc rfl rfl (r_call2 Try.call50 rfl rfl) (c_credenceref14_closed N 1 (col0 col) _ a0 cap0 p0_parents a1 cap1 p1_points h0 h1 r_5 hr_6) ?_
    rintro _ w_10 ⟨col_12, ra_7, rc_8, rfl, hg_11, rh_9⟩
    refine ⟨_, rfl, ?_⟩
    replace h0 := h0.gr hg_11
    replace h1 := h1.gr hg_11
    replace hst := hst.grow hg_11
    refine lv (v := (.slice ra_7 r_5.1.length rc_8)) rfl rfl (r_extract rfl rfl) ?_
    refine lv (v := (.int .i64 r_5.2)) rfl rfl (r_extract rfl rfl) ?_
    refine lv (v := (.slice ra_7 r_5.1.length rc_8)) rfl rfl (r_assign rfl) ?_
    refine lv (v := (.int .i64 r_5.2)) rfl rfl (r_assign rfl) ?_
    refine lnil ?_
    refine wret ?_
    cases hm
    exact ⟨rfl, colF w0.heap.size col col_12 (fun n => bif Nat.beq n 1 then c1 else 0), ra_7, rc_8, rfl, hst.fin (fun n => bif Nat.beq n 1 then c1 else 0), hst.finOwn (g := (fun n => bif Nat.beq n 1 then c1 else 0)) rfl rh_9 (by decide) (by decide) rfl⟩



theorem el3_45 : ElemOk Try.prog 3 1 8 := ⟨Try.t3, _, rfl, rfl, rfl, rfl, rfl⟩
theorem el31_45 : ElemOk Try.prog 31 1 24 := ⟨Try.t31, _, rfl, rfl, rfl, rfl, rfl⟩

def m_credenceref14_Children_J1 (i_20 : Int) (kk_L2 : ((List Int) → Int → Option ((List (List Int)) × Int))) (c_23 : List Int) : Option ((List (List Int)) × Int) :=
  kk_L2 c_23 (IntKind.i64.wrap (i_20 + 1))

def m_credenceref14_Children_L2 (N : Nat) (p0_parents : (List (List Int))) (l_8 : List (List Int)) (p_12 : Int) (kk_L1 : ((List (List Int)) → Int → Option ((List (List Int)) × Int))) : Nat → (List Int) → Int → Option ((List (List Int)) × Int)
  | 0, _, _ => none
  | n_13 + 1, c_16, i_20 => if (decide (i_20 < (p0_parents.length : Int))) = true then ((at? p0_parents i_20).bind fun e_27 => (m_credenceref14_Has N e_27 p_12).bind fun r_34 => if r_34 = true then (chk ((c_16.length + [i_20].length) * 8 ≤ 140737488355328 ∧ c_16.length + [i_20].length ≤ maxLen) (m_credenceref14_Children_J1 i_20 (m_credenceref14_Children_L2 N p0_parents l_8 p_12 kk_L1 n_13) (c_16 ++ [i_20]))) else (m_credenceref14_Children_J1 i_20 (m_credenceref14_Children_L2 N p0_parents l_8 p_12 kk_L1 n_13) c_16)) else (chk ((l_8.length + [c_16].length) * 24 ≤ 140737488355328 ∧ l_8.length + [c_16].length ≤ maxLen) (kk_L1 (l_8 ++ [c_16]) (IntKind.i64.wrap (p_12 + 1))))

def m_credenceref14_Children_L1 (N : Nat) (p0_parents : (List (List Int))) : Nat → (List (List Int)) → Int → Option ((List (List Int)) × Int)
  | 0, _, _ => none
  | n_5 + 1, l_8, p_12 => if (decide (p_12 < (p0_parents.length : Int))) = true then (m_credenceref14_Children_L2 N p0_parents l_8 p_12 (m_credenceref14_Children_L1 N p0_parents n_5) N ([] : List Int) 0) else (some (l_8, 0))

def m_credenceref14_Children (N : Nat) (p0_parents : (List (List Int))) : Option ((List (List Int)) × Int) :=
  (m_credenceref14_Check N p0_parents).bind fun r_1 => if (!decide (r_1 = 0)) = true then (some (([] : List (List Int)), r_1)) else (m_credenceref14_Children_L1 N p0_parents N ([] : List (List Int)) 0)

set_option maxRecDepth 100000 in
theorem c_credenceref14_Children (N : Nat) (c1 : Nat) (col : Col) (w0 : World) (a0 : Option Addr) (cap0 : Nat) (p0_parents : (List (List Int))) (h0 : Sl (Rep.slice (Rep.int .i64)) col w0 a0 cap0 p0_parents) (r : ((List (List Int)) × Int)) (hm : m_credenceref14_Children N p0_parents = some r) :
    Calls Try.prog 45 #[(.slice a0 p0_parents.length cap0)] w0 (fun e w' => ∃ (col' : Col) (ra1 : Option Addr) (rc2 : Nat), e = .returned (.tuple #[(.slice ra1 r.1.length rc2), (.int .i64 r.2)]) ∧ Grow col w0 col' w' ∧ Own (Rep.row 3 (Rep.int .i64)) 31 c1 col' w' ra1 rc2 r.1) := by
  refine calls_of2 2 3 (m := 41) (args := [(.slice a0 p0_parents.length cap0)]) Try.func45 rfl rfl rfl rfl rfl ?_
  rw [m_credenceref14_Children.eq_1] at hm
  have hst := St.start col w0
  replace h0 := h0.keep (Stay.start col w0)
  refine wseq ?_
  refine wregion ?_
  refine lv (v := (.slice none (([] : List (List Int)).length) 0)) rfl rfl (r_assign rfl) ?_
  refine lv (v := (.int .i64 0)) rfl rfl (r_assign rfl) ?_
  refine lnil ?_
  refine wseq ?_
  refine wregion ?_
  refine lv (v := (.slice a0 p0_parents.length cap0)) rfl rfl (r_move rfl) ?_
  obtain ⟨r_1, hr_2, hm⟩ := bind_some hm
  refine lc rfl rfl (r_call1 Try.call22 rfl) (c_credenceref14_Check N (col0 col) _ a0 cap0 p0_parents h0 r_1 hr_2) ?_
  rintro _ w_3 ⟨rfl, hg_4⟩
  refine ⟨_, rfl, ?_⟩
  replace hg_4 : Grow (col0 col) w0 (col0 col) w_3 := .of_below hg_4
  replace h0 := h0.gr hg_4
  replace hst := hst.grow hg_4
  refine lv (v := (.int .i64 r_1)) rfl rfl (r_assign rfl) ?_
  refine lnil ?_
  refine wseq ?_
  refine wseq ?_
  refine wregion ?_
  refine lv (v := (.int .i64 r_1)) rfl rfl (r_move rfl) ?_
  refine lv (v := (.bool (!decide (r_1 = 0)))) rfl rfl (r_neq r_1 0 rfl rfl) ?_
  refine lnil ?_
  refine wcond (!decide (r_1 = 0)) rfl (fun hb => ?_) (fun hb => ?_)
  · rw [if_pos hb] at hm
    clear hb
    refine wseq ?_
    refine wregion ?_
    refine lv (v := (.int .i64 r_1)) rfl rfl (r_move rfl) ?_
    refine lv (v := (.slice none (([] : List (List Int)).length) 0)) rfl rfl (r_assign rfl) ?_
    refine lv (v := (.int .i64 r_1)) rfl rfl (r_assign rfl) ?_
    refine lnil ?_
    refine wret ?_
    cases hm
    exact ⟨rfl, colF w0.heap.size col (col0 col) (fun n => 0), none, 0, rfl, hst.fin (fun n => 0), Own.nil⟩
  · rw [if_neg (by rw [hb]; decide)] at hm
    clear hb
    refine wskip ?_
    refine wseq ?_
    refine wregion ?_
    refine lv (v := (.slice none (([] : List (List Int)).length) 0)) rfl rfl (r_assign rfl) ?_
    refine lnil ?_
    refine wseq ?_
    refine wseq ?_
    refine wregion ?_
    refine lv (v := (.int .i64 0)) rfl rfl (r_assign rfl) ?_
    refine lnil ?_
    refine wblock ?_
    refine wloop (fun n f w_6 => ∃ (col_7 : Col) (a_9 : Option Addr) (cap_10 : Nat) (l_8 : List (List Int)) (p_12 : Int) (n_5 : Nat), n_5 = n ∧ m_credenceref14_Children_L1 N p0_parents n_5 l_8 p_12 = some r ∧ St w0 (col0 col) col_7 w_6 ∧ Sl (Rep.slice (Rep.int .i64)) col_7 w_6 a0 cap0 p0_parents ∧ Own (Rep.row 3 (Rep.int .i64)) 31 1 col_7 w_6 a_9 cap_10 l_8 ∧ f 0 = (.slice a0 p0_parents.length cap0) ∧ f 5 = (.slice a_9 l_8.length cap_10) ∧ f 6 = (.int .i64 p_12) ∧ f 1000000 = (enc [])) N ⟨(col0 col), none, 0, ([] : List (List Int)), 0, N, rfl, hm, hst, h0, Own.nil, rfl, rfl, rfl, rfl⟩ ?_
    clear hm; intro n f w_6 hI
    obtain ⟨col_7, a_9, cap_10, l_8, p_12, n_5, hn, hm, hst, h0, h_11, hs0, hs5, hs6, hs1000000⟩ := hI
    subst hn
    refine .ld (d := 0) (v := (.slice a0 p0_parents.length cap0)) hs0 ?_
    refine .ld (d := 5) (v := (.slice a_9 l_8.length cap_10)) hs5 ?_
    refine .ld (d := 6) (v := (.int .i64 p_12)) hs6 ?_
    refine .ld (d := 1000000) (v := (enc [])) hs1000000 ?_
    clear hs0 hs5 hs6 hs1000000
    cases n_5 with
    | zero => rw [m_credenceref14_Children_L1.eq_1] at hm; cases hm
    | succ n_5 =>
      rw [m_credenceref14_Children_L1.eq_2] at hm
      refine wseq ?_
      refine wseq ?_
      refine wregion ?_
      refine lv (v := (.int .i64 p_12)) rfl rfl (r_move rfl) ?_
      refine lv (v := (.slice a0 p0_parents.length cap0)) rfl rfl (r_move rfl) ?_
      refine lv (v := (.int .i64 (p0_parents.length : Int))) rfl rfl (r_len Try.underlying22 rfl) ?_
      refine lv (v := (.bool (decide (p_12 < (p0_parents.length : Int))))) rfl rfl (r_lss p_12 (p0_parents.length : Int) rfl rfl) ?_
      refine lnil ?_
      refine wcond (decide (p_12 < (p0_parents.length : Int))) rfl (fun hb => ?_) (fun hb => ?_)
      · rw [if_pos hb] at hm
        clear hb
        refine wskip ?_
        refine wseq ?_
        refine wblock ?_
        refine wseq ?_
        refine wregion ?_
        refine lv (v := (.slice none (([] : List Int).length) 0)) rfl rfl (r_assign rfl) ?_
        refine lnil ?_
        refine wseq ?_
        refine wseq ?_
        refine wregion ?_
        refine lv (v := (.int .i64 0)) rfl rfl (r_assign rfl) ?_
        refine lnil ?_
        refine wblock ?_
        refine wloop (fun n f w_14 => ∃ (col_15 : Col) (a_17 : Option Addr) (cap_18 : Nat) (c_16 : List Int) (i_20 : Int) (n_13 : Nat), n_13 = n ∧ m_credenceref14_Children_L2 N p0_parents l_8 p_12 (m_credenceref14_Children_L1 N p0_parents n_5) n_13 c_16 i_20 = some r ∧ St w0 (col0 col) col_15 w_14 ∧ Sl (Rep.slice (Rep.int .i64)) col_15 w_14 a0 cap0 p0_parents ∧ Own (Rep.row 3 (Rep.int .i64)) 31 1 col_15 w_14 a_9 cap_10 l_8 ∧ Own (Rep.int .i64) 3 2 col_15 w_14 a_17 cap_18 c_16 ∧ f 0 = (.slice a0 p0_parents.length cap0) ∧ f 5 = (.slice a_9 l_8.length cap_10) ∧ f 6 = (.int .i64 p_12) ∧ f 7 = (.slice a_17 c_16.length cap_18) ∧ f 8 = (.int .i64 i_20) ∧ f 1000000 = (enc [])) N ⟨col_7, none, 0, ([] : List Int), 0, N, rfl, hm, hst, h0, h_11, Own.nil, rfl, rfl, rfl, rfl, rfl, rfl⟩ ?_
        clear hm; intro n f w_14 hI
        obtain ⟨col_15, a_17, cap_18, c_16, i_20, n_13, hn, hm, hst, h0, h_11, h_19, hs0, hs5, hs6, hs7, hs8, hs1000000⟩ := hI
        subst hn
        refine .ld (d := 0) (v := (.slice a0 p0_parents.length cap0)) hs0 ?_
        refine .ld (d := 5) (v := (.slice a_9 l_8.length cap_10)) hs5 ?_
        refine .ld (d := 6) (v := (.int .i64 p_12)) hs6 ?_
        refine .ld (d := 7) (v := (.slice a_17 c_16.length cap_18)) hs7 ?_
        refine .ld (d := 8) (v := (.int .i64 i_20)) hs8 ?_
        refine .ld (d := 1000000) (v := (enc [])) hs1000000 ?_
        clear hs0 hs5 hs6 hs7 hs8 hs1000000
        cases n_13 with
        | zero => rw [m_credenceref14_Children_L2.eq_1] at hm; cases hm
        | succ n_13 =>
          rw [m_credenceref14_Children_L2.eq_2] at hm
          refine wseq ?_
          refine wseq ?_
          refine wregion ?_
          refine lv (v := (.int .i64 i_20)) rfl rfl (r_move rfl) ?_
          refine lv (v := (.slice a0 p0_parents.length cap0)) rfl rfl (r_move rfl) ?_
          refine lv (v := (.int .i64 (p0_parents.length : Int))) rfl rfl (r_len Try.underlying22 rfl) ?_
          refine lv (v := (.bool (decide (i_20 < (p0_parents.length : Int))))) rfl rfl (r_lss i_20 (p0_parents.length : Int) rfl rfl) ?_
          refine lnil ?_
          refine wcond (decide (i_20 < (p0_parents.length : Int))) rfl (fun hb => ?_) (fun hb => ?_)
          · rw [if_pos hb] at hm
            clear hb
            refine wskip ?_
            refine wseq ?_
            refine Wp.cut (fun f w_21 => ∃ (col_22 : Col) (a_24 : Option Addr) (cap_25 : Nat) (c_23 : List Int), m_credenceref14_Children_J1 i_20 (m_credenceref14_Children_L2 N p0_parents l_8 p_12 (m_credenceref14_Children_L1 N p0_parents n_5) n_13) c_23 = some r ∧ St w0 (col0 col) col_22 w_21 ∧ Sl (Rep.slice (Rep.int .i64)) col_22 w_21 a0 cap0 p0_parents ∧ Own (Rep.row 3 (Rep.int .i64)) 31 1 col_22 w_21 a_9 cap_10 l_8 ∧ Own (Rep.int .i64) 3 2 col_22 w_21 a_24 cap_25 c_23 ∧ f 0 = (.slice a0 p0_parents.length cap0) ∧ f 5 = (.slice a_9 l_8.length cap_10) ∧ f 6 = (.int .i64 p_12) ∧ f 7 = (.slice a_24 c_23.length cap_25) ∧ f 8 = (.int .i64 i_20) ∧ f 1000000 = (enc [])) ?_ ?_
            · intro f w_21 hJ
              obtain ⟨col_22, a_24, cap_25, c_23, hm, hst, h0, h_11, h_26, hs0, hs5, hs6, hs7, hs8, hs1000000⟩ := hJ
              rw [m_credenceref14_Children_J1.eq_1] at hm
              refine .ld (d := 0) (v := (.slice a0 p0_parents.length cap0)) hs0 ?_
              refine .ld (d := 5) (v := (.slice a_9 l_8.length cap_10)) hs5 ?_
              refine .ld (d := 6) (v := (.int .i64 p_12)) hs6 ?_
              refine .ld (d := 7) (v := (.slice a_24 c_23.length cap_25)) hs7 ?_
              refine .ld (d := 8) (v := (.int .i64 i_20)) hs8 ?_
              refine .ld (d := 1000000) (v := (enc [])) hs1000000 ?_
              clear hs0 hs5 hs6 hs7 hs8 hs1000000
              refine wregion ?_
              refine lv (v := (.int .i64 i_20)) rfl rfl (r_move rfl) ?_
              refine lv (v := (.int .i64 (IntKind.i64.wrap (i_20 + 1)))) rfl rfl (r_add i_20 1 rfl rfl) ?_
              refine lv (v := (.int .i64 (IntKind.i64.wrap (i_20 + 1)))) rfl rfl (r_assign rfl) ?_
              refine lnil ?_
              exact ⟨n_13, by omega, ⟨col_22, a_24, cap_25, c_23, (IntKind.i64.wrap (i_20 + 1)), n_13, rfl, hm, hst, h0, h_11, h_26, rfl, rfl, rfl, rfl, rfl, rfl⟩⟩
            · refine wblock ?_
              refine wseq ?_
              refine wregion ?_
              refine lv (v := (.slice a0 p0_parents.length cap0)) rfl rfl (r_move rfl) ?_
              refine lv (v := (.int .i64 i_20)) rfl rfl (r_move rfl) ?_
              obtain ⟨e_27, hj_28, hm⟩ := bind_some hm
              refine lv (v := (sptr a0 (Int.toNat i_20 * 1))) rfl rfl (r_idx Try.underlying22 Try.sizeOf31 rfl rfl (at?_some hj_28).1 (at?_some hj_28).2.1 (h0.addr hj_28)) ?_
              obtain ⟨_, hr_29, hA_30⟩ := h0.atN hj_28
              obtain ⟨⟨a_31, cap_32, rfl, h_33⟩, _⟩ := hr_29
              refine lv (v := (.slice a_31 e_27.length cap_32)) rfl rfl (r_ld Try.isAgg31 rfl hA_30.one) ?_
              refine lv (v := (.int .i64 p_12)) rfl rfl (r_move rfl) ?_
              obtain ⟨r_34, hr_35, hm⟩ := bind_some hm
              refine lc rfl rfl (r_call2 Try.call46 rfl rfl) (c_credenceref14_Has N col_15 _ a_31 cap_32 e_27 p_12 h_33 r_34 hr_35) ?_
              rintro _ w_36 ⟨rfl, hg_37⟩
              refine ⟨_, rfl, ?_⟩
              replace hg_37 : Grow col_15 w_14 col_15 w_36 := .of_below hg_37
              replace h0 := h0.gr hg_37
              replace h_11 := h_11.gr hg_37
              replace h_19 := h_19.gr hg_37
              replace h_33 := h_33.gr hg_37
              replace hst := hst.grow hg_37
              refine lnil ?_
              refine wcond (r_34) rfl (fun hb => ?_) (fun hb => ?_)
              · rw [if_pos hb] at hm
                clear hb
                refine wregion ?_
                refine lv (v := (.slice a_17 c_16.length cap_18)) rfl rfl (r_move rfl) ?_
                refine lv (v := (.int .i64 i_20)) rfl rfl (r_move rfl) ?_
                refine l_lit (col := col_15) (r := (Rep.int .i64)) (xs := [i_20]) [(.int .i64 i_20)] 3 rfl Try.underlying31 el3_45 rfl rfl rfl rfl rfl rfl (by intro v hv; simp only [List.mem_cons, List.not_mem_nil, or_false] at hv; subst hv; rfl) (RowsH.ofF (Rows.consF (r := (Rep.int .i64)) (x := i_20) (cs := [(.int .i64 i_20)]) (rd_int .i64 i_20) Rows.nil0)) ?_
                intro a_38 w_39 col_40 hg_41 h_42
                replace h0 := h0.gr hg_41
                replace h_11 := h_11.gr hg_41
                replace h_19 := h_19.gr hg_41
                replace hst := hst.grow hg_41
                obtain ⟨hb_43, hm⟩ := chk_some hm
                refine l_appendM (col := col_40) (w := w_39) (r := (Rep.int .i64)) (c := 2) (c2 := 2) (xs := c_16) (ys := [i_20]) h_19 (h_42.srcN (NB.int (k := .i64))) rfl Try.underlying31 el3_45 rfl rfl rfl hb_43.1 hb_43.2 (by decide) ?_
                intro a_44 cap_45 w_46 col_47 hk_48 h_49
                replace h0 := h0.kpp hk_48 rfl
                replace h_11 := h_11.kpp hk_48 rfl rfl
                replace h_42 := h_42.kpp hk_48 rfl rfl
                replace hst := hst.kpp hk_48 rfl rfl
                clear h_19
                refine lv (v := (.slice a_44 ((c_16 ++ [i_20]).length) cap_45)) rfl rfl (r_assign rfl) ?_
                refine lnil ?_
                exact ⟨col_47, a_44, cap_45, (c_16 ++ [i_20]), hm, hst, h0, h_11, h_49, rfl, rfl, rfl, rfl, rfl, rfl⟩
              · rw [if_neg (by rw [hb]; decide)] at hm
                clear hb
                refine wskip ?_
                exact ⟨col_15, a_17, cap_18, c_16, hm, hst, h0, h_11, h_19, rfl, rfl, rfl, rfl, rfl, rfl⟩
          · rw [if_neg (by rw [hb]; decide)] at hm
            clear hb
            refine wexit (inB_hit ?_)
            refine wregion ?_
            refine lv (v := (.slice a_9 l_8.length cap_10)) rfl rfl (r_move rfl) ?_
            refine lv (v := (.slice a_17 c_16.length cap_18)) rfl rfl (r_move rfl) ?_
            refine l_lit (col := col_15) (r := (Rep.row 3 (Rep.int .i64))) (xs := [c_16]) [(.slice a_17 c_16.length cap_18)] 2 rfl Try.underlying22 el31_45 rfl rfl rfl rfl rfl rfl (by intro v hv; simp only [List.mem_cons, List.not_mem_nil, or_false] at hv; subst hv; rfl) (RowsH.cons1 (cs := [(.slice a_17 c_16.length cap_18)]) h_19.has Rows.nil0) ?_
            intro a_50 w_51 col_52 hg_53 h_54
            replace h0 := h0.gr hg_53
            replace h_11 := h_11.gr hg_53
            replace h_19 := h_19.gr hg_53
            replace hst := hst.grow hg_53
            obtain ⟨hb_55, hm⟩ := chk_some hm
            refine l_appendM (col := col_52) (w := w_51) (r := (Rep.row 3 (Rep.int .i64))) (c := 1) (c2 := 2) (xs := l_8) (ys := [c_16]) h_11 (h_54.srcC (by decide)) rfl Try.underlying22 el31_45 rfl rfl rfl hb_55.1 hb_55.2 (by decide) ?_
            intro a_56 cap_57 w_58 col_59 hk_60 h_61
            replace h0 := h0.kpp hk_60 rfl
            clear h_54
            replace hst := hst.kpp hk_60 rfl rfl
            clear h_11
            refine lv (v := (.slice a_56 ((l_8 ++ [c_16]).length) cap_57)) rfl rfl (r_assign rfl) ?_
            refine lnil ?_
            refine wregion ?_
            refine lv (v := (.int .i64 p_12)) rfl rfl (r_move rfl) ?_
            refine lv (v := (.int .i64 (IntKind.i64.wrap (p_12 + 1)))) rfl rfl (r_add p_12 1 rfl rfl) ?_
            refine lv (v := (.int .i64 (IntKind.i64.wrap (p_12 + 1)))) rfl rfl (r_assign rfl) ?_
            refine lnil ?_
            exact ⟨n_5, by omega, ⟨col_59, a_56, cap_57, (l_8 ++ [c_16]), (IntKind.i64.wrap (p_12 + 1)), n_5, rfl, hm, hst, h0, h_61, rfl, rfl, rfl, rfl⟩⟩
      · rw [if_neg (by rw [hb]; decide)] at hm
        clear hb
        refine wexit (inB_hit ?_)
        refine wseq ?_
        refine wregion ?_
        refine lv (v := (.slice a_9 l_8.length cap_10)) rfl rfl (r_move rfl) ?_
        refine lv (v := (.slice a_9 l_8.length cap_10)) rfl rfl (r_assign rfl) ?_
        refine lv (v := (.int .i64 0)) rfl rfl (r_assign rfl) ?_
        refine lnil ?_
        refine wret ?_
        cases hm
        exact ⟨rfl, colF w0.heap.size col col_7 (fun n => bif Nat.beq n 1 then c1 else 0), a_9, cap_10, rfl, hst.fin (fun n => bif Nat.beq n 1 then c1 else 0), hst.finOwn (g := (fun n => bif Nat.beq n 1 then c1 else 0)) rfl h_11 (by decide) (by decide) rfl⟩




def m_credenceref14_Below (N : Nat) (p0_parents : (List (List Int))) (p1_points : (List Int)) : Option ((List Int) × Int) :=
  (m_credenceref14_Children N p0_parents).bind fun r_1 => if (!decide (r_1.2 = 0)) = true then (some (([] : List Int), r_1.2)) else ((m_credenceref14_closed N r_1.1 p1_points).bind fun r_9 => some (r_9.1, r_9.2))

set_option maxRecDepth 100000 in
theorem c_credenceref14_Below (N : Nat) (c1 : Nat) (col : Col) (w0 : World) (a0 : Option Addr) (cap0 : Nat) (p0_parents : (List (List Int))) (a1 : Option Addr) (cap1 : Nat) (p1_points : (List Int)) (h0 : Sl (Rep.slice (Rep.int .i64)) col w0 a0 cap0 p0_parents) (h1 : Sl (Rep.int .i64) col w0 a1 cap1 p1_points) (r : ((List Int) × Int)) (hm : m_credenceref14_Below N p0_parents p1_points = some r) :
    Calls Try.prog 44 #[(.slice a0 p0_parents.length cap0), (.slice a1 p1_points.length cap1)] w0 (fun e w' => ∃ (col' : Col) (ra1 : Option Addr) (rc2 : Nat), e = .returned (.tuple #[(.slice ra1 r.1.length rc2), (.int .i64 r.2)]) ∧ Grow col w0 col' w' ∧ Own (Rep.int .i64) 3 c1 col' w' ra1 rc2 r.1) := by
  refine calls_of2 4 5 (m := 21) (args := [(.slice a0 p0_parents.length cap0), (.slice a1 p1_points.length cap1)]) Try.func44 rfl rfl rfl rfl rfl ?_
  rw [m_credenceref14_Below.eq_1] at hm
  have hst := St.start col w0
  replace h0 := h0.keep (Stay.start col w0)
  replace h1 := h1.keep (Stay.start col w0)
  refine wseq ?_
  refine wregion ?_
  refine lv (v := (.slice none (([] : List Int).length) 0)) rfl rfl (r_assign rfl) ?_
  refine lv (v := (.int .i64 0)) rfl rfl (r_assign rfl) ?_
  refine lnil ?_
  refine wseq ?_
  refine wregion ?_
  refine lv (v := (.slice a0 p0_parents.length cap0)) rfl rfl (r_move rfl) ?_
  obtain ⟨r_1, hr_2, hm⟩ := bind_some hm
  refine lc rfl rfl (r_call1 Try.call45 rfl) (c_credenceref14_Children N 1 (col0 col) _ a0 cap0 p0_parents h0 r_1 hr_2) ?_
  rintro _ w_6 ⟨col_8, ra_3, rc_4, rfl, hg_7, rh_5⟩
  refine ⟨_, rfl, ?_⟩
  replace h1 := h1.gr hg_7
  replace h0 := h0.gr hg_7
  replace hst := hst.grow hg_7
  refine lv (v := (.tuple #[(.slice ra_3 r_1.1.length rc_4), (.int .i64 r_1.2)])) rfl rfl (r_move rfl) ?_
  refine lv (v := (.slice ra_3 r_1.1.length rc_4)) rfl rfl (r_extract rfl rfl) ?_
  refine lv (v := (.int .i64 r_1.2)) rfl rfl (r_extract rfl rfl) ?_
  refine lv (v := (.slice ra_3 r_1.1.length rc_4)) rfl rfl (r_assign rfl) ?_
  refine lv (v := (.int .i64 r_1.2)) rfl rfl (r_assign rfl) ?_
  refine lnil ?_
  refine wseq ?_
  refine wseq ?_
  refine wregion ?_
  refine lv (v := (.int .i64 r_1.2)) rfl rfl (r_move rfl) ?_
  refine lv (v := (.bool (!decide (r_1.2 = 0)))) rfl rfl (r_neq r_1.2 0 rfl rfl) ?_
  refine lnil ?_
  refine wcond (!decide (r_1.2 = 0)) rfl (fun hb => ?_) (fun hb => ?_)
  · rw [if_pos hb] at hm
    clear hb
    refine wseq ?_
    refine wregion ?_
    refine lv (v := (.int .i64 r_1.2)) rfl rfl (r_move rfl) ?_
    refine lv (v := (.slice none (([] : List Int).length) 0)) rfl rfl (r_assign rfl) ?_
    refine lv (v := (.int .i64 r_1.2)) rfl rfl (r_assign rfl) ?_
    refine lnil ?_
    refine wret ?_
    cases hm
    exact ⟨rfl, colF w0.heap.size col col_8 (fun n => 0), none, 0, rfl, hst.fin (fun n => 0), Own.nil⟩
  · rw [if_neg (by rw [hb]; decide)] at hm
    clear hb
    refine wskip ?_
    refine wseq ?_
    refine wregion ?_
    refine lv (v := (.slice ra_3 r_1.1.length rc_4)) rfl rfl (r_move rfl) ?_
    refine lv (v := (.slice a1 p1_points.length cap1)) rfl rfl (r_move rfl) ?_
    obtain ⟨r_9, hr_10, hm⟩ := bind_some hm
    refine lc rfl rfl (r_call2 Try.call50 rfl rfl) (c_credenceref14_closed N 2 (frC 1 col_8) _ ra_3 rc_4 r_1.1 a1 cap1 p1_points (rh_5.toSlF (Froz.row (Froz.int .i64))) (h1.froz 1) r_9 hr_10) ?_
    rintro _ w_14 ⟨col_16, ra_11, rc_12, rfl, hg_15, rh_13⟩
    refine ⟨_, rfl, ?_⟩
    replace rh_13 := rh_13.thaw (flat_int .i64) hg_15 ((Fz.refl (col := col_8)).froz 1) (by decide)
    replace hg_15 := hg_15.thawR (col := col_8)
    generalize colR w_6.heap.size col_8 col_16 = col_17 at *
    replace rh_5 := rh_5.gr hg_15
    replace h1 := h1.gr hg_15
    replace hst := hst.grow hg_15
    refine lv (v := (.slice ra_11 r_9.1.length rc_12)) rfl rfl (r_extract rfl rfl) ?_
    refine lv (v := (.int .i64 r_9.2)) rfl rfl (r_extract rfl rfl) ?_
    refine lv (v := (.slice ra_11 r_9.1.length rc_12)) rfl rfl (r_assign rfl) ?_
    refine lv (v := (.int .i64 r_9.2)) rfl rfl (r_assign rfl) ?_
    refine lnil ?_
    refine wret ?_
    cases hm
    exact ⟨rfl, colF w0.heap.size col col_17 (fun n => bif Nat.beq n 2 then c1 else 0), ra_11, rc_12, rfl, hst.fin (fun n => bif Nat.beq n 2 then c1 else 0), hst.finOwn (g := (fun n => bif Nat.beq n 2 then c1 else 0)) rfl rh_13 (by decide) (by decide) rfl⟩



section
variable {N : Nat} {P : List (List Int)} (hn : P.length ≤ 1000000) (hls : ∀ l ∈ P, l.length ≤ 1000000) (hnd : ∀ l ∈ P, l.Nodup) (hN : 2000000 < N)
include hn hls hnd hN
theorem Children_L2 (p : Nat) (L : List (List Int)) (hL : L.length ≤ 1000000) (kk : List (List Int) → Int → Option (List (List Int) × Int)) : ∀ (f : Nat) (c : List Int) (i : Nat), P.length < f + i → i ≤ P.length → c.length ≤ i →
    m_credenceref14_Children_L2 N P L (p : Int) kk f c (i : Int) = kk (L ++ [c ++ kidsL i (P.drop i) p]) (IntKind.i64.wrap ((p : Int) + 1))
  | 0, c, i, h, hi, hc => by omega
  | f + 1, c, i, h, hi, hc => by
    rw [m_credenceref14_Children_L2.eq_2]
    simp only [m_credenceref14_Children_J1]
    by_cases hlt : i < P.length
    · have hl := hls _ (List.getElem_mem hlt)
      rw [if_pos (decide_eq_true (by omega)), at?_lt hlt, Option.bind_some, Has_eq (by omega) (by omega), Option.bind_some, wS (by omega), List.drop_eq_getElem_cons hlt, kidsL, (hnd _ (List.getElem_mem hlt)).count]
      by_cases hp : (p : Int) ∈ P[i]
      · rw [if_pos (decide_eq_true hp), if_pos hp, chk_pos (by simp only [List.length_cons, List.length_nil, maxLen]; omega), Children_L2 p L hL kk f (c ++ [(i : Int)]) (i + 1) (by omega) (by omega) (by simp; omega)]
        simp
      · rw [if_neg (by simpa using hp), if_neg hp, Children_L2 p L hL kk f c (i + 1) (by omega) (by omega) (by omega)]
        simp
    · rw [if_neg (by rw [decide_eq_true_eq]; omega), chk_pos (by simp only [List.length_cons, List.length_nil, maxLen]; omega), List.drop_eq_nil_of_le (by omega), kidsL, List.append_nil]
theorem Children_L1 : ∀ (f : Nat) (L : List (List Int)) (p : Nat), P.length < f + p → p ≤ P.length → L.length = p →
    m_credenceref14_Children_L1 N P f L (p : Int) = some (L ++ (List.range' p (P.length - p)).map fun q : Nat => kidsL 0 P q, 0)
  | 0, L, p, h, hp, hL => by omega
  | f + 1, L, p, h, hp, hL => by
    rw [m_credenceref14_Children_L1.eq_2]
    by_cases hlt : p < P.length
    · rw [if_pos (decide_eq_true (by omega)), show (0 : Int) = ((0 : Nat) : Int) from rfl, Children_L2 hn hls hnd hN p L (by omega) _ N [] 0 (by omega) (Nat.zero_le _) (Nat.zero_le _), wS (by omega), Children_L1 f _ (p + 1) (by omega) (by omega) (by simp; omega), show P.length - p = (P.length - (p + 1)) + 1 by omega, List.range'_succ]
      simp
    · rw [if_neg (by rw [decide_eq_true_eq]; omega), show P.length - p = 0 by omega]; simp
end
theorem twice_nd {P : List (List Int)} (h : twiceB P = false) : ∀ l ∈ P, l.Nodup := by
  intro l hl
  rw [twiceB, List.any_eq_false] at h
  have := h l hl
  simpa using this
/-- Children, below, above, the order: the program's and the document's. -/
theorem kids_both {N : Nat} {P : List (List Int)} (h : Sml P) (hN : 2000000 < N) (pts : List Int) (hp : pts.length ≤ 1048576) :
    (∃ r, m_dag_Children N P = some r ∧ m_credenceref14_Children N P = some r ∧ r.1.length ≤ P.length ∧ ∀ x ∈ r.1, x.length ≤ 1000000) ∧
    (∃ r, m_dag_Above N P pts = some r ∧ m_credenceref14_Above N P pts = some r ∧ r.1.length ≤ P.length) ∧
    (∃ r, m_dag_Below N P pts = some r ∧ m_credenceref14_Below N P pts = some r ∧ r.1.length ≤ P.length) ∧
    (∃ r, m_dag_Order N P = some r ∧ m_credenceref14_Order N P = some r ∧ r.1.length ≤ P.length) := by
  have hn := h.n
  have ht := h.t
  have hls := h.ls
  have hfail : ∀ e, e ≠ 0 → m_dag_Order N P = some ([], e) → m_credenceref14_Check N P = some e → _ := fun e he Dd R => by
    have hC : m_dag_Check N P = some e := by rw [m_dag_Check, Dd]; rfl
    have h1 : m_credenceref14_Children N P = some ([], e) := by rw [m_credenceref14_Children, R, Option.bind_some, if_pos (by simpa using he)]
    exact (⟨⟨([], e), by rw [m_dag_Children, hC, Option.bind_some, if_pos (by simpa using he)], h1, by simp, by simp⟩,
      ⟨([], e), by rw [m_dag_Above, hC, Option.bind_some, if_pos (by simpa using he)], by rw [m_credenceref14_Above, R, Option.bind_some, if_pos (by simpa using he)], by simp⟩,
      ⟨([], e), by rw [m_dag_Below, hC, Option.bind_some, if_pos (by simpa using he)], by rw [m_credenceref14_Below, h1, Option.bind_some, if_pos (by simpa using he)], by simp⟩,
      ⟨([], e), Dd, by rw [m_credenceref14_Order, R, Option.bind_some, if_pos (by simpa using he)], by simp⟩⟩ : (∃ r, m_dag_Children N P = some r ∧ m_credenceref14_Children N P = some r ∧ r.1.length ≤ P.length ∧ ∀ x ∈ r.1, x.length ≤ 1000000) ∧
    (∃ r, m_dag_Above N P pts = some r ∧ m_credenceref14_Above N P pts = some r ∧ r.1.length ≤ P.length) ∧
    (∃ r, m_dag_Below N P pts = some r ∧ m_credenceref14_Below N P pts = some r ∧ r.1.length ≤ P.length) ∧
    (∃ r, m_dag_Order N P = some r ∧ m_credenceref14_Order N P = some r ∧ r.1.length ≤ P.length))
  rcases says h hN with ⟨e, Dd, R, hne⟩ | ⟨I, T, l, o, ok, mx, lt, Dd, R⟩ | ⟨I, T, l, o, ok, mx, eq, Dd, R⟩
  · exact hfail e (by omega) Dd R
  · exact hfail 42 (by decide) Dd R
  · have hC : m_dag_Check N P = some 0 := by rw [m_dag_Check, Dd]; rfl
    have hnd := twice_nd T
    have hir := inside_InR I
    obtain ⟨D, g⟩ := good h hN hC
    have hDl := g.klen
    have hDeq : D = (List.range' 0 P.length).map fun q : Nat => kidsL 0 P q := by
      refine List.ext_getElem (by rw [List.length_map, List.length_range', hDl]) fun q h1 h2 => ?_
      rw [List.getElem_map, List.getElem_range', Nat.zero_add, Nat.one_mul, ← g.kid q (by omega), lgetD_lt h1]
    have hDls : ∀ x ∈ D, x.length ≤ 1000000 := fun x hx => by
      rw [hDeq] at hx
      obtain ⟨q, _, rfl⟩ := List.mem_map.1 hx
      exact Nat.le_trans (kidsL_length_le _ _ _) ht
    have h1 : m_credenceref14_Children N P = some (D, 0) := by
      rw [m_credenceref14_Children, R, Option.bind_some, if_neg (by decide), show (0 : Int) = ((0 : Nat) : Int) from rfl, Children_L1 hn hls hnd hN N [] 0 (by omega) (Nat.zero_le _) rfl, List.nil_append, Nat.sub_zero, ← hDeq]; rfl
    have hrl : ∀ (W : List (List Int)) (hW : W.length = P.length) (hr : ∀ l ∈ W, InR P.length l), ∃ r, m_dag_reach N W pts = some r ∧ r.1.length ≤ P.length := fun W hW hr => by
      obtain ⟨r1, r2⟩ := reach_eq (N := N) hW hn hr hN pts
      by_cases hin : InR P.length pts
      · obtain ⟨r, k1, k2, k3, _⟩ := r1 hin
        exact ⟨_, k1, by show (isort r).length ≤ _; rw [isort_len]; exact k3.len k2⟩
      · exact ⟨_, r2 hin, by simp⟩
    refine ⟨⟨(D, 0), by rw [m_dag_Children, hC, Option.bind_some, if_neg (by decide), g.kids]; rfl, h1, by show D.length ≤ _; omega, hDls⟩, ?_, ?_, ⟨(l, 0), Dd, by rw [m_credenceref14_Order, R, Option.bind_some, if_neg (by decide), o]; rfl, by show l.length ≤ _; omega⟩⟩
    · obtain ⟨r, k1, k2⟩ := hrl P rfl hir
      exact ⟨r, by rw [m_dag_Above, hC, Option.bind_some, if_neg (by decide), k1]; rfl, by rw [m_credenceref14_Above, R, Option.bind_some, if_neg (by decide), closed_eq (N := N) rfl hn hls hir hN pts hp, k1]; rfl, k2⟩
    · obtain ⟨r, k1, k2⟩ := hrl D hDl g.kid_ir
      exact ⟨r, by rw [m_dag_Below, hC, Option.bind_some, if_neg (by decide), g.kids, Option.bind_some, k1]; rfl, by rw [m_credenceref14_Below, h1, Option.bind_some, if_neg (by simp), closed_eq (N := N) hDl hn hDls g.kid_ir hN pts hp, k1]; rfl, k2⟩






def OrdL (P : List (List Int)) (l : List Int) : Prop := ∀ (j : Nat) (hj : j < l.length), ∀ q ∈ way P l[j], q ∈ l.take j
theorem ord_step {P : List (List Int)} {l : List Int} {p : Nat} (h : OrdL P l) (hn : nextF P l 0 = some p) : OrdL P (l ++ [(p : Int)]) := by
  obtain ⟨_, h2, h3, _⟩ := nextF_some hn
  obtain ⟨h4, h5⟩ := (rdyB_iff h2).1 h3
  intro j hj q hq
  by_cases hjl : j < l.length
  · rw [List.getElem_append_left hjl] at hq
    rw [List.take_append_of_le_length (by omega)]
    exact h j hjl q hq
  · have : j = l.length := by simp at hj; omega
    subst this
    rw [List.getElem_append_right (by omega)] at hq
    simp only [Nat.sub_self, List.getElem_cons_zero, way, Int.toNat_natCast] at hq
    rw [lgetD_lt h2] at hq
    rw [List.take_left]
    exact h5 q hq
theorem out_ord {N : Nat} {P : List (List Int)} (hP : P.length < 1048576) (hls : ∀ x ∈ P, x.length ≤ 1048576) (hN : 1048576 < N) : ∀ (n : Nat) (l r : List Int), OutOk P l → OrdL P l → m_credenceref14_out_L1 N P n l = some r → OrdL P r
  | 0, l, r, _, _, h => by rw [m_credenceref14_out_L1.eq_1] at h; cases h
  | n + 1, l, r, ho, hl, h => by
    have hlen := ho.len
    rw [out_step (by omega) hls (by omega) hN] at h
    cases hnx : nextF P l 0 with
    | none => rw [hnx] at h; cases h; exact hl
    | some p => rw [hnx] at h; exact out_ord hP hls hN n _ r (ho.step hnx).1 (ord_step hl hnx) h

section
variable {N : Nat} {P : List (List Int)} (h : Sml P) (hN : 2000000 < N) {l : List Int} (hok : OutOk P l) (hord : OrdL P l) (hlen : l.length = P.length)
include h hN hok hord hlen
end


/-- What the map of distances says. -/
structure Far (P : List (List Int)) (n : Nat) (s : Int) (far : List (Int × Int)) : Prop where
  at0 : mget far s = some 0
  all : ∀ c d, mget far c = some d → (0 ≤ c ∧ c < (n : Int)) ∧ 0 ≤ d ∧ ((d = 0 ∧ c = s) ∨ (s < c ∧ ∃ v, mget far v = some (d - 1) ∧ v ∈ way P c))
theorem Far.zero {P : List (List Int)} {n : Nat} {s c : Int} {far : List (Int × Int)} (h : Far P n s far) (hc : mget far c = some 0) : c = s := by
  obtain ⟨_, _, h1 | ⟨_, v, h2, _⟩⟩ := h.all c 0 hc
  · exact h1.2
  · have := (h.all v _ h2).2.1; omega
theorem Far.chain {P : List (List Int)} {n : Nat} {s : Int} {far : List (Int × Int)} (h : Far P n s far) : ∀ (d : Nat) (c : Int), mget far c = some (d : Int) → ∃ L : List Int, L.length = d + 1 ∧ L.Nodup ∧ InR n L ∧ ∀ x ∈ L, ∃ e : Int, mget far x = some e ∧ e ≤ d
  | 0, c, hc => ⟨[c], rfl, by simp, fun x hx => by rw [List.mem_singleton] at hx; rw [hx]; exact (h.all c _ hc).1, fun x hx => by rw [List.mem_singleton] at hx; subst hx; exact ⟨_, hc, Int.le_refl _⟩⟩
  | d + 1, c, hc => by
    obtain ⟨h1, _, h2 | ⟨_, v, h3, _⟩⟩ := h.all c _ hc
    · omega
    · obtain ⟨L, k1, k2, k3, k4⟩ := h.chain d v (by rw [h3]; congr 1; omega)
      refine ⟨c :: L, by rw [List.length_cons, k1], List.nodup_cons.2 ⟨fun hm => ?_, k2⟩, fun x hx => ?_, fun x hx => ?_⟩
      · obtain ⟨e, h5, h6⟩ := k4 c hm
        rw [hc] at h5; cases h5; omega
      · rcases List.mem_cons.1 hx with rfl | hx
        · exact h1
        · exact k3 x hx
      · rcases List.mem_cons.1 hx with rfl | hx
        · exact ⟨_, hc, Int.le_refl _⟩
        · obtain ⟨e, h5, h6⟩ := k4 x hx
          exact ⟨e, h5, by omega⟩
theorem Far.lt {P : List (List Int)} {n : Nat} {s c d : Int} {far : List (Int × Int)} (h : Far P n s far) (hc : mget far c = some d) : d < (n : Int) := by
  have h0 := (h.all c d hc).2.1
  obtain ⟨L, k1, k2, k3, _⟩ := h.chain d.toNat c (by rw [hc]; congr 1; omega)
  have := k3.len k2
  omega

section
variable {N n : Nat} {P D : List (List Int)} (hn : n ≤ 1000000) (hP : P.length = n) (hD : D.length = n) (hturn : ∀ x y : Int, (0 ≤ x ∧ x < (n : Int)) → (0 ≤ y ∧ y < (n : Int)) → (y ∈ way P x ↔ x ∈ way D y)) (hDr : ∀ x y : Int, y ∈ way D x → 0 ≤ y ∧ y < (n : Int))
/-- The fewest steps. -/
theorem ring_L3 (s most : Int) (far : List (Int × Int)) (hb : ∀ c d, mget far c = some d → 0 ≤ d ∧ d ≤ 1000000) : ∀ (l : List Int) (best : Int), ∃ b, m_dag_ring_L3 N P s most far l best = (if b = most then some [] else m_dag_ring_L4 N P far b N [s] s) ∧ b ≤ best ∧ (b = best ∨ ∃ p ∈ l, mget far p = some (b - 1)) ∧ ∀ p ∈ l, ∀ d, mget far p = some d → b ≤ d + 1
  | [], best => ⟨best, by rw [m_dag_ring_L3.eq_1]; by_cases h : best = most <;> simp [h], Int.le_refl _, .inl rfl, by simp⟩
  | x :: l, best => by
    rw [m_dag_ring_L3.eq_2, m_dag_ring_J6, m_dag_ring_J6]
    cases hx : mget far x with
    | none =>
      obtain ⟨b, h1, h2, h3, h4⟩ := ring_L3 s most far hb l best
      refine ⟨b, by rw [if_neg (by simp)]; exact h1, h2, h3.imp id fun ⟨p, hp, h⟩ => ⟨p, List.mem_cons_of_mem _ hp, h⟩, fun p hp d hd => ?_⟩
      rcases List.mem_cons.1 hp with rfl | hp
      · rw [hx] at hd; cases hd
      · exact h4 p hp d hd
    | some dx =>
      have hdx := hb x dx hx
      rw [if_pos (by simp), Option.getD_some, w64 (by omega)]
      obtain ⟨b, h1, h2, h3, h4⟩ := ring_L3 s most far hb l (if dx + 1 < best then dx + 1 else best)
      refine ⟨b, h1, ?_, ?_, fun p hp d hd => ?_⟩
      · split at h2 <;> omega
      · rcases h3 with h3 | ⟨p, hp, h⟩
        · split at h3
          · exact .inr ⟨x, List.mem_cons_self, by rw [hx, h3]; congr 1; omega⟩
          · exact .inl h3
        · exact .inr ⟨p, List.mem_cons_of_mem _ hp, h⟩
      · rcases List.mem_cons.1 hp with rfl | hp
        · rw [hx] at hd; cases hd
          split at h2 <;> omega
        · exact h4 p hp d hd

/-- A way that leads back. -/
def Cyc (P : List (List Int)) (n : Nat) (c : List Int) : Prop := c ≠ [] ∧ ∀ (i : Nat) (hi : i < c.length), (0 ≤ c[i] ∧ c[i] < (n : Int)) ∧ c.getD ((i + 1) % c.length) 0 ∈ way P c[i] ∧ c[i] ∉ c.take i ∧ c.getD 0 0 ≤ c[i]

theorem lastI {α : Type} {d : α} (l : List α) (x : α) : (l ++ [x]).getD l.length d = x := by rw [List.getD_eq_getElem?_getD]; simp
end


theorem Cyc.len {P : List (List Int)} {n : Nat} {c : List Int} (h : Cyc P n c) : 1 ≤ c.length ∧ c.length ≤ n := by
  refine ⟨List.length_pos_iff.2 h.1, ?_⟩
  have hnd : c.Nodup := by
    rw [List.Nodup, List.pairwise_iff_getElem]
    intro i j hi hj hij e
    refine (h.2 j hj).2.2.1 ?_
    rw [← e, List.mem_take_iff_getElem]
    exact ⟨i, by omega, rfl⟩
  refine InR.len (fun x hx => ?_) hnd
  obtain ⟨i, hi, rfl⟩ := List.getElem_of_mem hx
  exact (h.2 i hi).1

section
variable {N : Nat} {P D : List (List Int)} (hn : P.length ≤ 1000000) (hN : 2000000 < N) (hD : D.length = P.length) (hturn : ∀ x y : Int, (0 ≤ x ∧ x < (P.length : Int)) → (0 ≤ y ∧ y < (P.length : Int)) → (y ∈ way P x ↔ x ∈ way D y)) (hPr : ∀ x y : Int, y ∈ way P x → 0 ≤ y ∧ y < (P.length : Int)) (hDr : ∀ x y : Int, y ∈ way D x → 0 ≤ y ∧ y < (P.length : Int))
include hn hN hD hturn hPr hDr
omit hn hN hD hturn hPr hDr in
theorem Cycle_L1 : ∀ (l : List Int) (out : List (Int × Int)) (S : List Int), (∀ k, mget out k = if k ∈ S then some 1 else none) → ∃ out', m_dag_Cycle_L1 N P D l out = m_dag_Cycle_L2 N P D out' P 0 [] (IntKind.i64.wrap ((P.length : Int) + 1)) ∧ ∀ k, mget out' k = if k ∈ S ++ l then some 1 else none
  | [], out, S, h => ⟨out, by rw [m_dag_Cycle_L1.eq_1], fun k => by rw [List.append_nil]; exact h k⟩
  | x :: l, out, S, h => by
    rw [m_dag_Cycle_L1.eq_2, Option.bind_some]
    obtain ⟨out', h1, h2⟩ := Cycle_L1 l (mput out x 1) (S ++ [x]) (fun k => by
      rw [mget_mput, h k]
      by_cases hk : k = x
      · subst hk; rw [if_pos rfl, if_pos (by simp)]
      · rw [if_neg hk]
        by_cases hs : k ∈ S
        · rw [if_pos hs, if_pos (by simp [hs])]
        · rw [if_neg hs, if_neg (by simp [hs, hk])])
    exact ⟨out', h1, fun k => by rw [h2 k, List.append_assoc]; rfl⟩
end
theorem cycle_nil {N : Nat} {P : List (List Int)} {e : Int} (hc : m_dag_Check N P = some e) (he : e ≠ 42) : m_dag_Cycle N P = some [] := by
  rw [m_dag_Cycle, hc, Option.bind_some, if_pos (by simp [he])]



def m_credenceref14_walks_J1 (k_40 : Int) (kk_L3 : (Int → (List Bool) → Option (List Bool))) (next_54 : List Bool) : Option (List Bool) :=
  kk_L3 (IntKind.i64.wrap (k_40 + 1)) next_54

def m_credenceref14_walks_L3 (N : Nat) (p0_parents : (List (List Int))) (p1_s : Int) (at_18 : List Bool) (v_32 : Int) (kk_L2 : (Int → (List Bool) → Option (List Bool))) : Nat → Int → (List Bool) → Option (List Bool)
  | 0, _, _ => none
  | n_37 + 1, k_40, next_41 => (at? p0_parents v_32).bind fun e_45 => if (decide (k_40 < (e_45.length : Int))) = true then ((at? e_45 k_40).bind fun e_63 => (at? next_41 v_32).bind fun e_65 => if e_65 = true then ((some (next_41.set (Int.toNat v_32) true)).bind fun xs_73 => m_credenceref14_walks_J1 k_40 (m_credenceref14_walks_L3 N p0_parents p1_s at_18 v_32 kk_L2 n_37) xs_73) else (if (decide (p1_s ≤ e_63)) = true then ((at? at_18 e_63).bind fun e_75 => (some (next_41.set (Int.toNat v_32) e_75)).bind fun xs_82 => m_credenceref14_walks_J1 k_40 (m_credenceref14_walks_L3 N p0_parents p1_s at_18 v_32 kk_L2 n_37) xs_82) else ((some (next_41.set (Int.toNat v_32) false)).bind fun xs_88 => m_credenceref14_walks_J1 k_40 (m_credenceref14_walks_L3 N p0_parents p1_s at_18 v_32 kk_L2 n_37) xs_88))) else (kk_L2 (IntKind.i64.wrap (v_32 + 1)) next_41)

def m_credenceref14_walks_L2 (N : Nat) (p0_parents : (List (List Int))) (p1_s : Int) (at_18 : List Bool) (i_22 : Int) (kk_L1 : ((List Bool) → Int → Option (List Bool))) : Nat → Int → (List Bool) → Option (List Bool)
  | 0, _, _ => none
  | n_29 + 1, v_32, next_33 => if (decide (v_32 < (p0_parents.length : Int))) = true then (m_credenceref14_walks_L3 N p0_parents p1_s at_18 v_32 (m_credenceref14_walks_L2 N p0_parents p1_s at_18 i_22 kk_L1 n_29) N 0 next_33) else (kk_L1 next_33 (IntKind.i64.wrap (i_22 + 1)))

def m_credenceref14_walks_L1 (N : Nat) (p0_parents : (List (List Int))) (p1_s : Int) (p2_n : Int) : Nat → (List Bool) → Int → Option (List Bool)
  | 0, _, _ => none
  | n_15 + 1, at_18, i_22 => if (decide (i_22 < p2_n)) = true then (chk (p0_parents.length * 1 ≤ 281474976710656 ∧ p0_parents.length ≤ maxLen) (m_credenceref14_walks_L2 N p0_parents p1_s at_18 i_22 (m_credenceref14_walks_L1 N p0_parents p1_s p2_n n_15) N p1_s (List.replicate p0_parents.length (false : Bool)))) else (some at_18)

def m_credenceref14_walks (N : Nat) (p0_parents : (List (List Int))) (p1_s : Int) (p2_n : Int) : Option (List Bool) :=
  chk (p0_parents.length * 1 ≤ 281474976710656 ∧ p0_parents.length ≤ maxLen) ((at? (List.replicate p0_parents.length (false : Bool)) p1_s).bind fun e_7 => (some ((List.replicate p0_parents.length (false : Bool)).set (Int.toNat p1_s) true)).bind fun xs_14 => m_credenceref14_walks_L1 N p0_parents p1_s p2_n N xs_14 0)

set_option maxRecDepth 100000 in
theorem c_credenceref14_walks (N : Nat) (c1 : Nat) (col : Col) (w0 : World) (a0 : Option Addr) (cap0 : Nat) (p0_parents : (List (List Int))) (p1_s : Int) (p2_n : Int) (h0 : Sl (Rep.slice (Rep.int .i64)) col w0 a0 cap0 p0_parents) (r : (List Bool)) (hm : m_credenceref14_walks N p0_parents p1_s p2_n = some r) :
    Calls Try.prog 49 #[(.slice a0 p0_parents.length cap0), (.int .i64 p1_s), (.int .i64 p2_n)] w0 (fun e w' => ∃ (col' : Col) (ra1 : Option Addr) (rc2 : Nat), e = .returned ((.slice ra1 r.length rc2)) ∧ Grow col w0 col' w' ∧ Own Rep.bool 4 c1 col' w' ra1 rc2 r) := by
  refine calls_of1 6 (m := 70) (args := [(.slice a0 p0_parents.length cap0), (.int .i64 p1_s), (.int .i64 p2_n)]) Try.func49 rfl rfl rfl rfl rfl ?_
  rw [m_credenceref14_walks.eq_1] at hm
  have hst := St.start col w0
  replace h0 := h0.keep (Stay.start col w0)
  refine wseq ?_
  refine wregion ?_
  refine lv (v := (.slice none (([] : List Bool).length) 0)) rfl rfl (r_assign rfl) ?_
  refine lnil ?_
  refine wseq ?_
  refine wregion ?_
  refine lv (v := (.slice a0 p0_parents.length cap0)) rfl rfl (r_move rfl) ?_
  refine lv (v := (.int .i64 (p0_parents.length : Int))) rfl rfl (r_len Try.underlying22 rfl) ?_
  obtain ⟨hb_1, hm⟩ := chk_some hm
  refine l_make (col := (col0 col)) (w := w0) (r := Rep.bool) (n := p0_parents.length) (x0 := false) 1 rfl Try.underlying64 Try.t4 rfl rfl rfl rfl rfl rfl rfl hb_1.1 hb_1.2 (rd_bool false) ?_
  intro a_2 w_3 col_4 hg_5 h_6
  replace h0 := h0.gr hg_5
  replace hst := hst.grow hg_5
  refine lv (v := (.slice a_2 ((List.replicate p0_parents.length (false : Bool)).length) p0_parents.length)) rfl rfl (r_assign rfl) ?_
  refine lnil ?_
  refine wseq ?_
  refine wregion ?_
  refine lv (v := (.slice a_2 ((List.replicate p0_parents.length (false : Bool)).length) p0_parents.length)) rfl rfl (r_move rfl) ?_
  refine lv (v := (.int .i64 p1_s)) rfl rfl (r_move rfl) ?_
  obtain ⟨e_7, hj_8, hm⟩ := bind_some hm
  refine lv (v := (sptr a_2 (Int.toNat p1_s * 1))) rfl rfl (r_idx Try.underlying64 Try.sizeOf4 rfl rfl (at?_some hj_8).1 (at?_some hj_8).2.1 (h_6.addr hj_8)) ?_
  obtain ⟨xs_14, hz_13, hm⟩ := bind_some hm
  have hz_13 : xs_14 = (List.replicate p0_parents.length (false : Bool)).set (Int.toNat p1_s) true := (Option.some.inj hz_13).symm
  refine l_store (x1 := true) (v := (.bool true)) h_6 hj_8 rfl Try.sizeOf4 (rd_bool true) rfl rfl (by decide) ?_
  intro w_9 hk_10 hs_11 h_12
  rw [← hz_13] at h_12
  replace h0 := h0.kp hk_10 (by decide)
  replace hst := hst.kp hk_10 hs_11 (by decide) (by decide)
  refine .ld (d := 7) (v := (.slice a_2 xs_14.length p0_parents.length)) (congrArg (fun n => Value.slice a_2 n p0_parents.length) (show (List.replicate p0_parents.length (false : Bool)).length = xs_14.length by rw [hz_13, List.length_set])) ?_
  clear h_6
  refine lnil ?_
  refine wseq ?_
  refine wseq ?_
  refine wregion ?_
  refine lv (v := (.int .i64 0)) rfl rfl (r_assign rfl) ?_
  refine lnil ?_
  refine wblock ?_
  refine wloop (fun n f w_16 => ∃ (col_17 : Col) (a_19 : Option Addr) (cap_20 : Nat) (at_18 : List Bool) (i_22 : Int) (n_15 : Nat), n_15 = n ∧ m_credenceref14_walks_L1 N p0_parents p1_s p2_n n_15 at_18 i_22 = some r ∧ St w0 (col0 col) col_17 w_16 ∧ Sl (Rep.slice (Rep.int .i64)) col_17 w_16 a0 cap0 p0_parents ∧ Own Rep.bool 4 1 col_17 w_16 a_19 cap_20 at_18 ∧ f 0 = (.slice a0 p0_parents.length cap0) ∧ f 1 = (.int .i64 p1_s) ∧ f 2 = (.int .i64 p2_n) ∧ f 7 = (.slice a_19 at_18.length cap_20) ∧ f 8 = (.int .i64 i_22) ∧ f 1000000 = (enc [])) N ⟨col_4, a_2, p0_parents.length, xs_14, 0, N, rfl, hm, hst, h0, h_12, rfl, rfl, rfl, rfl, rfl, rfl⟩ ?_
  clear hm; intro n f w_16 hI
  obtain ⟨col_17, a_19, cap_20, at_18, i_22, n_15, hn, hm, hst, h0, h_21, hs0, hs1, hs2, hs7, hs8, hs1000000⟩ := hI
  subst hn
  refine .ld (d := 0) (v := (.slice a0 p0_parents.length cap0)) hs0 ?_
  refine .ld (d := 1) (v := (.int .i64 p1_s)) hs1 ?_
  refine .ld (d := 2) (v := (.int .i64 p2_n)) hs2 ?_
  refine .ld (d := 7) (v := (.slice a_19 at_18.length cap_20)) hs7 ?_
  refine .ld (d := 8) (v := (.int .i64 i_22)) hs8 ?_
  refine .ld (d := 1000000) (v := (enc [])) hs1000000 ?_
  clear hs0 hs1 hs2 hs7 hs8 hs1000000
  cases n_15 with
  | zero => rw [m_credenceref14_walks_L1.eq_1] at hm; cases hm
  | succ n_15 =>
    rw [m_credenceref14_walks_L1.eq_2] at hm
    refine wseq ?_
    refine wseq ?_
    refine wregion ?_
    refine lv (v := (.int .i64 i_22)) rfl rfl (r_move rfl) ?_
    refine lv (v := (.int .i64 p2_n)) rfl rfl (r_move rfl) ?_
    refine lv (v := (.bool (decide (i_22 < p2_n)))) rfl rfl (r_lss i_22 p2_n rfl rfl) ?_
    refine lnil ?_
    refine wcond (decide (i_22 < p2_n)) rfl (fun hb => ?_) (fun hb => ?_)
    · rw [if_pos hb] at hm
      clear hb
      refine wskip ?_
      refine wseq ?_
      refine wblock ?_
      refine wseq ?_
      refine wregion ?_
      refine lv (v := (.slice a0 p0_parents.length cap0)) rfl rfl (r_move rfl) ?_
      refine lv (v := (.int .i64 (p0_parents.length : Int))) rfl rfl (r_len Try.underlying22 rfl) ?_
      obtain ⟨hb_23, hm⟩ := chk_some hm
      refine l_make (col := col_17) (w := w_16) (r := Rep.bool) (n := p0_parents.length) (x0 := false) 2 rfl Try.underlying64 Try.t4 rfl rfl rfl rfl rfl rfl rfl hb_23.1 hb_23.2 (rd_bool false) ?_
      intro a_24 w_25 col_26 hg_27 h_28
      replace h0 := h0.gr hg_27
      replace h_21 := h_21.gr hg_27
      replace hst := hst.grow hg_27
      refine lv (v := (.slice a_24 ((List.replicate p0_parents.length (false : Bool)).length) p0_parents.length)) rfl rfl (r_assign rfl) ?_
      refine lnil ?_
      refine wseq ?_
      refine wseq ?_
      refine wregion ?_
      refine lv (v := (.int .i64 p1_s)) rfl rfl (r_move rfl) ?_
      refine lv (v := (.int .i64 p1_s)) rfl rfl (r_assign rfl) ?_
      refine lnil ?_
      refine wblock ?_
      refine wloop (fun n f w_30 => ∃ (col_31 : Col) (v_32 : Int) (a_34 : Option Addr) (cap_35 : Nat) (next_33 : List Bool) (n_29 : Nat), n_29 = n ∧ m_credenceref14_walks_L2 N p0_parents p1_s at_18 i_22 (m_credenceref14_walks_L1 N p0_parents p1_s p2_n n_15) n_29 v_32 next_33 = some r ∧ St w0 (col0 col) col_31 w_30 ∧ Sl (Rep.slice (Rep.int .i64)) col_31 w_30 a0 cap0 p0_parents ∧ Own Rep.bool 4 1 col_31 w_30 a_19 cap_20 at_18 ∧ Own Rep.bool 4 2 col_31 w_30 a_34 cap_35 next_33 ∧ f 0 = (.slice a0 p0_parents.length cap0) ∧ f 1 = (.int .i64 p1_s) ∧ f 10 = (.int .i64 v_32) ∧ f 2 = (.int .i64 p2_n) ∧ f 7 = (.slice a_19 at_18.length cap_20) ∧ f 8 = (.int .i64 i_22) ∧ f 9 = (.slice a_34 next_33.length cap_35) ∧ f 1000000 = (enc [])) N ⟨col_26, p1_s, a_24, p0_parents.length, (List.replicate p0_parents.length (false : Bool)), N, rfl, hm, hst, h0, h_21, h_28, rfl, rfl, rfl, rfl, rfl, rfl, rfl, rfl⟩ ?_
      clear hm; intro n f w_30 hI
      obtain ⟨col_31, v_32, a_34, cap_35, next_33, n_29, hn, hm, hst, h0, h_21, h_36, hs0, hs1, hs10, hs2, hs7, hs8, hs9, hs1000000⟩ := hI
      subst hn
      refine .ld (d := 0) (v := (.slice a0 p0_parents.length cap0)) hs0 ?_
      refine .ld (d := 1) (v := (.int .i64 p1_s)) hs1 ?_
      refine .ld (d := 10) (v := (.int .i64 v_32)) hs10 ?_
      refine .ld (d := 2) (v := (.int .i64 p2_n)) hs2 ?_
      refine .ld (d := 7) (v := (.slice a_19 at_18.length cap_20)) hs7 ?_
      refine .ld (d := 8) (v := (.int .i64 i_22)) hs8 ?_
      refine .ld (d := 9) (v := (.slice a_34 next_33.length cap_35)) hs9 ?_
      refine .ld (d := 1000000) (v := (enc [])) hs1000000 ?_
      clear hs0 hs1 hs10 hs2 hs7 hs8 hs9 hs1000000
      cases n_29 with
      | zero => rw [m_credenceref14_walks_L2.eq_1] at hm; cases hm
      | succ n_29 =>
        rw [m_credenceref14_walks_L2.eq_2] at hm
        refine wseq ?_
        refine wseq ?_
        refine wregion ?_
        refine lv (v := (.int .i64 v_32)) rfl rfl (r_move rfl) ?_
        refine lv (v := (.slice a0 p0_parents.length cap0)) rfl rfl (r_move rfl) ?_
        refine lv (v := (.int .i64 (p0_parents.length : Int))) rfl rfl (r_len Try.underlying22 rfl) ?_
        refine lv (v := (.bool (decide (v_32 < (p0_parents.length : Int))))) rfl rfl (r_lss v_32 (p0_parents.length : Int) rfl rfl) ?_
        refine lnil ?_
        refine wcond (decide (v_32 < (p0_parents.length : Int))) rfl (fun hb => ?_) (fun hb => ?_)
        · rw [if_pos hb] at hm
          clear hb
          refine wskip ?_
          refine wseq ?_
          refine wblock ?_
          refine wseq ?_
          refine wregion ?_
          refine lv (v := (.int .i64 0)) rfl rfl (r_assign rfl) ?_
          refine lnil ?_
          refine wblock ?_
          refine wloop (fun n f w_38 => ∃ (col_39 : Col) (k_40 : Int) (a_42 : Option Addr) (cap_43 : Nat) (next_41 : List Bool) (n_37 : Nat), n_37 = n ∧ m_credenceref14_walks_L3 N p0_parents p1_s at_18 v_32 (m_credenceref14_walks_L2 N p0_parents p1_s at_18 i_22 (m_credenceref14_walks_L1 N p0_parents p1_s p2_n n_15) n_29) n_37 k_40 next_41 = some r ∧ St w0 (col0 col) col_39 w_38 ∧ Sl (Rep.slice (Rep.int .i64)) col_39 w_38 a0 cap0 p0_parents ∧ Own Rep.bool 4 1 col_39 w_38 a_19 cap_20 at_18 ∧ Own Rep.bool 4 2 col_39 w_38 a_42 cap_43 next_41 ∧ f 0 = (.slice a0 p0_parents.length cap0) ∧ f 1 = (.int .i64 p1_s) ∧ f 10 = (.int .i64 v_32) ∧ f 11 = (.int .i64 k_40) ∧ f 2 = (.int .i64 p2_n) ∧ f 7 = (.slice a_19 at_18.length cap_20) ∧ f 8 = (.int .i64 i_22) ∧ f 9 = (.slice a_42 next_41.length cap_43) ∧ f 1000000 = (enc [])) N ⟨col_31, 0, a_34, cap_35, next_33, N, rfl, hm, hst, h0, h_21, h_36, rfl, rfl, rfl, rfl, rfl, rfl, rfl, rfl, rfl⟩ ?_
          clear hm; intro n f w_38 hI
          obtain ⟨col_39, k_40, a_42, cap_43, next_41, n_37, hn, hm, hst, h0, h_21, h_44, hs0, hs1, hs10, hs11, hs2, hs7, hs8, hs9, hs1000000⟩ := hI
          subst hn
          refine .ld (d := 0) (v := (.slice a0 p0_parents.length cap0)) hs0 ?_
          refine .ld (d := 1) (v := (.int .i64 p1_s)) hs1 ?_
          refine .ld (d := 10) (v := (.int .i64 v_32)) hs10 ?_
          refine .ld (d := 11) (v := (.int .i64 k_40)) hs11 ?_
          refine .ld (d := 2) (v := (.int .i64 p2_n)) hs2 ?_
          refine .ld (d := 7) (v := (.slice a_19 at_18.length cap_20)) hs7 ?_
          refine .ld (d := 8) (v := (.int .i64 i_22)) hs8 ?_
          refine .ld (d := 9) (v := (.slice a_42 next_41.length cap_43)) hs9 ?_
          refine .ld (d := 1000000) (v := (enc [])) hs1000000 ?_
          clear hs0 hs1 hs10 hs11 hs2 hs7 hs8 hs9 hs1000000
          cases n_37 with
          | zero => rw [m_credenceref14_walks_L3.eq_1] at hm; cases hm
          | succ n_37 =>
            rw [m_credenceref14_walks_L3.eq_2] at hm
            refine wseq ?_
            refine wseq ?_
            refine wregion ?_
            refine lv (v := (.int .i64 k_40)) rfl rfl (r_move rfl) ?_
            refine lv (v := (.slice a0 p0_parents.length cap0)) rfl rfl (r_move rfl) ?_
            refine lv (v := (.int .i64 v_32)) rfl rfl (r_move rfl) ?_
            obtain ⟨e_45, hj_46, hm⟩ := bind_some hm
            refine lv (v := (sptr a0 (Int.toNat v_32 * 1))) rfl rfl (r_idx Try.underlying22 Try.sizeOf31 rfl rfl (at?_some hj_46).1 (at?_some hj_46).2.1 (h0.addr hj_46)) ?_
            obtain ⟨_, hr_47, hA_48⟩ := h0.atN hj_46
            obtain ⟨⟨a_49, cap_50, rfl, h_51⟩, _⟩ := hr_47
            refine lv (v := (.slice a_49 e_45.length cap_50)) rfl rfl (r_ld Try.isAgg31 rfl hA_48.one) ?_
            refine lv (v := (.int .i64 (e_45.length : Int))) rfl rfl (r_len Try.underlying31 rfl) ?_
            refine lv (v := (.bool (decide (k_40 < (e_45.length : Int))))) rfl rfl (r_lss k_40 (e_45.length : Int) rfl rfl) ?_
            refine lnil ?_
            refine wcond (decide (k_40 < (e_45.length : Int))) rfl (fun hb => ?_) (fun hb => ?_)
            · rw [if_pos hb] at hm
              clear hb
              refine wskip ?_
              refine wseq ?_
              refine Wp.cut (fun f w_52 => ∃ (col_53 : Col) (a_55 : Option Addr) (cap_56 : Nat) (next_54 : List Bool), m_credenceref14_walks_J1 k_40 (m_credenceref14_walks_L3 N p0_parents p1_s at_18 v_32 (m_credenceref14_walks_L2 N p0_parents p1_s at_18 i_22 (m_credenceref14_walks_L1 N p0_parents p1_s p2_n n_15) n_29) n_37) next_54 = some r ∧ St w0 (col0 col) col_53 w_52 ∧ Sl (Rep.slice (Rep.int .i64)) col_53 w_52 a0 cap0 p0_parents ∧ Own Rep.bool 4 1 col_53 w_52 a_19 cap_20 at_18 ∧ Own Rep.bool 4 2 col_53 w_52 a_55 cap_56 next_54 ∧ f 0 = (.slice a0 p0_parents.length cap0) ∧ f 1 = (.int .i64 p1_s) ∧ f 10 = (.int .i64 v_32) ∧ f 11 = (.int .i64 k_40) ∧ f 2 = (.int .i64 p2_n) ∧ f 7 = (.slice a_19 at_18.length cap_20) ∧ f 8 = (.int .i64 i_22) ∧ f 9 = (.slice a_55 next_54.length cap_56) ∧ f 1000000 = (enc [])) ?_ ?_
              · intro f w_52 hJ
                obtain ⟨col_53, a_55, cap_56, next_54, hm, hst, h0, h_21, h_57, hs0, hs1, hs10, hs11, hs2, hs7, hs8, hs9, hs1000000⟩ := hJ
                rw [m_credenceref14_walks_J1.eq_1] at hm
                refine .ld (d := 0) (v := (.slice a0 p0_parents.length cap0)) hs0 ?_
                refine .ld (d := 1) (v := (.int .i64 p1_s)) hs1 ?_
                refine .ld (d := 10) (v := (.int .i64 v_32)) hs10 ?_
                refine .ld (d := 11) (v := (.int .i64 k_40)) hs11 ?_
                refine .ld (d := 2) (v := (.int .i64 p2_n)) hs2 ?_
                refine .ld (d := 7) (v := (.slice a_19 at_18.length cap_20)) hs7 ?_
                refine .ld (d := 8) (v := (.int .i64 i_22)) hs8 ?_
                refine .ld (d := 9) (v := (.slice a_55 next_54.length cap_56)) hs9 ?_
                refine .ld (d := 1000000) (v := (enc [])) hs1000000 ?_
                clear hs0 hs1 hs10 hs11 hs2 hs7 hs8 hs9 hs1000000
                refine wregion ?_
                refine lv (v := (.int .i64 k_40)) rfl rfl (r_move rfl) ?_
                refine lv (v := (.int .i64 (IntKind.i64.wrap (k_40 + 1)))) rfl rfl (r_add k_40 1 rfl rfl) ?_
                refine lv (v := (.int .i64 (IntKind.i64.wrap (k_40 + 1)))) rfl rfl (r_assign rfl) ?_
                refine lnil ?_
                exact ⟨n_37, by omega, ⟨col_53, (IntKind.i64.wrap (k_40 + 1)), a_55, cap_56, next_54, n_37, rfl, hm, hst, h0, h_21, h_57, rfl, rfl, rfl, rfl, rfl, rfl, rfl, rfl, rfl⟩⟩
              · refine wblock ?_
                refine wseq ?_
                refine wregion ?_
                refine lv (v := (.slice a0 p0_parents.length cap0)) rfl rfl (r_move rfl) ?_
                refine lv (v := (.int .i64 v_32)) rfl rfl (r_move rfl) ?_
                refine lv (v := (sptr a0 (Int.toNat v_32 * 1))) rfl rfl (r_idx Try.underlying22 Try.sizeOf31 rfl rfl (at?_some hj_46).1 (at?_some hj_46).2.1 (h0.addr hj_46)) ?_
                obtain ⟨_, hr_58, hA_59⟩ := h0.atN hj_46
                obtain ⟨⟨a_60, cap_61, rfl, h_62⟩, _⟩ := hr_58
                refine lv (v := (.slice a_60 e_45.length cap_61)) rfl rfl (r_ld Try.isAgg31 rfl hA_59.one) ?_
                refine lv (v := (.int .i64 k_40)) rfl rfl (r_move rfl) ?_
                obtain ⟨e_63, hj_64, hm⟩ := bind_some hm
                refine lv (v := (sptr a_60 (Int.toNat k_40 * 1))) rfl rfl (r_idx Try.underlying31 Try.sizeOf3 rfl rfl (at?_some hj_64).1 (at?_some hj_64).2.1 (h_62.addr hj_64)) ?_
                refine lv (v := (.int .i64 e_63)) rfl rfl (r_ld Try.isAgg3 rfl (h_62.atInt hj_64)) ?_
                refine lv (v := (.int .i64 e_63)) rfl rfl (r_assign rfl) ?_
                refine lnil ?_
                refine wregion ?_
                refine lv (v := (.slice a_42 next_41.length cap_43)) rfl rfl (r_move rfl) ?_
                refine lv (v := (.int .i64 v_32)) rfl rfl (r_move rfl) ?_
                refine lv (v := (.slice a_42 next_41.length cap_43)) rfl rfl (r_move rfl) ?_
                refine lv (v := (.int .i64 v_32)) rfl rfl (r_move rfl) ?_
                obtain ⟨e_65, hj_66, hm⟩ := bind_some hm
                refine lv (v := (sptr a_42 (Int.toNat v_32 * 1))) rfl rfl (r_idx Try.underlying64 Try.sizeOf4 rfl rfl (at?_some hj_66).1 (at?_some hj_66).2.1 (h_44.addr hj_66)) ?_
                refine lv (v := (.bool e_65)) rfl rfl (r_ld Try.isAgg4 rfl (h_44.atBool hj_66)) ?_
                refine lv (v := (.bool e_65)) rfl rfl (r_move rfl) ?_
                by_cases hg_67 : e_65 = true
                · rw [if_pos hg_67] at hm
                  refine lp (b := e_65) 56 rfl rfl rfl rfl (by rw [hg_67]; rfl) ?_
                  refine lp (b := e_65) 56 rfl rfl rfl rfl (by rw [hg_67]; rfl) ?_
                  refine lp (b := e_65) 56 rfl rfl rfl rfl (by rw [hg_67]; rfl) ?_
                  refine lp (b := e_65) 56 rfl rfl rfl rfl (by rw [hg_67]; rfl) ?_
                  refine lpU 60 rfl rfl rfl rfl ?_
                  refine lpU 60 rfl rfl rfl rfl ?_
                  refine lpU 60 rfl rfl rfl rfl ?_
                  refine lpU 60 rfl rfl rfl rfl ?_
                  refine lp (b := e_65) 56 rfl rfl rfl rfl (by rw [hg_67]; rfl) ?_
                  refine lv (v := (.bool true)) rfl rfl (r_pickT (congrArg Value.bool hg_67) rfl) ?_
                  refine lv (v := (sptr a_42 (Int.toNat v_32 * 1))) rfl rfl (r_idx Try.underlying64 Try.sizeOf4 rfl rfl (at?_some hj_66).1 (at?_some hj_66).2.1 (h_44.addr hj_66)) ?_
                  obtain ⟨xs_73, hz_72, hm⟩ := bind_some hm
                  have hz_72 : xs_73 = next_41.set (Int.toNat v_32) true := (Option.some.inj hz_72).symm
                  refine l_store (x1 := true) (v := (.bool true)) h_44 hj_66 rfl Try.sizeOf4 (rd_bool true) rfl rfl (by decide) ?_
                  intro w_68 hk_69 hs_70 h_71
                  rw [← hz_72] at h_71
                  replace h0 := h0.kp hk_69 (by decide)
                  replace h_21 := h_21.kp hk_69 (by decide) (by decide)
                  replace hst := hst.kp hk_69 hs_70 (by decide) (by decide)
                  refine .ld (d := 9) (v := (.slice a_42 xs_73.length cap_43)) (congrArg (fun n => Value.slice a_42 n cap_43) (show next_41.length = xs_73.length by rw [hz_72, List.length_set])) ?_
                  clear h_44
                  refine lnil ?_
                  exact ⟨col_39, a_42, cap_43, xs_73, hm, hst, h0, h_21, h_71, rfl, rfl, rfl, rfl, rfl, rfl, rfl, rfl, rfl⟩
                · rw [if_neg hg_67] at hm
                  replace hg_67 := Bool.eq_false_iff.2 hg_67
                  refine lg (b := e_65) 56 rfl rfl rfl (by rw [hg_67]; rfl) ?_
                  refine lv (v := (.int .i64 e_63)) rfl rfl (r_move rfl) ?_
                  refine lg (b := e_65) 56 rfl rfl rfl (by rw [hg_67]; rfl) ?_
                  refine lv (v := (.int .i64 p1_s)) rfl rfl (r_move rfl) ?_
                  refine lg (b := e_65) 56 rfl rfl rfl (by rw [hg_67]; rfl) ?_
                  refine lv (v := (.bool (decide (p1_s ≤ e_63)))) rfl rfl (r_geq e_63 p1_s rfl rfl) ?_
                  refine lg (b := e_65) 56 rfl rfl rfl (by rw [hg_67]; rfl) ?_
                  refine lv (v := (.bool (decide (p1_s ≤ e_63)))) rfl rfl (r_move rfl) ?_
                  by_cases hg_74 : (decide (p1_s ≤ e_63)) = true
                  · rw [if_pos hg_74] at hm
                    refine lg (b := decide (p1_s ≤ e_63)) 60 rfl rfl rfl (by rw [hg_74]; rfl) ?_
                    refine lv (v := (.slice a_19 at_18.length cap_20)) rfl rfl (r_move rfl) ?_
                    refine lg (b := decide (p1_s ≤ e_63)) 60 rfl rfl rfl (by rw [hg_74]; rfl) ?_
                    refine lv (v := (.int .i64 e_63)) rfl rfl (r_move rfl) ?_
                    refine lg (b := decide (p1_s ≤ e_63)) 60 rfl rfl rfl (by rw [hg_74]; rfl) ?_
                    obtain ⟨e_75, hj_76, hm⟩ := bind_some hm
                    refine lv (v := (sptr a_19 (Int.toNat e_63 * 1))) rfl rfl (r_idx Try.underlying64 Try.sizeOf4 rfl rfl (at?_some hj_76).1 (at?_some hj_76).2.1 (h_21.addr hj_76)) ?_
                    refine lg (b := decide (p1_s ≤ e_63)) 60 rfl rfl rfl (by rw [hg_74]; rfl) ?_
                    refine lv (v := (.bool e_75)) rfl rfl (r_ld Try.isAgg4 rfl (h_21.atBool hj_76)) ?_
                    refine lg (b := e_65) 56 rfl rfl rfl (by rw [hg_67]; rfl) ?_
                    refine lv (v := (.bool e_75)) rfl rfl (r_pickT (congrArg Value.bool hg_74) rfl) ?_
                    refine lv (v := (.bool e_75)) rfl rfl (r_pickF (congrArg Value.bool hg_67) rfl) ?_
                    refine lv (v := (sptr a_42 (Int.toNat v_32 * 1))) rfl rfl (r_idx Try.underlying64 Try.sizeOf4 rfl rfl (at?_some hj_66).1 (at?_some hj_66).2.1 (h_44.addr hj_66)) ?_
                    obtain ⟨xs_82, hz_81, hm⟩ := bind_some hm
                    have hz_81 : xs_82 = next_41.set (Int.toNat v_32) e_75 := (Option.some.inj hz_81).symm
                    refine l_store (x1 := e_75) (v := (.bool e_75)) h_44 hj_66 rfl Try.sizeOf4 (rd_bool e_75) rfl rfl (by decide) ?_
                    intro w_77 hk_78 hs_79 h_80
                    rw [← hz_81] at h_80
                    replace h0 := h0.kp hk_78 (by decide)
                    replace h_21 := h_21.kp hk_78 (by decide) (by decide)
                    replace hst := hst.kp hk_78 hs_79 (by decide) (by decide)
                    refine .ld (d := 9) (v := (.slice a_42 xs_82.length cap_43)) (congrArg (fun n => Value.slice a_42 n cap_43) (show next_41.length = xs_82.length by rw [hz_81, List.length_set])) ?_
                    clear h_44
                    refine lnil ?_
                    exact ⟨col_39, a_42, cap_43, xs_82, hm, hst, h0, h_21, h_80, rfl, rfl, rfl, rfl, rfl, rfl, rfl, rfl, rfl⟩
                  · rw [if_neg hg_74] at hm
                    replace hg_74 := Bool.eq_false_iff.2 hg_74
                    refine lp (b := decide (p1_s ≤ e_63)) 60 rfl rfl rfl rfl (by rw [hg_74]; rfl) ?_
                    refine lp (b := decide (p1_s ≤ e_63)) 60 rfl rfl rfl rfl (by rw [hg_74]; rfl) ?_
                    refine lp (b := decide (p1_s ≤ e_63)) 60 rfl rfl rfl rfl (by rw [hg_74]; rfl) ?_
                    refine lp (b := decide (p1_s ≤ e_63)) 60 rfl rfl rfl rfl (by rw [hg_74]; rfl) ?_
                    refine lg (b := e_65) 56 rfl rfl rfl (by rw [hg_67]; rfl) ?_
                    refine lv (v := (.bool false)) rfl rfl (r_pickF (congrArg Value.bool hg_74) rfl) ?_
                    refine lv (v := (.bool false)) rfl rfl (r_pickF (congrArg Value.bool hg_67) rfl) ?_
                    refine lv (v := (sptr a_42 (Int.toNat v_32 * 1))) rfl rfl (r_idx Try.underlying64 Try.sizeOf4 rfl rfl (at?_some hj_66).1 (at?_some hj_66).2.1 (h_44.addr hj_66)) ?_
                    obtain ⟨xs_88, hz_87, hm⟩ := bind_some hm
                    have hz_87 : xs_88 = next_41.set (Int.toNat v_32) false := (Option.some.inj hz_87).symm
                    refine l_store (x1 := false) (v := (.bool false)) h_44 hj_66 rfl Try.sizeOf4 (rd_bool false) rfl rfl (by decide) ?_
                    intro w_83 hk_84 hs_85 h_86
                    rw [← hz_87] at h_86
                    replace h0 := h0.kp hk_84 (by decide)
                    replace h_21 := h_21.kp hk_84 (by decide) (by decide)
                    replace hst := hst.kp hk_84 hs_85 (by decide) (by decide)
                    refine .ld (d := 9) (v := (.slice a_42 xs_88.length cap_43)) (congrArg (fun n => Value.slice a_42 n cap_43) (show next_41.length = xs_88.length by rw [hz_87, List.length_set])) ?_
                    clear h_44
                    refine lnil ?_
                    exact ⟨col_39, a_42, cap_43, xs_88, hm, hst, h0, h_21, h_86, rfl, rfl, rfl, rfl, rfl, rfl, rfl, rfl, rfl⟩
            · rw [if_neg (by rw [hb]; decide)] at hm
              clear hb
              refine wexit (inB_hit ?_)
              refine wregion ?_
              refine lv (v := (.int .i64 v_32)) rfl rfl (r_move rfl) ?_
              refine lv (v := (.int .i64 (IntKind.i64.wrap (v_32 + 1)))) rfl rfl (r_add v_32 1 rfl rfl) ?_
              refine lv (v := (.int .i64 (IntKind.i64.wrap (v_32 + 1)))) rfl rfl (r_assign rfl) ?_
              refine lnil ?_
              exact ⟨n_29, by omega, ⟨col_39, (IntKind.i64.wrap (v_32 + 1)), a_42, cap_43, next_41, n_29, rfl, hm, hst, h0, h_21, h_44, rfl, rfl, rfl, rfl, rfl, rfl, rfl, rfl⟩⟩
        · rw [if_neg (by rw [hb]; decide)] at hm
          clear hb
          refine wexit (inB_hit ?_)
          refine wregion ?_
          refine lv (v := (.slice a_34 next_33.length cap_35)) rfl rfl (r_move rfl) ?_
          refine lv (v := (.slice a_34 next_33.length cap_35)) rfl rfl (r_assign rfl) ?_
          refine lnil ?_
          refine wregion ?_
          refine lv (v := (.int .i64 i_22)) rfl rfl (r_move rfl) ?_
          refine lv (v := (.int .i64 (IntKind.i64.wrap (i_22 + 1)))) rfl rfl (r_add i_22 1 rfl rfl) ?_
          refine lv (v := (.int .i64 (IntKind.i64.wrap (i_22 + 1)))) rfl rfl (r_assign rfl) ?_
          refine lnil ?_
          replace h0 := h0.recol 2 1 (by decide)
          replace h_36 := h_36.recolSelf 1 (by decide)
          replace hst := hst.recol 2 1 (by decide) (by decide)
          exact ⟨n_15, by omega, ⟨(rcC 2 1 col_31), a_34, cap_35, next_33, (IntKind.i64.wrap (i_22 + 1)), n_15, rfl, hm, hst, h0, h_36, rfl, rfl, rfl, rfl, rfl, rfl⟩⟩
    · rw [if_neg (by rw [hb]; decide)] at hm
      clear hb
      refine wexit (inB_hit ?_)
      refine wseq ?_
      refine wregion ?_
      refine lv (v := (.slice a_19 at_18.length cap_20)) rfl rfl (r_move rfl) ?_
      refine lv (v := (.slice a_19 at_18.length cap_20)) rfl rfl (r_assign rfl) ?_
      refine lnil ?_
      refine wret ?_
      cases hm
      exact ⟨rfl, colF w0.heap.size col col_17 (fun n => bif Nat.beq n 1 then c1 else 0), a_19, cap_20, rfl, hst.fin (fun n => bif Nat.beq n 1 then c1 else 0), hst.finOwn (g := (fun n => bif Nat.beq n 1 then c1 else 0)) rfl h_21 (by decide) (by decide) rfl⟩



theorem el3_41 : ElemOk Try.prog 3 1 8 := ⟨Try.t3, _, rfl, rfl, rfl, rfl, rfl⟩

def m_credenceref14_Cycle_J1 (k_56 : Int) (kk_L4 : (Int → Int → Option (List Int))) (least_59 : Int) : Option (List Int) :=
  kk_L4 least_59 (IntKind.i64.wrap (k_56 + 1))

def m_credenceref14_Cycle_J2 (e_45 : (List Int)) (least_55 : Int) (k_56 : Int) (kk_L4 : (Int → Int → Option (List Int))) (v_69 : Bool) : Option (List Int) :=
  if v_69 = true then ((at? e_45 k_56).bind fun e_70 => m_credenceref14_Cycle_J1 k_56 kk_L4 e_70) else (m_credenceref14_Cycle_J1 k_56 kk_L4 least_55)

def m_credenceref14_Cycle_L4 (N : Nat) (s_12 : Int) (l_31 : List Int) (kk_L3 : ((List Int) → Option (List Int))) (r_35 : (List Bool)) (e_45 : (List Int)) : Nat → Int → Int → Option (List Int)
  | 0, _, _ => none
  | n_52 + 1, least_55, k_56 => if (decide (k_56 < (e_45.length : Int))) = true then ((at? e_45 k_56).bind fun e_72 => if (decide (s_12 ≤ e_72)) = true then ((at? r_35 e_72).bind fun e_75 => if e_75 = true then (if (decide (least_55 < 0)) = true then (m_credenceref14_Cycle_J2 e_45 least_55 k_56 (m_credenceref14_Cycle_L4 N s_12 l_31 kk_L3 r_35 e_45 n_52) true) else (m_credenceref14_Cycle_J2 e_45 least_55 k_56 (m_credenceref14_Cycle_L4 N s_12 l_31 kk_L3 r_35 e_45 n_52) (decide (e_72 < least_55)))) else (m_credenceref14_Cycle_J2 e_45 least_55 k_56 (m_credenceref14_Cycle_L4 N s_12 l_31 kk_L3 r_35 e_45 n_52) false)) else (m_credenceref14_Cycle_J2 e_45 least_55 k_56 (m_credenceref14_Cycle_L4 N s_12 l_31 kk_L3 r_35 e_45 n_52) false)) else (chk ((l_31.length + [least_55].length) * 8 ≤ 140737488355328 ∧ l_31.length + [least_55].length ≤ maxLen) (kk_L3 (l_31 ++ [least_55])))

def m_credenceref14_Cycle_L3 (N : Nat) (p0_parents : (List (List Int))) (n_8 : Int) (s_12 : Int) : Nat → (List Int) → Option (List Int)
  | 0, _ => none
  | n_28 + 1, l_31 => if (decide ((l_31.length : Int) < n_8)) = true then ((m_credenceref14_walks N p0_parents s_12 (IntKind.i64.wrap (n_8 - (l_31.length : Int)))).bind fun r_35 => (at? l_31 (IntKind.i64.wrap ((l_31.length : Int) - 1))).bind fun e_43 => (at? p0_parents e_43).bind fun e_45 => m_credenceref14_Cycle_L4 N s_12 l_31 (m_credenceref14_Cycle_L3 N p0_parents n_8 s_12 n_28) r_35 e_45 N (-1) 0) else (some l_31)

def m_credenceref14_Cycle_L2 (N : Nat) (p0_parents : (List (List Int))) (n_8 : Int) (kk_L1 : (Int → Option (List Int))) : Nat → Int → Option (List Int)
  | 0, _ => none
  | n_9 + 1, s_12 => if (decide (s_12 < (p0_parents.length : Int))) = true then ((m_credenceref14_walks N p0_parents s_12 n_8).bind fun r_13 => (at? r_13 s_12).bind fun e_21 => if (!e_21) = true then ((m_credenceref14_Cycle_L2 N p0_parents n_8 kk_L1 n_9) (IntKind.i64.wrap (s_12 + 1))) else (m_credenceref14_Cycle_L3 N p0_parents n_8 s_12 N [s_12])) else (kk_L1 (IntKind.i64.wrap (n_8 + 1)))

def m_credenceref14_Cycle_L1 (N : Nat) (p0_parents : (List (List Int))) : Nat → Int → Option (List Int)
  | 0, _ => none
  | n_5 + 1, n_8 => if (decide (n_8 ≤ (p0_parents.length : Int))) = true then (m_credenceref14_Cycle_L2 N p0_parents n_8 (m_credenceref14_Cycle_L1 N p0_parents n_5) N 0) else (some ([] : List Int))

def m_credenceref14_Cycle (N : Nat) (p0_parents : (List (List Int))) : Option (List Int) :=
  (m_credenceref14_Check N p0_parents).bind fun r_1 => if (!decide (r_1 = 42)) = true then (some ([] : List Int)) else (m_credenceref14_Cycle_L1 N p0_parents N 1)

set_option maxRecDepth 100000 in
theorem c_credenceref14_Cycle (N : Nat) (c1 : Nat) (col : Col) (w0 : World) (a0 : Option Addr) (cap0 : Nat) (p0_parents : (List (List Int))) (h0 : Sl (Rep.slice (Rep.int .i64)) col w0 a0 cap0 p0_parents) (r : (List Int)) (hm : m_credenceref14_Cycle N p0_parents = some r) :
    Calls Try.prog 41 #[(.slice a0 p0_parents.length cap0)] w0 (fun e w' => ∃ (col' : Col) (ra1 : Option Addr) (rc2 : Nat), e = .returned ((.slice ra1 r.length rc2)) ∧ Grow col w0 col' w' ∧ Own (Rep.int .i64) 3 c1 col' w' ra1 rc2 r) := by
  refine calls_of1 2 (m := 97) (args := [(.slice a0 p0_parents.length cap0)]) Try.func41 rfl rfl rfl rfl rfl ?_
  rw [m_credenceref14_Cycle.eq_1] at hm
  have hst := St.start col w0
  replace h0 := h0.keep (Stay.start col w0)
  refine wseq ?_
  refine wregion ?_
  refine lv (v := (.slice none (([] : List Int).length) 0)) rfl rfl (r_assign rfl) ?_
  refine lnil ?_
  refine wseq ?_
  refine wseq ?_
  refine wregion ?_
  refine lv (v := (.slice a0 p0_parents.length cap0)) rfl rfl (r_move rfl) ?_
  obtain ⟨r_1, hr_2, hm⟩ := bind_some hm
  refine lc rfl rfl (r_call1 Try.call22 rfl) (c_credenceref14_Check N (col0 col) _ a0 cap0 p0_parents h0 r_1 hr_2) ?_
  rintro _ w_3 ⟨rfl, hg_4⟩
  refine ⟨_, rfl, ?_⟩
  replace hg_4 : Grow (col0 col) w0 (col0 col) w_3 := .of_below hg_4
  replace h0 := h0.gr hg_4
  replace hst := hst.grow hg_4
  refine lv (v := (.bool (!decide (r_1 = 42)))) rfl rfl (r_neq r_1 42 rfl rfl) ?_
  refine lnil ?_
  refine wcond (!decide (r_1 = 42)) rfl (fun hb => ?_) (fun hb => ?_)
  · rw [if_pos hb] at hm
    clear hb
    refine wseq ?_
    refine wregion ?_
    refine lv (v := (.slice none (([] : List Int).length) 0)) rfl rfl (r_assign rfl) ?_
    refine lnil ?_
    refine wret ?_
    cases hm
    exact ⟨rfl, colF w0.heap.size col (col0 col) (fun n => 0), none, 0, rfl, hst.fin (fun n => 0), Own.nil⟩
  · rw [if_neg (by rw [hb]; decide)] at hm
    clear hb
    refine wskip ?_
    refine wseq ?_
    refine wseq ?_
    refine wregion ?_
    refine lv (v := (.int .i64 1)) rfl rfl (r_assign rfl) ?_
    refine lnil ?_
    refine wblock ?_
    refine wloop (fun n f w_6 => ∃ (col_7 : Col) (n_8 : Int) (n_5 : Nat), n_5 = n ∧ m_credenceref14_Cycle_L1 N p0_parents n_5 n_8 = some r ∧ St w0 (col0 col) col_7 w_6 ∧ Sl (Rep.slice (Rep.int .i64)) col_7 w_6 a0 cap0 p0_parents ∧ f 0 = (.slice a0 p0_parents.length cap0) ∧ f 3 = (.int .i64 n_8) ∧ f 1000000 = (enc [])) N ⟨(col0 col), 1, N, rfl, hm, hst, h0, rfl, rfl, rfl⟩ ?_
    clear hm; intro n f w_6 hI
    obtain ⟨col_7, n_8, n_5, hn, hm, hst, h0, hs0, hs3, hs1000000⟩ := hI
    subst hn
    refine .ld (d := 0) (v := (.slice a0 p0_parents.length cap0)) hs0 ?_
    refine .ld (d := 3) (v := (.int .i64 n_8)) hs3 ?_
    refine .ld (d := 1000000) (v := (enc [])) hs1000000 ?_
    clear hs0 hs3 hs1000000
    cases n_5 with
    | zero => rw [m_credenceref14_Cycle_L1.eq_1] at hm; cases hm
    | succ n_5 =>
      rw [m_credenceref14_Cycle_L1.eq_2] at hm
      refine wseq ?_
      refine wseq ?_
      refine wregion ?_
      refine lv (v := (.int .i64 n_8)) rfl rfl (r_move rfl) ?_
      refine lv (v := (.slice a0 p0_parents.length cap0)) rfl rfl (r_move rfl) ?_
      refine lv (v := (.int .i64 (p0_parents.length : Int))) rfl rfl (r_len Try.underlying22 rfl) ?_
      refine lv (v := (.bool (decide (n_8 ≤ (p0_parents.length : Int))))) rfl rfl (r_leq n_8 (p0_parents.length : Int) rfl rfl) ?_
      refine lnil ?_
      refine wcond (decide (n_8 ≤ (p0_parents.length : Int))) rfl (fun hb => ?_) (fun hb => ?_)
      · rw [if_pos hb] at hm
        clear hb
        refine wskip ?_
        refine wseq ?_
        refine wblock ?_
        refine wseq ?_
        refine wregion ?_
        refine lv (v := (.int .i64 0)) rfl rfl (r_assign rfl) ?_
        refine lnil ?_
        refine wblock ?_
        refine wloop (fun n f w_10 => ∃ (col_11 : Col) (s_12 : Int) (n_9 : Nat), n_9 = n ∧ m_credenceref14_Cycle_L2 N p0_parents n_8 (m_credenceref14_Cycle_L1 N p0_parents n_5) n_9 s_12 = some r ∧ St w0 (col0 col) col_11 w_10 ∧ Sl (Rep.slice (Rep.int .i64)) col_11 w_10 a0 cap0 p0_parents ∧ f 0 = (.slice a0 p0_parents.length cap0) ∧ f 3 = (.int .i64 n_8) ∧ f 4 = (.int .i64 s_12) ∧ f 1000000 = (enc [])) N ⟨col_7, 0, N, rfl, hm, hst, h0, rfl, rfl, rfl, rfl⟩ ?_
        clear hm; intro n f w_10 hI
        obtain ⟨col_11, s_12, n_9, hn, hm, hst, h0, hs0, hs3, hs4, hs1000000⟩ := hI
        subst hn
        refine .ld (d := 0) (v := (.slice a0 p0_parents.length cap0)) hs0 ?_
        refine .ld (d := 3) (v := (.int .i64 n_8)) hs3 ?_
        refine .ld (d := 4) (v := (.int .i64 s_12)) hs4 ?_
        refine .ld (d := 1000000) (v := (enc [])) hs1000000 ?_
        clear hs0 hs3 hs4 hs1000000
        cases n_9 with
        | zero => rw [m_credenceref14_Cycle_L2.eq_1] at hm; cases hm
        | succ n_9 =>
          rw [m_credenceref14_Cycle_L2.eq_2] at hm
          refine wseq ?_
          refine wseq ?_
          refine wregion ?_
          refine lv (v := (.int .i64 s_12)) rfl rfl (r_move rfl) ?_
          refine lv (v := (.slice a0 p0_parents.length cap0)) rfl rfl (r_move rfl) ?_
          refine lv (v := (.int .i64 (p0_parents.length : Int))) rfl rfl (r_len Try.underlying22 rfl) ?_
          refine lv (v := (.bool (decide (s_12 < (p0_parents.length : Int))))) rfl rfl (r_lss s_12 (p0_parents.length : Int) rfl rfl) ?_
          refine lnil ?_
          refine wcond (decide (s_12 < (p0_parents.length : Int))) rfl (fun hb => ?_) (fun hb => ?_)
          · rw [if_pos hb] at hm
            clear hb
            refine wskip ?_
            refine wseq ?_
            refine wblock ?_
            refine wseq ?_
            refine wseq ?_
            refine wregion ?_
            refine lv (v := (.slice a0 p0_parents.length cap0)) rfl rfl (r_move rfl) ?_
            refine lv (v := (.int .i64 s_12)) rfl rfl (r_move rfl) ?_
            refine lv (v := (.int .i64 n_8)) rfl rfl (r_move rfl) ?_
            obtain ⟨r_13, hr_14, hm⟩ := bind_some hm
            refine lc rfl rfl (r_call3 Try.call49 rfl rfl rfl) (c_credenceref14_walks N 1 col_11 _ a0 cap0 p0_parents s_12 n_8 h0 r_13 hr_14) ?_
            rintro _ w_18 ⟨col_20, ra_15, rc_16, rfl, hg_19, rh_17⟩
            refine ⟨_, rfl, ?_⟩
            replace h0 := h0.gr hg_19
            replace hst := hst.grow hg_19
            refine lv (v := (.int .i64 s_12)) rfl rfl (r_move rfl) ?_
            obtain ⟨e_21, hj_22, hm⟩ := bind_some hm
            refine lv (v := (sptr ra_15 (Int.toNat s_12 * 1))) rfl rfl (r_idx Try.underlying64 Try.sizeOf4 rfl rfl (at?_some hj_22).1 (at?_some hj_22).2.1 (rh_17.addr hj_22)) ?_
            refine lv (v := (.bool e_21)) rfl rfl (r_ld Try.isAgg4 rfl (rh_17.atBool hj_22)) ?_
            refine lv (v := (.bool (!e_21))) rfl rfl (r_not e_21 rfl) ?_
            refine lnil ?_
            refine wcond (!e_21) rfl (fun hb => ?_) (fun hb => ?_)
            · rw [if_pos hb] at hm
              clear hb
              refine wexit (inB_hit ?_)
              refine wregion ?_
              refine lv (v := (.int .i64 s_12)) rfl rfl (r_move rfl) ?_
              refine lv (v := (.int .i64 (IntKind.i64.wrap (s_12 + 1)))) rfl rfl (r_add s_12 1 rfl rfl) ?_
              refine lv (v := (.int .i64 (IntKind.i64.wrap (s_12 + 1)))) rfl rfl (r_assign rfl) ?_
              refine lnil ?_
              exact ⟨n_9, by omega, ⟨col_20, (IntKind.i64.wrap (s_12 + 1)), n_9, rfl, hm, hst, h0, rfl, rfl, rfl, rfl⟩⟩
            · rw [if_neg (by rw [hb]; decide)] at hm
              clear hb
              refine wskip ?_
              refine wseq ?_
              refine wregion ?_
              refine lv (v := (.int .i64 s_12)) rfl rfl (r_move rfl) ?_
              refine l_lit (col := col_20) (r := (Rep.int .i64)) (xs := [s_12]) [(.int .i64 s_12)] 2 rfl Try.underlying31 el3_41 rfl rfl rfl rfl rfl rfl (by intro v hv; simp only [List.mem_cons, List.not_mem_nil, or_false] at hv; subst hv; rfl) (RowsH.ofF (Rows.consF (r := (Rep.int .i64)) (x := s_12) (cs := [(.int .i64 s_12)]) (rd_int .i64 s_12) Rows.nil0)) ?_
              intro a_23 w_24 col_25 hg_26 h_27
              replace h0 := h0.gr hg_26
              replace hst := hst.grow hg_26
              refine lv (v := (.slice a_23 ([s_12].length) 1)) rfl rfl (r_assign rfl) ?_
              refine lnil ?_
              refine wseq ?_
              refine wblock ?_
              refine wloop (fun n f w_29 => ∃ (col_30 : Col) (a_32 : Option Addr) (cap_33 : Nat) (l_31 : List Int) (n_28 : Nat), n_28 = n ∧ m_credenceref14_Cycle_L3 N p0_parents n_8 s_12 n_28 l_31 = some r ∧ St w0 (col0 col) col_30 w_29 ∧ Sl (Rep.slice (Rep.int .i64)) col_30 w_29 a0 cap0 p0_parents ∧ Own (Rep.int .i64) 3 2 col_30 w_29 a_32 cap_33 l_31 ∧ f 0 = (.slice a0 p0_parents.length cap0) ∧ f 3 = (.int .i64 n_8) ∧ f 4 = (.int .i64 s_12) ∧ f 5 = (.slice a_32 l_31.length cap_33) ∧ f 1000000 = (enc [])) N ⟨col_25, a_23, 1, [s_12], N, rfl, hm, hst, h0, h_27, rfl, rfl, rfl, rfl, rfl⟩ ?_
              clear hm; intro n f w_29 hI
              obtain ⟨col_30, a_32, cap_33, l_31, n_28, hn, hm, hst, h0, h_34, hs0, hs3, hs4, hs5, hs1000000⟩ := hI
              subst hn
              refine .ld (d := 0) (v := (.slice a0 p0_parents.length cap0)) hs0 ?_
              refine .ld (d := 3) (v := (.int .i64 n_8)) hs3 ?_
              refine .ld (d := 4) (v := (.int .i64 s_12)) hs4 ?_
              refine .ld (d := 5) (v := (.slice a_32 l_31.length cap_33)) hs5 ?_
              refine .ld (d := 1000000) (v := (enc [])) hs1000000 ?_
              clear hs0 hs3 hs4 hs5 hs1000000
              cases n_28 with
              | zero => rw [m_credenceref14_Cycle_L3.eq_1] at hm; cases hm
              | succ n_28 =>
                rw [m_credenceref14_Cycle_L3.eq_2] at hm
                refine wseq ?_
                refine wseq ?_
                refine wregion ?_
                refine lv (v := (.slice a_32 l_31.length cap_33)) rfl rfl (r_move rfl) ?_
                refine lv (v := (.int .i64 (l_31.length : Int))) rfl rfl (r_len Try.underlying31 rfl) ?_
                refine lv (v := (.int .i64 n_8)) rfl rfl (r_move rfl) ?_
                refine lv (v := (.bool (decide ((l_31.length : Int) < n_8)))) rfl rfl (r_lss (l_31.length : Int) n_8 rfl rfl) ?_
                refine lnil ?_
                refine wcond (decide ((l_31.length : Int) < n_8)) rfl (fun hb => ?_) (fun hb => ?_)
                · rw [if_pos hb] at hm
                  clear hb
                  refine wskip ?_
                  refine wblock ?_
                  refine wseq ?_
                  refine wregion ?_
                  refine lv (v := (.slice a0 p0_parents.length cap0)) rfl rfl (r_move rfl) ?_
                  refine lv (v := (.int .i64 s_12)) rfl rfl (r_move rfl) ?_
                  refine lv (v := (.int .i64 n_8)) rfl rfl (r_move rfl) ?_
                  refine lv (v := (.slice a_32 l_31.length cap_33)) rfl rfl (r_move rfl) ?_
                  refine lv (v := (.int .i64 (l_31.length : Int))) rfl rfl (r_len Try.underlying31 rfl) ?_
                  refine lv (v := (.int .i64 (IntKind.i64.wrap (n_8 - (l_31.length : Int))))) rfl rfl (r_sub n_8 (l_31.length : Int) rfl rfl) ?_
                  obtain ⟨r_35, hr_36, hm⟩ := bind_some hm
                  refine lc rfl rfl (r_call3 Try.call49 rfl rfl rfl) (c_credenceref14_walks N 3 col_30 _ a0 cap0 p0_parents s_12 (IntKind.i64.wrap (n_8 - (l_31.length : Int))) h0 r_35 hr_36) ?_
                  rintro _ w_40 ⟨col_42, ra_37, rc_38, rfl, hg_41, rh_39⟩
                  refine ⟨_, rfl, ?_⟩
                  replace h0 := h0.gr hg_41
                  replace h_34 := h_34.gr hg_41
                  replace hst := hst.grow hg_41
                  refine lv (v := (.slice ra_37 r_35.length rc_38)) rfl rfl (r_assign rfl) ?_
                  refine lnil ?_
                  refine wseq ?_
                  refine wregion ?_
                  refine lv (v := (.int .i64 (-1))) rfl rfl (r_assign rfl) ?_
                  refine lnil ?_
                  refine wseq ?_
                  refine wregion ?_
                  refine lv (v := (.slice a0 p0_parents.length cap0)) rfl rfl (r_move rfl) ?_
                  refine lv (v := (.slice a_32 l_31.length cap_33)) rfl rfl (r_move rfl) ?_
                  refine lv (v := (.slice a_32 l_31.length cap_33)) rfl rfl (r_move rfl) ?_
                  refine lv (v := (.int .i64 (l_31.length : Int))) rfl rfl (r_len Try.underlying31 rfl) ?_
                  refine lv (v := (.int .i64 (IntKind.i64.wrap ((l_31.length : Int) - 1)))) rfl rfl (r_sub (l_31.length : Int) 1 rfl rfl) ?_
                  obtain ⟨e_43, hj_44, hm⟩ := bind_some hm
                  refine lv (v := (sptr a_32 (Int.toNat (IntKind.i64.wrap ((l_31.length : Int) - 1)) * 1))) rfl rfl (r_idx Try.underlying31 Try.sizeOf3 rfl rfl (at?_some hj_44).1 (at?_some hj_44).2.1 (h_34.addr hj_44)) ?_
                  refine lv (v := (.int .i64 e_43)) rfl rfl (r_ld Try.isAgg3 rfl (h_34.atInt hj_44)) ?_
                  obtain ⟨e_45, hj_46, hm⟩ := bind_some hm
                  refine lv (v := (sptr a0 (Int.toNat e_43 * 1))) rfl rfl (r_idx Try.underlying22 Try.sizeOf31 rfl rfl (at?_some hj_46).1 (at?_some hj_46).2.1 (h0.addr hj_46)) ?_
                  obtain ⟨_, hr_47, hA_48⟩ := h0.atN hj_46
                  obtain ⟨⟨a_49, cap_50, rfl, h_51⟩, _⟩ := hr_47
                  refine lv (v := (.slice a_49 e_45.length cap_50)) rfl rfl (r_ld Try.isAgg31 rfl hA_48.one) ?_
                  refine lv (v := (.slice a_49 e_45.length cap_50)) rfl rfl (r_assign rfl) ?_
                  refine lnil ?_
                  refine wseq ?_
                  refine wseq ?_
                  refine wregion ?_
                  refine lv (v := (.int .i64 0)) rfl rfl (r_assign rfl) ?_
                  refine lnil ?_
                  refine wblock ?_
                  refine wloop (fun n f w_53 => ∃ (col_54 : Col) (least_55 : Int) (k_56 : Int) (n_52 : Nat), n_52 = n ∧ m_credenceref14_Cycle_L4 N s_12 l_31 (m_credenceref14_Cycle_L3 N p0_parents n_8 s_12 n_28) r_35 e_45 n_52 least_55 k_56 = some r ∧ St w0 (col0 col) col_54 w_53 ∧ Sl (Rep.slice (Rep.int .i64)) col_54 w_53 a0 cap0 p0_parents ∧ Own (Rep.int .i64) 3 2 col_54 w_53 a_32 cap_33 l_31 ∧ Own Rep.bool 4 3 col_54 w_53 ra_37 rc_38 r_35 ∧ Sl (Rep.int .i64) col_54 w_53 a_49 cap_50 e_45 ∧ f 0 = (.slice a0 p0_parents.length cap0) ∧ f 3 = (.int .i64 n_8) ∧ f 4 = (.int .i64 s_12) ∧ f 5 = (.slice a_32 l_31.length cap_33) ∧ f 6 = (.slice ra_37 r_35.length rc_38) ∧ f 7 = (.int .i64 least_55) ∧ f 8 = (.slice a_49 e_45.length cap_50) ∧ f 9 = (.int .i64 k_56) ∧ f 1000000 = (enc [])) N ⟨col_42, (-1), 0, N, rfl, hm, hst, h0, h_34, rh_39, h_51, rfl, rfl, rfl, rfl, rfl, rfl, rfl, rfl, rfl⟩ ?_
                  clear hm; intro n f w_53 hI
                  obtain ⟨col_54, least_55, k_56, n_52, hn, hm, hst, h0, h_34, rh_39, h_51, hs0, hs3, hs4, hs5, hs6, hs7, hs8, hs9, hs1000000⟩ := hI
                  subst hn
                  refine .ld (d := 0) (v := (.slice a0 p0_parents.length cap0)) hs0 ?_
                  refine .ld (d := 3) (v := (.int .i64 n_8)) hs3 ?_
                  refine .ld (d := 4) (v := (.int .i64 s_12)) hs4 ?_
                  refine .ld (d := 5) (v := (.slice a_32 l_31.length cap_33)) hs5 ?_
                  refine .ld (d := 6) (v := (.slice ra_37 r_35.length rc_38)) hs6 ?_
                  refine .ld (d := 7) (v := (.int .i64 least_55)) hs7 ?_
                  refine .ld (d := 8) (v := (.slice a_49 e_45.length cap_50)) hs8 ?_
                  refine .ld (d := 9) (v := (.int .i64 k_56)) hs9 ?_
                  refine .ld (d := 1000000) (v := (enc [])) hs1000000 ?_
                  clear hs0 hs3 hs4 hs5 hs6 hs7 hs8 hs9 hs1000000
                  cases n_52 with
                  | zero => rw [m_credenceref14_Cycle_L4.eq_1] at hm; cases hm
                  | succ n_52 =>
                    rw [m_credenceref14_Cycle_L4.eq_2] at hm
                    refine wseq ?_
                    refine wseq ?_
                    refine wregion ?_
                    refine lv (v := (.int .i64 k_56)) rfl rfl (r_move rfl) ?_
                    refine lv (v := (.slice a_49 e_45.length cap_50)) rfl rfl (r_move rfl) ?_
                    refine lv (v := (.int .i64 (e_45.length : Int))) rfl rfl (r_len Try.underlying31 rfl) ?_
                    refine lv (v := (.bool (decide (k_56 < (e_45.length : Int))))) rfl rfl (r_lss k_56 (e_45.length : Int) rfl rfl) ?_
                    refine lnil ?_
                    refine wcond (decide (k_56 < (e_45.length : Int))) rfl (fun hb => ?_) (fun hb => ?_)
                    · rw [if_pos hb] at hm
                      clear hb
                      refine wskip ?_
                      refine wseq ?_
                      refine Wp.cut (fun f w_57 => ∃ (col_58 : Col) (least_59 : Int), m_credenceref14_Cycle_J1 k_56 (m_credenceref14_Cycle_L4 N s_12 l_31 (m_credenceref14_Cycle_L3 N p0_parents n_8 s_12 n_28) r_35 e_45 n_52) least_59 = some r ∧ St w0 (col0 col) col_58 w_57 ∧ Sl (Rep.slice (Rep.int .i64)) col_58 w_57 a0 cap0 p0_parents ∧ Own (Rep.int .i64) 3 2 col_58 w_57 a_32 cap_33 l_31 ∧ Own Rep.bool 4 3 col_58 w_57 ra_37 rc_38 r_35 ∧ Sl (Rep.int .i64) col_58 w_57 a_49 cap_50 e_45 ∧ f 0 = (.slice a0 p0_parents.length cap0) ∧ f 3 = (.int .i64 n_8) ∧ f 4 = (.int .i64 s_12) ∧ f 5 = (.slice a_32 l_31.length cap_33) ∧ f 6 = (.slice ra_37 r_35.length rc_38) ∧ f 7 = (.int .i64 least_59) ∧ f 8 = (.slice a_49 e_45.length cap_50) ∧ f 9 = (.int .i64 k_56) ∧ f 1000000 = (enc [])) ?_ ?_
                      · intro f w_57 hJ
                        obtain ⟨col_58, least_59, hm, hst, h0, h_34, rh_39, h_51, hs0, hs3, hs4, hs5, hs6, hs7, hs8, hs9, hs1000000⟩ := hJ
                        rw [m_credenceref14_Cycle_J1.eq_1] at hm
                        refine .ld (d := 0) (v := (.slice a0 p0_parents.length cap0)) hs0 ?_
                        refine .ld (d := 3) (v := (.int .i64 n_8)) hs3 ?_
                        refine .ld (d := 4) (v := (.int .i64 s_12)) hs4 ?_
                        refine .ld (d := 5) (v := (.slice a_32 l_31.length cap_33)) hs5 ?_
                        refine .ld (d := 6) (v := (.slice ra_37 r_35.length rc_38)) hs6 ?_
                        refine .ld (d := 7) (v := (.int .i64 least_59)) hs7 ?_
                        refine .ld (d := 8) (v := (.slice a_49 e_45.length cap_50)) hs8 ?_
                        refine .ld (d := 9) (v := (.int .i64 k_56)) hs9 ?_
                        refine .ld (d := 1000000) (v := (enc [])) hs1000000 ?_
                        clear hs0 hs3 hs4 hs5 hs6 hs7 hs8 hs9 hs1000000
                        refine wregion ?_
                        refine lv (v := (.int .i64 k_56)) rfl rfl (r_move rfl) ?_
                        refine lv (v := (.int .i64 (IntKind.i64.wrap (k_56 + 1)))) rfl rfl (r_add k_56 1 rfl rfl) ?_
                        refine lv (v := (.int .i64 (IntKind.i64.wrap (k_56 + 1)))) rfl rfl (r_assign rfl) ?_
                        refine lnil ?_
                        exact ⟨n_52, by omega, ⟨col_58, least_59, (IntKind.i64.wrap (k_56 + 1)), n_52, rfl, hm, hst, h0, h_34, rh_39, h_51, rfl, rfl, rfl, rfl, rfl, rfl, rfl, rfl, rfl⟩⟩
                      · refine wblock ?_
                        refine wseq ?_
                        refine Wp.cut (fun f w_67 => ∃ (col_68 : Col) (v_69 : Bool), m_credenceref14_Cycle_J2 e_45 least_55 k_56 (m_credenceref14_Cycle_L4 N s_12 l_31 (m_credenceref14_Cycle_L3 N p0_parents n_8 s_12 n_28) r_35 e_45 n_52) v_69 = some r ∧ St w0 (col0 col) col_68 w_67 ∧ Sl (Rep.slice (Rep.int .i64)) col_68 w_67 a0 cap0 p0_parents ∧ Own (Rep.int .i64) 3 2 col_68 w_67 a_32 cap_33 l_31 ∧ Own Rep.bool 4 3 col_68 w_67 ra_37 rc_38 r_35 ∧ Sl (Rep.int .i64) col_68 w_67 a_49 cap_50 e_45 ∧ f 0 = (.slice a0 p0_parents.length cap0) ∧ f 3 = (.int .i64 n_8) ∧ f 4 = (.int .i64 s_12) ∧ f 5 = (.slice a_32 l_31.length cap_33) ∧ f 6 = (.slice ra_37 r_35.length rc_38) ∧ f 7 = (.int .i64 least_55) ∧ f 8 = (.slice a_49 e_45.length cap_50) ∧ f 87 = (.bool v_69) ∧ f 9 = (.int .i64 k_56) ∧ f 1000000 = (enc [])) ?_ ?_
                        · intro f w_67 hJ
                          obtain ⟨col_68, v_69, hm, hst, h0, h_34, rh_39, h_51, hs0, hs3, hs4, hs5, hs6, hs7, hs8, hs87, hs9, hs1000000⟩ := hJ
                          rw [m_credenceref14_Cycle_J2.eq_1] at hm
                          refine .ld (d := 0) (v := (.slice a0 p0_parents.length cap0)) hs0 ?_
                          refine .ld (d := 3) (v := (.int .i64 n_8)) hs3 ?_
                          refine .ld (d := 4) (v := (.int .i64 s_12)) hs4 ?_
                          refine .ld (d := 5) (v := (.slice a_32 l_31.length cap_33)) hs5 ?_
                          refine .ld (d := 6) (v := (.slice ra_37 r_35.length rc_38)) hs6 ?_
                          refine .ld (d := 7) (v := (.int .i64 least_55)) hs7 ?_
                          refine .ld (d := 8) (v := (.slice a_49 e_45.length cap_50)) hs8 ?_
                          refine .ld (d := 87) (v := (.bool v_69)) hs87 ?_
                          refine .ld (d := 9) (v := (.int .i64 k_56)) hs9 ?_
                          refine .ld (d := 1000000) (v := (enc [])) hs1000000 ?_
                          clear hs0 hs3 hs4 hs5 hs6 hs7 hs8 hs87 hs9 hs1000000
                          refine wcond (v_69) rfl (fun hb => ?_) (fun hb => ?_)
                          · rw [if_pos hb] at hm
                            clear hb
                            refine wregion ?_
                            refine lv (v := (.slice a_49 e_45.length cap_50)) rfl rfl (r_move rfl) ?_
                            refine lv (v := (.int .i64 k_56)) rfl rfl (r_move rfl) ?_
                            obtain ⟨e_70, hj_71, hm⟩ := bind_some hm
                            refine lv (v := (sptr a_49 (Int.toNat k_56 * 1))) rfl rfl (r_idx Try.underlying31 Try.sizeOf3 rfl rfl (at?_some hj_71).1 (at?_some hj_71).2.1 (h_51.addr hj_71)) ?_
                            refine lv (v := (.int .i64 e_70)) rfl rfl (r_ld Try.isAgg3 rfl (h_51.atInt hj_71)) ?_
                            refine lv (v := (.int .i64 e_70)) rfl rfl (r_assign rfl) ?_
                            refine lnil ?_
                            exact ⟨col_68, e_70, hm, hst, h0, h_34, rh_39, h_51, rfl, rfl, rfl, rfl, rfl, rfl, rfl, rfl, rfl⟩
                          · rw [if_neg (by rw [hb]; decide)] at hm
                            clear hb
                            refine wskip ?_
                            exact ⟨col_68, least_55, hm, hst, h0, h_34, rh_39, h_51, rfl, rfl, rfl, rfl, rfl, rfl, rfl, rfl, rfl⟩
                        · refine wregion ?_
                          refine lv (v := (.slice a_49 e_45.length cap_50)) rfl rfl (r_move rfl) ?_
                          refine lv (v := (.int .i64 k_56)) rfl rfl (r_move rfl) ?_
                          obtain ⟨e_72, hj_73, hm⟩ := bind_some hm
                          refine lv (v := (sptr a_49 (Int.toNat k_56 * 1))) rfl rfl (r_idx Try.underlying31 Try.sizeOf3 rfl rfl (at?_some hj_73).1 (at?_some hj_73).2.1 (h_51.addr hj_73)) ?_
                          refine lv (v := (.int .i64 e_72)) rfl rfl (r_ld Try.isAgg3 rfl (h_51.atInt hj_73)) ?_
                          refine lv (v := (.int .i64 s_12)) rfl rfl (r_move rfl) ?_
                          refine lv (v := (.bool (decide (s_12 ≤ e_72)))) rfl rfl (r_geq e_72 s_12 rfl rfl) ?_
                          refine lv (v := (.bool (decide (s_12 ≤ e_72)))) rfl rfl (r_move rfl) ?_
                          by_cases hg_74 : (decide (s_12 ≤ e_72)) = true
                          · rw [if_pos hg_74] at hm
                            refine lg (b := decide (s_12 ≤ e_72)) 67 rfl rfl rfl (by rw [hg_74]; rfl) ?_
                            refine lv (v := (.slice ra_37 r_35.length rc_38)) rfl rfl (r_move rfl) ?_
                            refine lg (b := decide (s_12 ≤ e_72)) 67 rfl rfl rfl (by rw [hg_74]; rfl) ?_
                            refine lv (v := (.slice a_49 e_45.length cap_50)) rfl rfl (r_move rfl) ?_
                            refine lg (b := decide (s_12 ≤ e_72)) 67 rfl rfl rfl (by rw [hg_74]; rfl) ?_
                            refine lv (v := (.int .i64 k_56)) rfl rfl (r_move rfl) ?_
                            refine lg (b := decide (s_12 ≤ e_72)) 67 rfl rfl rfl (by rw [hg_74]; rfl) ?_
                            refine lv (v := (sptr a_49 (Int.toNat k_56 * 1))) rfl rfl (r_idx Try.underlying31 Try.sizeOf3 rfl rfl (at?_some hj_73).1 (at?_some hj_73).2.1 (h_51.addr hj_73)) ?_
                            refine lg (b := decide (s_12 ≤ e_72)) 67 rfl rfl rfl (by rw [hg_74]; rfl) ?_
                            refine lv (v := (.int .i64 e_72)) rfl rfl (r_ld Try.isAgg3 rfl (h_51.atInt hj_73)) ?_
                            refine lg (b := decide (s_12 ≤ e_72)) 67 rfl rfl rfl (by rw [hg_74]; rfl) ?_
                            obtain ⟨e_75, hj_76, hm⟩ := bind_some hm
                            refine lv (v := (sptr ra_37 (Int.toNat e_72 * 1))) rfl rfl (r_idx Try.underlying64 Try.sizeOf4 rfl rfl (at?_some hj_76).1 (at?_some hj_76).2.1 (rh_39.addr hj_76)) ?_
                            refine lg (b := decide (s_12 ≤ e_72)) 67 rfl rfl rfl (by rw [hg_74]; rfl) ?_
                            refine lv (v := (.bool e_75)) rfl rfl (r_ld Try.isAgg4 rfl (rh_39.atBool hj_76)) ?_
                            refine lv (v := (.bool e_75)) rfl rfl (r_pickT (congrArg Value.bool hg_74) rfl) ?_
                            refine lv (v := (.bool e_75)) rfl rfl (r_move rfl) ?_
                            by_cases hg_77 : e_75 = true
                            · rw [if_pos hg_77] at hm
                              refine lg (b := e_75) 76 rfl rfl rfl (by rw [hg_77]; rfl) ?_
                              refine lv (v := (.int .i64 least_55)) rfl rfl (r_move rfl) ?_
                              refine lg (b := e_75) 76 rfl rfl rfl (by rw [hg_77]; rfl) ?_
                              refine lv (v := (.bool (decide (least_55 < 0)))) rfl rfl (r_lss least_55 0 rfl rfl) ?_
                              refine lg (b := e_75) 76 rfl rfl rfl (by rw [hg_77]; rfl) ?_
                              refine lv (v := (.bool (decide (least_55 < 0)))) rfl rfl (r_move rfl) ?_
                              by_cases hg_78 : (decide (least_55 < 0)) = true
                              · rw [if_pos hg_78] at hm
                                refine lp (b := decide (least_55 < 0)) 79 rfl rfl rfl rfl (by rw [hg_78]; rfl) ?_
                                refine lp (b := decide (least_55 < 0)) 79 rfl rfl rfl rfl (by rw [hg_78]; rfl) ?_
                                refine lp (b := decide (least_55 < 0)) 79 rfl rfl rfl rfl (by rw [hg_78]; rfl) ?_
                                refine lp (b := decide (least_55 < 0)) 79 rfl rfl rfl rfl (by rw [hg_78]; rfl) ?_
                                refine lp (b := decide (least_55 < 0)) 79 rfl rfl rfl rfl (by rw [hg_78]; rfl) ?_
                                refine lp (b := decide (least_55 < 0)) 79 rfl rfl rfl rfl (by rw [hg_78]; rfl) ?_
                                refine lg (b := e_75) 76 rfl rfl rfl (by rw [hg_77]; rfl) ?_
                                refine lv (v := (.bool true)) rfl rfl (r_pickT (congrArg Value.bool hg_78) rfl) ?_
                                refine lv (v := (.bool true)) rfl rfl (r_pickT (congrArg Value.bool hg_77) rfl) ?_
                                refine lnil ?_
                                exact ⟨col_54, true, hm, hst, h0, h_34, rh_39, h_51, rfl, rfl, rfl, rfl, rfl, rfl, rfl, rfl, rfl, rfl⟩
                              · rw [if_neg hg_78] at hm
                                replace hg_78 := Bool.eq_false_iff.2 hg_78
                                refine lg (b := decide (least_55 < 0)) 79 rfl rfl rfl (by rw [hg_78]; rfl) ?_
                                refine lv (v := (.slice a_49 e_45.length cap_50)) rfl rfl (r_move rfl) ?_
                                refine lg (b := decide (least_55 < 0)) 79 rfl rfl rfl (by rw [hg_78]; rfl) ?_
                                refine lv (v := (.int .i64 k_56)) rfl rfl (r_move rfl) ?_
                                refine lg (b := decide (least_55 < 0)) 79 rfl rfl rfl (by rw [hg_78]; rfl) ?_
                                refine lv (v := (sptr a_49 (Int.toNat k_56 * 1))) rfl rfl (r_idx Try.underlying31 Try.sizeOf3 rfl rfl (at?_some hj_73).1 (at?_some hj_73).2.1 (h_51.addr hj_73)) ?_
                                refine lg (b := decide (least_55 < 0)) 79 rfl rfl rfl (by rw [hg_78]; rfl) ?_
                                refine lv (v := (.int .i64 e_72)) rfl rfl (r_ld Try.isAgg3 rfl (h_51.atInt hj_73)) ?_
                                refine lg (b := decide (least_55 < 0)) 79 rfl rfl rfl (by rw [hg_78]; rfl) ?_
                                refine lv (v := (.int .i64 least_55)) rfl rfl (r_move rfl) ?_
                                refine lg (b := decide (least_55 < 0)) 79 rfl rfl rfl (by rw [hg_78]; rfl) ?_
                                refine lv (v := (.bool (decide (e_72 < least_55)))) rfl rfl (r_lss e_72 least_55 rfl rfl) ?_
                                refine lg (b := e_75) 76 rfl rfl rfl (by rw [hg_77]; rfl) ?_
                                refine lv (v := (.bool (decide (e_72 < least_55)))) rfl rfl (r_pickF (congrArg Value.bool hg_78) rfl) ?_
                                refine lv (v := (.bool (decide (e_72 < least_55)))) rfl rfl (r_pickT (congrArg Value.bool hg_77) rfl) ?_
                                refine lnil ?_
                                exact ⟨col_54, (decide (e_72 < least_55)), hm, hst, h0, h_34, rh_39, h_51, rfl, rfl, rfl, rfl, rfl, rfl, rfl, rfl, rfl, rfl⟩
                            · rw [if_neg hg_77] at hm
                              replace hg_77 := Bool.eq_false_iff.2 hg_77
                              refine lp (b := e_75) 76 rfl rfl rfl rfl (by rw [hg_77]; rfl) ?_
                              refine lp (b := e_75) 76 rfl rfl rfl rfl (by rw [hg_77]; rfl) ?_
                              refine lp (b := e_75) 76 rfl rfl rfl rfl (by rw [hg_77]; rfl) ?_
                              refine lpU 79 rfl rfl rfl rfl ?_
                              refine lpU 79 rfl rfl rfl rfl ?_
                              refine lpU 79 rfl rfl rfl rfl ?_
                              refine lpU 79 rfl rfl rfl rfl ?_
                              refine lpU 79 rfl rfl rfl rfl ?_
                              refine lpU 79 rfl rfl rfl rfl ?_
                              refine lp (b := e_75) 76 rfl rfl rfl rfl (by rw [hg_77]; rfl) ?_
                              refine lv (v := (.bool false)) rfl rfl (r_pickF (congrArg Value.bool hg_77) rfl) ?_
                              refine lnil ?_
                              exact ⟨col_54, false, hm, hst, h0, h_34, rh_39, h_51, rfl, rfl, rfl, rfl, rfl, rfl, rfl, rfl, rfl, rfl⟩
                          · rw [if_neg hg_74] at hm
                            replace hg_74 := Bool.eq_false_iff.2 hg_74
                            refine lp (b := decide (s_12 ≤ e_72)) 67 rfl rfl rfl rfl (by rw [hg_74]; rfl) ?_
                            refine lp (b := decide (s_12 ≤ e_72)) 67 rfl rfl rfl rfl (by rw [hg_74]; rfl) ?_
                            refine lp (b := decide (s_12 ≤ e_72)) 67 rfl rfl rfl rfl (by rw [hg_74]; rfl) ?_
                            refine lp (b := decide (s_12 ≤ e_72)) 67 rfl rfl rfl rfl (by rw [hg_74]; rfl) ?_
                            refine lp (b := decide (s_12 ≤ e_72)) 67 rfl rfl rfl rfl (by rw [hg_74]; rfl) ?_
                            refine lp (b := decide (s_12 ≤ e_72)) 67 rfl rfl rfl rfl (by rw [hg_74]; rfl) ?_
                            refine lp (b := decide (s_12 ≤ e_72)) 67 rfl rfl rfl rfl (by rw [hg_74]; rfl) ?_
                            refine lv (v := (.bool false)) rfl rfl (r_pickF (congrArg Value.bool hg_74) rfl) ?_
                            refine lv (v := (.bool false)) rfl rfl (r_move rfl) ?_
                            refine lp (b := false) 76 rfl rfl rfl rfl rfl ?_
                            refine lp (b := false) 76 rfl rfl rfl rfl rfl ?_
                            refine lp (b := false) 76 rfl rfl rfl rfl rfl ?_
                            refine lpU 79 rfl rfl rfl rfl ?_
                            refine lpU 79 rfl rfl rfl rfl ?_
                            refine lpU 79 rfl rfl rfl rfl ?_
                            refine lpU 79 rfl rfl rfl rfl ?_
                            refine lpU 79 rfl rfl rfl rfl ?_
                            refine lpU 79 rfl rfl rfl rfl ?_
                            refine lp (b := false) 76 rfl rfl rfl rfl rfl ?_
                            refine lv (v := (.bool false)) rfl rfl (r_pickF rfl rfl) ?_
                            refine lnil ?_
                            exact ⟨col_54, false, hm, hst, h0, h_34, rh_39, h_51, rfl, rfl, rfl, rfl, rfl, rfl, rfl, rfl, rfl, rfl⟩
                    · rw [if_neg (by rw [hb]; decide)] at hm
                      clear hb
                      refine wexit (inB_hit ?_)
                      refine wregion ?_
                      refine lv (v := (.slice a_32 l_31.length cap_33)) rfl rfl (r_move rfl) ?_
                      refine lv (v := (.int .i64 least_55)) rfl rfl (r_move rfl) ?_
                      refine l_lit (col := col_54) (r := (Rep.int .i64)) (xs := [least_55]) [(.int .i64 least_55)] 4 rfl Try.underlying31 el3_41 rfl rfl rfl rfl rfl rfl (by intro v hv; simp only [List.mem_cons, List.not_mem_nil, or_false] at hv; subst hv; rfl) (RowsH.ofF (Rows.consF (r := (Rep.int .i64)) (x := least_55) (cs := [(.int .i64 least_55)]) (rd_int .i64 least_55) Rows.nil0)) ?_
                      intro a_79 w_80 col_81 hg_82 h_83
                      replace h0 := h0.gr hg_82
                      replace h_34 := h_34.gr hg_82
                      replace hst := hst.grow hg_82
                      obtain ⟨hb_84, hm⟩ := chk_some hm
                      refine l_appendM (col := col_81) (w := w_80) (r := (Rep.int .i64)) (c := 2) (c2 := 2) (xs := l_31) (ys := [least_55]) h_34 (h_83.srcN (NB.int (k := .i64))) rfl Try.underlying31 el3_41 rfl rfl rfl hb_84.1 hb_84.2 (by decide) ?_
                      intro a_85 cap_86 w_87 col_88 hk_89 h_90
                      replace h0 := h0.kpp hk_89 rfl
                      replace h_83 := h_83.kpp hk_89 rfl rfl
                      replace hst := hst.kpp hk_89 rfl rfl
                      clear h_34
                      refine lv (v := (.slice a_85 ((l_31 ++ [least_55]).length) cap_86)) rfl rfl (r_assign rfl) ?_
                      refine lnil ?_
                      exact ⟨n_28, by omega, ⟨col_88, a_85, cap_86, (l_31 ++ [least_55]), n_28, rfl, hm, hst, h0, h_90, rfl, rfl, rfl, rfl, rfl⟩⟩
                · rw [if_neg (by rw [hb]; decide)] at hm
                  clear hb
                  refine wexit (inB_hit ?_)
                  refine wseq ?_
                  refine wregion ?_
                  refine lv (v := (.slice a_32 l_31.length cap_33)) rfl rfl (r_move rfl) ?_
                  refine lv (v := (.slice a_32 l_31.length cap_33)) rfl rfl (r_assign rfl) ?_
                  refine lnil ?_
                  refine wret ?_
                  cases hm
                  exact ⟨rfl, colF w0.heap.size col col_30 (fun n => bif Nat.beq n 2 then c1 else 0), a_32, cap_33, rfl, hst.fin (fun n => bif Nat.beq n 2 then c1 else 0), hst.finOwn (g := (fun n => bif Nat.beq n 2 then c1 else 0)) rfl h_34 (by decide) (by decide) rfl⟩
          · rw [if_neg (by rw [hb]; decide)] at hm
            clear hb
            refine wexit (inB_hit ?_)
            refine wregion ?_
            refine lv (v := (.int .i64 n_8)) rfl rfl (r_move rfl) ?_
            refine lv (v := (.int .i64 (IntKind.i64.wrap (n_8 + 1)))) rfl rfl (r_add n_8 1 rfl rfl) ?_
            refine lv (v := (.int .i64 (IntKind.i64.wrap (n_8 + 1)))) rfl rfl (r_assign rfl) ?_
            refine lnil ?_
            exact ⟨n_5, by omega, ⟨col_11, (IntKind.i64.wrap (n_8 + 1)), n_5, rfl, hm, hst, h0, rfl, rfl, rfl⟩⟩
      · rw [if_neg (by rw [hb]; decide)] at hm
        clear hb
        refine wexit (inB_hit ?_)
        refine wseq ?_
        refine wregion ?_
        refine lv (v := (.slice none (([] : List Int).length) 0)) rfl rfl (r_assign rfl) ?_
        refine lnil ?_
        refine wret ?_
        cases hm
        exact ⟨rfl, colF w0.heap.size col col_7 (fun n => 0), none, 0, rfl, hst.fin (fun n => 0), Own.nil⟩



/-- A walk of just so many steps from v to s, each to a parent, none below s. -/
def Wk (P : List (List Int)) (s : Int) : Nat → Int → Prop
  | 0, v => v = s
  | m + 1, v => s ≤ v ∧ ∃ p ∈ way P v, s ≤ p ∧ Wk P s m p
section
variable {N n : Nat} {P : List (List Int)} (hP : P.length = n) (hn : n ≤ 1000000) (hls : ∀ l ∈ P, l.length ≤ 1000000) (hPr : ∀ x y : Int, y ∈ way P x → 0 ≤ y ∧ y < (n : Int)) (hN : 2000000 < N)
include hP hn hls hPr
theorem walks_L3 (s : Int) (b : List Bool) (hb : b.length = n) (v : Nat) (hv : v < n) (kk : Int → List Bool → Option (List Bool)) : ∀ (f k : Nat) (nx : List Bool), (way P v).length < f + k → k ≤ (way P v).length → nx.length = n →
    ∃ nx', m_credenceref14_walks_L3 N P s b (v : Int) kk f (k : Int) nx = kk ((v + 1 : Nat) : Int) nx' ∧ nx'.length = n ∧ ∀ x, 0 ≤ x → (mk nx' x = true ↔ mk nx x = true ∨ (x = v ∧ ∃ p ∈ (way P v).drop k, s ≤ p ∧ mk b p = true))
  | 0, k, nx, h, hk, hx => by omega
  | f + 1, k, nx, h, hk, hx => by
    have hPv : at? P (v : Int) = some (way P v) := at?_of (by omega) (by rw [List.getElem?_eq_getElem (by omega), way, lgetD_lt (by omega)])
    have hwl : (way P v).length ≤ 1000000 := by rw [way, lgetD_lt (by omega)]; exact hls _ (List.getElem_mem _)
    rw [m_credenceref14_walks_L3.eq_2, hPv, Option.bind_some]
    simp only [m_credenceref14_walks_J1]
    by_cases hlt : k < (way P v).length
    · have hp := hPr v _ (List.getElem_mem hlt)
      rw [if_pos (decide_eq_true (by omega)), at?_lt hlt, Option.bind_some, mk_at (by omega), Option.bind_some, List.drop_eq_getElem_cons hlt]
      have hself : ∀ (c : Bool) x, 0 ≤ x → mk (nx.set (Int.toNat (v : Int)) c) x = if x = v then c else mk nx x := fun c x h0 => by
        unfold mk
        rw [lgetD_set _ _ _ _ _ (by omega)]
        by_cases h : x = v
        · subst h; simp
        · rw [if_neg (by omega), if_neg h]
      by_cases h1 : mk nx v = true
      · rw [if_pos h1, Option.bind_some, wS (by omega)]
        obtain ⟨nx', q1, q2, q3⟩ := walks_L3 s b hb v hv kk f (k + 1) (nx.set (Int.toNat (v : Int)) true) (by omega) (by omega) (by rw [List.length_set]; exact hx)
        refine ⟨nx', q1, q2, fun x h0 => ?_⟩
        rw [q3 x h0, hself true x h0]
        by_cases hxv : x = v
        · subst hxv; simp [h1]
        · simp [hxv]
      · rw [if_neg h1]
        have hstep : ∀ c : Bool, (c = true ↔ s ≤ (way P v)[k] ∧ mk b (way P v)[k] = true) → ∃ nx', m_credenceref14_walks_L3 N P s b (v : Int) kk f ((k + 1 : Nat) : Int) (nx.set (Int.toNat (v : Int)) c) = kk ((v + 1 : Nat) : Int) nx' ∧ nx'.length = n ∧ ∀ x, 0 ≤ x → (mk nx' x = true ↔ mk nx x = true ∨ (x = v ∧ ∃ p ∈ (way P v)[k] :: (way P v).drop (k + 1), s ≤ p ∧ mk b p = true)) := fun c hc => by
          obtain ⟨nx', q1, q2, q3⟩ := walks_L3 s b hb v hv kk f (k + 1) (nx.set (Int.toNat (v : Int)) c) (by omega) (by omega) (by rw [List.length_set]; exact hx)
          refine ⟨nx', q1, q2, fun x h0 => ?_⟩
          rw [q3 x h0, hself c x h0]
          by_cases hxv : x = v
          · subst hxv
            rw [if_pos rfl, hc]
            constructor
            · rintro (h | ⟨_, p, hp, h⟩)
              · exact .inr ⟨rfl, _, List.mem_cons_self, h⟩
              · exact .inr ⟨rfl, p, List.mem_cons_of_mem _ hp, h⟩
            · rintro (h | ⟨_, p, hp, h⟩)
              · exact absurd h h1
              · rcases List.mem_cons.1 hp with rfl | hp
                · exact .inl h
                · exact .inr ⟨rfl, p, hp, h⟩
          · simp [hxv]
        by_cases h2 : s ≤ (way P v)[k]
        · rw [if_pos (decide_eq_true h2), mk_at (by omega), Option.bind_some, Option.bind_some, wS (by omega)]
          exact hstep _ ⟨fun h => ⟨h2, h⟩, fun h => h.2⟩
        · rw [if_neg (by rw [decide_eq_true_eq]; exact h2), Option.bind_some, wS (by omega)]
          exact hstep false ⟨fun h => (by cases h), fun h => absurd h.1 h2⟩
    · rw [if_neg (by rw [decide_eq_true_eq]; omega), List.drop_eq_nil_of_le (by omega)]
      exact ⟨nx, by rw [wS (by omega)], hx, fun x _ => by simp⟩
include hN
theorem walks_L2 (s : Nat) (b : List Bool) (hb : b.length = n) (i : Int) (kk : List Bool → Int → Option (List Bool)) : ∀ (f v : Nat) (nx : List Bool), n < f + v → s ≤ v → v ≤ n → nx.length = n →
    ∃ nx', m_credenceref14_walks_L2 N P s b i kk f (v : Int) nx = kk nx' (IntKind.i64.wrap (i + 1)) ∧ nx'.length = n ∧ ∀ x, 0 ≤ x → (mk nx' x = true ↔ mk nx x = true ∨ (((v : Int) ≤ x ∧ x < (n : Int)) ∧ ∃ p ∈ way P x, (s : Int) ≤ p ∧ mk b p = true))
  | 0, v, nx, h, hs, hv, hx => by omega
  | f + 1, v, nx, h, hs, hv, hx => by
    rw [m_credenceref14_walks_L2.eq_2]
    by_cases hlt : v < n
    · have hwl : (way P v).length ≤ 1000000 := by rw [way, lgetD_lt (by omega)]; exact hls _ (List.getElem_mem _)
      rw [if_pos (decide_eq_true (by omega))]
      obtain ⟨n1, q1, q2, q3⟩ := walks_L3 (N := N) hP hn hls hPr s b hb v hlt (m_credenceref14_walks_L2 N P s b i kk f) N 0 nx (by omega) (Nat.zero_le _) hx
      obtain ⟨n2, k1, k2, k3⟩ := walks_L2 s b hb i kk f (v + 1) n1 (by omega) (by omega) (by omega) q2
      refine ⟨n2, q1.trans k1, k2, fun x h0 => ?_⟩
      rw [k3 x h0, q3 x h0, List.drop_zero]
      constructor
      · rintro ((h | ⟨rfl, h⟩) | ⟨h, h'⟩)
        · exact .inl h
        · exact .inr ⟨by omega, h⟩
        · exact .inr ⟨by omega, h'⟩
      · rintro (h | ⟨h, h'⟩)
        · exact .inl (.inl h)
        · by_cases hxv : x = v
          · subst hxv; exact .inl (.inr ⟨rfl, h'⟩)
          · exact .inr ⟨by omega, h'⟩
    · rw [if_neg (by rw [decide_eq_true_eq]; omega)]
      exact ⟨nx, rfl, hx, fun x _ => by constructor <;> intro h <;> first | exact .inl h | (rcases h with h | h; exact h; omega)⟩
theorem walks_L1 (s : Nat) (hs : s < n) (m : Nat) (hm : m ≤ n) : ∀ (f : Nat) (b : List Bool) (i : Nat), m < f + i → i ≤ m → b.length = n → (∀ x, 0 ≤ x → x < (n : Int) → (mk b x = true ↔ Wk P s i x)) →
    ∃ r, m_credenceref14_walks_L1 N P s m f b (i : Int) = some r ∧ r.length = n ∧ ∀ x, 0 ≤ x → x < (n : Int) → (mk r x = true ↔ Wk P s m x)
  | 0, b, i, h, hi, hb, hw => by omega
  | f + 1, b, i, h, hi, hb, hw => by
    rw [m_credenceref14_walks_L1.eq_2]
    by_cases hlt : i < m
    · rw [if_pos (decide_eq_true (by omega)), chk_pos (by simp only [maxLen]; omega)]
      obtain ⟨n1, q1, q2, q3⟩ := walks_L2 (N := N) hP hn hls hPr hN s b hb (i : Int) (m_credenceref14_walks_L1 N P s m f) N s (List.replicate P.length false) (by omega) (Nat.le_refl _) (by omega) (by rw [List.length_replicate]; exact hP)
      obtain ⟨r, k1, k2, k3⟩ := walks_L1 s hs m hm f n1 (i + 1) (by omega) (by omega) q2 (fun x h0 h1 => by
        have hrep : mk (List.replicate P.length false) x = false := by unfold mk; rw [List.getD_eq_getElem?_getD, List.getElem?_replicate]; split <;> rfl
        rw [q3 x h0, hrep]
        constructor
        · rintro (h | ⟨h, p, hp, hsp, hb⟩)
          · cases h
          · exact ⟨h.1, p, hp, hsp, (hw p (hPr x p hp).1 (hPr x p hp).2).1 hb⟩
        · rintro ⟨h, p, hp, hsp, hb⟩
          exact .inr ⟨⟨h, h1⟩, p, hp, hsp, (hw p (hPr x p hp).1 (hPr x p hp).2).2 hb⟩)
      exact ⟨r, by rw [q1, wS (by omega)]; exact k1, k2, k3⟩
    · rw [if_neg (by rw [decide_eq_true_eq]; omega)]
      obtain rfl : i = m := by omega
      exact ⟨b, rfl, hb, hw⟩
theorem walks_eq (s : Nat) (hs : s < n) (m : Nat) (hm : m ≤ n) : ∃ r, m_credenceref14_walks N P s m = some r ∧ r.length = n ∧ ∀ x, 0 ≤ x → x < (n : Int) → (mk r x = true ↔ Wk P s m x) := by
  have hl : (List.replicate P.length false).length = n := by rw [List.length_replicate]; exact hP
  rw [m_credenceref14_walks, chk_pos (by simp only [maxLen]; omega), mk_at (by omega), Option.bind_some, Option.bind_some, show (0 : Int) = ((0 : Nat) : Int) from rfl]
  refine walks_L1 (N := N) hP hn hls hPr hN s hs m hm N _ 0 (by omega) (Nat.zero_le _) (by rw [List.length_set]; exact hl) fun x h0 h1 => ?_
  have hrep : mk (List.replicate P.length false) x = false := by unfold mk; rw [List.getD_eq_getElem?_getD, List.getElem?_replicate]; split <;> rfl
  rw [mk_set (by omega) h0, hrep, Bool.or_false, decide_eq_true_eq]; rfl
end

/-- One point's children are looked at. -/
theorem ring2_L2 {n : Nat} (hn : n ≤ 1000000) (s : Int) (kk : List Int → List (Int × Int) → Option (List Int)) (v dv : Int) (hdv : 0 ≤ dv ∧ dv ≤ 1000000) : ∀ (l next : List Int) (far : List (Int × Int)), mget far v = some dv →
    InR n next → next.Nodup → (∀ x ∈ next, (mget far x).isSome = true) → InR n l →
    ∃ z far', m_dag_ring_L2 s kk v l next far = kk (next ++ z) far' ∧ (∀ c, mget far' c = if c ∈ z then some (dv + 1) else mget far c) ∧ z.Nodup ∧ (∀ c ∈ z, s < c ∧ mget far c = none ∧ c ∈ l) ∧ ∀ x ∈ l, s < x → (mget far' x).isSome = true
  | [], next, far, h1, h2, h3, h4, h5 => ⟨[], far, by rw [m_dag_ring_L2.eq_1, List.append_nil], fun c => by simp, by simp, by simp, by simp⟩
  | x :: l, next, far, h1, h2, h3, h4, h5 => by
    have hx := h5 x List.mem_cons_self
    have h5' : InR n l := fun y hy => h5 y (List.mem_cons_of_mem _ hy)
    have hnx := h2.len h3
    rw [m_dag_ring_L2.eq_2, m_dag_ring_J3, m_dag_ring_J3, h1]
    by_cases hin : (mget far x).isSome = true
    · obtain ⟨z, far', k1, k2, k3, k4, k5⟩ := ring2_L2 hn s kk v dv hdv l next far h1 h2 h3 h4 h5'
      refine ⟨z, far', ?_, k2, k3, fun c hc => ⟨(k4 c hc).1, (k4 c hc).2.1, List.mem_cons_of_mem _ (k4 c hc).2.2⟩, fun y hy hs => ?_⟩
      · rw [if_neg (by simp [hin]), if_neg (by decide), m_dag_ring_J2]; exact k1
      · rcases List.mem_cons.1 hy with rfl | hy
        · rw [k2]; split
          · rfl
          · exact hin
        · exact k5 y hy hs
    · have hnone : mget far x = none := by simpa using hin
      rw [if_pos (by rw [hnone]; rfl)]
      by_cases hs : s < x
      · have hw : IntKind.i64.wrap ((some dv).getD 0 + 1) = dv + 1 := by rw [Option.getD_some, w64 (by omega)]
        have hm : ∀ c, mget (mput far x (dv + 1)) c = if c = x then some (dv + 1) else mget far c := fun c => mget_mput far x c (dv + 1)
        have hxn : x ∉ next := fun h => hin (h4 x h)
        have hvx : v ≠ x := fun e => by rw [e, hnone] at h1; cases h1
        obtain ⟨z, far', k1, k2, k3, k4, k5⟩ := ring2_L2 hn s kk v dv hdv l (next ++ [x]) (mput far x (dv + 1)) (by rw [hm, if_neg hvx]; exact h1)
          (fun y hy => by
            rcases List.mem_append.1 hy with hy | hy
            · exact h2 y hy
            · rw [List.mem_singleton] at hy; rw [hy]; exact hx)
          (by
            rw [List.nodup_append]
            exact ⟨h3, by simp, fun a ha b hb e => by rw [List.mem_singleton] at hb; subst hb; subst e; exact hxn ha⟩)
          (fun y hy => by
            rw [hm]
            split
            · rfl
            · rename_i hyx
              rcases List.mem_append.1 hy with hy | hy
              · exact h4 y hy
              · rw [List.mem_singleton] at hy; exact absurd hy hyx) h5'
        have hxz : x ∉ z := fun h => by
          have := (k4 x h).2.1
          rw [hm, if_pos rfl] at this; cases this
        refine ⟨x :: z, far', ?_, fun c => ?_, List.nodup_cons.2 ⟨hxz, k3⟩, fun c hc => ?_, fun y hy hys => ?_⟩
        · rw [if_pos (decide_eq_true hs), hw, Option.bind_some, chk_pos (by simp only [List.length_cons, List.length_nil, maxLen]; omega), m_dag_ring_J2, k1, List.append_assoc]; rfl
        · rw [k2 c, hm c]
          by_cases hcx : c = x
          · subst hcx; simp
          · simp [hcx]
        · rcases List.mem_cons.1 hc with rfl | hc
          · exact ⟨hs, hnone, List.mem_cons_self⟩
          · obtain ⟨q1, q2, q3⟩ := k4 c hc
            rw [hm] at q2
            split at q2
            · cases q2
            · exact ⟨q1, q2, List.mem_cons_of_mem _ q3⟩
        · rcases List.mem_cons.1 hy with rfl | hy
          · rw [k2, if_neg hxz, hm, if_pos rfl]; rfl
          · exact k5 y hy hys
      · obtain ⟨z, far', k1, k2, k3, k4, k5⟩ := ring2_L2 hn s kk v dv hdv l next far h1 h2 h3 h4 h5'
        refine ⟨z, far', ?_, k2, k3, fun c hc => ⟨(k4 c hc).1, (k4 c hc).2.1, List.mem_cons_of_mem _ (k4 c hc).2.2⟩, fun y hy hys => ?_⟩
        · rw [if_neg (by simpa using hs), m_dag_ring_J2]; exact k1
        · rcases List.mem_cons.1 hy with rfl | hy
          · exact absurd hys hs
          · exact k5 y hy hys

/-- A point's distance so far. -/
def lab (far : List (Int × Int)) (x : Int) : Int := (mget far x).getD 0
theorem lab_of {far : List (Int × Int)} {x d : Int} (h : mget far x = some d) : lab far x = d := by rw [lab, h]; rfl
theorem some_lab {far : List (Int × Int)} {x : Int} (h : (mget far x).isSome = true) : mget far x = some (lab far x) := by
  obtain ⟨d, hd⟩ := Option.isSome_iff_exists.1 h
  rw [hd, lab_of hd]

/-- The search so far. -/
structure Bf (P D : List (List Int)) (n : Nat) (s : Int) (don next : List Int) (far : List (Int × Int)) : Prop where
  fr : Far P n s far
  nd : (don ++ next).Nodup
  ir : InR n (don ++ next)
  key : ∀ c, (mget far c).isSome = true ↔ c ∈ don ++ next
  srt : (don ++ next).Pairwise fun x y => lab far x ≤ lab far y
  top : ∀ v rest, next = v :: rest → ∀ x ∈ don ++ next, lab far x ≤ lab far v + 1
  cls : ∀ v ∈ don, ∀ c ∈ way D v, s < c → (mget far c).isSome = true ∧ lab far c ≤ lab far v + 1

theorem ring2_L1 {N n : Nat} {P D : List (List Int)} (hn : n ≤ 1000000) (hP : P.length = n) (hD : D.length = n) (hturn : ∀ x y : Int, (0 ≤ x ∧ x < (n : Int)) → (0 ≤ y ∧ y < (n : Int)) → (y ∈ way P x ↔ x ∈ way D y)) (hDr : ∀ x y : Int, y ∈ way D x → 0 ≤ y ∧ y < (n : Int))
    (s most : Int) (hs : 0 ≤ s ∧ s < (n : Int)) (hm : 1 ≤ most ∧ most ≤ (n : Int) + 1) : ∀ (f : Nat) (don next : List Int) (far : List (Int × Int)), n < f + don.length → Bf P D n s don next far →
    ∃ far', m_dag_ring_L1 N P D s most f next far = (m_dag_ring_L3 N P s most far' (way P s) most) ∧ Far P n s far' ∧ ∀ v d, mget far' v = some d → d < most - 1 → ∀ c ∈ way D v, s < c → ∃ e, mget far' c = some e ∧ e ≤ d + 1
  | 0, don, next, far, hf, hb => by
    have := hb.ir.len hb.nd
    simp at this; omega
  | f + 1, don, next, far, hf, hb => by
    have hle := hb.ir.len hb.nd
    rw [List.length_append] at hle
    have hPs : at? P s = some (way P s) := at?_of hs.1 (by rw [List.getElem?_eq_getElem (by omega), way, lgetD_lt (by omega)])
    rw [m_dag_ring_L1.eq_2]
    match next, hb, hle with
    | [], hb, hle =>
      rw [if_neg (by decide), m_dag_ring_J1, if_neg (by decide), hPs, Option.bind_some]
      refine ⟨far, rfl, hb.fr, fun v d hv _ c hc hsc => ?_⟩
      have h1 := (hb.key v).1 (by rw [hv]; rfl)
      rw [List.append_nil] at h1
      obtain ⟨h2, h3⟩ := hb.cls v h1 c hc hsc
      exact ⟨_, some_lab h2, by rw [lab_of hv] at h3; exact h3⟩
    | v :: next, hb, hle =>
      rw [List.length_cons] at hle
      have hvm : v ∈ don ++ v :: next := by simp
      obtain ⟨dv, hdv⟩ := Option.isSome_iff_exists.1 ((hb.key v).2 hvm)
      have hlv := lab_of hdv
      have hdv0 := (hb.fr.all v dv hdv).2.1
      have hdvl := hb.fr.lt hdv
      have hat : at? (v :: next) 0 = some v := rfl
      rw [if_pos (decide_eq_true (by rw [List.length_cons]; omega)), hat, Option.bind_some, hdv, Option.getD_some, w64 (by omega), m_dag_ring_J1, hat, Option.bind_some, hPs, Option.bind_some]
      have e1 : don ++ v :: next = (don ++ [v]) ++ next := by simp
      by_cases hlt : dv < most - 1
      · have hvr := hb.ir v hvm
        have hDv : at? D v = some (way D v) := at?_of hvr.1 (by rw [List.getElem?_eq_getElem (by omega), way, lgetD_lt (by omega)])
        have hnd := hb.nd
        have hir := hb.ir
        have hkey := hb.key
        have hsrt := hb.srt
        have htop := hb.top v next rfl
        rw [e1] at hnd hir hsrt htop
        have hkey' : ∀ c, (mget far c).isSome = true ↔ c ∈ (don ++ [v]) ++ next := fun c => by rw [hkey c, e1]
        obtain ⟨z, far', k1, k2, k3, k4, k5⟩ := ring2_L2 hn s (m_dag_ring_L1 N P D s most f) v dv ⟨hdv0, by omega⟩ (way D v) next far hdv (fun x hx => hir x (List.mem_append_right _ hx)) (List.nodup_append.1 hnd).2.1 (fun x hx => (hkey' x).2 (List.mem_append_right _ hx)) (fun x hx => hDr v x hx)
        have hold : ∀ x ∈ (don ++ [v]) ++ next, mget far' x = mget far x := fun x hx => by
          rw [k2, if_neg fun hz => by rw [← hkey', (k4 x hz).2.1] at hx; cases hx]
        have hlold : ∀ x ∈ (don ++ [v]) ++ next, lab far' x = lab far x := fun x hx => by unfold lab; rw [hold x hx]
        have hlz : ∀ x ∈ z, lab far' x = dv + 1 := fun x hx => lab_of (by rw [k2, if_pos hx])
        have hvm' : v ∈ (don ++ [v]) ++ next := by rw [← e1]; exact hvm
        obtain ⟨far2, q1, q2, q3⟩ := ring2_L1 hn hP hD hturn hDr s most hs hm f (don ++ [v]) (next ++ z) far' (by rw [List.length_append, List.length_cons, List.length_nil]; omega) {
          fr := ⟨by rw [k2, if_neg fun hz => by have := (k4 s hz).1; omega]; exact hb.fr.at0, fun c d hc => by
            rw [k2] at hc
            by_cases hcz : c ∈ z
            · rw [if_pos hcz] at hc; cases hc
              obtain ⟨r1, r2, r3⟩ := k4 c hcz
              have hcr := hDr v c r3
              exact ⟨hcr, by omega, .inr ⟨r1, v, by rw [hold v hvm', hdv]; congr 1; omega, (hturn c v hcr hvr).2 r3⟩⟩
            · rw [if_neg hcz] at hc
              obtain ⟨r1, r2, r3⟩ := hb.fr.all c d hc
              refine ⟨r1, r2, r3.imp id fun ⟨r4, u, r5, r6⟩ => ⟨r4, u, by rw [hold u ((hkey' u).1 (by rw [r5]; rfl))]; exact r5, r6⟩⟩⟩
          nd := by
            rw [← List.append_assoc, List.nodup_append]
            exact ⟨hnd, k3, fun a ha b hbz e => by subst e; rw [← hkey', (k4 a hbz).2.1] at ha; cases ha⟩
          ir := fun y hy => by
            rw [← List.append_assoc] at hy
            rcases List.mem_append.1 hy with hy | hy
            · exact hir y hy
            · exact hDr v y (k4 y hy).2.2
          key := fun c => by
            rw [k2, ← List.append_assoc, List.mem_append]
            by_cases hcz : c ∈ z
            · rw [if_pos hcz]; simp [hcz]
            · rw [if_neg hcz, hkey' c]; simp [hcz]
          srt := by
            rw [← List.append_assoc, List.pairwise_append]
            refine ⟨hsrt.imp_of_mem fun {a b} ha hb' h => by rw [hlold a ha, hlold b hb']; exact h, k3.imp_of_mem fun {a b} ha hb' _ => by rw [hlz a ha, hlz b hb']; exact Int.le_refl _, fun a ha b hb' => ?_⟩
            rw [hlold a ha, hlz b hb']
            have := htop a ha
            omega
          top := fun u rest hu x hx => by
            have hxl : lab far' x ≤ dv + 1 := by
              rw [← List.append_assoc] at hx
              rcases List.mem_append.1 hx with hx | hx
              · rw [hlold x hx]; have := htop x hx; omega
              · rw [hlz x hx]; exact Int.le_refl _
            have hum : u ∈ next ++ z := by rw [hu]; exact List.mem_cons_self
            have hul : dv ≤ lab far' u := by
              rcases List.mem_append.1 hum with h | h
              · rw [hlold u (List.mem_append_right _ h)]
                have := (List.pairwise_append.1 hsrt).2.2 v (by simp) u h
                omega
              · rw [hlz u h]; omega
            omega
          cls := fun u hu c hc hsc => by
            rcases List.mem_append.1 hu with hu | hu
            · obtain ⟨r1, r2⟩ := hb.cls u hu c hc hsc
              have hcm := (hkey' c).1 r1
              have hum : u ∈ (don ++ [v]) ++ next := List.mem_append_left _ (List.mem_append_left _ hu)
              exact ⟨by rw [hold c hcm]; exact r1, by rw [hlold c hcm, hlold u hum]; exact r2⟩
            · rw [List.mem_singleton] at hu; subst hu
              have r1 := k5 c hc hsc
              refine ⟨r1, ?_⟩
              rw [hlold u hvm', hlv]
              by_cases hcz : c ∈ z
              · rw [hlz c hcz]; exact Int.le_refl _
              · have : (mget far c).isSome = true := by rw [k2, if_neg hcz] at r1; exact r1
                have hcm := (hkey' c).1 this
                rw [hlold c hcm]
                have := htop c hcm
                omega }
        refine ⟨far2, ?_, q2, q3⟩
        rw [if_pos (decide_eq_true hlt), chk_pos (by rw [List.length_cons]; omega), hDv, Option.bind_some]
        exact k1.trans q1
      · refine ⟨far, by rw [if_neg (by simpa using hlt)], hb.fr, fun u d hu hd c hc hsc => ?_⟩
        have hum := (hb.key u).1 (by rw [hu]; rfl)
        have hud : u ∈ don := by
          rcases List.mem_append.1 hum with h | h
          · exact h
          · exfalso
            have h2 : lab far v ≤ lab far u := by
              rcases List.mem_cons.1 h with rfl | h
              · exact Int.le_refl _
              · have := (List.pairwise_append.1 hb.srt).2.1
                exact (List.pairwise_cons.1 this).1 u h
            rw [hlv, lab_of hu] at h2
            omega
        obtain ⟨h2, h3⟩ := hb.cls u hud c hc hsc
        exact ⟨_, some_lab h2, by rw [lab_of hu] at h3; exact h3⟩


/-- The least of some numbers of a list that pass a test; as both sides take it. -/
def pk (p : Int → Bool) : List Int → Int → Int
  | [], least => least
  | x :: l, least => pk p l (if p x && (decide (least < 0) || decide (x < least)) then x else least)
theorem pk_congr {p q : Int → Bool} : ∀ {l : List Int} (least : Int), (∀ x ∈ l, p x = q x) → pk p l least = pk q l least
  | [], _, _ => rfl
  | x :: l, least, h => by
    rw [pk, pk, h x List.mem_cons_self]
    exact pk_congr _ fun y hy => h y (List.mem_cons_of_mem _ hy)
theorem pk_mem {p : Int → Bool} : ∀ {l : List Int} {least : Int}, (∀ x ∈ l, 0 ≤ x) → (least < 0 → ∃ x ∈ l, p x = true) → (pk p l least = least ∧ 0 ≤ least) ∨ (pk p l least ∈ l ∧ p (pk p l least) = true)
  | [], least, _, h => by
    by_cases h0 : least < 0
    · obtain ⟨x, hx, _⟩ := h h0; simp at hx
    · exact .inl ⟨rfl, by omega⟩
  | x :: l, least, h0, h => by
    have hx := h0 x List.mem_cons_self
    have h0' : ∀ y ∈ l, 0 ≤ y := fun y hy => h0 y (List.mem_cons_of_mem _ hy)
    rw [pk]
    by_cases hc : (p x && (decide (least < 0) || decide (x < least))) = true
    · rw [if_pos hc]
      rcases pk_mem (p := p) (l := l) (least := x) h0' (fun h => by omega) with ⟨h1, _⟩ | ⟨h1, h2⟩
      · rw [h1]; exact .inr ⟨List.mem_cons_self, (Bool.and_eq_true_iff.1 hc).1⟩
      · exact .inr ⟨List.mem_cons_of_mem _ h1, h2⟩
    · rw [if_neg hc]
      rcases pk_mem (p := p) (l := l) (least := least) h0' (fun hl => by
        obtain ⟨y, hy, hpy⟩ := h hl
        rcases List.mem_cons.1 hy with rfl | hy
        · rw [hpy, decide_eq_true hl] at hc; exact absurd rfl hc
        · exact ⟨y, hy, hpy⟩) with h1 | ⟨h1, h2⟩
      · exact .inl h1
      · exact .inr ⟨List.mem_cons_of_mem _ h1, h2⟩

theorem ring2_L5 (far : List (Int × Int)) (best : Int) (out : List Int) (kk : List Int → Int → Option (List Int)) (d : Int) (hw : IntKind.i64.wrap (best - (out.length : Int)) = d) (hol : out.length ≤ 1000000) : ∀ (l : List Int) (least : Int),
    m_dag_ring_L5 far best out kk l least = kk (out ++ [pk (fun x => decide (mget far x = some d)) l least]) (pk (fun x => decide (mget far x = some d)) l least)
  | [], least => by rw [m_dag_ring_L5.eq_1, chk_pos (by simp only [List.length_cons, List.length_nil, maxLen]; omega)]; rfl
  | x :: l, least => by
    rw [m_dag_ring_L5.eq_2, hw, pk]
    simp only [m_dag_ring_J5, m_dag_ring_J4]
    rw [← ring2_L5 far best out kk d hw hol l]
    cases hfx : mget far x with
    | none => simp
    | some dx =>
      by_cases hdx : dx = d
      · subst hdx
        by_cases h0 : least < 0
        · simp [h0]
        · by_cases h5 : x < least <;> simp [h0, h5]
      · simp [hdx]

theorem cyc_L4 {N : Nat} (s : Int) (l : List Int) (kk : List Int → Option (List Int)) (r : List Bool) (e : List Int) (he : ∀ x ∈ e, 0 ≤ x ∧ x < (r.length : Int)) (hel : e.length ≤ 1000000) (hol : l.length ≤ 1000000) : ∀ (f : Nat) (least : Int) (k : Nat), e.length < f + k → k ≤ e.length →
    m_credenceref14_Cycle_L4 N s l kk r e f least (k : Int) = kk (l ++ [pk (fun x => decide (s ≤ x) && mk r x) (e.drop k) least])
  | 0, least, k, h, hk => by omega
  | f + 1, least, k, h, hk => by
    rw [m_credenceref14_Cycle_L4.eq_2]
    simp only [m_credenceref14_Cycle_J1, m_credenceref14_Cycle_J2]
    by_cases hlt : k < e.length
    · have hx := he _ (List.getElem_mem hlt)
      rw [if_pos (decide_eq_true (by omega)), at?_lt hlt, Option.bind_some, List.drop_eq_getElem_cons hlt, pk, wS (by omega), Option.bind_some, cyc_L4 s l kk r e he hel hol f e[k] (k + 1) (by omega) (by omega), cyc_L4 s l kk r e he hel hol f least (k + 1) (by omega) (by omega), mk_at hx, Option.bind_some]
      by_cases h1 : s ≤ e[k]
      · by_cases h2 : mk r e[k] = true
        · by_cases h3 : least < 0
          · simp [h1, h2, h3]
          · by_cases h4 : e[k] < least <;> simp [h1, h2, h3, h4]
        · simp [h1, h2]
      · simp [h1]
    · rw [if_neg (by rw [decide_eq_true_eq]; omega), chk_pos (by simp only [List.length_cons, List.length_nil, maxLen]; omega), List.drop_eq_nil_of_le (by omega), pk]

section
variable {P : List (List Int)} {n : Nat} {s : Int} {far : List (Int × Int)}
theorem far_walk (h : Far P n s far) : ∀ (d : Nat) (p : Int), mget far p = some (d : Int) → s ≤ p ∧ Wk P s d p
  | 0, p, hp => by
    have := h.zero hp
    exact ⟨by omega, this⟩
  | d + 1, p, hp => by
    obtain ⟨_, _, h1 | ⟨h1, v, h2, h3⟩⟩ := h.all p _ hp
    · omega
    · obtain ⟨h4, h5⟩ := far_walk h d v (by rw [h2]; congr 1; omega)
      exact ⟨by omega, by omega, v, h3, h4, h5⟩
theorem walk_far {D : List (List Int)} {most : Int} (hP : P.length = n) (hs : 0 ≤ s) (hturn : ∀ x y : Int, (0 ≤ x ∧ x < (n : Int)) → (0 ≤ y ∧ y < (n : Int)) → (y ∈ way P x ↔ x ∈ way D y)) (hPr : ∀ x y : Int, y ∈ way P x → 0 ≤ y ∧ y < (n : Int)) (h : Far P n s far)
    (hcl : ∀ v d, mget far v = some d → d < most - 1 → ∀ c ∈ way D v, s < c → ∃ e, mget far c = some e ∧ e ≤ d + 1) : ∀ (k : Nat) (p : Int), Wk P s k p → (k : Int) < most → ∃ d, mget far p = some d ∧ d ≤ (k : Int)
  | 0, p, hp, hk => by
    have hp : p = s := hp
    subst hp
    exact ⟨0, h.at0, by omega⟩
  | k + 1, p, ⟨h1, q, h2, h3, h4⟩, hk => by
    obtain ⟨d, h5, h6⟩ := walk_far hP hs hturn hPr h hcl k q h4 (by omega)
    by_cases hps : p = s
    · subst hps; exact ⟨0, h.at0, by omega⟩
    · have hpr : p < (n : Int) := by
        rcases Int.lt_or_le p n with h' | h'
        · exact h'
        · unfold way at h2; rw [List.getD_eq_getElem?_getD, List.getElem?_eq_none (by omega)] at h2; simp at h2
      obtain ⟨e, h7, h8⟩ := hcl q d h5 (by omega) p ((hturn p q (by omega) (hPr p q h2)).1 h2) (by omega)
      exact ⟨e, h7, by omega⟩
end

section
variable {N n : Nat} {P D : List (List Int)} (hP : P.length = n) (hn : n ≤ 1000000) (hls : ∀ l ∈ P, l.length ≤ 1000000) (hPr : ∀ x y : Int, y ∈ way P x → 0 ≤ y ∧ y < (n : Int)) (hN : 2000000 < N)
include hP hn hls hPr hN
/-- Both go on from the same points in the same way. -/
theorem greedy {s : Nat} (hs : s < n) {far : List (Int × Int)} {most : Int} (hF1 : ∀ p d, mget far p = some d → 0 ≤ d ∧ (s : Int) ≤ p ∧ Wk P s d.toNat p) (hF2 : ∀ (k : Nat) (p : Int), Wk P s k p → (k : Int) < most → ∃ d, mget far p = some d ∧ d ≤ (k : Int)) {b : Nat} (hb : (b : Int) < most) (hbn : b ≤ n)
    (hmin : ∀ m, 1 ≤ m → m < b → ¬ Wk P s m s) : ∀ (f g : Nat) (out : List Int) (v : Int), b < f + out.length → b < g + out.length → 1 ≤ out.length → out.length ≤ b → out.getD (out.length - 1) 0 = v → (0 ≤ v ∧ v < (n : Int)) →
      (∀ m p, p ∈ way P v → (s : Int) ≤ p → Wk P s m p → Wk P s (out.length + m) s) → (out.length < b → ∃ p ∈ way P v, (s : Int) ≤ p ∧ Wk P s (b - out.length) p) →
      ∃ c, m_dag_ring_L4 N P far b f out v = some c ∧ m_credenceref14_Cycle_L3 N P b s g out = some c ∧ c.length = b
  | 0, g, out, v, h1, h2, h3, h4, h5, h6, h7, h8 => by omega
  | f + 1, 0, out, v, h1, h2, h3, h4, h5, h6, h7, h8 => by omega
  | f + 1, g + 1, out, v, h1, h2, h3, h4, h5, h6, h7, h8 => by
    rw [m_dag_ring_L4.eq_2, m_credenceref14_Cycle_L3.eq_2]
    by_cases hlt : out.length < b
    · have hPv : at? P v = some (way P v) := at?_of h6.1 (by rw [List.getElem?_eq_getElem (by omega), way, lgetD_lt (by omega)])
      have hwl : (way P v).length ≤ 1000000 := by rw [way, lgetD_lt (by omega)]; exact hls _ (List.getElem_mem _)
      have hw : IntKind.i64.wrap ((b : Int) - (out.length : Int)) = ((b - out.length : Nat) : Int) := by rw [w64 (by omega)]; omega
      obtain ⟨r, q1, q2, q3⟩ := walks_eq (N := N) hP hn hls hPr hN s hs (b - out.length) (by omega)
      have hlast : at? out (IntKind.i64.wrap ((out.length : Int) - 1)) = some v := by
        rw [w64 (by omega), show (out.length : Int) - 1 = ((out.length - 1 : Nat) : Int) by omega, at?_getD 0 (by omega), h5]
      rw [if_pos (decide_eq_true (by omega)), hPv, Option.bind_some, if_pos (decide_eq_true (by omega)), hw, q1, Option.bind_some, hlast, Option.bind_some, hPv, Option.bind_some, ring2_L5 far b out _ _ hw (by omega),
        show (0 : Int) = ((0 : Nat) : Int) from rfl, cyc_L4 (N := N) s out _ r (way P v) (fun x hx => by rw [q2]; exact hPr v x hx) hwl (by omega) N (-1) 0 (by omega) (Nat.zero_le _), List.drop_zero]
      have heq : ∀ x ∈ way P v, (decide (mget far x = some ((b - out.length : Nat) : Int))) = (decide ((s : Int) ≤ x) && mk r x) := fun x hx => by
        have hxr := hPr v x hx
        rw [Bool.eq_iff_iff, decide_eq_true_eq, Bool.and_eq_true, decide_eq_true_eq, q3 x hxr.1 hxr.2]
        constructor
        · intro h
          obtain ⟨_, k1, k2⟩ := hF1 x _ h
          exact ⟨k1, by simpa using k2⟩
        · rintro ⟨k1, k2⟩
          obtain ⟨d, k3, k4⟩ := hF2 _ x k2 (by omega)
          obtain ⟨k5, _, k6⟩ := hF1 x d k3
          by_cases hd : d = ((b - out.length : Nat) : Int)
          · rw [k3, hd]
          · exact absurd (h7 d.toNat x hx k1 k6) (hmin _ (by omega) (by omega))
      rw [pk_congr (-1) heq]
      generalize hq : pk (fun x => decide ((s : Int) ≤ x) && mk r x) (way P v) (-1) = q
      obtain ⟨hqm, hqp⟩ : q ∈ way P v ∧ (decide ((s : Int) ≤ q) && mk r q) = true := by
        rcases pk_mem (p := fun x => decide ((s : Int) ≤ x) && mk r x) (l := way P v) (least := -1) (fun x hx => (hPr v x hx).1) (fun _ => by
          obtain ⟨p, k1, k2, k3⟩ := h8 hlt
          have := hPr v p k1
          exact ⟨p, k1, by rw [Bool.and_eq_true, decide_eq_true_eq]; exact ⟨k2, (q3 p this.1 this.2).2 k3⟩⟩) with ⟨_, h⟩ | h
        · omega
        · rw [hq] at h; exact h
      rw [Bool.and_eq_true, decide_eq_true_eq] at hqp
      have hqr := hPr v q hqm
      have hqw := (q3 q hqr.1 hqr.2).1 hqp.2
      have hl : (out ++ [q]).length = out.length + 1 := by simp
      refine greedy hs hF1 hF2 hb hbn hmin f g (out ++ [q]) q (by omega) (by omega) (by omega) (by omega) (by rw [hl, Nat.add_sub_cancel]; exact lastI _ _) hqr (fun m p hp hsp hw => ?_) (fun hlt2 => ?_)
      · rw [hl, show out.length + 1 + m = out.length + (m + 1) by omega]
        exact h7 (m + 1) q hqm hqp.1 ⟨hqp.1, p, hp, hsp, hw⟩
      · rw [hl] at hlt2
        rw [show b - out.length = (b - (out.length + 1)) + 1 by omega] at hqw
        rw [hl]
        exact hqw.2
    · have hne : out ≠ [] := fun h => by rw [h] at h3; simp at h3
      exact ⟨out, by rw [if_neg (by rw [decide_eq_true_eq]; omega), chk_pos hne], by rw [if_neg (by rw [decide_eq_true_eq]; omega)], by omega⟩

variable (hD : D.length = n) (hturn : ∀ x y : Int, (0 ≤ x ∧ x < (n : Int)) → (0 ≤ y ∧ y < (n : Int)) → (y ∈ way P x ↔ x ∈ way D y)) (hDr : ∀ x y : Int, y ∈ way D x → 0 ≤ y ∧ y < (n : Int))
include hD hturn hDr
/-- What is found from s, with fewer than 'most' steps. -/
theorem ring2_eq (s : Nat) (hs : s < n) (most : Int) (hm : 1 ≤ most ∧ most ≤ (n : Int) + 1) :
    ∃ r, m_dag_ring N P D s most = some r ∧ ((r = [] ∧ ∀ m : Nat, 1 ≤ m → (m : Int) < most → ¬ Wk P s m s) ∨ ∃ b : Nat, 1 ≤ b ∧ (b : Int) < most ∧ r.length = b ∧ Wk P s b s ∧ (∀ m, 1 ≤ m → m < b → ¬ Wk P s m s) ∧ ∀ g, b < g + 1 → m_credenceref14_Cycle_L3 N P b s g [(s : Int)] = some r) := by
  rw [m_dag_ring, Option.bind_some]
  have hf0 : ∀ c, mget (mput ([] : List (Int × Int)) (s : Int) 0) c = if c = s then some 0 else none := fun c => by rw [mget_mput]; rfl
  have hl0 : lab (mput ([] : List (Int × Int)) (s : Int) 0) s = 0 := lab_of (by rw [hf0, if_pos rfl])
  obtain ⟨far, h1, h2, h3⟩ := ring2_L1 (N := N) hn hP hD hturn hDr (s : Int) most (by omega) hm N [] [(s : Int)] _ (by simp; omega) {
    fr := ⟨by rw [hf0, if_pos rfl], fun c d hc => by
      rw [hf0] at hc
      by_cases h : c = s
      · rw [if_pos h] at hc; cases hc; exact ⟨by omega, by omega, .inl ⟨rfl, h⟩⟩
      · rw [if_neg h] at hc; cases hc⟩
    nd := by simp
    ir := fun x hx => by simp at hx; omega
    key := fun c => by rw [hf0]; by_cases h : c = s <;> simp [h]
    srt := by simp
    top := fun v rest hv x hx => by
      simp only [List.cons.injEq] at hv
      simp only [List.nil_append, List.mem_singleton] at hx
      rw [← hv.1, hx]; omega
    cls := fun v hv => by simp at hv }
  have hb := fun c d (hc : mget far c = some d) => (⟨(h2.all c d hc).2.1, by have := h2.lt hc; omega⟩ : 0 ≤ d ∧ d ≤ 1000000)
  obtain ⟨b, k1, k2, k3, k4⟩ := ring_L3 (N := N) (P := P) (s : Int) most far hb (way P s) most
  have hF1 : ∀ p d, mget far p = some d → 0 ≤ d ∧ (s : Int) ≤ p ∧ Wk P s d.toNat p := fun p d hp => by
    have h0 := (hb p d hp).1
    have := far_walk h2 d.toNat p (by rw [hp]; congr 1; omega)
    exact ⟨h0, this⟩
  have hF2 := walk_far (D := D) hP (by omega) hturn hPr h2 h3
  have hb1 : b ≠ most → 1 ≤ b := fun hbm => by
    rcases k3 with k3 | ⟨p, hp, k3⟩
    · exact absurd k3 hbm
    · have := (hF1 p _ k3).1; omega
  have hno : ∀ m : Nat, 1 ≤ m → (m : Int) < b → ¬ Wk P s m s := fun m hm1 hmb hw => by
    obtain ⟨m, rfl⟩ : ∃ k, m = k + 1 := ⟨m - 1, by omega⟩
    obtain ⟨_, p, hp, hsp, hw⟩ := hw
    obtain ⟨d, k5, k6⟩ := hF2 m p hw (by omega)
    have := k4 p hp d k5
    omega
  rw [h1, k1]
  by_cases hbm : b = most
  · rw [if_pos hbm]
    subst hbm
    exact ⟨[], rfl, .inl ⟨rfl, hno⟩⟩
  · rw [if_neg hbm]
    have hb1 := hb1 hbm
    obtain ⟨p, hp, k3⟩ := k3.resolve_left hbm
    obtain ⟨k5, k6, k7⟩ := hF1 p _ k3
    obtain ⟨c, rfl⟩ : ∃ c : Nat, b = (c : Int) := ⟨b.toNat, by omega⟩
    have hW : Wk P s c s := by
      obtain ⟨c, rfl⟩ : ∃ k, c = k + 1 := ⟨c - 1, by omega⟩
      rw [show (((c + 1 : Nat) : Int) - 1).toNat = c by omega] at k7
      exact ⟨Int.le_refl _, p, hp, k6, k7⟩
    have hmin : ∀ m, 1 ≤ m → m < c → ¬ Wk P s m s := fun m h1 h2 => hno m h1 (by omega)
    have hg := fun (g : Nat) (hgc : c < g + 1) => greedy (N := N) hP hn hls hPr hN hs hF1 hF2 (b := c) (by omega) (by omega) hmin N g [(s : Int)] s (by simp; omega) (by simpa using hgc) (by simp) (by simp; omega) rfl (by omega) (fun m p hp hsp hw => by
      rw [show [(s : Int)].length + m = m + 1 by simp; omega]
      exact ⟨Int.le_refl _, p, hp, hsp, hw⟩) (fun hlt => by
      rw [List.length_singleton]
      refine ⟨p, hp, k6, ?_⟩
      rw [show (((c : Nat) : Int) - 1).toNat = c - 1 by omega] at k7; exact k7)
    obtain ⟨r, q1, q2, q3⟩ := hg c (by omega)
    refine ⟨r, q1, .inr ⟨c, by omega, by omega, q3, hW, hmin, fun g hgc => ?_⟩⟩
    obtain ⟨r', q1', q2', _⟩ := hg g (by omega)
    rw [q1] at q1'; cases q1'
    exact q2'

/-- What is the best so far. -/
def Best (N : Nat) (P : List (List Int)) (n k : Nat) (best : List Int) (most : Int) : Prop :=
  (best = [] ∧ most = (n : Int) + 1 ∧ ∀ s m : Nat, s < k → 1 ≤ m → m ≤ n → ¬ Wk P s m s) ∨
  ∃ s0 b : Nat, s0 < k ∧ most = (b : Int) ∧ 1 ≤ b ∧ b ≤ n ∧ best.length = b ∧ Wk P s0 b s0 ∧ (∀ s m : Nat, s < k → 1 ≤ m → m < b → ¬ Wk P s m s) ∧ (∀ s : Nat, s < s0 → ¬ Wk P s b s) ∧ ∀ g, b < g + 1 → m_credenceref14_Cycle_L3 N P b s0 g [(s0 : Int)] = some best
theorem Cycle2_L2 (l : List Int) (out : List (Int × Int)) (ho : ∀ c, 0 < (mget out c).getD 0 ↔ c ∈ l) (hl : ∀ (s m : Nat), (s : Int) ∈ l → 1 ≤ m → ¬ Wk P s m s) :
    ∀ (Q : List (List Int)) (k : Nat) (best : List Int) (most : Int), P.drop k = Q → k ≤ n → Best N P n k best most → ∃ c most', m_dag_Cycle_L2 N P D out Q k best most = some c ∧ Best N P n n c most'
  | [], k, best, most, hQ, hk, hb => by
    have hkP : k = n := by have := congrArg List.length hQ; simp at this; omega
    subst hkP
    exact ⟨best, most, by rw [m_dag_Cycle_L2.eq_1], hb⟩
  | x :: Q, k, best, most, hQ, hk, hb => by
    have hkl : k < P.length := by
      rcases Nat.lt_or_ge k P.length with h | h
      · exact h
      · rw [List.drop_eq_nil_of_le h] at hQ; cases hQ
    rw [List.drop_eq_getElem_cons hkl] at hQ
    obtain ⟨_, hQ⟩ := List.cons.inj hQ
    have hlast : ∀ {p : Nat → Prop}, (∀ s, s < k → p s) → p k → ∀ s, s < k + 1 → p s := fun {p} h1 h2 s hs => by
      by_cases h : s = k
      · subst h; exact h2
      · exact h1 s (by omega)
    have hkeep : (∀ m : Nat, 1 ≤ m → (m : Int) < most → ¬ Wk P k m k) → Best N P n (k + 1) best most := fun hno => by
      rcases hb with ⟨q1, q2, q3⟩ | ⟨s0, b, q1, q2, q3, q4, q5, q6, q7, q8, q9⟩
      · exact .inl ⟨q1, q2, hlast (p := fun s => ∀ m : Nat, s < k + 1 → 1 ≤ m → m ≤ n → ¬ Wk P s m s) (fun s hs m _ h1 h2 => q3 s m hs h1 h2) (fun m _ h1 h2 => hno m h1 (by omega)) |> fun h s m hs => h s hs m hs⟩
      · exact .inr ⟨s0, b, by omega, q2, q3, q4, q5, q6, hlast (p := fun s => ∀ m : Nat, s < k + 1 → 1 ≤ m → m < b → ¬ Wk P s m s) (fun s hs m _ h1 h2 => q7 s m hs h1 h2) (fun m _ h1 h2 => hno m h1 (by omega)) |> fun h s m hs => h s hs m hs, q8, q9⟩
    rw [m_dag_Cycle_L2.eq_2]
    simp only [m_dag_Cycle_J1]
    by_cases hkm : (k : Int) ∈ l
    · rw [if_pos (decide_eq_true ((ho _).2 hkm))]
      exact Cycle2_L2 l out ho hl Q (k + 1) best most hQ (by omega) (hkeep fun m h1 _ => hl k m hkm h1)
    · rw [if_neg (fun h => hkm ((ho _).1 (of_decide_eq_true h)))]
      have hm : 1 ≤ most ∧ most ≤ (n : Int) + 1 := by
        rcases hb with ⟨_, h, _⟩ | ⟨s0, b, q1, q2, q3, q4, _⟩ <;> omega
      obtain ⟨r, h1, h2⟩ := ring2_eq (N := N) hP hn hls hPr hN hD hturn hDr k (by omega) most hm
      rw [h1, Option.bind_some]
      rcases h2 with ⟨rfl, h2⟩ | ⟨b', r1, r2, r3, r4, r5, r6⟩
      · rw [if_neg (by simp)]
        exact Cycle2_L2 l out ho hl Q (k + 1) best most hQ (by omega) (hkeep h2)
      · have hr : r ≠ [] := fun h => by rw [h] at r3; simp at r3; omega
        rw [if_pos (by simp [hr])]
        refine Cycle2_L2 l out ho hl Q (k + 1) r _ hQ (by omega) (.inr ⟨k, b', by omega, by rw [r3], r1, by omega, r3, r4, fun s m hs hm1 hm2 hw => ?_, fun s hs hw => ?_, r6⟩)
        · by_cases hsk : s = k
          · subst hsk; exact r5 m hm1 hm2 hw
          · rcases hb with ⟨q1, q2, q3⟩ | ⟨s0, b, q1, q2, q3, q4, q5, q6, q7, q8, q9⟩
            · exact q3 s m (by omega) hm1 (by omega) hw
            · exact q7 s m (by omega) hm1 (by omega) hw
        · rcases hb with ⟨q1, q2, q3⟩ | ⟨s0, b, q1, q2, q3, q4, q5, q6, q7, q8, q9⟩
          · exact q3 s b' hs r1 (by omega) hw
          · exact q7 s b' hs r1 (by omega) hw
omit hD hturn hDr
theorem refc_L2 (m : Nat) (hm : m ≤ n) (kk : Int → Option (List Int)) : ∀ (f i : Nat), n < f + i → i ≤ n →
    ((∀ s : Nat, i ≤ s → s < n → ¬ Wk P s m s) → m_credenceref14_Cycle_L2 N P m kk f (i : Int) = kk ((m + 1 : Nat) : Int)) ∧
    ∀ s0 : Nat, i ≤ s0 → s0 < n → Wk P s0 m s0 → (∀ s : Nat, s < s0 → ¬ Wk P s m s) → m_credenceref14_Cycle_L2 N P m kk f (i : Int) = m_credenceref14_Cycle_L3 N P m s0 N [(s0 : Int)]
  | 0, i, h, hi => by omega
  | f + 1, i, h, hi => by
    rw [m_credenceref14_Cycle_L2.eq_2]
    by_cases hlt : i < n
    · obtain ⟨r, q1, q2, q3⟩ := walks_eq (N := N) hP hn hls hPr hN i hlt m hm
      obtain ⟨k1, k2⟩ := refc_L2 m hm kk f (i + 1) (by omega) (by omega)
      rw [if_pos (decide_eq_true (by omega)), q1, Option.bind_some, mk_at (by omega), Option.bind_some, wS (by omega)]
      by_cases hw : mk r i = true
      · have hW := (q3 i (by omega) (by omega)).1 hw
        rw [hw, if_neg (by decide)]
        refine ⟨fun hno => absurd hW (hno i (Nat.le_refl _) hlt), fun s0 h1 h2 h3 h4 => ?_⟩
        by_cases hs : s0 = i
        · rw [hs]
        · exact absurd hW (h4 i (by omega))
      · rw [Bool.eq_false_iff.2 hw, if_pos (by decide)]
        refine ⟨fun hno => k1 fun s h1 h2 => hno s (by omega) h2, fun s0 h1 h2 h3 h4 => k2 s0 ?_ h2 h3 h4⟩
        by_cases hs : s0 = i
        · subst hs; exact absurd ((q3 _ (by omega) (by omega)).2 h3) hw
        · omega
    · rw [if_neg (by rw [decide_eq_true_eq]; omega)]
      exact ⟨fun _ => by rw [wS (by omega)], fun s0 h1 h2 => by omega⟩
theorem refc_L1 {best : List Int} {most : Int} (hb : Best N P n n best most) : ∀ (f m : Nat), n + 1 < f + m → 1 ≤ m → m ≤ n + 1 → (best ≠ [] → (m : Int) ≤ most) → m_credenceref14_Cycle_L1 N P f (m : Int) = some best
  | 0, m, h, h1, h2, h3 => by omega
  | f + 1, m, h, h1, h2, h3 => by
    rw [m_credenceref14_Cycle_L1.eq_2]
    by_cases hlt : m ≤ n
    · obtain ⟨k1, k2⟩ := refc_L2 (N := N) hP hn hls hPr hN m hlt (m_credenceref14_Cycle_L1 N P f) N 0 (by omega) (Nat.zero_le _)
      rw [if_pos (decide_eq_true (by omega)), show (0 : Int) = ((0 : Nat) : Int) from rfl]
      have hb' := hb
      rcases hb with ⟨q1, q2, q3⟩ | ⟨s0, b, q1, q2, q3, q4, q5, q6, q7, q8, q9⟩
      · rw [k1 fun s _ hs => q3 s m hs h1 hlt]
        exact refc_L1 hb' f (m + 1) (by omega) (by omega) (by omega) (fun h => absurd q1 h)
      · have hne : best ≠ [] := fun h => by rw [h] at q5; simp at q5; omega
        have h4 := h3 hne
        by_cases hmb : m = b
        · subst hmb
          rw [k2 s0 (Nat.zero_le _) q1 q6 q8]
          exact q9 N (by omega)
        · rw [k1 fun s _ hs => q7 s m hs h1 (by omega)]
          exact refc_L1 hb' f (m + 1) (by omega) (by omega) (by omega) (fun _ => by omega)
    · rw [if_neg (by rw [decide_eq_true_eq]; omega)]
      rcases hb with ⟨q1, q2, q3⟩ | ⟨s0, b, q1, q2, q3, q4, q5, q6, q7, q8, q9⟩
      · rw [q1]
      · have := h3 (fun h => by rw [h] at q5; simp at q5; omega)
        omega
end
/-- What is put out lies on no way that leads back. -/
theorem no_back {P : List (List Int)} {l : List Int} (hnd : l.Nodup) (ho : OrdL P l) (s : Int) (hs : s ∈ l) (m : Nat) (hm : 1 ≤ m) : ¬ Wk P s m s := by
  have main : ∀ (j : Nat) (hj : j < l.length) (m : Nat), 1 ≤ m → Wk P s m l[j] → ∃ i, ∃ hi : i < l.length, i < j ∧ l[i] = s := by
    intro j
    induction j using Nat.strongRecOn with
    | ind j ih =>
      intro hj m hm hw
      obtain ⟨m, rfl⟩ : ∃ k, m = k + 1 := ⟨m - 1, by omega⟩
      obtain ⟨_, q, hq, _, hw⟩ := hw
      obtain ⟨i, hi, he⟩ := List.getElem_of_mem (ho j hj q hq)
      rw [List.getElem_take] at he
      have hij : i < j ∧ i < l.length := by rw [List.length_take] at hi; omega
      cases m with
      | zero => exact ⟨i, hij.2, hij.1, he.trans hw⟩
      | succ m =>
        obtain ⟨i2, hi2, h1, h2⟩ := ih i hij.1 hij.2 (m + 1) (by omega) (by rw [he]; exact hw)
        exact ⟨i2, hi2, by omega, h2⟩
  intro hw
  obtain ⟨j, hj, he⟩ := List.getElem_of_mem hs
  obtain ⟨i, hi, h1, h2⟩ := main j hj m hm (by rw [he]; exact hw)
  exact List.pairwise_iff_getElem.1 hnd i j hi hj h1 (h2.trans he.symm)
theorem cyc_both {N : Nat} {P : List (List Int)} (h : Sml P) (hN : 2000000 < N) : ∃ r, m_dag_Cycle N P = some r ∧ m_credenceref14_Cycle N P = some r ∧ r.length ≤ P.length := by
  have hn := h.n
  have ht := h.t
  have hls := h.ls
  have hls' : ∀ x ∈ P, x.length ≤ 1048576 := fun x hx => by have := hls x hx; omega
  have hfail : ∀ e, e ≠ 42 → m_dag_Check N P = some e → m_credenceref14_Check N P = some e → ∃ r, m_dag_Cycle N P = some r ∧ m_credenceref14_Cycle N P = some r ∧ r.length ≤ P.length := fun e he hC R =>
    ⟨[], cycle_nil hC he, by rw [m_credenceref14_Cycle, R, Option.bind_some, if_pos (by simpa using he)], by simp⟩
  rcases says h hN with ⟨e, Dd, R, hne⟩ | ⟨I, T, l, o, ok, mx, lt, Dd, R⟩ | ⟨I, T, l, o, ok, mx, eq, Dd, R⟩
  · exact hfail e (by omega) (by rw [m_dag_Check, Dd]; rfl) R
  · have hC : m_dag_Check N P = some 42 := by rw [m_dag_Check, Dd]; rfl
    obtain ⟨D, h4, h5, h6⟩ := children_eq (P := P) (by omega) (by omega) (inside_InR I)
    have hPr : ∀ x y : Int, y ∈ way P x → 0 ≤ y ∧ y < (P.length : Int) := fun x y hy => way_InR (W := P) (inside_InR I) x y hy
    have hkm : ∀ (p c : Nat), p < P.length → ((c : Int) ∈ D.getD p [] ↔ (p : Int) ∈ P.getD c []) := fun p c hp => by
      rw [h6 p hp, ← List.count_pos_iff, kids_count (p : Int) 0 P c, if_pos (Nat.zero_le _), Nat.sub_zero, List.count_pos_iff]
    have hDr : ∀ x y : Int, y ∈ way D x → 0 ≤ y ∧ y < (P.length : Int) := fun x y hy => by
      unfold way at hy
      by_cases hx : x.toNat < D.length
      · rw [h6 _ (by omega)] at hy
        obtain ⟨c, h1, _, h2⟩ := kids_mem _ 0 P y hy
        omega
      · rw [List.getD_eq_getElem?_getD, List.getElem?_eq_none (by omega)] at hy; simp at hy
    have hturn : ∀ x y : Int, (0 ≤ x ∧ x < (P.length : Int)) → (0 ≤ y ∧ y < (P.length : Int)) → (y ∈ way P x ↔ x ∈ way D y) := fun x y hx hy => by
      have := hkm y.toNat x.toNat (by omega)
      rw [show ((x.toNat : Nat) : Int) = x by omega, show ((y.toNat : Nat) : Int) = y by omega] at this
      exact this.symm
    have hord := out_ord (N := N) (P := P) (by omega) hls' (by omega) N [] l ⟨.nil, by simp, by simp⟩ (fun j hj => by simp at hj) (by rw [m_credenceref14_out] at o; exact o)
    obtain ⟨out', k1, k2⟩ := Cycle_L1 (N := N) (P := P) (D := D) l [] [] (fun k => by simp [mget])
    obtain ⟨c, most, k3, k4⟩ := Cycle2_L2 (N := N) (D := D) rfl hn hls hPr hN h5 hturn hDr l out' (fun c => by
      rw [k2 c, List.nil_append]
      by_cases hc : c ∈ l <;> simp [hc]) (fun s m hs hm => no_back ok.1 hord s hs m hm) P 0 [] _ rfl (Nat.zero_le _) (.inl ⟨rfl, rfl, fun s m hs => by omega⟩)
    have hcl : c.length ≤ P.length ∧ (c ≠ [] → (1 : Int) ≤ most) := by
      rcases k4 with ⟨q1, q2, q3⟩ | ⟨s0, b, q1, q2, q3, q4, q5, q6, q7, q8, q9⟩
      · rw [q1]; exact ⟨by simp, fun h => absurd rfl h⟩
      · exact ⟨by omega, fun _ => by omega⟩
    refine ⟨c, ?_, ?_, hcl.1⟩
    · rw [m_dag_Cycle, hC, Option.bind_some, if_neg (by decide), h4, Option.bind_some, sorted_eq (by omega) hls' (by omega) hN h5 h6, o, Option.bind_some, k1, w64 (by omega)]
      exact k3
    · rw [m_credenceref14_Cycle, R, Option.bind_some, if_neg (by decide)]
      exact refc_L1 (N := N) rfl hn hls hPr hN k4 N 1 (by omega) (by omega) (by omega) hcl.2
  · exact hfail 0 (by decide) (by rw [m_dag_Check, Dd]; rfl) R


theorem el31_31 : ElemOk Try.prog 31 1 24 := ⟨Try.t31, _, rfl, rfl, rfl, rfl, rfl⟩

def m_credencelaw14_told (N : Nat) (p0_do : Int) (p1_parents : (List (List Int))) (p2_points : (List Int)) : Option ((List (List Int)) × Int) :=
  if (decide (p0_do = 0)) = true then ((m_credenceref14_Cycle N p1_parents).bind fun r_1 => some ([r_1], 0)) else (if (decide (p0_do = 1)) = true then ((m_credenceref14_Order N p1_parents).bind fun r_14 => some ([r_14.1], r_14.2)) else (if (decide (p0_do = 2)) = true then ((m_credenceref14_Above N p1_parents p2_points).bind fun r_27 => some ([r_27.1], r_27.2)) else (if (decide (p0_do = 3)) = true then ((m_credenceref14_Below N p1_parents p2_points).bind fun r_40 => some ([r_40.1], r_40.2)) else ((m_credenceref14_Children N p1_parents).bind fun r_53 => some (r_53.1, r_53.2)))))

set_option maxRecDepth 100000 in
theorem c_credencelaw14_told (N : Nat) (c1 : Nat) (col : Col) (w0 : World) (p0_do : Int) (a1 : Option Addr) (cap1 : Nat) (p1_parents : (List (List Int))) (a2 : Option Addr) (cap2 : Nat) (p2_points : (List Int)) (h1 : Sl (Rep.slice (Rep.int .i64)) col w0 a1 cap1 p1_parents) (h2 : Sl (Rep.int .i64) col w0 a2 cap2 p2_points) (r : ((List (List Int)) × Int)) (hm : m_credencelaw14_told N p0_do p1_parents p2_points = some r) :
    Calls Try.prog 31 #[(.int .i64 p0_do), (.slice a1 p1_parents.length cap1), (.slice a2 p2_points.length cap2)] w0 (fun e w' => ∃ (col' : Col) (ra1 : Option Addr) (rc2 : Nat), e = .returned (.tuple #[(.slice ra1 r.1.length rc2), (.int .i64 r.2)]) ∧ Grow col w0 col' w' ∧ Own (Rep.row 3 (Rep.int .i64)) 31 c1 col' w' ra1 rc2 r.1) := by
  refine calls_of2 6 7 (m := 56) (args := [(.int .i64 p0_do), (.slice a1 p1_parents.length cap1), (.slice a2 p2_points.length cap2)]) Try.func31 rfl rfl rfl rfl rfl ?_
  rw [m_credencelaw14_told.eq_1] at hm
  have hst := St.start col w0
  replace h1 := h1.keep (Stay.start col w0)
  replace h2 := h2.keep (Stay.start col w0)
  refine wseq ?_
  refine wregion ?_
  refine lv (v := (.slice none (([] : List (List Int)).length) 0)) rfl rfl (r_assign rfl) ?_
  refine lv (v := (.int .i64 0)) rfl rfl (r_assign rfl) ?_
  refine lnil ?_
  refine wseq ?_
  refine wseq ?_
  refine wregion ?_
  refine lv (v := (.int .i64 p0_do)) rfl rfl (r_move rfl) ?_
  refine lnil ?_
  refine wblock ?_
  refine wseq ?_
  refine wregion ?_
  refine lv (v := (.bool (decide (p0_do = 0)))) rfl rfl (r_eql p0_do 0 rfl rfl) ?_
  refine lv (v := (.bool (decide (p0_do = 0)))) rfl rfl (r_assign rfl) ?_
  refine lnil ?_
  refine wcond (decide (p0_do = 0)) rfl (fun hb => ?_) (fun hb => ?_)
  · rw [if_pos hb] at hm
    clear hb
    refine wseq ?_
    refine wregion ?_
    refine lv (v := (.slice a1 p1_parents.length cap1)) rfl rfl (r_move rfl) ?_
    obtain ⟨r_1, hr_2, hm⟩ := bind_some hm
    refine lc rfl rfl (r_call1 Try.call41 rfl) (c_credenceref14_Cycle N 1 (col0 col) _ a1 cap1 p1_parents h1 r_1 hr_2) ?_
    rintro _ w_6 ⟨col_8, ra_3, rc_4, rfl, hg_7, rh_5⟩
    refine ⟨_, rfl, ?_⟩
    replace h1 := h1.gr hg_7
    replace hst := hst.grow hg_7
    refine l_lit (col := col_8) (r := (Rep.row 3 (Rep.int .i64))) (xs := [r_1]) [(.slice ra_3 r_1.length rc_4)] 1 rfl Try.underlying22 el31_31 rfl rfl rfl rfl rfl rfl (by intro v hv; simp only [List.mem_cons, List.not_mem_nil, or_false] at hv; subst hv; rfl) (RowsH.cons1 (cs := [(.slice ra_3 r_1.length rc_4)]) rh_5.has Rows.nil0) ?_
    intro a_9 w_10 col_11 hg_12 h_13
    replace rh_5 := rh_5.gr hg_12
    replace hst := hst.grow hg_12
    refine lv (v := (.slice a_9 ([r_1].length) 1)) rfl rfl (r_assign rfl) ?_
    refine lv (v := (.int .i64 0)) rfl rfl (r_assign rfl) ?_
    refine lnil ?_
    refine wret ?_
    cases hm
    exact ⟨rfl, colF w0.heap.size col col_11 (fun n => bif Nat.beq n 1 then c1 else 0), a_9, 1, rfl, hst.fin (fun n => bif Nat.beq n 1 then c1 else 0), hst.finOwn (g := (fun n => bif Nat.beq n 1 then c1 else 0)) rfl h_13 (by decide) (by decide) rfl⟩
  · rw [if_neg (by rw [hb]; decide)] at hm
    clear hb
    refine wseq ?_
    refine wregion ?_
    refine lv (v := (.bool (decide (p0_do = 1)))) rfl rfl (r_eql p0_do 1 rfl rfl) ?_
    refine lv (v := (.bool (decide (p0_do = 1)))) rfl rfl (r_assign rfl) ?_
    refine lnil ?_
    refine wcond (decide (p0_do = 1)) rfl (fun hb => ?_) (fun hb => ?_)
    · rw [if_pos hb] at hm
      clear hb
      refine wseq ?_
      refine wregion ?_
      refine lv (v := (.slice a1 p1_parents.length cap1)) rfl rfl (r_move rfl) ?_
      obtain ⟨r_14, hr_15, hm⟩ := bind_some hm
      refine lc rfl rfl (r_call1 Try.call42 rfl) (c_credenceref14_Order N 2 (col0 col) _ a1 cap1 p1_parents h1 r_14 hr_15) ?_
      rintro _ w_19 ⟨col_21, ra_16, rc_17, rfl, hg_20, rh_18⟩
      refine ⟨_, rfl, ?_⟩
      replace h1 := h1.gr hg_20
      replace hst := hst.grow hg_20
      refine lv (v := (.tuple #[(.slice ra_16 r_14.1.length rc_17), (.int .i64 r_14.2)])) rfl rfl (r_move rfl) ?_
      refine lv (v := (.slice ra_16 r_14.1.length rc_17)) rfl rfl (r_extract rfl rfl) ?_
      refine lv (v := (.int .i64 r_14.2)) rfl rfl (r_extract rfl rfl) ?_
      refine lv (v := (.slice ra_16 r_14.1.length rc_17)) rfl rfl (r_assign rfl) ?_
      refine lv (v := (.int .i64 r_14.2)) rfl rfl (r_assign rfl) ?_
      refine lnil ?_
      refine wseq ?_
      refine wregion ?_
      refine lv (v := (.slice ra_16 r_14.1.length rc_17)) rfl rfl (r_move rfl) ?_
      refine l_lit (col := col_21) (r := (Rep.row 3 (Rep.int .i64))) (xs := [r_14.1]) [(.slice ra_16 r_14.1.length rc_17)] 2 rfl Try.underlying22 el31_31 rfl rfl rfl rfl rfl rfl (by intro v hv; simp only [List.mem_cons, List.not_mem_nil, or_false] at hv; subst hv; rfl) (RowsH.cons1 (cs := [(.slice ra_16 r_14.1.length rc_17)]) rh_18.has Rows.nil0) ?_
      intro a_22 w_23 col_24 hg_25 h_26
      replace rh_18 := rh_18.gr hg_25
      replace hst := hst.grow hg_25
      refine lv (v := (.int .i64 r_14.2)) rfl rfl (r_move rfl) ?_
      refine lv (v := (.slice a_22 ([r_14.1].length) 1)) rfl rfl (r_assign rfl) ?_
      refine lv (v := (.int .i64 r_14.2)) rfl rfl (r_assign rfl) ?_
      refine lnil ?_
      refine wret ?_
      cases hm
      exact ⟨rfl, colF w0.heap.size col col_24 (fun n => bif Nat.beq n 2 then c1 else 0), a_22, 1, rfl, hst.fin (fun n => bif Nat.beq n 2 then c1 else 0), hst.finOwn (g := (fun n => bif Nat.beq n 2 then c1 else 0)) rfl h_26 (by decide) (by decide) rfl⟩
    · rw [if_neg (by rw [hb]; decide)] at hm
      clear hb
      refine wseq ?_
      refine wregion ?_
      refine lv (v := (.bool (decide (p0_do = 2)))) rfl rfl (r_eql p0_do 2 rfl rfl) ?_
      refine lv (v := (.bool (decide (p0_do = 2)))) rfl rfl (r_assign rfl) ?_
      refine lnil ?_
      refine wcond (decide (p0_do = 2)) rfl (fun hb => ?_) (fun hb => ?_)
      · rw [if_pos hb] at hm
        clear hb
        refine wseq ?_
        refine wregion ?_
        refine lv (v := (.slice a1 p1_parents.length cap1)) rfl rfl (r_move rfl) ?_
        refine lv (v := (.slice a2 p2_points.length cap2)) rfl rfl (r_move rfl) ?_
        obtain ⟨r_27, hr_28, hm⟩ := bind_some hm
        refine lc rfl rfl (r_call2 Try.call43 rfl rfl) (c_credenceref14_Above N 3 (col0 col) _ a1 cap1 p1_parents a2 cap2 p2_points h1 h2 r_27 hr_28) ?_
        rintro _ w_32 ⟨col_34, ra_29, rc_30, rfl, hg_33, rh_31⟩
        refine ⟨_, rfl, ?_⟩
        replace h1 := h1.gr hg_33
        replace h2 := h2.gr hg_33
        replace hst := hst.grow hg_33
        refine lv (v := (.tuple #[(.slice ra_29 r_27.1.length rc_30), (.int .i64 r_27.2)])) rfl rfl (r_move rfl) ?_
        refine lv (v := (.slice ra_29 r_27.1.length rc_30)) rfl rfl (r_extract rfl rfl) ?_
        refine lv (v := (.int .i64 r_27.2)) rfl rfl (r_extract rfl rfl) ?_
        refine lv (v := (.slice ra_29 r_27.1.length rc_30)) rfl rfl (r_assign rfl) ?_
        refine lv (v := (.int .i64 r_27.2)) rfl rfl (r_assign rfl) ?_
        refine lnil ?_
        refine wseq ?_
        refine wregion ?_
        refine lv (v := (.slice ra_29 r_27.1.length rc_30)) rfl rfl (r_move rfl) ?_
        refine l_lit (col := col_34) (r := (Rep.row 3 (Rep.int .i64))) (xs := [r_27.1]) [(.slice ra_29 r_27.1.length rc_30)] 3 rfl Try.underlying22 el31_31 rfl rfl rfl rfl rfl rfl (by intro v hv; simp only [List.mem_cons, List.not_mem_nil, or_false] at hv; subst hv; rfl) (RowsH.cons1 (cs := [(.slice ra_29 r_27.1.length rc_30)]) rh_31.has Rows.nil0) ?_
        intro a_35 w_36 col_37 hg_38 h_39
        replace rh_31 := rh_31.gr hg_38
        replace hst := hst.grow hg_38
        refine lv (v := (.int .i64 r_27.2)) rfl rfl (r_move rfl) ?_
        refine lv (v := (.slice a_35 ([r_27.1].length) 1)) rfl rfl (r_assign rfl) ?_
        refine lv (v := (.int .i64 r_27.2)) rfl rfl (r_assign rfl) ?_
        refine lnil ?_
        refine wret ?_
        cases hm
        exact ⟨rfl, colF w0.heap.size col col_37 (fun n => bif Nat.beq n 3 then c1 else 0), a_35, 1, rfl, hst.fin (fun n => bif Nat.beq n 3 then c1 else 0), hst.finOwn (g := (fun n => bif Nat.beq n 3 then c1 else 0)) rfl h_39 (by decide) (by decide) rfl⟩
      · rw [if_neg (by rw [hb]; decide)] at hm
        clear hb
        refine wseq ?_
        refine wregion ?_
        refine lv (v := (.bool (decide (p0_do = 3)))) rfl rfl (r_eql p0_do 3 rfl rfl) ?_
        refine lv (v := (.bool (decide (p0_do = 3)))) rfl rfl (r_assign rfl) ?_
        refine lnil ?_
        refine wcond (decide (p0_do = 3)) rfl (fun hb => ?_) (fun hb => ?_)
        · rw [if_pos hb] at hm
          clear hb
          refine wseq ?_
          refine wregion ?_
          refine lv (v := (.slice a1 p1_parents.length cap1)) rfl rfl (r_move rfl) ?_
          refine lv (v := (.slice a2 p2_points.length cap2)) rfl rfl (r_move rfl) ?_
          obtain ⟨r_40, hr_41, hm⟩ := bind_some hm
          refine lc rfl rfl (r_call2 Try.call44 rfl rfl) (c_credenceref14_Below N 4 (col0 col) _ a1 cap1 p1_parents a2 cap2 p2_points h1 h2 r_40 hr_41) ?_
          rintro _ w_45 ⟨col_47, ra_42, rc_43, rfl, hg_46, rh_44⟩
          refine ⟨_, rfl, ?_⟩
          replace h1 := h1.gr hg_46
          replace h2 := h2.gr hg_46
          replace hst := hst.grow hg_46
          refine lv (v := (.tuple #[(.slice ra_42 r_40.1.length rc_43), (.int .i64 r_40.2)])) rfl rfl (r_move rfl) ?_
          refine lv (v := (.slice ra_42 r_40.1.length rc_43)) rfl rfl (r_extract rfl rfl) ?_
          refine lv (v := (.int .i64 r_40.2)) rfl rfl (r_extract rfl rfl) ?_
          refine lv (v := (.slice ra_42 r_40.1.length rc_43)) rfl rfl (r_assign rfl) ?_
          refine lv (v := (.int .i64 r_40.2)) rfl rfl (r_assign rfl) ?_
          refine lnil ?_
          refine wseq ?_
          refine wregion ?_
          refine lv (v := (.slice ra_42 r_40.1.length rc_43)) rfl rfl (r_move rfl) ?_
          refine l_lit (col := col_47) (r := (Rep.row 3 (Rep.int .i64))) (xs := [r_40.1]) [(.slice ra_42 r_40.1.length rc_43)] 4 rfl Try.underlying22 el31_31 rfl rfl rfl rfl rfl rfl (by intro v hv; simp only [List.mem_cons, List.not_mem_nil, or_false] at hv; subst hv; rfl) (RowsH.cons1 (cs := [(.slice ra_42 r_40.1.length rc_43)]) rh_44.has Rows.nil0) ?_
          intro a_48 w_49 col_50 hg_51 h_52
          replace rh_44 := rh_44.gr hg_51
          replace hst := hst.grow hg_51
          refine lv (v := (.int .i64 r_40.2)) rfl rfl (r_move rfl) ?_
          refine lv (v := (.slice a_48 ([r_40.1].length) 1)) rfl rfl (r_assign rfl) ?_
          refine lv (v := (.int .i64 r_40.2)) rfl rfl (r_assign rfl) ?_
          refine lnil ?_
          refine wret ?_
          cases hm
          exact ⟨rfl, colF w0.heap.size col col_50 (fun n => bif Nat.beq n 4 then c1 else 0), a_48, 1, rfl, hst.fin (fun n => bif Nat.beq n 4 then c1 else 0), hst.finOwn (g := (fun n => bif Nat.beq n 4 then c1 else 0)) rfl h_52 (by decide) (by decide) rfl⟩
        · rw [if_neg (by rw [hb]; decide)] at hm
          clear hb
          refine wskip ?_
          refine wseq ?_
          refine wregion ?_
          refine lv (v := (.slice a1 p1_parents.length cap1)) rfl rfl (r_move rfl) ?_
          obtain ⟨r_53, hr_54, hm⟩ := bind_some hm
          refine lc rfl rfl (r_call1 Try.call45 rfl) (c_credenceref14_Children N 5 (col0 col) _ a1 cap1 p1_parents h1 r_53 hr_54) ?_
          rintro _ w_58 ⟨col_60, ra_55, rc_56, rfl, hg_59, rh_57⟩
          refine ⟨_, rfl, ?_⟩
          replace h1 := h1.gr hg_59
          replace hst := hst.grow hg_59
          refine lv (v := (.slice ra_55 r_53.1.length rc_56)) rfl rfl (r_extract rfl rfl) ?_
          refine lv (v := (.int .i64 r_53.2)) rfl rfl (r_extract rfl rfl) ?_
          refine lv (v := (.slice ra_55 r_53.1.length rc_56)) rfl rfl (r_assign rfl) ?_
          refine lv (v := (.int .i64 r_53.2)) rfl rfl (r_assign rfl) ?_
          refine lnil ?_
          refine wret ?_
          cases hm
          exact ⟨rfl, colF w0.heap.size col col_60 (fun n => bif Nat.beq n 5 then c1 else 0), ra_55, rc_56, rfl, hst.fin (fun n => bif Nat.beq n 5 then c1 else 0), hst.finOwn (g := (fun n => bif Nat.beq n 5 then c1 else 0)) rfl rh_57 (by decide) (by decide) rfl⟩



theorem el31_32 : ElemOk Try.prog 31 1 24 := ⟨Try.t31, _, rfl, rfl, rfl, rfl, rfl⟩

def m_credencelaw14_call (N : Nat) (p0_do : Int) (p1_parents : (List (List Int))) (p2_points : (List Int)) : Option ((List (List Int)) × Int) :=
  if (decide (p0_do = 0)) = true then ((m_dag_Cycle N p1_parents).bind fun r_1 => some ([r_1], 0)) else (if (decide (p0_do = 1)) = true then ((m_dag_Order N p1_parents).bind fun r_14 => some ([r_14.1], r_14.2)) else (if (decide (p0_do = 2)) = true then ((m_dag_Above N p1_parents p2_points).bind fun r_27 => some ([r_27.1], r_27.2)) else (if (decide (p0_do = 3)) = true then ((m_dag_Below N p1_parents p2_points).bind fun r_40 => some ([r_40.1], r_40.2)) else ((m_dag_Children N p1_parents).bind fun r_53 => some (r_53.1, r_53.2)))))

set_option maxRecDepth 100000 in
theorem c_credencelaw14_call (N : Nat) (c1 : Nat) (col : Col) (w0 : World) (p0_do : Int) (a1 : Option Addr) (cap1 : Nat) (p1_parents : (List (List Int))) (a2 : Option Addr) (cap2 : Nat) (p2_points : (List Int)) (h1 : Sl (Rep.slice (Rep.int .i64)) col w0 a1 cap1 p1_parents) (h2 : Sl (Rep.int .i64) col w0 a2 cap2 p2_points) (r : ((List (List Int)) × Int)) (hm : m_credencelaw14_call N p0_do p1_parents p2_points = some r) :
    Calls Try.prog 32 #[(.int .i64 p0_do), (.slice a1 p1_parents.length cap1), (.slice a2 p2_points.length cap2)] w0 (fun e w' => ∃ (col' : Col) (ra1 : Option Addr) (rc2 : Nat), e = .returned (.tuple #[(.slice ra1 r.1.length rc2), (.int .i64 r.2)]) ∧ Grow col w0 col' w' ∧ Own (Rep.row 3 (Rep.int .i64)) 31 c1 col' w' ra1 rc2 r.1) := by
  refine calls_of2 6 7 (m := 56) (args := [(.int .i64 p0_do), (.slice a1 p1_parents.length cap1), (.slice a2 p2_points.length cap2)]) Try.func32 rfl rfl rfl rfl rfl ?_
  rw [m_credencelaw14_call.eq_1] at hm
  have hst := St.start col w0
  replace h1 := h1.keep (Stay.start col w0)
  replace h2 := h2.keep (Stay.start col w0)
  refine wseq ?_
  refine wregion ?_
  refine lv (v := (.slice none (([] : List (List Int)).length) 0)) rfl rfl (r_assign rfl) ?_
  refine lv (v := (.int .i64 0)) rfl rfl (r_assign rfl) ?_
  refine lnil ?_
  refine wseq ?_
  refine wseq ?_
  refine wregion ?_
  refine lv (v := (.int .i64 p0_do)) rfl rfl (r_move rfl) ?_
  refine lnil ?_
  refine wblock ?_
  refine wseq ?_
  refine wregion ?_
  refine lv (v := (.bool (decide (p0_do = 0)))) rfl rfl (r_eql p0_do 0 rfl rfl) ?_
  refine lv (v := (.bool (decide (p0_do = 0)))) rfl rfl (r_assign rfl) ?_
  refine lnil ?_
  refine wcond (decide (p0_do = 0)) rfl (fun hb => ?_) (fun hb => ?_)
  · rw [if_pos hb] at hm
    clear hb
    refine wseq ?_
    refine wregion ?_
    refine lv (v := (.slice a1 p1_parents.length cap1)) rfl rfl (r_move rfl) ?_
    obtain ⟨r_1, hr_2, hm⟩ := bind_some hm
    refine lc rfl rfl (r_call1 Try.call17 rfl) (c_dag_Cycle N 1 (col0 col) _ a1 cap1 p1_parents h1 r_1 hr_2) ?_
    rintro _ w_6 ⟨col_8, ra_3, rc_4, rfl, hg_7, rh_5⟩
    refine ⟨_, rfl, ?_⟩
    replace h1 := h1.gr hg_7
    replace hst := hst.grow hg_7
    refine l_lit (col := col_8) (r := (Rep.row 3 (Rep.int .i64))) (xs := [r_1]) [(.slice ra_3 r_1.length rc_4)] 1 rfl Try.underlying22 el31_32 rfl rfl rfl rfl rfl rfl (by intro v hv; simp only [List.mem_cons, List.not_mem_nil, or_false] at hv; subst hv; rfl) (RowsH.cons1 (cs := [(.slice ra_3 r_1.length rc_4)]) rh_5.has Rows.nil0) ?_
    intro a_9 w_10 col_11 hg_12 h_13
    replace rh_5 := rh_5.gr hg_12
    replace hst := hst.grow hg_12
    refine lv (v := (.slice a_9 ([r_1].length) 1)) rfl rfl (r_assign rfl) ?_
    refine lv (v := (.int .i64 0)) rfl rfl (r_assign rfl) ?_
    refine lnil ?_
    refine wret ?_
    cases hm
    exact ⟨rfl, colF w0.heap.size col col_11 (fun n => bif Nat.beq n 1 then c1 else 0), a_9, 1, rfl, hst.fin (fun n => bif Nat.beq n 1 then c1 else 0), hst.finOwn (g := (fun n => bif Nat.beq n 1 then c1 else 0)) rfl h_13 (by decide) (by decide) rfl⟩
  · rw [if_neg (by rw [hb]; decide)] at hm
    clear hb
    refine wseq ?_
    refine wregion ?_
    refine lv (v := (.bool (decide (p0_do = 1)))) rfl rfl (r_eql p0_do 1 rfl rfl) ?_
    refine lv (v := (.bool (decide (p0_do = 1)))) rfl rfl (r_assign rfl) ?_
    refine lnil ?_
    refine wcond (decide (p0_do = 1)) rfl (fun hb => ?_) (fun hb => ?_)
    · rw [if_pos hb] at hm
      clear hb
      refine wseq ?_
      refine wregion ?_
      refine lv (v := (.slice a1 p1_parents.length cap1)) rfl rfl (r_move rfl) ?_
      obtain ⟨r_14, hr_15, hm⟩ := bind_some hm
      refine lc rfl rfl (r_call1 Try.call16 rfl) (c_dag_Order N 2 (col0 col) _ a1 cap1 p1_parents h1 r_14 hr_15) ?_
      rintro _ w_19 ⟨col_21, ra_16, rc_17, rfl, hg_20, rh_18⟩
      refine ⟨_, rfl, ?_⟩
      replace h1 := h1.gr hg_20
      replace hst := hst.grow hg_20
      refine lv (v := (.tuple #[(.slice ra_16 r_14.1.length rc_17), (.int .i64 r_14.2)])) rfl rfl (r_move rfl) ?_
      refine lv (v := (.slice ra_16 r_14.1.length rc_17)) rfl rfl (r_extract rfl rfl) ?_
      refine lv (v := (.int .i64 r_14.2)) rfl rfl (r_extract rfl rfl) ?_
      refine lv (v := (.slice ra_16 r_14.1.length rc_17)) rfl rfl (r_assign rfl) ?_
      refine lv (v := (.int .i64 r_14.2)) rfl rfl (r_assign rfl) ?_
      refine lnil ?_
      refine wseq ?_
      refine wregion ?_
      refine lv (v := (.slice ra_16 r_14.1.length rc_17)) rfl rfl (r_move rfl) ?_
      refine l_lit (col := col_21) (r := (Rep.row 3 (Rep.int .i64))) (xs := [r_14.1]) [(.slice ra_16 r_14.1.length rc_17)] 2 rfl Try.underlying22 el31_32 rfl rfl rfl rfl rfl rfl (by intro v hv; simp only [List.mem_cons, List.not_mem_nil, or_false] at hv; subst hv; rfl) (RowsH.cons1 (cs := [(.slice ra_16 r_14.1.length rc_17)]) rh_18.has Rows.nil0) ?_
      intro a_22 w_23 col_24 hg_25 h_26
      replace rh_18 := rh_18.gr hg_25
      replace hst := hst.grow hg_25
      refine lv (v := (.int .i64 r_14.2)) rfl rfl (r_move rfl) ?_
      refine lv (v := (.slice a_22 ([r_14.1].length) 1)) rfl rfl (r_assign rfl) ?_
      refine lv (v := (.int .i64 r_14.2)) rfl rfl (r_assign rfl) ?_
      refine lnil ?_
      refine wret ?_
      cases hm
      exact ⟨rfl, colF w0.heap.size col col_24 (fun n => bif Nat.beq n 2 then c1 else 0), a_22, 1, rfl, hst.fin (fun n => bif Nat.beq n 2 then c1 else 0), hst.finOwn (g := (fun n => bif Nat.beq n 2 then c1 else 0)) rfl h_26 (by decide) (by decide) rfl⟩
    · rw [if_neg (by rw [hb]; decide)] at hm
      clear hb
      refine wseq ?_
      refine wregion ?_
      refine lv (v := (.bool (decide (p0_do = 2)))) rfl rfl (r_eql p0_do 2 rfl rfl) ?_
      refine lv (v := (.bool (decide (p0_do = 2)))) rfl rfl (r_assign rfl) ?_
      refine lnil ?_
      refine wcond (decide (p0_do = 2)) rfl (fun hb => ?_) (fun hb => ?_)
      · rw [if_pos hb] at hm
        clear hb
        refine wseq ?_
        refine wregion ?_
        refine lv (v := (.slice a1 p1_parents.length cap1)) rfl rfl (r_move rfl) ?_
        refine lv (v := (.slice a2 p2_points.length cap2)) rfl rfl (r_move rfl) ?_
        obtain ⟨r_27, hr_28, hm⟩ := bind_some hm
        refine lc rfl rfl (r_call2 Try.call24 rfl rfl) (c_dag_Above N 3 (col0 col) _ a1 cap1 p1_parents a2 cap2 p2_points h1 h2 r_27 hr_28) ?_
        rintro _ w_32 ⟨col_34, ra_29, rc_30, rfl, hg_33, rh_31⟩
        refine ⟨_, rfl, ?_⟩
        replace h1 := h1.gr hg_33
        replace h2 := h2.gr hg_33
        replace hst := hst.grow hg_33
        refine lv (v := (.tuple #[(.slice ra_29 r_27.1.length rc_30), (.int .i64 r_27.2)])) rfl rfl (r_move rfl) ?_
        refine lv (v := (.slice ra_29 r_27.1.length rc_30)) rfl rfl (r_extract rfl rfl) ?_
        refine lv (v := (.int .i64 r_27.2)) rfl rfl (r_extract rfl rfl) ?_
        refine lv (v := (.slice ra_29 r_27.1.length rc_30)) rfl rfl (r_assign rfl) ?_
        refine lv (v := (.int .i64 r_27.2)) rfl rfl (r_assign rfl) ?_
        refine lnil ?_
        refine wseq ?_
        refine wregion ?_
        refine lv (v := (.slice ra_29 r_27.1.length rc_30)) rfl rfl (r_move rfl) ?_
        refine l_lit (col := col_34) (r := (Rep.row 3 (Rep.int .i64))) (xs := [r_27.1]) [(.slice ra_29 r_27.1.length rc_30)] 3 rfl Try.underlying22 el31_32 rfl rfl rfl rfl rfl rfl (by intro v hv; simp only [List.mem_cons, List.not_mem_nil, or_false] at hv; subst hv; rfl) (RowsH.cons1 (cs := [(.slice ra_29 r_27.1.length rc_30)]) rh_31.has Rows.nil0) ?_
        intro a_35 w_36 col_37 hg_38 h_39
        replace rh_31 := rh_31.gr hg_38
        replace hst := hst.grow hg_38
        refine lv (v := (.int .i64 r_27.2)) rfl rfl (r_move rfl) ?_
        refine lv (v := (.slice a_35 ([r_27.1].length) 1)) rfl rfl (r_assign rfl) ?_
        refine lv (v := (.int .i64 r_27.2)) rfl rfl (r_assign rfl) ?_
        refine lnil ?_
        refine wret ?_
        cases hm
        exact ⟨rfl, colF w0.heap.size col col_37 (fun n => bif Nat.beq n 3 then c1 else 0), a_35, 1, rfl, hst.fin (fun n => bif Nat.beq n 3 then c1 else 0), hst.finOwn (g := (fun n => bif Nat.beq n 3 then c1 else 0)) rfl h_39 (by decide) (by decide) rfl⟩
      · rw [if_neg (by rw [hb]; decide)] at hm
        clear hb
        refine wseq ?_
        refine wregion ?_
        refine lv (v := (.bool (decide (p0_do = 3)))) rfl rfl (r_eql p0_do 3 rfl rfl) ?_
        refine lv (v := (.bool (decide (p0_do = 3)))) rfl rfl (r_assign rfl) ?_
        refine lnil ?_
        refine wcond (decide (p0_do = 3)) rfl (fun hb => ?_) (fun hb => ?_)
        · rw [if_pos hb] at hm
          clear hb
          refine wseq ?_
          refine wregion ?_
          refine lv (v := (.slice a1 p1_parents.length cap1)) rfl rfl (r_move rfl) ?_
          refine lv (v := (.slice a2 p2_points.length cap2)) rfl rfl (r_move rfl) ?_
          obtain ⟨r_40, hr_41, hm⟩ := bind_some hm
          refine lc rfl rfl (r_call2 Try.call25 rfl rfl) (c_dag_Below N 4 (col0 col) _ a1 cap1 p1_parents a2 cap2 p2_points h1 h2 r_40 hr_41) ?_
          rintro _ w_45 ⟨col_47, ra_42, rc_43, rfl, hg_46, rh_44⟩
          refine ⟨_, rfl, ?_⟩
          replace h1 := h1.gr hg_46
          replace h2 := h2.gr hg_46
          replace hst := hst.grow hg_46
          refine lv (v := (.tuple #[(.slice ra_42 r_40.1.length rc_43), (.int .i64 r_40.2)])) rfl rfl (r_move rfl) ?_
          refine lv (v := (.slice ra_42 r_40.1.length rc_43)) rfl rfl (r_extract rfl rfl) ?_
          refine lv (v := (.int .i64 r_40.2)) rfl rfl (r_extract rfl rfl) ?_
          refine lv (v := (.slice ra_42 r_40.1.length rc_43)) rfl rfl (r_assign rfl) ?_
          refine lv (v := (.int .i64 r_40.2)) rfl rfl (r_assign rfl) ?_
          refine lnil ?_
          refine wseq ?_
          refine wregion ?_
          refine lv (v := (.slice ra_42 r_40.1.length rc_43)) rfl rfl (r_move rfl) ?_
          refine l_lit (col := col_47) (r := (Rep.row 3 (Rep.int .i64))) (xs := [r_40.1]) [(.slice ra_42 r_40.1.length rc_43)] 4 rfl Try.underlying22 el31_32 rfl rfl rfl rfl rfl rfl (by intro v hv; simp only [List.mem_cons, List.not_mem_nil, or_false] at hv; subst hv; rfl) (RowsH.cons1 (cs := [(.slice ra_42 r_40.1.length rc_43)]) rh_44.has Rows.nil0) ?_
          intro a_48 w_49 col_50 hg_51 h_52
          replace rh_44 := rh_44.gr hg_51
          replace hst := hst.grow hg_51
          refine lv (v := (.int .i64 r_40.2)) rfl rfl (r_move rfl) ?_
          refine lv (v := (.slice a_48 ([r_40.1].length) 1)) rfl rfl (r_assign rfl) ?_
          refine lv (v := (.int .i64 r_40.2)) rfl rfl (r_assign rfl) ?_
          refine lnil ?_
          refine wret ?_
          cases hm
          exact ⟨rfl, colF w0.heap.size col col_50 (fun n => bif Nat.beq n 4 then c1 else 0), a_48, 1, rfl, hst.fin (fun n => bif Nat.beq n 4 then c1 else 0), hst.finOwn (g := (fun n => bif Nat.beq n 4 then c1 else 0)) rfl h_52 (by decide) (by decide) rfl⟩
        · rw [if_neg (by rw [hb]; decide)] at hm
          clear hb
          refine wskip ?_
          refine wseq ?_
          refine wregion ?_
          refine lv (v := (.slice a1 p1_parents.length cap1)) rfl rfl (r_move rfl) ?_
          obtain ⟨r_53, hr_54, hm⟩ := bind_some hm
          refine lc rfl rfl (r_call1 Try.call23 rfl) (c_dag_Children N 5 (col0 col) _ a1 cap1 p1_parents h1 r_53 hr_54) ?_
          rintro _ w_58 ⟨col_60, ra_55, rc_56, rfl, hg_59, rh_57⟩
          refine ⟨_, rfl, ?_⟩
          replace h1 := h1.gr hg_59
          replace hst := hst.grow hg_59
          refine lv (v := (.slice ra_55 r_53.1.length rc_56)) rfl rfl (r_extract rfl rfl) ?_
          refine lv (v := (.int .i64 r_53.2)) rfl rfl (r_extract rfl rfl) ?_
          refine lv (v := (.slice ra_55 r_53.1.length rc_56)) rfl rfl (r_assign rfl) ?_
          refine lv (v := (.int .i64 r_53.2)) rfl rfl (r_assign rfl) ?_
          refine lnil ?_
          refine wret ?_
          cases hm
          exact ⟨rfl, colF w0.heap.size col col_60 (fun n => bif Nat.beq n 5 then c1 else 0), ra_55, rc_56, rfl, hst.fin (fun n => bif Nat.beq n 5 then c1 else 0), hst.finOwn (g := (fun n => bif Nat.beq n 5 then c1 else 0)) rfl rh_57 (by decide) (by decide) rfl⟩




def m_credencelaw14_same_L1 (N : Nat) (p0_a : (List (List Int))) (p1_b : (List (List Int))) : Nat → Int → Option Bool
  | 0, _ => none
  | n_1 + 1, i_4 => if (decide (i_4 < (p0_a.length : Int))) = true then ((at? p0_a i_4).bind fun e_5 => (at? p1_b i_4).bind fun e_12 => (m_credenceref14_Same N e_5 e_12).bind fun r_19 => if (!r_19) = true then (some false) else ((m_credencelaw14_same_L1 N p0_a p1_b n_1) (IntKind.i64.wrap (i_4 + 1)))) else (some true)

def m_credencelaw14_same (N : Nat) (p0_a : (List (List Int))) (p1_b : (List (List Int))) : Option Bool :=
  if (!decide ((p0_a.length : Int) = (p1_b.length : Int))) = true then (some false) else (m_credencelaw14_same_L1 N p0_a p1_b N 0)

set_option maxRecDepth 100000 in
theorem c_credencelaw14_same (N : Nat) (col : Col) (w0 : World) (a0 : Option Addr) (cap0 : Nat) (p0_a : (List (List Int))) (a1 : Option Addr) (cap1 : Nat) (p1_b : (List (List Int))) (h0 : Sl (Rep.slice (Rep.int .i64)) col w0 a0 cap0 p0_a) (h1 : Sl (Rep.slice (Rep.int .i64)) col w0 a1 cap1 p1_b) (r : Bool) (hm : m_credencelaw14_same N p0_a p1_b = some r) :
    Calls Try.prog 33 #[(.slice a0 p0_a.length cap0), (.slice a1 p1_b.length cap1)] w0 (fun e w' => e = .returned ((.bool r)) ∧ Below w0.heap.size w0 w') := by
  refine calls_of1 4 (m := 27) (args := [(.slice a0 p0_a.length cap0), (.slice a1 p1_b.length cap1)]) Try.func33 rfl rfl rfl rfl rfl ?_
  rw [m_credencelaw14_same.eq_1] at hm
  have hst := St.start col w0
  replace h0 := h0.keep (Stay.start col w0)
  replace h1 := h1.keep (Stay.start col w0)
  refine wseq ?_
  refine wregion ?_
  refine lv (v := (.bool false)) rfl rfl (r_assign rfl) ?_
  refine lnil ?_
  refine wseq ?_
  refine wseq ?_
  refine wregion ?_
  refine lv (v := (.slice a0 p0_a.length cap0)) rfl rfl (r_move rfl) ?_
  refine lv (v := (.int .i64 (p0_a.length : Int))) rfl rfl (r_len Try.underlying22 rfl) ?_
  refine lv (v := (.slice a1 p1_b.length cap1)) rfl rfl (r_move rfl) ?_
  refine lv (v := (.int .i64 (p1_b.length : Int))) rfl rfl (r_len Try.underlying22 rfl) ?_
  refine lv (v := (.bool (!decide ((p0_a.length : Int) = (p1_b.length : Int))))) rfl rfl (r_neq (p0_a.length : Int) (p1_b.length : Int) rfl rfl) ?_
  refine lnil ?_
  refine wcond (!decide ((p0_a.length : Int) = (p1_b.length : Int))) rfl (fun hb => ?_) (fun hb => ?_)
  · rw [if_pos hb] at hm
    clear hb
    refine wseq ?_
    refine wregion ?_
    refine lv (v := (.bool false)) rfl rfl (r_assign rfl) ?_
    refine lnil ?_
    refine wret ?_
    cases hm
    exact ⟨rfl, rfl, hst.below⟩
  · rw [if_neg (by rw [hb]; decide)] at hm
    clear hb
    refine wskip ?_
    refine wseq ?_
    refine wseq ?_
    refine wregion ?_
    refine lv (v := (.int .i64 0)) rfl rfl (r_assign rfl) ?_
    refine lnil ?_
    refine wblock ?_
    refine wloop (fun n f w_2 => ∃ (col_3 : Col) (i_4 : Int) (n_1 : Nat), n_1 = n ∧ m_credencelaw14_same_L1 N p0_a p1_b n_1 i_4 = some r ∧ St w0 (col0 col) col_3 w_2 ∧ Sl (Rep.slice (Rep.int .i64)) col_3 w_2 a0 cap0 p0_a ∧ Sl (Rep.slice (Rep.int .i64)) col_3 w_2 a1 cap1 p1_b ∧ f 0 = (.slice a0 p0_a.length cap0) ∧ f 1 = (.slice a1 p1_b.length cap1) ∧ f 5 = (.int .i64 i_4) ∧ f 1000000 = (enc [])) N ⟨(col0 col), 0, N, rfl, hm, hst, h0, h1, rfl, rfl, rfl, rfl⟩ ?_
    clear hm; intro n f w_2 hI
    obtain ⟨col_3, i_4, n_1, hn, hm, hst, h0, h1, hs0, hs1, hs5, hs1000000⟩ := hI
    subst hn
    refine .ld (d := 0) (v := (.slice a0 p0_a.length cap0)) hs0 ?_
    refine .ld (d := 1) (v := (.slice a1 p1_b.length cap1)) hs1 ?_
    refine .ld (d := 5) (v := (.int .i64 i_4)) hs5 ?_
    refine .ld (d := 1000000) (v := (enc [])) hs1000000 ?_
    clear hs0 hs1 hs5 hs1000000
    cases n_1 with
    | zero => rw [m_credencelaw14_same_L1.eq_1] at hm; cases hm
    | succ n_1 =>
      rw [m_credencelaw14_same_L1.eq_2] at hm
      refine wseq ?_
      refine wseq ?_
      refine wregion ?_
      refine lv (v := (.int .i64 i_4)) rfl rfl (r_move rfl) ?_
      refine lv (v := (.slice a0 p0_a.length cap0)) rfl rfl (r_move rfl) ?_
      refine lv (v := (.int .i64 (p0_a.length : Int))) rfl rfl (r_len Try.underlying22 rfl) ?_
      refine lv (v := (.bool (decide (i_4 < (p0_a.length : Int))))) rfl rfl (r_lss i_4 (p0_a.length : Int) rfl rfl) ?_
      refine lnil ?_
      refine wcond (decide (i_4 < (p0_a.length : Int))) rfl (fun hb => ?_) (fun hb => ?_)
      · rw [if_pos hb] at hm
        clear hb
        refine wskip ?_
        refine wseq ?_
        refine wblock ?_
        refine wseq ?_
        refine wquiet (col := col_3) (by kernel_rfl) (by kernel_rfl) ?_
        refine qv (v := (.slice a0 p0_a.length cap0)) rfl (fun _ hC => r_move rfl) ?_
        refine qv (v := (.int .i64 i_4)) rfl (fun _ hC => r_move rfl) ?_
        obtain ⟨e_5, hj_6, hm⟩ := bind_some hm
        refine qv (v := (sptr a0 (Int.toNat i_4 * 1))) rfl (fun _ hC => r_idx Try.underlying22 Try.sizeOf31 rfl rfl (at?_some hj_6).1 (at?_some hj_6).2.1 (h0.addr hj_6)) ?_
        obtain ⟨_, hr_7, hA_8⟩ := h0.atN hj_6
        obtain ⟨⟨a_9, cap_10, rfl, h_11⟩, _⟩ := hr_7
        refine qv (v := (.slice a_9 e_5.length cap_10)) rfl (fun _ hC => r_ld Try.isAgg31 rfl (hA_8.one.gr (Grow.of_below (col := col_3) hC.below))) ?_
        refine qv (v := (.slice a1 p1_b.length cap1)) rfl (fun _ hC => r_move rfl) ?_
        refine qv (v := (.int .i64 i_4)) rfl (fun _ hC => r_move rfl) ?_
        obtain ⟨e_12, hj_13, hm⟩ := bind_some hm
        refine qv (v := (sptr a1 (Int.toNat i_4 * 1))) rfl (fun _ hC => r_idx Try.underlying22 Try.sizeOf31 rfl rfl (at?_some hj_13).1 (at?_some hj_13).2.1 (h1.addr hj_13)) ?_
        obtain ⟨_, hr_14, hA_15⟩ := h1.atN hj_13
        obtain ⟨⟨a_16, cap_17, rfl, h_18⟩, _⟩ := hr_14
        refine qv (v := (.slice a_16 e_12.length cap_17)) rfl (fun _ hC => r_ld Try.isAgg31 rfl (hA_15.one.gr (Grow.of_below (col := col_3) hC.below))) ?_
        obtain ⟨r_19, hr_20, hm⟩ := bind_some hm
        refine qc (v := (.bool r_19)) rfl (fun _ hC => ⟨_, _, r_call2 Try.call12 rfl rfl, (c_credenceref14_Same N col_3 _ a_9 cap_10 e_5 a_16 cap_17 e_12 (h_11.gr (Grow.of_below (col := col_3) hC.below)) (h_18.gr (Grow.of_below (col := col_3) hC.below)) r_19 hr_20).mono fun _ _ h => ⟨h.1, hC.trans (.of_below h.2)⟩⟩) ?_
        refine qv (v := (.bool (!r_19))) rfl (fun _ hC => r_not r_19 rfl) ?_
        refine qnil ?_
        intro w_21 hC
        replace hC : Grow col_3 w_2 col_3 w_21 := .of_below hC.below
        replace h0 := h0.gr hC
        replace h1 := h1.gr hC
        replace hst := hst.grow hC
        refine wcond (!r_19) rfl (fun hb => ?_) (fun hb => ?_)
        · rw [if_pos hb] at hm
          clear hb
          refine wseq ?_
          refine wregion ?_
          refine lv (v := (.bool false)) rfl rfl (r_assign rfl) ?_
          refine lnil ?_
          refine wret ?_
          cases hm
          exact ⟨rfl, rfl, hst.below⟩
        · rw [if_neg (by rw [hb]; decide)] at hm
          clear hb
          refine wskip ?_
          refine wregion ?_
          refine lv (v := (.int .i64 i_4)) rfl rfl (r_move rfl) ?_
          refine lv (v := (.int .i64 (IntKind.i64.wrap (i_4 + 1)))) rfl rfl (r_add i_4 1 rfl rfl) ?_
          refine lv (v := (.int .i64 (IntKind.i64.wrap (i_4 + 1)))) rfl rfl (r_assign rfl) ?_
          refine lnil ?_
          exact ⟨n_1, by omega, ⟨col_3, (IntKind.i64.wrap (i_4 + 1)), n_1, rfl, hm, hst, h0, h1, rfl, rfl, rfl, rfl⟩⟩
      · rw [if_neg (by rw [hb]; decide)] at hm
        clear hb
        refine wexit (inB_hit ?_)
        refine wseq ?_
        refine wregion ?_
        refine lv (v := (.bool true)) rfl rfl (r_assign rfl) ?_
        refine lnil ?_
        refine wret ?_
        cases hm
        exact ⟨rfl, rfl, hst.below⟩



theorem el3_34 : ElemOk Try.prog 3 1 8 := ⟨Try.t3, _, rfl, rfl, rfl, rfl, rfl⟩

def m_credencelaw14_spoilt_L2 (N : Nat) (p1_mark : Int) (i_7 : Int) (kk_L1 : ((List (List Int)) → Int → Option (Bool × (List (List Int))))) : Nat → (List (List Int)) → Int → Option (Bool × (List (List Int)))
  | 0, _, _ => none
  | n_9 + 1, l_12, k_15 => (at? l_12 i_7).bind fun e_17 => if (decide (k_15 < (e_17.length : Int))) = true then ((at? e_17 k_15).bind fun e_31 => (some (e_17.set (Int.toNat k_15) (IntKind.i64.wrap (p1_mark - i_7)))).bind fun xs_38 => (m_credencelaw14_spoilt_L2 N p1_mark i_7 kk_L1 n_9) (l_12.set (Int.toNat i_7) xs_38) (IntKind.i64.wrap (k_15 + 1))) else (kk_L1 l_12 (IntKind.i64.wrap (i_7 + 1)))

def m_credencelaw14_spoilt_L4 (N : Nat) (i_44 : Int) (kk_L3 : (Int → Option (Bool × (List (List Int))))) : Nat → (List Int) → Int → Option (Bool × (List (List Int)))
  | 0, _, _ => none
  | n_54 + 1, l_60, k_62 => if (decide (k_62 < 300)) = true then (chk ((l_60.length + [7].length) * 8 ≤ 140737488355328 ∧ l_60.length + [7].length ≤ maxLen) ((m_credencelaw14_spoilt_L4 N i_44 kk_L3 n_54) (l_60 ++ [7]) (IntKind.i64.wrap (k_62 + 1)))) else (kk_L3 (IntKind.i64.wrap (i_44 + 1)))

def m_credencelaw14_spoilt_L6 (N : Nat) (p1_mark : Int) (l_4 : List (List Int)) (i_80 : Int) (kk_L5 : (Int → Option (Bool × (List (List Int))))) : Nat → Int → Option (Bool × (List (List Int)))
  | 0, _ => none
  | n_81 + 1, k_84 => (at? l_4 i_80).bind fun e_85 => if (decide (k_84 < (e_85.length : Int))) = true then ((at? e_85 k_84).bind fun e_97 => if (!decide (e_97 = (IntKind.i64.wrap (p1_mark - i_80)))) = true then (some (false, l_4)) else ((m_credencelaw14_spoilt_L6 N p1_mark l_4 i_80 kk_L5 n_81) (IntKind.i64.wrap (k_84 + 1)))) else (kk_L5 (IntKind.i64.wrap (i_80 + 1)))

def m_credencelaw14_spoilt_L5 (N : Nat) (p1_mark : Int) (l_4 : List (List Int)) : Nat → Int → Option (Bool × (List (List Int)))
  | 0, _ => none
  | n_77 + 1, i_80 => if (decide (i_80 < (l_4.length : Int))) = true then (m_credencelaw14_spoilt_L6 N p1_mark l_4 i_80 (m_credencelaw14_spoilt_L5 N p1_mark l_4 n_77) N 0) else (some (true, l_4))

def m_credencelaw14_spoilt_L3 (N : Nat) (p1_mark : Int) (l_4 : List (List Int)) : Nat → Int → Option (Bool × (List (List Int)))
  | 0, _ => none
  | n_41 + 1, i_44 => if (decide (i_44 < (l_4.length : Int))) = true then ((at? l_4 i_44).bind fun e_45 => m_credencelaw14_spoilt_L4 N i_44 (m_credencelaw14_spoilt_L3 N p1_mark l_4 n_41) N e_45 0) else (m_credencelaw14_spoilt_L5 N p1_mark l_4 N 0)

def m_credencelaw14_spoilt_L1 (N : Nat) (p1_mark : Int) : Nat → (List (List Int)) → Int → Option (Bool × (List (List Int)))
  | 0, _, _ => none
  | n_1 + 1, l_4, i_7 => if (decide (i_7 < (l_4.length : Int))) = true then (m_credencelaw14_spoilt_L2 N p1_mark i_7 (m_credencelaw14_spoilt_L1 N p1_mark n_1) N l_4 0) else (m_credencelaw14_spoilt_L3 N p1_mark l_4 N 0)

def m_credencelaw14_spoilt (N : Nat) (p0_l : (List (List Int))) (p1_mark : Int) : Option (Bool × (List (List Int))) :=
  m_credencelaw14_spoilt_L1 N p1_mark N p0_l 0

set_option maxRecDepth 100000 in
theorem c_credencelaw14_spoilt (N : Nat) (col : Col) (w0 : World) (q0 : Nat) (hd : dstB [q0] = true) (a0 : Option Addr) (cap0 : Nat) (p0_l : (List (List Int))) (p1_mark : Int) (h0 : Own (Rep.row 3 (Rep.int .i64)) 31 q0 col w0 a0 cap0 p0_l) (r : (Bool × (List (List Int)))) (hm : m_credencelaw14_spoilt N p0_l p1_mark = some r) :
    Calls Try.prog 34 #[(.slice a0 p0_l.length cap0), (.int .i64 p1_mark)] w0 (fun e w' => ∃ (col' : Col), e = .returned ((.bool r.1)) ∧ KeepP (pS [q0]) col w0 col' w' ∧ Own (Rep.row 3 (Rep.int .i64)) 31 q0 col' w' a0 cap0 r.2 ∧ r.2.length = p0_l.length) := by
  refine calls_of1 4 (m := 79) (args := [(.slice a0 p0_l.length cap0), (.int .i64 p1_mark)]) Try.func34 rfl rfl rfl rfl rfl ?_
  rw [m_credencelaw14_spoilt.eq_1] at hm
  have hst := St.startL (l := [q0]) rfl col w0
  replace h0 := h0.startL (dst_nz hd 0 rfl) (dst_ix hd 0 rfl)
  refine wseq ?_
  refine wregion ?_
  refine lv (v := (.bool false)) rfl rfl (r_assign rfl) ?_
  refine lnil ?_
  refine wseq ?_
  refine wseq ?_
  refine wregion ?_
  refine lv (v := (.int .i64 0)) rfl rfl (r_assign rfl) ?_
  refine lnil ?_
  refine wblock ?_
  refine wloop (fun n f w_2 => ∃ (col_3 : Col) (l_4 : List (List Int)) (i_7 : Int) (n_1 : Nat), n_1 = n ∧ m_credencelaw14_spoilt_L1 N p1_mark n_1 l_4 i_7 = some r ∧ St w0 (colL [q0] col) col_3 w_2 ∧ Own (Rep.row 3 (Rep.int .i64)) 31 440 col_3 w_2 a0 cap0 l_4 ∧ l_4.length = p0_l.length ∧ l_4.length = p0_l.length ∧ f 0 = (.slice a0 l_4.length cap0) ∧ f 1 = (.int .i64 p1_mark) ∧ f 5 = (.int .i64 i_7) ∧ f 1000000 = (enc [])) N ⟨(colL [q0] col), p0_l, 0, N, rfl, hm, hst, h0, rfl, rfl, rfl, rfl, rfl, rfl⟩ ?_
  clear hm; intro n f w_2 hI
  obtain ⟨col_3, l_4, i_7, n_1, hn, hm, hst, h_5, hlen_6, hlen_8, hs0, hs1, hs5, hs1000000⟩ := hI
  subst hn
  refine .ld (d := 0) (v := (.slice a0 l_4.length cap0)) hs0 ?_
  refine .ld (d := 1) (v := (.int .i64 p1_mark)) hs1 ?_
  refine .ld (d := 5) (v := (.int .i64 i_7)) hs5 ?_
  refine .ld (d := 1000000) (v := (enc [])) hs1000000 ?_
  clear hs0 hs1 hs5 hs1000000
  cases n_1 with
  | zero => rw [m_credencelaw14_spoilt_L1.eq_1] at hm; cases hm
  | succ n_1 =>
    rw [m_credencelaw14_spoilt_L1.eq_2] at hm
    refine wseq ?_
    refine wseq ?_
    refine wregion ?_
    refine lv (v := (.int .i64 i_7)) rfl rfl (r_move rfl) ?_
    refine lv (v := (.slice a0 l_4.length cap0)) rfl rfl (r_move rfl) ?_
    refine lv (v := (.int .i64 (l_4.length : Int))) rfl rfl (r_len Try.underlying22 rfl) ?_
    refine lv (v := (.bool (decide (i_7 < (l_4.length : Int))))) rfl rfl (r_lss i_7 (l_4.length : Int) rfl rfl) ?_
    refine lnil ?_
    refine wcond (decide (i_7 < (l_4.length : Int))) rfl (fun hb => ?_) (fun hb => ?_)
    · rw [if_pos hb] at hm
      clear hb
      refine wskip ?_
      refine wseq ?_
      refine wblock ?_
      refine wseq ?_
      refine wregion ?_
      refine lv (v := (.int .i64 0)) rfl rfl (r_assign rfl) ?_
      refine lnil ?_
      refine wblock ?_
      refine wloop (fun n f w_10 => ∃ (col_11 : Col) (l_12 : List (List Int)) (k_15 : Int) (n_9 : Nat), n_9 = n ∧ m_credencelaw14_spoilt_L2 N p1_mark i_7 (m_credencelaw14_spoilt_L1 N p1_mark n_1) n_9 l_12 k_15 = some r ∧ St w0 (colL [q0] col) col_11 w_10 ∧ Own (Rep.row 3 (Rep.int .i64)) 31 440 col_11 w_10 a0 cap0 l_12 ∧ l_12.length = p0_l.length ∧ l_12.length = p0_l.length ∧ f 0 = (.slice a0 l_12.length cap0) ∧ f 1 = (.int .i64 p1_mark) ∧ f 5 = (.int .i64 i_7) ∧ f 6 = (.int .i64 k_15) ∧ f 1000000 = (enc [])) N ⟨col_3, l_4, 0, N, rfl, hm, hst, h_5, hlen_6, hlen_8, rfl, rfl, rfl, rfl, rfl⟩ ?_
      clear hm; intro n f w_10 hI
      obtain ⟨col_11, l_12, k_15, n_9, hn, hm, hst, h_13, hlen_14, hlen_16, hs0, hs1, hs5, hs6, hs1000000⟩ := hI
      subst hn
      refine .ld (d := 0) (v := (.slice a0 l_12.length cap0)) hs0 ?_
      refine .ld (d := 1) (v := (.int .i64 p1_mark)) hs1 ?_
      refine .ld (d := 5) (v := (.int .i64 i_7)) hs5 ?_
      refine .ld (d := 6) (v := (.int .i64 k_15)) hs6 ?_
      refine .ld (d := 1000000) (v := (enc [])) hs1000000 ?_
      clear hs0 hs1 hs5 hs6 hs1000000
      cases n_9 with
      | zero => rw [m_credencelaw14_spoilt_L2.eq_1] at hm; cases hm
      | succ n_9 =>
        rw [m_credencelaw14_spoilt_L2.eq_2] at hm
        refine wseq ?_
        refine wseq ?_
        refine wregion ?_
        refine lv (v := (.int .i64 k_15)) rfl rfl (r_move rfl) ?_
        refine lv (v := (.slice a0 l_12.length cap0)) rfl rfl (r_move rfl) ?_
        refine lv (v := (.int .i64 i_7)) rfl rfl (r_move rfl) ?_
        obtain ⟨e_17, hj_18, hm⟩ := bind_some hm
        refine lv (v := (sptr a0 (Int.toNat i_7 * 1))) rfl rfl (r_idx Try.underlying22 Try.sizeOf31 rfl rfl (at?_some hj_18).1 (at?_some hj_18).2.1 (h_13.addr hj_18)) ?_
        obtain ⟨_, hr_19, hA_20⟩ := h_13.atN hj_18
        obtain ⟨a_21, cap_22, rfl, h_23⟩ := hr_19.row
        refine lv (v := (.slice a_21 e_17.length cap_22)) rfl rfl (r_ld Try.isAgg31 rfl hA_20.one) ?_
        refine lv (v := (.int .i64 (e_17.length : Int))) rfl rfl (r_len Try.underlying31 rfl) ?_
        refine lv (v := (.bool (decide (k_15 < (e_17.length : Int))))) rfl rfl (r_lss k_15 (e_17.length : Int) rfl rfl) ?_
        refine lnil ?_
        refine wcond (decide (k_15 < (e_17.length : Int))) rfl (fun hb => ?_) (fun hb => ?_)
        · rw [if_pos hb] at hm
          clear hb
          refine wskip ?_
          refine wseq ?_
          refine wblock ?_
          refine wregion ?_
          refine lv (v := (.slice a0 l_12.length cap0)) rfl rfl (r_move rfl) ?_
          refine lv (v := (.int .i64 i_7)) rfl rfl (r_move rfl) ?_
          refine lv (v := (sptr a0 (Int.toNat i_7 * 1))) rfl rfl (r_idx Try.underlying22 Try.sizeOf31 rfl rfl (at?_some hj_18).1 (at?_some hj_18).2.1 (h_13.addr hj_18)) ?_
          obtain ⟨_, col_27, hk_25, hH_26, hs_24⟩ := h_13.open_ 1 (by decide) hj_18
          replace hst := hst.kpp hk_25 rfl rfl
          obtain ⟨a_28, cap_29, rfl, h_30⟩ := hs_24.row
          clear h_13
          replace hH_26 : Hole (Rep.row 3 (Rep.int .i64)) 31 440 col_27 w_10 a0 cap0 l_12 (Int.toNat i_7) [(.slice a_28 e_17.length cap_29)] := hH_26
          refine lv (v := (.slice a_28 e_17.length cap_29)) rfl rfl (r_ld Try.isAgg31 rfl hH_26.atN.one) ?_
          refine lv (v := (.int .i64 k_15)) rfl rfl (r_move rfl) ?_
          refine lv (v := (.int .i64 p1_mark)) rfl rfl (r_move rfl) ?_
          refine lv (v := (.int .i64 i_7)) rfl rfl (r_move rfl) ?_
          refine lv (v := (.int .i64 (IntKind.i64.wrap (p1_mark - i_7)))) rfl rfl (r_sub p1_mark i_7 rfl rfl) ?_
          obtain ⟨e_31, hj_32, hm⟩ := bind_some hm
          refine lv (v := (sptr a_28 (Int.toNat k_15 * 1))) rfl rfl (r_idx Try.underlying31 Try.sizeOf3 rfl rfl (at?_some hj_32).1 (at?_some hj_32).2.1 (h_30.addr hj_32)) ?_
          obtain ⟨xs_38, hz_37, hm⟩ := bind_some hm
          have hz_37 : xs_38 = e_17.set (Int.toNat k_15) (IntKind.i64.wrap (p1_mark - i_7)) := (Option.some.inj hz_37).symm
          refine l_store (x1 := IntKind.i64.wrap (p1_mark - i_7)) (v := (.int .i64 (IntKind.i64.wrap (p1_mark - i_7)))) h_30 hj_32 rfl Try.sizeOf3 (rd_int .i64 (IntKind.i64.wrap (p1_mark - i_7))) rfl rfl (by decide) ?_
          intro w_33 hk_34 hs_35 h_36
          rw [← hz_37] at h_36
          replace hH_26 := hH_26.kp hk_34 (by decide) (by decide)
          replace hst := hst.kp hk_34 hs_35 (by decide) (by decide)
          replace hH_26 : Hole (Rep.row 3 (Rep.int .i64)) 31 440 col_27 w_33 a0 cap0 l_12 (Int.toNat i_7) [(.slice a_28 xs_38.length cap_29)] := by rw [← (show e_17.length = xs_38.length by rw [hz_37, List.length_set])]; exact hH_26
          clear h_30
          have h_39 := hH_26.close h_36.has (by decide) (by decide)
          have hlen_40 : (l_12.set (Int.toNat i_7) xs_38).length = p0_l.length := by rw [List.length_set]; exact hlen_14
          replace hst := hst.recol 1 440 (by decide) (by decide)
          clear hH_26
          refine .ld (d := 0) (v := (.slice a0 ((l_12.set (Int.toNat i_7) xs_38).length) cap0)) (congrArg (fun n => Value.slice a0 n cap0) (show l_12.length = (l_12.set (Int.toNat i_7) xs_38).length by rw [List.length_set])) ?_
          refine lnil ?_
          refine wregion ?_
          refine lv (v := (.int .i64 k_15)) rfl rfl (r_move rfl) ?_
          refine lv (v := (.int .i64 (IntKind.i64.wrap (k_15 + 1)))) rfl rfl (r_add k_15 1 rfl rfl) ?_
          refine lv (v := (.int .i64 (IntKind.i64.wrap (k_15 + 1)))) rfl rfl (r_assign rfl) ?_
          refine lnil ?_
          exact ⟨n_9, by omega, ⟨(rcC 1 440 col_27), (l_12.set (Int.toNat i_7) xs_38), (IntKind.i64.wrap (k_15 + 1)), n_9, rfl, hm, hst, h_39, hlen_40, hlen_40, rfl, rfl, rfl, rfl, rfl⟩⟩
        · rw [if_neg (by rw [hb]; decide)] at hm
          clear hb
          refine wexit (inB_hit ?_)
          refine wregion ?_
          refine lv (v := (.int .i64 i_7)) rfl rfl (r_move rfl) ?_
          refine lv (v := (.int .i64 (IntKind.i64.wrap (i_7 + 1)))) rfl rfl (r_add i_7 1 rfl rfl) ?_
          refine lv (v := (.int .i64 (IntKind.i64.wrap (i_7 + 1)))) rfl rfl (r_assign rfl) ?_
          refine lnil ?_
          exact ⟨n_1, by omega, ⟨col_11, l_12, (IntKind.i64.wrap (i_7 + 1)), n_1, rfl, hm, hst, h_13, hlen_14, hlen_16, rfl, rfl, rfl, rfl⟩⟩
    · rw [if_neg (by rw [hb]; decide)] at hm
      clear hb
      refine wexit (inB_hit ?_)
      refine wseq ?_
      refine wseq ?_
      refine wregion ?_
      refine lv (v := (.int .i64 0)) rfl rfl (r_assign rfl) ?_
      refine lnil ?_
      refine wblock ?_
      refine wloop (fun n f w_42 => ∃ (col_43 : Col) (i_44 : Int) (n_41 : Nat), n_41 = n ∧ m_credencelaw14_spoilt_L3 N p1_mark l_4 n_41 i_44 = some r ∧ St w0 (colL [q0] col) col_43 w_42 ∧ Own (Rep.row 3 (Rep.int .i64)) 31 440 col_43 w_42 a0 cap0 l_4 ∧ f 0 = (.slice a0 l_4.length cap0) ∧ f 1 = (.int .i64 p1_mark) ∧ f 7 = (.int .i64 i_44) ∧ f 1000000 = (enc [])) N ⟨col_3, 0, N, rfl, hm, hst, h_5, rfl, rfl, rfl, rfl⟩ ?_
      clear hm; intro n f w_42 hI
      obtain ⟨col_43, i_44, n_41, hn, hm, hst, h_5, hs0, hs1, hs7, hs1000000⟩ := hI
      subst hn
      refine .ld (d := 0) (v := (.slice a0 l_4.length cap0)) hs0 ?_
      refine .ld (d := 1) (v := (.int .i64 p1_mark)) hs1 ?_
      refine .ld (d := 7) (v := (.int .i64 i_44)) hs7 ?_
      refine .ld (d := 1000000) (v := (enc [])) hs1000000 ?_
      clear hs0 hs1 hs7 hs1000000
      cases n_41 with
      | zero => rw [m_credencelaw14_spoilt_L3.eq_1] at hm; cases hm
      | succ n_41 =>
        rw [m_credencelaw14_spoilt_L3.eq_2] at hm
        refine wseq ?_
        refine wseq ?_
        refine wregion ?_
        refine lv (v := (.int .i64 i_44)) rfl rfl (r_move rfl) ?_
        refine lv (v := (.slice a0 l_4.length cap0)) rfl rfl (r_move rfl) ?_
        refine lv (v := (.int .i64 (l_4.length : Int))) rfl rfl (r_len Try.underlying22 rfl) ?_
        refine lv (v := (.bool (decide (i_44 < (l_4.length : Int))))) rfl rfl (r_lss i_44 (l_4.length : Int) rfl rfl) ?_
        refine lnil ?_
        refine wcond (decide (i_44 < (l_4.length : Int))) rfl (fun hb => ?_) (fun hb => ?_)
        · rw [if_pos hb] at hm
          clear hb
          refine wskip ?_
          refine wseq ?_
          refine wblock ?_
          refine wseq ?_
          refine wregion ?_
          refine lv (v := (.slice a0 l_4.length cap0)) rfl rfl (r_move rfl) ?_
          refine lv (v := (.int .i64 i_44)) rfl rfl (r_move rfl) ?_
          obtain ⟨e_45, hj_46, hm⟩ := bind_some hm
          refine lv (v := (sptr a0 (Int.toNat i_44 * 1))) rfl rfl (r_idx Try.underlying22 Try.sizeOf31 rfl rfl (at?_some hj_46).1 (at?_some hj_46).2.1 (h_5.addr hj_46)) ?_
          obtain ⟨_, col_50, hk_48, hH_49, hs_47⟩ := h_5.open_ 2 (by decide) hj_46
          replace hst := hst.kpp hk_48 rfl rfl
          obtain ⟨a_51, cap_52, rfl, h_53⟩ := hs_47.row
          clear h_5
          replace hH_49 : Hole (Rep.row 3 (Rep.int .i64)) 31 440 col_50 w_42 a0 cap0 l_4 (Int.toNat i_44) [(.slice a_51 e_45.length cap_52)] := hH_49
          refine lv (v := (.slice a_51 e_45.length cap_52)) rfl rfl (r_ld Try.isAgg31 rfl hH_49.atN.one) ?_
          refine lv (v := (.slice a_51 e_45.length cap_52)) rfl rfl (r_assign rfl) ?_
          refine lnil ?_
          refine wseq ?_
          refine wregion ?_
          refine lv (v := (.int .i64 0)) rfl rfl (r_assign rfl) ?_
          refine lnil ?_
          refine wblock ?_
          have hE_55 := h_53.ex
          clear h_53
          refine wloop (fun n f w_56 => ∃ (col_57 : Col) (a_58 : Option Addr) (cap_59 : Nat) (l_60 : List Int) (k_62 : Int) (n_54 : Nat), n_54 = n ∧ m_credencelaw14_spoilt_L4 N i_44 (m_credencelaw14_spoilt_L3 N p1_mark l_4 n_41) n_54 l_60 k_62 = some r ∧ St w0 (colL [q0] col) col_57 w_56 ∧ Ex (Rep.int .i64) 3 2 col_57 w_56 a_51 cap_52 e_45 a_58 cap_59 l_60 ∧ Hole (Rep.row 3 (Rep.int .i64)) 31 440 col_57 w_56 a0 cap0 l_4 (Int.toNat i_44) [(.slice a_51 e_45.length cap_52)] ∧ f 0 = (.slice a0 l_4.length cap0) ∧ f 1 = (.int .i64 p1_mark) ∧ f 7 = (.int .i64 i_44) ∧ f 8 = (.slice a_58 l_60.length cap_59) ∧ f 9 = (.int .i64 k_62) ∧ f 1000000 = (enc [])) N ⟨col_50, a_51, cap_52, e_45, 0, N, rfl, hm, hst, hE_55, hH_49, rfl, rfl, rfl, rfl, rfl, rfl⟩ ?_
          clear hm; intro n f w_56 hI
          obtain ⟨col_57, a_58, cap_59, l_60, k_62, n_54, hn, hm, hst, hE_61, hH_49, hs0, hs1, hs7, hs8, hs9, hs1000000⟩ := hI
          subst hn
          refine .ld (d := 0) (v := (.slice a0 l_4.length cap0)) hs0 ?_
          refine .ld (d := 1) (v := (.int .i64 p1_mark)) hs1 ?_
          refine .ld (d := 7) (v := (.int .i64 i_44)) hs7 ?_
          refine .ld (d := 8) (v := (.slice a_58 l_60.length cap_59)) hs8 ?_
          refine .ld (d := 9) (v := (.int .i64 k_62)) hs9 ?_
          refine .ld (d := 1000000) (v := (enc [])) hs1000000 ?_
          clear hs0 hs1 hs7 hs8 hs9 hs1000000
          cases n_54 with
          | zero => rw [m_credencelaw14_spoilt_L4.eq_1] at hm; cases hm
          | succ n_54 =>
            rw [m_credencelaw14_spoilt_L4.eq_2] at hm
            refine wseq ?_
            refine wseq ?_
            refine wregion ?_
            refine lv (v := (.int .i64 k_62)) rfl rfl (r_move rfl) ?_
            refine lv (v := (.bool (decide (k_62 < 300)))) rfl rfl (r_lss k_62 300 rfl rfl) ?_
            refine lnil ?_
            refine wcond (decide (k_62 < 300)) rfl (fun hb => ?_) (fun hb => ?_)
            · rw [if_pos hb] at hm
              clear hb
              refine wskip ?_
              refine wseq ?_
              refine wblock ?_
              refine wregion ?_
              refine lv (v := (.slice a_58 l_60.length cap_59)) rfl rfl (r_move rfl) ?_
              refine l_lit (col := col_57) (r := (Rep.int .i64)) (xs := [7]) [(.int .i64 7)] 3 rfl Try.underlying31 el3_34 rfl rfl rfl rfl rfl rfl (by intro v hv; simp only [List.mem_cons, List.not_mem_nil, or_false] at hv; subst hv; rfl) (RowsH.ofF (Rows.consF (r := (Rep.int .i64)) (x := 7) (cs := [(.int .i64 7)]) (rd_int .i64 7) Rows.nil0)) ?_
              intro a_63 w_64 col_65 hg_66 h_67
              replace hH_49 := hH_49.gr hg_66
              replace hE_61 := hE_61.gr hg_66
              replace hst := hst.grow hg_66
              obtain ⟨hb_68, hm⟩ := chk_some hm
              refine l_ext (col := col_65) (w := w_64) (r := (Rep.int .i64)) (c := 2) (c2 := 2) hE_61 (h_67.srcN (NB.int (k := .i64))) rfl Try.underlying31 el3_34 rfl rfl rfl hb_68.1 hb_68.2 (by decide) ?_
              intro a_69 cap_70 w_71 col_72 hk_73 h_74
              replace hH_49 := hH_49.kpp hk_73 rfl rfl
              replace h_67 := h_67.kpp hk_73 rfl rfl
              replace hst := hst.kpp hk_73 rfl rfl
              clear hE_61
              refine lv (v := (.slice a_69 ((l_60 ++ [7]).length) cap_70)) rfl rfl (r_assign rfl) ?_
              refine lnil ?_
              refine wregion ?_
              refine lv (v := (.int .i64 k_62)) rfl rfl (r_move rfl) ?_
              refine lv (v := (.int .i64 (IntKind.i64.wrap (k_62 + 1)))) rfl rfl (r_add k_62 1 rfl rfl) ?_
              refine lv (v := (.int .i64 (IntKind.i64.wrap (k_62 + 1)))) rfl rfl (r_assign rfl) ?_
              refine lnil ?_
              exact ⟨n_54, by omega, ⟨col_72, a_69, cap_70, (l_60 ++ [7]), (IntKind.i64.wrap (k_62 + 1)), n_54, rfl, hm, hst, h_74, hH_49, rfl, rfl, rfl, rfl, rfl, rfl⟩⟩
            · rw [if_neg (by rw [hb]; decide)] at hm
              clear hb
              refine wexit (inB_hit ?_)
              refine wregion ?_
              refine lv (v := (.int .i64 i_44)) rfl rfl (r_move rfl) ?_
              have h_75 := hE_61.old
              clear hE_61
              have h_76 := hH_49.close h_75.has (by decide) (by decide)
              rw [set_self hj_46] at h_76
              replace hst := hst.recol 2 440 (by decide) (by decide)
              clear hH_49
              refine lv (v := (.int .i64 (IntKind.i64.wrap (i_44 + 1)))) rfl rfl (r_add i_44 1 rfl rfl) ?_
              refine lv (v := (.int .i64 (IntKind.i64.wrap (i_44 + 1)))) rfl rfl (r_assign rfl) ?_
              refine lnil ?_
              exact ⟨n_41, by omega, ⟨(rcC 2 440 col_57), (IntKind.i64.wrap (i_44 + 1)), n_41, rfl, hm, hst, h_76, rfl, rfl, rfl, rfl⟩⟩
        · rw [if_neg (by rw [hb]; decide)] at hm
          clear hb
          refine wexit (inB_hit ?_)
          refine wseq ?_
          refine wseq ?_
          refine wregion ?_
          refine lv (v := (.int .i64 0)) rfl rfl (r_assign rfl) ?_
          refine lnil ?_
          refine wblock ?_
          refine wloop (fun n f w_78 => ∃ (col_79 : Col) (i_80 : Int) (n_77 : Nat), n_77 = n ∧ m_credencelaw14_spoilt_L5 N p1_mark l_4 n_77 i_80 = some r ∧ St w0 (colL [q0] col) col_79 w_78 ∧ Own (Rep.row 3 (Rep.int .i64)) 31 440 col_79 w_78 a0 cap0 l_4 ∧ f 0 = (.slice a0 l_4.length cap0) ∧ f 1 = (.int .i64 p1_mark) ∧ f 10 = (.int .i64 i_80) ∧ f 1000000 = (enc [])) N ⟨col_43, 0, N, rfl, hm, hst, h_5, rfl, rfl, rfl, rfl⟩ ?_
          clear hm; intro n f w_78 hI
          obtain ⟨col_79, i_80, n_77, hn, hm, hst, h_5, hs0, hs1, hs10, hs1000000⟩ := hI
          subst hn
          refine .ld (d := 0) (v := (.slice a0 l_4.length cap0)) hs0 ?_
          refine .ld (d := 1) (v := (.int .i64 p1_mark)) hs1 ?_
          refine .ld (d := 10) (v := (.int .i64 i_80)) hs10 ?_
          refine .ld (d := 1000000) (v := (enc [])) hs1000000 ?_
          clear hs0 hs1 hs10 hs1000000
          cases n_77 with
          | zero => rw [m_credencelaw14_spoilt_L5.eq_1] at hm; cases hm
          | succ n_77 =>
            rw [m_credencelaw14_spoilt_L5.eq_2] at hm
            refine wseq ?_
            refine wseq ?_
            refine wregion ?_
            refine lv (v := (.int .i64 i_80)) rfl rfl (r_move rfl) ?_
            refine lv (v := (.slice a0 l_4.length cap0)) rfl rfl (r_move rfl) ?_
            refine lv (v := (.int .i64 (l_4.length : Int))) rfl rfl (r_len Try.underlying22 rfl) ?_
            refine lv (v := (.bool (decide (i_80 < (l_4.length : Int))))) rfl rfl (r_lss i_80 (l_4.length : Int) rfl rfl) ?_
            refine lnil ?_
            refine wcond (decide (i_80 < (l_4.length : Int))) rfl (fun hb => ?_) (fun hb => ?_)
            · rw [if_pos hb] at hm
              clear hb
              refine wskip ?_
              refine wseq ?_
              refine wblock ?_
              refine wseq ?_
              refine wregion ?_
              refine lv (v := (.int .i64 0)) rfl rfl (r_assign rfl) ?_
              refine lnil ?_
              refine wblock ?_
              refine wloop (fun n f w_82 => ∃ (col_83 : Col) (k_84 : Int) (n_81 : Nat), n_81 = n ∧ m_credencelaw14_spoilt_L6 N p1_mark l_4 i_80 (m_credencelaw14_spoilt_L5 N p1_mark l_4 n_77) n_81 k_84 = some r ∧ St w0 (colL [q0] col) col_83 w_82 ∧ Own (Rep.row 3 (Rep.int .i64)) 31 440 col_83 w_82 a0 cap0 l_4 ∧ f 0 = (.slice a0 l_4.length cap0) ∧ f 1 = (.int .i64 p1_mark) ∧ f 10 = (.int .i64 i_80) ∧ f 11 = (.int .i64 k_84) ∧ f 1000000 = (enc [])) N ⟨col_79, 0, N, rfl, hm, hst, h_5, rfl, rfl, rfl, rfl, rfl⟩ ?_
              clear hm; intro n f w_82 hI
              obtain ⟨col_83, k_84, n_81, hn, hm, hst, h_5, hs0, hs1, hs10, hs11, hs1000000⟩ := hI
              subst hn
              refine .ld (d := 0) (v := (.slice a0 l_4.length cap0)) hs0 ?_
              refine .ld (d := 1) (v := (.int .i64 p1_mark)) hs1 ?_
              refine .ld (d := 10) (v := (.int .i64 i_80)) hs10 ?_
              refine .ld (d := 11) (v := (.int .i64 k_84)) hs11 ?_
              refine .ld (d := 1000000) (v := (enc [])) hs1000000 ?_
              clear hs0 hs1 hs10 hs11 hs1000000
              cases n_81 with
              | zero => rw [m_credencelaw14_spoilt_L6.eq_1] at hm; cases hm
              | succ n_81 =>
                rw [m_credencelaw14_spoilt_L6.eq_2] at hm
                refine wseq ?_
                refine wseq ?_
                refine wregion ?_
                refine lv (v := (.int .i64 k_84)) rfl rfl (r_move rfl) ?_
                refine lv (v := (.slice a0 l_4.length cap0)) rfl rfl (r_move rfl) ?_
                refine lv (v := (.int .i64 i_80)) rfl rfl (r_move rfl) ?_
                obtain ⟨e_85, hj_86, hm⟩ := bind_some hm
                refine lv (v := (sptr a0 (Int.toNat i_80 * 1))) rfl rfl (r_idx Try.underlying22 Try.sizeOf31 rfl rfl (at?_some hj_86).1 (at?_some hj_86).2.1 (h_5.addr hj_86)) ?_
                obtain ⟨_, hr_87, hA_88⟩ := h_5.atN hj_86
                obtain ⟨a_89, cap_90, rfl, h_91⟩ := hr_87.row
                refine lv (v := (.slice a_89 e_85.length cap_90)) rfl rfl (r_ld Try.isAgg31 rfl hA_88.one) ?_
                refine lv (v := (.int .i64 (e_85.length : Int))) rfl rfl (r_len Try.underlying31 rfl) ?_
                refine lv (v := (.bool (decide (k_84 < (e_85.length : Int))))) rfl rfl (r_lss k_84 (e_85.length : Int) rfl rfl) ?_
                refine lnil ?_
                refine wcond (decide (k_84 < (e_85.length : Int))) rfl (fun hb => ?_) (fun hb => ?_)
                · rw [if_pos hb] at hm
                  clear hb
                  refine wskip ?_
                  refine wseq ?_
                  refine wblock ?_
                  refine wseq ?_
                  refine wregion ?_
                  refine lv (v := (.slice a0 l_4.length cap0)) rfl rfl (r_move rfl) ?_
                  refine lv (v := (.int .i64 i_80)) rfl rfl (r_move rfl) ?_
                  refine lv (v := (sptr a0 (Int.toNat i_80 * 1))) rfl rfl (r_idx Try.underlying22 Try.sizeOf31 rfl rfl (at?_some hj_86).1 (at?_some hj_86).2.1 (h_5.addr hj_86)) ?_
                  obtain ⟨_, hr_92, hA_93⟩ := h_5.atN hj_86
                  obtain ⟨a_94, cap_95, rfl, h_96⟩ := hr_92.row
                  refine lv (v := (.slice a_94 e_85.length cap_95)) rfl rfl (r_ld Try.isAgg31 rfl hA_93.one) ?_
                  refine lv (v := (.int .i64 k_84)) rfl rfl (r_move rfl) ?_
                  obtain ⟨e_97, hj_98, hm⟩ := bind_some hm
                  refine lv (v := (sptr a_94 (Int.toNat k_84 * 1))) rfl rfl (r_idx Try.underlying31 Try.sizeOf3 rfl rfl (at?_some hj_98).1 (at?_some hj_98).2.1 (h_96.addr hj_98)) ?_
                  refine lv (v := (.int .i64 e_97)) rfl rfl (r_ld Try.isAgg3 rfl (h_96.atInt hj_98)) ?_
                  refine lv (v := (.int .i64 p1_mark)) rfl rfl (r_move rfl) ?_
                  refine lv (v := (.int .i64 i_80)) rfl rfl (r_move rfl) ?_
                  refine lv (v := (.int .i64 (IntKind.i64.wrap (p1_mark - i_80)))) rfl rfl (r_sub p1_mark i_80 rfl rfl) ?_
                  refine lv (v := (.bool (!decide (e_97 = (IntKind.i64.wrap (p1_mark - i_80)))))) rfl rfl (r_neq e_97 (IntKind.i64.wrap (p1_mark - i_80)) rfl rfl) ?_
                  refine lnil ?_
                  refine wcond (!decide (e_97 = (IntKind.i64.wrap (p1_mark - i_80)))) rfl (fun hb => ?_) (fun hb => ?_)
                  · rw [if_pos hb] at hm
                    clear hb
                    refine wseq ?_
                    refine wregion ?_
                    refine lv (v := (.bool false)) rfl rfl (r_assign rfl) ?_
                    refine lnil ?_
                    refine wret ?_
                    cases hm
                    exact ⟨rfl, colFL w0.heap.size [q0] col col_83 (fun n => bif Nat.beq n 440 then q0 else 0), rfl, hst.finL rfl (fun n => bif Nat.beq n 440 then q0 else 0), hst.finOwnL (g := (fun n => bif Nat.beq n 440 then q0 else 0)) rfl h_5 (by decide) (by decide) rfl, hlen_8⟩
                  · rw [if_neg (by rw [hb]; decide)] at hm
                    clear hb
                    refine wskip ?_
                    refine wregion ?_
                    refine lv (v := (.int .i64 k_84)) rfl rfl (r_move rfl) ?_
                    refine lv (v := (.int .i64 (IntKind.i64.wrap (k_84 + 1)))) rfl rfl (r_add k_84 1 rfl rfl) ?_
                    refine lv (v := (.int .i64 (IntKind.i64.wrap (k_84 + 1)))) rfl rfl (r_assign rfl) ?_
                    refine lnil ?_
                    exact ⟨n_81, by omega, ⟨col_83, (IntKind.i64.wrap (k_84 + 1)), n_81, rfl, hm, hst, h_5, rfl, rfl, rfl, rfl, rfl⟩⟩
                · rw [if_neg (by rw [hb]; decide)] at hm
                  clear hb
                  refine wexit (inB_hit ?_)
                  refine wregion ?_
                  refine lv (v := (.int .i64 i_80)) rfl rfl (r_move rfl) ?_
                  refine lv (v := (.int .i64 (IntKind.i64.wrap (i_80 + 1)))) rfl rfl (r_add i_80 1 rfl rfl) ?_
                  refine lv (v := (.int .i64 (IntKind.i64.wrap (i_80 + 1)))) rfl rfl (r_assign rfl) ?_
                  refine lnil ?_
                  exact ⟨n_77, by omega, ⟨col_83, (IntKind.i64.wrap (i_80 + 1)), n_77, rfl, hm, hst, h_5, rfl, rfl, rfl, rfl⟩⟩
            · rw [if_neg (by rw [hb]; decide)] at hm
              clear hb
              refine wexit (inB_hit ?_)
              refine wseq ?_
              refine wregion ?_
              refine lv (v := (.bool true)) rfl rfl (r_assign rfl) ?_
              refine lnil ?_
              refine wret ?_
              cases hm
              exact ⟨rfl, colFL w0.heap.size [q0] col col_79 (fun n => bif Nat.beq n 440 then q0 else 0), rfl, hst.finL rfl (fun n => bif Nat.beq n 440 then q0 else 0), hst.finOwnL (g := (fun n => bif Nat.beq n 440 then q0 else 0)) rfl h_5 (by decide) (by decide) rfl, hlen_8⟩


end Go.Proofs.Ytgggjmmljagkmaa
