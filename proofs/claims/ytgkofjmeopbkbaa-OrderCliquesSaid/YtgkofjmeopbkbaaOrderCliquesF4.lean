/-
  What functions of the program compute, as plain Lean functions (m_..), and proofs that they compute it (c_..). Printed by a program of the author; no conditions.
-/
import Derived.Test.YtgkofjmeopbkbaaOrderCliquesBFloat
import Derived.Test.YtgkofjmeopbkbaaProg
import Derived.Test.YtgkofjmeopbkbaaOrderCliquesBGraph
import Derived.Test.YtgkofjmeopbkbaaOrderCliquesBHalf
import Derived.Test.YtgkofjmeopbkbaaOrderCliquesF3
set_option linter.unusedVariables false
namespace Go.Proofs.Ytgkofjmeopbkbaa
open Go Go.RowKit


set_option maxRecDepth 100000 in
theorem el47_106 : ElemOk Try.prog 47 2 16 := ⟨Try.t47, _, rfl, rfl, rfl, rfl, rfl⟩

def m_r15_Graph_wanting_J1 (k_24 : Int) (kk_L2 : ((List (Int × Int)) → Int → Option (List (Int × Int)))) (l_27 : List (Int × Int)) : Option (List (Int × Int)) :=
  kk_L2 l_27 (IntKind.i64.wrap (k_24 + 1))

def m_r15_Graph_wanting_L2 (N : Nat) (p0_g : ((List (List Bool)))) (r_1 : (List Int)) (i_16 : Int) (kk_L1 : ((List (Int × Int)) → Int → Option (List (Int × Int)))) : Nat → (List (Int × Int)) → Int → Option (List (Int × Int))
  | 0, _, _ => none
  | n_17 + 1, l_20, k_24 => if (decide (k_24 < (r_1.length : Int))) = true then ((at? r_1 i_16).bind fun e_31 => (at? p0_g e_31).bind fun e_33 => (at? r_1 k_24).bind fun e_40 => (at? e_33 e_40).bind fun e_42 => if (!e_42) = true then (chk ((l_20.length + [(e_31, e_40)].length) * 16 ≤ 140737488355328 ∧ l_20.length + [(e_31, e_40)].length ≤ maxLen) (m_r15_Graph_wanting_J1 k_24 (m_r15_Graph_wanting_L2 N p0_g r_1 i_16 kk_L1 n_17) (l_20 ++ [(e_31, e_40)]))) else (m_r15_Graph_wanting_J1 k_24 (m_r15_Graph_wanting_L2 N p0_g r_1 i_16 kk_L1 n_17) l_20)) else (kk_L1 l_20 (IntKind.i64.wrap (i_16 + 1)))

def m_r15_Graph_wanting_L1 (N : Nat) (p0_g : ((List (List Bool)))) (r_1 : (List Int)) : Nat → (List (Int × Int)) → Int → Option (List (Int × Int))
  | 0, _, _ => none
  | n_9 + 1, l_12, i_16 => if (decide (i_16 < (r_1.length : Int))) = true then (m_r15_Graph_wanting_L2 N p0_g r_1 i_16 (m_r15_Graph_wanting_L1 N p0_g r_1 n_9) N l_12 (IntKind.i64.wrap (i_16 + 1))) else (some l_12)

def m_r15_Graph_wanting (N : Nat) (p0_g : ((List (List Bool)))) (p1_a : Int) : Option (List (Int × Int)) :=
  (m_r15_Graph_Near N p0_g p1_a).bind fun r_1 => m_r15_Graph_wanting_L1 N p0_g r_1 N ([] : List (Int × Int)) 0

set_option maxRecDepth 100000 in
set_option maxHeartbeats 2000000 in
theorem c_r15_Graph_wanting (N : Nat) (c1 : Nat) (col : Col) (w0 : World) (qc0 : Nat) (qc0_1 : Nat) (hqqc0 : qc0 ≠ 0) (hqqc0_1 : qc0_1 ≠ 0) (g0 : Nat) (p0_g : ((List (List Bool)))) (a0_2 : Option Addr) (cap0_2 : Nat) (p1_a : Int) (h0_2 : Own (Rep.row 4 Rep.bool) 26 qc0_1 col w0 a0_2 cap0_2 p0_g) (hb0 : Box 102 qc0 col w0 g0 #[(.slice a0_2 p0_g.length cap0_2)]) (r : (List (Int × Int))) (hm : m_r15_Graph_wanting N p0_g p1_a = some r) :
    Calls Try.prog 106 #[(.pointer (some ⟨g0, 0, none⟩)), (.int .i64 p1_a)] w0 (fun e w' => ∃ (col' : Col) (ra1 : Option Addr) (rc2 : Nat), e = .returned ((.slice ra1 r.length rc2)) ∧ Grow col w0 col' w' ∧ Own (Rep.pair (Rep.int .i64) (Rep.int .i64)) 47 c1 col' w' ra1 rc2 r) := by
  refine calls_of1 4 (m := 56) (args := [(.pointer (some ⟨g0, 0, none⟩)), (.int .i64 p1_a)]) Try.func106 rfl rfl rfl rfl rfl ?_
  rw [m_r15_Graph_wanting.eq_1] at hm
  have hst := St.start col w0
  replace hb0 := hb0.start0 hqqc0
  replace h0_2 := h0_2.start0 hqqc0_1
  refine wseq ?_
  refine wregion ?_
  refine lv (v := (.slice none (([] : List (Int × Int)).length) 0)) rfl rfl (r_assign rfl) ?_
  refine lnil ?_
  refine wseq ?_
  refine wregion ?_
  refine lv (v := (.slice none (([] : List (Int × Int)).length) 0)) rfl rfl (r_assign rfl) ?_
  refine lnil ?_
  refine wseq ?_
  refine wregion ?_
  refine lv (v := (.pointer (some ⟨g0, 0, none⟩))) rfl rfl (r_move rfl) ?_
  refine lv (v := (.int .i64 p1_a)) rfl rfl (r_move rfl) ?_
  obtain ⟨r_1, hr_2, hm⟩ := bind_some hm
  refine lc rfl rfl (r_call2 Try.call74 rfl rfl) (c_r15_Graph_Near N 1 (col0 col) _ 999 999 (by decide) (by decide) g0 p0_g a0_2 cap0_2 p1_a h0_2 hb0 r_1 hr_2) ?_
  rintro _ w_6 ⟨col_8, ra_3, rc_4, rfl, hg_7, rh_5⟩
  refine ⟨_, rfl, ?_⟩
  replace h0_2 := h0_2.gr hg_7
  replace hb0 := hb0.gr hg_7
  replace hst := hst.grow hg_7
  refine lv (v := (.slice ra_3 r_1.length rc_4)) rfl rfl (r_assign rfl) ?_
  refine lnil ?_
  refine wseq ?_
  refine wseq ?_
  refine wregion ?_
  refine lv (v := (.int .i64 0)) rfl rfl (r_assign rfl) ?_
  refine lnil ?_
  refine wblock ?_
  refine wloop (fun n f w_10 => ∃ (col_11 : Col) (a_13 : Option Addr) (cap_14 : Nat) (l_12 : List (Int × Int)) (i_16 : Int) (n_9 : Nat), n_9 = n ∧ m_r15_Graph_wanting_L1 N p0_g r_1 n_9 l_12 i_16 = some r ∧ St w0 (col0 col) col_11 w_10 ∧ Own (Rep.row 4 Rep.bool) 26 999 col_11 w_10 a0_2 cap0_2 p0_g ∧ Box 102 999 col_11 w_10 g0 #[(.slice a0_2 p0_g.length cap0_2)] ∧ Own (Rep.pair (Rep.int .i64) (Rep.int .i64)) 47 2 col_11 w_10 a_13 cap_14 l_12 ∧ Own (Rep.int .i64) 3 1 col_11 w_10 ra_3 rc_4 r_1 ∧ f 0 = (.pointer (some ⟨g0, 0, none⟩)) ∧ f 5 = (.slice a_13 l_12.length cap_14) ∧ f 6 = (.slice ra_3 r_1.length rc_4) ∧ f 7 = (.int .i64 i_16) ∧ f 1000000 = (enc [])) N ⟨col_8, none, 0, ([] : List (Int × Int)), 0, N, rfl, hm, hst, h0_2, hb0, Own.nil, rh_5, rfl, rfl, rfl, rfl, rfl⟩ ?_
  clear hm; intro n f w_10 hI
  obtain ⟨col_11, a_13, cap_14, l_12, i_16, n_9, hn, hm, hst, h0_2, hb0, h_15, rh_5, hs0, hs5, hs6, hs7, hs1000000⟩ := hI
  subst hn
  refine .ld (d := 0) (v := (.pointer (some ⟨g0, 0, none⟩))) hs0 ?_
  refine .ld (d := 5) (v := (.slice a_13 l_12.length cap_14)) hs5 ?_
  refine .ld (d := 6) (v := (.slice ra_3 r_1.length rc_4)) hs6 ?_
  refine .ld (d := 7) (v := (.int .i64 i_16)) hs7 ?_
  refine .ld (d := 1000000) (v := (enc [])) hs1000000 ?_
  clear hs0 hs5 hs6 hs7 hs1000000
  cases n_9 with
  | zero => rw [m_r15_Graph_wanting_L1.eq_1] at hm; cases hm
  | succ n_9 =>
    rw [m_r15_Graph_wanting_L1.eq_2] at hm
    refine wseq ?_
    refine wseq ?_
    refine wregion ?_
    refine lv (v := (.int .i64 i_16)) rfl rfl (r_move rfl) ?_
    refine lv (v := (.slice ra_3 r_1.length rc_4)) rfl rfl (r_move rfl) ?_
    refine lv (v := (.int .i64 (r_1.length : Int))) rfl rfl (r_len Try.underlying22 rfl) ?_
    refine lv (v := (.bool (decide (i_16 < (r_1.length : Int))))) rfl rfl (r_lss i_16 (r_1.length : Int) rfl rfl) ?_
    refine lnil ?_
    refine wcond (decide (i_16 < (r_1.length : Int))) rfl (fun hb => ?_) (fun hb => ?_)
    · rw [if_pos hb] at hm
      clear hb
      refine wskip ?_
      refine wseq ?_
      refine wblock ?_
      refine wseq ?_
      refine wregion ?_
      refine lv (v := (.int .i64 i_16)) rfl rfl (r_move rfl) ?_
      refine lv (v := (.int .i64 (IntKind.i64.wrap (i_16 + 1)))) rfl rfl (r_add i_16 1 rfl rfl) ?_
      refine lv (v := (.int .i64 (IntKind.i64.wrap (i_16 + 1)))) rfl rfl (r_assign rfl) ?_
      refine lnil ?_
      refine wblock ?_
      refine wloop (fun n f w_18 => ∃ (col_19 : Col) (a_21 : Option Addr) (cap_22 : Nat) (l_20 : List (Int × Int)) (k_24 : Int) (n_17 : Nat), n_17 = n ∧ m_r15_Graph_wanting_L2 N p0_g r_1 i_16 (m_r15_Graph_wanting_L1 N p0_g r_1 n_9) n_17 l_20 k_24 = some r ∧ St w0 (col0 col) col_19 w_18 ∧ Own (Rep.row 4 Rep.bool) 26 999 col_19 w_18 a0_2 cap0_2 p0_g ∧ Box 102 999 col_19 w_18 g0 #[(.slice a0_2 p0_g.length cap0_2)] ∧ Own (Rep.pair (Rep.int .i64) (Rep.int .i64)) 47 2 col_19 w_18 a_21 cap_22 l_20 ∧ Own (Rep.int .i64) 3 1 col_19 w_18 ra_3 rc_4 r_1 ∧ f 0 = (.pointer (some ⟨g0, 0, none⟩)) ∧ f 5 = (.slice a_21 l_20.length cap_22) ∧ f 6 = (.slice ra_3 r_1.length rc_4) ∧ f 7 = (.int .i64 i_16) ∧ f 8 = (.int .i64 k_24) ∧ f 1000000 = (enc [])) N ⟨col_11, a_13, cap_14, l_12, (IntKind.i64.wrap (i_16 + 1)), N, rfl, hm, hst, h0_2, hb0, h_15, rh_5, rfl, rfl, rfl, rfl, rfl, rfl⟩ ?_
      clear hm; intro n f w_18 hI
      obtain ⟨col_19, a_21, cap_22, l_20, k_24, n_17, hn, hm, hst, h0_2, hb0, h_23, rh_5, hs0, hs5, hs6, hs7, hs8, hs1000000⟩ := hI
      subst hn
      refine .ld (d := 0) (v := (.pointer (some ⟨g0, 0, none⟩))) hs0 ?_
      refine .ld (d := 5) (v := (.slice a_21 l_20.length cap_22)) hs5 ?_
      refine .ld (d := 6) (v := (.slice ra_3 r_1.length rc_4)) hs6 ?_
      refine .ld (d := 7) (v := (.int .i64 i_16)) hs7 ?_
      refine .ld (d := 8) (v := (.int .i64 k_24)) hs8 ?_
      refine .ld (d := 1000000) (v := (enc [])) hs1000000 ?_
      clear hs0 hs5 hs6 hs7 hs8 hs1000000
      cases n_17 with
      | zero => rw [m_r15_Graph_wanting_L2.eq_1] at hm; cases hm
      | succ n_17 =>
        rw [m_r15_Graph_wanting_L2.eq_2] at hm
        refine wseq ?_
        refine wseq ?_
        refine wregion ?_
        refine lv (v := (.int .i64 k_24)) rfl rfl (r_move rfl) ?_
        refine lv (v := (.slice ra_3 r_1.length rc_4)) rfl rfl (r_move rfl) ?_
        refine lv (v := (.int .i64 (r_1.length : Int))) rfl rfl (r_len Try.underlying22 rfl) ?_
        refine lv (v := (.bool (decide (k_24 < (r_1.length : Int))))) rfl rfl (r_lss k_24 (r_1.length : Int) rfl rfl) ?_
        refine lnil ?_
        refine wcond (decide (k_24 < (r_1.length : Int))) rfl (fun hb => ?_) (fun hb => ?_)
        · rw [if_pos hb] at hm
          clear hb
          refine wskip ?_
          refine wseq ?_
          refine Wp.cut (fun f w_25 => ∃ (col_26 : Col) (a_28 : Option Addr) (cap_29 : Nat) (l_27 : List (Int × Int)), m_r15_Graph_wanting_J1 k_24 (m_r15_Graph_wanting_L2 N p0_g r_1 i_16 (m_r15_Graph_wanting_L1 N p0_g r_1 n_9) n_17) l_27 = some r ∧ St w0 (col0 col) col_26 w_25 ∧ Own (Rep.row 4 Rep.bool) 26 999 col_26 w_25 a0_2 cap0_2 p0_g ∧ Box 102 999 col_26 w_25 g0 #[(.slice a0_2 p0_g.length cap0_2)] ∧ Own (Rep.pair (Rep.int .i64) (Rep.int .i64)) 47 2 col_26 w_25 a_28 cap_29 l_27 ∧ Own (Rep.int .i64) 3 1 col_26 w_25 ra_3 rc_4 r_1 ∧ f 0 = (.pointer (some ⟨g0, 0, none⟩)) ∧ f 5 = (.slice a_28 l_27.length cap_29) ∧ f 6 = (.slice ra_3 r_1.length rc_4) ∧ f 7 = (.int .i64 i_16) ∧ f 8 = (.int .i64 k_24) ∧ f 1000000 = (enc [])) ?_ ?_
          · intro f w_25 hJ
            obtain ⟨col_26, a_28, cap_29, l_27, hm, hst, h0_2, hb0, h_30, rh_5, hs0, hs5, hs6, hs7, hs8, hs1000000⟩ := hJ
            rw [m_r15_Graph_wanting_J1.eq_1] at hm
            refine .ld (d := 0) (v := (.pointer (some ⟨g0, 0, none⟩))) hs0 ?_
            refine .ld (d := 5) (v := (.slice a_28 l_27.length cap_29)) hs5 ?_
            refine .ld (d := 6) (v := (.slice ra_3 r_1.length rc_4)) hs6 ?_
            refine .ld (d := 7) (v := (.int .i64 i_16)) hs7 ?_
            refine .ld (d := 8) (v := (.int .i64 k_24)) hs8 ?_
            refine .ld (d := 1000000) (v := (enc [])) hs1000000 ?_
            clear hs0 hs5 hs6 hs7 hs8 hs1000000
            refine wregion ?_
            refine lv (v := (.int .i64 k_24)) rfl rfl (r_move rfl) ?_
            refine lv (v := (.int .i64 (IntKind.i64.wrap (k_24 + 1)))) rfl rfl (r_add k_24 1 rfl rfl) ?_
            refine lv (v := (.int .i64 (IntKind.i64.wrap (k_24 + 1)))) rfl rfl (r_assign rfl) ?_
            refine lnil ?_
            exact ⟨n_17, by omega, ⟨col_26, a_28, cap_29, l_27, (IntKind.i64.wrap (k_24 + 1)), n_17, rfl, hm, hst, h0_2, hb0, h_30, rh_5, rfl, rfl, rfl, rfl, rfl, rfl⟩⟩
          · refine wblock ?_
            refine wseq ?_
            refine wquiet (col := col_19) (by kernel_rfl) (by kernel_rfl) ?_
            refine qv (v := (.pointer (some ⟨g0, 0, none⟩))) rfl (fun _ hC => r_move rfl) ?_
            refine qv (v := (.pointer (some ⟨g0, 0, none⟩))) rfl (fun _ hC => r_nilCheck rfl) ?_
            refine qv (v := (.pointer ((some (⟨g0, 0, none⟩ : Addr)).map (·.add 0)))) rfl (fun _ hC => r_fieldAddr (sz := 1) (off := 0) Try.underlying102 rfl Try.sizeOf100 (by decide) rfl rfl ⟨_, _, rfl⟩) ?_
            refine qv (v := (.slice a0_2 p0_g.length cap0_2)) rfl (fun _ hC => r_ld Try.isAgg100 rfl (((hb0.atN).nth (q := 0) (v := (.slice a0_2 p0_g.length cap0_2)) rfl).gr (Grow.of_below (col := col_19) hC.below))) ?_
            refine qv (v := (.slice ra_3 r_1.length rc_4)) rfl (fun _ hC => r_move rfl) ?_
            refine qv (v := (.int .i64 i_16)) rfl (fun _ hC => r_move rfl) ?_
            obtain ⟨e_31, hj_32, hm⟩ := bind_some hm
            refine qv (v := (sptr ra_3 (Int.toNat i_16 * 1))) rfl (fun _ hC => r_idx Try.underlying22 Try.sizeOf3 rfl rfl (at?_some hj_32).1 (at?_some hj_32).2.1 (rh_5.addr hj_32)) ?_
            refine qv (v := (.int .i64 e_31)) rfl (fun _ hC => r_ld Try.isAgg3 rfl ((rh_5.gr (Grow.of_below (col := col_19) hC.below)).atInt hj_32)) ?_
            obtain ⟨e_33, hj_34, hm⟩ := bind_some hm
            refine qv (v := (sptr a0_2 (Int.toNat e_31 * 1))) rfl (fun _ hC => r_idx Try.underlying100 Try.sizeOf26 rfl rfl (at?_some hj_34).1 (at?_some hj_34).2.1 (h0_2.addr hj_34)) ?_
            obtain ⟨_, hr_35, hA_36⟩ := h0_2.atN hj_34
            obtain ⟨a_37, cap_38, rfl, h_39⟩ := hr_35.row
            refine qv (v := (.slice a_37 e_33.length cap_38)) rfl (fun _ hC => r_ld Try.isAgg26 rfl (hA_36.one.gr (Grow.of_below (col := col_19) hC.below))) ?_
            refine qv (v := (.slice ra_3 r_1.length rc_4)) rfl (fun _ hC => r_move rfl) ?_
            refine qv (v := (.int .i64 k_24)) rfl (fun _ hC => r_move rfl) ?_
            obtain ⟨e_40, hj_41, hm⟩ := bind_some hm
            refine qv (v := (sptr ra_3 (Int.toNat k_24 * 1))) rfl (fun _ hC => r_idx Try.underlying22 Try.sizeOf3 rfl rfl (at?_some hj_41).1 (at?_some hj_41).2.1 (rh_5.addr hj_41)) ?_
            refine qv (v := (.int .i64 e_40)) rfl (fun _ hC => r_ld Try.isAgg3 rfl ((rh_5.gr (Grow.of_below (col := col_19) hC.below)).atInt hj_41)) ?_
            obtain ⟨e_42, hj_43, hm⟩ := bind_some hm
            refine qv (v := (sptr a_37 (Int.toNat e_40 * 1))) rfl (fun _ hC => r_idx Try.underlying26 Try.sizeOf4 rfl rfl (at?_some hj_43).1 (at?_some hj_43).2.1 (h_39.addr hj_43)) ?_
            refine qv (v := (.bool e_42)) rfl (fun _ hC => r_ld Try.isAgg4 rfl ((h_39.gr (Grow.of_below (col := col_19) hC.below)).atBool hj_43)) ?_
            refine qv (v := (.bool (!e_42))) rfl (fun _ hC => r_not e_42 rfl) ?_
            refine qnil ?_
            intro w_44 hC
            replace hC : Grow col_19 w_18 col_19 w_44 := .of_below hC.below
            replace h0_2 := h0_2.gr hC
            replace h_23 := h_23.gr hC
            replace rh_5 := rh_5.gr hC
            replace hb0 := hb0.gr hC
            replace hst := hst.grow hC
            refine wcond (!e_42) rfl (fun hb => ?_) (fun hb => ?_)
            · rw [if_pos hb] at hm
              clear hb
              refine wmix (col := col_19) [(0, 1), (1, 1), (2, 1), (3, 1), (4, 0), (5, 1), (6, 1), (7, 1), (8, 0), (9, 1), (10, 3), (11, 2), (12, 1)] (by kernel_rfl) (by kernel_rfl) ?_
              refine xu (v := (.slice a_21 l_20.length cap_22)) rfl rfl (fun _ => r_move rfl) ?_
              refine xu (v := (.slice ra_3 r_1.length rc_4)) rfl rfl (fun _ => r_move rfl) ?_
              refine xu (v := (.int .i64 i_16)) rfl rfl (fun _ => r_move rfl) ?_
              refine xu (v := (sptr ra_3 (Int.toNat i_16 * 1))) rfl rfl (fun _ => r_idx Try.underlying22 Try.sizeOf3 rfl rfl (at?_some hj_32).1 (at?_some hj_32).2.1 (rh_5.addr hj_32)) ?_
              refine xv (v := (.int .i64 e_31)) rfl rfl (fun _ hC => r_ld Try.isAgg3 rfl ((rh_5.gr (Grow.of_below (col := col_19) hC.below)).atInt hj_32)) ?_
              refine xu (v := (.slice ra_3 r_1.length rc_4)) rfl rfl (fun _ => r_move rfl) ?_
              refine xu (v := (.int .i64 k_24)) rfl rfl (fun _ => r_move rfl) ?_
              refine xu (v := (sptr ra_3 (Int.toNat k_24 * 1))) rfl rfl (fun _ => r_idx Try.underlying22 Try.sizeOf3 rfl rfl (at?_some hj_41).1 (at?_some hj_41).2.1 (rh_5.addr hj_41)) ?_
              refine xv (v := (.int .i64 e_40)) rfl rfl (fun _ hC => r_ld Try.isAgg3 rfl ((rh_5.gr (Grow.of_below (col := col_19) hC.below)).atInt hj_41)) ?_
              refine xu (v := (.agg #[(.int .i64 e_31), (.int .i64 e_40)])) rfl rfl (fun _ => r_build (l := [_, _]) (qs := [(0, 1), (1, 1)]) Try.underlying47 Try.zeroValue47 ⟨rfl, Try.sizeOf3, rfl, Try.sizeOf3, trivial⟩ rfl) ?_
              refine xe rfl rfl ?_
              intro w_45 hC0
              have hC : Grow col_19 w_44 col_19 w_45 := .of_below hC0.below
              replace h0_2 := h0_2.gr hC
              replace h_23 := h_23.gr hC
              replace rh_5 := rh_5.gr hC
              replace hb0 := hb0.gr hC
              replace hst := hst.grow hC
              refine l_lit (col := col_19) (r := (Rep.pair (Rep.int .i64) (Rep.int .i64))) (xs := [(e_31, e_40)]) [(.agg #[(.int .i64 e_31), (.int .i64 e_40)])] 3 rfl Try.underlying29 el47_106 rfl rfl rfl rfl rfl rfl (by intro v hv; simp only [List.mem_cons, List.not_mem_nil, or_false] at hv; subst hv; rfl) (RowsH.ofF (Rows.consF (r := (Rep.pair (Rep.int .i64) (Rep.int .i64))) (x := (e_31, e_40)) (cs := [(.int .i64 e_31), (.int .i64 e_40)]) (rd_pairI (rd_int .i64 e_31) (rd_int .i64 e_40)) Rows.nil0)) ?_
              intro a_46 w_47 col_48 hg_49 h_50
              replace h0_2 := h0_2.gr hg_49
              replace h_23 := h_23.gr hg_49
              replace rh_5 := rh_5.gr hg_49
              replace hb0 := hb0.gr hg_49
              replace hst := hst.grow hg_49
              refine lnil ⟨fun w' => Grow col_48 w_47 col_48 w', Grow.refl _ _, fun _ _ h => cls hC0 hg_49 h, ?_⟩
              refine xe rfl rfl ?_
              intro w_51 hC0
              have hC : Grow col_48 w_47 col_48 w_51 := .of_below hC0.below
              replace h0_2 := h0_2.gr hC
              replace h_23 := h_23.gr hC
              replace rh_5 := rh_5.gr hC
              replace h_50 := h_50.gr hC
              replace hb0 := hb0.gr hC
              replace hst := hst.grow hC
              obtain ⟨hb_52, hm⟩ := chk_some hm
              refine l_ext (col := col_48) (w := w_51) (r := (Rep.pair (Rep.int .i64) (Rep.int .i64))) (c := 2) (c2 := 2) (h_23.ex) (h_50.srcN (NB.pair (NB.int (k := .i64)) (NB.int (k := .i64)))) rfl Try.underlying29 el47_106 rfl rfl rfl hb_52.1 hb_52.2 (by decide) ?_
              intro a_53 cap_54 w_55 col_56 hk_57 h_58
              replace h0_2 := h0_2.kpp hk_57 rfl rfl
              replace rh_5 := rh_5.kpp hk_57 rfl rfl
              replace h_50 := h_50.kpp hk_57 rfl rfl
              replace hb0 := hb0.kpp hk_57 rfl
              replace hst := hst.kpp hk_57 rfl rfl
              clear h_23
              refine lnil ⟨fun w' => Grow col_56 w_55 col_56 w', Grow.refl _ _, fun h => absurd h (by decide), ?_⟩
              refine xu (v := (.slice a_53 ((l_20 ++ [(e_31, e_40)]).length) cap_54)) rfl rfl (fun _ => r_assign rfl) ?_
              have h_59 := h_58.new
              clear h_58
              refine xnil ?_
              intro w_60 hC
              replace hC : Grow col_56 w_55 col_56 w_60 := .of_below hC.below
              replace h0_2 := h0_2.gr hC
              replace h_59 := h_59.gr hC
              replace rh_5 := rh_5.gr hC
              replace hb0 := hb0.gr hC
              replace hst := hst.grow hC
              exact ⟨col_56, a_53, cap_54, (l_20 ++ [(e_31, e_40)]), hm, hst, h0_2, hb0, h_59, rh_5, rfl, rfl, rfl, rfl, rfl, rfl⟩
            · rw [if_neg (by rw [hb]; decide)] at hm
              clear hb
              refine wskip ?_
              exact ⟨col_19, a_21, cap_22, l_20, hm, hst, h0_2, hb0, h_23, rh_5, rfl, rfl, rfl, rfl, rfl, rfl⟩
        · rw [if_neg (by rw [hb]; decide)] at hm
          clear hb
          refine wexit (inB_hit ?_)
          refine wregion ?_
          refine lv (v := (.int .i64 i_16)) rfl rfl (r_move rfl) ?_
          refine lv (v := (.int .i64 (IntKind.i64.wrap (i_16 + 1)))) rfl rfl (r_add i_16 1 rfl rfl) ?_
          refine lv (v := (.int .i64 (IntKind.i64.wrap (i_16 + 1)))) rfl rfl (r_assign rfl) ?_
          refine lnil ?_
          exact ⟨n_9, by omega, ⟨col_19, a_21, cap_22, l_20, (IntKind.i64.wrap (i_16 + 1)), n_9, rfl, hm, hst, h0_2, hb0, h_23, rh_5, rfl, rfl, rfl, rfl, rfl⟩⟩
    · rw [if_neg (by rw [hb]; decide)] at hm
      clear hb
      refine wexit (inB_hit ?_)
      refine wseq ?_
      refine wregion ?_
      refine lv (v := (.slice a_13 l_12.length cap_14)) rfl rfl (r_move rfl) ?_
      refine lv (v := (.slice a_13 l_12.length cap_14)) rfl rfl (r_assign rfl) ?_
      refine lnil ?_
      refine wret ?_
      cases hm
      exact ⟨rfl, colF w0.heap.size col col_11 (fun n => bif Nat.beq n 2 then c1 else 0), a_13, cap_14, rfl, hst.fin (fun n => bif Nat.beq n 2 then c1 else 0), hst.finOwn (g := (fun n => bif Nat.beq n 2 then c1 else 0)) rfl h_15 (by decide) (by decide) rfl⟩








def m_r15_in_L1 (N : Nat) (p0_l : (List Int)) (p1_x : Int) : Nat → Int → Option Bool
  | 0, _ => none
  | n_1 + 1, i_4 => if (decide (i_4 < (p0_l.length : Int))) = true then ((at? p0_l i_4).bind fun e_5 => if (decide (e_5 = p1_x)) = true then (some true) else ((m_r15_in_L1 N p0_l p1_x n_1) (IntKind.i64.wrap (i_4 + 1)))) else (some false)

def m_r15_in (N : Nat) (p0_l : (List Int)) (p1_x : Int) : Option Bool :=
  m_r15_in_L1 N p0_l p1_x N 0

set_option maxRecDepth 100000 in
set_option maxHeartbeats 2000000 in
theorem c_r15_in (N : Nat) (col : Col) (w0 : World) (a0 : Option Addr) (cap0 : Nat) (p0_l : (List Int)) (p1_x : Int) (h0 : Sl (Rep.int .i64) col w0 a0 cap0 p0_l) (r : Bool) (hm : m_r15_in N p0_l p1_x = some r) :
    Calls Try.prog 107 #[(.slice a0 p0_l.length cap0), (.int .i64 p1_x)] w0 (fun e w' => e = .returned ((.bool r)) ∧ Below w0.heap.size w0 w') := by
  refine calls_of1 4 (m := 18) (args := [(.slice a0 p0_l.length cap0), (.int .i64 p1_x)]) Try.func107 rfl rfl rfl rfl rfl ?_
  rw [m_r15_in.eq_1] at hm
  have hst := St.start col w0
  replace h0 := h0.keep (Stay.start col w0)
  refine wseq ?_
  refine wregion ?_
  refine lv (v := (.bool false)) rfl rfl (r_assign rfl) ?_
  refine lnil ?_
  refine wseq ?_
  refine wseq ?_
  refine wregion ?_
  refine lv (v := (.int .i64 0)) rfl rfl (r_assign rfl) ?_
  refine lnil ?_
  refine wblock ?_
  refine wloop (fun n f w_2 => ∃ (col_3 : Col) (i_4 : Int) (n_1 : Nat), n_1 = n ∧ m_r15_in_L1 N p0_l p1_x n_1 i_4 = some r ∧ St w0 (col0 col) col_3 w_2 ∧ Sl (Rep.int .i64) col_3 w_2 a0 cap0 p0_l ∧ f 0 = (.slice a0 p0_l.length cap0) ∧ f 1 = (.int .i64 p1_x) ∧ f 5 = (.int .i64 i_4) ∧ f 1000000 = (enc [])) N ⟨(col0 col), 0, N, rfl, hm, hst, h0, rfl, rfl, rfl, rfl⟩ ?_
  clear hm; intro n f w_2 hI
  obtain ⟨col_3, i_4, n_1, hn, hm, hst, h0, hs0, hs1, hs5, hs1000000⟩ := hI
  subst hn
  refine .ld (d := 0) (v := (.slice a0 p0_l.length cap0)) hs0 ?_
  refine .ld (d := 1) (v := (.int .i64 p1_x)) hs1 ?_
  refine .ld (d := 5) (v := (.int .i64 i_4)) hs5 ?_
  refine .ld (d := 1000000) (v := (enc [])) hs1000000 ?_
  clear hs0 hs1 hs5 hs1000000
  cases n_1 with
  | zero => rw [m_r15_in_L1.eq_1] at hm; cases hm
  | succ n_1 =>
    rw [m_r15_in_L1.eq_2] at hm
    refine wseq ?_
    refine wseq ?_
    refine wregion ?_
    refine lv (v := (.int .i64 i_4)) rfl rfl (r_move rfl) ?_
    refine lv (v := (.slice a0 p0_l.length cap0)) rfl rfl (r_move rfl) ?_
    refine lv (v := (.int .i64 (p0_l.length : Int))) rfl rfl (r_len Try.underlying22 rfl) ?_
    refine lv (v := (.bool (decide (i_4 < (p0_l.length : Int))))) rfl rfl (r_lss i_4 (p0_l.length : Int) rfl rfl) ?_
    refine lnil ?_
    refine wcond (decide (i_4 < (p0_l.length : Int))) rfl (fun hb => ?_) (fun hb => ?_)
    · rw [if_pos hb] at hm
      clear hb
      refine wskip ?_
      refine wseq ?_
      refine wblock ?_
      refine wseq ?_
      refine wregion ?_
      refine lv (v := (.slice a0 p0_l.length cap0)) rfl rfl (r_move rfl) ?_
      refine lv (v := (.int .i64 i_4)) rfl rfl (r_move rfl) ?_
      obtain ⟨e_5, hj_6, hm⟩ := bind_some hm
      refine lv (v := (sptr a0 (Int.toNat i_4 * 1))) rfl rfl (r_idx Try.underlying22 Try.sizeOf3 rfl rfl (at?_some hj_6).1 (at?_some hj_6).2.1 (h0.addr hj_6)) ?_
      refine lv (v := (.int .i64 e_5)) rfl rfl (r_ld Try.isAgg3 rfl (h0.atInt hj_6)) ?_
      refine lv (v := (.int .i64 p1_x)) rfl rfl (r_move rfl) ?_
      refine lv (v := (.bool (decide (e_5 = p1_x)))) rfl rfl (r_eql e_5 p1_x rfl rfl) ?_
      refine lnil ?_
      refine wcond (decide (e_5 = p1_x)) rfl (fun hb => ?_) (fun hb => ?_)
      · rw [if_pos hb] at hm
        clear hb
        refine wseq ?_
        refine wregion ?_
        refine lv (v := (.bool true)) rfl rfl (r_assign rfl) ?_
        refine lnil ?_
        refine wret ?_
        cases hm
        exact ⟨rfl, rfl, hst.below⟩
      · rw [if_neg (by rw [hb]; decide)] at hm
        clear hb
        refine wskip ?_
        refine wregion ?_
        refine lv (v := (.int .i64 i_4)) rfl rfl (r_move rfl) ?_
        refine lv (v := (.int .i64 (IntKind.i64.wrap (i_4 + 1)))) rfl rfl (r_add i_4 1 rfl rfl) ?_
        refine lv (v := (.int .i64 (IntKind.i64.wrap (i_4 + 1)))) rfl rfl (r_assign rfl) ?_
        refine lnil ?_
        exact ⟨n_1, by omega, ⟨col_3, (IntKind.i64.wrap (i_4 + 1)), n_1, rfl, hm, hst, h0, rfl, rfl, rfl, rfl⟩⟩
    · rw [if_neg (by rw [hb]; decide)] at hm
      clear hb
      refine wexit (inB_hit ?_)
      refine wseq ?_
      refine wregion ?_
      refine lv (v := (.bool false)) rfl rfl (r_assign rfl) ?_
      refine lnil ?_
      refine wret ?_
      cases hm
      exact ⟨rfl, rfl, hst.below⟩



set_option maxRecDepth 100000 in
theorem el3_79 : ElemOk Try.prog 3 1 8 := ⟨Try.t3, _, rfl, rfl, rfl, rfl, rfl⟩

def m_r15_Graph_Remove_J1 (b_24 : Int) (kk_L1 : (Int → (List Int) → Option ((List Int) × (List (Int × Int)) × ((List (List Bool)))))) (clique_31 : List Int) : Option ((List Int) × (List (Int × Int)) × ((List (List Bool)))) :=
  kk_L1 (IntKind.i64.wrap (b_24 + 1)) clique_31

def m_r15_Graph_Remove_J2 (b_24 : Int) (clique_25 : List Int) (kk_L1 : (Int → (List Int) → Option ((List Int) × (List (Int × Int)) × ((List (List Bool)))))) (v_42 : Bool) : Option ((List Int) × (List (Int × Int)) × ((List (List Bool)))) :=
  if v_42 = true then (chk ((clique_25.length + [b_24].length) * 8 ≤ 140737488355328 ∧ clique_25.length + [b_24].length ≤ maxLen) (m_r15_Graph_Remove_J1 b_24 kk_L1 (clique_25 ++ [b_24]))) else (m_r15_Graph_Remove_J1 b_24 kk_L1 clique_25)

def m_r15_Graph_Remove_L3 (N : Nat) (p1_a : Int) (r_5 : (List (Int × Int))) (r_13 : (List Int)) (clique_25 : List Int) : Nat → (List (List Bool)) → Int → Option ((List Int) × (List (Int × Int)) × ((List (List Bool))))
  | 0, _, _ => none
  | n_85 + 1, g_88, i_92 => if (decide (i_92 < (r_13.length : Int))) = true then ((at? g_88 p1_a).bind fun e_93 => (at? r_13 i_92).bind fun e_102 => (at? e_93 e_102).bind fun e_104 => (some (e_93.set (Int.toNat e_102) false)).bind fun xs_112 => (at? (g_88.set (Int.toNat p1_a) xs_112) e_102).bind fun e_115 => (at? e_115 p1_a).bind fun e_124 => (some (e_115.set (Int.toNat p1_a) false)).bind fun xs_132 => (m_r15_Graph_Remove_L3 N p1_a r_5 r_13 clique_25 n_85) ((g_88.set (Int.toNat p1_a) xs_112).set (Int.toNat e_102) xs_132) (IntKind.i64.wrap (i_92 + 1))) else (some (clique_25, r_5, g_88))

def m_r15_Graph_Remove_L2 (N : Nat) (p1_a : Int) (r_5 : (List (Int × Int))) (r_13 : (List Int)) (clique_25 : List Int) : Nat → (List (List Bool)) → Int → Option ((List Int) × (List (Int × Int)) × ((List (List Bool))))
  | 0, _, _ => none
  | n_56 + 1, g_59, i_63 => if (decide (i_63 < (r_5.length : Int))) = true then ((at? r_5 i_63).bind fun e_64 => (m_r15_Graph_Join g_59 e_64.1 e_64.2).bind fun r_75 => (m_r15_Graph_Remove_L2 N p1_a r_5 r_13 clique_25 n_56) r_75.2 (IntKind.i64.wrap (i_63 + 1))) else (m_r15_Graph_Remove_L3 N p1_a r_5 r_13 clique_25 N g_59 0)

def m_r15_Graph_Remove_L1 (N : Nat) (p0_g : ((List (List Bool)))) (p1_a : Int) (r_5 : (List (Int × Int))) (r_13 : (List Int)) : Nat → Int → (List Int) → Option ((List Int) × (List (Int × Int)) × ((List (List Bool))))
  | 0, _, _ => none
  | n_21 + 1, b_24, clique_25 => if (decide (b_24 < (p0_g.length : Int))) = true then ((m_r15_in N r_13 b_24).bind fun r_35 => if r_35 = true then (m_r15_Graph_Remove_J2 b_24 clique_25 (m_r15_Graph_Remove_L1 N p0_g p1_a r_5 r_13 n_21) true) else (m_r15_Graph_Remove_J2 b_24 clique_25 (m_r15_Graph_Remove_L1 N p0_g p1_a r_5 r_13 n_21) (decide (b_24 = p1_a)))) else (m_r15_Graph_Remove_L2 N p1_a r_5 r_13 clique_25 N p0_g 0)

def m_r15_Graph_Remove (N : Nat) (p0_g : ((List (List Bool)))) (p1_a : Int) : Option ((List Int) × (List (Int × Int)) × ((List (List Bool)))) :=
  (m_r15_Graph_point p0_g p1_a).bind fun r_1 => if (!r_1) = true then (some (([] : List Int), ([] : List (Int × Int)), p0_g)) else ((m_r15_Graph_wanting N p0_g p1_a).bind fun r_5 => (m_r15_Graph_Near N p0_g p1_a).bind fun r_13 => m_r15_Graph_Remove_L1 N p0_g p1_a r_5 r_13 N 0 ([] : List Int))

set_option maxRecDepth 100000 in
set_option maxHeartbeats 2000000 in
theorem c_r15_Graph_Remove (N : Nat) (c1 : Nat) (c2 : Nat) (col : Col) (w0 : World) (qc0 : Nat) (qc0_1 : Nat) (hd : dstB [qc0, qc0_1] = true) (g0 : Nat) (p0_g : ((List (List Bool)))) (a0_2 : Option Addr) (cap0_2 : Nat) (p1_a : Int) (h0_2 : Own (Rep.row 4 Rep.bool) 26 qc0_1 col w0 a0_2 cap0_2 p0_g) (hb0 : Box 102 qc0 col w0 g0 #[(.slice a0_2 p0_g.length cap0_2)]) (r : ((List Int) × (List (Int × Int)) × ((List (List Bool))))) (hm : m_r15_Graph_Remove N p0_g p1_a = some r) :
    Calls Try.prog 79 #[(.pointer (some ⟨g0, 0, none⟩)), (.int .i64 p1_a)] w0 (fun e w' => ∃ (col' : Col) (ra1 : Option Addr) (rc2 : Nat) (ra4 : Option Addr) (rc5 : Nat) (oa7 : Option Addr) (oc8 : Nat), e = .returned (.tuple #[(.slice ra1 r.1.length rc2), (.slice ra4 r.2.1.length rc5)]) ∧ KeepP (pS [qc0, qc0_1]) col w0 col' w' ∧ Own (Rep.int .i64) 3 c1 col' w' ra1 rc2 r.1 ∧ Own (Rep.pair (Rep.int .i64) (Rep.int .i64)) 47 c2 col' w' ra4 rc5 r.2.1 ∧ Own (Rep.row 4 Rep.bool) 26 qc0_1 col' w' oa7 oc8 r.2.2 ∧ Box 102 qc0 col' w' g0 #[(.slice oa7 r.2.2.length oc8)]) := by
  refine calls_of2 4 5 (m := 97) (args := [(.pointer (some ⟨g0, 0, none⟩)), (.int .i64 p1_a)]) Try.func79 rfl rfl rfl rfl rfl ?_
  rw [m_r15_Graph_Remove.eq_1] at hm
  have hst := St.startL (l := [qc0, qc0_1]) rfl col w0
  replace hb0 := hb0.startL (dst_nz hd 0 rfl) (dst_ix hd 0 rfl)
  replace h0_2 := h0_2.startL (dst_nz hd 1 rfl) (dst_ix hd 1 rfl)
  refine wseq ?_
  refine wregion ?_
  refine lv (v := (.slice none (([] : List Int).length) 0)) rfl rfl (r_assign rfl) ?_
  refine lv (v := (.slice none (([] : List (Int × Int)).length) 0)) rfl rfl (r_assign rfl) ?_
  refine lnil ?_
  refine wseq ?_
  refine wregion ?_
  refine lv (v := (.pointer (some ⟨g0, 0, none⟩))) rfl rfl (r_move rfl) ?_
  refine lv (v := (.int .i64 p1_a)) rfl rfl (r_move rfl) ?_
  obtain ⟨r_1, hr_2, hm⟩ := bind_some hm
  refine lc rfl rfl (r_call2 Try.call94 rfl rfl) (c_r15_Graph_point (colL [qc0, qc0_1] col) _ 440 441 (by decide) (by decide) g0 p0_g a0_2 cap0_2 p1_a h0_2 hb0 r_1 hr_2) ?_
  rintro _ w_3 ⟨rfl, hg_4⟩
  refine ⟨_, rfl, ?_⟩
  replace hg_4 : Grow (colL [qc0, qc0_1] col) w0 (colL [qc0, qc0_1] col) w_3 := .of_below hg_4
  replace h0_2 := h0_2.gr hg_4
  replace hb0 := hb0.gr hg_4
  replace hst := hst.grow hg_4
  refine lv (v := (.bool r_1)) rfl rfl (r_assign rfl) ?_
  refine lnil ?_
  refine wseq ?_
  refine wseq ?_
  refine wregion ?_
  refine lv (v := (.bool r_1)) rfl rfl (r_move rfl) ?_
  refine lv (v := (.bool (!r_1))) rfl rfl (r_not r_1 rfl) ?_
  refine lnil ?_
  refine wcond (!r_1) rfl (fun hb => ?_) (fun hb => ?_)
  · rw [if_pos hb] at hm
    clear hb
    refine wseq ?_
    refine wregion ?_
    refine lv (v := (.slice none (([] : List Int).length) 0)) rfl rfl (r_assign rfl) ?_
    refine lv (v := (.slice none (([] : List (Int × Int)).length) 0)) rfl rfl (r_assign rfl) ?_
    refine lnil ?_
    refine wret ?_
    cases hm
    exact ⟨rfl, colFL w0.heap.size [qc0, qc0_1] col (colL [qc0, qc0_1] col) (fun n => bif Nat.beq n 441 then qc0_1 else bif Nat.beq n 440 then qc0 else 0), none, 0, none, 0, a0_2, cap0_2, rfl, hst.finL rfl (fun n => bif Nat.beq n 441 then qc0_1 else bif Nat.beq n 440 then qc0 else 0), Own.nil, Own.nil, hst.finOwnL (g := (fun n => bif Nat.beq n 441 then qc0_1 else bif Nat.beq n 440 then qc0 else 0)) rfl h0_2 (by decide) (by decide) rfl, hst.finBoxL (g := (fun n => bif Nat.beq n 441 then qc0_1 else bif Nat.beq n 440 then qc0 else 0)) hb0 (by decide) (by decide) rfl⟩
  · rw [if_neg (by rw [hb]; decide)] at hm
    clear hb
    refine wskip ?_
    refine wseq ?_
    refine wregion ?_
    refine lv (v := (.pointer (some ⟨g0, 0, none⟩))) rfl rfl (r_move rfl) ?_
    refine lv (v := (.int .i64 p1_a)) rfl rfl (r_move rfl) ?_
    obtain ⟨r_5, hr_6, hm⟩ := bind_some hm
    refine lc rfl rfl (r_call2 Try.call106 rfl rfl) (c_r15_Graph_wanting N 1 (colL [qc0, qc0_1] col) _ 440 441 (by decide) (by decide) g0 p0_g a0_2 cap0_2 p1_a h0_2 hb0 r_5 hr_6) ?_
    rintro _ w_10 ⟨col_12, ra_7, rc_8, rfl, hg_11, rh_9⟩
    refine ⟨_, rfl, ?_⟩
    replace h0_2 := h0_2.gr hg_11
    replace hb0 := hb0.gr hg_11
    replace hst := hst.grow hg_11
    refine lv (v := (.slice ra_7 r_5.length rc_8)) rfl rfl (r_assign rfl) ?_
    refine lnil ?_
    refine wseq ?_
    refine wregion ?_
    refine lv (v := (.pointer (some ⟨g0, 0, none⟩))) rfl rfl (r_move rfl) ?_
    refine lv (v := (.int .i64 p1_a)) rfl rfl (r_move rfl) ?_
    obtain ⟨r_13, hr_14, hm⟩ := bind_some hm
    refine lc rfl rfl (r_call2 Try.call74 rfl rfl) (c_r15_Graph_Near N 2 col_12 _ 440 441 (by decide) (by decide) g0 p0_g a0_2 cap0_2 p1_a h0_2 hb0 r_13 hr_14) ?_
    rintro _ w_18 ⟨col_20, ra_15, rc_16, rfl, hg_19, rh_17⟩
    refine ⟨_, rfl, ?_⟩
    replace h0_2 := h0_2.gr hg_19
    replace rh_9 := rh_9.gr hg_19
    replace hb0 := hb0.gr hg_19
    replace hst := hst.grow hg_19
    refine lv (v := (.slice ra_15 r_13.length rc_16)) rfl rfl (r_assign rfl) ?_
    refine lnil ?_
    refine wseq ?_
    refine wregion ?_
    refine lv (v := (.slice none (([] : List Int).length) 0)) rfl rfl (r_assign rfl) ?_
    refine lnil ?_
    refine wseq ?_
    refine wseq ?_
    refine wregion ?_
    refine lv (v := (.int .i64 0)) rfl rfl (r_assign rfl) ?_
    refine lnil ?_
    refine wblock ?_
    refine wloop (fun n f w_22 => ∃ (col_23 : Col) (b_24 : Int) (a_26 : Option Addr) (cap_27 : Nat) (clique_25 : List Int) (n_21 : Nat), n_21 = n ∧ m_r15_Graph_Remove_L1 N p0_g p1_a r_5 r_13 n_21 b_24 clique_25 = some r ∧ St w0 (colL [qc0, qc0_1] col) col_23 w_22 ∧ Own (Rep.row 4 Rep.bool) 26 441 col_23 w_22 a0_2 cap0_2 p0_g ∧ Box 102 440 col_23 w_22 g0 #[(.slice a0_2 p0_g.length cap0_2)] ∧ Own (Rep.pair (Rep.int .i64) (Rep.int .i64)) 47 1 col_23 w_22 ra_7 rc_8 r_5 ∧ Own (Rep.int .i64) 3 2 col_23 w_22 ra_15 rc_16 r_13 ∧ Own (Rep.int .i64) 3 3 col_23 w_22 a_26 cap_27 clique_25 ∧ f 0 = (.pointer (some ⟨g0, 0, none⟩)) ∧ f 1 = (.int .i64 p1_a) ∧ f 10 = (.int .i64 b_24) ∧ f 7 = (.slice ra_7 r_5.length rc_8) ∧ f 8 = (.slice ra_15 r_13.length rc_16) ∧ f 9 = (.slice a_26 clique_25.length cap_27) ∧ f 1000000 = (enc [])) N ⟨col_20, 0, none, 0, ([] : List Int), N, rfl, hm, hst, h0_2, hb0, rh_9, rh_17, Own.nil, rfl, rfl, rfl, rfl, rfl, rfl, rfl⟩ ?_
    clear hm; intro n f w_22 hI
    obtain ⟨col_23, b_24, a_26, cap_27, clique_25, n_21, hn, hm, hst, h0_2, hb0, rh_9, rh_17, h_28, hs0, hs1, hs10, hs7, hs8, hs9, hs1000000⟩ := hI
    subst hn
    refine .ld (d := 0) (v := (.pointer (some ⟨g0, 0, none⟩))) hs0 ?_
    refine .ld (d := 1) (v := (.int .i64 p1_a)) hs1 ?_
    refine .ld (d := 10) (v := (.int .i64 b_24)) hs10 ?_
    refine .ld (d := 7) (v := (.slice ra_7 r_5.length rc_8)) hs7 ?_
    refine .ld (d := 8) (v := (.slice ra_15 r_13.length rc_16)) hs8 ?_
    refine .ld (d := 9) (v := (.slice a_26 clique_25.length cap_27)) hs9 ?_
    refine .ld (d := 1000000) (v := (enc [])) hs1000000 ?_
    clear hs0 hs1 hs10 hs7 hs8 hs9 hs1000000
    cases n_21 with
    | zero => rw [m_r15_Graph_Remove_L1.eq_1] at hm; cases hm
    | succ n_21 =>
      rw [m_r15_Graph_Remove_L1.eq_2] at hm
      refine wseq ?_
      refine wseq ?_
      refine wregion ?_
      refine lv (v := (.int .i64 b_24)) rfl rfl (r_move rfl) ?_
      refine lv (v := (.pointer (some ⟨g0, 0, none⟩))) rfl rfl (r_move rfl) ?_
      refine lv (v := (.pointer (some ⟨g0, 0, none⟩))) rfl rfl (r_nilCheck rfl) ?_
      refine lv (v := (.pointer ((some (⟨g0, 0, none⟩ : Addr)).map (·.add 0)))) rfl rfl (r_fieldAddr (sz := 1) (off := 0) Try.underlying102 rfl Try.sizeOf100 (by decide) rfl rfl ⟨_, _, rfl⟩) ?_
      refine lv (v := (.slice a0_2 p0_g.length cap0_2)) rfl rfl (r_ld Try.isAgg100 rfl ((hb0.atN).nth (q := 0) (v := (.slice a0_2 p0_g.length cap0_2)) rfl)) ?_
      refine lv (v := (.int .i64 (p0_g.length : Int))) rfl rfl (r_len Try.underlying100 rfl) ?_
      refine lv (v := (.bool (decide (b_24 < (p0_g.length : Int))))) rfl rfl (r_lss b_24 (p0_g.length : Int) rfl rfl) ?_
      refine lnil ?_
      refine wcond (decide (b_24 < (p0_g.length : Int))) rfl (fun hb => ?_) (fun hb => ?_)
      · rw [if_pos hb] at hm
        clear hb
        refine wskip ?_
        refine wseq ?_
        refine Wp.cut (fun f w_29 => ∃ (col_30 : Col) (a_32 : Option Addr) (cap_33 : Nat) (clique_31 : List Int), m_r15_Graph_Remove_J1 b_24 (m_r15_Graph_Remove_L1 N p0_g p1_a r_5 r_13 n_21) clique_31 = some r ∧ St w0 (colL [qc0, qc0_1] col) col_30 w_29 ∧ Own (Rep.row 4 Rep.bool) 26 441 col_30 w_29 a0_2 cap0_2 p0_g ∧ Box 102 440 col_30 w_29 g0 #[(.slice a0_2 p0_g.length cap0_2)] ∧ Own (Rep.pair (Rep.int .i64) (Rep.int .i64)) 47 1 col_30 w_29 ra_7 rc_8 r_5 ∧ Own (Rep.int .i64) 3 2 col_30 w_29 ra_15 rc_16 r_13 ∧ Own (Rep.int .i64) 3 3 col_30 w_29 a_32 cap_33 clique_31 ∧ f 0 = (.pointer (some ⟨g0, 0, none⟩)) ∧ f 1 = (.int .i64 p1_a) ∧ f 10 = (.int .i64 b_24) ∧ f 7 = (.slice ra_7 r_5.length rc_8) ∧ f 8 = (.slice ra_15 r_13.length rc_16) ∧ f 9 = (.slice a_32 clique_31.length cap_33) ∧ f 1000000 = (enc [])) ?_ ?_
        · intro f w_29 hJ
          obtain ⟨col_30, a_32, cap_33, clique_31, hm, hst, h0_2, hb0, rh_9, rh_17, h_34, hs0, hs1, hs10, hs7, hs8, hs9, hs1000000⟩ := hJ
          rw [m_r15_Graph_Remove_J1.eq_1] at hm
          refine .ld (d := 0) (v := (.pointer (some ⟨g0, 0, none⟩))) hs0 ?_
          refine .ld (d := 1) (v := (.int .i64 p1_a)) hs1 ?_
          refine .ld (d := 10) (v := (.int .i64 b_24)) hs10 ?_
          refine .ld (d := 7) (v := (.slice ra_7 r_5.length rc_8)) hs7 ?_
          refine .ld (d := 8) (v := (.slice ra_15 r_13.length rc_16)) hs8 ?_
          refine .ld (d := 9) (v := (.slice a_32 clique_31.length cap_33)) hs9 ?_
          refine .ld (d := 1000000) (v := (enc [])) hs1000000 ?_
          clear hs0 hs1 hs10 hs7 hs8 hs9 hs1000000
          refine wregion ?_
          refine lv (v := (.int .i64 b_24)) rfl rfl (r_move rfl) ?_
          refine lv (v := (.int .i64 (IntKind.i64.wrap (b_24 + 1)))) rfl rfl (r_add b_24 1 rfl rfl) ?_
          refine lv (v := (.int .i64 (IntKind.i64.wrap (b_24 + 1)))) rfl rfl (r_assign rfl) ?_
          refine lnil ?_
          exact ⟨n_21, by omega, ⟨col_30, (IntKind.i64.wrap (b_24 + 1)), a_32, cap_33, clique_31, n_21, rfl, hm, hst, h0_2, hb0, rh_9, rh_17, h_34, rfl, rfl, rfl, rfl, rfl, rfl, rfl⟩⟩
        · refine wblock ?_
          refine wseq ?_
          refine wregion ?_
          refine lv (v := (.slice ra_15 r_13.length rc_16)) rfl rfl (r_move rfl) ?_
          refine lv (v := (.int .i64 b_24)) rfl rfl (r_move rfl) ?_
          obtain ⟨r_35, hr_36, hm⟩ := bind_some hm
          refine lc rfl rfl (r_call2 Try.call107 rfl rfl) (c_r15_in N (frC 2 col_23) _ ra_15 rc_16 r_13 b_24 (rh_17.toSlF (Froz.int .i64)) r_35 hr_36) ?_
          rintro _ w_37 ⟨rfl, hg_38⟩
          refine ⟨_, rfl, ?_⟩
          replace hg_38 : Grow col_23 w_22 col_23 w_37 := .of_below hg_38
          replace h0_2 := h0_2.gr hg_38
          replace rh_9 := rh_9.gr hg_38
          replace rh_17 := rh_17.gr hg_38
          replace h_28 := h_28.gr hg_38
          replace hb0 := hb0.gr hg_38
          replace hst := hst.grow hg_38
          refine lv (v := (.bool r_35)) rfl rfl (r_assign rfl) ?_
          refine lnil ?_
          refine wseq ?_
          refine Wp.cut (fun f w_40 => ∃ (col_41 : Col) (v_42 : Bool), m_r15_Graph_Remove_J2 b_24 clique_25 (m_r15_Graph_Remove_L1 N p0_g p1_a r_5 r_13 n_21) v_42 = some r ∧ St w0 (colL [qc0, qc0_1] col) col_41 w_40 ∧ Own (Rep.row 4 Rep.bool) 26 441 col_41 w_40 a0_2 cap0_2 p0_g ∧ Box 102 440 col_41 w_40 g0 #[(.slice a0_2 p0_g.length cap0_2)] ∧ Own (Rep.pair (Rep.int .i64) (Rep.int .i64)) 47 1 col_41 w_40 ra_7 rc_8 r_5 ∧ Own (Rep.int .i64) 3 2 col_41 w_40 ra_15 rc_16 r_13 ∧ Own (Rep.int .i64) 3 3 col_41 w_40 a_26 cap_27 clique_25 ∧ f 0 = (.pointer (some ⟨g0, 0, none⟩)) ∧ f 1 = (.int .i64 p1_a) ∧ f 10 = (.int .i64 b_24) ∧ f 42 = (.bool v_42) ∧ f 7 = (.slice ra_7 r_5.length rc_8) ∧ f 8 = (.slice ra_15 r_13.length rc_16) ∧ f 9 = (.slice a_26 clique_25.length cap_27) ∧ f 1000000 = (enc [])) ?_ ?_
          · intro f w_40 hJ
            obtain ⟨col_41, v_42, hm, hst, h0_2, hb0, rh_9, rh_17, h_28, hs0, hs1, hs10, hs42, hs7, hs8, hs9, hs1000000⟩ := hJ
            rw [m_r15_Graph_Remove_J2.eq_1] at hm
            refine .ld (d := 0) (v := (.pointer (some ⟨g0, 0, none⟩))) hs0 ?_
            refine .ld (d := 1) (v := (.int .i64 p1_a)) hs1 ?_
            refine .ld (d := 10) (v := (.int .i64 b_24)) hs10 ?_
            refine .ld (d := 42) (v := (.bool v_42)) hs42 ?_
            refine .ld (d := 7) (v := (.slice ra_7 r_5.length rc_8)) hs7 ?_
            refine .ld (d := 8) (v := (.slice ra_15 r_13.length rc_16)) hs8 ?_
            refine .ld (d := 9) (v := (.slice a_26 clique_25.length cap_27)) hs9 ?_
            refine .ld (d := 1000000) (v := (enc [])) hs1000000 ?_
            clear hs0 hs1 hs10 hs42 hs7 hs8 hs9 hs1000000
            refine wcond (v_42) rfl (fun hb => ?_) (fun hb => ?_)
            · rw [if_pos hb] at hm
              clear hb
              refine wregion ?_
              refine lv (v := (.slice a_26 clique_25.length cap_27)) rfl rfl (r_move rfl) ?_
              refine lv (v := (.int .i64 b_24)) rfl rfl (r_move rfl) ?_
              refine l_lit (col := col_41) (r := (Rep.int .i64)) (xs := [b_24]) [(.int .i64 b_24)] 4 rfl Try.underlying22 el3_79 rfl rfl rfl rfl rfl rfl (by intro v hv; simp only [List.mem_cons, List.not_mem_nil, or_false] at hv; subst hv; rfl) (RowsH.ofF (Rows.consF (r := (Rep.int .i64)) (x := b_24) (cs := [(.int .i64 b_24)]) (rd_int .i64 b_24) Rows.nil0)) ?_
              intro a_43 w_44 col_45 hg_46 h_47
              replace h0_2 := h0_2.gr hg_46
              replace rh_9 := rh_9.gr hg_46
              replace rh_17 := rh_17.gr hg_46
              replace h_28 := h_28.gr hg_46
              replace hb0 := hb0.gr hg_46
              replace hst := hst.grow hg_46
              obtain ⟨hb_48, hm⟩ := chk_some hm
              refine l_appendM (col := col_45) (w := w_44) (r := (Rep.int .i64)) (c := 3) (c2 := 3) (xs := clique_25) (ys := [b_24]) h_28 (h_47.srcN (NB.int (k := .i64))) rfl Try.underlying22 el3_79 rfl rfl rfl hb_48.1 hb_48.2 (by decide) ?_
              intro a_49 cap_50 w_51 col_52 hk_53 h_54
              replace h0_2 := h0_2.kpp hk_53 rfl rfl
              replace rh_9 := rh_9.kpp hk_53 rfl rfl
              replace rh_17 := rh_17.kpp hk_53 rfl rfl
              replace h_47 := h_47.kpp hk_53 rfl rfl
              replace hb0 := hb0.kpp hk_53 rfl
              replace hst := hst.kpp hk_53 rfl rfl
              clear h_28
              refine lv (v := (.slice a_49 ((clique_25 ++ [b_24]).length) cap_50)) rfl rfl (r_assign rfl) ?_
              refine lnil ?_
              exact ⟨col_52, a_49, cap_50, (clique_25 ++ [b_24]), hm, hst, h0_2, hb0, rh_9, rh_17, h_54, rfl, rfl, rfl, rfl, rfl, rfl, rfl⟩
            · rw [if_neg (by rw [hb]; decide)] at hm
              clear hb
              refine wskip ?_
              exact ⟨col_41, a_26, cap_27, clique_25, hm, hst, h0_2, hb0, rh_9, rh_17, h_28, rfl, rfl, rfl, rfl, rfl, rfl, rfl⟩
          · refine wregion ?_
            refine lv (v := (.bool r_35)) rfl rfl (r_move rfl) ?_
            refine lv (v := (.bool r_35)) rfl rfl (r_move rfl) ?_
            by_cases hg_55 : r_35 = true
            · rw [if_pos hg_55] at hm
              refine lp (b := r_35) 38 rfl rfl rfl rfl (by rw [hg_55]; rfl) ?_
              refine lp (b := r_35) 38 rfl rfl rfl rfl (by rw [hg_55]; rfl) ?_
              refine lp (b := r_35) 38 rfl rfl rfl rfl (by rw [hg_55]; rfl) ?_
              refine lv (v := (.bool true)) rfl rfl (r_pickT (congrArg Value.bool hg_55) rfl) ?_
              refine lnil ?_
              exact ⟨col_23, true, hm, hst, h0_2, hb0, rh_9, rh_17, h_28, rfl, rfl, rfl, rfl, rfl, rfl, rfl, rfl⟩
            · rw [if_neg hg_55] at hm
              replace hg_55 := Bool.eq_false_iff.2 hg_55
              refine lg (b := r_35) 38 rfl rfl rfl (by rw [hg_55]; rfl) ?_
              refine lv (v := (.int .i64 b_24)) rfl rfl (r_move rfl) ?_
              refine lg (b := r_35) 38 rfl rfl rfl (by rw [hg_55]; rfl) ?_
              refine lv (v := (.int .i64 p1_a)) rfl rfl (r_move rfl) ?_
              refine lg (b := r_35) 38 rfl rfl rfl (by rw [hg_55]; rfl) ?_
              refine lv (v := (.bool (decide (b_24 = p1_a)))) rfl rfl (r_eql b_24 p1_a rfl rfl) ?_
              refine lv (v := (.bool (decide (b_24 = p1_a)))) rfl rfl (r_pickF (congrArg Value.bool hg_55) rfl) ?_
              refine lnil ?_
              exact ⟨col_23, (decide (b_24 = p1_a)), hm, hst, h0_2, hb0, rh_9, rh_17, h_28, rfl, rfl, rfl, rfl, rfl, rfl, rfl, rfl⟩
      · rw [if_neg (by rw [hb]; decide)] at hm
        clear hb
        refine wexit (inB_hit ?_)
        refine wseq ?_
        refine wseq ?_
        refine wregion ?_
        refine lv (v := (.int .i64 0)) rfl rfl (r_assign rfl) ?_
        refine lnil ?_
        refine wblock ?_
        refine wloop (fun n f w_57 => ∃ (col_58 : Col) (a_60 : Option Addr) (cap_61 : Nat) (g_59 : List (List Bool)) (i_63 : Int) (n_56 : Nat), n_56 = n ∧ m_r15_Graph_Remove_L2 N p1_a r_5 r_13 clique_25 n_56 g_59 i_63 = some r ∧ St w0 (colL [qc0, qc0_1] col) col_58 w_57 ∧ Own (Rep.row 4 Rep.bool) 26 441 col_58 w_57 a_60 cap_61 g_59 ∧ Box 102 440 col_58 w_57 g0 #[(.slice a_60 g_59.length cap_61)] ∧ Own (Rep.pair (Rep.int .i64) (Rep.int .i64)) 47 1 col_58 w_57 ra_7 rc_8 r_5 ∧ Own (Rep.int .i64) 3 2 col_58 w_57 ra_15 rc_16 r_13 ∧ Own (Rep.int .i64) 3 3 col_58 w_57 a_26 cap_27 clique_25 ∧ f 0 = (.pointer (some ⟨g0, 0, none⟩)) ∧ f 1 = (.int .i64 p1_a) ∧ f 12 = (.int .i64 i_63) ∧ f 7 = (.slice ra_7 r_5.length rc_8) ∧ f 8 = (.slice ra_15 r_13.length rc_16) ∧ f 9 = (.slice a_26 clique_25.length cap_27) ∧ f 1000000 = (enc [])) N ⟨col_23, a0_2, cap0_2, p0_g, 0, N, rfl, hm, hst, h0_2, hb0, rh_9, rh_17, h_28, rfl, rfl, rfl, rfl, rfl, rfl, rfl⟩ ?_
        clear hm; intro n f w_57 hI
        obtain ⟨col_58, a_60, cap_61, g_59, i_63, n_56, hn, hm, hst, h_62, hb0, rh_9, rh_17, h_28, hs0, hs1, hs12, hs7, hs8, hs9, hs1000000⟩ := hI
        subst hn
        refine .ld (d := 0) (v := (.pointer (some ⟨g0, 0, none⟩))) hs0 ?_
        refine .ld (d := 1) (v := (.int .i64 p1_a)) hs1 ?_
        refine .ld (d := 12) (v := (.int .i64 i_63)) hs12 ?_
        refine .ld (d := 7) (v := (.slice ra_7 r_5.length rc_8)) hs7 ?_
        refine .ld (d := 8) (v := (.slice ra_15 r_13.length rc_16)) hs8 ?_
        refine .ld (d := 9) (v := (.slice a_26 clique_25.length cap_27)) hs9 ?_
        refine .ld (d := 1000000) (v := (enc [])) hs1000000 ?_
        clear hs0 hs1 hs12 hs7 hs8 hs9 hs1000000
        cases n_56 with
        | zero => rw [m_r15_Graph_Remove_L2.eq_1] at hm; cases hm
        | succ n_56 =>
          rw [m_r15_Graph_Remove_L2.eq_2] at hm
          refine wseq ?_
          refine wseq ?_
          refine wregion ?_
          refine lv (v := (.int .i64 i_63)) rfl rfl (r_move rfl) ?_
          refine lv (v := (.slice ra_7 r_5.length rc_8)) rfl rfl (r_move rfl) ?_
          refine lv (v := (.int .i64 (r_5.length : Int))) rfl rfl (r_len Try.underlying29 rfl) ?_
          refine lv (v := (.bool (decide (i_63 < (r_5.length : Int))))) rfl rfl (r_lss i_63 (r_5.length : Int) rfl rfl) ?_
          refine lnil ?_
          refine wcond (decide (i_63 < (r_5.length : Int))) rfl (fun hb => ?_) (fun hb => ?_)
          · rw [if_pos hb] at hm
            clear hb
            refine wskip ?_
            refine wseq ?_
            refine wblock ?_
            refine wmix (col := col_58) [(0, 1), (1, 1), (2, 1), (3, 1), (4, 1), (5, 0), (6, 1), (7, 1), (8, 1), (9, 1), (10, 0), (11, 2)] (by kernel_rfl) (by kernel_rfl) ?_
            refine xu (v := (.pointer (some ⟨g0, 0, none⟩))) rfl rfl (fun _ => r_move rfl) ?_
            refine xu (v := (.slice ra_7 r_5.length rc_8)) rfl rfl (fun _ => r_move rfl) ?_
            refine xu (v := (.int .i64 i_63)) rfl rfl (fun _ => r_move rfl) ?_
            obtain ⟨e_64, hj_65, hm⟩ := bind_some hm
            refine xu (v := (sptr ra_7 (Int.toNat i_63 * 2))) rfl rfl (fun _ => r_idx Try.underlying29 Try.sizeOf47 rfl rfl (at?_some hj_65).1 (at?_some hj_65).2.1 (rh_9.addr hj_65)) ?_
            refine xu (v := (.pointer ((ra_7.map (·.add (Int.toNat i_63 * 2))).map (·.add 0)))) rfl rfl (fun _ => r_fieldAddr (sz := 1) (off := 0) Try.underlying47 rfl Try.sizeOf3 (by decide) rfl rfl (sptr_addr (rh_9.addr hj_65))) ?_
            obtain ⟨_, hr_66, hA_67⟩ := rh_9.atN hj_65
            obtain ⟨_, _, rfl, hp_68, hp_69⟩ := hr_66.parts
            obtain rfl := hp_68.int
            obtain rfl := hp_69.int
            refine xv (v := (.int .i64 e_64.1)) rfl rfl (fun _ hC => r_ld Try.isAgg3 rfl (((hA_67).nth (q := 0) (v := (.int .i64 e_64.1)) rfl).gr (Grow.of_below (col := col_58) hC.below))) ?_
            refine xu (v := (.slice ra_7 r_5.length rc_8)) rfl rfl (fun _ => r_move rfl) ?_
            refine xu (v := (.int .i64 i_63)) rfl rfl (fun _ => r_move rfl) ?_
            refine xu (v := (sptr ra_7 (Int.toNat i_63 * 2))) rfl rfl (fun _ => r_idx Try.underlying29 Try.sizeOf47 rfl rfl (at?_some hj_65).1 (at?_some hj_65).2.1 (rh_9.addr hj_65)) ?_
            refine xu (v := (.pointer ((ra_7.map (·.add (Int.toNat i_63 * 2))).map (·.add 1)))) rfl rfl (fun _ => r_fieldAddr (sz := 1) (off := 1) Try.underlying47 rfl Try.sizeOf3 (by decide) rfl rfl (sptr_addr (rh_9.addr hj_65))) ?_
            obtain ⟨_, hr_70, hA_71⟩ := rh_9.atN hj_65
            obtain ⟨_, _, rfl, hp_72, hp_73⟩ := hr_70.parts
            obtain rfl := hp_72.int
            obtain rfl := hp_73.int
            refine xv (v := (.int .i64 e_64.2)) rfl rfl (fun _ hC => r_ld Try.isAgg3 rfl (((hA_71).nth (q := 1) (v := (.int .i64 e_64.2)) rfl).gr (Grow.of_below (col := col_58) hC.below))) ?_
            refine xe rfl rfl ?_
            intro w_74 hC0
            have hC : Grow col_58 w_57 col_58 w_74 := .of_below hC0.below
            replace h_62 := h_62.gr hC
            replace rh_9 := rh_9.gr hC
            replace rh_17 := rh_17.gr hC
            replace h_28 := h_28.gr hC
            replace hb0 := hb0.gr hC
            replace hst := hst.grow hC
            obtain ⟨r_75, hr_76, hm⟩ := bind_some hm
            refine lc rfl rfl (r_call3 Try.call65 rfl rfl rfl) (c_r15_Graph_Join col_58 _ 440 441 rfl g0 g_59 a_60 cap_61 e_64.1 e_64.2 h_62 hb0 r_75 hr_76) ?_
            rintro _ w_81 ⟨col_83, oa_77, oc_78, rfl, hg_82, oh_79, ohb_80⟩
            refine ⟨_, rfl, ?_⟩
            replace rh_9 := rh_9.kpp hg_82 rfl rfl
            replace rh_17 := rh_17.kpp hg_82 rfl rfl
            replace h_28 := h_28.kpp hg_82 rfl rfl
            replace hst := hst.kpp hg_82 rfl rfl
            clear h_62
            clear hb0
            refine lnil ⟨fun w' => Grow col_83 w_81 col_83 w', Grow.refl _ _, fun h => absurd h (by decide), ?_⟩
            refine xnil ?_
            intro w_84 hC
            replace hC : Grow col_83 w_81 col_83 w_84 := .of_below hC.below
            replace oh_79 := oh_79.gr hC
            replace rh_9 := rh_9.gr hC
            replace rh_17 := rh_17.gr hC
            replace h_28 := h_28.gr hC
            replace ohb_80 := ohb_80.gr hC
            replace hst := hst.grow hC
            refine wregion ?_
            refine lv (v := (.int .i64 i_63)) rfl rfl (r_move rfl) ?_
            refine lv (v := (.int .i64 (IntKind.i64.wrap (i_63 + 1)))) rfl rfl (r_add i_63 1 rfl rfl) ?_
            refine lv (v := (.int .i64 (IntKind.i64.wrap (i_63 + 1)))) rfl rfl (r_assign rfl) ?_
            refine lnil ?_
            exact ⟨n_56, by omega, ⟨col_83, oa_77, oc_78, r_75.2, (IntKind.i64.wrap (i_63 + 1)), n_56, rfl, hm, hst, oh_79, ohb_80, rh_9, rh_17, h_28, rfl, rfl, rfl, rfl, rfl, rfl, rfl⟩⟩
          · rw [if_neg (by rw [hb]; decide)] at hm
            clear hb
            refine wexit (inB_hit ?_)
            refine wseq ?_
            refine wseq ?_
            refine wregion ?_
            refine lv (v := (.int .i64 0)) rfl rfl (r_assign rfl) ?_
            refine lnil ?_
            refine wblock ?_
            refine wloop (fun n f w_86 => ∃ (col_87 : Col) (a_89 : Option Addr) (cap_90 : Nat) (g_88 : List (List Bool)) (i_92 : Int) (n_85 : Nat), n_85 = n ∧ m_r15_Graph_Remove_L3 N p1_a r_5 r_13 clique_25 n_85 g_88 i_92 = some r ∧ St w0 (colL [qc0, qc0_1] col) col_87 w_86 ∧ Own (Rep.row 4 Rep.bool) 26 441 col_87 w_86 a_89 cap_90 g_88 ∧ Box 102 440 col_87 w_86 g0 #[(.slice a_89 g_88.length cap_90)] ∧ Own (Rep.pair (Rep.int .i64) (Rep.int .i64)) 47 1 col_87 w_86 ra_7 rc_8 r_5 ∧ Own (Rep.int .i64) 3 2 col_87 w_86 ra_15 rc_16 r_13 ∧ Own (Rep.int .i64) 3 3 col_87 w_86 a_26 cap_27 clique_25 ∧ f 0 = (.pointer (some ⟨g0, 0, none⟩)) ∧ f 1 = (.int .i64 p1_a) ∧ f 13 = (.int .i64 i_92) ∧ f 7 = (.slice ra_7 r_5.length rc_8) ∧ f 8 = (.slice ra_15 r_13.length rc_16) ∧ f 9 = (.slice a_26 clique_25.length cap_27) ∧ f 1000000 = (enc [])) N ⟨col_58, a_60, cap_61, g_59, 0, N, rfl, hm, hst, h_62, hb0, rh_9, rh_17, h_28, rfl, rfl, rfl, rfl, rfl, rfl, rfl⟩ ?_
            clear hm; intro n f w_86 hI
            obtain ⟨col_87, a_89, cap_90, g_88, i_92, n_85, hn, hm, hst, h_91, hb0, rh_9, rh_17, h_28, hs0, hs1, hs13, hs7, hs8, hs9, hs1000000⟩ := hI
            subst hn
            refine .ld (d := 0) (v := (.pointer (some ⟨g0, 0, none⟩))) hs0 ?_
            refine .ld (d := 1) (v := (.int .i64 p1_a)) hs1 ?_
            refine .ld (d := 13) (v := (.int .i64 i_92)) hs13 ?_
            refine .ld (d := 7) (v := (.slice ra_7 r_5.length rc_8)) hs7 ?_
            refine .ld (d := 8) (v := (.slice ra_15 r_13.length rc_16)) hs8 ?_
            refine .ld (d := 9) (v := (.slice a_26 clique_25.length cap_27)) hs9 ?_
            refine .ld (d := 1000000) (v := (enc [])) hs1000000 ?_
            clear hs0 hs1 hs13 hs7 hs8 hs9 hs1000000
            cases n_85 with
            | zero => rw [m_r15_Graph_Remove_L3.eq_1] at hm; cases hm
            | succ n_85 =>
              rw [m_r15_Graph_Remove_L3.eq_2] at hm
              refine wseq ?_
              refine wseq ?_
              refine wregion ?_
              refine lv (v := (.int .i64 i_92)) rfl rfl (r_move rfl) ?_
              refine lv (v := (.slice ra_15 r_13.length rc_16)) rfl rfl (r_move rfl) ?_
              refine lv (v := (.int .i64 (r_13.length : Int))) rfl rfl (r_len Try.underlying22 rfl) ?_
              refine lv (v := (.bool (decide (i_92 < (r_13.length : Int))))) rfl rfl (r_lss i_92 (r_13.length : Int) rfl rfl) ?_
              refine lnil ?_
              refine wcond (decide (i_92 < (r_13.length : Int))) rfl (fun hb => ?_) (fun hb => ?_)
              · rw [if_pos hb] at hm
                clear hb
                refine wskip ?_
                refine wseq ?_
                refine wblock ?_
                refine wseq ?_
                refine wmix (col := col_87) [(0, 1), (1, 1), (2, 1), (3, 0), (4, 1), (5, 1), (6, 0), (7, 1), (8, 1), (9, 1), (10, 0), (11, 1), (12, 2)] (by kernel_rfl) (by kernel_rfl) ?_
                refine xu (v := (.pointer (some ⟨g0, 0, none⟩))) rfl rfl (fun _ => r_move rfl) ?_
                refine xu (v := (.pointer (some ⟨g0, 0, none⟩))) rfl rfl (fun _ => r_nilCheck rfl) ?_
                refine xu (v := (.pointer ((some (⟨g0, 0, none⟩ : Addr)).map (·.add 0)))) rfl rfl (fun _ => r_fieldAddr (sz := 1) (off := 0) Try.underlying102 rfl Try.sizeOf100 (by decide) rfl rfl ⟨_, _, rfl⟩) ?_
                refine xv (v := (.slice a_89 g_88.length cap_90)) rfl rfl (fun _ hC => r_ld Try.isAgg100 rfl (((hb0.atN).nth (q := 0) (v := (.slice a_89 g_88.length cap_90)) rfl).gr (Grow.of_below (col := col_87) hC.below))) ?_
                refine xu (v := (.int .i64 p1_a)) rfl rfl (fun _ => r_move rfl) ?_
                obtain ⟨e_93, hj_94, hm⟩ := bind_some hm
                refine xu (v := (sptr a_89 (Int.toNat p1_a * 1))) rfl rfl (fun _ => r_idx Try.underlying100 Try.sizeOf26 rfl rfl (at?_some hj_94).1 (at?_some hj_94).2.1 (h_91.addr hj_94)) ?_
                obtain ⟨_, col_98, hk_96, hH_97, hs_95⟩ := h_91.open_ 5 (by decide) hj_94
                replace rh_9 := rh_9.kpp hk_96 rfl rfl
                replace rh_17 := rh_17.kpp hk_96 rfl rfl
                replace h_28 := h_28.kpp hk_96 rfl rfl
                replace hb0 := hb0.kpp hk_96 rfl
                replace hst := hst.kpp hk_96 rfl rfl
                obtain ⟨a_99, cap_100, rfl, h_101⟩ := hs_95.row
                clear h_91
                replace hH_97 : Hole (Rep.row 4 Rep.bool) 26 441 col_98 w_86 a_89 cap_90 g_88 (Int.toNat p1_a) [(.slice a_99 e_93.length cap_100)] := hH_97
                refine xv (v := (.slice a_99 e_93.length cap_100)) rfl rfl (fun _ hC => r_ld Try.isAgg26 rfl (hH_97.atN.one.gr (Grow.of_below (col := col_98) hC.below))) ?_
                refine xu (v := (.slice ra_15 r_13.length rc_16)) rfl rfl (fun _ => r_move rfl) ?_
                refine xu (v := (.int .i64 i_92)) rfl rfl (fun _ => r_move rfl) ?_
                obtain ⟨e_102, hj_103, hm⟩ := bind_some hm
                refine xu (v := (sptr ra_15 (Int.toNat i_92 * 1))) rfl rfl (fun _ => r_idx Try.underlying22 Try.sizeOf3 rfl rfl (at?_some hj_103).1 (at?_some hj_103).2.1 (rh_17.addr hj_103)) ?_
                refine xv (v := (.int .i64 e_102)) rfl rfl (fun _ hC => r_ld Try.isAgg3 rfl ((rh_17.gr (Grow.of_below (col := col_98) hC.below)).atInt hj_103)) ?_
                obtain ⟨e_104, hj_105, hm⟩ := bind_some hm
                refine xu (v := (sptr a_99 (Int.toNat e_102 * 1))) rfl rfl (fun _ => r_idx Try.underlying26 Try.sizeOf4 rfl rfl (at?_some hj_105).1 (at?_some hj_105).2.1 (h_101.addr hj_105)) ?_
                refine xe rfl rfl ?_
                intro w_106 hC0
                have hC : Grow col_98 w_86 col_98 w_106 := .of_below hC0.below
                replace hH_97 := hH_97.gr hC
                replace h_101 := h_101.gr hC
                replace rh_9 := rh_9.gr hC
                replace rh_17 := rh_17.gr hC
                replace h_28 := h_28.gr hC
                replace hb0 := hb0.gr hC
                replace hst := hst.grow hC
                obtain ⟨xs_112, hz_111, hm⟩ := bind_some hm
                have hz_111 : xs_112 = e_93.set (Int.toNat e_102) false := (Option.some.inj hz_111).symm
                refine l_store (x1 := false) (v := (.bool false)) h_101 hj_105 rfl Try.sizeOf4 (rd_bool false) rfl rfl (by decide) ?_
                intro w_107 hk_108 hs_109 h_110
                rw [← hz_111] at h_110
                replace hH_97 := hH_97.kp hk_108 (by decide) (by decide)
                replace rh_9 := rh_9.kp hk_108 (by decide) (by decide)
                replace rh_17 := rh_17.kp hk_108 (by decide) (by decide)
                replace h_28 := h_28.kp hk_108 (by decide) (by decide)
                replace hb0 := hb0.kp hk_108 (by decide)
                replace hst := hst.kp hk_108 hs_109 (by decide) (by decide)
                replace hb0 : Box 102 440 col_98 w_107 g0 #[(.slice a_89 g_88.length cap_90)] := by rw []; exact hb0
                replace hH_97 : Hole (Rep.row 4 Rep.bool) 26 441 col_98 w_107 a_89 cap_90 g_88 (Int.toNat p1_a) [(.slice a_99 xs_112.length cap_100)] := by rw [← (show e_93.length = xs_112.length by rw [hz_111, List.length_set])]; exact hH_97
                clear h_101
                refine lnil ⟨fun w' => Grow col_98 w_107 col_98 w', Grow.refl _ _, fun h => absurd h (by decide), ?_⟩
                have h_113 := hH_97.close h_110.has (by decide) (by decide)
                replace rh_9 := rh_9.recol 5 441 (by decide)
                replace rh_17 := rh_17.recol 5 441 (by decide)
                replace h_28 := h_28.recol 5 441 (by decide)
                replace hb0 := hb0.recol 5 441 (by decide)
                replace hst := hst.recol 5 441 (by decide) (by decide)
                clear hH_97
                replace hb0 : Box 102 440 (rcC 5 441 col_98) w_107 g0 #[(.slice a_89 ((g_88.set (Int.toNat p1_a) xs_112).length) cap_90)] := by rw [← (show g_88.length = (g_88.set (Int.toNat p1_a) xs_112).length by simp only [List.length_set])]; exact hb0
                refine xnil ?_
                intro w_114 hC
                replace hC : Grow (rcC 5 441 col_98) w_107 (rcC 5 441 col_98) w_114 := .of_below hC.below
                replace h_113 := h_113.gr hC
                replace rh_9 := rh_9.gr hC
                replace rh_17 := rh_17.gr hC
                replace h_28 := h_28.gr hC
                replace hb0 := hb0.gr hC
                replace hst := hst.grow hC
                refine wmix (col := (rcC 5 441 col_98)) [(0, 1), (1, 1), (2, 1), (3, 0), (4, 1), (5, 1), (6, 1), (7, 0), (8, 1), (9, 0), (10, 1), (11, 1), (12, 2)] (by kernel_rfl) (by kernel_rfl) ?_
                refine xu (v := (.pointer (some ⟨g0, 0, none⟩))) rfl rfl (fun _ => r_move rfl) ?_
                refine xu (v := (.pointer (some ⟨g0, 0, none⟩))) rfl rfl (fun _ => r_nilCheck rfl) ?_
                refine xu (v := (.pointer ((some (⟨g0, 0, none⟩ : Addr)).map (·.add 0)))) rfl rfl (fun _ => r_fieldAddr (sz := 1) (off := 0) Try.underlying102 rfl Try.sizeOf100 (by decide) rfl rfl ⟨_, _, rfl⟩) ?_
                refine xv (v := (.slice a_89 ((g_88.set (Int.toNat p1_a) xs_112).length) cap_90)) rfl rfl (fun _ hC => r_ld Try.isAgg100 rfl (((hb0.atN).nth (q := 0) (v := (.slice a_89 ((g_88.set (Int.toNat p1_a) xs_112).length) cap_90)) rfl).gr (Grow.of_below (col := (rcC 5 441 col_98)) hC.below))) ?_
                refine xu (v := (.slice ra_15 r_13.length rc_16)) rfl rfl (fun _ => r_move rfl) ?_
                refine xu (v := (.int .i64 i_92)) rfl rfl (fun _ => r_move rfl) ?_
                refine xu (v := (sptr ra_15 (Int.toNat i_92 * 1))) rfl rfl (fun _ => r_idx Try.underlying22 Try.sizeOf3 rfl rfl (at?_some hj_103).1 (at?_some hj_103).2.1 (rh_17.addr hj_103)) ?_
                refine xv (v := (.int .i64 e_102)) rfl rfl (fun _ hC => r_ld Try.isAgg3 rfl ((rh_17.gr (Grow.of_below (col := (rcC 5 441 col_98)) hC.below)).atInt hj_103)) ?_
                obtain ⟨e_115, hj_116, hm⟩ := bind_some hm
                refine xu (v := (sptr a_89 (Int.toNat e_102 * 1))) rfl rfl (fun _ => r_idx Try.underlying100 Try.sizeOf26 rfl rfl (at?_some hj_116).1 (at?_some hj_116).2.1 (h_113.addr hj_116)) ?_
                obtain ⟨_, col_120, hk_118, hH_119, hs_117⟩ := h_113.open_ 6 (by decide) hj_116
                replace rh_9 := rh_9.kpp hk_118 rfl rfl
                replace rh_17 := rh_17.kpp hk_118 rfl rfl
                replace h_28 := h_28.kpp hk_118 rfl rfl
                replace hb0 := hb0.kpp hk_118 rfl
                replace hst := hst.kpp hk_118 rfl rfl
                obtain ⟨a_121, cap_122, rfl, h_123⟩ := hs_117.row
                clear h_113
                replace hH_119 : Hole (Rep.row 4 Rep.bool) 26 441 col_120 w_114 a_89 cap_90 (g_88.set (Int.toNat p1_a) xs_112) (Int.toNat e_102) [(.slice a_121 e_115.length cap_122)] := hH_119
                refine xv (v := (.slice a_121 e_115.length cap_122)) rfl rfl (fun _ hC => r_ld Try.isAgg26 rfl (hH_119.atN.one.gr (Grow.of_below (col := col_120) hC.below))) ?_
                refine xu (v := (.int .i64 p1_a)) rfl rfl (fun _ => r_move rfl) ?_
                obtain ⟨e_124, hj_125, hm⟩ := bind_some hm
                refine xu (v := (sptr a_121 (Int.toNat p1_a * 1))) rfl rfl (fun _ => r_idx Try.underlying26 Try.sizeOf4 rfl rfl (at?_some hj_125).1 (at?_some hj_125).2.1 (h_123.addr hj_125)) ?_
                refine xe rfl rfl ?_
                intro w_126 hC0
                have hC : Grow col_120 w_114 col_120 w_126 := .of_below hC0.below
                replace hH_119 := hH_119.gr hC
                replace h_123 := h_123.gr hC
                replace rh_9 := rh_9.gr hC
                replace rh_17 := rh_17.gr hC
                replace h_28 := h_28.gr hC
                replace hb0 := hb0.gr hC
                replace hst := hst.grow hC
                obtain ⟨xs_132, hz_131, hm⟩ := bind_some hm
                have hz_131 : xs_132 = e_115.set (Int.toNat p1_a) false := (Option.some.inj hz_131).symm
                refine l_store (x1 := false) (v := (.bool false)) h_123 hj_125 rfl Try.sizeOf4 (rd_bool false) rfl rfl (by decide) ?_
                intro w_127 hk_128 hs_129 h_130
                rw [← hz_131] at h_130
                replace hH_119 := hH_119.kp hk_128 (by decide) (by decide)
                replace rh_9 := rh_9.kp hk_128 (by decide) (by decide)
                replace rh_17 := rh_17.kp hk_128 (by decide) (by decide)
                replace h_28 := h_28.kp hk_128 (by decide) (by decide)
                replace hb0 := hb0.kp hk_128 (by decide)
                replace hst := hst.kp hk_128 hs_129 (by decide) (by decide)
                replace hb0 : Box 102 440 col_120 w_127 g0 #[(.slice a_89 ((g_88.set (Int.toNat p1_a) xs_112).length) cap_90)] := by rw []; exact hb0
                replace hH_119 : Hole (Rep.row 4 Rep.bool) 26 441 col_120 w_127 a_89 cap_90 (g_88.set (Int.toNat p1_a) xs_112) (Int.toNat e_102) [(.slice a_121 xs_132.length cap_122)] := by rw [← (show e_115.length = xs_132.length by rw [hz_131, List.length_set])]; exact hH_119
                clear h_123
                refine lnil ⟨fun w' => Grow col_120 w_127 col_120 w', Grow.refl _ _, fun h => absurd h (by decide), ?_⟩
                have h_133 := hH_119.close h_130.has (by decide) (by decide)
                replace rh_9 := rh_9.recol 6 441 (by decide)
                replace rh_17 := rh_17.recol 6 441 (by decide)
                replace h_28 := h_28.recol 6 441 (by decide)
                replace hb0 := hb0.recol 6 441 (by decide)
                replace hst := hst.recol 6 441 (by decide) (by decide)
                clear hH_119
                replace hb0 : Box 102 440 (rcC 6 441 col_120) w_127 g0 #[(.slice a_89 (((g_88.set (Int.toNat p1_a) xs_112).set (Int.toNat e_102) xs_132).length) cap_90)] := by rw [← (show (g_88.set (Int.toNat p1_a) xs_112).length = ((g_88.set (Int.toNat p1_a) xs_112).set (Int.toNat e_102) xs_132).length by simp only [List.length_set])]; exact hb0
                refine xnil ?_
                intro w_134 hC
                replace hC : Grow (rcC 6 441 col_120) w_127 (rcC 6 441 col_120) w_134 := .of_below hC.below
                replace h_133 := h_133.gr hC
                replace rh_9 := rh_9.gr hC
                replace rh_17 := rh_17.gr hC
                replace h_28 := h_28.gr hC
                replace hb0 := hb0.gr hC
                replace hst := hst.grow hC
                refine wregion ?_
                refine lv (v := (.int .i64 i_92)) rfl rfl (r_move rfl) ?_
                refine lv (v := (.int .i64 (IntKind.i64.wrap (i_92 + 1)))) rfl rfl (r_add i_92 1 rfl rfl) ?_
                refine lv (v := (.int .i64 (IntKind.i64.wrap (i_92 + 1)))) rfl rfl (r_assign rfl) ?_
                refine lnil ?_
                exact ⟨n_85, by omega, ⟨(rcC 6 441 col_120), a_89, cap_90, ((g_88.set (Int.toNat p1_a) xs_112).set (Int.toNat e_102) xs_132), (IntKind.i64.wrap (i_92 + 1)), n_85, rfl, hm, hst, h_133, hb0, rh_9, rh_17, h_28, rfl, rfl, rfl, rfl, rfl, rfl, rfl⟩⟩
              · rw [if_neg (by rw [hb]; decide)] at hm
                clear hb
                refine wexit (inB_hit ?_)
                refine wseq ?_
                refine wregion ?_
                refine lv (v := (.slice a_26 clique_25.length cap_27)) rfl rfl (r_move rfl) ?_
                refine lv (v := (.slice ra_7 r_5.length rc_8)) rfl rfl (r_move rfl) ?_
                refine lv (v := (.slice a_26 clique_25.length cap_27)) rfl rfl (r_assign rfl) ?_
                refine lv (v := (.slice ra_7 r_5.length rc_8)) rfl rfl (r_assign rfl) ?_
                refine lnil ?_
                refine wret ?_
                cases hm
                exact ⟨rfl, colFL w0.heap.size [qc0, qc0_1] col col_87 (fun n => bif Nat.beq n 3 then c1 else bif Nat.beq n 1 then c2 else bif Nat.beq n 441 then qc0_1 else bif Nat.beq n 440 then qc0 else 0), a_26, cap_27, ra_7, rc_8, a_89, cap_90, rfl, hst.finL rfl (fun n => bif Nat.beq n 3 then c1 else bif Nat.beq n 1 then c2 else bif Nat.beq n 441 then qc0_1 else bif Nat.beq n 440 then qc0 else 0), hst.finOwnL (g := (fun n => bif Nat.beq n 3 then c1 else bif Nat.beq n 1 then c2 else bif Nat.beq n 441 then qc0_1 else bif Nat.beq n 440 then qc0 else 0)) rfl h_28 (by decide) (by decide) rfl, hst.finOwnL (g := (fun n => bif Nat.beq n 3 then c1 else bif Nat.beq n 1 then c2 else bif Nat.beq n 441 then qc0_1 else bif Nat.beq n 440 then qc0 else 0)) rfl rh_9 (by decide) (by decide) rfl, hst.finOwnL (g := (fun n => bif Nat.beq n 3 then c1 else bif Nat.beq n 1 then c2 else bif Nat.beq n 441 then qc0_1 else bif Nat.beq n 440 then qc0 else 0)) rfl h_91 (by decide) (by decide) rfl, hst.finBoxL (g := (fun n => bif Nat.beq n 3 then c1 else bif Nat.beq n 1 then c2 else bif Nat.beq n 441 then qc0_1 else bif Nat.beq n 440 then qc0 else 0)) hb0 (by decide) (by decide) rfl⟩








set_option maxRecDepth 100000 in
theorem el22_41 : ElemOk Try.prog 22 1 24 := ⟨Try.t22, _, rfl, rfl, rfl, rfl, rfl⟩

def m_r18_Cliques_L1 (N : Nat) (p1_order : (List Int)) : Nat → (List (List Int)) → Int → Option ((List (List Int)) × Int)
  | 0, _, _ => none
  | n_19 + 1, all_22, i_26 => if (decide (i_26 < (p1_order.length : Int))) = true then ((at? p1_order i_26).bind fun e_27 => none) else (some (all_22, 0))

def m_r18_Cliques_L2 (N : Nat) (p1_order : (List Int)) : Nat → (List (List Bool)) → (List (List Int)) → Int → Option ((List (List Int)) × Int)
  | 0, _, _, _ => none
  | n_29 + 1, v_32, all_36, i_40 => if (decide (i_40 < (p1_order.length : Int))) = true then ((at? p1_order i_40).bind fun e_41 => (m_r15_Graph_Remove N v_32 e_41).bind fun r_43 => chk ((all_36.length + [r_43.1].length) * 24 ≤ 140737488355328 ∧ all_36.length + [r_43.1].length ≤ maxLen) ((m_r18_Cliques_L2 N p1_order n_29) r_43.2.2 (all_36 ++ [r_43.1]) (IntKind.i64.wrap (i_40 + 1)))) else (some (all_36, 0))

def m_r18_Cliques (N : Nat) (p0_g : ((List (List Bool)))) (p1_order : (List Int)) : Option ((List (List Int)) × Int) :=
  (m_r18_listed N p0_g p1_order).bind fun r_1 => if (!decide (r_1 = 0)) = true then (some (([] : List (List Int)), r_1)) else ((m_r15_Graph_Twin N p0_g).bind fun r_5 => optC (r_5) (m_r18_Cliques_L1 N p1_order N ([] : List (List Int)) 0) (fun t_12 => m_r18_Cliques_L2 N p1_order N t_12 ([] : List (List Int)) 0))

set_option maxRecDepth 100000 in
set_option maxHeartbeats 2000000 in
theorem c_r18_Cliques (N : Nat) (c1 : Nat) (col : Col) (w0 : World) (qc0 : Nat) (qc0_1 : Nat) (hqqc0 : qc0 ≠ 0) (hqqc0_1 : qc0_1 ≠ 0) (g0 : Nat) (p0_g : ((List (List Bool)))) (a0_2 : Option Addr) (cap0_2 : Nat) (a1 : Option Addr) (cap1 : Nat) (p1_order : (List Int)) (h0_2 : Own (Rep.row 4 Rep.bool) 26 qc0_1 col w0 a0_2 cap0_2 p0_g) (hb0 : Box 102 qc0 col w0 g0 #[(.slice a0_2 p0_g.length cap0_2)]) (h1 : Sl (Rep.int .i64) col w0 a1 cap1 p1_order) (r : ((List (List Int)) × Int)) (hm : m_r18_Cliques N p0_g p1_order = some r) :
    Calls Try.prog 41 #[(.pointer (some ⟨g0, 0, none⟩)), (.slice a1 p1_order.length cap1)] w0 (fun e w' => ∃ (col' : Col) (ra1 : Option Addr) (rc2 : Nat), e = .returned (.tuple #[(.slice ra1 r.1.length rc2), (.int .i64 r.2)]) ∧ Grow col w0 col' w' ∧ Own (Rep.row 3 (Rep.int .i64)) 22 c1 col' w' ra1 rc2 r.1) := by
  refine calls_of2 4 5 (m := 40) (args := [(.pointer (some ⟨g0, 0, none⟩)), (.slice a1 p1_order.length cap1)]) Try.func41 rfl rfl rfl rfl rfl ?_
  rw [m_r18_Cliques.eq_1] at hm
  have hst := St.start col w0
  replace hb0 := hb0.start0 hqqc0
  replace h0_2 := h0_2.start0 hqqc0_1
  replace h1 := h1.keep (Stay.start col w0)
  refine wseq ?_
  refine wregion ?_
  refine lv (v := (.slice none (([] : List (List Int)).length) 0)) rfl rfl (r_assign rfl) ?_
  refine lv (v := (.int .i64 0)) rfl rfl (r_assign rfl) ?_
  refine lnil ?_
  refine wseq ?_
  refine wregion ?_
  refine lv (v := (.pointer (some ⟨g0, 0, none⟩))) rfl rfl (r_move rfl) ?_
  refine lv (v := (.slice a1 p1_order.length cap1)) rfl rfl (r_move rfl) ?_
  obtain ⟨r_1, hr_2, hm⟩ := bind_some hm
  refine lc rfl rfl (r_call2 Try.call77 rfl rfl) (c_r18_listed N (col0 col) _ 999 999 (by decide) (by decide) g0 p0_g a0_2 cap0_2 a1 cap1 p1_order h0_2 hb0 h1 r_1 hr_2) ?_
  rintro _ w_3 ⟨rfl, hg_4⟩
  refine ⟨_, rfl, ?_⟩
  replace hg_4 : Grow (col0 col) w0 (col0 col) w_3 := .of_below hg_4
  replace h0_2 := h0_2.gr hg_4
  replace h1 := h1.gr hg_4
  replace hb0 := hb0.gr hg_4
  replace hst := hst.grow hg_4
  refine lv (v := (.int .i64 r_1)) rfl rfl (r_assign rfl) ?_
  refine lnil ?_
  refine wseq ?_
  refine wseq ?_
  refine wregion ?_
  refine lv (v := (.int .i64 r_1)) rfl rfl (r_move rfl) ?_
  refine lv (v := (.bool (!decide (r_1 = 0)))) rfl rfl (r_neq r_1 0 rfl rfl) ?_
  refine lnil ?_
  refine wcond (!decide (r_1 = 0)) rfl (fun hb => ?_) (fun hb => ?_)
  · rw [if_pos hb] at hm
    clear hb
    refine wseq ?_
    refine wregion ?_
    refine lv (v := (.int .i64 r_1)) rfl rfl (r_move rfl) ?_
    refine lv (v := (.slice none (([] : List (List Int)).length) 0)) rfl rfl (r_assign rfl) ?_
    refine lv (v := (.int .i64 r_1)) rfl rfl (r_assign rfl) ?_
    refine lnil ?_
    refine wret ?_
    cases hm
    exact ⟨rfl, colF w0.heap.size col (col0 col) (fun n => 0), none, 0, rfl, hst.fin (fun n => 0), Own.nil⟩
  · rw [if_neg (by rw [hb]; decide)] at hm
    clear hb
    refine wskip ?_
    refine wseq ?_
    refine wregion ?_
    refine lv (v := (.pointer (some ⟨g0, 0, none⟩))) rfl rfl (r_move rfl) ?_
    obtain ⟨r_5, hr_6, hm⟩ := bind_some hm
    refine lc rfl rfl (r_call1 Try.call78 rfl) (c_r15_Graph_Twin N 1 2 (col0 col) _ 999 999 (by decide) (by decide) g0 p0_g a0_2 cap0_2 h0_2 hb0 r_5 hr_6) ?_
    rintro _ w_9 ⟨col_11, rv_7, rfl, hg_10, rh_8⟩
    refine ⟨_, rfl, ?_⟩
    replace h1 := h1.gr hg_10
    replace h0_2 := h0_2.gr hg_10
    replace hb0 := hb0.gr hg_10
    replace hst := hst.grow hg_10
    cases hx_13 : r_5 with
    | none =>
      rw [hx_13] at hm rh_8
      replace hm := optC_none hm
      obtain rfl := optP_none rh_8
      clear rh_8
      refine lv (v := (.pointer none)) rfl rfl (r_assign rfl) ?_
      refine lnil ?_
      refine wseq ?_
      refine wregion ?_
      refine lv (v := (.slice none (([] : List (List Int)).length) 0)) rfl rfl (r_assign rfl) ?_
      refine lnil ?_
      refine wseq ?_
      refine wseq ?_
      refine wregion ?_
      refine lv (v := (.int .i64 0)) rfl rfl (r_assign rfl) ?_
      refine lnil ?_
      refine wblock ?_
      refine wloop (fun n f w_20 => ∃ (col_21 : Col) (a_23 : Option Addr) (cap_24 : Nat) (all_22 : List (List Int)) (i_26 : Int) (n_19 : Nat), n_19 = n ∧ m_r18_Cliques_L1 N p1_order n_19 all_22 i_26 = some r ∧ St w0 (col0 col) col_21 w_20 ∧ Sl (Rep.int .i64) col_21 w_20 a1 cap1 p1_order ∧ Own (Rep.row 3 (Rep.int .i64)) 22 3 col_21 w_20 a_23 cap_24 all_22 ∧ Own (Rep.row 4 Rep.bool) 26 999 col_21 w_20 a0_2 cap0_2 p0_g ∧ Box 102 999 col_21 w_20 g0 #[(.slice a0_2 p0_g.length cap0_2)] ∧ f 1 = (.slice a1 p1_order.length cap1) ∧ f 7 = (.pointer none) ∧ f 8 = (.slice a_23 all_22.length cap_24) ∧ f 9 = (.int .i64 i_26) ∧ f 1000000 = (enc [])) N ⟨col_11, none, 0, ([] : List (List Int)), 0, N, rfl, hm, hst, h1, Own.nil, h0_2, hb0, rfl, rfl, rfl, rfl, rfl⟩ ?_
      clear hm; intro n f w_20 hI
      obtain ⟨col_21, a_23, cap_24, all_22, i_26, n_19, hn, hm, hst, h1, h_25, h0_2, hb0, hs1, hs7, hs8, hs9, hs1000000⟩ := hI
      subst hn
      refine .ld (d := 1) (v := (.slice a1 p1_order.length cap1)) hs1 ?_
      refine .ld (d := 7) (v := (.pointer none)) hs7 ?_
      refine .ld (d := 8) (v := (.slice a_23 all_22.length cap_24)) hs8 ?_
      refine .ld (d := 9) (v := (.int .i64 i_26)) hs9 ?_
      refine .ld (d := 1000000) (v := (enc [])) hs1000000 ?_
      clear hs1 hs7 hs8 hs9 hs1000000
      cases n_19 with
      | zero => rw [m_r18_Cliques_L1.eq_1] at hm; cases hm
      | succ n_19 =>
        rw [m_r18_Cliques_L1.eq_2] at hm
        refine wseq ?_
        refine wseq ?_
        refine wregion ?_
        refine lv (v := (.int .i64 i_26)) rfl rfl (r_move rfl) ?_
        refine lv (v := (.slice a1 p1_order.length cap1)) rfl rfl (r_move rfl) ?_
        refine lv (v := (.int .i64 (p1_order.length : Int))) rfl rfl (r_len Try.underlying22 rfl) ?_
        refine lv (v := (.bool (decide (i_26 < (p1_order.length : Int))))) rfl rfl (r_lss i_26 (p1_order.length : Int) rfl rfl) ?_
        refine lnil ?_
        refine wcond (decide (i_26 < (p1_order.length : Int))) rfl (fun hb => ?_) (fun hb => ?_)
        · rw [if_pos hb] at hm
          clear hb
          refine wskip ?_
          refine wseq ?_
          refine wblock ?_
          refine wseq ?_
          refine wregion ?_
          refine lv (v := (.pointer none)) rfl rfl (r_move rfl) ?_
          refine lv (v := (.slice a1 p1_order.length cap1)) rfl rfl (r_move rfl) ?_
          refine lv (v := (.int .i64 i_26)) rfl rfl (r_move rfl) ?_
          obtain ⟨e_27, hj_28, hm⟩ := bind_some hm
          refine lv (v := (sptr a1 (Int.toNat i_26 * 1))) rfl rfl (r_idx Try.underlying22 Try.sizeOf3 rfl rfl (at?_some hj_28).1 (at?_some hj_28).2.1 (h1.addr hj_28)) ?_
          refine lv (v := (.int .i64 e_27)) rfl rfl (r_ld Try.isAgg3 rfl (h1.atInt hj_28)) ?_
          cases hm
        · rw [if_neg (by rw [hb]; decide)] at hm
          clear hb
          refine wexit (inB_hit ?_)
          refine wseq ?_
          refine wregion ?_
          refine lv (v := (.slice a_23 all_22.length cap_24)) rfl rfl (r_move rfl) ?_
          refine lv (v := (.slice a_23 all_22.length cap_24)) rfl rfl (r_assign rfl) ?_
          refine lv (v := (.int .i64 0)) rfl rfl (r_assign rfl) ?_
          refine lnil ?_
          refine wret ?_
          cases hm
          exact ⟨rfl, colF w0.heap.size col col_21 (fun n => bif Nat.beq n 3 then c1 else 0), a_23, cap_24, rfl, hst.fin (fun n => bif Nat.beq n 3 then c1 else 0), hst.finOwn (g := (fun n => bif Nat.beq n 3 then c1 else 0)) rfl h_25 (by decide) (by decide) rfl⟩
    | some t_12 =>
      rw [hx_13] at hm rh_8
      replace hm := optC_some hm
      obtain ⟨g_14, a_16, cap_17, rfl, hB_15, hO_18⟩ := optP_some rh_8
      refine lv (v := (.pointer (some ⟨g_14, 0, none⟩))) rfl rfl (r_assign rfl) ?_
      refine lnil ?_
      refine wseq ?_
      refine wregion ?_
      refine lv (v := (.slice none (([] : List (List Int)).length) 0)) rfl rfl (r_assign rfl) ?_
      refine lnil ?_
      refine wseq ?_
      refine wseq ?_
      refine wregion ?_
      refine lv (v := (.int .i64 0)) rfl rfl (r_assign rfl) ?_
      refine lnil ?_
      refine wblock ?_
      refine wloop (fun n f w_30 => ∃ (col_31 : Col) (a_33 : Option Addr) (cap_34 : Nat) (v_32 : List (List Bool)) (a_37 : Option Addr) (cap_38 : Nat) (all_36 : List (List Int)) (i_40 : Int) (n_29 : Nat), n_29 = n ∧ m_r18_Cliques_L2 N p1_order n_29 v_32 all_36 i_40 = some r ∧ St w0 (col0 col) col_31 w_30 ∧ Sl (Rep.int .i64) col_31 w_30 a1 cap1 p1_order ∧ Own (Rep.row 4 Rep.bool) 26 2 col_31 w_30 a_33 cap_34 v_32 ∧ Box 102 1 col_31 w_30 g_14 #[(.slice a_33 v_32.length cap_34)] ∧ Own (Rep.row 3 (Rep.int .i64)) 22 4 col_31 w_30 a_37 cap_38 all_36 ∧ Own (Rep.row 4 Rep.bool) 26 999 col_31 w_30 a0_2 cap0_2 p0_g ∧ Box 102 999 col_31 w_30 g0 #[(.slice a0_2 p0_g.length cap0_2)] ∧ f 1 = (.slice a1 p1_order.length cap1) ∧ f 7 = (.pointer (some ⟨g_14, 0, none⟩)) ∧ f 8 = (.slice a_37 all_36.length cap_38) ∧ f 9 = (.int .i64 i_40) ∧ f 1000000 = (enc [])) N ⟨col_11, a_16, cap_17, t_12, none, 0, ([] : List (List Int)), 0, N, rfl, hm, hst, h1, hO_18, hB_15, Own.nil, h0_2, hb0, rfl, rfl, rfl, rfl, rfl⟩ ?_
      clear hm; intro n f w_30 hI
      obtain ⟨col_31, a_33, cap_34, v_32, a_37, cap_38, all_36, i_40, n_29, hn, hm, hst, h1, h_35, hB_15, h_39, h0_2, hb0, hs1, hs7, hs8, hs9, hs1000000⟩ := hI
      subst hn
      refine .ld (d := 1) (v := (.slice a1 p1_order.length cap1)) hs1 ?_
      refine .ld (d := 7) (v := (.pointer (some ⟨g_14, 0, none⟩))) hs7 ?_
      refine .ld (d := 8) (v := (.slice a_37 all_36.length cap_38)) hs8 ?_
      refine .ld (d := 9) (v := (.int .i64 i_40)) hs9 ?_
      refine .ld (d := 1000000) (v := (enc [])) hs1000000 ?_
      clear hs1 hs7 hs8 hs9 hs1000000
      cases n_29 with
      | zero => rw [m_r18_Cliques_L2.eq_1] at hm; cases hm
      | succ n_29 =>
        rw [m_r18_Cliques_L2.eq_2] at hm
        refine wseq ?_
        refine wseq ?_
        refine wregion ?_
        refine lv (v := (.int .i64 i_40)) rfl rfl (r_move rfl) ?_
        refine lv (v := (.slice a1 p1_order.length cap1)) rfl rfl (r_move rfl) ?_
        refine lv (v := (.int .i64 (p1_order.length : Int))) rfl rfl (r_len Try.underlying22 rfl) ?_
        refine lv (v := (.bool (decide (i_40 < (p1_order.length : Int))))) rfl rfl (r_lss i_40 (p1_order.length : Int) rfl rfl) ?_
        refine lnil ?_
        refine wcond (decide (i_40 < (p1_order.length : Int))) rfl (fun hb => ?_) (fun hb => ?_)
        · rw [if_pos hb] at hm
          clear hb
          refine wskip ?_
          refine wseq ?_
          refine wblock ?_
          refine wseq ?_
          refine wregion ?_
          refine lv (v := (.pointer (some ⟨g_14, 0, none⟩))) rfl rfl (r_move rfl) ?_
          refine lv (v := (.slice a1 p1_order.length cap1)) rfl rfl (r_move rfl) ?_
          refine lv (v := (.int .i64 i_40)) rfl rfl (r_move rfl) ?_
          obtain ⟨e_41, hj_42, hm⟩ := bind_some hm
          refine lv (v := (sptr a1 (Int.toNat i_40 * 1))) rfl rfl (r_idx Try.underlying22 Try.sizeOf3 rfl rfl (at?_some hj_42).1 (at?_some hj_42).2.1 (h1.addr hj_42)) ?_
          refine lv (v := (.int .i64 e_41)) rfl rfl (r_ld Try.isAgg3 rfl (h1.atInt hj_42)) ?_
          obtain ⟨r_43, hr_44, hm⟩ := bind_some hm
          refine lc rfl rfl (r_call2 Try.call79 rfl rfl) (c_r15_Graph_Remove N 5 6 col_31 _ 1 2 rfl g_14 v_32 a_33 cap_34 e_41 h_35 hB_15 r_43 hr_44) ?_
          rintro _ w_55 ⟨col_57, ra_45, rc_46, ra_48, rc_49, oa_51, oc_52, rfl, hg_56, rh_47, rh_50, oh_53, ohb_54⟩
          refine ⟨_, rfl, ?_⟩
          replace h1 := h1.kpp hg_56 rfl
          replace h_39 := h_39.kpp hg_56 rfl rfl
          replace h0_2 := h0_2.kpp hg_56 rfl rfl
          replace hb0 := hb0.kpp hg_56 rfl
          replace hst := hst.kpp hg_56 rfl rfl
          clear hB_15
          clear h_35
          refine lv (v := (.tuple #[(.slice ra_45 r_43.1.length rc_46), (.slice ra_48 r_43.2.1.length rc_49)])) rfl rfl (r_move rfl) ?_
          refine lv (v := (.slice ra_45 r_43.1.length rc_46)) rfl rfl (r_extract rfl rfl) ?_
          refine lv (v := (.slice ra_48 r_43.2.1.length rc_49)) rfl rfl (r_extract rfl rfl) ?_
          refine lv (v := (.slice ra_45 r_43.1.length rc_46)) rfl rfl (r_assign rfl) ?_
          refine lv (v := (.slice ra_48 r_43.2.1.length rc_49)) rfl rfl (r_assign rfl) ?_
          refine lnil ?_
          refine wregion ?_
          refine lv (v := (.slice a_37 all_36.length cap_38)) rfl rfl (r_move rfl) ?_
          refine lv (v := (.slice ra_45 r_43.1.length rc_46)) rfl rfl (r_move rfl) ?_
          refine l_lit (col := col_57) (r := (Rep.row 3 (Rep.int .i64))) (xs := [r_43.1]) [(.slice ra_45 r_43.1.length rc_46)] 5 rfl Try.underlying33 el22_41 rfl rfl rfl rfl rfl rfl (by intro v hv; simp only [List.mem_cons, List.not_mem_nil, or_false] at hv; subst hv; rfl) (RowsH.cons1 (cs := [(.slice ra_45 r_43.1.length rc_46)]) rh_47.has Rows.nil0) ?_
          intro a_58 w_59 col_60 hg_61 h_62
          replace h1 := h1.gr hg_61
          replace oh_53 := oh_53.gr hg_61
          replace h_39 := h_39.gr hg_61
          replace rh_47 := rh_47.gr hg_61
          replace h0_2 := h0_2.gr hg_61
          replace ohb_54 := ohb_54.gr hg_61
          replace hb0 := hb0.gr hg_61
          replace hst := hst.grow hg_61
          obtain ⟨hb_63, hm⟩ := chk_some hm
          refine l_appendM (col := col_60) (w := w_59) (r := (Rep.row 3 (Rep.int .i64))) (c := 4) (c2 := 5) (xs := all_36) (ys := [r_43.1]) h_39 (h_62.srcC (by decide)) rfl Try.underlying33 el22_41 rfl rfl rfl hb_63.1 hb_63.2 (by decide) ?_
          intro a_64 cap_65 w_66 col_67 hk_68 h_69
          replace h1 := h1.kpp hk_68 rfl
          replace oh_53 := oh_53.kpp hk_68 rfl rfl
          clear h_62
          replace h0_2 := h0_2.kpp hk_68 rfl rfl
          replace ohb_54 := ohb_54.kpp hk_68 rfl
          replace hb0 := hb0.kpp hk_68 rfl
          replace hst := hst.kpp hk_68 rfl rfl
          clear h_39
          refine lv (v := (.slice a_64 ((all_36 ++ [r_43.1]).length) cap_65)) rfl rfl (r_assign rfl) ?_
          refine lnil ?_
          refine wregion ?_
          refine lv (v := (.int .i64 i_40)) rfl rfl (r_move rfl) ?_
          refine lv (v := (.int .i64 (IntKind.i64.wrap (i_40 + 1)))) rfl rfl (r_add i_40 1 rfl rfl) ?_
          refine lv (v := (.int .i64 (IntKind.i64.wrap (i_40 + 1)))) rfl rfl (r_assign rfl) ?_
          refine lnil ?_
          exact ⟨n_29, by omega, ⟨col_67, oa_51, oc_52, r_43.2.2, a_64, cap_65, (all_36 ++ [r_43.1]), (IntKind.i64.wrap (i_40 + 1)), n_29, rfl, hm, hst, h1, oh_53, ohb_54, h_69, h0_2, hb0, rfl, rfl, rfl, rfl, rfl⟩⟩
        · rw [if_neg (by rw [hb]; decide)] at hm
          clear hb
          refine wexit (inB_hit ?_)
          refine wseq ?_
          refine wregion ?_
          refine lv (v := (.slice a_37 all_36.length cap_38)) rfl rfl (r_move rfl) ?_
          refine lv (v := (.slice a_37 all_36.length cap_38)) rfl rfl (r_assign rfl) ?_
          refine lv (v := (.int .i64 0)) rfl rfl (r_assign rfl) ?_
          refine lnil ?_
          refine wret ?_
          cases hm
          exact ⟨rfl, colF w0.heap.size col col_31 (fun n => bif Nat.beq n 4 then c1 else 0), a_37, cap_38, rfl, hst.fin (fun n => bif Nat.beq n 4 then c1 else 0), hst.finOwn (g := (fun n => bif Nat.beq n 4 then c1 else 0)) rfl h_39 (by decide) (by decide) rfl⟩




def m_r18_Width_L1 (N : Nat) (r_1 : ((List (List Int)) × Int)) : Nat → Int → Int → Option (Int × Int)
  | 0, _, _ => none
  | n_9 + 1, most_12, i_13 => if (decide (i_13 < (r_1.1.length : Int))) = true then ((at? r_1.1 i_13).bind fun e_14 => (m_r18_Width_L1 N r_1 n_9) (if (e_14.length : Int) > most_12 then (e_14.length : Int) else most_12) (IntKind.i64.wrap (i_13 + 1))) else (some (IntKind.i64.wrap (most_12 - 1), r_1.2))

def m_r18_Width (N : Nat) (p0_g : ((List (List Bool)))) (p1_order : (List Int)) : Option (Int × Int) :=
  (m_r18_Cliques N p0_g p1_order).bind fun r_1 => m_r18_Width_L1 N r_1 N 1 0

set_option maxRecDepth 100000 in
set_option maxHeartbeats 2000000 in
theorem c_r18_Width (N : Nat) (col : Col) (w0 : World) (qc0 : Nat) (qc0_1 : Nat) (hqqc0 : qc0 ≠ 0) (hqqc0_1 : qc0_1 ≠ 0) (g0 : Nat) (p0_g : ((List (List Bool)))) (a0_2 : Option Addr) (cap0_2 : Nat) (a1 : Option Addr) (cap1 : Nat) (p1_order : (List Int)) (h0_2 : Own (Rep.row 4 Rep.bool) 26 qc0_1 col w0 a0_2 cap0_2 p0_g) (hb0 : Box 102 qc0 col w0 g0 #[(.slice a0_2 p0_g.length cap0_2)]) (h1 : Sl (Rep.int .i64) col w0 a1 cap1 p1_order) (r : (Int × Int)) (hm : m_r18_Width N p0_g p1_order = some r) :
    Calls Try.prog 43 #[(.pointer (some ⟨g0, 0, none⟩)), (.slice a1 p1_order.length cap1)] w0 (fun e w' => e = .returned (.tuple #[(.int .i64 r.1), (.int .i64 r.2)]) ∧ Below w0.heap.size w0 w') := by
  refine calls_of2 4 5 (m := 32) (args := [(.pointer (some ⟨g0, 0, none⟩)), (.slice a1 p1_order.length cap1)]) Try.func43 rfl rfl rfl rfl rfl ?_
  rw [m_r18_Width.eq_1] at hm
  have hst := St.start col w0
  replace hb0 := hb0.start0 hqqc0
  replace h0_2 := h0_2.start0 hqqc0_1
  replace h1 := h1.keep (Stay.start col w0)
  refine wseq ?_
  refine wregion ?_
  refine lv (v := (.int .i64 0)) rfl rfl (r_assign rfl) ?_
  refine lv (v := (.int .i64 0)) rfl rfl (r_assign rfl) ?_
  refine lnil ?_
  refine wseq ?_
  refine wregion ?_
  refine lv (v := (.pointer (some ⟨g0, 0, none⟩))) rfl rfl (r_move rfl) ?_
  refine lv (v := (.slice a1 p1_order.length cap1)) rfl rfl (r_move rfl) ?_
  obtain ⟨r_1, hr_2, hm⟩ := bind_some hm
  refine lc rfl rfl (r_call2 Try.call41 rfl rfl) (c_r18_Cliques N 1 (col0 col) _ 999 999 (by decide) (by decide) g0 p0_g a0_2 cap0_2 a1 cap1 p1_order h0_2 hb0 h1 r_1 hr_2) ?_
  rintro _ w_6 ⟨col_8, ra_3, rc_4, rfl, hg_7, rh_5⟩
  refine ⟨_, rfl, ?_⟩
  replace h0_2 := h0_2.gr hg_7
  replace h1 := h1.gr hg_7
  replace hb0 := hb0.gr hg_7
  replace hst := hst.grow hg_7
  refine lv (v := (.tuple #[(.slice ra_3 r_1.1.length rc_4), (.int .i64 r_1.2)])) rfl rfl (r_move rfl) ?_
  refine lv (v := (.slice ra_3 r_1.1.length rc_4)) rfl rfl (r_extract rfl rfl) ?_
  refine lv (v := (.int .i64 r_1.2)) rfl rfl (r_extract rfl rfl) ?_
  refine lv (v := (.slice ra_3 r_1.1.length rc_4)) rfl rfl (r_assign rfl) ?_
  refine lv (v := (.int .i64 r_1.2)) rfl rfl (r_assign rfl) ?_
  refine lnil ?_
  refine wseq ?_
  refine wregion ?_
  refine lv (v := (.int .i64 1)) rfl rfl (r_assign rfl) ?_
  refine lnil ?_
  refine wseq ?_
  refine wseq ?_
  refine wregion ?_
  refine lv (v := (.int .i64 0)) rfl rfl (r_assign rfl) ?_
  refine lnil ?_
  refine wblock ?_
  refine wloop (fun n f w_10 => ∃ (col_11 : Col) (most_12 : Int) (i_13 : Int) (n_9 : Nat), n_9 = n ∧ m_r18_Width_L1 N r_1 n_9 most_12 i_13 = some r ∧ St w0 (col0 col) col_11 w_10 ∧ Own (Rep.row 3 (Rep.int .i64)) 22 1 col_11 w_10 ra_3 rc_4 r_1.1 ∧ Own (Rep.row 4 Rep.bool) 26 999 col_11 w_10 a0_2 cap0_2 p0_g ∧ Box 102 999 col_11 w_10 g0 #[(.slice a0_2 p0_g.length cap0_2)] ∧ f 6 = (.slice ra_3 r_1.1.length rc_4) ∧ f 7 = (.int .i64 r_1.2) ∧ f 8 = (.int .i64 most_12) ∧ f 9 = (.int .i64 i_13) ∧ f 1000000 = (enc [])) N ⟨col_8, 1, 0, N, rfl, hm, hst, rh_5, h0_2, hb0, rfl, rfl, rfl, rfl, rfl⟩ ?_
  clear hm; intro n f w_10 hI
  obtain ⟨col_11, most_12, i_13, n_9, hn, hm, hst, rh_5, h0_2, hb0, hs6, hs7, hs8, hs9, hs1000000⟩ := hI
  subst hn
  refine .ld (d := 6) (v := (.slice ra_3 r_1.1.length rc_4)) hs6 ?_
  refine .ld (d := 7) (v := (.int .i64 r_1.2)) hs7 ?_
  refine .ld (d := 8) (v := (.int .i64 most_12)) hs8 ?_
  refine .ld (d := 9) (v := (.int .i64 i_13)) hs9 ?_
  refine .ld (d := 1000000) (v := (enc [])) hs1000000 ?_
  clear hs6 hs7 hs8 hs9 hs1000000
  cases n_9 with
  | zero => rw [m_r18_Width_L1.eq_1] at hm; cases hm
  | succ n_9 =>
    rw [m_r18_Width_L1.eq_2] at hm
    refine wseq ?_
    refine wseq ?_
    refine wregion ?_
    refine lv (v := (.int .i64 i_13)) rfl rfl (r_move rfl) ?_
    refine lv (v := (.slice ra_3 r_1.1.length rc_4)) rfl rfl (r_move rfl) ?_
    refine lv (v := (.int .i64 (r_1.1.length : Int))) rfl rfl (r_len Try.underlying33 rfl) ?_
    refine lv (v := (.bool (decide (i_13 < (r_1.1.length : Int))))) rfl rfl (r_lss i_13 (r_1.1.length : Int) rfl rfl) ?_
    refine lnil ?_
    refine wcond (decide (i_13 < (r_1.1.length : Int))) rfl (fun hb => ?_) (fun hb => ?_)
    · rw [if_pos hb] at hm
      clear hb
      refine wskip ?_
      refine wseq ?_
      refine wblock ?_
      refine wregion ?_
      refine lv (v := (.int .i64 most_12)) rfl rfl (r_move rfl) ?_
      refine lv (v := (.slice ra_3 r_1.1.length rc_4)) rfl rfl (r_move rfl) ?_
      refine lv (v := (.int .i64 i_13)) rfl rfl (r_move rfl) ?_
      obtain ⟨e_14, hj_15, hm⟩ := bind_some hm
      refine lv (v := (sptr ra_3 (Int.toNat i_13 * 1))) rfl rfl (r_idx Try.underlying33 Try.sizeOf22 rfl rfl (at?_some hj_15).1 (at?_some hj_15).2.1 (rh_5.addr hj_15)) ?_
      obtain ⟨_, hr_16, hA_17⟩ := rh_5.atN hj_15
      obtain ⟨a_18, cap_19, rfl, h_20⟩ := hr_16.row
      refine lv (v := (.slice a_18 e_14.length cap_19)) rfl rfl (r_ld Try.isAgg22 rfl hA_17.one) ?_
      refine lv (v := (.int .i64 (e_14.length : Int))) rfl rfl (r_len Try.underlying22 rfl) ?_
      refine lv (v := (.int .i64 (if (e_14.length : Int) > most_12 then (e_14.length : Int) else most_12))) rfl rfl (r_max most_12 (e_14.length : Int) rfl rfl) ?_
      refine lv (v := (.int .i64 (if (e_14.length : Int) > most_12 then (e_14.length : Int) else most_12))) rfl rfl (r_assign rfl) ?_
      refine lnil ?_
      refine wregion ?_
      refine lv (v := (.int .i64 i_13)) rfl rfl (r_move rfl) ?_
      refine lv (v := (.int .i64 (IntKind.i64.wrap (i_13 + 1)))) rfl rfl (r_add i_13 1 rfl rfl) ?_
      refine lv (v := (.int .i64 (IntKind.i64.wrap (i_13 + 1)))) rfl rfl (r_assign rfl) ?_
      refine lnil ?_
      exact ⟨n_9, by omega, ⟨col_11, (if (e_14.length : Int) > most_12 then (e_14.length : Int) else most_12), (IntKind.i64.wrap (i_13 + 1)), n_9, rfl, hm, hst, rh_5, h0_2, hb0, rfl, rfl, rfl, rfl, rfl⟩⟩
    · rw [if_neg (by rw [hb]; decide)] at hm
      clear hb
      refine wexit (inB_hit ?_)
      refine wseq ?_
      refine wregion ?_
      refine lv (v := (.int .i64 most_12)) rfl rfl (r_move rfl) ?_
      refine lv (v := (.int .i64 (IntKind.i64.wrap (most_12 - 1)))) rfl rfl (r_sub most_12 1 rfl rfl) ?_
      refine lv (v := (.int .i64 r_1.2)) rfl rfl (r_move rfl) ?_
      refine lv (v := (.int .i64 (IntKind.i64.wrap (most_12 - 1)))) rfl rfl (r_assign rfl) ?_
      refine lv (v := (.int .i64 r_1.2)) rfl rfl (r_assign rfl) ?_
      refine lnil ?_
      refine wret ?_
      cases hm
      exact ⟨rfl, rfl, hst.below⟩




def m_r15_Lists_L1 (N : Nat) (p0_a : (List (List Int))) (p1_b : (List (List Int))) : Nat → Int → Option Bool
  | 0, _ => none
  | n_1 + 1, i_4 => if (decide (i_4 < (p0_a.length : Int))) = true then ((at? p0_a i_4).bind fun e_5 => (at? p1_b i_4).bind fun e_12 => (m_r15_Ints N e_5 e_12).bind fun r_19 => if (!r_19) = true then (some false) else ((m_r15_Lists_L1 N p0_a p1_b n_1) (IntKind.i64.wrap (i_4 + 1)))) else (some true)

def m_r15_Lists (N : Nat) (p0_a : (List (List Int))) (p1_b : (List (List Int))) : Option Bool :=
  if (!decide ((p0_a.length : Int) = (p1_b.length : Int))) = true then (some false) else (m_r15_Lists_L1 N p0_a p1_b N 0)

set_option maxRecDepth 100000 in
set_option maxHeartbeats 2000000 in
theorem c_r15_Lists (N : Nat) (col : Col) (w0 : World) (a0 : Option Addr) (cap0 : Nat) (p0_a : (List (List Int))) (a1 : Option Addr) (cap1 : Nat) (p1_b : (List (List Int))) (h0 : Sl (Rep.slice (Rep.int .i64)) col w0 a0 cap0 p0_a) (h1 : Sl (Rep.slice (Rep.int .i64)) col w0 a1 cap1 p1_b) (r : Bool) (hm : m_r15_Lists N p0_a p1_b = some r) :
    Calls Try.prog 44 #[(.slice a0 p0_a.length cap0), (.slice a1 p1_b.length cap1)] w0 (fun e w' => e = .returned ((.bool r)) ∧ Below w0.heap.size w0 w') := by
  refine calls_of1 4 (m := 29) (args := [(.slice a0 p0_a.length cap0), (.slice a1 p1_b.length cap1)]) Try.func44 rfl rfl rfl rfl rfl ?_
  rw [m_r15_Lists.eq_1] at hm
  have hst := St.start col w0
  replace h0 := h0.keep (Stay.start col w0)
  replace h1 := h1.keep (Stay.start col w0)
  refine wseq ?_
  refine wregion ?_
  refine lv (v := (.bool false)) rfl rfl (r_assign rfl) ?_
  refine lnil ?_
  refine wseq ?_
  refine wseq ?_
  refine wregion ?_
  refine lv (v := (.slice a0 p0_a.length cap0)) rfl rfl (r_move rfl) ?_
  refine lv (v := (.int .i64 (p0_a.length : Int))) rfl rfl (r_len Try.underlying33 rfl) ?_
  refine lv (v := (.slice a1 p1_b.length cap1)) rfl rfl (r_move rfl) ?_
  refine lv (v := (.int .i64 (p1_b.length : Int))) rfl rfl (r_len Try.underlying33 rfl) ?_
  refine lv (v := (.bool (!decide ((p0_a.length : Int) = (p1_b.length : Int))))) rfl rfl (r_neq (p0_a.length : Int) (p1_b.length : Int) rfl rfl) ?_
  refine lnil ?_
  refine wcond (!decide ((p0_a.length : Int) = (p1_b.length : Int))) rfl (fun hb => ?_) (fun hb => ?_)
  · rw [if_pos hb] at hm
    clear hb
    refine wseq ?_
    refine wregion ?_
    refine lv (v := (.bool false)) rfl rfl (r_assign rfl) ?_
    refine lnil ?_
    refine wret ?_
    cases hm
    exact ⟨rfl, rfl, hst.below⟩
  · rw [if_neg (by rw [hb]; decide)] at hm
    clear hb
    refine wskip ?_
    refine wseq ?_
    refine wseq ?_
    refine wregion ?_
    refine lv (v := (.int .i64 0)) rfl rfl (r_assign rfl) ?_
    refine lnil ?_
    refine wblock ?_
    refine wloop (fun n f w_2 => ∃ (col_3 : Col) (i_4 : Int) (n_1 : Nat), n_1 = n ∧ m_r15_Lists_L1 N p0_a p1_b n_1 i_4 = some r ∧ St w0 (col0 col) col_3 w_2 ∧ Sl (Rep.slice (Rep.int .i64)) col_3 w_2 a0 cap0 p0_a ∧ Sl (Rep.slice (Rep.int .i64)) col_3 w_2 a1 cap1 p1_b ∧ f 0 = (.slice a0 p0_a.length cap0) ∧ f 1 = (.slice a1 p1_b.length cap1) ∧ f 5 = (.int .i64 i_4) ∧ f 1000000 = (enc [])) N ⟨(col0 col), 0, N, rfl, hm, hst, h0, h1, rfl, rfl, rfl, rfl⟩ ?_
    clear hm; intro n f w_2 hI
    obtain ⟨col_3, i_4, n_1, hn, hm, hst, h0, h1, hs0, hs1, hs5, hs1000000⟩ := hI
    subst hn
    refine .ld (d := 0) (v := (.slice a0 p0_a.length cap0)) hs0 ?_
    refine .ld (d := 1) (v := (.slice a1 p1_b.length cap1)) hs1 ?_
    refine .ld (d := 5) (v := (.int .i64 i_4)) hs5 ?_
    refine .ld (d := 1000000) (v := (enc [])) hs1000000 ?_
    clear hs0 hs1 hs5 hs1000000
    cases n_1 with
    | zero => rw [m_r15_Lists_L1.eq_1] at hm; cases hm
    | succ n_1 =>
      rw [m_r15_Lists_L1.eq_2] at hm
      refine wseq ?_
      refine wseq ?_
      refine wregion ?_
      refine lv (v := (.int .i64 i_4)) rfl rfl (r_move rfl) ?_
      refine lv (v := (.slice a0 p0_a.length cap0)) rfl rfl (r_move rfl) ?_
      refine lv (v := (.int .i64 (p0_a.length : Int))) rfl rfl (r_len Try.underlying33 rfl) ?_
      refine lv (v := (.bool (decide (i_4 < (p0_a.length : Int))))) rfl rfl (r_lss i_4 (p0_a.length : Int) rfl rfl) ?_
      refine lnil ?_
      refine wcond (decide (i_4 < (p0_a.length : Int))) rfl (fun hb => ?_) (fun hb => ?_)
      · rw [if_pos hb] at hm
        clear hb
        refine wskip ?_
        refine wseq ?_
        refine wblock ?_
        refine wseq ?_
        refine wquiet (col := col_3) (by kernel_rfl) (by kernel_rfl) ?_
        refine qv (v := (.slice a0 p0_a.length cap0)) rfl (fun _ hC => r_move rfl) ?_
        refine qv (v := (.int .i64 i_4)) rfl (fun _ hC => r_move rfl) ?_
        obtain ⟨e_5, hj_6, hm⟩ := bind_some hm
        refine qv (v := (sptr a0 (Int.toNat i_4 * 1))) rfl (fun _ hC => r_idx Try.underlying33 Try.sizeOf22 rfl rfl (at?_some hj_6).1 (at?_some hj_6).2.1 (h0.addr hj_6)) ?_
        obtain ⟨_, hr_7, hA_8⟩ := h0.atN hj_6
        obtain ⟨⟨a_9, cap_10, rfl, h_11⟩, _⟩ := hr_7
        refine qv (v := (.slice a_9 e_5.length cap_10)) rfl (fun _ hC => r_ld Try.isAgg22 rfl (hA_8.one.gr (Grow.of_below (col := col_3) hC.below))) ?_
        refine qv (v := (.slice a1 p1_b.length cap1)) rfl (fun _ hC => r_move rfl) ?_
        refine qv (v := (.int .i64 i_4)) rfl (fun _ hC => r_move rfl) ?_
        obtain ⟨e_12, hj_13, hm⟩ := bind_some hm
        refine qv (v := (sptr a1 (Int.toNat i_4 * 1))) rfl (fun _ hC => r_idx Try.underlying33 Try.sizeOf22 rfl rfl (at?_some hj_13).1 (at?_some hj_13).2.1 (h1.addr hj_13)) ?_
        obtain ⟨_, hr_14, hA_15⟩ := h1.atN hj_13
        obtain ⟨⟨a_16, cap_17, rfl, h_18⟩, _⟩ := hr_14
        refine qv (v := (.slice a_16 e_12.length cap_17)) rfl (fun _ hC => r_ld Try.isAgg22 rfl (hA_15.one.gr (Grow.of_below (col := col_3) hC.below))) ?_
        obtain ⟨r_19, hr_20, hm⟩ := bind_some hm
        refine qc (v := (.bool r_19)) rfl (fun _ hC => ⟨_, _, r_call2 Try.call36 rfl rfl, (c_r15_Ints N col_3 _ a_9 cap_10 e_5 a_16 cap_17 e_12 (h_11.gr (Grow.of_below (col := col_3) hC.below)) (h_18.gr (Grow.of_below (col := col_3) hC.below)) r_19 hr_20).mono fun _ _ h => ⟨h.1, hC.trans (.of_below h.2)⟩⟩) ?_
        refine qv (v := (.bool r_19)) rfl (fun _ hC => r_assign rfl) ?_
        refine qnil ?_
        intro w_21 hC
        replace hC : Grow col_3 w_2 col_3 w_21 := .of_below hC.below
        replace h0 := h0.gr hC
        replace h1 := h1.gr hC
        replace hst := hst.grow hC
        refine wseq ?_
        refine wregion ?_
        refine lv (v := (.bool r_19)) rfl rfl (r_move rfl) ?_
        refine lv (v := (.bool (!r_19))) rfl rfl (r_not r_19 rfl) ?_
        refine lnil ?_
        refine wcond (!r_19) rfl (fun hb => ?_) (fun hb => ?_)
        · rw [if_pos hb] at hm
          clear hb
          refine wseq ?_
          refine wregion ?_
          refine lv (v := (.bool false)) rfl rfl (r_assign rfl) ?_
          refine lnil ?_
          refine wret ?_
          cases hm
          exact ⟨rfl, rfl, hst.below⟩
        · rw [if_neg (by rw [hb]; decide)] at hm
          clear hb
          refine wskip ?_
          refine wregion ?_
          refine lv (v := (.int .i64 i_4)) rfl rfl (r_move rfl) ?_
          refine lv (v := (.int .i64 (IntKind.i64.wrap (i_4 + 1)))) rfl rfl (r_add i_4 1 rfl rfl) ?_
          refine lv (v := (.int .i64 (IntKind.i64.wrap (i_4 + 1)))) rfl rfl (r_assign rfl) ?_
          refine lnil ?_
          exact ⟨n_1, by omega, ⟨col_3, (IntKind.i64.wrap (i_4 + 1)), n_1, rfl, hm, hst, h0, h1, rfl, rfl, rfl, rfl⟩⟩
      · rw [if_neg (by rw [hb]; decide)] at hm
        clear hb
        refine wexit (inB_hit ?_)
        refine wseq ?_
        refine wregion ?_
        refine lv (v := (.bool true)) rfl rfl (r_assign rfl) ?_
        refine lnil ?_
        refine wret ?_
        cases hm
        exact ⟨rfl, rfl, hst.below⟩



section
variable {n N : Nat} {t u : List (List Bool)} {a b x y : Int}
theorem rises_ext {l m : List Int} (hl : l.Pairwise (· < ·)) (hm : m.Pairwise (· < ·)) (h : ∀ x, x ∈ l ↔ x ∈ m) : l = m := by
  have h1 := same_sorted hl (hm.imp fun h => by omega) h
  have h2 := same_sorted hm (hm.imp fun h => by omega) fun x => Iff.rfl
  rw [← h1, h2]
theorem near_filter (h : Tab n t) : near n t a = (pts n).filter fun b => ge t a b :=
  rises_ext gkeys_rises (pts_rises.filter _) fun x => by
    rw [near_mem, List.mem_filter, pts_mem]
    exact ⟨fun e => ⟨(h.range e).2, e⟩, fun e => e.2⟩
theorem refHas_eq (h : Tab n t) : m_r15_Graph_Has t a b = some (ge t a b) := by
  unfold m_r15_Graph_Has m_r15_Graph_Has_J1
  rw [point_eq h, point_eq h]
  simp only [Option.bind_some]
  by_cases ha : 0 ≤ a ∧ a < (n : Int)
  · rw [if_pos (decide_eq_true ha)]
    by_cases hb : 0 ≤ b ∧ b < (n : Int)
    · rw [if_pos (decide_eq_true hb), h.at ha]
      simp only [Option.bind_some]
      rw [h.cell ha hb]; rfl
    · rw [if_neg (by simpa using hb)]
      cases hg : ge t a b
      · rfl
      · exact absurd (h.range hg).2 hb
  · rw [if_neg (by simpa using ha)]
    cases hg : ge t a b
    · rfl
    · exact absurd (h.range hg).1 ha
theorem pts_get {i : Nat} (hi : i < n) : (pts n)[i]? = some (i : Int) := by unfold pts; rw [List.getElem?_map, List.getElem?_range hi]; rfl
theorem refNear_L1 (h : Tab n t) (hn : n ≤ 1024) : ∀ (f i : Nat), i ≤ n → n - i < f → m_r15_Graph_Near_L1 N t a f (((pts n).take i).filter fun b => ge t a b) (i : Int) = some (near n t a)
  | 0, i, _, hf => by omega
  | f + 1, i, hi, hf => by
    rw [m_r15_Graph_Near_L1.eq_2, h.len]
    unfold m_r15_Graph_Near_J1
    by_cases hlt : i < n
    · have e : (pts n).take (i + 1) = (pts n).take i ++ [(i : Int)] := by rw [List.take_add_one, pts_get hlt]; rfl
      have hl : (((pts n).take i).filter fun b => ge t a b).length ≤ n := Nat.le_trans (List.length_filter_le _ _) (by rw [List.length_take, pts_len]; omega)
      have ih := refNear_L1 h hn f (i + 1) (by omega) (by omega)
      rw [e, List.filter_append] at ih
      rw [if_pos (decide_eq_true (by omega)), refHas_eq h]
      simp only [Option.bind_some]
      cases hg : ge t a (i : Int)
      · rw [if_neg (by decide), wS (by omega)]
        rw [List.filter_cons_of_neg (by simp [hg]), List.filter_nil, List.append_nil] at ih
        exact ih
      · rw [if_pos rfl, chk_pos (by simp only [List.length_singleton, maxLen]; omega), wS (by omega)]
        rw [List.filter_cons_of_pos (by simp [hg]), List.filter_nil] at ih
        exact ih
    · obtain rfl : i = n := by omega
      rw [if_neg (by simp), List.take_of_length_le (by rw [pts_len]; exact Nat.le_refl _), near_filter h]
theorem refNear_eq (h : Tab n t) (hn : n ≤ 1024) (hN : 2048 < N) : m_r15_Graph_Near N t a = some (near n t a) := refNear_L1 h hn N 0 (by omega) (by omega)
theorem refWant_L2 (h : Tab n t) (R : List Int) (hR : R.length ≤ 1024) (hr : ∀ z ∈ R, 0 ≤ z ∧ z < (n : Int)) (i : Nat) (hi : i < R.length) (kk : List (Int × Int) → Int → Option (List (Int × Int))) : ∀ (f k : Nat) (l : List (Int × Int)), k ≤ R.length → R.length - k < f → l.length + (R.length - k) ≤ 3000000 →
    m_r15_Graph_wanting_L2 N t R (i : Int) kk f l (k : Int) = kk (l ++ ((R.drop k).filter fun y => !ge t R[i] y).map fun y => (R[i], y)) (IntKind.i64.wrap ((i : Int) + 1))
  | 0, k, l, _, hf, _ => by omega
  | f + 1, k, l, hk, hf, hl => by
    rw [m_r15_Graph_wanting_L2.eq_2]
    unfold m_r15_Graph_wanting_J1
    by_cases hlt : k < R.length
    · have h1 := hr _ (List.getElem_mem hi)
      have h2 := hr _ (List.getElem_mem hlt)
      rw [if_pos (decide_eq_true (by omega)), at?_lt hi]
      simp only [Option.bind_some]
      rw [h.at h1, at?_lt hlt]
      simp only [Option.bind_some]
      rw [h.cell h1 h2]
      simp only [Option.bind_some]
      rw [List.drop_eq_getElem_cons hlt]
      cases hg : ge t R[i] R[k]
      · rw [if_pos (show (!false) = true from rfl), chk_pos (by simp only [List.length_singleton, maxLen]; omega), wS (by omega), refWant_L2 h R hR hr i hi kk f (k + 1) _ (by omega) (by omega) (by simp; omega), List.filter_cons_of_pos (by simp [hg])]
        simp
      · rw [if_neg (by decide), wS (by omega), refWant_L2 h R hR hr i hi kk f (k + 1) _ (by omega) (by omega) (by omega), List.filter_cons_of_neg (by simp [hg])]
    · rw [if_neg (by simp; omega), List.drop_eq_nil_of_le (by omega)]
      simp
theorem refWant_L1 (h : Tab n t) (R : List Int) (hR : R.length ≤ 1024) (hr : ∀ z ∈ R, 0 ≤ z ∧ z < (n : Int)) (hN : 2048 < N) : ∀ (f i : Nat) (l : List (Int × Int)), i ≤ R.length → R.length - i < f → l.length ≤ i * 1024 →
    m_r15_Graph_wanting_L1 N t R f l (i : Int) = some (l ++ wantL t (R.drop i))
  | 0, i, l, _, hf, _ => by omega
  | f + 1, i, l, hi, hf, hl => by
    rw [m_r15_Graph_wanting_L1.eq_2]
    by_cases hlt : i < R.length
    · have hle : i * 1024 ≤ 1024 * 1024 := Nat.mul_le_mul_right _ (by omega)
      rw [if_pos (decide_eq_true (by omega)), wS (by omega)]
      have e2 := refWant_L2 (N := N) h R hR hr i hlt (m_r15_Graph_wanting_L1 N t R f) N (i + 1) l (by omega) (by omega) (by omega)
      refine Eq.trans e2 ?_
      rw [wS (by omega)]
      refine Eq.trans (refWant_L1 h R hR hr hN f (i + 1) _ (by omega) (by omega) ?_) ?_
      · rw [List.length_append, List.length_map]
        have := List.length_filter_le (fun y => !ge t R[i] y) (R.drop (i + 1))
        rw [List.length_drop] at this
        omega
      · rw [List.drop_eq_getElem_cons hlt, wantL, List.append_assoc]
    · rw [if_neg (by simp; omega), List.drop_eq_nil_of_le (by omega)]
      simp [wantL]
theorem refWant_eq (h : Tab n t) (hn : n ≤ 1024) (hN : 2048 < N) : m_r15_Graph_wanting N t a = some (wantL t (near n t a)) := by
  unfold m_r15_Graph_wanting
  rw [refNear_eq h hn hN]
  simp only [Option.bind_some]
  have hnl := near_len (a := a) h
  have := refWant_L1 (N := N) h (near n t a) (by omega) (near_range h) hN N 0 [] (by omega) (by omega) (by simp)
  simpa using this
theorem in_L1 (l : List Int) (hl : l.length ≤ 1048576) : ∀ (f i : Nat), i ≤ l.length → l.length - i < f → m_r15_in_L1 N l x f (i : Int) = some (decide (x ∈ l.drop i))
  | 0, i, _, hf => by omega
  | f + 1, i, hi, hf => by
    rw [m_r15_in_L1.eq_2]
    by_cases hlt : i < l.length
    · rw [if_pos (decide_eq_true (by omega)), at?_lt hlt]
      simp only [Option.bind_some]
      rw [List.drop_eq_getElem_cons hlt]
      by_cases e : l[i] = x
      · rw [if_pos (decide_eq_true e)]
        exact congrArg some (decide_eq_true (by rw [e]; exact List.mem_cons_self)).symm
      · rw [if_neg (by simpa using e), wS (by omega), in_L1 l hl f (i + 1) (by omega) (by omega)]
        exact congrArg some (decide_eq_decide.2 ⟨fun h => List.mem_cons_of_mem _ h, fun h => (List.mem_cons.1 h).resolve_left fun h => e h.symm⟩)
    · rw [if_neg (by simp; omega), List.drop_eq_nil_of_le (by omega)]
      simp
theorem refIn_eq (l : List Int) (hl : l.length ≤ 1048576) (hN : l.length < N) : m_r15_in N l x = some (decide (x ∈ l)) := by
  have := in_L1 (N := N) (x := x) l hl N 0 (by omega) (by omega)
  rwa [List.drop_zero] at this

theorem insS_rises {l : List Int} (hl : l.Pairwise (· < ·)) (ha : a ∉ l) : (insS a l).Pairwise (· < ·) := by
  unfold insS
  have h1 : ∀ z ∈ l.take (lb l a), z < a := fun z hz => by
    obtain ⟨i, hi, rfl⟩ := List.getElem_of_mem hz
    rw [List.length_take] at hi
    rw [List.getElem_take]
    exact (lb_lt hl i (by omega)).2 (by omega)
  have h2 : ∀ z ∈ l.drop (lb l a), a < z := fun z hz => by
    obtain ⟨i, hi, rfl⟩ := List.getElem_of_mem hz
    rw [List.length_drop] at hi
    rw [List.getElem_drop]
    have h3 := lb_lt (a := a) hl (lb l a + i) (by omega)
    have h4 : l[lb l a + i] ≠ a := fun e => ha (e ▸ List.getElem_mem _)
    have h5 : ¬ l[lb l a + i] < a := fun e => by have := h3.1 e; omega
    omega
  rw [List.append_assoc, List.pairwise_append]
  refine ⟨hl.sublist (List.take_sublist _ _), ?_, fun x hx y hy => ?_⟩
  · rw [List.singleton_append, List.pairwise_cons]
    exact ⟨h2, hl.sublist (List.drop_sublist _ _)⟩
  · rw [List.singleton_append, List.mem_cons] at hy
    rcases hy with rfl | hy
    · exact h1 x hx
    · exact Int.lt_trans (h1 x hx) (h2 y hy)
theorem insS_filter (h : Gr n t) (ha : 0 ≤ a ∧ a < (n : Int)) : insS a (near n t a) = (pts n).filter fun b => decide (b ∈ near n t a) || decide (b = a) :=
  rises_ext (insS_rises gkeys_rises fun hm => by have := near_mem.1 hm; rw [h.irr] at this; cases this) (pts_rises.filter _) fun x => by
    rw [insS_mem, List.mem_filter, pts_mem]
    simp only [Bool.or_eq_true, decide_eq_true_eq]
    constructor
    · rintro (rfl | hx)
      · exact ⟨ha, .inr rfl⟩
      · exact ⟨near_range h.tab x hx, .inl hx⟩
    · rintro ⟨_, hx | rfl⟩
      · exact .inr hx
      · exact .inl rfl
/-- A point's edges struck out, each both ways round. -/
def cutR (a : Int) (g : List (List Bool)) (l : List Int) : List (List Bool) := l.foldl (fun g b => (g.set a.toNat ((row g a).set b.toNat false)).set b.toNat ((row g b).set a.toNat false)) g
theorem cutR_step (h : Tab n t) (ha : 0 ≤ a ∧ a < (n : Int)) (hb : 0 ≤ b ∧ b < (n : Int)) (hab : a ≠ b) :
    Tab n ((t.set a.toNat ((row t a).set b.toNat false)).set b.toNat ((row t b).set a.toNat false)) ∧ ∀ x y, ge ((t.set a.toNat ((row t a).set b.toNat false)).set b.toNat ((row t b).set a.toNat false)) x y = (ge t x y && !decide (x = a ∧ y = b ∨ x = b ∧ y = a)) := by
  have h1 : Tab n (t.set a.toNat ((row t a).set b.toNat false)) := h.set _ (by rw [List.length_set]; exact h.rowlen ha)
  have gs : ∀ (r : List Bool) (c z : Int), 0 ≤ c → gat (r.set c.toNat false) z = (gat r z && !decide (z = c)) := fun r c z hc => by
    have := gat_rset (row := r) (k := c) (k' := z) (v := false)
    unfold rset at this
    rw [if_pos hc] at this
    rw [this]
    by_cases e : z = c
    · simp [e]
    · simp [e]
  refine ⟨h1.set _ (by rw [List.length_set]; exact h.rowlen hb), fun x y => ?_⟩
  rw [ge_set h1 hb, ge_set h ha]
  by_cases hxb : x = b
  · subst hxb
    rw [if_pos rfl, gs _ _ _ ha.1]
    show (ge t x y && _) = _
    congr 2
    exact decide_eq_decide.2 ⟨fun e => .inr ⟨rfl, e⟩, fun e => e.elim (fun e => absurd e.1.symm hab) fun e => e.2⟩
  · rw [if_neg hxb]
    by_cases hxa : x = a
    · subst hxa
      rw [if_pos rfl, gs _ _ _ hb.1]
      show (ge t x y && _) = _
      congr 2
      exact decide_eq_decide.2 ⟨fun e => .inl ⟨rfl, e⟩, fun e => e.elim (fun e => e.2) fun e => absurd e.1 hab⟩
    · rw [if_neg hxa]
      have : decide (x = a ∧ y = b ∨ x = b ∧ y = a) = false := decide_eq_false fun e => e.elim (fun e => hxa e.1) fun e => hxb e.1
      rw [this]; simp
theorem cutR_ge (ha : 0 ≤ a ∧ a < (n : Int)) : ∀ {l : List Int} {t : List (List Bool)}, Tab n t → (∀ z ∈ l, (0 ≤ z ∧ z < (n : Int)) ∧ a ≠ z) → Tab n (cutR a t l) ∧ ∀ x y, ge (cutR a t l) x y = (ge t x y && !decide (x = a ∧ y ∈ l ∨ y = a ∧ x ∈ l))
  | [], t, h, _ => ⟨h, fun x y => by simp [cutR]⟩
  | b :: l, t, h, hl => by
    obtain ⟨hb, hab⟩ := hl b List.mem_cons_self
    obtain ⟨h1, h2⟩ := cutR_step h ha hb hab
    obtain ⟨h3, h4⟩ := cutR_ge ha h1 fun z hz => hl z (List.mem_cons_of_mem _ hz)
    refine ⟨h3, fun x y => ?_⟩
    show ge (cutR a _ l) x y = _
    rw [h4, h2, Bool.and_assoc, ← Bool.not_or, ← Bool.decide_or]
    congr 2
    refine decide_eq_decide.2 ?_
    simp only [List.mem_cons]
    constructor
    · rintro ((⟨e1, e2⟩ | ⟨e1, e2⟩) | ⟨e1, e2⟩ | ⟨e1, e2⟩)
      · exact .inl ⟨e1, .inl e2⟩
      · exact .inr ⟨e2, .inl e1⟩
      · exact .inl ⟨e1, .inr e2⟩
      · exact .inr ⟨e1, .inr e2⟩
    · rintro (⟨e1, e2 | e2⟩ | ⟨e1, e2 | e2⟩)
      · exact .inl (.inl ⟨e1, e2⟩)
      · exact .inr (.inl ⟨e1, e2⟩)
      · exact .inl (.inr ⟨e2, e1⟩)
      · exact .inr (.inr ⟨e1, e2⟩)
theorem cut_remove (h : Gr n t) (ha : 0 ≤ a ∧ a < (n : Int)) : cutR a (joinAll n t (wantL t (near n t a))) (near n t a) = removeT n t a := by
  obtain ⟨h1, h2⟩ := cutR_ge ha (h.joinAll (l := wantL t (near n t a))).tab fun z hz => ⟨near_range h.tab z hz, fun e => by have := near_mem.1 hz; rw [← e, h.irr] at this; cases this⟩
  refine tab_ext h1 (h.remove ha).tab fun x y => ?_
  rw [h2, ge_remove h ha, ge_joinPut h h]
  have e : decide (x = a ∧ y ∈ near n t a ∨ y = a ∧ x ∈ near n t a) = ((decide (x = a) || decide (y = a)) && ge t x y) := by
    rw [Bool.eq_iff_iff]
    simp only [decide_eq_true_eq, Bool.and_eq_true, Bool.or_eq_true, near_mem]
    constructor
    · rintro (⟨rfl, e⟩ | ⟨rfl, e⟩)
      · exact ⟨.inl rfl, e⟩
      · exact ⟨.inr rfl, by rw [h.sym]; exact e⟩
    · rintro ⟨rfl | rfl, e⟩
      · exact .inl ⟨rfl, e⟩
      · exact .inr ⟨rfl, by rw [h.sym]; exact e⟩
  rw [e]
  have hp : put t n a x y = true → x ≠ a ∧ y ≠ a ∧ ge t x y = false := fun hp => by
    unfold put at hp
    simp only [Bool.and_eq_true, Bool.not_eq_true'] at hp
    exact ⟨fun e => by rw [e, h.irr] at hp; exact absurd hp.1.1.1 (by decide), fun e => by rw [e, h.irr] at hp; exact absurd hp.1.1.2 (by decide), hp.2⟩
  cases hpp : put t n a x y
  · cases ge t x y <;> cases decide (x = a) <;> cases decide (y = a) <;> rfl
  · obtain ⟨e1, e2, e3⟩ := hp hpp
    rw [e3, decide_eq_false e1, decide_eq_false e2]; rfl
theorem refRemove_L3 (ha : 0 ≤ a ∧ a < (n : Int)) (W : List (Int × Int)) (R : List Int) (hR : R.length ≤ 1024) (hr : ∀ z ∈ R, (0 ≤ z ∧ z < (n : Int)) ∧ a ≠ z) (cl : List Int) : ∀ (f i : Nat) (g : List (List Bool)), Tab n g → i ≤ R.length → R.length - i < f →
    m_r15_Graph_Remove_L3 N a W R cl f g (i : Int) = some (cl, W, cutR a g (R.drop i))
  | 0, i, _, _, _, hf => by omega
  | f + 1, i, g, hg, hi, hf => by
    rw [m_r15_Graph_Remove_L3.eq_2]
    by_cases hlt : i < R.length
    · obtain ⟨hb, hab⟩ := hr _ (List.getElem_mem hlt)
      rw [if_pos (decide_eq_true (by omega)), hg.at ha, at?_lt hlt]
      simp only [Option.bind_some]
      rw [hg.cell ha hb]
      simp only [Option.bind_some]
      rw [at?_set_ne hab ha.1, hg.at hb]
      simp only [Option.bind_some]
      rw [hg.cell hb ha]
      simp only [Option.bind_some]
      rw [wS (by omega), refRemove_L3 ha W R hR hr cl f (i + 1) _ (cutR_step hg ha hb hab).1 (by omega) (by omega), List.drop_eq_getElem_cons hlt]
      rfl
    · rw [if_neg (by simp; omega), List.drop_eq_nil_of_le (by omega)]
      rfl
theorem refRemove_L2 (ha : 0 ≤ a ∧ a < (n : Int)) (W : List (Int × Int)) (hW : W.length ≤ 3000000) (R : List Int) (hR : R.length ≤ 1024) (hr : ∀ z ∈ R, (0 ≤ z ∧ z < (n : Int)) ∧ a ≠ z) (hN : 2048 < N) (cl : List Int) : ∀ (f i : Nat) (g : List (List Bool)), Tab n g → i ≤ W.length → W.length - i < f →
    m_r15_Graph_Remove_L2 N a W R cl f g (i : Int) = some (cl, W, cutR a (joinAll n g (W.drop i)) R)
  | 0, i, _, _, _, hf => by omega
  | f + 1, i, g, hg, hi, hf => by
    rw [m_r15_Graph_Remove_L2.eq_2]
    by_cases hlt : i < W.length
    · rw [if_pos (decide_eq_true (by omega)), at?_lt hlt]
      simp only [Option.bind_some]
      rw [refJoin_eq hg]
      simp only [Option.bind_some]
      rw [wS (by omega), refRemove_L2 ha W hW R hR hr hN cl f (i + 1) _ hg.join (by omega) (by omega), List.drop_eq_getElem_cons hlt]
      rfl
    · rw [if_neg (by simp; omega), List.drop_eq_nil_of_le (by omega)]
      have := refRemove_L3 (N := N) ha W R hR hr cl N 0 g hg (by omega) (by omega)
      rw [List.drop_zero] at this
      exact this
theorem refRemove_L1 (h : Gr n t) (hn : n ≤ 1024) (hN : 3000000 < N) (ha : 0 ≤ a ∧ a < (n : Int)) : ∀ (f i : Nat), i ≤ n → n - i < f →
    m_r15_Graph_Remove_L1 N t a (wantL t (near n t a)) (near n t a) f (i : Int) (((pts n).take i).filter fun b => decide (b ∈ near n t a) || decide (b = a)) = some (insS a (near n t a), wantL t (near n t a), removeT n t a)
  | 0, i, _, hf => by omega
  | f + 1, i, hi, hf => by
    have hnl := near_len (a := a) h.tab
    rw [m_r15_Graph_Remove_L1.eq_2, h.tab.len]
    by_cases hlt : i < n
    · have e : (pts n).take (i + 1) = (pts n).take i ++ [(i : Int)] := by rw [List.take_add_one, pts_get hlt]; rfl
      have hl : (((pts n).take i).filter fun b => decide (b ∈ near n t a) || decide (b = a)).length ≤ n := Nat.le_trans (List.length_filter_le _ _) (by rw [List.length_take, pts_len]; omega)
      have ih := refRemove_L1 h hn hN ha f (i + 1) (by omega) (by omega)
      rw [e, List.filter_append] at ih
      rw [if_pos (decide_eq_true (by omega)), refIn_eq _ (by omega) (by omega)]
      simp only [Option.bind_some]
      have go : ∀ v : Bool, v = (decide ((i : Int) ∈ near n t a) || decide ((i : Int) = a)) → m_r15_Graph_Remove_J2 (i : Int) (((pts n).take i).filter fun b => decide (b ∈ near n t a) || decide (b = a)) (m_r15_Graph_Remove_L1 N t a (wantL t (near n t a)) (near n t a) f) v = some (insS a (near n t a), wantL t (near n t a), removeT n t a) := fun v hv => by
        unfold m_r15_Graph_Remove_J2 m_r15_Graph_Remove_J1
        cases v
        · rw [if_neg (by decide), wS (by omega)]
          rw [List.filter_cons_of_neg (by rw [← hv]; decide), List.filter_nil, List.append_nil] at ih
          exact ih
        · rw [if_pos rfl, chk_pos (by simp only [List.length_singleton, maxLen]; omega), wS (by omega)]
          rw [List.filter_cons_of_pos (by rw [← hv]), List.filter_nil] at ih
          exact ih
      by_cases hm : (i : Int) ∈ near n t a
      · rw [if_pos (decide_eq_true hm)]; exact go true (by rw [decide_eq_true hm]; rfl)
      · rw [if_neg (by simpa using hm)]; exact go _ (by rw [decide_eq_false hm]; rfl)
    · obtain rfl : i = n := by omega
      rw [if_neg (by simp), List.take_of_length_le (by rw [pts_len]; exact Nat.le_refl _), ← insS_filter h ha]
      have hwl := wantL_len (t := t) (near i t a)
      have hw2 : (wantL t (near i t a)).length ≤ 1024 * 1024 := Nat.le_trans hwl (Nat.mul_le_mul (by omega) (by omega))
      have := refRemove_L2 (N := N) ha (wantL t (near i t a)) (by omega) (near i t a) (by omega) (fun z hz => ⟨near_range h.tab z hz, fun e => by have := near_mem.1 hz; rw [← e, h.irr] at this; cases this⟩) (by omega) (insS a (near i t a)) N 0 t h.tab (by omega) (by omega)
      rw [List.drop_zero] at this
      refine Eq.trans this ?_
      rw [cut_remove h ha]
theorem refRemove_eq (h : Gr n t) (hn : n ≤ 1024) (hN : 3000000 < N) (ha : 0 ≤ a ∧ a < (n : Int)) : m_r15_Graph_Remove N t a = some (insS a (near n t a), wantL t (near n t a), removeT n t a) := by
  unfold m_r15_Graph_Remove
  rw [point_eq h.tab]
  simp only [Option.bind_some]
  rw [if_neg (by simp [ha]), refWant_eq h.tab hn (by omega), refNear_eq h.tab hn (by omega)]
  simp only [Option.bind_some]
  have := refRemove_L1 (N := N) h hn hN ha N 0 (by omega) (by omega)
  simpa using this

theorem twin_L2 (h : Tab n t) (hn : n ≤ 1024) : ∀ (f i : Nat) (v : List (List Bool)), Tab n v → (∀ j : Nat, j < i → v[j]? = t[j]?) → i ≤ n → n - i < f → m_r15_Graph_Twin_L2 N t f v (i : Int) = some (some t)
  | 0, i, _, _, _, _, hf => by omega
  | f + 1, i, v, hv, hj, hi, hf => by
    rw [m_r15_Graph_Twin_L2.eq_2, h.len]
    by_cases hlt : i < n
    · have hr : (0 : Int) ≤ (i : Int) ∧ (i : Int) < (n : Int) := by omega
      rw [if_pos (decide_eq_true (by omega)), hv.at hr, h.at hr]
      simp only [Option.bind_some]
      have l1 := hv.rowlen hr
      have l2 := h.rowlen hr
      rw [List.take_of_length_le (by omega), List.drop_eq_nil_of_le (by omega), List.append_nil, Int.toNat_natCast, wS (by omega)]
      refine twin_L2 h hn f (i + 1) _ (hv.set _ l2) (fun j hji => ?_) (by omega) (by omega)
      by_cases e : j = i
      · subst e
        rw [List.getElem?_set_self (by rw [hv.len]; exact hlt)]
        have := (at?_some (h.at hr)).2.2
        rw [Int.toNat_natCast] at this
        exact this.symm
      · rw [List.getElem?_set_ne (by omega)]; exact hj j (by omega)
    · rw [if_neg (by simp; omega)]
      congr 2
      refine List.ext_getElem? fun j => ?_
      by_cases hjn : j < n
      · exact hj j (by omega)
      · rw [List.getElem?_eq_none (by rw [hv.len]; omega), List.getElem?_eq_none (by rw [h.len]; omega)]
theorem twin_eq (h : Tab n t) (hn : n ≤ 1024) (hN : 2048 < N) : m_r15_Graph_Twin N t = some (some t) := by
  unfold m_r15_Graph_Twin
  rw [h.len, refNew_eq hn hN]
  simp only [Option.bind_some]
  unfold optC
  simp only []
  exact twin_L2 h hn N 0 _ Gr.none.tab (fun j hj => by omega) (by omega) (by omega)

/-! ### why a list may not be, of the document -/
theorem refListed_L2 (L : List Int) (hL : L.length < 17592186044000) (hN : L.length < N) : ∀ (f i : Nat), i ≤ L.length → L.length - i < f → m_r18_listed_L2 N L f (i : Int) = some (if ∀ x ∈ L.drop i, L.count x ≤ 1 then 0 else 40)
  | 0, i, _, hf => by omega
  | f + 1, i, hi, hf => by
    rw [m_r18_listed_L2.eq_2]
    by_cases hlt : i < L.length
    · rw [if_pos (decide_eq_true (by omega)), at?_lt hlt]
      simp only [Option.bind_some]
      rw [times_eq L _ hL hN]
      simp only [Option.bind_some]
      rw [List.drop_eq_getElem_cons hlt]
      by_cases hc : 1 < L.count L[i]
      · rw [if_pos (decide_eq_true (by omega)), if_neg (fun e => by have := e _ List.mem_cons_self; omega)]
      · rw [if_neg (by simp; omega), wS (by omega), refListed_L2 L hL hN f (i + 1) (by omega) (by omega)]
        congr 1
        apply ifc
        constructor
        · intro hh y hy
          rcases List.mem_cons.1 hy with rfl | hy
          · omega
          · exact hh y hy
        · exact fun hh y hy => hh y (List.mem_cons_of_mem _ hy)
    · rw [if_neg (by simp; omega), List.drop_eq_nil_of_le (by omega)]
      simp
theorem refListed_L1 (h : Tab n t) (L : List Int) (hL : L.length < 17592186044000) (hN : L.length < N) : ∀ (f i : Nat), i ≤ L.length → L.length - i < f → m_r18_listed_L1 N t L f (i : Int) = some (if ∀ x ∈ L.drop i, 0 ≤ x ∧ x < (n : Int) then (if L.Nodup then 0 else 40) else 3)
  | 0, i, _, hf => by omega
  | f + 1, i, hi, hf => by
    rw [m_r18_listed_L1.eq_2]
    unfold m_r18_listed_J1 m_r15_Graph_Len
    by_cases hlt : i < L.length
    · rw [if_pos (decide_eq_true (by omega)), at?_lt hlt]
      simp only [Option.bind_some]
      rw [List.drop_eq_getElem_cons hlt]
      by_cases h0 : L[i] < 0
      · rw [if_pos (decide_eq_true h0), if_pos trivial, if_neg (fun e => by have := (e _ List.mem_cons_self).1; omega)]
      · rw [if_neg (by simpa using h0), h.len]
        by_cases h1 : (n : Int) ≤ L[i]
        · rw [if_pos (decide_eq_true h1), if_neg (fun e => by have := (e _ List.mem_cons_self).2; omega)]
        · rw [if_neg (by simpa using h1), wS (by omega), refListed_L1 h L hL hN f (i + 1) (by omega) (by omega)]
          congr 1
          apply ifc
          constructor
          · intro hh y hy
            rcases List.mem_cons.1 hy with rfl | hy
            · omega
            · exact hh y hy
          · exact fun hh y hy => hh y (List.mem_cons_of_mem _ hy)
    · rw [if_neg (by simp; omega), List.drop_eq_nil_of_le (by omega)]
      have := refListed_L2 (N := N) L hL hN N 0 (by omega) (by omega)
      rw [List.drop_zero] at this
      refine Eq.trans this ?_
      rw [if_pos (by simp : ∀ x ∈ ([] : List Int), 0 ≤ x ∧ x < (n : Int))]
      congr 1
      apply ifc
      constructor
      · intro hh
        refine List.nodup_iff_count.2 fun x => ?_
        by_cases hx : x ∈ L
        · exact hh x hx
        · rw [List.count_eq_zero_of_not_mem hx]; omega
      · exact fun hh x _ => List.nodup_iff_count.1 hh x
theorem refListed_eq (h : Tab n t) (L : List Int) (hL : L.length < 17592186044000) (hN : L.length < N) : m_r18_listed N t L = some (wrongC n L) := by
  have := refListed_L1 (N := N) h L hL hN N 0 (by omega) (by omega)
  rw [List.drop_zero] at this
  exact this

/-! ### cliques and width, of the document -/
theorem refCliques_L2 (hn : n ≤ 1024) (hN : 3000000 < N) (L : List Int) (hL : L.length ≤ 1024) (hr : ∀ x ∈ L, 0 ≤ x ∧ x < (n : Int)) : ∀ (f i : Nat) (v : List (List Bool)) (all : List (List Int)), Gr n v → i ≤ L.length → L.length - i < f → all.length ≤ i →
    m_r18_Cliques_L2 N L f v all (i : Int) = some (all ++ clq n v (L.drop i), 0)
  | 0, i, _, _, _, _, hf, _ => by omega
  | f + 1, i, v, all, hv, hi, hf, hal => by
    rw [m_r18_Cliques_L2.eq_2]
    by_cases hlt : i < L.length
    · have ha := hr _ (List.getElem_mem hlt)
      rw [if_pos (decide_eq_true (by omega)), at?_lt hlt]
      simp only [Option.bind_some]
      rw [refRemove_eq hv hn hN ha]
      simp only [Option.bind_some]
      rw [chk_pos (by simp only [List.length_singleton, maxLen]; omega), wS (by omega), refCliques_L2 hn hN L hL hr f (i + 1) _ _ (hv.remove ha) (by omega) (by omega) (by simp; omega), List.drop_eq_getElem_cons hlt, List.append_assoc]
      rfl
    · rw [if_neg (by simp; omega), List.drop_eq_nil_of_le (by omega)]
      simp [clq]
theorem refCliques_eq (h : Gr n t) (hn : n ≤ 1024) (hN : 3000000 < N) (l : List Int) (hl : l.length < 17592186044000) (hN2 : l.length < N) : m_r18_Cliques N t l = some (clqs n t l) := by
  unfold m_r18_Cliques clqs
  rw [refListed_eq h.tab l hl hN2]
  simp only [Option.bind_some]
  by_cases h0 : wrongC n l = 0
  · have hsh := short (wrong_zero.1 h0).1 (wrong_zero.1 h0).2
    rw [if_neg (by simp [h0]), if_pos h0, twin_eq h.tab hn (by omega)]
    simp only [Option.bind_some]
    unfold optC
    simp only []
    have := refCliques_L2 (N := N) hn hN l (by omega) (wrong_zero.1 h0).1 N 0 t [] h (by omega) (by omega) (by simp)
    simpa using this
  · rw [if_pos (by simp [h0]), if_neg h0]
theorem refWidth_L1 (r : List (List Int) × Int) (hr : r.1.length ≤ 1048576) : ∀ (f i m : Nat), i ≤ r.1.length → r.1.length - i < f → m_r18_Width_L1 N r f (m : Int) (i : Int) = some (IntKind.i64.wrap ((most (r.1.drop i) m : Nat) - 1 : Int), r.2)
  | 0, i, _, _, hf => by omega
  | f + 1, i, m, hi, hf => by
    rw [m_r18_Width_L1.eq_2]
    by_cases hlt : i < r.1.length
    · rw [if_pos (decide_eq_true (by omega)), at?_lt hlt]
      simp only [Option.bind_some]
      rw [show (if (r.1[i].length : Int) > (m : Int) then (r.1[i].length : Int) else (m : Int)) = ((max m r.1[i].length : Nat) : Int) by split <;> omega, wS (by omega), refWidth_L1 r hr f (i + 1) _ (by omega) (by omega), List.drop_eq_getElem_cons hlt]
      rfl
    · rw [if_neg (by simp; omega), List.drop_eq_nil_of_le (by omega)]
      rfl
theorem clqs_len (l : List Int) : (clqs n t l).1.length ≤ n := by
  unfold clqs
  by_cases h0 : wrongC n l = 0
  · rw [if_pos h0]; show (clq n t l).length ≤ n
    rw [clq_len]; exact short (wrong_zero.1 h0).1 (wrong_zero.1 h0).2
  · rw [if_neg h0]; simp
theorem refWidth_eq (h : Gr n t) (hn : n ≤ 1024) (hN : 3000000 < N) (l : List Int) (hl : l.length < 17592186044000) (hN2 : l.length < N) : m_r18_Width N t l = some (IntKind.i64.wrap ((most (clqs n t l).1 1 : Nat) - 1 : Int), (clqs n t l).2) := by
  unfold m_r18_Width
  rw [refCliques_eq h hn hN l hl hN2]
  simp only [Option.bind_some]
  have := clqs_len (n := n) (t := t) l
  exact refWidth_L1 (N := N) _ (by omega) N 0 1 (by omega) (by omega)
end


section
variable {n N : Nat} {t u : List (List Bool)} {a b x y : Int}
end


set_option maxRecDepth 100000 in
theorem el3_37 : ElemOk Try.prog 3 1 8 := ⟨Try.t3, _, rfl, rfl, rfl, rfl, rfl⟩
set_option maxRecDepth 100000 in
theorem el22_37 : ElemOk Try.prog 22 1 24 := ⟨Try.t22, _, rfl, rfl, rfl, rfl, rfl⟩

def m_r15_Apart_L2 (N : Nat) (i_7 : Int) (kk_L1 : ((List (List Int × Bool)) → Int → Option (Bool × List (List Int × Bool)))) : Nat → (List (List Int × Bool)) → Int → Option (Bool × List (List Int × Bool))
  | 0, _, _ => none
  | n_9 + 1, l_12, k_15 => (at? l_12 i_7).bind fun e_17 => chk (e_17.2 = false) (if (decide (k_15 < (e_17.1.length : Int))) = true then ((at? e_17.1 k_15).bind fun e_32 => (some (e_17.1.set (Int.toNat k_15) (IntKind.i64.wrap ((-1000) - i_7)))).bind fun xs_39 => (m_r15_Apart_L2 N i_7 kk_L1 n_9) (l_12.set (Int.toNat i_7) (xs_39, false)) (IntKind.i64.wrap (k_15 + 1))) else (kk_L1 l_12 (IntKind.i64.wrap (i_7 + 1))))

def m_r15_Apart_L4 (N : Nat) (l_45 : List (List Int × Bool)) (long_48 : List (List Int)) (i_52 : Int) (kk_L3 : ((List (List Int × Bool)) → (List (List Int)) → Int → Option (Bool × List (List Int × Bool)))) (e_54 : (List Int × Bool)) : Nat → (List Int) → Int → Option (Bool × List (List Int × Bool))
  | 0, _, _ => none
  | n_64 + 1, l_70, k_72 => if (decide (k_72 < 40)) = true then (chk ((l_70.length + [IntKind.i64.wrap ((-5000) - i_52)].length) * 8 ≤ 140737488355328 ∧ l_70.length + [IntKind.i64.wrap ((-5000) - i_52)].length ≤ maxLen) ((m_r15_Apart_L4 N l_45 long_48 i_52 kk_L3 e_54 n_64) (l_70 ++ [IntKind.i64.wrap ((-5000) - i_52)]) (IntKind.i64.wrap (k_72 + 1)))) else (chk ((long_48.length + [l_70].length) * 24 ≤ 140737488355328 ∧ long_48.length + [l_70].length ≤ maxLen) (kk_L3 (l_45.set (Int.toNat i_52) (e_54.1, true)) (long_48 ++ [l_70]) (IntKind.i64.wrap (i_52 + 1))))

def m_r15_Apart_J1 (k_106 : Int) (kk_L6 : (Int → Option (Bool × List (List Int × Bool)))) : Option (Bool × List (List Int × Bool)) :=
  kk_L6 (IntKind.i64.wrap (k_106 + 1))

def m_r15_Apart_J2 (l_45 : List (List Int × Bool)) (k_106 : Int) (kk_L6 : (Int → Option (Bool × List (List Int × Bool)))) (v_157 : Bool) : Option (Bool × List (List Int × Bool)) :=
  if v_157 = true then (some (false, l_45)) else (m_r15_Apart_J1 k_106 kk_L6)

def m_r15_Apart_L6 (N : Nat) (l_45 : List (List Int × Bool)) (long_48 : List (List Int)) (i_102 : Int) (kk_L5 : (Int → Option (Bool × List (List Int × Bool)))) : Nat → Int → Option (Bool × List (List Int × Bool))
  | 0, _ => none
  | n_103 + 1, k_106 => (at? long_48 i_102).bind fun e_107 => if (decide (k_106 < (e_107.length : Int))) = true then ((at? l_45 i_102).bind fun e_116 => chk (e_116.2 = true) (if (decide (k_106 < (e_116.1.length : Int))) = true then ((at? e_116.1 k_106).bind fun e_164 => if (!decide (e_164 = (IntKind.i64.wrap ((-1000) - i_102)))) = true then (m_r15_Apart_J2 l_45 k_106 (m_r15_Apart_L6 N l_45 long_48 i_102 kk_L5 n_103) true) else ((at? e_107 k_106).bind fun e_172 => if (!decide (e_172 = (IntKind.i64.wrap ((-1000) - i_102)))) = true then (m_r15_Apart_J2 l_45 k_106 (m_r15_Apart_L6 N l_45 long_48 i_102 kk_L5 n_103) true) else (if (decide ((e_116.1.length : Int) ≤ k_106)) = true then (m_r15_Apart_J2 l_45 k_106 (m_r15_Apart_L6 N l_45 long_48 i_102 kk_L5 n_103) (!decide (e_172 = (IntKind.i64.wrap ((-5000) - i_102))))) else (m_r15_Apart_J2 l_45 k_106 (m_r15_Apart_L6 N l_45 long_48 i_102 kk_L5 n_103) false)))) else (if (decide ((e_116.1.length : Int) ≤ k_106)) = true then ((at? e_107 k_106).bind fun e_187 => m_r15_Apart_J2 l_45 k_106 (m_r15_Apart_L6 N l_45 long_48 i_102 kk_L5 n_103) (!decide (e_187 = (IntKind.i64.wrap ((-5000) - i_102))))) else (m_r15_Apart_J2 l_45 k_106 (m_r15_Apart_L6 N l_45 long_48 i_102 kk_L5 n_103) false)))) else (kk_L5 (IntKind.i64.wrap (i_102 + 1)))

def m_r15_Apart_L5 (N : Nat) (l_45 : List (List Int × Bool)) (long_48 : List (List Int)) : Nat → Int → Option (Bool × List (List Int × Bool))
  | 0, _ => none
  | n_99 + 1, i_102 => if (decide (i_102 < (l_45.length : Int))) = true then (m_r15_Apart_L6 N l_45 long_48 i_102 (m_r15_Apart_L5 N l_45 long_48 n_99) N 0) else (some (true, l_45))

def m_r15_Apart_L3 (N : Nat)  : Nat → (List (List Int × Bool)) → (List (List Int)) → Int → Option (Bool × List (List Int × Bool))
  | 0, _, _, _ => none
  | n_42 + 1, l_45, long_48, i_52 => if (decide (i_52 < (l_45.length : Int))) = true then ((at? l_45 i_52).bind fun e_54 => chk (e_54.2 = false) (m_r15_Apart_L4 N l_45 long_48 i_52 (m_r15_Apart_L3 N n_42) e_54 N e_54.1 0)) else (m_r15_Apart_L5 N l_45 long_48 N 0)

def m_r15_Apart_L1 (N : Nat)  : Nat → (List (List Int × Bool)) → Int → Option (Bool × List (List Int × Bool))
  | 0, _, _ => none
  | n_1 + 1, l_4, i_7 => if (decide (i_7 < (l_4.length : Int))) = true then (m_r15_Apart_L2 N i_7 (m_r15_Apart_L1 N n_1) N l_4 0) else (m_r15_Apart_L3 N N l_4 ([] : List (List Int)) 0)

def m_r15_Apart (N : Nat) (p0_l : List (List Int × Bool)) : Option (Bool × List (List Int × Bool)) :=
  m_r15_Apart_L1 N N p0_l 0

set_option maxRecDepth 100000 in
set_option maxHeartbeats 2000000 in
theorem c_r15_Apart (N : Nat) (col : Col) (w0 : World) (qc0 : Nat) (hd : dstB [qc0] = true) (a0 : Option Addr) (cap0 : Nat) (p0_l : List (List Int × Bool)) (h0 : Own (Rep.half 3 (Rep.int .i64)) 22 qc0 col w0 a0 cap0 p0_l) (r : (Bool × List (List Int × Bool))) (hm : m_r15_Apart N p0_l = some r) :
    Calls Try.prog 37 #[(.slice a0 p0_l.length cap0)] w0 (fun e w' => ∃ (col' : Col), e = .returned ((.bool r.1)) ∧ KeepP (pS [qc0]) col w0 col' w' ∧ Own (Rep.half 3 (Rep.int .i64)) 22 qc0 col' w' a0 cap0 r.2 ∧ r.2.length = p0_l.length) := by
  refine calls_of1 2 (m := 122) (args := [(.slice a0 p0_l.length cap0)]) Try.func37 rfl rfl rfl rfl rfl ?_
  rw [m_r15_Apart.eq_1] at hm
  have hst := St.startL (l := [qc0]) rfl col w0
  replace h0 := h0.startL (dst_nz hd 0 rfl) (dst_ix hd 0 rfl)
  refine wseq ?_
  refine wregion ?_
  refine lv (v := (.bool false)) rfl rfl (r_assign rfl) ?_
  refine lnil ?_
  refine wseq ?_
  refine wseq ?_
  refine wregion ?_
  refine lv (v := (.int .i64 0)) rfl rfl (r_assign rfl) ?_
  refine lnil ?_
  refine wblock ?_
  refine wloop (fun n f w_2 => ∃ (col_3 : Col) (l_4 : List (List Int × Bool)) (i_7 : Int) (n_1 : Nat), n_1 = n ∧ m_r15_Apart_L1 N n_1 l_4 i_7 = some r ∧ St w0 (colL [qc0] col) col_3 w_2 ∧ Own (Rep.half 3 (Rep.int .i64)) 22 440 col_3 w_2 a0 cap0 l_4 ∧ l_4.length = p0_l.length ∧ l_4.length = p0_l.length ∧ f 0 = (.slice a0 l_4.length cap0) ∧ f 3 = (.int .i64 i_7) ∧ f 1000000 = (enc [])) N ⟨(colL [qc0] col), p0_l, 0, N, rfl, hm, hst, h0, rfl, rfl, rfl, rfl, rfl⟩ ?_
  clear hm; intro n f w_2 hI
  obtain ⟨col_3, l_4, i_7, n_1, hn, hm, hst, h_5, hlen_6, hlen_8, hs0, hs3, hs1000000⟩ := hI
  subst hn
  refine .ld (d := 0) (v := (.slice a0 l_4.length cap0)) hs0 ?_
  refine .ld (d := 3) (v := (.int .i64 i_7)) hs3 ?_
  refine .ld (d := 1000000) (v := (enc [])) hs1000000 ?_
  clear hs0 hs3 hs1000000
  cases n_1 with
  | zero => rw [m_r15_Apart_L1.eq_1] at hm; cases hm
  | succ n_1 =>
    rw [m_r15_Apart_L1.eq_2] at hm
    refine wseq ?_
    refine wseq ?_
    refine wregion ?_
    refine lv (v := (.int .i64 i_7)) rfl rfl (r_move rfl) ?_
    refine lv (v := (.slice a0 l_4.length cap0)) rfl rfl (r_move rfl) ?_
    refine lv (v := (.int .i64 (l_4.length : Int))) rfl rfl (r_len Try.underlying33 rfl) ?_
    refine lv (v := (.bool (decide (i_7 < (l_4.length : Int))))) rfl rfl (r_lss i_7 (l_4.length : Int) rfl rfl) ?_
    refine lnil ?_
    refine wcond (decide (i_7 < (l_4.length : Int))) rfl (fun hb => ?_) (fun hb => ?_)
    · rw [if_pos hb] at hm
      clear hb
      refine wskip ?_
      refine wseq ?_
      refine wblock ?_
      refine wseq ?_
      refine wregion ?_
      refine lv (v := (.int .i64 0)) rfl rfl (r_assign rfl) ?_
      refine lnil ?_
      refine wblock ?_
      refine wloop (fun n f w_10 => ∃ (col_11 : Col) (l_12 : List (List Int × Bool)) (k_15 : Int) (n_9 : Nat), n_9 = n ∧ m_r15_Apart_L2 N i_7 (m_r15_Apart_L1 N n_1) n_9 l_12 k_15 = some r ∧ St w0 (colL [qc0] col) col_11 w_10 ∧ Own (Rep.half 3 (Rep.int .i64)) 22 440 col_11 w_10 a0 cap0 l_12 ∧ l_12.length = p0_l.length ∧ l_12.length = p0_l.length ∧ f 0 = (.slice a0 l_12.length cap0) ∧ f 3 = (.int .i64 i_7) ∧ f 4 = (.int .i64 k_15) ∧ f 1000000 = (enc [])) N ⟨col_3, l_4, 0, N, rfl, hm, hst, h_5, hlen_6, hlen_8, rfl, rfl, rfl, rfl⟩ ?_
      clear hm; intro n f w_10 hI
      obtain ⟨col_11, l_12, k_15, n_9, hn, hm, hst, h_13, hlen_14, hlen_16, hs0, hs3, hs4, hs1000000⟩ := hI
      subst hn
      refine .ld (d := 0) (v := (.slice a0 l_12.length cap0)) hs0 ?_
      refine .ld (d := 3) (v := (.int .i64 i_7)) hs3 ?_
      refine .ld (d := 4) (v := (.int .i64 k_15)) hs4 ?_
      refine .ld (d := 1000000) (v := (enc [])) hs1000000 ?_
      clear hs0 hs3 hs4 hs1000000
      cases n_9 with
      | zero => rw [m_r15_Apart_L2.eq_1] at hm; cases hm
      | succ n_9 =>
        rw [m_r15_Apart_L2.eq_2] at hm
        refine wseq ?_
        refine wseq ?_
        refine wregion ?_
        refine lv (v := (.int .i64 k_15)) rfl rfl (r_move rfl) ?_
        refine lv (v := (.slice a0 l_12.length cap0)) rfl rfl (r_move rfl) ?_
        refine lv (v := (.int .i64 i_7)) rfl rfl (r_move rfl) ?_
        obtain ⟨e_17, hj_18, hm⟩ := bind_some hm
        refine lv (v := (sptr a0 (Int.toNat i_7 * 1))) rfl rfl (r_idx Try.underlying33 Try.sizeOf22 rfl rfl (at?_some hj_18).1 (at?_some hj_18).2.1 (h_13.addr hj_18)) ?_
        obtain ⟨hfl_19, hm⟩ := chk_some hm
        obtain ⟨_, hr_20, hA_21⟩ := h_13.atN hj_18
        obtain ⟨a_22, cap_23, rfl, h_24⟩ := hr_20.halfO hfl_19
        refine lv (v := (.slice a_22 e_17.1.length cap_23)) rfl rfl (r_ld Try.isAgg22 rfl hA_21.one) ?_
        refine lv (v := (.int .i64 (e_17.1.length : Int))) rfl rfl (r_len Try.underlying22 rfl) ?_
        refine lv (v := (.bool (decide (k_15 < (e_17.1.length : Int))))) rfl rfl (r_lss k_15 (e_17.1.length : Int) rfl rfl) ?_
        refine lnil ?_
        refine wcond (decide (k_15 < (e_17.1.length : Int))) rfl (fun hb => ?_) (fun hb => ?_)
        · rw [if_pos hb] at hm
          clear hb
          refine wskip ?_
          refine wseq ?_
          refine wblock ?_
          refine wregion ?_
          refine lv (v := (.slice a0 l_12.length cap0)) rfl rfl (r_move rfl) ?_
          refine lv (v := (.int .i64 i_7)) rfl rfl (r_move rfl) ?_
          refine lv (v := (sptr a0 (Int.toNat i_7 * 1))) rfl rfl (r_idx Try.underlying33 Try.sizeOf22 rfl rfl (at?_some hj_18).1 (at?_some hj_18).2.1 (h_13.addr hj_18)) ?_
          obtain ⟨_, col_28, hk_26, hH_27, hs_25⟩ := h_13.open_ 1 (by decide) hj_18
          replace hst := hst.kpp hk_26 rfl rfl
          obtain ⟨a_29, cap_30, rfl, h_31⟩ := hs_25.halfO hfl_19
          clear h_13
          replace hH_27 : Hole (Rep.half 3 (Rep.int .i64)) 22 440 col_28 w_10 a0 cap0 l_12 (Int.toNat i_7) [(.slice a_29 e_17.1.length cap_30)] := hH_27
          refine lv (v := (.slice a_29 e_17.1.length cap_30)) rfl rfl (r_ld Try.isAgg22 rfl hH_27.atN.one) ?_
          refine lv (v := (.int .i64 k_15)) rfl rfl (r_move rfl) ?_
          refine lv (v := (.int .i64 i_7)) rfl rfl (r_move rfl) ?_
          refine lv (v := (.int .i64 (IntKind.i64.wrap ((-1000) - i_7)))) rfl rfl (r_sub (-1000) i_7 rfl rfl) ?_
          obtain ⟨e_32, hj_33, hm⟩ := bind_some hm
          refine lv (v := (sptr a_29 (Int.toNat k_15 * 1))) rfl rfl (r_idx Try.underlying22 Try.sizeOf3 rfl rfl (at?_some hj_33).1 (at?_some hj_33).2.1 (h_31.addr hj_33)) ?_
          obtain ⟨xs_39, hz_38, hm⟩ := bind_some hm
          have hz_38 : xs_39 = e_17.1.set (Int.toNat k_15) (IntKind.i64.wrap ((-1000) - i_7)) := (Option.some.inj hz_38).symm
          refine l_store (x1 := IntKind.i64.wrap ((-1000) - i_7)) (v := (.int .i64 (IntKind.i64.wrap ((-1000) - i_7)))) h_31 hj_33 rfl Try.sizeOf3 (rd_int .i64 (IntKind.i64.wrap ((-1000) - i_7))) rfl rfl (by decide) ?_
          intro w_34 hk_35 hs_36 h_37
          rw [← hz_38] at h_37
          replace hH_27 := hH_27.kp hk_35 (by decide) (by decide)
          replace hst := hst.kp hk_35 hs_36 (by decide) (by decide)
          replace hH_27 : Hole (Rep.half 3 (Rep.int .i64)) 22 440 col_28 w_34 a0 cap0 l_12 (Int.toNat i_7) [(.slice a_29 xs_39.length cap_30)] := by rw [← (show e_17.1.length = xs_39.length by rw [hz_38, List.length_set])]; exact hH_27
          clear h_31
          have h_40 := hH_27.close h_37.hasHalf (by decide) (by decide)
          have hlen_41 : (l_12.set (Int.toNat i_7) (xs_39, false)).length = p0_l.length := by rw [List.length_set]; exact hlen_14
          replace hst := hst.recol 1 440 (by decide) (by decide)
          clear hH_27
          refine .ld (d := 0) (v := (.slice a0 ((l_12.set (Int.toNat i_7) (xs_39, false)).length) cap0)) (congrArg (fun n => Value.slice a0 n cap0) (show l_12.length = (l_12.set (Int.toNat i_7) (xs_39, false)).length by simp only [List.length_set])) ?_
          refine lnil ?_
          refine wregion ?_
          refine lv (v := (.int .i64 k_15)) rfl rfl (r_move rfl) ?_
          refine lv (v := (.int .i64 (IntKind.i64.wrap (k_15 + 1)))) rfl rfl (r_add k_15 1 rfl rfl) ?_
          refine lv (v := (.int .i64 (IntKind.i64.wrap (k_15 + 1)))) rfl rfl (r_assign rfl) ?_
          refine lnil ?_
          exact ⟨n_9, by omega, ⟨(rcC 1 440 col_28), (l_12.set (Int.toNat i_7) (xs_39, false)), (IntKind.i64.wrap (k_15 + 1)), n_9, rfl, hm, hst, h_40, hlen_41, hlen_41, rfl, rfl, rfl, rfl⟩⟩
        · rw [if_neg (by rw [hb]; decide)] at hm
          clear hb
          refine wexit (inB_hit ?_)
          refine wregion ?_
          refine lv (v := (.int .i64 i_7)) rfl rfl (r_move rfl) ?_
          refine lv (v := (.int .i64 (IntKind.i64.wrap (i_7 + 1)))) rfl rfl (r_add i_7 1 rfl rfl) ?_
          refine lv (v := (.int .i64 (IntKind.i64.wrap (i_7 + 1)))) rfl rfl (r_assign rfl) ?_
          refine lnil ?_
          exact ⟨n_1, by omega, ⟨col_11, l_12, (IntKind.i64.wrap (i_7 + 1)), n_1, rfl, hm, hst, h_13, hlen_14, hlen_16, rfl, rfl, rfl⟩⟩
    · rw [if_neg (by rw [hb]; decide)] at hm
      clear hb
      refine wexit (inB_hit ?_)
      refine wseq ?_
      refine wregion ?_
      refine lv (v := (.slice none (([] : List (List Int)).length) 0)) rfl rfl (r_assign rfl) ?_
      refine lnil ?_
      refine wseq ?_
      refine wseq ?_
      refine wregion ?_
      refine lv (v := (.int .i64 0)) rfl rfl (r_assign rfl) ?_
      refine lnil ?_
      refine wblock ?_
      refine wloop (fun n f w_43 => ∃ (col_44 : Col) (l_45 : List (List Int × Bool)) (a_49 : Option Addr) (cap_50 : Nat) (long_48 : List (List Int)) (i_52 : Int) (n_42 : Nat), n_42 = n ∧ m_r15_Apart_L3 N n_42 l_45 long_48 i_52 = some r ∧ St w0 (colL [qc0] col) col_44 w_43 ∧ Own (Rep.half 3 (Rep.int .i64)) 22 440 col_44 w_43 a0 cap0 l_45 ∧ l_45.length = p0_l.length ∧ Own (Rep.slice (Rep.int .i64)) 22 2 col_44 w_43 a_49 cap_50 long_48 ∧ l_45.length = p0_l.length ∧ f 0 = (.slice a0 l_45.length cap0) ∧ f 5 = (.slice a_49 long_48.length cap_50) ∧ f 6 = (.int .i64 i_52) ∧ f 1000000 = (enc [])) N ⟨col_3, l_4, none, 0, ([] : List (List Int)), 0, N, rfl, hm, hst, h_5, hlen_6, Own.nil, hlen_8, rfl, rfl, rfl, rfl⟩ ?_
      clear hm; intro n f w_43 hI
      obtain ⟨col_44, l_45, a_49, cap_50, long_48, i_52, n_42, hn, hm, hst, h_46, hlen_47, h_51, hlen_53, hs0, hs5, hs6, hs1000000⟩ := hI
      subst hn
      refine .ld (d := 0) (v := (.slice a0 l_45.length cap0)) hs0 ?_
      refine .ld (d := 5) (v := (.slice a_49 long_48.length cap_50)) hs5 ?_
      refine .ld (d := 6) (v := (.int .i64 i_52)) hs6 ?_
      refine .ld (d := 1000000) (v := (enc [])) hs1000000 ?_
      clear hs0 hs5 hs6 hs1000000
      cases n_42 with
      | zero => rw [m_r15_Apart_L3.eq_1] at hm; cases hm
      | succ n_42 =>
        rw [m_r15_Apart_L3.eq_2] at hm
        refine wseq ?_
        refine wseq ?_
        refine wregion ?_
        refine lv (v := (.int .i64 i_52)) rfl rfl (r_move rfl) ?_
        refine lv (v := (.slice a0 l_45.length cap0)) rfl rfl (r_move rfl) ?_
        refine lv (v := (.int .i64 (l_45.length : Int))) rfl rfl (r_len Try.underlying33 rfl) ?_
        refine lv (v := (.bool (decide (i_52 < (l_45.length : Int))))) rfl rfl (r_lss i_52 (l_45.length : Int) rfl rfl) ?_
        refine lnil ?_
        refine wcond (decide (i_52 < (l_45.length : Int))) rfl (fun hb => ?_) (fun hb => ?_)
        · rw [if_pos hb] at hm
          clear hb
          refine wskip ?_
          refine wseq ?_
          refine wblock ?_
          refine wseq ?_
          refine wregion ?_
          refine lv (v := (.slice a0 l_45.length cap0)) rfl rfl (r_move rfl) ?_
          refine lv (v := (.int .i64 i_52)) rfl rfl (r_move rfl) ?_
          obtain ⟨e_54, hj_55, hm⟩ := bind_some hm
          refine lv (v := (sptr a0 (Int.toNat i_52 * 1))) rfl rfl (r_idx Try.underlying33 Try.sizeOf22 rfl rfl (at?_some hj_55).1 (at?_some hj_55).2.1 (h_46.addr hj_55)) ?_
          obtain ⟨hfl_56, hm⟩ := chk_some hm
          obtain ⟨_, col_60, hk_58, hH_59, hs_57⟩ := h_46.open_ 3 (by decide) hj_55
          replace h_51 := h_51.kpp hk_58 rfl rfl
          replace hst := hst.kpp hk_58 rfl rfl
          obtain ⟨a_61, cap_62, rfl, h_63⟩ := hs_57.halfO hfl_56
          clear h_46
          replace hH_59 : Hole (Rep.half 3 (Rep.int .i64)) 22 440 col_60 w_43 a0 cap0 l_45 (Int.toNat i_52) [(.slice a_61 e_54.1.length cap_62)] := hH_59
          refine lv (v := (.slice a_61 e_54.1.length cap_62)) rfl rfl (r_ld Try.isAgg22 rfl hH_59.atN.one) ?_
          refine lv (v := (.slice a_61 e_54.1.length cap_62)) rfl rfl (r_assign rfl) ?_
          refine lnil ?_
          refine wseq ?_
          refine wseq ?_
          refine wregion ?_
          refine lv (v := (.int .i64 0)) rfl rfl (r_assign rfl) ?_
          refine lnil ?_
          refine wblock ?_
          have hE_65 := h_63.ex
          clear h_63
          refine wloop (fun n f w_66 => ∃ (col_67 : Col) (a_68 : Option Addr) (cap_69 : Nat) (l_70 : List Int) (k_72 : Int) (n_64 : Nat), n_64 = n ∧ m_r15_Apart_L4 N l_45 long_48 i_52 (m_r15_Apart_L3 N n_42) e_54 n_64 l_70 k_72 = some r ∧ St w0 (colL [qc0] col) col_67 w_66 ∧ Ex (Rep.int .i64) 3 3 col_67 w_66 a_61 cap_62 e_54.1 a_68 cap_69 l_70 ∧ Hole (Rep.half 3 (Rep.int .i64)) 22 440 col_67 w_66 a0 cap0 l_45 (Int.toNat i_52) [(.slice a_61 e_54.1.length cap_62)] ∧ Own (Rep.slice (Rep.int .i64)) 22 2 col_67 w_66 a_49 cap_50 long_48 ∧ f 0 = (.slice a0 l_45.length cap0) ∧ f 5 = (.slice a_49 long_48.length cap_50) ∧ f 6 = (.int .i64 i_52) ∧ f 7 = (.slice a_68 l_70.length cap_69) ∧ f 8 = (.int .i64 k_72) ∧ f 1000000 = (enc [])) N ⟨col_60, a_61, cap_62, e_54.1, 0, N, rfl, hm, hst, hE_65, hH_59, h_51, rfl, rfl, rfl, rfl, rfl, rfl⟩ ?_
          clear hm; intro n f w_66 hI
          obtain ⟨col_67, a_68, cap_69, l_70, k_72, n_64, hn, hm, hst, hE_71, hH_59, h_51, hs0, hs5, hs6, hs7, hs8, hs1000000⟩ := hI
          subst hn
          refine .ld (d := 0) (v := (.slice a0 l_45.length cap0)) hs0 ?_
          refine .ld (d := 5) (v := (.slice a_49 long_48.length cap_50)) hs5 ?_
          refine .ld (d := 6) (v := (.int .i64 i_52)) hs6 ?_
          refine .ld (d := 7) (v := (.slice a_68 l_70.length cap_69)) hs7 ?_
          refine .ld (d := 8) (v := (.int .i64 k_72)) hs8 ?_
          refine .ld (d := 1000000) (v := (enc [])) hs1000000 ?_
          clear hs0 hs5 hs6 hs7 hs8 hs1000000
          cases n_64 with
          | zero => rw [m_r15_Apart_L4.eq_1] at hm; cases hm
          | succ n_64 =>
            rw [m_r15_Apart_L4.eq_2] at hm
            refine wseq ?_
            refine wseq ?_
            refine wregion ?_
            refine lv (v := (.int .i64 k_72)) rfl rfl (r_move rfl) ?_
            refine lv (v := (.bool (decide (k_72 < 40)))) rfl rfl (r_lss k_72 40 rfl rfl) ?_
            refine lnil ?_
            refine wcond (decide (k_72 < 40)) rfl (fun hb => ?_) (fun hb => ?_)
            · rw [if_pos hb] at hm
              clear hb
              refine wskip ?_
              refine wseq ?_
              refine wblock ?_
              refine wregion ?_
              refine lv (v := (.slice a_68 l_70.length cap_69)) rfl rfl (r_move rfl) ?_
              refine lv (v := (.int .i64 i_52)) rfl rfl (r_move rfl) ?_
              refine lv (v := (.int .i64 (IntKind.i64.wrap ((-5000) - i_52)))) rfl rfl (r_sub (-5000) i_52 rfl rfl) ?_
              refine l_lit (col := col_67) (r := (Rep.int .i64)) (xs := [IntKind.i64.wrap ((-5000) - i_52)]) [(.int .i64 (IntKind.i64.wrap ((-5000) - i_52)))] 4 rfl Try.underlying22 el3_37 rfl rfl rfl rfl rfl rfl (by intro v hv; simp only [List.mem_cons, List.not_mem_nil, or_false] at hv; subst hv; rfl) (RowsH.ofF (Rows.consF (r := (Rep.int .i64)) (x := IntKind.i64.wrap ((-5000) - i_52)) (cs := [(.int .i64 (IntKind.i64.wrap ((-5000) - i_52)))]) (rd_int .i64 (IntKind.i64.wrap ((-5000) - i_52))) Rows.nil0)) ?_
              intro a_73 w_74 col_75 hg_76 h_77
              replace hH_59 := hH_59.gr hg_76
              replace hE_71 := hE_71.gr hg_76
              replace h_51 := h_51.gr hg_76
              replace hst := hst.grow hg_76
              obtain ⟨hb_78, hm⟩ := chk_some hm
              refine l_ext (col := col_75) (w := w_74) (r := (Rep.int .i64)) (c := 3) (c2 := 3) hE_71 (h_77.srcN (NB.int (k := .i64))) rfl Try.underlying22 el3_37 rfl rfl rfl hb_78.1 hb_78.2 (by decide) ?_
              intro a_79 cap_80 w_81 col_82 hk_83 h_84
              replace hH_59 := hH_59.kpp hk_83 rfl rfl
              replace h_51 := h_51.kpp hk_83 rfl rfl
              replace h_77 := h_77.kpp hk_83 rfl rfl
              replace hst := hst.kpp hk_83 rfl rfl
              clear hE_71
              refine lv (v := (.slice a_79 ((l_70 ++ [IntKind.i64.wrap ((-5000) - i_52)]).length) cap_80)) rfl rfl (r_assign rfl) ?_
              refine lnil ?_
              refine wregion ?_
              refine lv (v := (.int .i64 k_72)) rfl rfl (r_move rfl) ?_
              refine lv (v := (.int .i64 (IntKind.i64.wrap (k_72 + 1)))) rfl rfl (r_add k_72 1 rfl rfl) ?_
              refine lv (v := (.int .i64 (IntKind.i64.wrap (k_72 + 1)))) rfl rfl (r_assign rfl) ?_
              refine lnil ?_
              exact ⟨n_64, by omega, ⟨col_82, a_79, cap_80, (l_70 ++ [IntKind.i64.wrap ((-5000) - i_52)]), (IntKind.i64.wrap (k_72 + 1)), n_64, rfl, hm, hst, h_84, hH_59, h_51, rfl, rfl, rfl, rfl, rfl, rfl⟩⟩
            · rw [if_neg (by rw [hb]; decide)] at hm
              clear hb
              refine wexit (inB_hit ?_)
              refine wregion ?_
              refine lv (v := (.slice a_49 long_48.length cap_50)) rfl rfl (r_move rfl) ?_
              refine lv (v := (.slice a_68 l_70.length cap_69)) rfl rfl (r_move rfl) ?_
              replace hH_59 := hH_59.froz 3 (by decide)
              have hE_71o := hE_71.old.toSlF (Froz.int .i64)
              replace hE_71 := hE_71.new.toSlF (Froz.int .i64)
              replace h_51 := h_51.froz 3 (by decide)
              replace hst := hst.froz 3 (by decide) (by decide)
              refine l_lit (col := (frC 3 col_67)) (r := (Rep.slice (Rep.int .i64))) (xs := [l_70]) [(.slice a_68 l_70.length cap_69)] 5 rfl Try.underlying33 el22_37 rfl rfl rfl rfl rfl rfl (by intro v hv; simp only [List.mem_cons, List.not_mem_nil, or_false] at hv; subst hv; rfl) (RowsH.ofF (Rows.consF (r := (Rep.slice (Rep.int .i64))) (x := l_70) (cs := [(.slice a_68 l_70.length cap_69)]) (⟨⟨_, _, rfl, hE_71⟩, rfl⟩) Rows.nil0)) ?_
              intro a_85 w_86 col_87 hg_88 h_89
              replace hH_59 := hH_59.gr hg_88
              replace hE_71o := hE_71o.gr hg_88
              replace h_51 := h_51.gr hg_88
              replace hE_71 := hE_71.gr hg_88
              replace hst := hst.grow hg_88
              have h_90 := hH_59.closeF hE_71o.rdHalf
              have hlen_91 : (l_45.set (Int.toNat i_52) (e_54.1, true)).length = p0_l.length := by rw [List.length_set]; exact hlen_47
              clear hH_59
              refine .ld (d := 0) (v := (.slice a0 ((l_45.set (Int.toNat i_52) (e_54.1, true)).length) cap0)) (congrArg (fun n => Value.slice a0 n cap0) (show l_45.length = (l_45.set (Int.toNat i_52) (e_54.1, true)).length by simp only [List.length_set])) ?_
              obtain ⟨hb_92, hm⟩ := chk_some hm
              refine l_appendM (col := col_87) (w := w_86) (r := (Rep.slice (Rep.int .i64))) (c := 2) (c2 := 2) (xs := long_48) (ys := [l_70]) h_51 (h_89.srcN NB.slice) rfl Try.underlying33 el22_37 rfl rfl rfl hb_92.1 hb_92.2 (by decide) ?_
              intro a_93 cap_94 w_95 col_96 hk_97 h_98
              replace h_90 := h_90.kpp hk_97 rfl rfl
              replace h_89 := h_89.kpp hk_97 rfl rfl
              replace hst := hst.kpp hk_97 rfl rfl
              clear h_51
              refine lv (v := (.slice a_93 ((long_48 ++ [l_70]).length) cap_94)) rfl rfl (r_assign rfl) ?_
              refine lnil ?_
              refine wregion ?_
              refine lv (v := (.int .i64 i_52)) rfl rfl (r_move rfl) ?_
              refine lv (v := (.int .i64 (IntKind.i64.wrap (i_52 + 1)))) rfl rfl (r_add i_52 1 rfl rfl) ?_
              refine lv (v := (.int .i64 (IntKind.i64.wrap (i_52 + 1)))) rfl rfl (r_assign rfl) ?_
              refine lnil ?_
              exact ⟨n_42, by omega, ⟨col_96, (l_45.set (Int.toNat i_52) (e_54.1, true)), a_93, cap_94, (long_48 ++ [l_70]), (IntKind.i64.wrap (i_52 + 1)), n_42, rfl, hm, hst, h_90, hlen_91, h_98, hlen_91, rfl, rfl, rfl, rfl⟩⟩
        · rw [if_neg (by rw [hb]; decide)] at hm
          clear hb
          refine wexit (inB_hit ?_)
          refine wseq ?_
          refine wseq ?_
          refine wregion ?_
          refine lv (v := (.int .i64 0)) rfl rfl (r_assign rfl) ?_
          refine lnil ?_
          refine wblock ?_
          refine wloop (fun n f w_100 => ∃ (col_101 : Col) (i_102 : Int) (n_99 : Nat), n_99 = n ∧ m_r15_Apart_L5 N l_45 long_48 n_99 i_102 = some r ∧ St w0 (colL [qc0] col) col_101 w_100 ∧ Own (Rep.half 3 (Rep.int .i64)) 22 440 col_101 w_100 a0 cap0 l_45 ∧ Own (Rep.slice (Rep.int .i64)) 22 2 col_101 w_100 a_49 cap_50 long_48 ∧ f 0 = (.slice a0 l_45.length cap0) ∧ f 5 = (.slice a_49 long_48.length cap_50) ∧ f 9 = (.int .i64 i_102) ∧ f 1000000 = (enc [])) N ⟨col_44, 0, N, rfl, hm, hst, h_46, h_51, rfl, rfl, rfl, rfl⟩ ?_
          clear hm; intro n f w_100 hI
          obtain ⟨col_101, i_102, n_99, hn, hm, hst, h_46, h_51, hs0, hs5, hs9, hs1000000⟩ := hI
          subst hn
          refine .ld (d := 0) (v := (.slice a0 l_45.length cap0)) hs0 ?_
          refine .ld (d := 5) (v := (.slice a_49 long_48.length cap_50)) hs5 ?_
          refine .ld (d := 9) (v := (.int .i64 i_102)) hs9 ?_
          refine .ld (d := 1000000) (v := (enc [])) hs1000000 ?_
          clear hs0 hs5 hs9 hs1000000
          cases n_99 with
          | zero => rw [m_r15_Apart_L5.eq_1] at hm; cases hm
          | succ n_99 =>
            rw [m_r15_Apart_L5.eq_2] at hm
            refine wseq ?_
            refine wseq ?_
            refine wregion ?_
            refine lv (v := (.int .i64 i_102)) rfl rfl (r_move rfl) ?_
            refine lv (v := (.slice a0 l_45.length cap0)) rfl rfl (r_move rfl) ?_
            refine lv (v := (.int .i64 (l_45.length : Int))) rfl rfl (r_len Try.underlying33 rfl) ?_
            refine lv (v := (.bool (decide (i_102 < (l_45.length : Int))))) rfl rfl (r_lss i_102 (l_45.length : Int) rfl rfl) ?_
            refine lnil ?_
            refine wcond (decide (i_102 < (l_45.length : Int))) rfl (fun hb => ?_) (fun hb => ?_)
            · rw [if_pos hb] at hm
              clear hb
              refine wskip ?_
              refine wseq ?_
              refine wblock ?_
              refine wseq ?_
              refine wregion ?_
              refine lv (v := (.int .i64 0)) rfl rfl (r_assign rfl) ?_
              refine lnil ?_
              refine wblock ?_
              refine wloop (fun n f w_104 => ∃ (col_105 : Col) (k_106 : Int) (n_103 : Nat), n_103 = n ∧ m_r15_Apart_L6 N l_45 long_48 i_102 (m_r15_Apart_L5 N l_45 long_48 n_99) n_103 k_106 = some r ∧ St w0 (colL [qc0] col) col_105 w_104 ∧ Own (Rep.half 3 (Rep.int .i64)) 22 440 col_105 w_104 a0 cap0 l_45 ∧ Own (Rep.slice (Rep.int .i64)) 22 2 col_105 w_104 a_49 cap_50 long_48 ∧ f 0 = (.slice a0 l_45.length cap0) ∧ f 10 = (.int .i64 k_106) ∧ f 5 = (.slice a_49 long_48.length cap_50) ∧ f 9 = (.int .i64 i_102) ∧ f 1000000 = (enc [])) N ⟨col_101, 0, N, rfl, hm, hst, h_46, h_51, rfl, rfl, rfl, rfl, rfl⟩ ?_
              clear hm; intro n f w_104 hI
              obtain ⟨col_105, k_106, n_103, hn, hm, hst, h_46, h_51, hs0, hs10, hs5, hs9, hs1000000⟩ := hI
              subst hn
              refine .ld (d := 0) (v := (.slice a0 l_45.length cap0)) hs0 ?_
              refine .ld (d := 10) (v := (.int .i64 k_106)) hs10 ?_
              refine .ld (d := 5) (v := (.slice a_49 long_48.length cap_50)) hs5 ?_
              refine .ld (d := 9) (v := (.int .i64 i_102)) hs9 ?_
              refine .ld (d := 1000000) (v := (enc [])) hs1000000 ?_
              clear hs0 hs10 hs5 hs9 hs1000000
              cases n_103 with
              | zero => rw [m_r15_Apart_L6.eq_1] at hm; cases hm
              | succ n_103 =>
                rw [m_r15_Apart_L6.eq_2] at hm
                refine wseq ?_
                refine wseq ?_
                refine wregion ?_
                refine lv (v := (.int .i64 k_106)) rfl rfl (r_move rfl) ?_
                refine lv (v := (.slice a_49 long_48.length cap_50)) rfl rfl (r_move rfl) ?_
                refine lv (v := (.int .i64 i_102)) rfl rfl (r_move rfl) ?_
                obtain ⟨e_107, hj_108, hm⟩ := bind_some hm
                refine lv (v := (sptr a_49 (Int.toNat i_102 * 1))) rfl rfl (r_idx Try.underlying33 Try.sizeOf22 rfl rfl (at?_some hj_108).1 (at?_some hj_108).2.1 (h_51.addr hj_108)) ?_
                obtain ⟨_, hr_109, hA_110⟩ := h_51.atN hj_108
                obtain ⟨a_111, cap_112, rfl, h_113⟩ := hr_109.slice
                refine lv (v := (.slice a_111 e_107.length cap_112)) rfl rfl (r_ld Try.isAgg22 rfl hA_110.one) ?_
                refine lv (v := (.int .i64 (e_107.length : Int))) rfl rfl (r_len Try.underlying22 rfl) ?_
                refine lv (v := (.bool (decide (k_106 < (e_107.length : Int))))) rfl rfl (r_lss k_106 (e_107.length : Int) rfl rfl) ?_
                refine lnil ?_
                refine wcond (decide (k_106 < (e_107.length : Int))) rfl (fun hb => ?_) (fun hb => ?_)
                · rw [if_pos hb] at hm
                  clear hb
                  refine wskip ?_
                  refine wseq ?_
                  refine Wp.cut (fun f w_114 => ∃ (col_115 : Col), m_r15_Apart_J1 k_106 (m_r15_Apart_L6 N l_45 long_48 i_102 (m_r15_Apart_L5 N l_45 long_48 n_99) n_103)  = some r ∧ St w0 (colL [qc0] col) col_115 w_114 ∧ Own (Rep.half 3 (Rep.int .i64)) 22 440 col_115 w_114 a0 cap0 l_45 ∧ Own (Rep.slice (Rep.int .i64)) 22 2 col_115 w_114 a_49 cap_50 long_48 ∧ f 0 = (.slice a0 l_45.length cap0) ∧ f 10 = (.int .i64 k_106) ∧ f 5 = (.slice a_49 long_48.length cap_50) ∧ f 9 = (.int .i64 i_102) ∧ f 1000000 = (enc [])) ?_ ?_
                  · intro f w_114 hJ
                    obtain ⟨col_115, hm, hst, h_46, h_51, hs0, hs10, hs5, hs9, hs1000000⟩ := hJ
                    rw [m_r15_Apart_J1.eq_1] at hm
                    refine .ld (d := 0) (v := (.slice a0 l_45.length cap0)) hs0 ?_
                    refine .ld (d := 10) (v := (.int .i64 k_106)) hs10 ?_
                    refine .ld (d := 5) (v := (.slice a_49 long_48.length cap_50)) hs5 ?_
                    refine .ld (d := 9) (v := (.int .i64 i_102)) hs9 ?_
                    refine .ld (d := 1000000) (v := (enc [])) hs1000000 ?_
                    clear hs0 hs10 hs5 hs9 hs1000000
                    refine wregion ?_
                    refine lv (v := (.int .i64 k_106)) rfl rfl (r_move rfl) ?_
                    refine lv (v := (.int .i64 (IntKind.i64.wrap (k_106 + 1)))) rfl rfl (r_add k_106 1 rfl rfl) ?_
                    refine lv (v := (.int .i64 (IntKind.i64.wrap (k_106 + 1)))) rfl rfl (r_assign rfl) ?_
                    refine lnil ?_
                    exact ⟨n_103, by omega, ⟨col_115, (IntKind.i64.wrap (k_106 + 1)), n_103, rfl, hm, hst, h_46, h_51, rfl, rfl, rfl, rfl, rfl⟩⟩
                  · refine wblock ?_
                    refine wseq ?_
                    refine wregion ?_
                    refine lv (v := (.slice a0 l_45.length cap0)) rfl rfl (r_move rfl) ?_
                    refine lv (v := (.int .i64 i_102)) rfl rfl (r_move rfl) ?_
                    obtain ⟨e_116, hj_117, hm⟩ := bind_some hm
                    refine lv (v := (sptr a0 (Int.toNat i_102 * 1))) rfl rfl (r_idx Try.underlying33 Try.sizeOf22 rfl rfl (at?_some hj_117).1 (at?_some hj_117).2.1 (h_46.addr hj_117)) ?_
                    obtain ⟨hfl_118, hm⟩ := chk_some hm
                    obtain ⟨_, hr_119, hA_120⟩ := h_46.atN hj_117
                    obtain ⟨a_121, cap_122, rfl, h_123⟩ := hr_119.halfF hfl_118
                    refine lv (v := (.slice a_121 e_116.1.length cap_122)) rfl rfl (r_ld Try.isAgg22 rfl hA_120.one) ?_
                    refine lv (v := (.int .i64 (e_116.1.length : Int))) rfl rfl (r_len Try.underlying22 rfl) ?_
                    refine lv (v := (.int .i64 (e_116.1.length : Int))) rfl rfl (r_assign rfl) ?_
                    refine lnil ?_
                    refine wseq ?_
                    refine Wp.cut (fun f w_155 => ∃ (col_156 : Col) (v_157 : Bool), m_r15_Apart_J2 l_45 k_106 (m_r15_Apart_L6 N l_45 long_48 i_102 (m_r15_Apart_L5 N l_45 long_48 n_99) n_103) v_157 = some r ∧ St w0 (colL [qc0] col) col_156 w_155 ∧ Own (Rep.half 3 (Rep.int .i64)) 22 440 col_156 w_155 a0 cap0 l_45 ∧ Own (Rep.slice (Rep.int .i64)) 22 2 col_156 w_155 a_49 cap_50 long_48 ∧ f 0 = (.slice a0 l_45.length cap0) ∧ f 10 = (.int .i64 k_106) ∧ f 121 = (.bool v_157) ∧ f 5 = (.slice a_49 long_48.length cap_50) ∧ f 9 = (.int .i64 i_102) ∧ f 1000000 = (enc [])) ?_ ?_
                    · intro f w_155 hJ
                      obtain ⟨col_156, v_157, hm, hst, h_46, h_51, hs0, hs10, hs121, hs5, hs9, hs1000000⟩ := hJ
                      rw [m_r15_Apart_J2.eq_1] at hm
                      refine .ld (d := 0) (v := (.slice a0 l_45.length cap0)) hs0 ?_
                      refine .ld (d := 10) (v := (.int .i64 k_106)) hs10 ?_
                      refine .ld (d := 121) (v := (.bool v_157)) hs121 ?_
                      refine .ld (d := 5) (v := (.slice a_49 long_48.length cap_50)) hs5 ?_
                      refine .ld (d := 9) (v := (.int .i64 i_102)) hs9 ?_
                      refine .ld (d := 1000000) (v := (enc [])) hs1000000 ?_
                      clear hs0 hs10 hs121 hs5 hs9 hs1000000
                      refine wcond (v_157) rfl (fun hb => ?_) (fun hb => ?_)
                      · rw [if_pos hb] at hm
                        clear hb
                        refine wseq ?_
                        refine wregion ?_
                        refine lv (v := (.bool false)) rfl rfl (r_assign rfl) ?_
                        refine lnil ?_
                        refine wret ?_
                        cases hm
                        exact ⟨rfl, colFL w0.heap.size [qc0] col col_156 (fun n => bif Nat.beq n 440 then qc0 else 0), rfl, hst.finL rfl (fun n => bif Nat.beq n 440 then qc0 else 0), hst.finOwnL (g := (fun n => bif Nat.beq n 440 then qc0 else 0)) rfl h_46 (by decide) (by decide) rfl, hlen_53⟩
                      · rw [if_neg (by rw [hb]; decide)] at hm
                        clear hb
                        refine wskip ?_
                        exact ⟨col_156, hm, hst, h_46, h_51, rfl, rfl, rfl, rfl, rfl⟩
                    · refine wregion ?_
                      refine lv (v := (.int .i64 k_106)) rfl rfl (r_move rfl) ?_
                      refine lv (v := (.int .i64 (e_116.1.length : Int))) rfl rfl (r_move rfl) ?_
                      refine lv (v := (.bool (decide (k_106 < (e_116.1.length : Int))))) rfl rfl (r_lss k_106 (e_116.1.length : Int) rfl rfl) ?_
                      refine lv (v := (.bool (decide (k_106 < (e_116.1.length : Int))))) rfl rfl (r_move rfl) ?_
                      by_cases hg_158 : (decide (k_106 < (e_116.1.length : Int))) = true
                      · rw [if_pos hg_158] at hm
                        refine lg (b := decide (k_106 < (e_116.1.length : Int))) 81 rfl rfl rfl (by rw [hg_158]; rfl) ?_
                        refine lv (v := (.slice a0 l_45.length cap0)) rfl rfl (r_move rfl) ?_
                        refine lg (b := decide (k_106 < (e_116.1.length : Int))) 81 rfl rfl rfl (by rw [hg_158]; rfl) ?_
                        refine lv (v := (.int .i64 i_102)) rfl rfl (r_move rfl) ?_
                        refine lg (b := decide (k_106 < (e_116.1.length : Int))) 81 rfl rfl rfl (by rw [hg_158]; rfl) ?_
                        refine lv (v := (sptr a0 (Int.toNat i_102 * 1))) rfl rfl (r_idx Try.underlying33 Try.sizeOf22 rfl rfl (at?_some hj_117).1 (at?_some hj_117).2.1 (h_46.addr hj_117)) ?_
                        refine lg (b := decide (k_106 < (e_116.1.length : Int))) 81 rfl rfl rfl (by rw [hg_158]; rfl) ?_
                        obtain ⟨_, hr_159, hA_160⟩ := h_46.atN hj_117
                        obtain ⟨a_161, cap_162, rfl, h_163⟩ := hr_159.halfF hfl_118
                        refine lv (v := (.slice a_161 e_116.1.length cap_162)) rfl rfl (r_ld Try.isAgg22 rfl hA_160.one) ?_
                        refine lg (b := decide (k_106 < (e_116.1.length : Int))) 81 rfl rfl rfl (by rw [hg_158]; rfl) ?_
                        refine lv (v := (.int .i64 k_106)) rfl rfl (r_move rfl) ?_
                        refine lg (b := decide (k_106 < (e_116.1.length : Int))) 81 rfl rfl rfl (by rw [hg_158]; rfl) ?_
                        obtain ⟨e_164, hj_165, hm⟩ := bind_some hm
                        refine lv (v := (sptr a_161 (Int.toNat k_106 * 1))) rfl rfl (r_idx Try.underlying22 Try.sizeOf3 rfl rfl (at?_some hj_165).1 (at?_some hj_165).2.1 (h_163.addr hj_165)) ?_
                        refine lg (b := decide (k_106 < (e_116.1.length : Int))) 81 rfl rfl rfl (by rw [hg_158]; rfl) ?_
                        refine lv (v := (.int .i64 e_164)) rfl rfl (r_ld Try.isAgg3 rfl (h_163.atInt hj_165)) ?_
                        refine lg (b := decide (k_106 < (e_116.1.length : Int))) 81 rfl rfl rfl (by rw [hg_158]; rfl) ?_
                        refine lv (v := (.int .i64 i_102)) rfl rfl (r_move rfl) ?_
                        refine lg (b := decide (k_106 < (e_116.1.length : Int))) 81 rfl rfl rfl (by rw [hg_158]; rfl) ?_
                        refine lv (v := (.int .i64 (IntKind.i64.wrap ((-1000) - i_102)))) rfl rfl (r_sub (-1000) i_102 rfl rfl) ?_
                        refine lg (b := decide (k_106 < (e_116.1.length : Int))) 81 rfl rfl rfl (by rw [hg_158]; rfl) ?_
                        refine lv (v := (.bool (!decide (e_164 = (IntKind.i64.wrap ((-1000) - i_102)))))) rfl rfl (r_neq e_164 (IntKind.i64.wrap ((-1000) - i_102)) rfl rfl) ?_
                        refine lg (b := decide (k_106 < (e_116.1.length : Int))) 81 rfl rfl rfl (by rw [hg_158]; rfl) ?_
                        refine lv (v := (.bool (!decide (e_164 = (IntKind.i64.wrap ((-1000) - i_102)))))) rfl rfl (r_move rfl) ?_
                        by_cases hg_166 : (!decide (e_164 = (IntKind.i64.wrap ((-1000) - i_102)))) = true
                        · rw [if_pos hg_166] at hm
                          refine lp (b := !decide (e_164 = (IntKind.i64.wrap ((-1000) - i_102)))) 92 rfl rfl rfl rfl (by rw [hg_166]; rfl) ?_
                          refine lp (b := !decide (e_164 = (IntKind.i64.wrap ((-1000) - i_102)))) 92 rfl rfl rfl rfl (by rw [hg_166]; rfl) ?_
                          refine lp (b := !decide (e_164 = (IntKind.i64.wrap ((-1000) - i_102)))) 92 rfl rfl rfl rfl (by rw [hg_166]; rfl) ?_
                          refine lp (b := !decide (e_164 = (IntKind.i64.wrap ((-1000) - i_102)))) 92 rfl rfl rfl rfl (by rw [hg_166]; rfl) ?_
                          refine lp (b := !decide (e_164 = (IntKind.i64.wrap ((-1000) - i_102)))) 92 rfl rfl rfl rfl (by rw [hg_166]; rfl) ?_
                          refine lp (b := !decide (e_164 = (IntKind.i64.wrap ((-1000) - i_102)))) 92 rfl rfl rfl rfl (by rw [hg_166]; rfl) ?_
                          refine lp (b := !decide (e_164 = (IntKind.i64.wrap ((-1000) - i_102)))) 92 rfl rfl rfl rfl (by rw [hg_166]; rfl) ?_
                          refine lp (b := !decide (e_164 = (IntKind.i64.wrap ((-1000) - i_102)))) 92 rfl rfl rfl rfl (by rw [hg_166]; rfl) ?_
                          refine lp (b := !decide (e_164 = (IntKind.i64.wrap ((-1000) - i_102)))) 92 rfl rfl rfl rfl (by rw [hg_166]; rfl) ?_
                          refine lp (b := !decide (e_164 = (IntKind.i64.wrap ((-1000) - i_102)))) 92 rfl rfl rfl rfl (by rw [hg_166]; rfl) ?_
                          refine lg (b := decide (k_106 < (e_116.1.length : Int))) 81 rfl rfl rfl (by rw [hg_158]; rfl) ?_
                          refine lv (v := (.bool true)) rfl rfl (r_pickT (congrArg Value.bool hg_166) rfl) ?_
                          refine lv (v := (.bool true)) rfl rfl (r_pickT (congrArg Value.bool hg_158) rfl) ?_
                          refine lv (v := (.bool true)) rfl rfl (r_move rfl) ?_
                          refine lp (b := true) 105 rfl rfl rfl rfl rfl ?_
                          refine lp (b := true) 105 rfl rfl rfl rfl rfl ?_
                          refine lp (b := true) 105 rfl rfl rfl rfl rfl ?_
                          refine lp (b := true) 105 rfl rfl rfl rfl rfl ?_
                          refine lpU 109 rfl rfl rfl rfl ?_
                          refine lpU 109 rfl rfl rfl rfl ?_
                          refine lpU 109 rfl rfl rfl rfl ?_
                          refine lpU 109 rfl rfl rfl rfl ?_
                          refine lpU 109 rfl rfl rfl rfl ?_
                          refine lpU 109 rfl rfl rfl rfl ?_
                          refine lpU 109 rfl rfl rfl rfl ?_
                          refine lpU 109 rfl rfl rfl rfl ?_
                          refine lpU 109 rfl rfl rfl rfl ?_
                          refine lpU 109 rfl rfl rfl rfl ?_
                          refine lp (b := true) 105 rfl rfl rfl rfl rfl ?_
                          refine lv (v := (.bool true)) rfl rfl (r_pickT rfl rfl) ?_
                          refine lnil ?_
                          exact ⟨col_105, true, hm, hst, h_46, h_51, rfl, rfl, rfl, rfl, rfl, rfl⟩
                        · rw [if_neg hg_166] at hm
                          replace hg_166 := Bool.eq_false_iff.2 hg_166
                          refine lg (b := !decide (e_164 = (IntKind.i64.wrap ((-1000) - i_102)))) 92 rfl rfl rfl (by rw [hg_166]; rfl) ?_
                          refine lv (v := (.slice a_49 long_48.length cap_50)) rfl rfl (r_move rfl) ?_
                          refine lg (b := !decide (e_164 = (IntKind.i64.wrap ((-1000) - i_102)))) 92 rfl rfl rfl (by rw [hg_166]; rfl) ?_
                          refine lv (v := (.int .i64 i_102)) rfl rfl (r_move rfl) ?_
                          refine lg (b := !decide (e_164 = (IntKind.i64.wrap ((-1000) - i_102)))) 92 rfl rfl rfl (by rw [hg_166]; rfl) ?_
                          refine lv (v := (sptr a_49 (Int.toNat i_102 * 1))) rfl rfl (r_idx Try.underlying33 Try.sizeOf22 rfl rfl (at?_some hj_108).1 (at?_some hj_108).2.1 (h_51.addr hj_108)) ?_
                          refine lg (b := !decide (e_164 = (IntKind.i64.wrap ((-1000) - i_102)))) 92 rfl rfl rfl (by rw [hg_166]; rfl) ?_
                          obtain ⟨_, hr_167, hA_168⟩ := h_51.atN hj_108
                          obtain ⟨a_169, cap_170, rfl, h_171⟩ := hr_167.slice
                          refine lv (v := (.slice a_169 e_107.length cap_170)) rfl rfl (r_ld Try.isAgg22 rfl hA_168.one) ?_
                          refine lg (b := !decide (e_164 = (IntKind.i64.wrap ((-1000) - i_102)))) 92 rfl rfl rfl (by rw [hg_166]; rfl) ?_
                          refine lv (v := (.int .i64 k_106)) rfl rfl (r_move rfl) ?_
                          refine lg (b := !decide (e_164 = (IntKind.i64.wrap ((-1000) - i_102)))) 92 rfl rfl rfl (by rw [hg_166]; rfl) ?_
                          obtain ⟨e_172, hj_173, hm⟩ := bind_some hm
                          refine lv (v := (sptr a_169 (Int.toNat k_106 * 1))) rfl rfl (r_idx Try.underlying22 Try.sizeOf3 rfl rfl (at?_some hj_173).1 (at?_some hj_173).2.1 (h_171.addr hj_173)) ?_
                          refine lg (b := !decide (e_164 = (IntKind.i64.wrap ((-1000) - i_102)))) 92 rfl rfl rfl (by rw [hg_166]; rfl) ?_
                          refine lv (v := (.int .i64 e_172)) rfl rfl (r_ld Try.isAgg3 rfl (h_171.atInt hj_173)) ?_
                          refine lg (b := !decide (e_164 = (IntKind.i64.wrap ((-1000) - i_102)))) 92 rfl rfl rfl (by rw [hg_166]; rfl) ?_
                          refine lv (v := (.int .i64 i_102)) rfl rfl (r_move rfl) ?_
                          refine lg (b := !decide (e_164 = (IntKind.i64.wrap ((-1000) - i_102)))) 92 rfl rfl rfl (by rw [hg_166]; rfl) ?_
                          refine lv (v := (.int .i64 (IntKind.i64.wrap ((-1000) - i_102)))) rfl rfl (r_sub (-1000) i_102 rfl rfl) ?_
                          refine lg (b := !decide (e_164 = (IntKind.i64.wrap ((-1000) - i_102)))) 92 rfl rfl rfl (by rw [hg_166]; rfl) ?_
                          refine lv (v := (.bool (!decide (e_172 = (IntKind.i64.wrap ((-1000) - i_102)))))) rfl rfl (r_neq e_172 (IntKind.i64.wrap ((-1000) - i_102)) rfl rfl) ?_
                          refine lg (b := decide (k_106 < (e_116.1.length : Int))) 81 rfl rfl rfl (by rw [hg_158]; rfl) ?_
                          refine lv (v := (.bool (!decide (e_172 = (IntKind.i64.wrap ((-1000) - i_102)))))) rfl rfl (r_pickF (congrArg Value.bool hg_166) rfl) ?_
                          refine lv (v := (.bool (!decide (e_172 = (IntKind.i64.wrap ((-1000) - i_102)))))) rfl rfl (r_pickT (congrArg Value.bool hg_158) rfl) ?_
                          refine lv (v := (.bool (!decide (e_172 = (IntKind.i64.wrap ((-1000) - i_102)))))) rfl rfl (r_move rfl) ?_
                          by_cases hg_174 : (!decide (e_172 = (IntKind.i64.wrap ((-1000) - i_102)))) = true
                          · rw [if_pos hg_174] at hm
                            refine lp (b := !decide (e_172 = (IntKind.i64.wrap ((-1000) - i_102)))) 105 rfl rfl rfl rfl (by rw [hg_174]; rfl) ?_
                            refine lp (b := !decide (e_172 = (IntKind.i64.wrap ((-1000) - i_102)))) 105 rfl rfl rfl rfl (by rw [hg_174]; rfl) ?_
                            refine lp (b := !decide (e_172 = (IntKind.i64.wrap ((-1000) - i_102)))) 105 rfl rfl rfl rfl (by rw [hg_174]; rfl) ?_
                            refine lp (b := !decide (e_172 = (IntKind.i64.wrap ((-1000) - i_102)))) 105 rfl rfl rfl rfl (by rw [hg_174]; rfl) ?_
                            refine lpU 109 rfl rfl rfl rfl ?_
                            refine lpU 109 rfl rfl rfl rfl ?_
                            refine lpU 109 rfl rfl rfl rfl ?_
                            refine lpU 109 rfl rfl rfl rfl ?_
                            refine lpU 109 rfl rfl rfl rfl ?_
                            refine lpU 109 rfl rfl rfl rfl ?_
                            refine lpU 109 rfl rfl rfl rfl ?_
                            refine lpU 109 rfl rfl rfl rfl ?_
                            refine lpU 109 rfl rfl rfl rfl ?_
                            refine lpU 109 rfl rfl rfl rfl ?_
                            refine lp (b := !decide (e_172 = (IntKind.i64.wrap ((-1000) - i_102)))) 105 rfl rfl rfl rfl (by rw [hg_174]; rfl) ?_
                            refine lv (v := (.bool true)) rfl rfl (r_pickT (congrArg Value.bool hg_174) rfl) ?_
                            refine lnil ?_
                            exact ⟨col_105, true, hm, hst, h_46, h_51, rfl, rfl, rfl, rfl, rfl, rfl⟩
                          · rw [if_neg hg_174] at hm
                            replace hg_174 := Bool.eq_false_iff.2 hg_174
                            refine lg (b := !decide (e_172 = (IntKind.i64.wrap ((-1000) - i_102)))) 105 rfl rfl rfl (by rw [hg_174]; rfl) ?_
                            refine lv (v := (.int .i64 k_106)) rfl rfl (r_move rfl) ?_
                            refine lg (b := !decide (e_172 = (IntKind.i64.wrap ((-1000) - i_102)))) 105 rfl rfl rfl (by rw [hg_174]; rfl) ?_
                            refine lv (v := (.int .i64 (e_116.1.length : Int))) rfl rfl (r_move rfl) ?_
                            refine lg (b := !decide (e_172 = (IntKind.i64.wrap ((-1000) - i_102)))) 105 rfl rfl rfl (by rw [hg_174]; rfl) ?_
                            refine lv (v := (.bool (decide ((e_116.1.length : Int) ≤ k_106)))) rfl rfl (r_geq k_106 (e_116.1.length : Int) rfl rfl) ?_
                            refine lg (b := !decide (e_172 = (IntKind.i64.wrap ((-1000) - i_102)))) 105 rfl rfl rfl (by rw [hg_174]; rfl) ?_
                            refine lv (v := (.bool (decide ((e_116.1.length : Int) ≤ k_106)))) rfl rfl (r_move rfl) ?_
                            by_cases hg_175 : (decide ((e_116.1.length : Int) ≤ k_106)) = true
                            · rw [if_pos hg_175] at hm
                              refine lg (b := decide ((e_116.1.length : Int) ≤ k_106)) 109 rfl rfl rfl (by rw [hg_175]; rfl) ?_
                              refine lv (v := (.slice a_49 long_48.length cap_50)) rfl rfl (r_move rfl) ?_
                              refine lg (b := decide ((e_116.1.length : Int) ≤ k_106)) 109 rfl rfl rfl (by rw [hg_175]; rfl) ?_
                              refine lv (v := (.int .i64 i_102)) rfl rfl (r_move rfl) ?_
                              refine lg (b := decide ((e_116.1.length : Int) ≤ k_106)) 109 rfl rfl rfl (by rw [hg_175]; rfl) ?_
                              refine lv (v := (sptr a_49 (Int.toNat i_102 * 1))) rfl rfl (r_idx Try.underlying33 Try.sizeOf22 rfl rfl (at?_some hj_108).1 (at?_some hj_108).2.1 (h_51.addr hj_108)) ?_
                              refine lg (b := decide ((e_116.1.length : Int) ≤ k_106)) 109 rfl rfl rfl (by rw [hg_175]; rfl) ?_
                              obtain ⟨_, hr_176, hA_177⟩ := h_51.atN hj_108
                              obtain ⟨a_178, cap_179, rfl, h_180⟩ := hr_176.slice
                              refine lv (v := (.slice a_178 e_107.length cap_179)) rfl rfl (r_ld Try.isAgg22 rfl hA_177.one) ?_
                              refine lg (b := decide ((e_116.1.length : Int) ≤ k_106)) 109 rfl rfl rfl (by rw [hg_175]; rfl) ?_
                              refine lv (v := (.int .i64 k_106)) rfl rfl (r_move rfl) ?_
                              refine lg (b := decide ((e_116.1.length : Int) ≤ k_106)) 109 rfl rfl rfl (by rw [hg_175]; rfl) ?_
                              refine lv (v := (sptr a_178 (Int.toNat k_106 * 1))) rfl rfl (r_idx Try.underlying22 Try.sizeOf3 rfl rfl (at?_some hj_173).1 (at?_some hj_173).2.1 (h_180.addr hj_173)) ?_
                              refine lg (b := decide ((e_116.1.length : Int) ≤ k_106)) 109 rfl rfl rfl (by rw [hg_175]; rfl) ?_
                              refine lv (v := (.int .i64 e_172)) rfl rfl (r_ld Try.isAgg3 rfl (h_180.atInt hj_173)) ?_
                              refine lg (b := decide ((e_116.1.length : Int) ≤ k_106)) 109 rfl rfl rfl (by rw [hg_175]; rfl) ?_
                              refine lv (v := (.int .i64 i_102)) rfl rfl (r_move rfl) ?_
                              refine lg (b := decide ((e_116.1.length : Int) ≤ k_106)) 109 rfl rfl rfl (by rw [hg_175]; rfl) ?_
                              refine lv (v := (.int .i64 (IntKind.i64.wrap ((-5000) - i_102)))) rfl rfl (r_sub (-5000) i_102 rfl rfl) ?_
                              refine lg (b := decide ((e_116.1.length : Int) ≤ k_106)) 109 rfl rfl rfl (by rw [hg_175]; rfl) ?_
                              refine lv (v := (.bool (!decide (e_172 = (IntKind.i64.wrap ((-5000) - i_102)))))) rfl rfl (r_neq e_172 (IntKind.i64.wrap ((-5000) - i_102)) rfl rfl) ?_
                              refine lg (b := !decide (e_172 = (IntKind.i64.wrap ((-1000) - i_102)))) 105 rfl rfl rfl (by rw [hg_174]; rfl) ?_
                              refine lv (v := (.bool (!decide (e_172 = (IntKind.i64.wrap ((-5000) - i_102)))))) rfl rfl (r_pickT (congrArg Value.bool hg_175) rfl) ?_
                              refine lv (v := (.bool (!decide (e_172 = (IntKind.i64.wrap ((-5000) - i_102)))))) rfl rfl (r_pickF (congrArg Value.bool hg_174) rfl) ?_
                              refine lnil ?_
                              exact ⟨col_105, (!decide (e_172 = (IntKind.i64.wrap ((-5000) - i_102)))), hm, hst, h_46, h_51, rfl, rfl, rfl, rfl, rfl, rfl⟩
                            · rw [if_neg hg_175] at hm
                              replace hg_175 := Bool.eq_false_iff.2 hg_175
                              refine lp (b := decide ((e_116.1.length : Int) ≤ k_106)) 109 rfl rfl rfl rfl (by rw [hg_175]; rfl) ?_
                              refine lp (b := decide ((e_116.1.length : Int) ≤ k_106)) 109 rfl rfl rfl rfl (by rw [hg_175]; rfl) ?_
                              refine lp (b := decide ((e_116.1.length : Int) ≤ k_106)) 109 rfl rfl rfl rfl (by rw [hg_175]; rfl) ?_
                              refine lp (b := decide ((e_116.1.length : Int) ≤ k_106)) 109 rfl rfl rfl rfl (by rw [hg_175]; rfl) ?_
                              refine lp (b := decide ((e_116.1.length : Int) ≤ k_106)) 109 rfl rfl rfl rfl (by rw [hg_175]; rfl) ?_
                              refine lp (b := decide ((e_116.1.length : Int) ≤ k_106)) 109 rfl rfl rfl rfl (by rw [hg_175]; rfl) ?_
                              refine lp (b := decide ((e_116.1.length : Int) ≤ k_106)) 109 rfl rfl rfl rfl (by rw [hg_175]; rfl) ?_
                              refine lp (b := decide ((e_116.1.length : Int) ≤ k_106)) 109 rfl rfl rfl rfl (by rw [hg_175]; rfl) ?_
                              refine lp (b := decide ((e_116.1.length : Int) ≤ k_106)) 109 rfl rfl rfl rfl (by rw [hg_175]; rfl) ?_
                              refine lp (b := decide ((e_116.1.length : Int) ≤ k_106)) 109 rfl rfl rfl rfl (by rw [hg_175]; rfl) ?_
                              refine lg (b := !decide (e_172 = (IntKind.i64.wrap ((-1000) - i_102)))) 105 rfl rfl rfl (by rw [hg_174]; rfl) ?_
                              refine lv (v := (.bool false)) rfl rfl (r_pickF (congrArg Value.bool hg_175) rfl) ?_
                              refine lv (v := (.bool false)) rfl rfl (r_pickF (congrArg Value.bool hg_174) rfl) ?_
                              refine lnil ?_
                              exact ⟨col_105, false, hm, hst, h_46, h_51, rfl, rfl, rfl, rfl, rfl, rfl⟩
                      · rw [if_neg hg_158] at hm
                        replace hg_158 := Bool.eq_false_iff.2 hg_158
                        refine lp (b := decide (k_106 < (e_116.1.length : Int))) 81 rfl rfl rfl rfl (by rw [hg_158]; rfl) ?_
                        refine lp (b := decide (k_106 < (e_116.1.length : Int))) 81 rfl rfl rfl rfl (by rw [hg_158]; rfl) ?_
                        refine lp (b := decide (k_106 < (e_116.1.length : Int))) 81 rfl rfl rfl rfl (by rw [hg_158]; rfl) ?_
                        refine lp (b := decide (k_106 < (e_116.1.length : Int))) 81 rfl rfl rfl rfl (by rw [hg_158]; rfl) ?_
                        refine lp (b := decide (k_106 < (e_116.1.length : Int))) 81 rfl rfl rfl rfl (by rw [hg_158]; rfl) ?_
                        refine lp (b := decide (k_106 < (e_116.1.length : Int))) 81 rfl rfl rfl rfl (by rw [hg_158]; rfl) ?_
                        refine lp (b := decide (k_106 < (e_116.1.length : Int))) 81 rfl rfl rfl rfl (by rw [hg_158]; rfl) ?_
                        refine lp (b := decide (k_106 < (e_116.1.length : Int))) 81 rfl rfl rfl rfl (by rw [hg_158]; rfl) ?_
                        refine lp (b := decide (k_106 < (e_116.1.length : Int))) 81 rfl rfl rfl rfl (by rw [hg_158]; rfl) ?_
                        refine lp (b := decide (k_106 < (e_116.1.length : Int))) 81 rfl rfl rfl rfl (by rw [hg_158]; rfl) ?_
                        refine lp (b := decide (k_106 < (e_116.1.length : Int))) 81 rfl rfl rfl rfl (by rw [hg_158]; rfl) ?_
                        refine lpU 92 rfl rfl rfl rfl ?_
                        refine lpU 92 rfl rfl rfl rfl ?_
                        refine lpU 92 rfl rfl rfl rfl ?_
                        refine lpU 92 rfl rfl rfl rfl ?_
                        refine lpU 92 rfl rfl rfl rfl ?_
                        refine lpU 92 rfl rfl rfl rfl ?_
                        refine lpU 92 rfl rfl rfl rfl ?_
                        refine lpU 92 rfl rfl rfl rfl ?_
                        refine lpU 92 rfl rfl rfl rfl ?_
                        refine lpU 92 rfl rfl rfl rfl ?_
                        refine lp (b := decide (k_106 < (e_116.1.length : Int))) 81 rfl rfl rfl rfl (by rw [hg_158]; rfl) ?_
                        refine lv (v := (.bool false)) rfl rfl (r_pickF (congrArg Value.bool hg_158) rfl) ?_
                        refine lv (v := (.bool false)) rfl rfl (r_move rfl) ?_
                        refine lg (b := false) 105 rfl rfl rfl rfl ?_
                        refine lv (v := (.int .i64 k_106)) rfl rfl (r_move rfl) ?_
                        refine lg (b := false) 105 rfl rfl rfl rfl ?_
                        refine lv (v := (.int .i64 (e_116.1.length : Int))) rfl rfl (r_move rfl) ?_
                        refine lg (b := false) 105 rfl rfl rfl rfl ?_
                        refine lv (v := (.bool (decide ((e_116.1.length : Int) ≤ k_106)))) rfl rfl (r_geq k_106 (e_116.1.length : Int) rfl rfl) ?_
                        refine lg (b := false) 105 rfl rfl rfl rfl ?_
                        refine lv (v := (.bool (decide ((e_116.1.length : Int) ≤ k_106)))) rfl rfl (r_move rfl) ?_
                        by_cases hg_181 : (decide ((e_116.1.length : Int) ≤ k_106)) = true
                        · rw [if_pos hg_181] at hm
                          refine lg (b := decide ((e_116.1.length : Int) ≤ k_106)) 109 rfl rfl rfl (by rw [hg_181]; rfl) ?_
                          refine lv (v := (.slice a_49 long_48.length cap_50)) rfl rfl (r_move rfl) ?_
                          refine lg (b := decide ((e_116.1.length : Int) ≤ k_106)) 109 rfl rfl rfl (by rw [hg_181]; rfl) ?_
                          refine lv (v := (.int .i64 i_102)) rfl rfl (r_move rfl) ?_
                          refine lg (b := decide ((e_116.1.length : Int) ≤ k_106)) 109 rfl rfl rfl (by rw [hg_181]; rfl) ?_
                          refine lv (v := (sptr a_49 (Int.toNat i_102 * 1))) rfl rfl (r_idx Try.underlying33 Try.sizeOf22 rfl rfl (at?_some hj_108).1 (at?_some hj_108).2.1 (h_51.addr hj_108)) ?_
                          refine lg (b := decide ((e_116.1.length : Int) ≤ k_106)) 109 rfl rfl rfl (by rw [hg_181]; rfl) ?_
                          obtain ⟨_, hr_182, hA_183⟩ := h_51.atN hj_108
                          obtain ⟨a_184, cap_185, rfl, h_186⟩ := hr_182.slice
                          refine lv (v := (.slice a_184 e_107.length cap_185)) rfl rfl (r_ld Try.isAgg22 rfl hA_183.one) ?_
                          refine lg (b := decide ((e_116.1.length : Int) ≤ k_106)) 109 rfl rfl rfl (by rw [hg_181]; rfl) ?_
                          refine lv (v := (.int .i64 k_106)) rfl rfl (r_move rfl) ?_
                          refine lg (b := decide ((e_116.1.length : Int) ≤ k_106)) 109 rfl rfl rfl (by rw [hg_181]; rfl) ?_
                          obtain ⟨e_187, hj_188, hm⟩ := bind_some hm
                          refine lv (v := (sptr a_184 (Int.toNat k_106 * 1))) rfl rfl (r_idx Try.underlying22 Try.sizeOf3 rfl rfl (at?_some hj_188).1 (at?_some hj_188).2.1 (h_186.addr hj_188)) ?_
                          refine lg (b := decide ((e_116.1.length : Int) ≤ k_106)) 109 rfl rfl rfl (by rw [hg_181]; rfl) ?_
                          refine lv (v := (.int .i64 e_187)) rfl rfl (r_ld Try.isAgg3 rfl (h_186.atInt hj_188)) ?_
                          refine lg (b := decide ((e_116.1.length : Int) ≤ k_106)) 109 rfl rfl rfl (by rw [hg_181]; rfl) ?_
                          refine lv (v := (.int .i64 i_102)) rfl rfl (r_move rfl) ?_
                          refine lg (b := decide ((e_116.1.length : Int) ≤ k_106)) 109 rfl rfl rfl (by rw [hg_181]; rfl) ?_
                          refine lv (v := (.int .i64 (IntKind.i64.wrap ((-5000) - i_102)))) rfl rfl (r_sub (-5000) i_102 rfl rfl) ?_
                          refine lg (b := decide ((e_116.1.length : Int) ≤ k_106)) 109 rfl rfl rfl (by rw [hg_181]; rfl) ?_
                          refine lv (v := (.bool (!decide (e_187 = (IntKind.i64.wrap ((-5000) - i_102)))))) rfl rfl (r_neq e_187 (IntKind.i64.wrap ((-5000) - i_102)) rfl rfl) ?_
                          refine lg (b := false) 105 rfl rfl rfl rfl ?_
                          refine lv (v := (.bool (!decide (e_187 = (IntKind.i64.wrap ((-5000) - i_102)))))) rfl rfl (r_pickT (congrArg Value.bool hg_181) rfl) ?_
                          refine lv (v := (.bool (!decide (e_187 = (IntKind.i64.wrap ((-5000) - i_102)))))) rfl rfl (r_pickF rfl rfl) ?_
                          refine lnil ?_
                          exact ⟨col_105, (!decide (e_187 = (IntKind.i64.wrap ((-5000) - i_102)))), hm, hst, h_46, h_51, rfl, rfl, rfl, rfl, rfl, rfl⟩
                        · rw [if_neg hg_181] at hm
                          replace hg_181 := Bool.eq_false_iff.2 hg_181
                          refine lp (b := decide ((e_116.1.length : Int) ≤ k_106)) 109 rfl rfl rfl rfl (by rw [hg_181]; rfl) ?_
                          refine lp (b := decide ((e_116.1.length : Int) ≤ k_106)) 109 rfl rfl rfl rfl (by rw [hg_181]; rfl) ?_
                          refine lp (b := decide ((e_116.1.length : Int) ≤ k_106)) 109 rfl rfl rfl rfl (by rw [hg_181]; rfl) ?_
                          refine lp (b := decide ((e_116.1.length : Int) ≤ k_106)) 109 rfl rfl rfl rfl (by rw [hg_181]; rfl) ?_
                          refine lp (b := decide ((e_116.1.length : Int) ≤ k_106)) 109 rfl rfl rfl rfl (by rw [hg_181]; rfl) ?_
                          refine lp (b := decide ((e_116.1.length : Int) ≤ k_106)) 109 rfl rfl rfl rfl (by rw [hg_181]; rfl) ?_
                          refine lp (b := decide ((e_116.1.length : Int) ≤ k_106)) 109 rfl rfl rfl rfl (by rw [hg_181]; rfl) ?_
                          refine lp (b := decide ((e_116.1.length : Int) ≤ k_106)) 109 rfl rfl rfl rfl (by rw [hg_181]; rfl) ?_
                          refine lp (b := decide ((e_116.1.length : Int) ≤ k_106)) 109 rfl rfl rfl rfl (by rw [hg_181]; rfl) ?_
                          refine lp (b := decide ((e_116.1.length : Int) ≤ k_106)) 109 rfl rfl rfl rfl (by rw [hg_181]; rfl) ?_
                          refine lg (b := false) 105 rfl rfl rfl rfl ?_
                          refine lv (v := (.bool false)) rfl rfl (r_pickF (congrArg Value.bool hg_181) rfl) ?_
                          refine lv (v := (.bool false)) rfl rfl (r_pickF rfl rfl) ?_
                          refine lnil ?_
                          exact ⟨col_105, false, hm, hst, h_46, h_51, rfl, rfl, rfl, rfl, rfl, rfl⟩
                · rw [if_neg (by rw [hb]; decide)] at hm
                  clear hb
                  refine wexit (inB_hit ?_)
                  refine wregion ?_
                  refine lv (v := (.int .i64 i_102)) rfl rfl (r_move rfl) ?_
                  refine lv (v := (.int .i64 (IntKind.i64.wrap (i_102 + 1)))) rfl rfl (r_add i_102 1 rfl rfl) ?_
                  refine lv (v := (.int .i64 (IntKind.i64.wrap (i_102 + 1)))) rfl rfl (r_assign rfl) ?_
                  refine lnil ?_
                  exact ⟨n_99, by omega, ⟨col_105, (IntKind.i64.wrap (i_102 + 1)), n_99, rfl, hm, hst, h_46, h_51, rfl, rfl, rfl, rfl⟩⟩
            · rw [if_neg (by rw [hb]; decide)] at hm
              clear hb
              refine wexit (inB_hit ?_)
              refine wseq ?_
              refine wregion ?_
              refine lv (v := (.bool true)) rfl rfl (r_assign rfl) ?_
              refine lnil ?_
              refine wret ?_
              cases hm
              exact ⟨rfl, colFL w0.heap.size [qc0] col col_101 (fun n => bif Nat.beq n 440 then qc0 else 0), rfl, hst.finL rfl (fun n => bif Nat.beq n 440 then qc0 else 0), hst.finOwnL (g := (fun n => bif Nat.beq n 440 then qc0 else 0)) rfl h_46 (by decide) (by decide) rfl, hlen_53⟩



section
variable {N : Nat}
def mk1 (i : Nat) : Int := -1000 - (i : Int)
def mk5 (i : Nat) : Int := -5000 - (i : Int)
theorem mk1_eq {i : Nat} (h : i ≤ 1048576) : IntKind.i64.wrap ((-1000) - (i : Int)) = mk1 i := w64 (by omega)
theorem mk5_eq {i : Nat} (h : i ≤ 1048576) : IntKind.i64.wrap ((-5000) - (i : Int)) = mk5 i := w64 (by omega)
theorem rep_ext {row : List Int} {m : Int} {len : Nat} (hl : row.length = len) (h : ∀ j, j < len → row[j]? = some m) : row = List.replicate len m := by
  refine List.ext_getElem? fun j => ?_
  by_cases hj : j < len
  · rw [h j hj, List.getElem?_replicate, if_pos hj]
  · rw [List.getElem?_eq_none (by omega), List.getElem?_eq_none (by simp; omega)]
theorem Apart_L2 (i : Nat) (hi : i ≤ 1048576) (len : Nat) (hlen : len ≤ 1048576) (kk : List (List Int × Bool) → Int → Option (Bool × List (List Int × Bool))) : ∀ (f k : Nat) (l : List (List Int × Bool)) (row : List Int), i < l.length → l[i]? = some (row, false) → row.length = len → (∀ j, j < k → row[j]? = some (mk1 i)) → k ≤ len → len - k < f →
    m_r15_Apart_L2 N (i : Int) kk f l (k : Int) = kk (l.set i (List.replicate len (mk1 i), false)) (IntKind.i64.wrap ((i : Int) + 1))
  | 0, k, l, row, _, _, _, _, _, hf => by omega
  | f + 1, k, l, row, hil, hr, hrl, hj, hk, hf => by
    have hat : at? l (i : Int) = some (row, false) := by rw [at?_nat]; exact hr
    rw [m_r15_Apart_L2.eq_2, hat]
    simp only [Option.bind_some]
    rw [chk_pos trivial]
    by_cases hlt : k < len
    · rw [if_pos (decide_eq_true (by show (k : Int) < (row.length : Int); omega))]
      show ((at? row (k : Int)).bind fun e_32 => _) = _
      rw [at?_lt (by omega)]
      simp only [Option.bind_some, Int.toNat_natCast]
      rw [mk1_eq hi, wS (by omega)]
      rw [Apart_L2 i hi len hlen kk f (k + 1) (l.set i (row.set k (mk1 i), false)) (row.set k (mk1 i)) (by simpa using hil) (by rw [List.getElem?_set_self hil]) (by simpa using hrl) (fun j hjk => by
        by_cases e : j = k
        · subst e; rw [List.getElem?_set_self (by omega)]
        · rw [List.getElem?_set_ne (by omega)]; exact hj j (by omega)) (by omega) (by omega), List.set_set]
    · rw [if_neg (by show ¬ decide ((k : Int) < (row.length : Int)) = true; simp; omega)]
      obtain rfl : k = len := by omega
      have e1 : row = List.replicate k (mk1 i) := rep_ext hrl hj
      have e2 : l.set i (List.replicate k (mk1 i), false) = l := by
        refine List.ext_getElem? fun j => ?_
        by_cases e : j = i
        · subst e; rw [List.getElem?_set_self hil, hr, e1]
        · rw [List.getElem?_set_ne (by omega)]
      rw [e2]
theorem Apart_L4 (i : Nat) (hi : i ≤ 1048576) (l : List (List Int × Bool)) (long : List (List Int)) (hlong : long.length ≤ 1048576) (row : List Int) (hrow : row.length ≤ 1048576) (b : Bool) (kk : List (List Int × Bool) → List (List Int) → Int → Option (Bool × List (List Int × Bool))) : ∀ (f k : Nat), k ≤ 40 → 40 - k < f →
    m_r15_Apart_L4 N l long (i : Int) kk (row, b) f (row ++ List.replicate k (mk5 i)) (k : Int) = kk (l.set i (row, true)) (long ++ [row ++ List.replicate 40 (mk5 i)]) (IntKind.i64.wrap ((i : Int) + 1))
  | 0, k, _, hf => by omega
  | f + 1, k, hk, hf => by
    rw [m_r15_Apart_L4.eq_2]
    by_cases hlt : k < 40
    · rw [if_pos (decide_eq_true (by omega)), mk5_eq hi, chk_pos (by simp only [List.length_append, List.length_replicate, List.length_singleton, maxLen]; omega), wS (by omega), List.append_assoc,
        show List.replicate k (mk5 i) ++ [mk5 i] = List.replicate (k + 1) (mk5 i) by rw [List.replicate_succ']]
      exact Apart_L4 i hi l long hlong row hrow b kk f (k + 1) (by omega) (by omega)
    · obtain rfl : k = 40 := by omega
      rw [if_neg (by simp), chk_pos (by simp only [List.length_singleton, maxLen]; omega)]
      rfl
theorem Apart_L6 (i : Nat) (hi : i ≤ 1048576) (l : List (List Int × Bool)) (long : List (List Int)) (len : Nat) (hlen : len ≤ 1048576) (hl : l[i]? = some (List.replicate len (mk1 i), true)) (hg : long[i]? = some (List.replicate len (mk1 i) ++ List.replicate 40 (mk5 i))) (kk : Int → Option (Bool × List (List Int × Bool))) : ∀ (f k : Nat), k ≤ len + 40 → len + 40 - k < f →
    m_r15_Apart_L6 N l long (i : Int) kk f (k : Int) = kk (IntKind.i64.wrap ((i : Int) + 1))
  | 0, k, _, hf => by omega
  | f + 1, k, hk, hf => by
    have hat : at? l (i : Int) = some (List.replicate len (mk1 i), true) := by rw [at?_nat]; exact hl
    have hat2 : at? long (i : Int) = some (List.replicate len (mk1 i) ++ List.replicate 40 (mk5 i)) := by rw [at?_nat]; exact hg
    rw [m_r15_Apart_L6.eq_2, hat2]
    simp only [Option.bind_some]
    have hll : (List.replicate len (mk1 i) ++ List.replicate 40 (mk5 i)).length = len + 40 := by simp
    by_cases hlt : k < len + 40
    · rw [if_pos (decide_eq_true (by rw [hll]; omega)), hat]
      simp only [Option.bind_some]
      rw [chk_pos trivial]
      have go : m_r15_Apart_J2 l (k : Int) (m_r15_Apart_L6 N l long (i : Int) kk f) false = kk (IntKind.i64.wrap ((i : Int) + 1)) := by
        unfold m_r15_Apart_J2 m_r15_Apart_J1
        rw [if_neg (by decide), wS (by omega)]
        exact Apart_L6 i hi l long len hlen hl hg kk f (k + 1) (by omega) (by omega)
      by_cases h1 : k < len
      · rw [if_pos (decide_eq_true (by show (k : Int) < ((List.replicate len (mk1 i)).length : Int); simp; omega))]
        show ((at? (List.replicate len (mk1 i)) (k : Int)).bind fun e_164 => _) = _
        rw [at?_lt (by simpa using h1), at?_lt (by rw [hll]; omega)]
        simp only [Option.bind_some]
        rw [List.getElem_replicate, mk1_eq hi, if_neg (by simp), List.getElem_append_left (by simpa using h1), List.getElem_replicate, if_neg (by simp), if_neg (by simp; omega)]
        exact go
      · rw [if_neg (by show ¬ decide ((k : Int) < ((List.replicate len (mk1 i)).length : Int)) = true; simp; omega), if_pos (decide_eq_true (by show ((List.replicate len (mk1 i)).length : Int) ≤ (k : Int); simp; omega)), at?_lt (by rw [hll]; omega)]
        simp only [Option.bind_some]
        rw [List.getElem_append_right (by simp; omega), List.getElem_replicate, mk5_eq hi, decide_eq_true rfl]
        exact go
    · rw [if_neg (by rw [hll]; simp; omega)]
/-- Rows of so many numbers, the first i of them marked. -/
structure RA (n : Nat) (len : Nat → Nat) (i : Nat) (l : List (List Int × Bool)) : Prop where
  tot : l.length = n
  els : ∀ j, j < n → ∃ row, l[j]? = some (row, false) ∧ row.length = len j ∧ (j < i → row = List.replicate (len j) (mk1 j))
structure RB (n : Nat) (len : Nat → Nat) (i : Nat) (l : List (List Int × Bool)) (long : List (List Int)) : Prop where
  tot : l.length = n
  mid : long.length = i
  els : ∀ j, j < n → l[j]? = some (List.replicate (len j) (mk1 j), decide (j < i))
  lng : ∀ j, j < i → long[j]? = some (List.replicate (len j) (mk1 j) ++ List.replicate 40 (mk5 j))
theorem Apart_L5 {n : Nat} {len : Nat → Nat} (hn : n ≤ 1048576) (hlen : ∀ j, len j ≤ 1048576) (hN : 3000000 < N) {l : List (List Int × Bool)} {long : List (List Int)} (hB : RB n len n l long) : ∀ (f i : Nat), i ≤ n → n - i < f → m_r15_Apart_L5 N l long f (i : Int) = some (true, l)
  | 0, i, _, hf => by omega
  | f + 1, i, hi, hf => by
    rw [m_r15_Apart_L5.eq_2, hB.tot]
    by_cases hlt : i < n
    · have h1 := hlen i
      rw [if_pos (decide_eq_true (by omega))]
      have e6 := Apart_L6 (N := N) i (by omega) l long (len i) (hlen i) (by rw [hB.els i hlt, decide_eq_true hlt]) (hB.lng i hlt) (m_r15_Apart_L5 N l long f) N 0 (by omega) (by omega)
      refine Eq.trans e6 ?_
      rw [wS (by omega)]
      exact Apart_L5 hn hlen hN hB f (i + 1) (by omega) (by omega)
    · rw [if_neg (by simp; omega)]
theorem Apart_L3 {n : Nat} {len : Nat → Nat} (hn : n ≤ 1048576) (hlen : ∀ j, len j ≤ 1048576) (hN : 3000000 < N) : ∀ (f i : Nat) (l : List (List Int × Bool)) (long : List (List Int)), RB n len i l long → i ≤ n → n - i < f → ∃ l', m_r15_Apart_L3 N f l long (i : Int) = some (true, l')
  | 0, i, _, _, _, _, hf => by omega
  | f + 1, i, l, long, hB, hi, hf => by
    rw [m_r15_Apart_L3.eq_2, hB.tot]
    by_cases hlt : i < n
    · have h1 := hB.els i hlt
      rw [decide_eq_false (Nat.lt_irrefl i)] at h1
      have hat : at? l (i : Int) = some (List.replicate (len i) (mk1 i), false) := by rw [at?_nat]; exact h1
      have hle := hlen i
      rw [if_pos (decide_eq_true (by omega)), hat]
      simp only [Option.bind_some]
      rw [chk_pos trivial]
      have e4 := Apart_L4 (N := N) i (by omega) l long (by rw [hB.mid]; omega) (List.replicate (len i) (mk1 i)) (by simpa using hle) false (m_r15_Apart_L3 N f) N 0 (by omega) (by omega)
      rw [show List.replicate 0 (mk5 i) = [] from rfl, List.append_nil] at e4
      have hil : i < l.length := by rw [hB.tot]; exact hlt
      obtain ⟨l', k⟩ := Apart_L3 hn hlen hN f (i + 1) (l.set i (List.replicate (len i) (mk1 i), true)) (long ++ [List.replicate (len i) (mk1 i) ++ List.replicate 40 (mk5 i)]) ⟨by rw [List.length_set]; exact hB.tot, by rw [List.length_append, hB.mid]; rfl, fun j hj => by
        by_cases e : j = i
        · subst e; rw [List.getElem?_set_self hil, decide_eq_true (Nat.lt_succ_self j)]
        · rw [List.getElem?_set_ne (by omega), hB.els j hj]
          congr 2
          exact decide_eq_decide.2 (by omega), fun j hj => by
        by_cases e : j = i
        · subst e; rw [List.getElem?_append_right (by rw [hB.mid]; exact Nat.le_refl _), hB.mid, Nat.sub_self]; rfl
        · rw [List.getElem?_append_left (by rw [hB.mid]; omega)]; exact hB.lng j (by omega)⟩ (by omega) (by omega)
      refine ⟨l', Eq.trans e4 ?_⟩
      rw [wS (by omega)]
      exact k
    · obtain rfl : i = n := by omega
      rw [if_neg (by simp)]
      exact ⟨l, Apart_L5 hn hlen hN hB N 0 (by omega) (by omega)⟩
theorem Apart_L1 {n : Nat} {len : Nat → Nat} (hn : n ≤ 1048576) (hlen : ∀ j, len j ≤ 1048576) (hN : 3000000 < N) : ∀ (f i : Nat) (l : List (List Int × Bool)), RA n len i l → i ≤ n → n - i < f → ∃ l', m_r15_Apart_L1 N f l (i : Int) = some (true, l')
  | 0, i, _, _, _, hf => by omega
  | f + 1, i, l, hA, hi, hf => by
    rw [m_r15_Apart_L1.eq_2, hA.tot]
    by_cases hlt : i < n
    · obtain ⟨row, h1, h2, h3⟩ := hA.els i hlt
      have hle := hlen i
      rw [if_pos (decide_eq_true (by omega))]
      have hil : i < l.length := by rw [hA.tot]; exact hlt
      have e2 := Apart_L2 (N := N) i (by omega) (len i) hle (m_r15_Apart_L1 N f) N 0 l row hil h1 h2 (fun j hj => by omega) (by omega) (by omega)
      obtain ⟨l', k⟩ := Apart_L1 hn hlen hN f (i + 1) (l.set i (List.replicate (len i) (mk1 i), false)) ⟨by rw [List.length_set]; exact hA.tot, fun j hj => by
        by_cases e : j = i
        · subst e; exact ⟨_, List.getElem?_set_self hil, by simp, fun _ => rfl⟩
        · obtain ⟨r, q1, q2, q3⟩ := hA.els j hj
          exact ⟨r, by rw [List.getElem?_set_ne (by omega)]; exact q1, q2, fun hji => q3 (by omega)⟩⟩ (by omega) (by omega)
      refine ⟨l', Eq.trans e2 ?_⟩
      rw [wS (by omega)]
      exact k
    · obtain rfl : i = n := by omega
      rw [if_neg (by simp)]
      refine Apart_L3 hn hlen hN N 0 l [] ⟨hA.tot, rfl, fun j hj => ?_, fun j hj => by omega⟩ (by omega) (by omega)
      obtain ⟨r, q1, q2, q3⟩ := hA.els j hj
      rw [q1, q3 hj, decide_eq_false (by omega)]
theorem Apart_true (xs : List (List Int)) (hn : xs.length ≤ 1048576) (hl : ∀ l ∈ xs, l.length ≤ 1048576) (hN : 3000000 < N) : ∃ l', m_r15_Apart N (xs.map fun x => (x, false)) = some (true, l') := by
  refine Apart_L1 (n := xs.length) (len := fun j => (xs[j]?.getD []).length) hn (fun j => ?_) hN N 0 _ ⟨by simp, fun j hj => ?_⟩ (by omega) (by omega)
  · by_cases hj : j < xs.length
    · rw [List.getElem?_eq_getElem hj]; exact hl _ (List.getElem_mem hj)
    · rw [List.getElem?_eq_none (by omega)]; simp
  · refine ⟨xs[j], by rw [List.getElem?_map, List.getElem?_eq_getElem hj]; rfl, by rw [List.getElem?_eq_getElem hj]; rfl, fun h => by omega⟩
end



def m_r18_listed_v0n (p1_l : (List Int)) : Option Int :=
  some 2

set_option maxRecDepth 100000 in
set_option maxHeartbeats 2000000 in
theorem c_r18_listed_v0n (col : Col) (w0 : World) (a1 : Option Addr) (cap1 : Nat) (p1_l : (List Int)) (h1 : Sl (Rep.int .i64) col w0 a1 cap1 p1_l) (r : Int) (hm : m_r18_listed_v0n p1_l = some r) :
    Calls Try.prog 77 #[(.pointer none), (.slice a1 p1_l.length cap1)] w0 (fun e w' => e = .returned ((.int .i64 r)) ∧ Below w0.heap.size w0 w') := by
  refine calls_of1 4 (m := 42) (args := [(.pointer none), (.slice a1 p1_l.length cap1)]) Try.func77 rfl rfl rfl rfl rfl ?_
  rw [m_r18_listed_v0n.eq_1] at hm
  have hst := St.start col w0
  replace h1 := h1.keep (Stay.start col w0)
  refine wseq ?_
  refine wregion ?_
  refine lv (v := (.int .i64 0)) rfl rfl (r_assign rfl) ?_
  refine lnil ?_
  refine wseq ?_
  refine wseq ?_
  refine wregion ?_
  refine lv (v := (.pointer none)) rfl rfl (r_move rfl) ?_
  refine lv (v := (.bool true)) rfl rfl (r_eqlP0 ⟨_, Try.underlying40⟩ rfl rfl) ?_
  refine lnil ?_
  refine wcondT rfl ?_
  refine wseq ?_
  refine wregion ?_
  refine lv (v := (.int .i64 2)) rfl rfl (r_assign rfl) ?_
  refine lnil ?_
  refine wret ?_
  cases hm
  exact ⟨rfl, rfl, hst.below⟩










def m_l18_unchanged_v0n_v1n  : Option Bool :=
  some true

set_option maxRecDepth 100000 in
set_option maxHeartbeats 2000000 in
theorem c_l18_unchanged_v0n_v1n (col : Col) (w0 : World)  (r : Bool) (hm : m_l18_unchanged_v0n_v1n = some r) :
    Calls Try.prog 39 #[(.pointer none), (.pointer none)] w0 (fun e w' => e = .returned ((.bool r)) ∧ Below w0.heap.size w0 w') := by
  refine calls_of1 4 (m := 29) (args := [(.pointer none), (.pointer none)]) Try.func39 rfl rfl rfl rfl rfl ?_
  rw [m_l18_unchanged_v0n_v1n.eq_1] at hm
  have hst := St.start col w0
  refine wseq ?_
  refine wregion ?_
  refine lv (v := (.bool false)) rfl rfl (r_assign rfl) ?_
  refine lnil ?_
  refine wseq ?_
  refine wseq ?_
  refine wregion ?_
  refine lv (v := (.pointer none)) rfl rfl (r_move rfl) ?_
  refine lv (v := (.bool true)) rfl rfl (r_eqlP0 ⟨_, Try.underlying24⟩ rfl rfl) ?_
  refine lnil ?_
  refine wcondT rfl ?_
  refine wseq ?_
  refine wregion ?_
  refine lv (v := (.bool true)) rfl rfl (r_assign rfl) ?_
  refine lnil ?_
  refine wret ?_
  cases hm
  exact ⟨rfl, rfl, hst.below⟩




def m_l18_unchanged_L1 (N : Nat) (p0_g : List (List Bool)) (p1_r : ((List (List Bool)))) : Nat → Int → Option Bool
  | 0, _ => none
  | n_1 + 1, a_4 => (m_r15_Graph_Len p1_r).bind fun r_5 => if (decide (a_4 < r_5)) = true then ((m_graph_Graph_Near p0_g a_4).bind fun r_9 => (m_r15_Graph_Near N p1_r a_4).bind fun r_17 => (m_r15_Ints N r_9 r_17).bind fun r_25 => if (!r_25) = true then (some false) else ((m_l18_unchanged_L1 N p0_g p1_r n_1) (IntKind.i64.wrap (a_4 + 1)))) else ((m_graph_Graph_Len p0_g).bind fun r_29 => (m_r15_Graph_Len p1_r).bind fun r_33 => some (decide (r_29 = r_33)))

def m_l18_unchanged (N : Nat) (p0_g : List (List Bool)) (p1_r : ((List (List Bool)))) : Option Bool :=
  m_l18_unchanged_L1 N p0_g p1_r N 0

set_option maxRecDepth 100000 in
set_option maxHeartbeats 2000000 in
theorem c_l18_unchanged (N : Nat) (col : Col) (w0 : World) (qc0 : Nat) (qc1 : Nat) (qc1_1 : Nat) (hqqc0 : qc0 ≠ 0) (hqqc1 : qc1 ≠ 0) (hqqc1_1 : qc1_1 ≠ 0) (o0 : GObj) (p0_g : List (List Bool)) (g1 : Nat) (p1_r : ((List (List Bool)))) (a1_2 : Option Addr) (cap1_2 : Nat) (h0 : GO 85 86 qc0 col w0 o0 p0_g) (h1_2 : Own (Rep.row 4 Rep.bool) 26 qc1_1 col w0 a1_2 cap1_2 p1_r) (hb1 : Box 102 qc1 col w0 g1 #[(.slice a1_2 p1_r.length cap1_2)]) (r : Bool) (hm : m_l18_unchanged N p0_g p1_r = some r) :
    Calls Try.prog 39 #[(.pointer (some ⟨o0.g, 0, none⟩)), (.pointer (some ⟨g1, 0, none⟩))] w0 (fun e w' => e = .returned ((.bool r)) ∧ Below w0.heap.size w0 w') := by
  refine calls_of1 4 (m := 29) (args := [(.pointer (some ⟨o0.g, 0, none⟩)), (.pointer (some ⟨g1, 0, none⟩))]) Try.func39 rfl rfl rfl rfl rfl ?_
  rw [m_l18_unchanged.eq_1] at hm
  have hst := St.start col w0
  replace h0 := h0.start0 hqqc0
  replace hb1 := hb1.start0 hqqc1
  replace h1_2 := h1_2.start0 hqqc1_1
  refine wseq ?_
  refine wregion ?_
  refine lv (v := (.bool false)) rfl rfl (r_assign rfl) ?_
  refine lnil ?_
  refine wseq ?_
  refine wseq ?_
  refine wregion ?_
  refine lv (v := (.pointer (some ⟨o0.g, 0, none⟩))) rfl rfl (r_move rfl) ?_
  refine lv (v := (.bool false)) rfl rfl (r_eqlP1 ⟨_, Try.underlying24⟩ rfl rfl) ?_
  refine lnil ?_
  refine wcondF rfl ?_
  refine wskip ?_
  refine wseq ?_
  refine wseq ?_
  refine wregion ?_
  refine lv (v := (.int .i64 0)) rfl rfl (r_assign rfl) ?_
  refine lnil ?_
  refine wblock ?_
  refine wloop (fun n f w_2 => ∃ (col_3 : Col) (a_4 : Int) (n_1 : Nat), n_1 = n ∧ m_l18_unchanged_L1 N p0_g p1_r n_1 a_4 = some r ∧ St w0 (col0 col) col_3 w_2 ∧ GO 85 86 999 col_3 w_2 o0 p0_g ∧ Own (Rep.row 4 Rep.bool) 26 999 col_3 w_2 a1_2 cap1_2 p1_r ∧ Box 102 999 col_3 w_2 g1 #[(.slice a1_2 p1_r.length cap1_2)] ∧ f 0 = (.pointer (some ⟨o0.g, 0, none⟩)) ∧ f 1 = (.pointer (some ⟨g1, 0, none⟩)) ∧ f 5 = (.int .i64 a_4) ∧ f 1000000 = (enc [])) N ⟨(col0 col), 0, N, rfl, hm, hst, h0, h1_2, hb1, rfl, rfl, rfl, rfl⟩ ?_
  clear hm; intro n f w_2 hI
  obtain ⟨col_3, a_4, n_1, hn, hm, hst, h0, h1_2, hb1, hs0, hs1, hs5, hs1000000⟩ := hI
  subst hn
  refine .ld (d := 0) (v := (.pointer (some ⟨o0.g, 0, none⟩))) hs0 ?_
  refine .ld (d := 1) (v := (.pointer (some ⟨g1, 0, none⟩))) hs1 ?_
  refine .ld (d := 5) (v := (.int .i64 a_4)) hs5 ?_
  refine .ld (d := 1000000) (v := (enc [])) hs1000000 ?_
  clear hs0 hs1 hs5 hs1000000
  cases n_1 with
  | zero => rw [m_l18_unchanged_L1.eq_1] at hm; cases hm
  | succ n_1 =>
    rw [m_l18_unchanged_L1.eq_2] at hm
    refine wseq ?_
    refine wseq ?_
    refine wregion ?_
    refine lv (v := (.int .i64 a_4)) rfl rfl (r_move rfl) ?_
    refine lv (v := (.pointer (some ⟨g1, 0, none⟩))) rfl rfl (r_move rfl) ?_
    obtain ⟨r_5, hr_6, hm⟩ := bind_some hm
    refine lc rfl rfl (r_call1 Try.call19 rfl) (c_r15_Graph_Len col_3 _ 999 999 (by decide) (by decide) g1 p1_r a1_2 cap1_2 h1_2 hb1 r_5 hr_6) ?_
    rintro _ w_7 ⟨rfl, hg_8⟩
    refine ⟨_, rfl, ?_⟩
    replace hg_8 : Grow col_3 w_2 col_3 w_7 := .of_below hg_8
    replace h0 := h0.gr hg_8
    replace h1_2 := h1_2.gr hg_8
    replace hb1 := hb1.gr hg_8
    replace hst := hst.grow hg_8
    refine lv (v := (.bool (decide (a_4 < r_5)))) rfl rfl (r_lss a_4 r_5 rfl rfl) ?_
    refine lnil ?_
    refine wcond (decide (a_4 < r_5)) rfl (fun hb => ?_) (fun hb => ?_)
    · rw [if_pos hb] at hm
      clear hb
      refine wskip ?_
      refine wseq ?_
      refine wblock ?_
      refine wseq ?_
      refine wregion ?_
      refine lv (v := (.pointer (some ⟨o0.g, 0, none⟩))) rfl rfl (r_move rfl) ?_
      refine lv (v := (.int .i64 a_4)) rfl rfl (r_move rfl) ?_
      obtain ⟨r_9, hr_10, hm⟩ := bind_some hm
      refine lc rfl rfl (r_call2 Try.call22 rfl rfl) (c_graph_Graph_Near 1 col_3 _ 999 (by decide) o0 p0_g a_4 h0 r_9 hr_10) ?_
      rintro _ w_14 ⟨col_16, ra_11, rc_12, rfl, hg_15, rh_13⟩
      refine ⟨_, rfl, ?_⟩
      replace h0 := h0.gr hg_15
      replace h1_2 := h1_2.gr hg_15
      replace hb1 := hb1.gr hg_15
      replace hst := hst.grow hg_15
      refine lv (v := (.pointer (some ⟨g1, 0, none⟩))) rfl rfl (r_move rfl) ?_
      refine lv (v := (.int .i64 a_4)) rfl rfl (r_move rfl) ?_
      obtain ⟨r_17, hr_18, hm⟩ := bind_some hm
      refine lc rfl rfl (r_call2 Try.call74 rfl rfl) (c_r15_Graph_Near N 2 col_16 _ 999 999 (by decide) (by decide) g1 p1_r a1_2 cap1_2 a_4 h1_2 hb1 r_17 hr_18) ?_
      rintro _ w_22 ⟨col_24, ra_19, rc_20, rfl, hg_23, rh_21⟩
      refine ⟨_, rfl, ?_⟩
      replace h0 := h0.gr hg_23
      replace h1_2 := h1_2.gr hg_23
      replace rh_13 := rh_13.gr hg_23
      replace hb1 := hb1.gr hg_23
      replace hst := hst.grow hg_23
      obtain ⟨r_25, hr_26, hm⟩ := bind_some hm
      refine lc rfl rfl (r_call2 Try.call36 rfl rfl) (c_r15_Ints N (frC 2 (frC 1 col_24)) _ ra_11 rc_12 r_9 ra_19 rc_20 r_17 ((rh_13.toSlF (Froz.int .i64)).froz 2) ((rh_21.froz 1 (by decide)).toSlF (Froz.int .i64)) r_25 hr_26) ?_
      rintro _ w_27 ⟨rfl, hg_28⟩
      refine ⟨_, rfl, ?_⟩
      replace hg_28 : Grow col_24 w_22 col_24 w_27 := .of_below hg_28
      replace h0 := h0.gr hg_28
      replace h1_2 := h1_2.gr hg_28
      replace rh_13 := rh_13.gr hg_28
      replace rh_21 := rh_21.gr hg_28
      replace hb1 := hb1.gr hg_28
      replace hst := hst.grow hg_28
      refine lv (v := (.bool r_25)) rfl rfl (r_assign rfl) ?_
      refine lnil ?_
      refine wseq ?_
      refine wregion ?_
      refine lv (v := (.bool r_25)) rfl rfl (r_move rfl) ?_
      refine lv (v := (.bool (!r_25))) rfl rfl (r_not r_25 rfl) ?_
      refine lnil ?_
      refine wcond (!r_25) rfl (fun hb => ?_) (fun hb => ?_)
      · rw [if_pos hb] at hm
        clear hb
        refine wseq ?_
        refine wregion ?_
        refine lv (v := (.bool false)) rfl rfl (r_assign rfl) ?_
        refine lnil ?_
        refine wret ?_
        cases hm
        exact ⟨rfl, rfl, hst.below⟩
      · rw [if_neg (by rw [hb]; decide)] at hm
        clear hb
        refine wskip ?_
        refine wregion ?_
        refine lv (v := (.int .i64 a_4)) rfl rfl (r_move rfl) ?_
        refine lv (v := (.int .i64 (IntKind.i64.wrap (a_4 + 1)))) rfl rfl (r_add a_4 1 rfl rfl) ?_
        refine lv (v := (.int .i64 (IntKind.i64.wrap (a_4 + 1)))) rfl rfl (r_assign rfl) ?_
        refine lnil ?_
        exact ⟨n_1, by omega, ⟨col_24, (IntKind.i64.wrap (a_4 + 1)), n_1, rfl, hm, hst, h0, h1_2, hb1, rfl, rfl, rfl, rfl⟩⟩
    · rw [if_neg (by rw [hb]; decide)] at hm
      clear hb
      refine wexit (inB_hit ?_)
      refine wseq ?_
      refine wregion ?_
      refine lv (v := (.pointer (some ⟨o0.g, 0, none⟩))) rfl rfl (r_move rfl) ?_
      obtain ⟨r_29, hr_30, hm⟩ := bind_some hm
      refine lc rfl rfl (r_call1 Try.call15 rfl) (c_graph_Graph_Len col_3 _ 999 (by decide) o0 p0_g h0 r_29 hr_30) ?_
      rintro _ w_31 ⟨rfl, hg_32⟩
      refine ⟨_, rfl, ?_⟩
      replace hg_32 : Grow col_3 w_7 col_3 w_31 := .of_below hg_32
      replace h1_2 := h1_2.gr hg_32
      replace h0 := h0.gr hg_32
      replace hb1 := hb1.gr hg_32
      replace hst := hst.grow hg_32
      refine lv (v := (.pointer (some ⟨g1, 0, none⟩))) rfl rfl (r_move rfl) ?_
      obtain ⟨r_33, hr_34, hm⟩ := bind_some hm
      refine lc rfl rfl (r_call1 Try.call19 rfl) (c_r15_Graph_Len col_3 _ 999 999 (by decide) (by decide) g1 p1_r a1_2 cap1_2 h1_2 hb1 r_33 hr_34) ?_
      rintro _ w_35 ⟨rfl, hg_36⟩
      refine ⟨_, rfl, ?_⟩
      replace hg_36 : Grow col_3 w_31 col_3 w_35 := .of_below hg_36
      replace h1_2 := h1_2.gr hg_36
      replace hb1 := hb1.gr hg_36
      replace hst := hst.grow hg_36
      refine lv (v := (.bool (decide (r_29 = r_33)))) rfl rfl (r_eql r_29 r_33 rfl rfl) ?_
      refine lv (v := (.bool (decide (r_29 = r_33)))) rfl rfl (r_assign rfl) ?_
      refine lnil ?_
      refine wret ?_
      cases hm
      exact ⟨rfl, rfl, hst.below⟩





def m_r18_Cliques_v0n (p1_order : (List Int)) : Option ((List (List Int)) × Int) :=
  (m_r18_listed_v0n p1_order).bind fun r_1 => some (([] : List (List Int)), 2)

set_option maxRecDepth 100000 in
set_option maxHeartbeats 2000000 in
theorem c_r18_Cliques_v0n (c1 : Nat) (col : Col) (w0 : World) (a1 : Option Addr) (cap1 : Nat) (p1_order : (List Int)) (h1 : Sl (Rep.int .i64) col w0 a1 cap1 p1_order) (r : ((List (List Int)) × Int)) (hm : m_r18_Cliques_v0n p1_order = some r) :
    Calls Try.prog 41 #[(.pointer none), (.slice a1 p1_order.length cap1)] w0 (fun e w' => ∃ (col' : Col) (ra1 : Option Addr) (rc2 : Nat), e = .returned (.tuple #[(.slice ra1 r.1.length rc2), (.int .i64 r.2)]) ∧ Grow col w0 col' w' ∧ Own (Rep.row 3 (Rep.int .i64)) 22 c1 col' w' ra1 rc2 r.1) := by
  refine calls_of2 4 5 (m := 40) (args := [(.pointer none), (.slice a1 p1_order.length cap1)]) Try.func41 rfl rfl rfl rfl rfl ?_
  rw [m_r18_Cliques_v0n.eq_1] at hm
  have hst := St.start col w0
  replace h1 := h1.keep (Stay.start col w0)
  refine wseq ?_
  refine wregion ?_
  refine lv (v := (.slice none (([] : List (List Int)).length) 0)) rfl rfl (r_assign rfl) ?_
  refine lv (v := (.int .i64 0)) rfl rfl (r_assign rfl) ?_
  refine lnil ?_
  refine wseq ?_
  refine wregion ?_
  refine lv (v := (.pointer none)) rfl rfl (r_move rfl) ?_
  refine lv (v := (.slice a1 p1_order.length cap1)) rfl rfl (r_move rfl) ?_
  obtain ⟨r_1, hr_2, hm⟩ := bind_some hm
  obtain rfl : r_1 = 2 := (Option.some.inj (show some 2 = some r_1 from hr_2)).symm
  refine lc rfl rfl (r_call2 Try.call77 rfl rfl) (c_r18_listed_v0n (col0 col) _ a1 cap1 p1_order h1 (2 : Int) hr_2) ?_
  rintro _ w_3 ⟨rfl, hg_4⟩
  refine ⟨_, rfl, ?_⟩
  replace hg_4 : Grow (col0 col) w0 (col0 col) w_3 := .of_below hg_4
  replace h1 := h1.gr hg_4
  replace hst := hst.grow hg_4
  refine lv (v := (.int .i64 2)) rfl rfl (r_assign rfl) ?_
  refine lnil ?_
  refine wseq ?_
  refine wseq ?_
  refine wregion ?_
  refine lv (v := (.int .i64 2)) rfl rfl (r_move rfl) ?_
  refine lv (v := (.bool true)) rfl rfl (r_neq 2 0 rfl rfl) ?_
  refine lnil ?_
  refine wcondT rfl ?_
  refine wseq ?_
  refine wregion ?_
  refine lv (v := (.int .i64 2)) rfl rfl (r_move rfl) ?_
  refine lv (v := (.slice none (([] : List (List Int)).length) 0)) rfl rfl (r_assign rfl) ?_
  refine lv (v := (.int .i64 2)) rfl rfl (r_assign rfl) ?_
  refine lnil ?_
  refine wret ?_
  cases hm
  exact ⟨rfl, colF w0.heap.size col (col0 col) (fun n => 0), none, 0, rfl, hst.fin (fun n => 0), Own.nil⟩




def m_r18_Width_v0n_L1 (N : Nat) (r_1 : ((List (List Int)) × Int)) : Nat → Int → Int → Option (Int × Int)
  | 0, _, _ => none
  | n_9 + 1, most_12, i_13 => if (decide (i_13 < (r_1.1.length : Int))) = true then ((at? r_1.1 i_13).bind fun e_14 => (m_r18_Width_v0n_L1 N r_1 n_9) (if (e_14.length : Int) > most_12 then (e_14.length : Int) else most_12) (IntKind.i64.wrap (i_13 + 1))) else (some (IntKind.i64.wrap (most_12 - 1), r_1.2))

def m_r18_Width_v0n (N : Nat) (p1_order : (List Int)) : Option (Int × Int) :=
  (m_r18_Cliques_v0n p1_order).bind fun r_1 => m_r18_Width_v0n_L1 N r_1 N 1 0

set_option maxRecDepth 100000 in
set_option maxHeartbeats 2000000 in
theorem c_r18_Width_v0n (N : Nat) (col : Col) (w0 : World) (a1 : Option Addr) (cap1 : Nat) (p1_order : (List Int)) (h1 : Sl (Rep.int .i64) col w0 a1 cap1 p1_order) (r : (Int × Int)) (hm : m_r18_Width_v0n N p1_order = some r) :
    Calls Try.prog 43 #[(.pointer none), (.slice a1 p1_order.length cap1)] w0 (fun e w' => e = .returned (.tuple #[(.int .i64 r.1), (.int .i64 r.2)]) ∧ Below w0.heap.size w0 w') := by
  refine calls_of2 4 5 (m := 32) (args := [(.pointer none), (.slice a1 p1_order.length cap1)]) Try.func43 rfl rfl rfl rfl rfl ?_
  rw [m_r18_Width_v0n.eq_1] at hm
  have hst := St.start col w0
  replace h1 := h1.keep (Stay.start col w0)
  refine wseq ?_
  refine wregion ?_
  refine lv (v := (.int .i64 0)) rfl rfl (r_assign rfl) ?_
  refine lv (v := (.int .i64 0)) rfl rfl (r_assign rfl) ?_
  refine lnil ?_
  refine wseq ?_
  refine wregion ?_
  refine lv (v := (.pointer none)) rfl rfl (r_move rfl) ?_
  refine lv (v := (.slice a1 p1_order.length cap1)) rfl rfl (r_move rfl) ?_
  obtain ⟨r_1, hr_2, hm⟩ := bind_some hm
  refine lc rfl rfl (r_call2 Try.call41 rfl rfl) (c_r18_Cliques_v0n 1 (col0 col) _ a1 cap1 p1_order h1 r_1 hr_2) ?_
  rintro _ w_6 ⟨col_8, ra_3, rc_4, rfl, hg_7, rh_5⟩
  refine ⟨_, rfl, ?_⟩
  replace h1 := h1.gr hg_7
  replace hst := hst.grow hg_7
  refine lv (v := (.tuple #[(.slice ra_3 r_1.1.length rc_4), (.int .i64 r_1.2)])) rfl rfl (r_move rfl) ?_
  refine lv (v := (.slice ra_3 r_1.1.length rc_4)) rfl rfl (r_extract rfl rfl) ?_
  refine lv (v := (.int .i64 r_1.2)) rfl rfl (r_extract rfl rfl) ?_
  refine lv (v := (.slice ra_3 r_1.1.length rc_4)) rfl rfl (r_assign rfl) ?_
  refine lv (v := (.int .i64 r_1.2)) rfl rfl (r_assign rfl) ?_
  refine lnil ?_
  refine wseq ?_
  refine wregion ?_
  refine lv (v := (.int .i64 1)) rfl rfl (r_assign rfl) ?_
  refine lnil ?_
  refine wseq ?_
  refine wseq ?_
  refine wregion ?_
  refine lv (v := (.int .i64 0)) rfl rfl (r_assign rfl) ?_
  refine lnil ?_
  refine wblock ?_
  refine wloop (fun n f w_10 => ∃ (col_11 : Col) (most_12 : Int) (i_13 : Int) (n_9 : Nat), n_9 = n ∧ m_r18_Width_v0n_L1 N r_1 n_9 most_12 i_13 = some r ∧ St w0 (col0 col) col_11 w_10 ∧ Own (Rep.row 3 (Rep.int .i64)) 22 1 col_11 w_10 ra_3 rc_4 r_1.1 ∧ f 6 = (.slice ra_3 r_1.1.length rc_4) ∧ f 7 = (.int .i64 r_1.2) ∧ f 8 = (.int .i64 most_12) ∧ f 9 = (.int .i64 i_13) ∧ f 1000000 = (enc [])) N ⟨col_8, 1, 0, N, rfl, hm, hst, rh_5, rfl, rfl, rfl, rfl, rfl⟩ ?_
  clear hm; intro n f w_10 hI
  obtain ⟨col_11, most_12, i_13, n_9, hn, hm, hst, rh_5, hs6, hs7, hs8, hs9, hs1000000⟩ := hI
  subst hn
  refine .ld (d := 6) (v := (.slice ra_3 r_1.1.length rc_4)) hs6 ?_
  refine .ld (d := 7) (v := (.int .i64 r_1.2)) hs7 ?_
  refine .ld (d := 8) (v := (.int .i64 most_12)) hs8 ?_
  refine .ld (d := 9) (v := (.int .i64 i_13)) hs9 ?_
  refine .ld (d := 1000000) (v := (enc [])) hs1000000 ?_
  clear hs6 hs7 hs8 hs9 hs1000000
  cases n_9 with
  | zero => rw [m_r18_Width_v0n_L1.eq_1] at hm; cases hm
  | succ n_9 =>
    rw [m_r18_Width_v0n_L1.eq_2] at hm
    refine wseq ?_
    refine wseq ?_
    refine wregion ?_
    refine lv (v := (.int .i64 i_13)) rfl rfl (r_move rfl) ?_
    refine lv (v := (.slice ra_3 r_1.1.length rc_4)) rfl rfl (r_move rfl) ?_
    refine lv (v := (.int .i64 (r_1.1.length : Int))) rfl rfl (r_len Try.underlying33 rfl) ?_
    refine lv (v := (.bool (decide (i_13 < (r_1.1.length : Int))))) rfl rfl (r_lss i_13 (r_1.1.length : Int) rfl rfl) ?_
    refine lnil ?_
    refine wcond (decide (i_13 < (r_1.1.length : Int))) rfl (fun hb => ?_) (fun hb => ?_)
    · rw [if_pos hb] at hm
      clear hb
      refine wskip ?_
      refine wseq ?_
      refine wblock ?_
      refine wregion ?_
      refine lv (v := (.int .i64 most_12)) rfl rfl (r_move rfl) ?_
      refine lv (v := (.slice ra_3 r_1.1.length rc_4)) rfl rfl (r_move rfl) ?_
      refine lv (v := (.int .i64 i_13)) rfl rfl (r_move rfl) ?_
      obtain ⟨e_14, hj_15, hm⟩ := bind_some hm
      refine lv (v := (sptr ra_3 (Int.toNat i_13 * 1))) rfl rfl (r_idx Try.underlying33 Try.sizeOf22 rfl rfl (at?_some hj_15).1 (at?_some hj_15).2.1 (rh_5.addr hj_15)) ?_
      obtain ⟨_, hr_16, hA_17⟩ := rh_5.atN hj_15
      obtain ⟨a_18, cap_19, rfl, h_20⟩ := hr_16.row
      refine lv (v := (.slice a_18 e_14.length cap_19)) rfl rfl (r_ld Try.isAgg22 rfl hA_17.one) ?_
      refine lv (v := (.int .i64 (e_14.length : Int))) rfl rfl (r_len Try.underlying22 rfl) ?_
      refine lv (v := (.int .i64 (if (e_14.length : Int) > most_12 then (e_14.length : Int) else most_12))) rfl rfl (r_max most_12 (e_14.length : Int) rfl rfl) ?_
      refine lv (v := (.int .i64 (if (e_14.length : Int) > most_12 then (e_14.length : Int) else most_12))) rfl rfl (r_assign rfl) ?_
      refine lnil ?_
      refine wregion ?_
      refine lv (v := (.int .i64 i_13)) rfl rfl (r_move rfl) ?_
      refine lv (v := (.int .i64 (IntKind.i64.wrap (i_13 + 1)))) rfl rfl (r_add i_13 1 rfl rfl) ?_
      refine lv (v := (.int .i64 (IntKind.i64.wrap (i_13 + 1)))) rfl rfl (r_assign rfl) ?_
      refine lnil ?_
      exact ⟨n_9, by omega, ⟨col_11, (if (e_14.length : Int) > most_12 then (e_14.length : Int) else most_12), (IntKind.i64.wrap (i_13 + 1)), n_9, rfl, hm, hst, rh_5, rfl, rfl, rfl, rfl, rfl⟩⟩
    · rw [if_neg (by rw [hb]; decide)] at hm
      clear hb
      refine wexit (inB_hit ?_)
      refine wseq ?_
      refine wregion ?_
      refine lv (v := (.int .i64 most_12)) rfl rfl (r_move rfl) ?_
      refine lv (v := (.int .i64 (IntKind.i64.wrap (most_12 - 1)))) rfl rfl (r_sub most_12 1 rfl rfl) ?_
      refine lv (v := (.int .i64 r_1.2)) rfl rfl (r_move rfl) ?_
      refine lv (v := (.int .i64 (IntKind.i64.wrap (most_12 - 1)))) rfl rfl (r_assign rfl) ?_
      refine lv (v := (.int .i64 r_1.2)) rfl rfl (r_assign rfl) ?_
      refine lnil ?_
      refine wret ?_
      cases hm
      exact ⟨rfl, rfl, hst.below⟩


end Go.Proofs.Ytgkofjmeopbkbaa
