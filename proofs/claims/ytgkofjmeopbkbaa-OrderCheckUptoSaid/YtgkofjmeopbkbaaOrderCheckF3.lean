/-
  What functions of the program compute, as plain Lean functions (m_..), and proofs that they compute it (c_..). Printed by a program of the author; no conditions.
-/
import Derived.Test.YtgkofjmeopbkbaaFloat
import Derived.Test.YtgkofjmeopbkbaaProg
import Derived.Test.YtgkofjmeopbkbaaGraph
import Derived.Test.YtgkofjmeopbkbaaOrderCheckF2
set_option linter.unusedVariables false
namespace Go.Proofs.Ytgkofjmeopbkbaa
open Go Go.RowKit


set_option maxRecDepth 100000 in
theorem el22_40 : ElemOk Try.prog 22 1 24 := ⟨Try.t22, _, rfl, rfl, rfl, rfl, rfl⟩

def m_order_Cliques_L1  : List Int → (List (List Int)) → Option ((List (List Int)) × Int)
  | [], all_20 => some (all_20, 0)
  | x_24 :: l_25, all_20 => none

def m_order_Cliques_L2 (N : Nat) : List Int → (List (List Bool)) → (List (List Int)) → Option ((List (List Int)) × Int)
  | [], h_30, all_32 => some (all_32, 0)
  | x_36 :: l_37, h_30, all_32 => (m_graph_Graph_Remove N h_30 x_36).bind fun r_38 => chk ((all_32.length + [r_38.1].length) * 24 ≤ 140737488355328 ∧ all_32.length + [r_38.1].length ≤ maxLen) ((m_order_Cliques_L2 N l_37) r_38.2.2 (all_32 ++ [r_38.1]))

def m_order_Cliques (N : Nat) (p0_g : List (List Bool)) (p1_order : (List Int)) : Option ((List (List Int)) × Int) :=
  (m_order_wrong p0_g p1_order).bind fun r_1 => if (!decide (r_1 = 0)) = true then (some (([] : List (List Int)), r_1)) else ((m_order_copied N p0_g).bind fun r_5 => optC (r_5) (m_order_Cliques_L1 p1_order ([] : List (List Int))) (fun t_12 => m_order_Cliques_L2 N p1_order t_12 ([] : List (List Int))))

set_option maxRecDepth 100000 in
set_option maxHeartbeats 2000000 in
theorem c_order_Cliques (N : Nat) (c1 : Nat) (col : Col) (w0 : World) (qc0 : Nat) (hqqc0 : qc0 ≠ 0) (o0 : GObj) (p0_g : List (List Bool)) (a1 : Option Addr) (cap1 : Nat) (p1_order : (List Int)) (h0 : GO 85 86 qc0 col w0 o0 p0_g) (h1 : Sl (Rep.int .i64) col w0 a1 cap1 p1_order) (r : ((List (List Int)) × Int)) (hm : m_order_Cliques N p0_g p1_order = some r) :
    Calls Try.prog 40 #[(.pointer (some ⟨o0.g, 0, none⟩)), (.slice a1 p1_order.length cap1)] w0 (fun e w' => ∃ (col' : Col) (ra1 : Option Addr) (rc2 : Nat), e = .returned (.tuple #[(.slice ra1 r.1.length rc2), (.int .i64 r.2)]) ∧ Grow col w0 col' w' ∧ Own (Rep.row 3 (Rep.int .i64)) 22 c1 col' w' ra1 rc2 r.1) := by
  refine calls_of2 4 5 (m := 39) (args := [(.pointer (some ⟨o0.g, 0, none⟩)), (.slice a1 p1_order.length cap1)]) Try.func40 rfl rfl rfl rfl rfl ?_
  rw [m_order_Cliques.eq_1] at hm
  have hst := St.start col w0
  replace h0 := h0.start0 hqqc0
  replace h1 := h1.keep (Stay.start col w0)
  refine wseq ?_
  refine wregion ?_
  refine lv (v := (.slice none (([] : List (List Int)).length) 0)) rfl rfl (r_assign rfl) ?_
  refine lv (v := (.int .i64 0)) rfl rfl (r_assign rfl) ?_
  refine lnil ?_
  refine wseq ?_
  refine wseq ?_
  refine wregion ?_
  refine lv (v := (.pointer (some ⟨o0.g, 0, none⟩))) rfl rfl (r_move rfl) ?_
  refine lv (v := (.slice a1 p1_order.length cap1)) rfl rfl (r_move rfl) ?_
  obtain ⟨r_1, hr_2, hm⟩ := bind_some hm
  refine lc rfl rfl (r_call2 Try.call75 rfl rfl) (c_order_wrong (col0 col) _ 999 (by decide) o0 p0_g a1 cap1 p1_order h0 h1 r_1 hr_2) ?_
  rintro _ w_3 ⟨rfl, hg_4⟩
  refine ⟨_, rfl, ?_⟩
  replace hg_4 : Grow (col0 col) w0 (col0 col) w_3 := .of_below hg_4
  replace h0 := h0.gr hg_4
  replace h1 := h1.gr hg_4
  replace hst := hst.grow hg_4
  refine lv (v := (.int .i64 r_1)) rfl rfl (r_assign rfl) ?_
  refine lnil ?_
  refine wseq ?_
  refine wregion ?_
  refine lv (v := (.int .i64 r_1)) rfl rfl (r_move rfl) ?_
  refine lv (v := (.bool (!decide (r_1 = 0)))) rfl rfl (r_neq r_1 0 rfl rfl) ?_
  refine lnil ?_
  refine wcond (!decide (r_1 = 0)) rfl (fun hb => ?_) (fun hb => ?_)
  · rw [if_pos hb] at hm
    clear hb
    refine wseq ?_
    refine wregion ?_
    refine lv (v := (.int .i64 r_1)) rfl rfl (r_move rfl) ?_
    refine lv (v := (.slice none (([] : List (List Int)).length) 0)) rfl rfl (r_assign rfl) ?_
    refine lv (v := (.int .i64 r_1)) rfl rfl (r_assign rfl) ?_
    refine lnil ?_
    refine wret ?_
    cases hm
    exact ⟨rfl, colF w0.heap.size col (col0 col) (fun n => 0), none, 0, rfl, hst.fin (fun n => 0), Own.nil⟩
  · rw [if_neg (by rw [hb]; decide)] at hm
    clear hb
    refine wskip ?_
    refine wseq ?_
    refine wregion ?_
    refine lv (v := (.pointer (some ⟨o0.g, 0, none⟩))) rfl rfl (r_move rfl) ?_
    obtain ⟨r_5, hr_6, hm⟩ := bind_some hm
    refine lc rfl rfl (r_call1 Try.call76 rfl) (c_order_copied N 1 (col0 col) _ 999 (by decide) o0 p0_g h0 r_5 hr_6) ?_
    rintro _ w_9 ⟨col_11, rv_7, rfl, hg_10, rh_8⟩
    refine ⟨_, rfl, ?_⟩
    replace h1 := h1.gr hg_10
    replace h0 := h0.gr hg_10
    replace hst := hst.grow hg_10
    cases hx_13 : r_5 with
    | none =>
      rw [hx_13] at hm rh_8
      replace hm := optC_none hm
      obtain rfl := optP_none rh_8
      clear rh_8
      refine lv (v := (.pointer none)) rfl rfl (r_assign rfl) ?_
      refine lnil ?_
      refine wseq ?_
      refine wregion ?_
      refine lv (v := (.slice none (([] : List (List Int)).length) 0)) rfl rfl (r_assign rfl) ?_
      refine lnil ?_
      refine wseq ?_
      refine wseq ?_
      refine wregion ?_
      refine lv (v := (.slice a1 p1_order.length cap1)) rfl rfl (r_move rfl) ?_
      refine lv (v := (.int .i64 (p1_order.length : Int))) rfl rfl (r_len Try.underlying22 rfl) ?_
      refine lv (v := (.int .i64 0)) rfl rfl (r_move rfl) ?_
      refine lnil ?_
      refine wblock ?_
      refine wloop (fun n f w_18 => ∃ (col_19 : Col) (k_16 : Nat) (a_21 : Option Addr) (cap_22 : Nat) (all_20 : List (List Int)) (l_17 : List Int), n = l_17.length ∧ p1_order.drop k_16 = l_17 ∧ m_order_Cliques_L1 l_17 all_20 = some r ∧ St w0 (col0 col) col_19 w_18 ∧ Sl (Rep.int .i64) col_19 w_18 a1 cap1 p1_order ∧ Own (Rep.row 3 (Rep.int .i64)) 22 2 col_19 w_18 a_21 cap_22 all_20 ∧ f 23 = (.int .i64 (k_16 : Int)) ∧ f 21 = (.slice a1 p1_order.length cap1) ∧ f 22 = (.int .i64 (p1_order.length : Int)) ∧ f 7 = (.pointer none) ∧ f 8 = (.slice a_21 all_20.length cap_22) ∧ f 1000000 = (enc [])) p1_order.length ⟨col_11, 0, none, 0, ([] : List (List Int)), p1_order, rfl, rfl, hm, hst, h1, Own.nil, rfl, rfl, rfl, rfl, rfl, rfl⟩ ?_
      clear hm; intro n f w_18 hI
      obtain ⟨col_19, k_16, a_21, cap_22, all_20, l_17, hn, hl, hm, hst, h1, h_23, hs23, hs21, hs22, hs7, hs8, hs1000000⟩ := hI
      subst hn
      refine .ld (d := 23) (v := (.int .i64 (k_16 : Int))) hs23 ?_
      refine .ld (d := 21) (v := (.slice a1 p1_order.length cap1)) hs21 ?_
      refine .ld (d := 22) (v := (.int .i64 (p1_order.length : Int))) hs22 ?_
      refine .ld (d := 7) (v := (.pointer none)) hs7 ?_
      refine .ld (d := 8) (v := (.slice a_21 all_20.length cap_22)) hs8 ?_
      refine .ld (d := 1000000) (v := (enc [])) hs1000000 ?_
      clear hs23 hs21 hs22 hs7 hs8 hs1000000
      cases l_17 with
      | nil =>
        have hk : ¬ ((k_16 : Int) < (p1_order.length : Int)) := by have := List.drop_eq_nil_iff.1 hl; omega
        have hkb := decide_eq_false hk
        rw [m_order_Cliques_L1.eq_1] at hm
        refine wseq ?_
        refine wregion ?_
        refine lv (v := (.bool (decide ((k_16 : Int) < (p1_order.length : Int))))) rfl rfl (r_lss (k_16 : Int) (p1_order.length : Int) rfl rfl) ?_
        refine lnil ?_
        refine wseq ?_
        refine wcondF (congrArg Value.bool hkb) ?_
        refine wexit (inB_hit ?_)
        refine wseq ?_
        refine wregion ?_
        refine lv (v := (.slice a_21 all_20.length cap_22)) rfl rfl (r_move rfl) ?_
        refine lv (v := (.slice a_21 all_20.length cap_22)) rfl rfl (r_assign rfl) ?_
        refine lv (v := (.int .i64 0)) rfl rfl (r_assign rfl) ?_
        refine lnil ?_
        refine wret ?_
        cases hm
        exact ⟨rfl, colF w0.heap.size col col_19 (fun n => bif Nat.beq n 2 then c1 else 0), a_21, cap_22, rfl, hst.fin (fun n => bif Nat.beq n 2 then c1 else 0), hst.finOwn (g := (fun n => bif Nat.beq n 2 then c1 else 0)) rfl h_23 (by decide) (by decide) rfl⟩
      | cons x_24 l_25 =>
        obtain ⟨hat, hl2, hlt⟩ := drop_get hl
        have hk : (k_16 : Int) < (p1_order.length : Int) := by omega
        have hkb := decide_eq_true hk
        rw [m_order_Cliques_L1.eq_2] at hm
        refine wseq ?_
        refine wregion ?_
        refine lv (v := (.bool (decide ((k_16 : Int) < (p1_order.length : Int))))) rfl rfl (r_lss (k_16 : Int) (p1_order.length : Int) rfl rfl) ?_
        refine lnil ?_
        refine wseq ?_
        refine wcondT (congrArg Value.bool hkb) ?_
        refine wskip ?_
        refine wseq ?_
        refine wblock ?_
        refine wseq ?_
        refine wregion ?_
        refine lv (v := (sptr a1 (Int.toNat (k_16 : Int) * 1))) rfl rfl (r_idx Try.underlying22 Try.sizeOf3 rfl rfl (at?_some hat).1 (at?_some hat).2.1 (h1.addr hat)) ?_
        refine lv (v := (.int .i64 x_24)) rfl rfl (r_ld Try.isAgg3 rfl (h1.atInt hat)) ?_
        refine lv (v := (.int .i64 x_24)) rfl rfl (r_assign rfl) ?_
        refine lnil ?_
        refine wseq ?_
        refine wregion ?_
        refine lv (v := (.pointer none)) rfl rfl (r_move rfl) ?_
        refine lv (v := (.int .i64 x_24)) rfl rfl (r_move rfl) ?_
        cases hm
    | some t_12 =>
      rw [hx_13] at hm rh_8
      replace hm := optC_some hm
      obtain ⟨o_14, rfl, hG_15⟩ := optP_some rh_8
      refine lv (v := (.pointer (some ⟨o_14.g, 0, none⟩))) rfl rfl (r_assign rfl) ?_
      refine lnil ?_
      refine wseq ?_
      refine wregion ?_
      refine lv (v := (.slice none (([] : List (List Int)).length) 0)) rfl rfl (r_assign rfl) ?_
      refine lnil ?_
      refine wseq ?_
      refine wseq ?_
      refine wregion ?_
      refine lv (v := (.slice a1 p1_order.length cap1)) rfl rfl (r_move rfl) ?_
      refine lv (v := (.int .i64 (p1_order.length : Int))) rfl rfl (r_len Try.underlying22 rfl) ?_
      refine lv (v := (.int .i64 0)) rfl rfl (r_move rfl) ?_
      refine lnil ?_
      refine wblock ?_
      refine wloop (fun n f w_28 => ∃ (col_29 : Col) (k_26 : Nat) (h_30 : List (List Bool)) (a_33 : Option Addr) (cap_34 : Nat) (all_32 : List (List Int)) (l_27 : List Int), n = l_27.length ∧ p1_order.drop k_26 = l_27 ∧ m_order_Cliques_L2 N l_27 h_30 all_32 = some r ∧ St w0 (col0 col) col_29 w_28 ∧ Sl (Rep.int .i64) col_29 w_28 a1 cap1 p1_order ∧ GO 85 86 1 col_29 w_28 o_14 h_30 ∧ Own (Rep.row 3 (Rep.int .i64)) 22 3 col_29 w_28 a_33 cap_34 all_32 ∧ f 23 = (.int .i64 (k_26 : Int)) ∧ f 21 = (.slice a1 p1_order.length cap1) ∧ f 22 = (.int .i64 (p1_order.length : Int)) ∧ f 7 = (.pointer (some ⟨o_14.g, 0, none⟩)) ∧ f 8 = (.slice a_33 all_32.length cap_34) ∧ f 1000000 = (enc [])) p1_order.length ⟨col_11, 0, t_12, none, 0, ([] : List (List Int)), p1_order, rfl, rfl, hm, hst, h1, hG_15, Own.nil, rfl, rfl, rfl, rfl, rfl, rfl⟩ ?_
      clear hm; intro n f w_28 hI
      obtain ⟨col_29, k_26, h_30, a_33, cap_34, all_32, l_27, hn, hl, hm, hst, h1, h_31, h_35, hs23, hs21, hs22, hs7, hs8, hs1000000⟩ := hI
      subst hn
      refine .ld (d := 23) (v := (.int .i64 (k_26 : Int))) hs23 ?_
      refine .ld (d := 21) (v := (.slice a1 p1_order.length cap1)) hs21 ?_
      refine .ld (d := 22) (v := (.int .i64 (p1_order.length : Int))) hs22 ?_
      refine .ld (d := 7) (v := (.pointer (some ⟨o_14.g, 0, none⟩))) hs7 ?_
      refine .ld (d := 8) (v := (.slice a_33 all_32.length cap_34)) hs8 ?_
      refine .ld (d := 1000000) (v := (enc [])) hs1000000 ?_
      clear hs23 hs21 hs22 hs7 hs8 hs1000000
      cases l_27 with
      | nil =>
        have hk : ¬ ((k_26 : Int) < (p1_order.length : Int)) := by have := List.drop_eq_nil_iff.1 hl; omega
        have hkb := decide_eq_false hk
        rw [m_order_Cliques_L2.eq_1] at hm
        refine wseq ?_
        refine wregion ?_
        refine lv (v := (.bool (decide ((k_26 : Int) < (p1_order.length : Int))))) rfl rfl (r_lss (k_26 : Int) (p1_order.length : Int) rfl rfl) ?_
        refine lnil ?_
        refine wseq ?_
        refine wcondF (congrArg Value.bool hkb) ?_
        refine wexit (inB_hit ?_)
        refine wseq ?_
        refine wregion ?_
        refine lv (v := (.slice a_33 all_32.length cap_34)) rfl rfl (r_move rfl) ?_
        refine lv (v := (.slice a_33 all_32.length cap_34)) rfl rfl (r_assign rfl) ?_
        refine lv (v := (.int .i64 0)) rfl rfl (r_assign rfl) ?_
        refine lnil ?_
        refine wret ?_
        cases hm
        exact ⟨rfl, colF w0.heap.size col col_29 (fun n => bif Nat.beq n 3 then c1 else 0), a_33, cap_34, rfl, hst.fin (fun n => bif Nat.beq n 3 then c1 else 0), hst.finOwn (g := (fun n => bif Nat.beq n 3 then c1 else 0)) rfl h_35 (by decide) (by decide) rfl⟩
      | cons x_36 l_37 =>
        obtain ⟨hat, hl2, hlt⟩ := drop_get hl
        have hk : (k_26 : Int) < (p1_order.length : Int) := by omega
        have hkb := decide_eq_true hk
        rw [m_order_Cliques_L2.eq_2] at hm
        refine wseq ?_
        refine wregion ?_
        refine lv (v := (.bool (decide ((k_26 : Int) < (p1_order.length : Int))))) rfl rfl (r_lss (k_26 : Int) (p1_order.length : Int) rfl rfl) ?_
        refine lnil ?_
        refine wseq ?_
        refine wcondT (congrArg Value.bool hkb) ?_
        refine wskip ?_
        refine wseq ?_
        refine wblock ?_
        refine wseq ?_
        refine wregion ?_
        refine lv (v := (sptr a1 (Int.toNat (k_26 : Int) * 1))) rfl rfl (r_idx Try.underlying22 Try.sizeOf3 rfl rfl (at?_some hat).1 (at?_some hat).2.1 (h1.addr hat)) ?_
        refine lv (v := (.int .i64 x_36)) rfl rfl (r_ld Try.isAgg3 rfl (h1.atInt hat)) ?_
        refine lv (v := (.int .i64 x_36)) rfl rfl (r_assign rfl) ?_
        refine lnil ?_
        refine wseq ?_
        refine wregion ?_
        refine lv (v := (.pointer (some ⟨o_14.g, 0, none⟩))) rfl rfl (r_move rfl) ?_
        refine lv (v := (.int .i64 x_36)) rfl rfl (r_move rfl) ?_
        obtain ⟨r_38, hr_39, hm⟩ := bind_some hm
        refine lc rfl rfl (r_call2 Try.call17 rfl rfl) (c_graph_Graph_Remove N 4 5 col_29 _ 1 rfl o_14 h_30 x_36 h_31 r_38 hr_39) ?_
        rintro _ w_47 ⟨col_49, ra_40, rc_41, ra_43, rc_44, rfl, hg_48, rh_42, rh_45, oh_46⟩
        refine ⟨_, rfl, ?_⟩
        replace h1 := h1.kpp hg_48 rfl
        replace h_35 := h_35.kpp hg_48 rfl rfl
        replace hst := hst.kpp hg_48 rfl rfl
        clear h_31
        refine lv (v := (.tuple #[(.slice ra_40 r_38.1.length rc_41), (.slice ra_43 r_38.2.1.length rc_44)])) rfl rfl (r_move rfl) ?_
        refine lv (v := (.slice ra_40 r_38.1.length rc_41)) rfl rfl (r_extract rfl rfl) ?_
        refine lv (v := (.slice ra_43 r_38.2.1.length rc_44)) rfl rfl (r_extract rfl rfl) ?_
        refine lv (v := (.slice ra_40 r_38.1.length rc_41)) rfl rfl (r_assign rfl) ?_
        refine lv (v := (.slice ra_43 r_38.2.1.length rc_44)) rfl rfl (r_assign rfl) ?_
        refine lnil ?_
        refine wregion ?_
        refine lv (v := (.slice a_33 all_32.length cap_34)) rfl rfl (r_move rfl) ?_
        refine lv (v := (.slice ra_40 r_38.1.length rc_41)) rfl rfl (r_move rfl) ?_
        refine l_lit (col := col_49) (r := (Rep.row 3 (Rep.int .i64))) (xs := [r_38.1]) [(.slice ra_40 r_38.1.length rc_41)] 4 rfl Try.underlying33 el22_40 rfl rfl rfl rfl rfl rfl (by intro v hv; simp only [List.mem_cons, List.not_mem_nil, or_false] at hv; subst hv; rfl) (RowsH.cons1 (cs := [(.slice ra_40 r_38.1.length rc_41)]) rh_42.has Rows.nil0) ?_
        intro a_50 w_51 col_52 hg_53 h_54
        replace h1 := h1.gr hg_53
        replace oh_46 := oh_46.gr hg_53
        replace h_35 := h_35.gr hg_53
        replace rh_42 := rh_42.gr hg_53
        replace hst := hst.grow hg_53
        obtain ⟨hb_55, hm⟩ := chk_some hm
        refine l_appendM (col := col_52) (w := w_51) (r := (Rep.row 3 (Rep.int .i64))) (c := 3) (c2 := 4) (xs := all_32) (ys := [r_38.1]) h_35 (h_54.srcC (by decide)) rfl Try.underlying33 el22_40 rfl rfl rfl hb_55.1 hb_55.2 (by decide) ?_
        intro a_56 cap_57 w_58 col_59 hk_60 h_61
        replace h1 := h1.kpp hk_60 rfl
        replace oh_46 := oh_46.kpp hk_60 rfl rfl
        clear h_54
        replace hst := hst.kpp hk_60 rfl rfl
        clear h_35
        refine lv (v := (.slice a_56 ((all_32 ++ [r_38.1]).length) cap_57)) rfl rfl (r_assign rfl) ?_
        refine lnil ?_
        refine wregion ?_
        refine lv (v := (.int .i64 (IntKind.i64.wrap ((k_26 : Int) + 1)))) rfl rfl (r_add (k_26 : Int) 1 rfl rfl) ?_
        refine lv (v := (.int .i64 (IntKind.i64.wrap ((k_26 : Int) + 1)))) rfl rfl (r_move rfl) ?_
        refine lnil ?_
        exact ⟨l_37.length, by simp, ⟨col_59, (k_26 + 1), r_38.2.2, a_56, cap_57, (all_32 ++ [r_38.1]), l_37, rfl, hl2, hm, hst, h1, oh_46, h_61, (congrArg (Value.int .i64) (wrap_succ (Nat.lt_of_lt_of_le hlt h1.1.1))), rfl, rfl, rfl, rfl, rfl⟩⟩




def m_order_Width_L1 (r_1 : ((List (List Int)) × Int)) : List (List Int) → Int → Option (Int × Int)
  | [], most_13 => some (IntKind.i64.wrap (most_13 - 1), r_1.2)
  | x_14 :: l_15, most_13 => (m_order_Width_L1 r_1 l_15) (if (x_14.length : Int) > most_13 then (x_14.length : Int) else most_13)

def m_order_Width (N : Nat) (p0_g : List (List Bool)) (p1_order : (List Int)) : Option (Int × Int) :=
  (m_order_Cliques N p0_g p1_order).bind fun r_1 => m_order_Width_L1 r_1 r_1.1 1

set_option maxRecDepth 100000 in
set_option maxHeartbeats 2000000 in
theorem c_order_Width (N : Nat) (col : Col) (w0 : World) (qc0 : Nat) (hqqc0 : qc0 ≠ 0) (o0 : GObj) (p0_g : List (List Bool)) (a1 : Option Addr) (cap1 : Nat) (p1_order : (List Int)) (h0 : GO 85 86 qc0 col w0 o0 p0_g) (h1 : Sl (Rep.int .i64) col w0 a1 cap1 p1_order) (r : (Int × Int)) (hm : m_order_Width N p0_g p1_order = some r) :
    Calls Try.prog 42 #[(.pointer (some ⟨o0.g, 0, none⟩)), (.slice a1 p1_order.length cap1)] w0 (fun e w' => e = .returned (.tuple #[(.int .i64 r.1), (.int .i64 r.2)]) ∧ Below w0.heap.size w0 w') := by
  refine calls_of2 4 5 (m := 31) (args := [(.pointer (some ⟨o0.g, 0, none⟩)), (.slice a1 p1_order.length cap1)]) Try.func42 rfl rfl rfl rfl rfl ?_
  rw [m_order_Width.eq_1] at hm
  have hst := St.start col w0
  replace h0 := h0.start0 hqqc0
  replace h1 := h1.keep (Stay.start col w0)
  refine wseq ?_
  refine wregion ?_
  refine lv (v := (.int .i64 0)) rfl rfl (r_assign rfl) ?_
  refine lv (v := (.int .i64 0)) rfl rfl (r_assign rfl) ?_
  refine lnil ?_
  refine wseq ?_
  refine wregion ?_
  refine lv (v := (.pointer (some ⟨o0.g, 0, none⟩))) rfl rfl (r_move rfl) ?_
  refine lv (v := (.slice a1 p1_order.length cap1)) rfl rfl (r_move rfl) ?_
  obtain ⟨r_1, hr_2, hm⟩ := bind_some hm
  refine lc rfl rfl (r_call2 Try.call40 rfl rfl) (c_order_Cliques N 1 (col0 col) _ 999 (by decide) o0 p0_g a1 cap1 p1_order h0 h1 r_1 hr_2) ?_
  rintro _ w_6 ⟨col_8, ra_3, rc_4, rfl, hg_7, rh_5⟩
  refine ⟨_, rfl, ?_⟩
  replace h0 := h0.gr hg_7
  replace h1 := h1.gr hg_7
  replace hst := hst.grow hg_7
  refine lv (v := (.tuple #[(.slice ra_3 r_1.1.length rc_4), (.int .i64 r_1.2)])) rfl rfl (r_move rfl) ?_
  refine lv (v := (.slice ra_3 r_1.1.length rc_4)) rfl rfl (r_extract rfl rfl) ?_
  refine lv (v := (.int .i64 r_1.2)) rfl rfl (r_extract rfl rfl) ?_
  refine lv (v := (.slice ra_3 r_1.1.length rc_4)) rfl rfl (r_assign rfl) ?_
  refine lv (v := (.int .i64 r_1.2)) rfl rfl (r_assign rfl) ?_
  refine lnil ?_
  refine wseq ?_
  refine wregion ?_
  refine lv (v := (.int .i64 1)) rfl rfl (r_assign rfl) ?_
  refine lnil ?_
  refine wseq ?_
  refine wseq ?_
  refine wregion ?_
  refine lv (v := (.slice ra_3 r_1.1.length rc_4)) rfl rfl (r_move rfl) ?_
  refine lv (v := (.int .i64 (r_1.1.length : Int))) rfl rfl (r_len Try.underlying33 rfl) ?_
  refine lv (v := (.int .i64 0)) rfl rfl (r_move rfl) ?_
  refine lnil ?_
  refine wblock ?_
  refine wloop (fun n f w_11 => ∃ (col_12 : Col) (k_9 : Nat) (most_13 : Int) (l_10 : List (List Int)), n = l_10.length ∧ r_1.1.drop k_9 = l_10 ∧ m_order_Width_L1 r_1 l_10 most_13 = some r ∧ St w0 (col0 col) col_12 w_11 ∧ Own (Rep.row 3 (Rep.int .i64)) 22 1 col_12 w_11 ra_3 rc_4 r_1.1 ∧ f 19 = (.int .i64 (k_9 : Int)) ∧ f 17 = (.slice ra_3 r_1.1.length rc_4) ∧ f 18 = (.int .i64 (r_1.1.length : Int)) ∧ f 7 = (.int .i64 r_1.2) ∧ f 8 = (.int .i64 most_13) ∧ f 1000000 = (enc [])) r_1.1.length ⟨col_8, 0, 1, r_1.1, rfl, rfl, hm, hst, rh_5, rfl, rfl, rfl, rfl, rfl, rfl⟩ ?_
  clear hm; intro n f w_11 hI
  obtain ⟨col_12, k_9, most_13, l_10, hn, hl, hm, hst, rh_5, hs19, hs17, hs18, hs7, hs8, hs1000000⟩ := hI
  subst hn
  refine .ld (d := 19) (v := (.int .i64 (k_9 : Int))) hs19 ?_
  refine .ld (d := 17) (v := (.slice ra_3 r_1.1.length rc_4)) hs17 ?_
  refine .ld (d := 18) (v := (.int .i64 (r_1.1.length : Int))) hs18 ?_
  refine .ld (d := 7) (v := (.int .i64 r_1.2)) hs7 ?_
  refine .ld (d := 8) (v := (.int .i64 most_13)) hs8 ?_
  refine .ld (d := 1000000) (v := (enc [])) hs1000000 ?_
  clear hs19 hs17 hs18 hs7 hs8 hs1000000
  cases l_10 with
  | nil =>
    have hk : ¬ ((k_9 : Int) < (r_1.1.length : Int)) := by have := List.drop_eq_nil_iff.1 hl; omega
    have hkb := decide_eq_false hk
    rw [m_order_Width_L1.eq_1] at hm
    refine wseq ?_
    refine wregion ?_
    refine lv (v := (.bool (decide ((k_9 : Int) < (r_1.1.length : Int))))) rfl rfl (r_lss (k_9 : Int) (r_1.1.length : Int) rfl rfl) ?_
    refine lnil ?_
    refine wseq ?_
    refine wcondF (congrArg Value.bool hkb) ?_
    refine wexit (inB_hit ?_)
    refine wseq ?_
    refine wregion ?_
    refine lv (v := (.int .i64 most_13)) rfl rfl (r_move rfl) ?_
    refine lv (v := (.int .i64 (IntKind.i64.wrap (most_13 - 1)))) rfl rfl (r_sub most_13 1 rfl rfl) ?_
    refine lv (v := (.int .i64 r_1.2)) rfl rfl (r_move rfl) ?_
    refine lv (v := (.int .i64 (IntKind.i64.wrap (most_13 - 1)))) rfl rfl (r_assign rfl) ?_
    refine lv (v := (.int .i64 r_1.2)) rfl rfl (r_assign rfl) ?_
    refine lnil ?_
    refine wret ?_
    cases hm
    exact ⟨rfl, rfl, hst.below⟩
  | cons x_14 l_15 =>
    obtain ⟨hat, hl2, hlt⟩ := drop_get hl
    have hk : (k_9 : Int) < (r_1.1.length : Int) := by omega
    have hkb := decide_eq_true hk
    rw [m_order_Width_L1.eq_2] at hm
    refine wseq ?_
    refine wregion ?_
    refine lv (v := (.bool (decide ((k_9 : Int) < (r_1.1.length : Int))))) rfl rfl (r_lss (k_9 : Int) (r_1.1.length : Int) rfl rfl) ?_
    refine lnil ?_
    refine wseq ?_
    refine wcondT (congrArg Value.bool hkb) ?_
    refine wskip ?_
    refine wseq ?_
    refine wblock ?_
    refine wseq ?_
    refine wregion ?_
    refine lv (v := (sptr ra_3 (Int.toNat (k_9 : Int) * 1))) rfl rfl (r_idx Try.underlying33 Try.sizeOf22 rfl rfl (at?_some hat).1 (at?_some hat).2.1 (rh_5.addr hat)) ?_
    obtain ⟨_, hr_16, hA_17⟩ := rh_5.atN hat
    obtain ⟨a_18, cap_19, rfl, h_20⟩ := hr_16.row
    refine lv (v := (.slice a_18 x_14.length cap_19)) rfl rfl (r_ld Try.isAgg22 rfl hA_17.one) ?_
    refine lv (v := (.slice a_18 x_14.length cap_19)) rfl rfl (r_assign rfl) ?_
    refine lnil ?_
    refine wregion ?_
    refine lv (v := (.int .i64 most_13)) rfl rfl (r_move rfl) ?_
    refine lv (v := (.slice a_18 x_14.length cap_19)) rfl rfl (r_move rfl) ?_
    refine lv (v := (.int .i64 (x_14.length : Int))) rfl rfl (r_len Try.underlying22 rfl) ?_
    refine lv (v := (.int .i64 (if (x_14.length : Int) > most_13 then (x_14.length : Int) else most_13))) rfl rfl (r_max most_13 (x_14.length : Int) rfl rfl) ?_
    refine lv (v := (.int .i64 (if (x_14.length : Int) > most_13 then (x_14.length : Int) else most_13))) rfl rfl (r_assign rfl) ?_
    refine lnil ?_
    refine wregion ?_
    refine lv (v := (.int .i64 (IntKind.i64.wrap ((k_9 : Int) + 1)))) rfl rfl (r_add (k_9 : Int) 1 rfl rfl) ?_
    refine lv (v := (.int .i64 (IntKind.i64.wrap ((k_9 : Int) + 1)))) rfl rfl (r_move rfl) ?_
    refine lnil ?_
    exact ⟨l_15.length, by simp, ⟨col_12, (k_9 + 1), (if (x_14.length : Int) > most_13 then (x_14.length : Int) else most_13), l_15, rfl, hl2, hm, hst, rh_5, (congrArg (Value.int .i64) (wrap_succ (Nat.lt_of_lt_of_le hlt rh_5.len))), rfl, rfl, rfl, rfl, rfl⟩⟩



set_option maxRecDepth 100000 in
theorem el3_29 : ElemOk Try.prog 3 1 8 := ⟨Try.t3, _, rfl, rfl, rfl, rfl, rfl⟩

def m_credencelaw18_awake_J1 (v_136 : Bool) : Option Bool :=
  some v_136

def m_credencelaw18_awake_J2 (v_306 : Bool) : Option Bool :=
  some v_306

def m_credencelaw18_awake_J3 (v_483 : Bool) : Option Bool :=
  some v_483

def m_credencelaw18_awake_J4 (v_653 : Bool) : Option Bool :=
  some v_653

def m_credencelaw18_awake (N : Nat)  : Option Bool :=
  (m_credencelaw18_drawn N (5, [0, 1, 1, 2, 2, 3, 0, 3, 3, 4])).bind fun r_6 => optC (r_6.1) (optC (r_6.2.1) (if (!r_6.2.2) = true then (some false) else ((m_order_Fill_v0n N [0, 1, 2, 3, 4]).bind fun r_31 => (m_order_Degree_v0n N [3, 1]).bind fun r_45 => (m_order_Cliques_v0n N r_31.1).bind fun r_54 => (m_order_Width_v0n N r_31.1).bind fun r_63 => (m_order_Fill_v0n N ([] : List Int)).bind fun r_67 => if (decide (r_31.2 = 0)) = true then (if (decide (r_45.2 = 0)) = true then (if (decide (r_54.2 = 0)) = true then (if (decide (r_63.2 = 0)) = true then ((m_credenceref15_Ints N r_31.1 [4, 0, 1, 2, 3]).bind fun r_146 => if r_146 = true then ((m_credenceref15_Ints N r_45.1 [1, 3]).bind fun r_156 => if r_156 = true then (if (decide ((r_54.1.length : Int) = 5)) = true then ((at? r_54.1 1).bind fun e_162 => if (decide ((e_162.length : Int) = 3)) = true then (if (decide (r_63.1 = 2)) = true then (if (decide (r_67.2 = 2)) = true then ((m_order_Check [2, 0, 1] [0, 1, 2]).bind fun r_182 => if (decide (r_182 = 0)) = true then ((m_order_Check [0] ([] : List Int)).bind fun r_192 => m_credencelaw18_awake_J1 (decide (r_192 = 51))) else (m_credencelaw18_awake_J1 false)) else (m_credencelaw18_awake_J1 false)) else (m_credencelaw18_awake_J1 false)) else (m_credencelaw18_awake_J1 false)) else (m_credencelaw18_awake_J1 false)) else (m_credencelaw18_awake_J1 false)) else (m_credencelaw18_awake_J1 false)) else (m_credencelaw18_awake_J1 false)) else (m_credencelaw18_awake_J1 false)) else (m_credencelaw18_awake_J1 false)) else (m_credencelaw18_awake_J1 false))) (fun t_19 => if (!r_6.2.2) = true then (some false) else ((m_order_Fill_v0n N [0, 1, 2, 3, 4]).bind fun r_201 => (m_order_Degree_v0n N [3, 1]).bind fun r_215 => (m_order_Cliques_v0n N r_201.1).bind fun r_224 => (m_order_Width_v0n N r_201.1).bind fun r_233 => (m_order_Fill_v0n N ([] : List Int)).bind fun r_237 => if (decide (r_201.2 = 0)) = true then (if (decide (r_215.2 = 0)) = true then (if (decide (r_224.2 = 0)) = true then (if (decide (r_233.2 = 0)) = true then ((m_credenceref15_Ints N r_201.1 [4, 0, 1, 2, 3]).bind fun r_316 => if r_316 = true then ((m_credenceref15_Ints N r_215.1 [1, 3]).bind fun r_326 => if r_326 = true then (if (decide ((r_224.1.length : Int) = 5)) = true then ((at? r_224.1 1).bind fun e_332 => if (decide ((e_332.length : Int) = 3)) = true then (if (decide (r_233.1 = 2)) = true then (if (decide (r_237.2 = 2)) = true then ((m_order_Check [2, 0, 1] [0, 1, 2]).bind fun r_352 => if (decide (r_352 = 0)) = true then ((m_order_Check [0] ([] : List Int)).bind fun r_362 => m_credencelaw18_awake_J2 (decide (r_362 = 51))) else (m_credencelaw18_awake_J2 false)) else (m_credencelaw18_awake_J2 false)) else (m_credencelaw18_awake_J2 false)) else (m_credencelaw18_awake_J2 false)) else (m_credencelaw18_awake_J2 false)) else (m_credencelaw18_awake_J2 false)) else (m_credencelaw18_awake_J2 false)) else (m_credencelaw18_awake_J2 false)) else (m_credencelaw18_awake_J2 false)) else (m_credencelaw18_awake_J2 false)) else (m_credencelaw18_awake_J2 false)))) (fun t_15 => optC (r_6.2.1) (if (!r_6.2.2) = true then (some false) else ((m_order_Fill N t_15 [0, 1, 2, 3, 4]).bind fun r_378 => (m_order_Degree N t_15 [3, 1]).bind fun r_392 => (m_order_Cliques N t_15 r_378.1).bind fun r_401 => (m_order_Width N t_15 r_378.1).bind fun r_410 => (m_order_Fill_v0n N ([] : List Int)).bind fun r_414 => if (decide (r_378.2 = 0)) = true then (if (decide (r_392.2 = 0)) = true then (if (decide (r_401.2 = 0)) = true then (if (decide (r_410.2 = 0)) = true then ((m_credenceref15_Ints N r_378.1 [4, 0, 1, 2, 3]).bind fun r_493 => if r_493 = true then ((m_credenceref15_Ints N r_392.1 [1, 3]).bind fun r_503 => if r_503 = true then (if (decide ((r_401.1.length : Int) = 5)) = true then ((at? r_401.1 1).bind fun e_509 => if (decide ((e_509.length : Int) = 3)) = true then (if (decide (r_410.1 = 2)) = true then (if (decide (r_414.2 = 2)) = true then ((m_order_Check [2, 0, 1] [0, 1, 2]).bind fun r_529 => if (decide (r_529 = 0)) = true then ((m_order_Check [0] ([] : List Int)).bind fun r_539 => m_credencelaw18_awake_J3 (decide (r_539 = 51))) else (m_credencelaw18_awake_J3 false)) else (m_credencelaw18_awake_J3 false)) else (m_credencelaw18_awake_J3 false)) else (m_credencelaw18_awake_J3 false)) else (m_credencelaw18_awake_J3 false)) else (m_credencelaw18_awake_J3 false)) else (m_credencelaw18_awake_J3 false)) else (m_credencelaw18_awake_J3 false)) else (m_credencelaw18_awake_J3 false)) else (m_credencelaw18_awake_J3 false)) else (m_credencelaw18_awake_J3 false))) (fun t_366 => if (!r_6.2.2) = true then (some false) else ((m_order_Fill N t_15 [0, 1, 2, 3, 4]).bind fun r_548 => (m_order_Degree N t_15 [3, 1]).bind fun r_562 => (m_order_Cliques N t_15 r_548.1).bind fun r_571 => (m_order_Width N t_15 r_548.1).bind fun r_580 => (m_order_Fill_v0n N ([] : List Int)).bind fun r_584 => if (decide (r_548.2 = 0)) = true then (if (decide (r_562.2 = 0)) = true then (if (decide (r_571.2 = 0)) = true then (if (decide (r_580.2 = 0)) = true then ((m_credenceref15_Ints N r_548.1 [4, 0, 1, 2, 3]).bind fun r_663 => if r_663 = true then ((m_credenceref15_Ints N r_562.1 [1, 3]).bind fun r_673 => if r_673 = true then (if (decide ((r_571.1.length : Int) = 5)) = true then ((at? r_571.1 1).bind fun e_679 => if (decide ((e_679.length : Int) = 3)) = true then (if (decide (r_580.1 = 2)) = true then (if (decide (r_584.2 = 2)) = true then ((m_order_Check [2, 0, 1] [0, 1, 2]).bind fun r_699 => if (decide (r_699 = 0)) = true then ((m_order_Check [0] ([] : List Int)).bind fun r_709 => m_credencelaw18_awake_J4 (decide (r_709 = 51))) else (m_credencelaw18_awake_J4 false)) else (m_credencelaw18_awake_J4 false)) else (m_credencelaw18_awake_J4 false)) else (m_credencelaw18_awake_J4 false)) else (m_credencelaw18_awake_J4 false)) else (m_credencelaw18_awake_J4 false)) else (m_credencelaw18_awake_J4 false)) else (m_credencelaw18_awake_J4 false)) else (m_credencelaw18_awake_J4 false)) else (m_credencelaw18_awake_J4 false)) else (m_credencelaw18_awake_J4 false))))

set_option maxRecDepth 100000 in
set_option maxHeartbeats 2000000 in
theorem c_credencelaw18_awake (N : Nat) (col : Col) (w0 : World)  (r : Bool) (hm : m_credencelaw18_awake N = some r) :
    Calls Try.prog 29 #[] w0 (fun e w' => e = .returned ((.bool r)) ∧ Below w0.heap.size w0 w') := by
  refine calls_of1 0 (m := 106) (args := []) Try.func29 rfl rfl rfl rfl rfl ?_
  rw [m_credencelaw18_awake.eq_1] at hm
  have hst := St.start col w0
  refine wseq ?_
  refine wregion ?_
  refine lv (v := (.bool false)) rfl rfl (r_assign rfl) ?_
  refine lnil ?_
  refine wseq ?_
  refine wregion ?_
  refine l_lit (col := (col0 col)) (r := (Rep.int .i64)) (xs := [0, 1, 1, 2, 2, 3, 0, 3, 3, 4]) [(.int .i64 0), (.int .i64 1), (.int .i64 1), (.int .i64 2), (.int .i64 2), (.int .i64 3), (.int .i64 0), (.int .i64 3), (.int .i64 3), (.int .i64 4)] 1 rfl Try.underlying22 el3_29 rfl rfl rfl rfl rfl rfl (by intro v hv; simp only [List.mem_cons, List.not_mem_nil, or_false] at hv; rcases hv with rfl | rfl | rfl | rfl | rfl | rfl | rfl | rfl | rfl | rfl <;> rfl) (RowsH.ofF (Rows.consF (r := (Rep.int .i64)) (x := 0) (cs := [(.int .i64 0)]) (rd_int .i64 0) (Rows.consF (r := (Rep.int .i64)) (x := 1) (cs := [(.int .i64 1)]) (rd_int .i64 1) (Rows.consF (r := (Rep.int .i64)) (x := 1) (cs := [(.int .i64 1)]) (rd_int .i64 1) (Rows.consF (r := (Rep.int .i64)) (x := 2) (cs := [(.int .i64 2)]) (rd_int .i64 2) (Rows.consF (r := (Rep.int .i64)) (x := 2) (cs := [(.int .i64 2)]) (rd_int .i64 2) (Rows.consF (r := (Rep.int .i64)) (x := 3) (cs := [(.int .i64 3)]) (rd_int .i64 3) (Rows.consF (r := (Rep.int .i64)) (x := 0) (cs := [(.int .i64 0)]) (rd_int .i64 0) (Rows.consF (r := (Rep.int .i64)) (x := 3) (cs := [(.int .i64 3)]) (rd_int .i64 3) (Rows.consF (r := (Rep.int .i64)) (x := 3) (cs := [(.int .i64 3)]) (rd_int .i64 3) (Rows.consF (r := (Rep.int .i64)) (x := 4) (cs := [(.int .i64 4)]) (rd_int .i64 4) Rows.nil0))))))))))) ?_
  intro a_1 w_2 col_3 hg_4 h_5
  replace hst := hst.grow hg_4
  refine lv (v := (.agg #[(.int .i64 5), (.slice a_1 ([0, 1, 1, 2, 2, 3, 0, 3, 3, 4].length) 10)])) rfl rfl (r_build (l := [_, _]) (qs := [(0, 1), (1, 1)]) Try.underlying59 Try.zeroValue59 ⟨rfl, Try.sizeOf3, rfl, Try.sizeOf22, trivial⟩ rfl) ?_
  replace h_5 := (h_5).toSlF (Froz.int .i64)
  replace hst := hst.froz 1 (by decide) (by decide)
  obtain ⟨r_6, hr_7, hm⟩ := bind_some hm
  refine lc rfl rfl (r_call1 Try.call30 rfl) (c_credencelaw18_drawn N 2 3 4 (frC 1 col_3) _ a_1 10 (5, [0, 1, 1, 2, 2, 3, 0, 3, 3, 4]) h_5 r_6 hr_7) ?_
  rintro _ w_12 ⟨col_14, rv_8, rv_10, rfl, hg_13, rh_9, rh_11⟩
  refine ⟨_, rfl, ?_⟩
  replace h_5 := h_5.gr hg_13
  replace hst := hst.grow hg_13
  cases hx_16 : r_6.1 with
  | none =>
    rw [hx_16] at hm rh_9
    replace hm := optC_none hm
    obtain rfl := optP_none rh_9
    clear rh_9
    cases hx_20 : r_6.2.1 with
    | none =>
      rw [hx_20] at hm rh_11
      replace hm := optC_none hm
      obtain rfl := optP_none rh_11
      clear rh_11
      refine lv (v := (.tuple #[(.pointer none), (.pointer none), (.bool r_6.2.2)])) rfl rfl (r_move rfl) ?_
      refine lv (v := (.pointer none)) rfl rfl (r_extract rfl rfl) ?_
      refine lv (v := (.pointer none)) rfl rfl (r_extract rfl rfl) ?_
      refine lv (v := (.bool r_6.2.2)) rfl rfl (r_extract rfl rfl) ?_
      refine lv (v := (.pointer none)) rfl rfl (r_assign rfl) ?_
      refine lv (v := (.pointer none)) rfl rfl (r_assign rfl) ?_
      refine lv (v := (.bool r_6.2.2)) rfl rfl (r_assign rfl) ?_
      refine lnil ?_
      refine wseq ?_
      refine wseq ?_
      refine wregion ?_
      refine lv (v := (.bool r_6.2.2)) rfl rfl (r_move rfl) ?_
      refine lv (v := (.bool (!r_6.2.2))) rfl rfl (r_not r_6.2.2 rfl) ?_
      refine lnil ?_
      refine wcond (!r_6.2.2) rfl (fun hb => ?_) (fun hb => ?_)
      · rw [if_pos hb] at hm
        clear hb
        refine wseq ?_
        refine wregion ?_
        refine lv (v := (.bool false)) rfl rfl (r_assign rfl) ?_
        refine lnil ?_
        refine wret ?_
        cases hm
        exact ⟨rfl, rfl, hst.below⟩
      · rw [if_neg (by rw [hb]; decide)] at hm
        clear hb
        refine wskip ?_
        refine wseq ?_
        refine wregion ?_
        refine lv (v := (.pointer none)) rfl rfl (r_move rfl) ?_
        refine l_lit (col := col_14) (r := (Rep.int .i64)) (xs := [0, 1, 2, 3, 4]) [(.int .i64 0), (.int .i64 1), (.int .i64 2), (.int .i64 3), (.int .i64 4)] 5 rfl Try.underlying22 el3_29 rfl rfl rfl rfl rfl rfl (by intro v hv; simp only [List.mem_cons, List.not_mem_nil, or_false] at hv; rcases hv with rfl | rfl | rfl | rfl | rfl <;> rfl) (RowsH.ofF (Rows.consF (r := (Rep.int .i64)) (x := 0) (cs := [(.int .i64 0)]) (rd_int .i64 0) (Rows.consF (r := (Rep.int .i64)) (x := 1) (cs := [(.int .i64 1)]) (rd_int .i64 1) (Rows.consF (r := (Rep.int .i64)) (x := 2) (cs := [(.int .i64 2)]) (rd_int .i64 2) (Rows.consF (r := (Rep.int .i64)) (x := 3) (cs := [(.int .i64 3)]) (rd_int .i64 3) (Rows.consF (r := (Rep.int .i64)) (x := 4) (cs := [(.int .i64 4)]) (rd_int .i64 4) Rows.nil0)))))) ?_
        intro a_26 w_27 col_28 hg_29 h_30
        replace hst := hst.grow hg_29
        obtain ⟨r_31, hr_32, hm⟩ := bind_some hm
        refine lc rfl rfl (r_call2 Try.call32 rfl rfl) (c_order_Fill_v0n N 6 (frC 5 col_28) _ a_26 5 [0, 1, 2, 3, 4] (h_30.toSlF (Froz.int .i64)) r_31 hr_32) ?_
        rintro _ w_36 ⟨col_38, ra_33, rc_34, rfl, hg_37, rh_35⟩
        refine ⟨_, rfl, ?_⟩
        replace rh_35 := rh_35.thaw (flat_int .i64) hg_37 ((Fz.refl (col := col_28)).froz 5) (by decide)
        replace hg_37 := hg_37.thawR (col := col_28)
        generalize colR w_27.heap.size col_28 col_38 = col_39 at *
        replace h_30 := h_30.gr hg_37
        replace hst := hst.grow hg_37
        refine lv (v := (.tuple #[(.slice ra_33 r_31.1.length rc_34), (.int .i64 r_31.2)])) rfl rfl (r_move rfl) ?_
        refine lv (v := (.slice ra_33 r_31.1.length rc_34)) rfl rfl (r_extract rfl rfl) ?_
        refine lv (v := (.int .i64 r_31.2)) rfl rfl (r_extract rfl rfl) ?_
        refine lv (v := (.slice ra_33 r_31.1.length rc_34)) rfl rfl (r_assign rfl) ?_
        refine lv (v := (.int .i64 r_31.2)) rfl rfl (r_assign rfl) ?_
        refine lnil ?_
        refine wseq ?_
        refine wregion ?_
        refine lv (v := (.pointer none)) rfl rfl (r_move rfl) ?_
        refine l_lit (col := col_39) (r := (Rep.int .i64)) (xs := [3, 1]) [(.int .i64 3), (.int .i64 1)] 7 rfl Try.underlying22 el3_29 rfl rfl rfl rfl rfl rfl (by intro v hv; simp only [List.mem_cons, List.not_mem_nil, or_false] at hv; rcases hv with rfl | rfl <;> rfl) (RowsH.ofF (Rows.consF (r := (Rep.int .i64)) (x := 3) (cs := [(.int .i64 3)]) (rd_int .i64 3) (Rows.consF (r := (Rep.int .i64)) (x := 1) (cs := [(.int .i64 1)]) (rd_int .i64 1) Rows.nil0))) ?_
        intro a_40 w_41 col_42 hg_43 h_44
        replace rh_35 := rh_35.gr hg_43
        replace hst := hst.grow hg_43
        obtain ⟨r_45, hr_46, hm⟩ := bind_some hm
        refine lc rfl rfl (r_call2 Try.call33 rfl rfl) (c_order_Degree_v0n N 8 (frC 7 col_42) _ a_40 2 [3, 1] (h_44.toSlF (Froz.int .i64)) r_45 hr_46) ?_
        rintro _ w_50 ⟨col_52, ra_47, rc_48, rfl, hg_51, rh_49⟩
        refine ⟨_, rfl, ?_⟩
        replace rh_49 := rh_49.thaw (flat_int .i64) hg_51 ((Fz.refl (col := col_42)).froz 7) (by decide)
        replace hg_51 := hg_51.thawR (col := col_42)
        generalize colR w_41.heap.size col_42 col_52 = col_53 at *
        replace rh_35 := rh_35.gr hg_51
        replace h_44 := h_44.gr hg_51
        replace hst := hst.grow hg_51
        refine lv (v := (.tuple #[(.slice ra_47 r_45.1.length rc_48), (.int .i64 r_45.2)])) rfl rfl (r_move rfl) ?_
        refine lv (v := (.slice ra_47 r_45.1.length rc_48)) rfl rfl (r_extract rfl rfl) ?_
        refine lv (v := (.int .i64 r_45.2)) rfl rfl (r_extract rfl rfl) ?_
        refine lv (v := (.slice ra_47 r_45.1.length rc_48)) rfl rfl (r_assign rfl) ?_
        refine lv (v := (.int .i64 r_45.2)) rfl rfl (r_assign rfl) ?_
        refine lnil ?_
        refine wseq ?_
        refine wregion ?_
        refine lv (v := (.pointer none)) rfl rfl (r_move rfl) ?_
        refine lv (v := (.slice ra_33 r_31.1.length rc_34)) rfl rfl (r_move rfl) ?_
        obtain ⟨r_54, hr_55, hm⟩ := bind_some hm
        refine lc rfl rfl (r_call2 Try.call40 rfl rfl) (c_order_Cliques_v0n N 9 (frC 6 col_53) _ ra_33 rc_34 r_31.1 (rh_35.toSlF (Froz.int .i64)) r_54 hr_55) ?_
        rintro _ w_59 ⟨col_61, ra_56, rc_57, rfl, hg_60, rh_58⟩
        refine ⟨_, rfl, ?_⟩
        replace rh_58 := rh_58.thaw (flat_row (flat_int .i64)) hg_60 ((Fz.refl (col := col_53)).froz 6) (by decide)
        replace hg_60 := hg_60.thawR (col := col_53)
        generalize colR w_50.heap.size col_53 col_61 = col_62 at *
        replace rh_35 := rh_35.gr hg_60
        replace rh_49 := rh_49.gr hg_60
        replace hst := hst.grow hg_60
        refine lv (v := (.tuple #[(.slice ra_56 r_54.1.length rc_57), (.int .i64 r_54.2)])) rfl rfl (r_move rfl) ?_
        refine lv (v := (.slice ra_56 r_54.1.length rc_57)) rfl rfl (r_extract rfl rfl) ?_
        refine lv (v := (.int .i64 r_54.2)) rfl rfl (r_extract rfl rfl) ?_
        refine lv (v := (.slice ra_56 r_54.1.length rc_57)) rfl rfl (r_assign rfl) ?_
        refine lv (v := (.int .i64 r_54.2)) rfl rfl (r_assign rfl) ?_
        refine lnil ?_
        refine wseq ?_
        refine wregion ?_
        refine lv (v := (.pointer none)) rfl rfl (r_move rfl) ?_
        refine lv (v := (.slice ra_33 r_31.1.length rc_34)) rfl rfl (r_move rfl) ?_
        obtain ⟨r_63, hr_64, hm⟩ := bind_some hm
        refine lc rfl rfl (r_call2 Try.call42 rfl rfl) (c_order_Width_v0n N (frC 6 col_62) _ ra_33 rc_34 r_31.1 (rh_35.toSlF (Froz.int .i64)) r_63 hr_64) ?_
        rintro _ w_65 ⟨rfl, hg_66⟩
        refine ⟨_, rfl, ?_⟩
        replace hg_66 : Grow col_62 w_59 col_62 w_65 := .of_below hg_66
        replace rh_35 := rh_35.gr hg_66
        replace rh_49 := rh_49.gr hg_66
        replace rh_58 := rh_58.gr hg_66
        replace hst := hst.grow hg_66
        refine lv (v := (.tuple #[(.int .i64 r_63.1), (.int .i64 r_63.2)])) rfl rfl (r_move rfl) ?_
        refine lv (v := (.int .i64 r_63.1)) rfl rfl (r_extract rfl rfl) ?_
        refine lv (v := (.int .i64 r_63.2)) rfl rfl (r_extract rfl rfl) ?_
        refine lv (v := (.int .i64 r_63.1)) rfl rfl (r_assign rfl) ?_
        refine lv (v := (.int .i64 r_63.2)) rfl rfl (r_assign rfl) ?_
        refine lnil ?_
        refine wseq ?_
        refine wregion ?_
        obtain ⟨r_67, hr_68, hm⟩ := bind_some hm
        refine lc rfl rfl (r_call2 Try.call32 rfl rfl) (c_order_Fill_v0n N 10 col_62 _ none 0 ([] : List Int) Sl.nil r_67 hr_68) ?_
        rintro _ w_72 ⟨col_74, ra_69, rc_70, rfl, hg_73, rh_71⟩
        refine ⟨_, rfl, ?_⟩
        replace rh_35 := rh_35.gr hg_73
        replace rh_49 := rh_49.gr hg_73
        replace rh_58 := rh_58.gr hg_73
        replace hst := hst.grow hg_73
        refine lv (v := (.tuple #[(.slice ra_69 r_67.1.length rc_70), (.int .i64 r_67.2)])) rfl rfl (r_move rfl) ?_
        refine lv (v := (.slice ra_69 r_67.1.length rc_70)) rfl rfl (r_extract rfl rfl) ?_
        refine lv (v := (.int .i64 r_67.2)) rfl rfl (r_extract rfl rfl) ?_
        refine lv (v := (.slice ra_69 r_67.1.length rc_70)) rfl rfl (r_assign rfl) ?_
        refine lv (v := (.int .i64 r_67.2)) rfl rfl (r_assign rfl) ?_
        refine lnil ?_
        refine wseq ?_
        refine Wp.cut (fun f w_134 => ∃ (col_135 : Col) (v_136 : Bool), m_credencelaw18_awake_J1 v_136 = some r ∧ St w0 (col0 col) col_135 w_134 ∧ f 0 = (.bool v_136) ∧ f 1000000 = (enc [])) ?_ ?_
        · intro f w_134 hJ
          obtain ⟨col_135, v_136, hm, hst, hs0, hs1000000⟩ := hJ
          rw [m_credencelaw18_awake_J1.eq_1] at hm
          refine .ld (d := 0) (v := (.bool v_136)) hs0 ?_
          refine .ld (d := 1000000) (v := (enc [])) hs1000000 ?_
          clear hs0 hs1000000
          refine wret ?_
          cases hm
          exact ⟨rfl, rfl, hst.below⟩
        · refine wregion ?_
          refine lv (v := (.int .i64 r_31.2)) rfl rfl (r_move rfl) ?_
          refine lv (v := (.bool (decide (r_31.2 = 0)))) rfl rfl (r_eql r_31.2 0 rfl rfl) ?_
          refine lv (v := (.bool (decide (r_31.2 = 0)))) rfl rfl (r_move rfl) ?_
          by_cases hg_137 : (decide (r_31.2 = 0)) = true
          · rw [if_pos hg_137] at hm
            refine lg (b := decide (r_31.2 = 0)) 53 rfl rfl rfl (by rw [hg_137]; rfl) ?_
            refine lv (v := (.int .i64 r_45.2)) rfl rfl (r_move rfl) ?_
            refine lg (b := decide (r_31.2 = 0)) 53 rfl rfl rfl (by rw [hg_137]; rfl) ?_
            refine lv (v := (.bool (decide (r_45.2 = 0)))) rfl rfl (r_eql r_45.2 0 rfl rfl) ?_
            refine lv (v := (.bool (decide (r_45.2 = 0)))) rfl rfl (r_pickT (congrArg Value.bool hg_137) rfl) ?_
            refine lv (v := (.bool (decide (r_45.2 = 0)))) rfl rfl (r_move rfl) ?_
            by_cases hg_138 : (decide (r_45.2 = 0)) = true
            · rw [if_pos hg_138] at hm
              refine lg (b := decide (r_45.2 = 0)) 57 rfl rfl rfl (by rw [hg_138]; rfl) ?_
              refine lv (v := (.int .i64 r_54.2)) rfl rfl (r_move rfl) ?_
              refine lg (b := decide (r_45.2 = 0)) 57 rfl rfl rfl (by rw [hg_138]; rfl) ?_
              refine lv (v := (.bool (decide (r_54.2 = 0)))) rfl rfl (r_eql r_54.2 0 rfl rfl) ?_
              refine lv (v := (.bool (decide (r_54.2 = 0)))) rfl rfl (r_pickT (congrArg Value.bool hg_138) rfl) ?_
              refine lv (v := (.bool (decide (r_54.2 = 0)))) rfl rfl (r_move rfl) ?_
              by_cases hg_139 : (decide (r_54.2 = 0)) = true
              · rw [if_pos hg_139] at hm
                refine lg (b := decide (r_54.2 = 0)) 61 rfl rfl rfl (by rw [hg_139]; rfl) ?_
                refine lv (v := (.int .i64 r_63.2)) rfl rfl (r_move rfl) ?_
                refine lg (b := decide (r_54.2 = 0)) 61 rfl rfl rfl (by rw [hg_139]; rfl) ?_
                refine lv (v := (.bool (decide (r_63.2 = 0)))) rfl rfl (r_eql r_63.2 0 rfl rfl) ?_
                refine lv (v := (.bool (decide (r_63.2 = 0)))) rfl rfl (r_pickT (congrArg Value.bool hg_139) rfl) ?_
                refine lv (v := (.bool (decide (r_63.2 = 0)))) rfl rfl (r_move rfl) ?_
                by_cases hg_140 : (decide (r_63.2 = 0)) = true
                · rw [if_pos hg_140] at hm
                  refine lg (b := decide (r_63.2 = 0)) 65 rfl rfl rfl (by rw [hg_140]; rfl) ?_
                  refine lv (v := (.slice ra_33 r_31.1.length rc_34)) rfl rfl (r_move rfl) ?_
                  refine lg (b := decide (r_63.2 = 0)) 65 rfl rfl rfl (by rw [hg_140]; rfl) ?_
                  refine l_lit (col := col_74) (r := (Rep.int .i64)) (xs := [4, 0, 1, 2, 3]) [(.int .i64 4), (.int .i64 0), (.int .i64 1), (.int .i64 2), (.int .i64 3)] 16 rfl Try.underlying22 el3_29 rfl rfl rfl rfl rfl rfl (by intro v hv; simp only [List.mem_cons, List.not_mem_nil, or_false] at hv; rcases hv with rfl | rfl | rfl | rfl | rfl <;> rfl) (RowsH.ofF (Rows.consF (r := (Rep.int .i64)) (x := 4) (cs := [(.int .i64 4)]) (rd_int .i64 4) (Rows.consF (r := (Rep.int .i64)) (x := 0) (cs := [(.int .i64 0)]) (rd_int .i64 0) (Rows.consF (r := (Rep.int .i64)) (x := 1) (cs := [(.int .i64 1)]) (rd_int .i64 1) (Rows.consF (r := (Rep.int .i64)) (x := 2) (cs := [(.int .i64 2)]) (rd_int .i64 2) (Rows.consF (r := (Rep.int .i64)) (x := 3) (cs := [(.int .i64 3)]) (rd_int .i64 3) Rows.nil0)))))) ?_
                  intro a_141 w_142 col_143 hg_144 h_145
                  replace rh_49 := rh_49.gr hg_144
                  replace rh_58 := rh_58.gr hg_144
                  replace rh_35 := rh_35.gr hg_144
                  replace hst := hst.grow hg_144
                  refine lg (b := decide (r_63.2 = 0)) 65 rfl rfl rfl (by rw [hg_140]; rfl) ?_
                  obtain ⟨r_146, hr_147, hm⟩ := bind_some hm
                  refine lc rfl rfl (r_call2 Try.call36 rfl rfl) (c_credenceref15_Ints N (frC 16 (frC 6 col_143)) _ ra_33 rc_34 r_31.1 a_141 5 [4, 0, 1, 2, 3] ((rh_35.toSlF (Froz.int .i64)).froz 16) ((h_145.froz 6 (by decide)).toSlF (Froz.int .i64)) r_146 hr_147) ?_
                  rintro _ w_148 ⟨rfl, hg_149⟩
                  refine ⟨_, rfl, ?_⟩
                  replace hg_149 : Grow col_143 w_142 col_143 w_148 := .of_below hg_149
                  replace rh_49 := rh_49.gr hg_149
                  replace rh_58 := rh_58.gr hg_149
                  replace rh_35 := rh_35.gr hg_149
                  replace h_145 := h_145.gr hg_149
                  replace hst := hst.grow hg_149
                  refine lv (v := (.bool r_146)) rfl rfl (r_pickT (congrArg Value.bool hg_140) rfl) ?_
                  refine lv (v := (.bool r_146)) rfl rfl (r_move rfl) ?_
                  by_cases hg_150 : r_146 = true
                  · rw [if_pos hg_150] at hm
                    refine lg (b := r_146) 70 rfl rfl rfl (by rw [hg_150]; rfl) ?_
                    refine lv (v := (.slice ra_47 r_45.1.length rc_48)) rfl rfl (r_move rfl) ?_
                    refine lg (b := r_146) 70 rfl rfl rfl (by rw [hg_150]; rfl) ?_
                    refine l_lit (col := col_143) (r := (Rep.int .i64)) (xs := [1, 3]) [(.int .i64 1), (.int .i64 3)] 17 rfl Try.underlying22 el3_29 rfl rfl rfl rfl rfl rfl (by intro v hv; simp only [List.mem_cons, List.not_mem_nil, or_false] at hv; rcases hv with rfl | rfl <;> rfl) (RowsH.ofF (Rows.consF (r := (Rep.int .i64)) (x := 1) (cs := [(.int .i64 1)]) (rd_int .i64 1) (Rows.consF (r := (Rep.int .i64)) (x := 3) (cs := [(.int .i64 3)]) (rd_int .i64 3) Rows.nil0))) ?_
                    intro a_151 w_152 col_153 hg_154 h_155
                    replace rh_58 := rh_58.gr hg_154
                    replace rh_49 := rh_49.gr hg_154
                    replace hst := hst.grow hg_154
                    refine lg (b := r_146) 70 rfl rfl rfl (by rw [hg_150]; rfl) ?_
                    obtain ⟨r_156, hr_157, hm⟩ := bind_some hm
                    refine lc rfl rfl (r_call2 Try.call36 rfl rfl) (c_credenceref15_Ints N (frC 17 (frC 8 col_153)) _ ra_47 rc_48 r_45.1 a_151 2 [1, 3] ((rh_49.toSlF (Froz.int .i64)).froz 17) ((h_155.froz 8 (by decide)).toSlF (Froz.int .i64)) r_156 hr_157) ?_
                    rintro _ w_158 ⟨rfl, hg_159⟩
                    refine ⟨_, rfl, ?_⟩
                    replace hg_159 : Grow col_153 w_152 col_153 w_158 := .of_below hg_159
                    replace rh_58 := rh_58.gr hg_159
                    replace rh_49 := rh_49.gr hg_159
                    replace h_155 := h_155.gr hg_159
                    replace hst := hst.grow hg_159
                    refine lv (v := (.bool r_156)) rfl rfl (r_pickT (congrArg Value.bool hg_150) rfl) ?_
                    refine lv (v := (.bool r_156)) rfl rfl (r_move rfl) ?_
                    by_cases hg_160 : r_156 = true
                    · rw [if_pos hg_160] at hm
                      refine lg (b := r_156) 75 rfl rfl rfl (by rw [hg_160]; rfl) ?_
                      refine lv (v := (.slice ra_56 r_54.1.length rc_57)) rfl rfl (r_move rfl) ?_
                      refine lg (b := r_156) 75 rfl rfl rfl (by rw [hg_160]; rfl) ?_
                      refine lv (v := (.int .i64 (r_54.1.length : Int))) rfl rfl (r_len Try.underlying33 rfl) ?_
                      refine lg (b := r_156) 75 rfl rfl rfl (by rw [hg_160]; rfl) ?_
                      refine lv (v := (.bool (decide ((r_54.1.length : Int) = 5)))) rfl rfl (r_eql (r_54.1.length : Int) 5 rfl rfl) ?_
                      refine lv (v := (.bool (decide ((r_54.1.length : Int) = 5)))) rfl rfl (r_pickT (congrArg Value.bool hg_160) rfl) ?_
                      refine lv (v := (.bool (decide ((r_54.1.length : Int) = 5)))) rfl rfl (r_move rfl) ?_
                      by_cases hg_161 : (decide ((r_54.1.length : Int) = 5)) = true
                      · rw [if_pos hg_161] at hm
                        refine lg (b := decide ((r_54.1.length : Int) = 5)) 80 rfl rfl rfl (by rw [hg_161]; rfl) ?_
                        refine lv (v := (.slice ra_56 r_54.1.length rc_57)) rfl rfl (r_move rfl) ?_
                        refine lg (b := decide ((r_54.1.length : Int) = 5)) 80 rfl rfl rfl (by rw [hg_161]; rfl) ?_
                        obtain ⟨e_162, hj_163, hm⟩ := bind_some hm
                        refine lv (v := (sptr ra_56 (Int.toNat 1 * 1))) rfl rfl (r_idx Try.underlying33 Try.sizeOf22 rfl rfl (at?_some hj_163).1 (at?_some hj_163).2.1 (rh_58.addr hj_163)) ?_
                        refine lg (b := decide ((r_54.1.length : Int) = 5)) 80 rfl rfl rfl (by rw [hg_161]; rfl) ?_
                        obtain ⟨_, hr_164, hA_165⟩ := rh_58.atN hj_163
                        obtain ⟨a_166, cap_167, rfl, h_168⟩ := hr_164.row
                        refine lv (v := (.slice a_166 e_162.length cap_167)) rfl rfl (r_ld Try.isAgg22 rfl hA_165.one) ?_
                        refine lg (b := decide ((r_54.1.length : Int) = 5)) 80 rfl rfl rfl (by rw [hg_161]; rfl) ?_
                        refine lv (v := (.int .i64 (e_162.length : Int))) rfl rfl (r_len Try.underlying22 rfl) ?_
                        refine lg (b := decide ((r_54.1.length : Int) = 5)) 80 rfl rfl rfl (by rw [hg_161]; rfl) ?_
                        refine lv (v := (.bool (decide ((e_162.length : Int) = 3)))) rfl rfl (r_eql (e_162.length : Int) 3 rfl rfl) ?_
                        refine lv (v := (.bool (decide ((e_162.length : Int) = 3)))) rfl rfl (r_pickT (congrArg Value.bool hg_161) rfl) ?_
                        refine lv (v := (.bool (decide ((e_162.length : Int) = 3)))) rfl rfl (r_move rfl) ?_
                        by_cases hg_169 : (decide ((e_162.length : Int) = 3)) = true
                        · rw [if_pos hg_169] at hm
                          refine lg (b := decide ((e_162.length : Int) = 3)) 87 rfl rfl rfl (by rw [hg_169]; rfl) ?_
                          refine lv (v := (.int .i64 r_63.1)) rfl rfl (r_move rfl) ?_
                          refine lg (b := decide ((e_162.length : Int) = 3)) 87 rfl rfl rfl (by rw [hg_169]; rfl) ?_
                          refine lv (v := (.bool (decide (r_63.1 = 2)))) rfl rfl (r_eql r_63.1 2 rfl rfl) ?_
                          refine lv (v := (.bool (decide (r_63.1 = 2)))) rfl rfl (r_pickT (congrArg Value.bool hg_169) rfl) ?_
                          refine lv (v := (.bool (decide (r_63.1 = 2)))) rfl rfl (r_move rfl) ?_
                          by_cases hg_170 : (decide (r_63.1 = 2)) = true
                          · rw [if_pos hg_170] at hm
                            refine lg (b := decide (r_63.1 = 2)) 91 rfl rfl rfl (by rw [hg_170]; rfl) ?_
                            refine lv (v := (.int .i64 r_67.2)) rfl rfl (r_move rfl) ?_
                            refine lg (b := decide (r_63.1 = 2)) 91 rfl rfl rfl (by rw [hg_170]; rfl) ?_
                            refine lv (v := (.bool (decide (r_67.2 = 2)))) rfl rfl (r_eql r_67.2 2 rfl rfl) ?_
                            refine lv (v := (.bool (decide (r_67.2 = 2)))) rfl rfl (r_pickT (congrArg Value.bool hg_170) rfl) ?_
                            refine lv (v := (.bool (decide (r_67.2 = 2)))) rfl rfl (r_move rfl) ?_
                            by_cases hg_171 : (decide (r_67.2 = 2)) = true
                            · rw [if_pos hg_171] at hm
                              refine lg (b := decide (r_67.2 = 2)) 95 rfl rfl rfl (by rw [hg_171]; rfl) ?_
                              refine l_lit (col := col_153) (r := (Rep.int .i64)) (xs := [2, 0, 1]) [(.int .i64 2), (.int .i64 0), (.int .i64 1)] 18 rfl Try.underlying22 el3_29 rfl rfl rfl rfl rfl rfl (by intro v hv; simp only [List.mem_cons, List.not_mem_nil, or_false] at hv; rcases hv with rfl | rfl | rfl <;> rfl) (RowsH.ofF (Rows.consF (r := (Rep.int .i64)) (x := 2) (cs := [(.int .i64 2)]) (rd_int .i64 2) (Rows.consF (r := (Rep.int .i64)) (x := 0) (cs := [(.int .i64 0)]) (rd_int .i64 0) (Rows.consF (r := (Rep.int .i64)) (x := 1) (cs := [(.int .i64 1)]) (rd_int .i64 1) Rows.nil0)))) ?_
                              intro a_172 w_173 col_174 hg_175 h_176
                              replace hst := hst.grow hg_175
                              refine lg (b := decide (r_67.2 = 2)) 95 rfl rfl rfl (by rw [hg_171]; rfl) ?_
                              refine l_lit (col := col_174) (r := (Rep.int .i64)) (xs := [0, 1, 2]) [(.int .i64 0), (.int .i64 1), (.int .i64 2)] 19 rfl Try.underlying22 el3_29 rfl rfl rfl rfl rfl rfl (by intro v hv; simp only [List.mem_cons, List.not_mem_nil, or_false] at hv; rcases hv with rfl | rfl | rfl <;> rfl) (RowsH.ofF (Rows.consF (r := (Rep.int .i64)) (x := 0) (cs := [(.int .i64 0)]) (rd_int .i64 0) (Rows.consF (r := (Rep.int .i64)) (x := 1) (cs := [(.int .i64 1)]) (rd_int .i64 1) (Rows.consF (r := (Rep.int .i64)) (x := 2) (cs := [(.int .i64 2)]) (rd_int .i64 2) Rows.nil0)))) ?_
                              intro a_177 w_178 col_179 hg_180 h_181
                              replace h_176 := h_176.gr hg_180
                              replace hst := hst.grow hg_180
                              refine lg (b := decide (r_67.2 = 2)) 95 rfl rfl rfl (by rw [hg_171]; rfl) ?_
                              obtain ⟨r_182, hr_183, hm⟩ := bind_some hm
                              refine lc rfl rfl (r_call2 Try.call45 rfl rfl) (c_order_Check (frC 19 (frC 18 col_179)) _ a_172 3 [2, 0, 1] a_177 3 [0, 1, 2] ((h_176.toSlF (Froz.int .i64)).froz 19) ((h_181.froz 18 (by decide)).toSlF (Froz.int .i64)) r_182 hr_183) ?_
                              rintro _ w_184 ⟨rfl, hg_185⟩
                              refine ⟨_, rfl, ?_⟩
                              replace hg_185 : Grow col_179 w_178 col_179 w_184 := .of_below hg_185
                              replace h_176 := h_176.gr hg_185
                              replace h_181 := h_181.gr hg_185
                              replace hst := hst.grow hg_185
                              refine lg (b := decide (r_67.2 = 2)) 95 rfl rfl rfl (by rw [hg_171]; rfl) ?_
                              refine lv (v := (.bool (decide (r_182 = 0)))) rfl rfl (r_eql r_182 0 rfl rfl) ?_
                              refine lv (v := (.bool (decide (r_182 = 0)))) rfl rfl (r_pickT (congrArg Value.bool hg_171) rfl) ?_
                              refine lv (v := (.bool (decide (r_182 = 0)))) rfl rfl (r_move rfl) ?_
                              by_cases hg_186 : (decide (r_182 = 0)) = true
                              · rw [if_pos hg_186] at hm
                                refine lg (b := decide (r_182 = 0)) 101 rfl rfl rfl (by rw [hg_186]; rfl) ?_
                                refine l_lit (col := col_179) (r := (Rep.int .i64)) (xs := [0]) [(.int .i64 0)] 20 rfl Try.underlying22 el3_29 rfl rfl rfl rfl rfl rfl (by intro v hv; simp only [List.mem_cons, List.not_mem_nil, or_false] at hv; subst hv; rfl) (RowsH.ofF (Rows.consF (r := (Rep.int .i64)) (x := 0) (cs := [(.int .i64 0)]) (rd_int .i64 0) Rows.nil0)) ?_
                                intro a_187 w_188 col_189 hg_190 h_191
                                replace hst := hst.grow hg_190
                                refine lg (b := decide (r_182 = 0)) 101 rfl rfl rfl (by rw [hg_186]; rfl) ?_
                                obtain ⟨r_192, hr_193, hm⟩ := bind_some hm
                                refine lc rfl rfl (r_call2 Try.call45 rfl rfl) (c_order_Check (frC 20 col_189) _ a_187 1 [0] none 0 ([] : List Int) (h_191.toSlF (Froz.int .i64)) Sl.nil r_192 hr_193) ?_
                                rintro _ w_194 ⟨rfl, hg_195⟩
                                refine ⟨_, rfl, ?_⟩
                                replace hg_195 : Grow col_189 w_188 col_189 w_194 := .of_below hg_195
                                replace h_191 := h_191.gr hg_195
                                replace hst := hst.grow hg_195
                                refine lg (b := decide (r_182 = 0)) 101 rfl rfl rfl (by rw [hg_186]; rfl) ?_
                                refine lv (v := (.bool (decide (r_192 = 51)))) rfl rfl (r_eql r_192 51 rfl rfl) ?_
                                refine lv (v := (.bool (decide (r_192 = 51)))) rfl rfl (r_pickT (congrArg Value.bool hg_186) rfl) ?_
                                refine lv (v := (.bool (decide (r_192 = 51)))) rfl rfl (r_assign rfl) ?_
                                refine lnil ?_
                                exact ⟨col_189, (decide (r_192 = 51)), hm, hst, rfl, rfl⟩
                              · rw [if_neg hg_186] at hm
                                replace hg_186 := Bool.eq_false_iff.2 hg_186
                                refine lp (b := decide (r_182 = 0)) 101 rfl rfl rfl rfl (by rw [hg_186]; rfl) ?_
                                refine lp (b := decide (r_182 = 0)) 101 rfl rfl rfl rfl (by rw [hg_186]; rfl) ?_
                                refine lp (b := decide (r_182 = 0)) 101 rfl rfl rfl rfl (by rw [hg_186]; rfl) ?_
                                refine lv (v := (.bool false)) rfl rfl (r_pickF (congrArg Value.bool hg_186) rfl) ?_
                                refine lv (v := (.bool false)) rfl rfl (r_assign rfl) ?_
                                refine lnil ?_
                                exact ⟨col_179, false, hm, hst, rfl, rfl⟩
                            · rw [if_neg hg_171] at hm
                              replace hg_171 := Bool.eq_false_iff.2 hg_171
                              refine lp (b := decide (r_67.2 = 2)) 95 rfl rfl rfl rfl (by rw [hg_171]; rfl) ?_
                              refine lp (b := decide (r_67.2 = 2)) 95 rfl rfl rfl rfl (by rw [hg_171]; rfl) ?_
                              refine lp (b := decide (r_67.2 = 2)) 95 rfl rfl rfl rfl (by rw [hg_171]; rfl) ?_
                              refine lp (b := decide (r_67.2 = 2)) 95 rfl rfl rfl rfl (by rw [hg_171]; rfl) ?_
                              refine lv (v := (.bool false)) rfl rfl (r_pickF (congrArg Value.bool hg_171) rfl) ?_
                              refine lv (v := (.bool false)) rfl rfl (r_move rfl) ?_
                              refine lp (b := false) 101 rfl rfl rfl rfl rfl ?_
                              refine lp (b := false) 101 rfl rfl rfl rfl rfl ?_
                              refine lp (b := false) 101 rfl rfl rfl rfl rfl ?_
                              refine lv (v := (.bool false)) rfl rfl (r_pickF rfl rfl) ?_
                              refine lv (v := (.bool false)) rfl rfl (r_assign rfl) ?_
                              refine lnil ?_
                              exact ⟨col_153, false, hm, hst, rfl, rfl⟩
                          · rw [if_neg hg_170] at hm
                            replace hg_170 := Bool.eq_false_iff.2 hg_170
                            refine lp (b := decide (r_63.1 = 2)) 91 rfl rfl rfl rfl (by rw [hg_170]; rfl) ?_
                            refine lp (b := decide (r_63.1 = 2)) 91 rfl rfl rfl rfl (by rw [hg_170]; rfl) ?_
                            refine lv (v := (.bool false)) rfl rfl (r_pickF (congrArg Value.bool hg_170) rfl) ?_
                            refine lv (v := (.bool false)) rfl rfl (r_move rfl) ?_
                            refine lp (b := false) 95 rfl rfl rfl rfl rfl ?_
                            refine lp (b := false) 95 rfl rfl rfl rfl rfl ?_
                            refine lp (b := false) 95 rfl rfl rfl rfl rfl ?_
                            refine lp (b := false) 95 rfl rfl rfl rfl rfl ?_
                            refine lv (v := (.bool false)) rfl rfl (r_pickF rfl rfl) ?_
                            refine lv (v := (.bool false)) rfl rfl (r_move rfl) ?_
                            refine lp (b := false) 101 rfl rfl rfl rfl rfl ?_
                            refine lp (b := false) 101 rfl rfl rfl rfl rfl ?_
                            refine lp (b := false) 101 rfl rfl rfl rfl rfl ?_
                            refine lv (v := (.bool false)) rfl rfl (r_pickF rfl rfl) ?_
                            refine lv (v := (.bool false)) rfl rfl (r_assign rfl) ?_
                            refine lnil ?_
                            exact ⟨col_153, false, hm, hst, rfl, rfl⟩
                        · rw [if_neg hg_169] at hm
                          replace hg_169 := Bool.eq_false_iff.2 hg_169
                          refine lp (b := decide ((e_162.length : Int) = 3)) 87 rfl rfl rfl rfl (by rw [hg_169]; rfl) ?_
                          refine lp (b := decide ((e_162.length : Int) = 3)) 87 rfl rfl rfl rfl (by rw [hg_169]; rfl) ?_
                          refine lv (v := (.bool false)) rfl rfl (r_pickF (congrArg Value.bool hg_169) rfl) ?_
                          refine lv (v := (.bool false)) rfl rfl (r_move rfl) ?_
                          refine lp (b := false) 91 rfl rfl rfl rfl rfl ?_
                          refine lp (b := false) 91 rfl rfl rfl rfl rfl ?_
                          refine lv (v := (.bool false)) rfl rfl (r_pickF rfl rfl) ?_
                          refine lv (v := (.bool false)) rfl rfl (r_move rfl) ?_
                          refine lp (b := false) 95 rfl rfl rfl rfl rfl ?_
                          refine lp (b := false) 95 rfl rfl rfl rfl rfl ?_
                          refine lp (b := false) 95 rfl rfl rfl rfl rfl ?_
                          refine lp (b := false) 95 rfl rfl rfl rfl rfl ?_
                          refine lv (v := (.bool false)) rfl rfl (r_pickF rfl rfl) ?_
                          refine lv (v := (.bool false)) rfl rfl (r_move rfl) ?_
                          refine lp (b := false) 101 rfl rfl rfl rfl rfl ?_
                          refine lp (b := false) 101 rfl rfl rfl rfl rfl ?_
                          refine lp (b := false) 101 rfl rfl rfl rfl rfl ?_
                          refine lv (v := (.bool false)) rfl rfl (r_pickF rfl rfl) ?_
                          refine lv (v := (.bool false)) rfl rfl (r_assign rfl) ?_
                          refine lnil ?_
                          exact ⟨col_153, false, hm, hst, rfl, rfl⟩
                      · rw [if_neg hg_161] at hm
                        replace hg_161 := Bool.eq_false_iff.2 hg_161
                        refine lp (b := decide ((r_54.1.length : Int) = 5)) 80 rfl rfl rfl rfl (by rw [hg_161]; rfl) ?_
                        refine lp (b := decide ((r_54.1.length : Int) = 5)) 80 rfl rfl rfl rfl (by rw [hg_161]; rfl) ?_
                        refine lp (b := decide ((r_54.1.length : Int) = 5)) 80 rfl rfl rfl rfl (by rw [hg_161]; rfl) ?_
                        refine lp (b := decide ((r_54.1.length : Int) = 5)) 80 rfl rfl rfl rfl (by rw [hg_161]; rfl) ?_
                        refine lp (b := decide ((r_54.1.length : Int) = 5)) 80 rfl rfl rfl rfl (by rw [hg_161]; rfl) ?_
                        refine lv (v := (.bool false)) rfl rfl (r_pickF (congrArg Value.bool hg_161) rfl) ?_
                        refine lv (v := (.bool false)) rfl rfl (r_move rfl) ?_
                        refine lp (b := false) 87 rfl rfl rfl rfl rfl ?_
                        refine lp (b := false) 87 rfl rfl rfl rfl rfl ?_
                        refine lv (v := (.bool false)) rfl rfl (r_pickF rfl rfl) ?_
                        refine lv (v := (.bool false)) rfl rfl (r_move rfl) ?_
                        refine lp (b := false) 91 rfl rfl rfl rfl rfl ?_
                        refine lp (b := false) 91 rfl rfl rfl rfl rfl ?_
                        refine lv (v := (.bool false)) rfl rfl (r_pickF rfl rfl) ?_
                        refine lv (v := (.bool false)) rfl rfl (r_move rfl) ?_
                        refine lp (b := false) 95 rfl rfl rfl rfl rfl ?_
                        refine lp (b := false) 95 rfl rfl rfl rfl rfl ?_
                        refine lp (b := false) 95 rfl rfl rfl rfl rfl ?_
                        refine lp (b := false) 95 rfl rfl rfl rfl rfl ?_
                        refine lv (v := (.bool false)) rfl rfl (r_pickF rfl rfl) ?_
                        refine lv (v := (.bool false)) rfl rfl (r_move rfl) ?_
                        refine lp (b := false) 101 rfl rfl rfl rfl rfl ?_
                        refine lp (b := false) 101 rfl rfl rfl rfl rfl ?_
                        refine lp (b := false) 101 rfl rfl rfl rfl rfl ?_
                        refine lv (v := (.bool false)) rfl rfl (r_pickF rfl rfl) ?_
                        refine lv (v := (.bool false)) rfl rfl (r_assign rfl) ?_
                        refine lnil ?_
                        exact ⟨col_153, false, hm, hst, rfl, rfl⟩
                    · rw [if_neg hg_160] at hm
                      replace hg_160 := Bool.eq_false_iff.2 hg_160
                      refine lp (b := r_156) 75 rfl rfl rfl rfl (by rw [hg_160]; rfl) ?_
                      refine lp (b := r_156) 75 rfl rfl rfl rfl (by rw [hg_160]; rfl) ?_
                      refine lp (b := r_156) 75 rfl rfl rfl rfl (by rw [hg_160]; rfl) ?_
                      refine lv (v := (.bool false)) rfl rfl (r_pickF (congrArg Value.bool hg_160) rfl) ?_
                      refine lv (v := (.bool false)) rfl rfl (r_move rfl) ?_
                      refine lp (b := false) 80 rfl rfl rfl rfl rfl ?_
                      refine lp (b := false) 80 rfl rfl rfl rfl rfl ?_
                      refine lp (b := false) 80 rfl rfl rfl rfl rfl ?_
                      refine lp (b := false) 80 rfl rfl rfl rfl rfl ?_
                      refine lp (b := false) 80 rfl rfl rfl rfl rfl ?_
                      refine lv (v := (.bool false)) rfl rfl (r_pickF rfl rfl) ?_
                      refine lv (v := (.bool false)) rfl rfl (r_move rfl) ?_
                      refine lp (b := false) 87 rfl rfl rfl rfl rfl ?_
                      refine lp (b := false) 87 rfl rfl rfl rfl rfl ?_
                      refine lv (v := (.bool false)) rfl rfl (r_pickF rfl rfl) ?_
                      refine lv (v := (.bool false)) rfl rfl (r_move rfl) ?_
                      refine lp (b := false) 91 rfl rfl rfl rfl rfl ?_
                      refine lp (b := false) 91 rfl rfl rfl rfl rfl ?_
                      refine lv (v := (.bool false)) rfl rfl (r_pickF rfl rfl) ?_
                      refine lv (v := (.bool false)) rfl rfl (r_move rfl) ?_
                      refine lp (b := false) 95 rfl rfl rfl rfl rfl ?_
                      refine lp (b := false) 95 rfl rfl rfl rfl rfl ?_
                      refine lp (b := false) 95 rfl rfl rfl rfl rfl ?_
                      refine lp (b := false) 95 rfl rfl rfl rfl rfl ?_
                      refine lv (v := (.bool false)) rfl rfl (r_pickF rfl rfl) ?_
                      refine lv (v := (.bool false)) rfl rfl (r_move rfl) ?_
                      refine lp (b := false) 101 rfl rfl rfl rfl rfl ?_
                      refine lp (b := false) 101 rfl rfl rfl rfl rfl ?_
                      refine lp (b := false) 101 rfl rfl rfl rfl rfl ?_
                      refine lv (v := (.bool false)) rfl rfl (r_pickF rfl rfl) ?_
                      refine lv (v := (.bool false)) rfl rfl (r_assign rfl) ?_
                      refine lnil ?_
                      exact ⟨col_153, false, hm, hst, rfl, rfl⟩
                  · rw [if_neg hg_150] at hm
                    replace hg_150 := Bool.eq_false_iff.2 hg_150
                    refine lp (b := r_146) 70 rfl rfl rfl rfl (by rw [hg_150]; rfl) ?_
                    refine lp (b := r_146) 70 rfl rfl rfl rfl (by rw [hg_150]; rfl) ?_
                    refine lp (b := r_146) 70 rfl rfl rfl rfl (by rw [hg_150]; rfl) ?_
                    refine lv (v := (.bool false)) rfl rfl (r_pickF (congrArg Value.bool hg_150) rfl) ?_
                    refine lv (v := (.bool false)) rfl rfl (r_move rfl) ?_
                    refine lp (b := false) 75 rfl rfl rfl rfl rfl ?_
                    refine lp (b := false) 75 rfl rfl rfl rfl rfl ?_
                    refine lp (b := false) 75 rfl rfl rfl rfl rfl ?_
                    refine lv (v := (.bool false)) rfl rfl (r_pickF rfl rfl) ?_
                    refine lv (v := (.bool false)) rfl rfl (r_move rfl) ?_
                    refine lp (b := false) 80 rfl rfl rfl rfl rfl ?_
                    refine lp (b := false) 80 rfl rfl rfl rfl rfl ?_
                    refine lp (b := false) 80 rfl rfl rfl rfl rfl ?_
                    refine lp (b := false) 80 rfl rfl rfl rfl rfl ?_
                    refine lp (b := false) 80 rfl rfl rfl rfl rfl ?_
                    refine lv (v := (.bool false)) rfl rfl (r_pickF rfl rfl) ?_
                    refine lv (v := (.bool false)) rfl rfl (r_move rfl) ?_
                    refine lp (b := false) 87 rfl rfl rfl rfl rfl ?_
                    refine lp (b := false) 87 rfl rfl rfl rfl rfl ?_
                    refine lv (v := (.bool false)) rfl rfl (r_pickF rfl rfl) ?_
                    refine lv (v := (.bool false)) rfl rfl (r_move rfl) ?_
                    refine lp (b := false) 91 rfl rfl rfl rfl rfl ?_
                    refine lp (b := false) 91 rfl rfl rfl rfl rfl ?_
                    refine lv (v := (.bool false)) rfl rfl (r_pickF rfl rfl) ?_
                    refine lv (v := (.bool false)) rfl rfl (r_move rfl) ?_
                    refine lp (b := false) 95 rfl rfl rfl rfl rfl ?_
                    refine lp (b := false) 95 rfl rfl rfl rfl rfl ?_
                    refine lp (b := false) 95 rfl rfl rfl rfl rfl ?_
                    refine lp (b := false) 95 rfl rfl rfl rfl rfl ?_
                    refine lv (v := (.bool false)) rfl rfl (r_pickF rfl rfl) ?_
                    refine lv (v := (.bool false)) rfl rfl (r_move rfl) ?_
                    refine lp (b := false) 101 rfl rfl rfl rfl rfl ?_
                    refine lp (b := false) 101 rfl rfl rfl rfl rfl ?_
                    refine lp (b := false) 101 rfl rfl rfl rfl rfl ?_
                    refine lv (v := (.bool false)) rfl rfl (r_pickF rfl rfl) ?_
                    refine lv (v := (.bool false)) rfl rfl (r_assign rfl) ?_
                    refine lnil ?_
                    exact ⟨col_143, false, hm, hst, rfl, rfl⟩
                · rw [if_neg hg_140] at hm
                  replace hg_140 := Bool.eq_false_iff.2 hg_140
                  refine lp (b := decide (r_63.2 = 0)) 65 rfl rfl rfl rfl (by rw [hg_140]; rfl) ?_
                  refine lp (b := decide (r_63.2 = 0)) 65 rfl rfl rfl rfl (by rw [hg_140]; rfl) ?_
                  refine lp (b := decide (r_63.2 = 0)) 65 rfl rfl rfl rfl (by rw [hg_140]; rfl) ?_
                  refine lv (v := (.bool false)) rfl rfl (r_pickF (congrArg Value.bool hg_140) rfl) ?_
                  refine lv (v := (.bool false)) rfl rfl (r_move rfl) ?_
                  refine lp (b := false) 70 rfl rfl rfl rfl rfl ?_
                  refine lp (b := false) 70 rfl rfl rfl rfl rfl ?_
                  refine lp (b := false) 70 rfl rfl rfl rfl rfl ?_
                  refine lv (v := (.bool false)) rfl rfl (r_pickF rfl rfl) ?_
                  refine lv (v := (.bool false)) rfl rfl (r_move rfl) ?_
                  refine lp (b := false) 75 rfl rfl rfl rfl rfl ?_
                  refine lp (b := false) 75 rfl rfl rfl rfl rfl ?_
                  refine lp (b := false) 75 rfl rfl rfl rfl rfl ?_
                  refine lv (v := (.bool false)) rfl rfl (r_pickF rfl rfl) ?_
                  refine lv (v := (.bool false)) rfl rfl (r_move rfl) ?_
                  refine lp (b := false) 80 rfl rfl rfl rfl rfl ?_
                  refine lp (b := false) 80 rfl rfl rfl rfl rfl ?_
                  refine lp (b := false) 80 rfl rfl rfl rfl rfl ?_
                  refine lp (b := false) 80 rfl rfl rfl rfl rfl ?_
                  refine lp (b := false) 80 rfl rfl rfl rfl rfl ?_
                  refine lv (v := (.bool false)) rfl rfl (r_pickF rfl rfl) ?_
                  refine lv (v := (.bool false)) rfl rfl (r_move rfl) ?_
                  refine lp (b := false) 87 rfl rfl rfl rfl rfl ?_
                  refine lp (b := false) 87 rfl rfl rfl rfl rfl ?_
                  refine lv (v := (.bool false)) rfl rfl (r_pickF rfl rfl) ?_
                  refine lv (v := (.bool false)) rfl rfl (r_move rfl) ?_
                  refine lp (b := false) 91 rfl rfl rfl rfl rfl ?_
                  refine lp (b := false) 91 rfl rfl rfl rfl rfl ?_
                  refine lv (v := (.bool false)) rfl rfl (r_pickF rfl rfl) ?_
                  refine lv (v := (.bool false)) rfl rfl (r_move rfl) ?_
                  refine lp (b := false) 95 rfl rfl rfl rfl rfl ?_
                  refine lp (b := false) 95 rfl rfl rfl rfl rfl ?_
                  refine lp (b := false) 95 rfl rfl rfl rfl rfl ?_
                  refine lp (b := false) 95 rfl rfl rfl rfl rfl ?_
                  refine lv (v := (.bool false)) rfl rfl (r_pickF rfl rfl) ?_
                  refine lv (v := (.bool false)) rfl rfl (r_move rfl) ?_
                  refine lp (b := false) 101 rfl rfl rfl rfl rfl ?_
                  refine lp (b := false) 101 rfl rfl rfl rfl rfl ?_
                  refine lp (b := false) 101 rfl rfl rfl rfl rfl ?_
                  refine lv (v := (.bool false)) rfl rfl (r_pickF rfl rfl) ?_
                  refine lv (v := (.bool false)) rfl rfl (r_assign rfl) ?_
                  refine lnil ?_
                  exact ⟨col_74, false, hm, hst, rfl, rfl⟩
              · rw [if_neg hg_139] at hm
                replace hg_139 := Bool.eq_false_iff.2 hg_139
                refine lp (b := decide (r_54.2 = 0)) 61 rfl rfl rfl rfl (by rw [hg_139]; rfl) ?_
                refine lp (b := decide (r_54.2 = 0)) 61 rfl rfl rfl rfl (by rw [hg_139]; rfl) ?_
                refine lv (v := (.bool false)) rfl rfl (r_pickF (congrArg Value.bool hg_139) rfl) ?_
                refine lv (v := (.bool false)) rfl rfl (r_move rfl) ?_
                refine lp (b := false) 65 rfl rfl rfl rfl rfl ?_
                refine lp (b := false) 65 rfl rfl rfl rfl rfl ?_
                refine lp (b := false) 65 rfl rfl rfl rfl rfl ?_
                refine lv (v := (.bool false)) rfl rfl (r_pickF rfl rfl) ?_
                refine lv (v := (.bool false)) rfl rfl (r_move rfl) ?_
                refine lp (b := false) 70 rfl rfl rfl rfl rfl ?_
                refine lp (b := false) 70 rfl rfl rfl rfl rfl ?_
                refine lp (b := false) 70 rfl rfl rfl rfl rfl ?_
                refine lv (v := (.bool false)) rfl rfl (r_pickF rfl rfl) ?_
                refine lv (v := (.bool false)) rfl rfl (r_move rfl) ?_
                refine lp (b := false) 75 rfl rfl rfl rfl rfl ?_
                refine lp (b := false) 75 rfl rfl rfl rfl rfl ?_
                refine lp (b := false) 75 rfl rfl rfl rfl rfl ?_
                refine lv (v := (.bool false)) rfl rfl (r_pickF rfl rfl) ?_
                refine lv (v := (.bool false)) rfl rfl (r_move rfl) ?_
                refine lp (b := false) 80 rfl rfl rfl rfl rfl ?_
                refine lp (b := false) 80 rfl rfl rfl rfl rfl ?_
                refine lp (b := false) 80 rfl rfl rfl rfl rfl ?_
                refine lp (b := false) 80 rfl rfl rfl rfl rfl ?_
                refine lp (b := false) 80 rfl rfl rfl rfl rfl ?_
                refine lv (v := (.bool false)) rfl rfl (r_pickF rfl rfl) ?_
                refine lv (v := (.bool false)) rfl rfl (r_move rfl) ?_
                refine lp (b := false) 87 rfl rfl rfl rfl rfl ?_
                refine lp (b := false) 87 rfl rfl rfl rfl rfl ?_
                refine lv (v := (.bool false)) rfl rfl (r_pickF rfl rfl) ?_
                refine lv (v := (.bool false)) rfl rfl (r_move rfl) ?_
                refine lp (b := false) 91 rfl rfl rfl rfl rfl ?_
                refine lp (b := false) 91 rfl rfl rfl rfl rfl ?_
                refine lv (v := (.bool false)) rfl rfl (r_pickF rfl rfl) ?_
                refine lv (v := (.bool false)) rfl rfl (r_move rfl) ?_
                refine lp (b := false) 95 rfl rfl rfl rfl rfl ?_
                refine lp (b := false) 95 rfl rfl rfl rfl rfl ?_
                refine lp (b := false) 95 rfl rfl rfl rfl rfl ?_
                refine lp (b := false) 95 rfl rfl rfl rfl rfl ?_
                refine lv (v := (.bool false)) rfl rfl (r_pickF rfl rfl) ?_
                refine lv (v := (.bool false)) rfl rfl (r_move rfl) ?_
                refine lp (b := false) 101 rfl rfl rfl rfl rfl ?_
                refine lp (b := false) 101 rfl rfl rfl rfl rfl ?_
                refine lp (b := false) 101 rfl rfl rfl rfl rfl ?_
                refine lv (v := (.bool false)) rfl rfl (r_pickF rfl rfl) ?_
                refine lv (v := (.bool false)) rfl rfl (r_assign rfl) ?_
                refine lnil ?_
                exact ⟨col_74, false, hm, hst, rfl, rfl⟩
            · rw [if_neg hg_138] at hm
              replace hg_138 := Bool.eq_false_iff.2 hg_138
              refine lp (b := decide (r_45.2 = 0)) 57 rfl rfl rfl rfl (by rw [hg_138]; rfl) ?_
              refine lp (b := decide (r_45.2 = 0)) 57 rfl rfl rfl rfl (by rw [hg_138]; rfl) ?_
              refine lv (v := (.bool false)) rfl rfl (r_pickF (congrArg Value.bool hg_138) rfl) ?_
              refine lv (v := (.bool false)) rfl rfl (r_move rfl) ?_
              refine lp (b := false) 61 rfl rfl rfl rfl rfl ?_
              refine lp (b := false) 61 rfl rfl rfl rfl rfl ?_
              refine lv (v := (.bool false)) rfl rfl (r_pickF rfl rfl) ?_
              refine lv (v := (.bool false)) rfl rfl (r_move rfl) ?_
              refine lp (b := false) 65 rfl rfl rfl rfl rfl ?_
              refine lp (b := false) 65 rfl rfl rfl rfl rfl ?_
              refine lp (b := false) 65 rfl rfl rfl rfl rfl ?_
              refine lv (v := (.bool false)) rfl rfl (r_pickF rfl rfl) ?_
              refine lv (v := (.bool false)) rfl rfl (r_move rfl) ?_
              refine lp (b := false) 70 rfl rfl rfl rfl rfl ?_
              refine lp (b := false) 70 rfl rfl rfl rfl rfl ?_
              refine lp (b := false) 70 rfl rfl rfl rfl rfl ?_
              refine lv (v := (.bool false)) rfl rfl (r_pickF rfl rfl) ?_
              refine lv (v := (.bool false)) rfl rfl (r_move rfl) ?_
              refine lp (b := false) 75 rfl rfl rfl rfl rfl ?_
              refine lp (b := false) 75 rfl rfl rfl rfl rfl ?_
              refine lp (b := false) 75 rfl rfl rfl rfl rfl ?_
              refine lv (v := (.bool false)) rfl rfl (r_pickF rfl rfl) ?_
              refine lv (v := (.bool false)) rfl rfl (r_move rfl) ?_
              refine lp (b := false) 80 rfl rfl rfl rfl rfl ?_
              refine lp (b := false) 80 rfl rfl rfl rfl rfl ?_
              refine lp (b := false) 80 rfl rfl rfl rfl rfl ?_
              refine lp (b := false) 80 rfl rfl rfl rfl rfl ?_
              refine lp (b := false) 80 rfl rfl rfl rfl rfl ?_
              refine lv (v := (.bool false)) rfl rfl (r_pickF rfl rfl) ?_
              refine lv (v := (.bool false)) rfl rfl (r_move rfl) ?_
              refine lp (b := false) 87 rfl rfl rfl rfl rfl ?_
              refine lp (b := false) 87 rfl rfl rfl rfl rfl ?_
              refine lv (v := (.bool false)) rfl rfl (r_pickF rfl rfl) ?_
              refine lv (v := (.bool false)) rfl rfl (r_move rfl) ?_
              refine lp (b := false) 91 rfl rfl rfl rfl rfl ?_
              refine lp (b := false) 91 rfl rfl rfl rfl rfl ?_
              refine lv (v := (.bool false)) rfl rfl (r_pickF rfl rfl) ?_
              refine lv (v := (.bool false)) rfl rfl (r_move rfl) ?_
              refine lp (b := false) 95 rfl rfl rfl rfl rfl ?_
              refine lp (b := false) 95 rfl rfl rfl rfl rfl ?_
              refine lp (b := false) 95 rfl rfl rfl rfl rfl ?_
              refine lp (b := false) 95 rfl rfl rfl rfl rfl ?_
              refine lv (v := (.bool false)) rfl rfl (r_pickF rfl rfl) ?_
              refine lv (v := (.bool false)) rfl rfl (r_move rfl) ?_
              refine lp (b := false) 101 rfl rfl rfl rfl rfl ?_
              refine lp (b := false) 101 rfl rfl rfl rfl rfl ?_
              refine lp (b := false) 101 rfl rfl rfl rfl rfl ?_
              refine lv (v := (.bool false)) rfl rfl (r_pickF rfl rfl) ?_
              refine lv (v := (.bool false)) rfl rfl (r_assign rfl) ?_
              refine lnil ?_
              exact ⟨col_74, false, hm, hst, rfl, rfl⟩
          · rw [if_neg hg_137] at hm
            replace hg_137 := Bool.eq_false_iff.2 hg_137
            refine lp (b := decide (r_31.2 = 0)) 53 rfl rfl rfl rfl (by rw [hg_137]; rfl) ?_
            refine lp (b := decide (r_31.2 = 0)) 53 rfl rfl rfl rfl (by rw [hg_137]; rfl) ?_
            refine lv (v := (.bool false)) rfl rfl (r_pickF (congrArg Value.bool hg_137) rfl) ?_
            refine lv (v := (.bool false)) rfl rfl (r_move rfl) ?_
            refine lp (b := false) 57 rfl rfl rfl rfl rfl ?_
            refine lp (b := false) 57 rfl rfl rfl rfl rfl ?_
            refine lv (v := (.bool false)) rfl rfl (r_pickF rfl rfl) ?_
            refine lv (v := (.bool false)) rfl rfl (r_move rfl) ?_
            refine lp (b := false) 61 rfl rfl rfl rfl rfl ?_
            refine lp (b := false) 61 rfl rfl rfl rfl rfl ?_
            refine lv (v := (.bool false)) rfl rfl (r_pickF rfl rfl) ?_
            refine lv (v := (.bool false)) rfl rfl (r_move rfl) ?_
            refine lp (b := false) 65 rfl rfl rfl rfl rfl ?_
            refine lp (b := false) 65 rfl rfl rfl rfl rfl ?_
            refine lp (b := false) 65 rfl rfl rfl rfl rfl ?_
            refine lv (v := (.bool false)) rfl rfl (r_pickF rfl rfl) ?_
            refine lv (v := (.bool false)) rfl rfl (r_move rfl) ?_
            refine lp (b := false) 70 rfl rfl rfl rfl rfl ?_
            refine lp (b := false) 70 rfl rfl rfl rfl rfl ?_
            refine lp (b := false) 70 rfl rfl rfl rfl rfl ?_
            refine lv (v := (.bool false)) rfl rfl (r_pickF rfl rfl) ?_
            refine lv (v := (.bool false)) rfl rfl (r_move rfl) ?_
            refine lp (b := false) 75 rfl rfl rfl rfl rfl ?_
            refine lp (b := false) 75 rfl rfl rfl rfl rfl ?_
            refine lp (b := false) 75 rfl rfl rfl rfl rfl ?_
            refine lv (v := (.bool false)) rfl rfl (r_pickF rfl rfl) ?_
            refine lv (v := (.bool false)) rfl rfl (r_move rfl) ?_
            refine lp (b := false) 80 rfl rfl rfl rfl rfl ?_
            refine lp (b := false) 80 rfl rfl rfl rfl rfl ?_
            refine lp (b := false) 80 rfl rfl rfl rfl rfl ?_
            refine lp (b := false) 80 rfl rfl rfl rfl rfl ?_
            refine lp (b := false) 80 rfl rfl rfl rfl rfl ?_
            refine lv (v := (.bool false)) rfl rfl (r_pickF rfl rfl) ?_
            refine lv (v := (.bool false)) rfl rfl (r_move rfl) ?_
            refine lp (b := false) 87 rfl rfl rfl rfl rfl ?_
            refine lp (b := false) 87 rfl rfl rfl rfl rfl ?_
            refine lv (v := (.bool false)) rfl rfl (r_pickF rfl rfl) ?_
            refine lv (v := (.bool false)) rfl rfl (r_move rfl) ?_
            refine lp (b := false) 91 rfl rfl rfl rfl rfl ?_
            refine lp (b := false) 91 rfl rfl rfl rfl rfl ?_
            refine lv (v := (.bool false)) rfl rfl (r_pickF rfl rfl) ?_
            refine lv (v := (.bool false)) rfl rfl (r_move rfl) ?_
            refine lp (b := false) 95 rfl rfl rfl rfl rfl ?_
            refine lp (b := false) 95 rfl rfl rfl rfl rfl ?_
            refine lp (b := false) 95 rfl rfl rfl rfl rfl ?_
            refine lp (b := false) 95 rfl rfl rfl rfl rfl ?_
            refine lv (v := (.bool false)) rfl rfl (r_pickF rfl rfl) ?_
            refine lv (v := (.bool false)) rfl rfl (r_move rfl) ?_
            refine lp (b := false) 101 rfl rfl rfl rfl rfl ?_
            refine lp (b := false) 101 rfl rfl rfl rfl rfl ?_
            refine lp (b := false) 101 rfl rfl rfl rfl rfl ?_
            refine lv (v := (.bool false)) rfl rfl (r_pickF rfl rfl) ?_
            refine lv (v := (.bool false)) rfl rfl (r_assign rfl) ?_
            refine lnil ?_
            exact ⟨col_74, false, hm, hst, rfl, rfl⟩
    | some t_19 =>
      rw [hx_20] at hm rh_11
      replace hm := optC_some hm
      obtain ⟨g_21, a_23, cap_24, rfl, hB_22, hO_25⟩ := optP_some rh_11
      refine lv (v := (.tuple #[(.pointer none), (.pointer (some ⟨g_21, 0, none⟩)), (.bool r_6.2.2)])) rfl rfl (r_move rfl) ?_
      refine lv (v := (.pointer none)) rfl rfl (r_extract rfl rfl) ?_
      refine lv (v := (.pointer (some ⟨g_21, 0, none⟩))) rfl rfl (r_extract rfl rfl) ?_
      refine lv (v := (.bool r_6.2.2)) rfl rfl (r_extract rfl rfl) ?_
      refine lv (v := (.pointer none)) rfl rfl (r_assign rfl) ?_
      refine lv (v := (.pointer (some ⟨g_21, 0, none⟩))) rfl rfl (r_assign rfl) ?_
      refine lv (v := (.bool r_6.2.2)) rfl rfl (r_assign rfl) ?_
      refine lnil ?_
      refine wseq ?_
      refine wseq ?_
      refine wregion ?_
      refine lv (v := (.bool r_6.2.2)) rfl rfl (r_move rfl) ?_
      refine lv (v := (.bool (!r_6.2.2))) rfl rfl (r_not r_6.2.2 rfl) ?_
      refine lnil ?_
      refine wcond (!r_6.2.2) rfl (fun hb => ?_) (fun hb => ?_)
      · rw [if_pos hb] at hm
        clear hb
        refine wseq ?_
        refine wregion ?_
        refine lv (v := (.bool false)) rfl rfl (r_assign rfl) ?_
        refine lnil ?_
        refine wret ?_
        cases hm
        exact ⟨rfl, rfl, hst.below⟩
      · rw [if_neg (by rw [hb]; decide)] at hm
        clear hb
        refine wskip ?_
        refine wseq ?_
        refine wregion ?_
        refine lv (v := (.pointer none)) rfl rfl (r_move rfl) ?_
        refine l_lit (col := col_14) (r := (Rep.int .i64)) (xs := [0, 1, 2, 3, 4]) [(.int .i64 0), (.int .i64 1), (.int .i64 2), (.int .i64 3), (.int .i64 4)] 21 rfl Try.underlying22 el3_29 rfl rfl rfl rfl rfl rfl (by intro v hv; simp only [List.mem_cons, List.not_mem_nil, or_false] at hv; rcases hv with rfl | rfl | rfl | rfl | rfl <;> rfl) (RowsH.ofF (Rows.consF (r := (Rep.int .i64)) (x := 0) (cs := [(.int .i64 0)]) (rd_int .i64 0) (Rows.consF (r := (Rep.int .i64)) (x := 1) (cs := [(.int .i64 1)]) (rd_int .i64 1) (Rows.consF (r := (Rep.int .i64)) (x := 2) (cs := [(.int .i64 2)]) (rd_int .i64 2) (Rows.consF (r := (Rep.int .i64)) (x := 3) (cs := [(.int .i64 3)]) (rd_int .i64 3) (Rows.consF (r := (Rep.int .i64)) (x := 4) (cs := [(.int .i64 4)]) (rd_int .i64 4) Rows.nil0)))))) ?_
        intro a_196 w_197 col_198 hg_199 h_200
        replace hst := hst.grow hg_199
        obtain ⟨r_201, hr_202, hm⟩ := bind_some hm
        refine lc rfl rfl (r_call2 Try.call32 rfl rfl) (c_order_Fill_v0n N 22 (frC 21 col_198) _ a_196 5 [0, 1, 2, 3, 4] (h_200.toSlF (Froz.int .i64)) r_201 hr_202) ?_
        rintro _ w_206 ⟨col_208, ra_203, rc_204, rfl, hg_207, rh_205⟩
        refine ⟨_, rfl, ?_⟩
        replace rh_205 := rh_205.thaw (flat_int .i64) hg_207 ((Fz.refl (col := col_198)).froz 21) (by decide)
        replace hg_207 := hg_207.thawR (col := col_198)
        generalize colR w_197.heap.size col_198 col_208 = col_209 at *
        replace h_200 := h_200.gr hg_207
        replace hst := hst.grow hg_207
        refine lv (v := (.tuple #[(.slice ra_203 r_201.1.length rc_204), (.int .i64 r_201.2)])) rfl rfl (r_move rfl) ?_
        refine lv (v := (.slice ra_203 r_201.1.length rc_204)) rfl rfl (r_extract rfl rfl) ?_
        refine lv (v := (.int .i64 r_201.2)) rfl rfl (r_extract rfl rfl) ?_
        refine lv (v := (.slice ra_203 r_201.1.length rc_204)) rfl rfl (r_assign rfl) ?_
        refine lv (v := (.int .i64 r_201.2)) rfl rfl (r_assign rfl) ?_
        refine lnil ?_
        refine wseq ?_
        refine wregion ?_
        refine lv (v := (.pointer none)) rfl rfl (r_move rfl) ?_
        refine l_lit (col := col_209) (r := (Rep.int .i64)) (xs := [3, 1]) [(.int .i64 3), (.int .i64 1)] 23 rfl Try.underlying22 el3_29 rfl rfl rfl rfl rfl rfl (by intro v hv; simp only [List.mem_cons, List.not_mem_nil, or_false] at hv; rcases hv with rfl | rfl <;> rfl) (RowsH.ofF (Rows.consF (r := (Rep.int .i64)) (x := 3) (cs := [(.int .i64 3)]) (rd_int .i64 3) (Rows.consF (r := (Rep.int .i64)) (x := 1) (cs := [(.int .i64 1)]) (rd_int .i64 1) Rows.nil0))) ?_
        intro a_210 w_211 col_212 hg_213 h_214
        replace rh_205 := rh_205.gr hg_213
        replace hst := hst.grow hg_213
        obtain ⟨r_215, hr_216, hm⟩ := bind_some hm
        refine lc rfl rfl (r_call2 Try.call33 rfl rfl) (c_order_Degree_v0n N 24 (frC 23 col_212) _ a_210 2 [3, 1] (h_214.toSlF (Froz.int .i64)) r_215 hr_216) ?_
        rintro _ w_220 ⟨col_222, ra_217, rc_218, rfl, hg_221, rh_219⟩
        refine ⟨_, rfl, ?_⟩
        replace rh_219 := rh_219.thaw (flat_int .i64) hg_221 ((Fz.refl (col := col_212)).froz 23) (by decide)
        replace hg_221 := hg_221.thawR (col := col_212)
        generalize colR w_211.heap.size col_212 col_222 = col_223 at *
        replace rh_205 := rh_205.gr hg_221
        replace h_214 := h_214.gr hg_221
        replace hst := hst.grow hg_221
        refine lv (v := (.tuple #[(.slice ra_217 r_215.1.length rc_218), (.int .i64 r_215.2)])) rfl rfl (r_move rfl) ?_
        refine lv (v := (.slice ra_217 r_215.1.length rc_218)) rfl rfl (r_extract rfl rfl) ?_
        refine lv (v := (.int .i64 r_215.2)) rfl rfl (r_extract rfl rfl) ?_
        refine lv (v := (.slice ra_217 r_215.1.length rc_218)) rfl rfl (r_assign rfl) ?_
        refine lv (v := (.int .i64 r_215.2)) rfl rfl (r_assign rfl) ?_
        refine lnil ?_
        refine wseq ?_
        refine wregion ?_
        refine lv (v := (.pointer none)) rfl rfl (r_move rfl) ?_
        refine lv (v := (.slice ra_203 r_201.1.length rc_204)) rfl rfl (r_move rfl) ?_
        obtain ⟨r_224, hr_225, hm⟩ := bind_some hm
        refine lc rfl rfl (r_call2 Try.call40 rfl rfl) (c_order_Cliques_v0n N 25 (frC 22 col_223) _ ra_203 rc_204 r_201.1 (rh_205.toSlF (Froz.int .i64)) r_224 hr_225) ?_
        rintro _ w_229 ⟨col_231, ra_226, rc_227, rfl, hg_230, rh_228⟩
        refine ⟨_, rfl, ?_⟩
        replace rh_228 := rh_228.thaw (flat_row (flat_int .i64)) hg_230 ((Fz.refl (col := col_223)).froz 22) (by decide)
        replace hg_230 := hg_230.thawR (col := col_223)
        generalize colR w_220.heap.size col_223 col_231 = col_232 at *
        replace rh_205 := rh_205.gr hg_230
        replace rh_219 := rh_219.gr hg_230
        replace hst := hst.grow hg_230
        refine lv (v := (.tuple #[(.slice ra_226 r_224.1.length rc_227), (.int .i64 r_224.2)])) rfl rfl (r_move rfl) ?_
        refine lv (v := (.slice ra_226 r_224.1.length rc_227)) rfl rfl (r_extract rfl rfl) ?_
        refine lv (v := (.int .i64 r_224.2)) rfl rfl (r_extract rfl rfl) ?_
        refine lv (v := (.slice ra_226 r_224.1.length rc_227)) rfl rfl (r_assign rfl) ?_
        refine lv (v := (.int .i64 r_224.2)) rfl rfl (r_assign rfl) ?_
        refine lnil ?_
        refine wseq ?_
        refine wregion ?_
        refine lv (v := (.pointer none)) rfl rfl (r_move rfl) ?_
        refine lv (v := (.slice ra_203 r_201.1.length rc_204)) rfl rfl (r_move rfl) ?_
        obtain ⟨r_233, hr_234, hm⟩ := bind_some hm
        refine lc rfl rfl (r_call2 Try.call42 rfl rfl) (c_order_Width_v0n N (frC 22 col_232) _ ra_203 rc_204 r_201.1 (rh_205.toSlF (Froz.int .i64)) r_233 hr_234) ?_
        rintro _ w_235 ⟨rfl, hg_236⟩
        refine ⟨_, rfl, ?_⟩
        replace hg_236 : Grow col_232 w_229 col_232 w_235 := .of_below hg_236
        replace rh_205 := rh_205.gr hg_236
        replace rh_219 := rh_219.gr hg_236
        replace rh_228 := rh_228.gr hg_236
        replace hst := hst.grow hg_236
        refine lv (v := (.tuple #[(.int .i64 r_233.1), (.int .i64 r_233.2)])) rfl rfl (r_move rfl) ?_
        refine lv (v := (.int .i64 r_233.1)) rfl rfl (r_extract rfl rfl) ?_
        refine lv (v := (.int .i64 r_233.2)) rfl rfl (r_extract rfl rfl) ?_
        refine lv (v := (.int .i64 r_233.1)) rfl rfl (r_assign rfl) ?_
        refine lv (v := (.int .i64 r_233.2)) rfl rfl (r_assign rfl) ?_
        refine lnil ?_
        refine wseq ?_
        refine wregion ?_
        obtain ⟨r_237, hr_238, hm⟩ := bind_some hm
        refine lc rfl rfl (r_call2 Try.call32 rfl rfl) (c_order_Fill_v0n N 26 col_232 _ none 0 ([] : List Int) Sl.nil r_237 hr_238) ?_
        rintro _ w_242 ⟨col_244, ra_239, rc_240, rfl, hg_243, rh_241⟩
        refine ⟨_, rfl, ?_⟩
        replace rh_205 := rh_205.gr hg_243
        replace rh_219 := rh_219.gr hg_243
        replace rh_228 := rh_228.gr hg_243
        replace hst := hst.grow hg_243
        refine lv (v := (.tuple #[(.slice ra_239 r_237.1.length rc_240), (.int .i64 r_237.2)])) rfl rfl (r_move rfl) ?_
        refine lv (v := (.slice ra_239 r_237.1.length rc_240)) rfl rfl (r_extract rfl rfl) ?_
        refine lv (v := (.int .i64 r_237.2)) rfl rfl (r_extract rfl rfl) ?_
        refine lv (v := (.slice ra_239 r_237.1.length rc_240)) rfl rfl (r_assign rfl) ?_
        refine lv (v := (.int .i64 r_237.2)) rfl rfl (r_assign rfl) ?_
        refine lnil ?_
        refine wseq ?_
        refine Wp.cut (fun f w_304 => ∃ (col_305 : Col) (v_306 : Bool), m_credencelaw18_awake_J2 v_306 = some r ∧ St w0 (col0 col) col_305 w_304 ∧ f 0 = (.bool v_306) ∧ f 1000000 = (enc [])) ?_ ?_
        · intro f w_304 hJ
          obtain ⟨col_305, v_306, hm, hst, hs0, hs1000000⟩ := hJ
          rw [m_credencelaw18_awake_J2.eq_1] at hm
          refine .ld (d := 0) (v := (.bool v_306)) hs0 ?_
          refine .ld (d := 1000000) (v := (enc [])) hs1000000 ?_
          clear hs0 hs1000000
          refine wret ?_
          cases hm
          exact ⟨rfl, rfl, hst.below⟩
        · refine wregion ?_
          refine lv (v := (.int .i64 r_201.2)) rfl rfl (r_move rfl) ?_
          refine lv (v := (.bool (decide (r_201.2 = 0)))) rfl rfl (r_eql r_201.2 0 rfl rfl) ?_
          refine lv (v := (.bool (decide (r_201.2 = 0)))) rfl rfl (r_move rfl) ?_
          by_cases hg_307 : (decide (r_201.2 = 0)) = true
          · rw [if_pos hg_307] at hm
            refine lg (b := decide (r_201.2 = 0)) 53 rfl rfl rfl (by rw [hg_307]; rfl) ?_
            refine lv (v := (.int .i64 r_215.2)) rfl rfl (r_move rfl) ?_
            refine lg (b := decide (r_201.2 = 0)) 53 rfl rfl rfl (by rw [hg_307]; rfl) ?_
            refine lv (v := (.bool (decide (r_215.2 = 0)))) rfl rfl (r_eql r_215.2 0 rfl rfl) ?_
            refine lv (v := (.bool (decide (r_215.2 = 0)))) rfl rfl (r_pickT (congrArg Value.bool hg_307) rfl) ?_
            refine lv (v := (.bool (decide (r_215.2 = 0)))) rfl rfl (r_move rfl) ?_
            by_cases hg_308 : (decide (r_215.2 = 0)) = true
            · rw [if_pos hg_308] at hm
              refine lg (b := decide (r_215.2 = 0)) 57 rfl rfl rfl (by rw [hg_308]; rfl) ?_
              refine lv (v := (.int .i64 r_224.2)) rfl rfl (r_move rfl) ?_
              refine lg (b := decide (r_215.2 = 0)) 57 rfl rfl rfl (by rw [hg_308]; rfl) ?_
              refine lv (v := (.bool (decide (r_224.2 = 0)))) rfl rfl (r_eql r_224.2 0 rfl rfl) ?_
              refine lv (v := (.bool (decide (r_224.2 = 0)))) rfl rfl (r_pickT (congrArg Value.bool hg_308) rfl) ?_
              refine lv (v := (.bool (decide (r_224.2 = 0)))) rfl rfl (r_move rfl) ?_
              by_cases hg_309 : (decide (r_224.2 = 0)) = true
              · rw [if_pos hg_309] at hm
                refine lg (b := decide (r_224.2 = 0)) 61 rfl rfl rfl (by rw [hg_309]; rfl) ?_
                refine lv (v := (.int .i64 r_233.2)) rfl rfl (r_move rfl) ?_
                refine lg (b := decide (r_224.2 = 0)) 61 rfl rfl rfl (by rw [hg_309]; rfl) ?_
                refine lv (v := (.bool (decide (r_233.2 = 0)))) rfl rfl (r_eql r_233.2 0 rfl rfl) ?_
                refine lv (v := (.bool (decide (r_233.2 = 0)))) rfl rfl (r_pickT (congrArg Value.bool hg_309) rfl) ?_
                refine lv (v := (.bool (decide (r_233.2 = 0)))) rfl rfl (r_move rfl) ?_
                by_cases hg_310 : (decide (r_233.2 = 0)) = true
                · rw [if_pos hg_310] at hm
                  refine lg (b := decide (r_233.2 = 0)) 65 rfl rfl rfl (by rw [hg_310]; rfl) ?_
                  refine lv (v := (.slice ra_203 r_201.1.length rc_204)) rfl rfl (r_move rfl) ?_
                  refine lg (b := decide (r_233.2 = 0)) 65 rfl rfl rfl (by rw [hg_310]; rfl) ?_
                  refine l_lit (col := col_244) (r := (Rep.int .i64)) (xs := [4, 0, 1, 2, 3]) [(.int .i64 4), (.int .i64 0), (.int .i64 1), (.int .i64 2), (.int .i64 3)] 32 rfl Try.underlying22 el3_29 rfl rfl rfl rfl rfl rfl (by intro v hv; simp only [List.mem_cons, List.not_mem_nil, or_false] at hv; rcases hv with rfl | rfl | rfl | rfl | rfl <;> rfl) (RowsH.ofF (Rows.consF (r := (Rep.int .i64)) (x := 4) (cs := [(.int .i64 4)]) (rd_int .i64 4) (Rows.consF (r := (Rep.int .i64)) (x := 0) (cs := [(.int .i64 0)]) (rd_int .i64 0) (Rows.consF (r := (Rep.int .i64)) (x := 1) (cs := [(.int .i64 1)]) (rd_int .i64 1) (Rows.consF (r := (Rep.int .i64)) (x := 2) (cs := [(.int .i64 2)]) (rd_int .i64 2) (Rows.consF (r := (Rep.int .i64)) (x := 3) (cs := [(.int .i64 3)]) (rd_int .i64 3) Rows.nil0)))))) ?_
                  intro a_311 w_312 col_313 hg_314 h_315
                  replace rh_219 := rh_219.gr hg_314
                  replace rh_228 := rh_228.gr hg_314
                  replace rh_205 := rh_205.gr hg_314
                  replace hst := hst.grow hg_314
                  refine lg (b := decide (r_233.2 = 0)) 65 rfl rfl rfl (by rw [hg_310]; rfl) ?_
                  obtain ⟨r_316, hr_317, hm⟩ := bind_some hm
                  refine lc rfl rfl (r_call2 Try.call36 rfl rfl) (c_credenceref15_Ints N (frC 32 (frC 22 col_313)) _ ra_203 rc_204 r_201.1 a_311 5 [4, 0, 1, 2, 3] ((rh_205.toSlF (Froz.int .i64)).froz 32) ((h_315.froz 22 (by decide)).toSlF (Froz.int .i64)) r_316 hr_317) ?_
                  rintro _ w_318 ⟨rfl, hg_319⟩
                  refine ⟨_, rfl, ?_⟩
                  replace hg_319 : Grow col_313 w_312 col_313 w_318 := .of_below hg_319
                  replace rh_219 := rh_219.gr hg_319
                  replace rh_228 := rh_228.gr hg_319
                  replace rh_205 := rh_205.gr hg_319
                  replace h_315 := h_315.gr hg_319
                  replace hst := hst.grow hg_319
                  refine lv (v := (.bool r_316)) rfl rfl (r_pickT (congrArg Value.bool hg_310) rfl) ?_
                  refine lv (v := (.bool r_316)) rfl rfl (r_move rfl) ?_
                  by_cases hg_320 : r_316 = true
                  · rw [if_pos hg_320] at hm
                    refine lg (b := r_316) 70 rfl rfl rfl (by rw [hg_320]; rfl) ?_
                    refine lv (v := (.slice ra_217 r_215.1.length rc_218)) rfl rfl (r_move rfl) ?_
                    refine lg (b := r_316) 70 rfl rfl rfl (by rw [hg_320]; rfl) ?_
                    refine l_lit (col := col_313) (r := (Rep.int .i64)) (xs := [1, 3]) [(.int .i64 1), (.int .i64 3)] 33 rfl Try.underlying22 el3_29 rfl rfl rfl rfl rfl rfl (by intro v hv; simp only [List.mem_cons, List.not_mem_nil, or_false] at hv; rcases hv with rfl | rfl <;> rfl) (RowsH.ofF (Rows.consF (r := (Rep.int .i64)) (x := 1) (cs := [(.int .i64 1)]) (rd_int .i64 1) (Rows.consF (r := (Rep.int .i64)) (x := 3) (cs := [(.int .i64 3)]) (rd_int .i64 3) Rows.nil0))) ?_
                    intro a_321 w_322 col_323 hg_324 h_325
                    replace rh_228 := rh_228.gr hg_324
                    replace rh_219 := rh_219.gr hg_324
                    replace hst := hst.grow hg_324
                    refine lg (b := r_316) 70 rfl rfl rfl (by rw [hg_320]; rfl) ?_
                    obtain ⟨r_326, hr_327, hm⟩ := bind_some hm
                    refine lc rfl rfl (r_call2 Try.call36 rfl rfl) (c_credenceref15_Ints N (frC 33 (frC 24 col_323)) _ ra_217 rc_218 r_215.1 a_321 2 [1, 3] ((rh_219.toSlF (Froz.int .i64)).froz 33) ((h_325.froz 24 (by decide)).toSlF (Froz.int .i64)) r_326 hr_327) ?_
                    rintro _ w_328 ⟨rfl, hg_329⟩
                    refine ⟨_, rfl, ?_⟩
                    replace hg_329 : Grow col_323 w_322 col_323 w_328 := .of_below hg_329
                    replace rh_228 := rh_228.gr hg_329
                    replace rh_219 := rh_219.gr hg_329
                    replace h_325 := h_325.gr hg_329
                    replace hst := hst.grow hg_329
                    refine lv (v := (.bool r_326)) rfl rfl (r_pickT (congrArg Value.bool hg_320) rfl) ?_
                    refine lv (v := (.bool r_326)) rfl rfl (r_move rfl) ?_
                    by_cases hg_330 : r_326 = true
                    · rw [if_pos hg_330] at hm
                      refine lg (b := r_326) 75 rfl rfl rfl (by rw [hg_330]; rfl) ?_
                      refine lv (v := (.slice ra_226 r_224.1.length rc_227)) rfl rfl (r_move rfl) ?_
                      refine lg (b := r_326) 75 rfl rfl rfl (by rw [hg_330]; rfl) ?_
                      refine lv (v := (.int .i64 (r_224.1.length : Int))) rfl rfl (r_len Try.underlying33 rfl) ?_
                      refine lg (b := r_326) 75 rfl rfl rfl (by rw [hg_330]; rfl) ?_
                      refine lv (v := (.bool (decide ((r_224.1.length : Int) = 5)))) rfl rfl (r_eql (r_224.1.length : Int) 5 rfl rfl) ?_
                      refine lv (v := (.bool (decide ((r_224.1.length : Int) = 5)))) rfl rfl (r_pickT (congrArg Value.bool hg_330) rfl) ?_
                      refine lv (v := (.bool (decide ((r_224.1.length : Int) = 5)))) rfl rfl (r_move rfl) ?_
                      by_cases hg_331 : (decide ((r_224.1.length : Int) = 5)) = true
                      · rw [if_pos hg_331] at hm
                        refine lg (b := decide ((r_224.1.length : Int) = 5)) 80 rfl rfl rfl (by rw [hg_331]; rfl) ?_
                        refine lv (v := (.slice ra_226 r_224.1.length rc_227)) rfl rfl (r_move rfl) ?_
                        refine lg (b := decide ((r_224.1.length : Int) = 5)) 80 rfl rfl rfl (by rw [hg_331]; rfl) ?_
                        obtain ⟨e_332, hj_333, hm⟩ := bind_some hm
                        refine lv (v := (sptr ra_226 (Int.toNat 1 * 1))) rfl rfl (r_idx Try.underlying33 Try.sizeOf22 rfl rfl (at?_some hj_333).1 (at?_some hj_333).2.1 (rh_228.addr hj_333)) ?_
                        refine lg (b := decide ((r_224.1.length : Int) = 5)) 80 rfl rfl rfl (by rw [hg_331]; rfl) ?_
                        obtain ⟨_, hr_334, hA_335⟩ := rh_228.atN hj_333
                        obtain ⟨a_336, cap_337, rfl, h_338⟩ := hr_334.row
                        refine lv (v := (.slice a_336 e_332.length cap_337)) rfl rfl (r_ld Try.isAgg22 rfl hA_335.one) ?_
                        refine lg (b := decide ((r_224.1.length : Int) = 5)) 80 rfl rfl rfl (by rw [hg_331]; rfl) ?_
                        refine lv (v := (.int .i64 (e_332.length : Int))) rfl rfl (r_len Try.underlying22 rfl) ?_
                        refine lg (b := decide ((r_224.1.length : Int) = 5)) 80 rfl rfl rfl (by rw [hg_331]; rfl) ?_
                        refine lv (v := (.bool (decide ((e_332.length : Int) = 3)))) rfl rfl (r_eql (e_332.length : Int) 3 rfl rfl) ?_
                        refine lv (v := (.bool (decide ((e_332.length : Int) = 3)))) rfl rfl (r_pickT (congrArg Value.bool hg_331) rfl) ?_
                        refine lv (v := (.bool (decide ((e_332.length : Int) = 3)))) rfl rfl (r_move rfl) ?_
                        by_cases hg_339 : (decide ((e_332.length : Int) = 3)) = true
                        · rw [if_pos hg_339] at hm
                          refine lg (b := decide ((e_332.length : Int) = 3)) 87 rfl rfl rfl (by rw [hg_339]; rfl) ?_
                          refine lv (v := (.int .i64 r_233.1)) rfl rfl (r_move rfl) ?_
                          refine lg (b := decide ((e_332.length : Int) = 3)) 87 rfl rfl rfl (by rw [hg_339]; rfl) ?_
                          refine lv (v := (.bool (decide (r_233.1 = 2)))) rfl rfl (r_eql r_233.1 2 rfl rfl) ?_
                          refine lv (v := (.bool (decide (r_233.1 = 2)))) rfl rfl (r_pickT (congrArg Value.bool hg_339) rfl) ?_
                          refine lv (v := (.bool (decide (r_233.1 = 2)))) rfl rfl (r_move rfl) ?_
                          by_cases hg_340 : (decide (r_233.1 = 2)) = true
                          · rw [if_pos hg_340] at hm
                            refine lg (b := decide (r_233.1 = 2)) 91 rfl rfl rfl (by rw [hg_340]; rfl) ?_
                            refine lv (v := (.int .i64 r_237.2)) rfl rfl (r_move rfl) ?_
                            refine lg (b := decide (r_233.1 = 2)) 91 rfl rfl rfl (by rw [hg_340]; rfl) ?_
                            refine lv (v := (.bool (decide (r_237.2 = 2)))) rfl rfl (r_eql r_237.2 2 rfl rfl) ?_
                            refine lv (v := (.bool (decide (r_237.2 = 2)))) rfl rfl (r_pickT (congrArg Value.bool hg_340) rfl) ?_
                            refine lv (v := (.bool (decide (r_237.2 = 2)))) rfl rfl (r_move rfl) ?_
                            by_cases hg_341 : (decide (r_237.2 = 2)) = true
                            · rw [if_pos hg_341] at hm
                              refine lg (b := decide (r_237.2 = 2)) 95 rfl rfl rfl (by rw [hg_341]; rfl) ?_
                              refine l_lit (col := col_323) (r := (Rep.int .i64)) (xs := [2, 0, 1]) [(.int .i64 2), (.int .i64 0), (.int .i64 1)] 34 rfl Try.underlying22 el3_29 rfl rfl rfl rfl rfl rfl (by intro v hv; simp only [List.mem_cons, List.not_mem_nil, or_false] at hv; rcases hv with rfl | rfl | rfl <;> rfl) (RowsH.ofF (Rows.consF (r := (Rep.int .i64)) (x := 2) (cs := [(.int .i64 2)]) (rd_int .i64 2) (Rows.consF (r := (Rep.int .i64)) (x := 0) (cs := [(.int .i64 0)]) (rd_int .i64 0) (Rows.consF (r := (Rep.int .i64)) (x := 1) (cs := [(.int .i64 1)]) (rd_int .i64 1) Rows.nil0)))) ?_
                              intro a_342 w_343 col_344 hg_345 h_346
                              replace hst := hst.grow hg_345
                              refine lg (b := decide (r_237.2 = 2)) 95 rfl rfl rfl (by rw [hg_341]; rfl) ?_
                              refine l_lit (col := col_344) (r := (Rep.int .i64)) (xs := [0, 1, 2]) [(.int .i64 0), (.int .i64 1), (.int .i64 2)] 35 rfl Try.underlying22 el3_29 rfl rfl rfl rfl rfl rfl (by intro v hv; simp only [List.mem_cons, List.not_mem_nil, or_false] at hv; rcases hv with rfl | rfl | rfl <;> rfl) (RowsH.ofF (Rows.consF (r := (Rep.int .i64)) (x := 0) (cs := [(.int .i64 0)]) (rd_int .i64 0) (Rows.consF (r := (Rep.int .i64)) (x := 1) (cs := [(.int .i64 1)]) (rd_int .i64 1) (Rows.consF (r := (Rep.int .i64)) (x := 2) (cs := [(.int .i64 2)]) (rd_int .i64 2) Rows.nil0)))) ?_
                              intro a_347 w_348 col_349 hg_350 h_351
                              replace h_346 := h_346.gr hg_350
                              replace hst := hst.grow hg_350
                              refine lg (b := decide (r_237.2 = 2)) 95 rfl rfl rfl (by rw [hg_341]; rfl) ?_
                              obtain ⟨r_352, hr_353, hm⟩ := bind_some hm
                              refine lc rfl rfl (r_call2 Try.call45 rfl rfl) (c_order_Check (frC 35 (frC 34 col_349)) _ a_342 3 [2, 0, 1] a_347 3 [0, 1, 2] ((h_346.toSlF (Froz.int .i64)).froz 35) ((h_351.froz 34 (by decide)).toSlF (Froz.int .i64)) r_352 hr_353) ?_
                              rintro _ w_354 ⟨rfl, hg_355⟩
                              refine ⟨_, rfl, ?_⟩
                              replace hg_355 : Grow col_349 w_348 col_349 w_354 := .of_below hg_355
                              replace h_346 := h_346.gr hg_355
                              replace h_351 := h_351.gr hg_355
                              replace hst := hst.grow hg_355
                              refine lg (b := decide (r_237.2 = 2)) 95 rfl rfl rfl (by rw [hg_341]; rfl) ?_
                              refine lv (v := (.bool (decide (r_352 = 0)))) rfl rfl (r_eql r_352 0 rfl rfl) ?_
                              refine lv (v := (.bool (decide (r_352 = 0)))) rfl rfl (r_pickT (congrArg Value.bool hg_341) rfl) ?_
                              refine lv (v := (.bool (decide (r_352 = 0)))) rfl rfl (r_move rfl) ?_
                              by_cases hg_356 : (decide (r_352 = 0)) = true
                              · rw [if_pos hg_356] at hm
                                refine lg (b := decide (r_352 = 0)) 101 rfl rfl rfl (by rw [hg_356]; rfl) ?_
                                refine l_lit (col := col_349) (r := (Rep.int .i64)) (xs := [0]) [(.int .i64 0)] 36 rfl Try.underlying22 el3_29 rfl rfl rfl rfl rfl rfl (by intro v hv; simp only [List.mem_cons, List.not_mem_nil, or_false] at hv; subst hv; rfl) (RowsH.ofF (Rows.consF (r := (Rep.int .i64)) (x := 0) (cs := [(.int .i64 0)]) (rd_int .i64 0) Rows.nil0)) ?_
                                intro a_357 w_358 col_359 hg_360 h_361
                                replace hst := hst.grow hg_360
                                refine lg (b := decide (r_352 = 0)) 101 rfl rfl rfl (by rw [hg_356]; rfl) ?_
                                obtain ⟨r_362, hr_363, hm⟩ := bind_some hm
                                refine lc rfl rfl (r_call2 Try.call45 rfl rfl) (c_order_Check (frC 36 col_359) _ a_357 1 [0] none 0 ([] : List Int) (h_361.toSlF (Froz.int .i64)) Sl.nil r_362 hr_363) ?_
                                rintro _ w_364 ⟨rfl, hg_365⟩
                                refine ⟨_, rfl, ?_⟩
                                replace hg_365 : Grow col_359 w_358 col_359 w_364 := .of_below hg_365
                                replace h_361 := h_361.gr hg_365
                                replace hst := hst.grow hg_365
                                refine lg (b := decide (r_352 = 0)) 101 rfl rfl rfl (by rw [hg_356]; rfl) ?_
                                refine lv (v := (.bool (decide (r_362 = 51)))) rfl rfl (r_eql r_362 51 rfl rfl) ?_
                                refine lv (v := (.bool (decide (r_362 = 51)))) rfl rfl (r_pickT (congrArg Value.bool hg_356) rfl) ?_
                                refine lv (v := (.bool (decide (r_362 = 51)))) rfl rfl (r_assign rfl) ?_
                                refine lnil ?_
                                exact ⟨col_359, (decide (r_362 = 51)), hm, hst, rfl, rfl⟩
                              · rw [if_neg hg_356] at hm
                                replace hg_356 := Bool.eq_false_iff.2 hg_356
                                refine lp (b := decide (r_352 = 0)) 101 rfl rfl rfl rfl (by rw [hg_356]; rfl) ?_
                                refine lp (b := decide (r_352 = 0)) 101 rfl rfl rfl rfl (by rw [hg_356]; rfl) ?_
                                refine lp (b := decide (r_352 = 0)) 101 rfl rfl rfl rfl (by rw [hg_356]; rfl) ?_
                                refine lv (v := (.bool false)) rfl rfl (r_pickF (congrArg Value.bool hg_356) rfl) ?_
                                refine lv (v := (.bool false)) rfl rfl (r_assign rfl) ?_
                                refine lnil ?_
                                exact ⟨col_349, false, hm, hst, rfl, rfl⟩
                            · rw [if_neg hg_341] at hm
                              replace hg_341 := Bool.eq_false_iff.2 hg_341
                              refine lp (b := decide (r_237.2 = 2)) 95 rfl rfl rfl rfl (by rw [hg_341]; rfl) ?_
                              refine lp (b := decide (r_237.2 = 2)) 95 rfl rfl rfl rfl (by rw [hg_341]; rfl) ?_
                              refine lp (b := decide (r_237.2 = 2)) 95 rfl rfl rfl rfl (by rw [hg_341]; rfl) ?_
                              refine lp (b := decide (r_237.2 = 2)) 95 rfl rfl rfl rfl (by rw [hg_341]; rfl) ?_
                              refine lv (v := (.bool false)) rfl rfl (r_pickF (congrArg Value.bool hg_341) rfl) ?_
                              refine lv (v := (.bool false)) rfl rfl (r_move rfl) ?_
                              refine lp (b := false) 101 rfl rfl rfl rfl rfl ?_
                              refine lp (b := false) 101 rfl rfl rfl rfl rfl ?_
                              refine lp (b := false) 101 rfl rfl rfl rfl rfl ?_
                              refine lv (v := (.bool false)) rfl rfl (r_pickF rfl rfl) ?_
                              refine lv (v := (.bool false)) rfl rfl (r_assign rfl) ?_
                              refine lnil ?_
                              exact ⟨col_323, false, hm, hst, rfl, rfl⟩
                          · rw [if_neg hg_340] at hm
                            replace hg_340 := Bool.eq_false_iff.2 hg_340
                            refine lp (b := decide (r_233.1 = 2)) 91 rfl rfl rfl rfl (by rw [hg_340]; rfl) ?_
                            refine lp (b := decide (r_233.1 = 2)) 91 rfl rfl rfl rfl (by rw [hg_340]; rfl) ?_
                            refine lv (v := (.bool false)) rfl rfl (r_pickF (congrArg Value.bool hg_340) rfl) ?_
                            refine lv (v := (.bool false)) rfl rfl (r_move rfl) ?_
                            refine lp (b := false) 95 rfl rfl rfl rfl rfl ?_
                            refine lp (b := false) 95 rfl rfl rfl rfl rfl ?_
                            refine lp (b := false) 95 rfl rfl rfl rfl rfl ?_
                            refine lp (b := false) 95 rfl rfl rfl rfl rfl ?_
                            refine lv (v := (.bool false)) rfl rfl (r_pickF rfl rfl) ?_
                            refine lv (v := (.bool false)) rfl rfl (r_move rfl) ?_
                            refine lp (b := false) 101 rfl rfl rfl rfl rfl ?_
                            refine lp (b := false) 101 rfl rfl rfl rfl rfl ?_
                            refine lp (b := false) 101 rfl rfl rfl rfl rfl ?_
                            refine lv (v := (.bool false)) rfl rfl (r_pickF rfl rfl) ?_
                            refine lv (v := (.bool false)) rfl rfl (r_assign rfl) ?_
                            refine lnil ?_
                            exact ⟨col_323, false, hm, hst, rfl, rfl⟩
                        · rw [if_neg hg_339] at hm
                          replace hg_339 := Bool.eq_false_iff.2 hg_339
                          refine lp (b := decide ((e_332.length : Int) = 3)) 87 rfl rfl rfl rfl (by rw [hg_339]; rfl) ?_
                          refine lp (b := decide ((e_332.length : Int) = 3)) 87 rfl rfl rfl rfl (by rw [hg_339]; rfl) ?_
                          refine lv (v := (.bool false)) rfl rfl (r_pickF (congrArg Value.bool hg_339) rfl) ?_
                          refine lv (v := (.bool false)) rfl rfl (r_move rfl) ?_
                          refine lp (b := false) 91 rfl rfl rfl rfl rfl ?_
                          refine lp (b := false) 91 rfl rfl rfl rfl rfl ?_
                          refine lv (v := (.bool false)) rfl rfl (r_pickF rfl rfl) ?_
                          refine lv (v := (.bool false)) rfl rfl (r_move rfl) ?_
                          refine lp (b := false) 95 rfl rfl rfl rfl rfl ?_
                          refine lp (b := false) 95 rfl rfl rfl rfl rfl ?_
                          refine lp (b := false) 95 rfl rfl rfl rfl rfl ?_
                          refine lp (b := false) 95 rfl rfl rfl rfl rfl ?_
                          refine lv (v := (.bool false)) rfl rfl (r_pickF rfl rfl) ?_
                          refine lv (v := (.bool false)) rfl rfl (r_move rfl) ?_
                          refine lp (b := false) 101 rfl rfl rfl rfl rfl ?_
                          refine lp (b := false) 101 rfl rfl rfl rfl rfl ?_
                          refine lp (b := false) 101 rfl rfl rfl rfl rfl ?_
                          refine lv (v := (.bool false)) rfl rfl (r_pickF rfl rfl) ?_
                          refine lv (v := (.bool false)) rfl rfl (r_assign rfl) ?_
                          refine lnil ?_
                          exact ⟨col_323, false, hm, hst, rfl, rfl⟩
                      · rw [if_neg hg_331] at hm
                        replace hg_331 := Bool.eq_false_iff.2 hg_331
                        refine lp (b := decide ((r_224.1.length : Int) = 5)) 80 rfl rfl rfl rfl (by rw [hg_331]; rfl) ?_
                        refine lp (b := decide ((r_224.1.length : Int) = 5)) 80 rfl rfl rfl rfl (by rw [hg_331]; rfl) ?_
                        refine lp (b := decide ((r_224.1.length : Int) = 5)) 80 rfl rfl rfl rfl (by rw [hg_331]; rfl) ?_
                        refine lp (b := decide ((r_224.1.length : Int) = 5)) 80 rfl rfl rfl rfl (by rw [hg_331]; rfl) ?_
                        refine lp (b := decide ((r_224.1.length : Int) = 5)) 80 rfl rfl rfl rfl (by rw [hg_331]; rfl) ?_
                        refine lv (v := (.bool false)) rfl rfl (r_pickF (congrArg Value.bool hg_331) rfl) ?_
                        refine lv (v := (.bool false)) rfl rfl (r_move rfl) ?_
                        refine lp (b := false) 87 rfl rfl rfl rfl rfl ?_
                        refine lp (b := false) 87 rfl rfl rfl rfl rfl ?_
                        refine lv (v := (.bool false)) rfl rfl (r_pickF rfl rfl) ?_
                        refine lv (v := (.bool false)) rfl rfl (r_move rfl) ?_
                        refine lp (b := false) 91 rfl rfl rfl rfl rfl ?_
                        refine lp (b := false) 91 rfl rfl rfl rfl rfl ?_
                        refine lv (v := (.bool false)) rfl rfl (r_pickF rfl rfl) ?_
                        refine lv (v := (.bool false)) rfl rfl (r_move rfl) ?_
                        refine lp (b := false) 95 rfl rfl rfl rfl rfl ?_
                        refine lp (b := false) 95 rfl rfl rfl rfl rfl ?_
                        refine lp (b := false) 95 rfl rfl rfl rfl rfl ?_
                        refine lp (b := false) 95 rfl rfl rfl rfl rfl ?_
                        refine lv (v := (.bool false)) rfl rfl (r_pickF rfl rfl) ?_
                        refine lv (v := (.bool false)) rfl rfl (r_move rfl) ?_
                        refine lp (b := false) 101 rfl rfl rfl rfl rfl ?_
                        refine lp (b := false) 101 rfl rfl rfl rfl rfl ?_
                        refine lp (b := false) 101 rfl rfl rfl rfl rfl ?_
                        refine lv (v := (.bool false)) rfl rfl (r_pickF rfl rfl) ?_
                        refine lv (v := (.bool false)) rfl rfl (r_assign rfl) ?_
                        refine lnil ?_
                        exact ⟨col_323, false, hm, hst, rfl, rfl⟩
                    · rw [if_neg hg_330] at hm
                      replace hg_330 := Bool.eq_false_iff.2 hg_330
                      refine lp (b := r_326) 75 rfl rfl rfl rfl (by rw [hg_330]; rfl) ?_
                      refine lp (b := r_326) 75 rfl rfl rfl rfl (by rw [hg_330]; rfl) ?_
                      refine lp (b := r_326) 75 rfl rfl rfl rfl (by rw [hg_330]; rfl) ?_
                      refine lv (v := (.bool false)) rfl rfl (r_pickF (congrArg Value.bool hg_330) rfl) ?_
                      refine lv (v := (.bool false)) rfl rfl (r_move rfl) ?_
                      refine lp (b := false) 80 rfl rfl rfl rfl rfl ?_
                      refine lp (b := false) 80 rfl rfl rfl rfl rfl ?_
                      refine lp (b := false) 80 rfl rfl rfl rfl rfl ?_
                      refine lp (b := false) 80 rfl rfl rfl rfl rfl ?_
                      refine lp (b := false) 80 rfl rfl rfl rfl rfl ?_
                      refine lv (v := (.bool false)) rfl rfl (r_pickF rfl rfl) ?_
                      refine lv (v := (.bool false)) rfl rfl (r_move rfl) ?_
                      refine lp (b := false) 87 rfl rfl rfl rfl rfl ?_
                      refine lp (b := false) 87 rfl rfl rfl rfl rfl ?_
                      refine lv (v := (.bool false)) rfl rfl (r_pickF rfl rfl) ?_
                      refine lv (v := (.bool false)) rfl rfl (r_move rfl) ?_
                      refine lp (b := false) 91 rfl rfl rfl rfl rfl ?_
                      refine lp (b := false) 91 rfl rfl rfl rfl rfl ?_
                      refine lv (v := (.bool false)) rfl rfl (r_pickF rfl rfl) ?_
                      refine lv (v := (.bool false)) rfl rfl (r_move rfl) ?_
                      refine lp (b := false) 95 rfl rfl rfl rfl rfl ?_
                      refine lp (b := false) 95 rfl rfl rfl rfl rfl ?_
                      refine lp (b := false) 95 rfl rfl rfl rfl rfl ?_
                      refine lp (b := false) 95 rfl rfl rfl rfl rfl ?_
                      refine lv (v := (.bool false)) rfl rfl (r_pickF rfl rfl) ?_
                      refine lv (v := (.bool false)) rfl rfl (r_move rfl) ?_
                      refine lp (b := false) 101 rfl rfl rfl rfl rfl ?_
                      refine lp (b := false) 101 rfl rfl rfl rfl rfl ?_
                      refine lp (b := false) 101 rfl rfl rfl rfl rfl ?_
                      refine lv (v := (.bool false)) rfl rfl (r_pickF rfl rfl) ?_
                      refine lv (v := (.bool false)) rfl rfl (r_assign rfl) ?_
                      refine lnil ?_
                      exact ⟨col_323, false, hm, hst, rfl, rfl⟩
                  · rw [if_neg hg_320] at hm
                    replace hg_320 := Bool.eq_false_iff.2 hg_320
                    refine lp (b := r_316) 70 rfl rfl rfl rfl (by rw [hg_320]; rfl) ?_
                    refine lp (b := r_316) 70 rfl rfl rfl rfl (by rw [hg_320]; rfl) ?_
                    refine lp (b := r_316) 70 rfl rfl rfl rfl (by rw [hg_320]; rfl) ?_
                    refine lv (v := (.bool false)) rfl rfl (r_pickF (congrArg Value.bool hg_320) rfl) ?_
                    refine lv (v := (.bool false)) rfl rfl (r_move rfl) ?_
                    refine lp (b := false) 75 rfl rfl rfl rfl rfl ?_
                    refine lp (b := false) 75 rfl rfl rfl rfl rfl ?_
                    refine lp (b := false) 75 rfl rfl rfl rfl rfl ?_
                    refine lv (v := (.bool false)) rfl rfl (r_pickF rfl rfl) ?_
                    refine lv (v := (.bool false)) rfl rfl (r_move rfl) ?_
                    refine lp (b := false) 80 rfl rfl rfl rfl rfl ?_
                    refine lp (b := false) 80 rfl rfl rfl rfl rfl ?_
                    refine lp (b := false) 80 rfl rfl rfl rfl rfl ?_
                    refine lp (b := false) 80 rfl rfl rfl rfl rfl ?_
                    refine lp (b := false) 80 rfl rfl rfl rfl rfl ?_
                    refine lv (v := (.bool false)) rfl rfl (r_pickF rfl rfl) ?_
                    refine lv (v := (.bool false)) rfl rfl (r_move rfl) ?_
                    refine lp (b := false) 87 rfl rfl rfl rfl rfl ?_
                    refine lp (b := false) 87 rfl rfl rfl rfl rfl ?_
                    refine lv (v := (.bool false)) rfl rfl (r_pickF rfl rfl) ?_
                    refine lv (v := (.bool false)) rfl rfl (r_move rfl) ?_
                    refine lp (b := false) 91 rfl rfl rfl rfl rfl ?_
                    refine lp (b := false) 91 rfl rfl rfl rfl rfl ?_
                    refine lv (v := (.bool false)) rfl rfl (r_pickF rfl rfl) ?_
                    refine lv (v := (.bool false)) rfl rfl (r_move rfl) ?_
                    refine lp (b := false) 95 rfl rfl rfl rfl rfl ?_
                    refine lp (b := false) 95 rfl rfl rfl rfl rfl ?_
                    refine lp (b := false) 95 rfl rfl rfl rfl rfl ?_
                    refine lp (b := false) 95 rfl rfl rfl rfl rfl ?_
                    refine lv (v := (.bool false)) rfl rfl (r_pickF rfl rfl) ?_
                    refine lv (v := (.bool false)) rfl rfl (r_move rfl) ?_
                    refine lp (b := false) 101 rfl rfl rfl rfl rfl ?_
                    refine lp (b := false) 101 rfl rfl rfl rfl rfl ?_
                    refine lp (b := false) 101 rfl rfl rfl rfl rfl ?_
                    refine lv (v := (.bool false)) rfl rfl (r_pickF rfl rfl) ?_
                    refine lv (v := (.bool false)) rfl rfl (r_assign rfl) ?_
                    refine lnil ?_
                    exact ⟨col_313, false, hm, hst, rfl, rfl⟩
                · rw [if_neg hg_310] at hm
                  replace hg_310 := Bool.eq_false_iff.2 hg_310
                  refine lp (b := decide (r_233.2 = 0)) 65 rfl rfl rfl rfl (by rw [hg_310]; rfl) ?_
                  refine lp (b := decide (r_233.2 = 0)) 65 rfl rfl rfl rfl (by rw [hg_310]; rfl) ?_
                  refine lp (b := decide (r_233.2 = 0)) 65 rfl rfl rfl rfl (by rw [hg_310]; rfl) ?_
                  refine lv (v := (.bool false)) rfl rfl (r_pickF (congrArg Value.bool hg_310) rfl) ?_
                  refine lv (v := (.bool false)) rfl rfl (r_move rfl) ?_
                  refine lp (b := false) 70 rfl rfl rfl rfl rfl ?_
                  refine lp (b := false) 70 rfl rfl rfl rfl rfl ?_
                  refine lp (b := false) 70 rfl rfl rfl rfl rfl ?_
                  refine lv (v := (.bool false)) rfl rfl (r_pickF rfl rfl) ?_
                  refine lv (v := (.bool false)) rfl rfl (r_move rfl) ?_
                  refine lp (b := false) 75 rfl rfl rfl rfl rfl ?_
                  refine lp (b := false) 75 rfl rfl rfl rfl rfl ?_
                  refine lp (b := false) 75 rfl rfl rfl rfl rfl ?_
                  refine lv (v := (.bool false)) rfl rfl (r_pickF rfl rfl) ?_
                  refine lv (v := (.bool false)) rfl rfl (r_move rfl) ?_
                  refine lp (b := false) 80 rfl rfl rfl rfl rfl ?_
                  refine lp (b := false) 80 rfl rfl rfl rfl rfl ?_
                  refine lp (b := false) 80 rfl rfl rfl rfl rfl ?_
                  refine lp (b := false) 80 rfl rfl rfl rfl rfl ?_
                  refine lp (b := false) 80 rfl rfl rfl rfl rfl ?_
                  refine lv (v := (.bool false)) rfl rfl (r_pickF rfl rfl) ?_
                  refine lv (v := (.bool false)) rfl rfl (r_move rfl) ?_
                  refine lp (b := false) 87 rfl rfl rfl rfl rfl ?_
                  refine lp (b := false) 87 rfl rfl rfl rfl rfl ?_
                  refine lv (v := (.bool false)) rfl rfl (r_pickF rfl rfl) ?_
                  refine lv (v := (.bool false)) rfl rfl (r_move rfl) ?_
                  refine lp (b := false) 91 rfl rfl rfl rfl rfl ?_
                  refine lp (b := false) 91 rfl rfl rfl rfl rfl ?_
                  refine lv (v := (.bool false)) rfl rfl (r_pickF rfl rfl) ?_
                  refine lv (v := (.bool false)) rfl rfl (r_move rfl) ?_
                  refine lp (b := false) 95 rfl rfl rfl rfl rfl ?_
                  refine lp (b := false) 95 rfl rfl rfl rfl rfl ?_
                  refine lp (b := false) 95 rfl rfl rfl rfl rfl ?_
                  refine lp (b := false) 95 rfl rfl rfl rfl rfl ?_
                  refine lv (v := (.bool false)) rfl rfl (r_pickF rfl rfl) ?_
                  refine lv (v := (.bool false)) rfl rfl (r_move rfl) ?_
                  refine lp (b := false) 101 rfl rfl rfl rfl rfl ?_
                  refine lp (b := false) 101 rfl rfl rfl rfl rfl ?_
                  refine lp (b := false) 101 rfl rfl rfl rfl rfl ?_
                  refine lv (v := (.bool false)) rfl rfl (r_pickF rfl rfl) ?_
                  refine lv (v := (.bool false)) rfl rfl (r_assign rfl) ?_
                  refine lnil ?_
                  exact ⟨col_244, false, hm, hst, rfl, rfl⟩
              · rw [if_neg hg_309] at hm
                replace hg_309 := Bool.eq_false_iff.2 hg_309
                refine lp (b := decide (r_224.2 = 0)) 61 rfl rfl rfl rfl (by rw [hg_309]; rfl) ?_
                refine lp (b := decide (r_224.2 = 0)) 61 rfl rfl rfl rfl (by rw [hg_309]; rfl) ?_
                refine lv (v := (.bool false)) rfl rfl (r_pickF (congrArg Value.bool hg_309) rfl) ?_
                refine lv (v := (.bool false)) rfl rfl (r_move rfl) ?_
                refine lp (b := false) 65 rfl rfl rfl rfl rfl ?_
                refine lp (b := false) 65 rfl rfl rfl rfl rfl ?_
                refine lp (b := false) 65 rfl rfl rfl rfl rfl ?_
                refine lv (v := (.bool false)) rfl rfl (r_pickF rfl rfl) ?_
                refine lv (v := (.bool false)) rfl rfl (r_move rfl) ?_
                refine lp (b := false) 70 rfl rfl rfl rfl rfl ?_
                refine lp (b := false) 70 rfl rfl rfl rfl rfl ?_
                refine lp (b := false) 70 rfl rfl rfl rfl rfl ?_
                refine lv (v := (.bool false)) rfl rfl (r_pickF rfl rfl) ?_
                refine lv (v := (.bool false)) rfl rfl (r_move rfl) ?_
                refine lp (b := false) 75 rfl rfl rfl rfl rfl ?_
                refine lp (b := false) 75 rfl rfl rfl rfl rfl ?_
                refine lp (b := false) 75 rfl rfl rfl rfl rfl ?_
                refine lv (v := (.bool false)) rfl rfl (r_pickF rfl rfl) ?_
                refine lv (v := (.bool false)) rfl rfl (r_move rfl) ?_
                refine lp (b := false) 80 rfl rfl rfl rfl rfl ?_
                refine lp (b := false) 80 rfl rfl rfl rfl rfl ?_
                refine lp (b := false) 80 rfl rfl rfl rfl rfl ?_
                refine lp (b := false) 80 rfl rfl rfl rfl rfl ?_
                refine lp (b := false) 80 rfl rfl rfl rfl rfl ?_
                refine lv (v := (.bool false)) rfl rfl (r_pickF rfl rfl) ?_
                refine lv (v := (.bool false)) rfl rfl (r_move rfl) ?_
                refine lp (b := false) 87 rfl rfl rfl rfl rfl ?_
                refine lp (b := false) 87 rfl rfl rfl rfl rfl ?_
                refine lv (v := (.bool false)) rfl rfl (r_pickF rfl rfl) ?_
                refine lv (v := (.bool false)) rfl rfl (r_move rfl) ?_
                refine lp (b := false) 91 rfl rfl rfl rfl rfl ?_
                refine lp (b := false) 91 rfl rfl rfl rfl rfl ?_
                refine lv (v := (.bool false)) rfl rfl (r_pickF rfl rfl) ?_
                refine lv (v := (.bool false)) rfl rfl (r_move rfl) ?_
                refine lp (b := false) 95 rfl rfl rfl rfl rfl ?_
                refine lp (b := false) 95 rfl rfl rfl rfl rfl ?_
                refine lp (b := false) 95 rfl rfl rfl rfl rfl ?_
                refine lp (b := false) 95 rfl rfl rfl rfl rfl ?_
                refine lv (v := (.bool false)) rfl rfl (r_pickF rfl rfl) ?_
                refine lv (v := (.bool false)) rfl rfl (r_move rfl) ?_
                refine lp (b := false) 101 rfl rfl rfl rfl rfl ?_
                refine lp (b := false) 101 rfl rfl rfl rfl rfl ?_
                refine lp (b := false) 101 rfl rfl rfl rfl rfl ?_
                refine lv (v := (.bool false)) rfl rfl (r_pickF rfl rfl) ?_
                refine lv (v := (.bool false)) rfl rfl (r_assign rfl) ?_
                refine lnil ?_
                exact ⟨col_244, false, hm, hst, rfl, rfl⟩
            · rw [if_neg hg_308] at hm
              replace hg_308 := Bool.eq_false_iff.2 hg_308
              refine lp (b := decide (r_215.2 = 0)) 57 rfl rfl rfl rfl (by rw [hg_308]; rfl) ?_
              refine lp (b := decide (r_215.2 = 0)) 57 rfl rfl rfl rfl (by rw [hg_308]; rfl) ?_
              refine lv (v := (.bool false)) rfl rfl (r_pickF (congrArg Value.bool hg_308) rfl) ?_
              refine lv (v := (.bool false)) rfl rfl (r_move rfl) ?_
              refine lp (b := false) 61 rfl rfl rfl rfl rfl ?_
              refine lp (b := false) 61 rfl rfl rfl rfl rfl ?_
              refine lv (v := (.bool false)) rfl rfl (r_pickF rfl rfl) ?_
              refine lv (v := (.bool false)) rfl rfl (r_move rfl) ?_
              refine lp (b := false) 65 rfl rfl rfl rfl rfl ?_
              refine lp (b := false) 65 rfl rfl rfl rfl rfl ?_
              refine lp (b := false) 65 rfl rfl rfl rfl rfl ?_
              refine lv (v := (.bool false)) rfl rfl (r_pickF rfl rfl) ?_
              refine lv (v := (.bool false)) rfl rfl (r_move rfl) ?_
              refine lp (b := false) 70 rfl rfl rfl rfl rfl ?_
              refine lp (b := false) 70 rfl rfl rfl rfl rfl ?_
              refine lp (b := false) 70 rfl rfl rfl rfl rfl ?_
              refine lv (v := (.bool false)) rfl rfl (r_pickF rfl rfl) ?_
              refine lv (v := (.bool false)) rfl rfl (r_move rfl) ?_
              refine lp (b := false) 75 rfl rfl rfl rfl rfl ?_
              refine lp (b := false) 75 rfl rfl rfl rfl rfl ?_
              refine lp (b := false) 75 rfl rfl rfl rfl rfl ?_
              refine lv (v := (.bool false)) rfl rfl (r_pickF rfl rfl) ?_
              refine lv (v := (.bool false)) rfl rfl (r_move rfl) ?_
              refine lp (b := false) 80 rfl rfl rfl rfl rfl ?_
              refine lp (b := false) 80 rfl rfl rfl rfl rfl ?_
              refine lp (b := false) 80 rfl rfl rfl rfl rfl ?_
              refine lp (b := false) 80 rfl rfl rfl rfl rfl ?_
              refine lp (b := false) 80 rfl rfl rfl rfl rfl ?_
              refine lv (v := (.bool false)) rfl rfl (r_pickF rfl rfl) ?_
              refine lv (v := (.bool false)) rfl rfl (r_move rfl) ?_
              refine lp (b := false) 87 rfl rfl rfl rfl rfl ?_
              refine lp (b := false) 87 rfl rfl rfl rfl rfl ?_
              refine lv (v := (.bool false)) rfl rfl (r_pickF rfl rfl) ?_
              refine lv (v := (.bool false)) rfl rfl (r_move rfl) ?_
              refine lp (b := false) 91 rfl rfl rfl rfl rfl ?_
              refine lp (b := false) 91 rfl rfl rfl rfl rfl ?_
              refine lv (v := (.bool false)) rfl rfl (r_pickF rfl rfl) ?_
              refine lv (v := (.bool false)) rfl rfl (r_move rfl) ?_
              refine lp (b := false) 95 rfl rfl rfl rfl rfl ?_
              refine lp (b := false) 95 rfl rfl rfl rfl rfl ?_
              refine lp (b := false) 95 rfl rfl rfl rfl rfl ?_
              refine lp (b := false) 95 rfl rfl rfl rfl rfl ?_
              refine lv (v := (.bool false)) rfl rfl (r_pickF rfl rfl) ?_
              refine lv (v := (.bool false)) rfl rfl (r_move rfl) ?_
              refine lp (b := false) 101 rfl rfl rfl rfl rfl ?_
              refine lp (b := false) 101 rfl rfl rfl rfl rfl ?_
              refine lp (b := false) 101 rfl rfl rfl rfl rfl ?_
              refine lv (v := (.bool false)) rfl rfl (r_pickF rfl rfl) ?_
              refine lv (v := (.bool false)) rfl rfl (r_assign rfl) ?_
              refine lnil ?_
              exact ⟨col_244, false, hm, hst, rfl, rfl⟩
          · rw [if_neg hg_307] at hm
            replace hg_307 := Bool.eq_false_iff.2 hg_307
            refine lp (b := decide (r_201.2 = 0)) 53 rfl rfl rfl rfl (by rw [hg_307]; rfl) ?_
            refine lp (b := decide (r_201.2 = 0)) 53 rfl rfl rfl rfl (by rw [hg_307]; rfl) ?_
            refine lv (v := (.bool false)) rfl rfl (r_pickF (congrArg Value.bool hg_307) rfl) ?_
            refine lv (v := (.bool false)) rfl rfl (r_move rfl) ?_
            refine lp (b := false) 57 rfl rfl rfl rfl rfl ?_
            refine lp (b := false) 57 rfl rfl rfl rfl rfl ?_
            refine lv (v := (.bool false)) rfl rfl (r_pickF rfl rfl) ?_
            refine lv (v := (.bool false)) rfl rfl (r_move rfl) ?_
            refine lp (b := false) 61 rfl rfl rfl rfl rfl ?_
            refine lp (b := false) 61 rfl rfl rfl rfl rfl ?_
            refine lv (v := (.bool false)) rfl rfl (r_pickF rfl rfl) ?_
            refine lv (v := (.bool false)) rfl rfl (r_move rfl) ?_
            refine lp (b := false) 65 rfl rfl rfl rfl rfl ?_
            refine lp (b := false) 65 rfl rfl rfl rfl rfl ?_
            refine lp (b := false) 65 rfl rfl rfl rfl rfl ?_
            refine lv (v := (.bool false)) rfl rfl (r_pickF rfl rfl) ?_
            refine lv (v := (.bool false)) rfl rfl (r_move rfl) ?_
            refine lp (b := false) 70 rfl rfl rfl rfl rfl ?_
            refine lp (b := false) 70 rfl rfl rfl rfl rfl ?_
            refine lp (b := false) 70 rfl rfl rfl rfl rfl ?_
            refine lv (v := (.bool false)) rfl rfl (r_pickF rfl rfl) ?_
            refine lv (v := (.bool false)) rfl rfl (r_move rfl) ?_
            refine lp (b := false) 75 rfl rfl rfl rfl rfl ?_
            refine lp (b := false) 75 rfl rfl rfl rfl rfl ?_
            refine lp (b := false) 75 rfl rfl rfl rfl rfl ?_
            refine lv (v := (.bool false)) rfl rfl (r_pickF rfl rfl) ?_
            refine lv (v := (.bool false)) rfl rfl (r_move rfl) ?_
            refine lp (b := false) 80 rfl rfl rfl rfl rfl ?_
            refine lp (b := false) 80 rfl rfl rfl rfl rfl ?_
            refine lp (b := false) 80 rfl rfl rfl rfl rfl ?_
            refine lp (b := false) 80 rfl rfl rfl rfl rfl ?_
            refine lp (b := false) 80 rfl rfl rfl rfl rfl ?_
            refine lv (v := (.bool false)) rfl rfl (r_pickF rfl rfl) ?_
            refine lv (v := (.bool false)) rfl rfl (r_move rfl) ?_
            refine lp (b := false) 87 rfl rfl rfl rfl rfl ?_
            refine lp (b := false) 87 rfl rfl rfl rfl rfl ?_
            refine lv (v := (.bool false)) rfl rfl (r_pickF rfl rfl) ?_
            refine lv (v := (.bool false)) rfl rfl (r_move rfl) ?_
            refine lp (b := false) 91 rfl rfl rfl rfl rfl ?_
            refine lp (b := false) 91 rfl rfl rfl rfl rfl ?_
            refine lv (v := (.bool false)) rfl rfl (r_pickF rfl rfl) ?_
            refine lv (v := (.bool false)) rfl rfl (r_move rfl) ?_
            refine lp (b := false) 95 rfl rfl rfl rfl rfl ?_
            refine lp (b := false) 95 rfl rfl rfl rfl rfl ?_
            refine lp (b := false) 95 rfl rfl rfl rfl rfl ?_
            refine lp (b := false) 95 rfl rfl rfl rfl rfl ?_
            refine lv (v := (.bool false)) rfl rfl (r_pickF rfl rfl) ?_
            refine lv (v := (.bool false)) rfl rfl (r_move rfl) ?_
            refine lp (b := false) 101 rfl rfl rfl rfl rfl ?_
            refine lp (b := false) 101 rfl rfl rfl rfl rfl ?_
            refine lp (b := false) 101 rfl rfl rfl rfl rfl ?_
            refine lv (v := (.bool false)) rfl rfl (r_pickF rfl rfl) ?_
            refine lv (v := (.bool false)) rfl rfl (r_assign rfl) ?_
            refine lnil ?_
            exact ⟨col_244, false, hm, hst, rfl, rfl⟩
  | some t_15 =>
    rw [hx_16] at hm rh_9
    replace hm := optC_some hm
    obtain ⟨o_17, rfl, hG_18⟩ := optP_some rh_9
    cases hx_367 : r_6.2.1 with
    | none =>
      rw [hx_367] at hm rh_11
      replace hm := optC_none hm
      obtain rfl := optP_none rh_11
      clear rh_11
      refine lv (v := (.tuple #[(.pointer (some ⟨o_17.g, 0, none⟩)), (.pointer none), (.bool r_6.2.2)])) rfl rfl (r_move rfl) ?_
      refine lv (v := (.pointer (some ⟨o_17.g, 0, none⟩))) rfl rfl (r_extract rfl rfl) ?_
      refine lv (v := (.pointer none)) rfl rfl (r_extract rfl rfl) ?_
      refine lv (v := (.bool r_6.2.2)) rfl rfl (r_extract rfl rfl) ?_
      refine lv (v := (.pointer (some ⟨o_17.g, 0, none⟩))) rfl rfl (r_assign rfl) ?_
      refine lv (v := (.pointer none)) rfl rfl (r_assign rfl) ?_
      refine lv (v := (.bool r_6.2.2)) rfl rfl (r_assign rfl) ?_
      refine lnil ?_
      refine wseq ?_
      refine wseq ?_
      refine wregion ?_
      refine lv (v := (.bool r_6.2.2)) rfl rfl (r_move rfl) ?_
      refine lv (v := (.bool (!r_6.2.2))) rfl rfl (r_not r_6.2.2 rfl) ?_
      refine lnil ?_
      refine wcond (!r_6.2.2) rfl (fun hb => ?_) (fun hb => ?_)
      · rw [if_pos hb] at hm
        clear hb
        refine wseq ?_
        refine wregion ?_
        refine lv (v := (.bool false)) rfl rfl (r_assign rfl) ?_
        refine lnil ?_
        refine wret ?_
        cases hm
        exact ⟨rfl, rfl, hst.below⟩
      · rw [if_neg (by rw [hb]; decide)] at hm
        clear hb
        refine wskip ?_
        refine wseq ?_
        refine wregion ?_
        refine lv (v := (.pointer (some ⟨o_17.g, 0, none⟩))) rfl rfl (r_move rfl) ?_
        refine l_lit (col := col_14) (r := (Rep.int .i64)) (xs := [0, 1, 2, 3, 4]) [(.int .i64 0), (.int .i64 1), (.int .i64 2), (.int .i64 3), (.int .i64 4)] 37 rfl Try.underlying22 el3_29 rfl rfl rfl rfl rfl rfl (by intro v hv; simp only [List.mem_cons, List.not_mem_nil, or_false] at hv; rcases hv with rfl | rfl | rfl | rfl | rfl <;> rfl) (RowsH.ofF (Rows.consF (r := (Rep.int .i64)) (x := 0) (cs := [(.int .i64 0)]) (rd_int .i64 0) (Rows.consF (r := (Rep.int .i64)) (x := 1) (cs := [(.int .i64 1)]) (rd_int .i64 1) (Rows.consF (r := (Rep.int .i64)) (x := 2) (cs := [(.int .i64 2)]) (rd_int .i64 2) (Rows.consF (r := (Rep.int .i64)) (x := 3) (cs := [(.int .i64 3)]) (rd_int .i64 3) (Rows.consF (r := (Rep.int .i64)) (x := 4) (cs := [(.int .i64 4)]) (rd_int .i64 4) Rows.nil0)))))) ?_
        intro a_373 w_374 col_375 hg_376 h_377
        replace hG_18 := hG_18.gr hg_376
        replace hst := hst.grow hg_376
        obtain ⟨r_378, hr_379, hm⟩ := bind_some hm
        refine lc rfl rfl (r_call2 Try.call32 rfl rfl) (c_order_Fill N 38 (frC 37 col_375) _ 2 (by decide) o_17 t_15 a_373 5 [0, 1, 2, 3, 4] (hG_18.froz 37 (by decide)) (h_377.toSlF (Froz.int .i64)) r_378 hr_379) ?_
        rintro _ w_383 ⟨col_385, ra_380, rc_381, rfl, hg_384, rh_382⟩
        refine ⟨_, rfl, ?_⟩
        replace rh_382 := rh_382.thaw (flat_int .i64) hg_384 ((Fz.refl (col := col_375)).froz 37) (by decide)
        replace hg_384 := hg_384.thawR (col := col_375)
        generalize colR w_374.heap.size col_375 col_385 = col_386 at *
        replace hG_18 := hG_18.gr hg_384
        replace h_377 := h_377.gr hg_384
        replace hst := hst.grow hg_384
        refine lv (v := (.tuple #[(.slice ra_380 r_378.1.length rc_381), (.int .i64 r_378.2)])) rfl rfl (r_move rfl) ?_
        refine lv (v := (.slice ra_380 r_378.1.length rc_381)) rfl rfl (r_extract rfl rfl) ?_
        refine lv (v := (.int .i64 r_378.2)) rfl rfl (r_extract rfl rfl) ?_
        refine lv (v := (.slice ra_380 r_378.1.length rc_381)) rfl rfl (r_assign rfl) ?_
        refine lv (v := (.int .i64 r_378.2)) rfl rfl (r_assign rfl) ?_
        refine lnil ?_
        refine wseq ?_
        refine wregion ?_
        refine lv (v := (.pointer (some ⟨o_17.g, 0, none⟩))) rfl rfl (r_move rfl) ?_
        refine l_lit (col := col_386) (r := (Rep.int .i64)) (xs := [3, 1]) [(.int .i64 3), (.int .i64 1)] 39 rfl Try.underlying22 el3_29 rfl rfl rfl rfl rfl rfl (by intro v hv; simp only [List.mem_cons, List.not_mem_nil, or_false] at hv; rcases hv with rfl | rfl <;> rfl) (RowsH.ofF (Rows.consF (r := (Rep.int .i64)) (x := 3) (cs := [(.int .i64 3)]) (rd_int .i64 3) (Rows.consF (r := (Rep.int .i64)) (x := 1) (cs := [(.int .i64 1)]) (rd_int .i64 1) Rows.nil0))) ?_
        intro a_387 w_388 col_389 hg_390 h_391
        replace hG_18 := hG_18.gr hg_390
        replace rh_382 := rh_382.gr hg_390
        replace hst := hst.grow hg_390
        obtain ⟨r_392, hr_393, hm⟩ := bind_some hm
        refine lc rfl rfl (r_call2 Try.call33 rfl rfl) (c_order_Degree N 40 (frC 39 col_389) _ 2 (by decide) o_17 t_15 a_387 2 [3, 1] (hG_18.froz 39 (by decide)) (h_391.toSlF (Froz.int .i64)) r_392 hr_393) ?_
        rintro _ w_397 ⟨col_399, ra_394, rc_395, rfl, hg_398, rh_396⟩
        refine ⟨_, rfl, ?_⟩
        replace rh_396 := rh_396.thaw (flat_int .i64) hg_398 ((Fz.refl (col := col_389)).froz 39) (by decide)
        replace hg_398 := hg_398.thawR (col := col_389)
        generalize colR w_388.heap.size col_389 col_399 = col_400 at *
        replace hG_18 := hG_18.gr hg_398
        replace rh_382 := rh_382.gr hg_398
        replace h_391 := h_391.gr hg_398
        replace hst := hst.grow hg_398
        refine lv (v := (.tuple #[(.slice ra_394 r_392.1.length rc_395), (.int .i64 r_392.2)])) rfl rfl (r_move rfl) ?_
        refine lv (v := (.slice ra_394 r_392.1.length rc_395)) rfl rfl (r_extract rfl rfl) ?_
        refine lv (v := (.int .i64 r_392.2)) rfl rfl (r_extract rfl rfl) ?_
        refine lv (v := (.slice ra_394 r_392.1.length rc_395)) rfl rfl (r_assign rfl) ?_
        refine lv (v := (.int .i64 r_392.2)) rfl rfl (r_assign rfl) ?_
        refine lnil ?_
        refine wseq ?_
        refine wregion ?_
        refine lv (v := (.pointer (some ⟨o_17.g, 0, none⟩))) rfl rfl (r_move rfl) ?_
        refine lv (v := (.slice ra_380 r_378.1.length rc_381)) rfl rfl (r_move rfl) ?_
        obtain ⟨r_401, hr_402, hm⟩ := bind_some hm
        refine lc rfl rfl (r_call2 Try.call40 rfl rfl) (c_order_Cliques N 41 (frC 38 col_400) _ 2 (by decide) o_17 t_15 ra_380 rc_381 r_378.1 (hG_18.froz 38 (by decide)) (rh_382.toSlF (Froz.int .i64)) r_401 hr_402) ?_
        rintro _ w_406 ⟨col_408, ra_403, rc_404, rfl, hg_407, rh_405⟩
        refine ⟨_, rfl, ?_⟩
        replace rh_405 := rh_405.thaw (flat_row (flat_int .i64)) hg_407 ((Fz.refl (col := col_400)).froz 38) (by decide)
        replace hg_407 := hg_407.thawR (col := col_400)
        generalize colR w_397.heap.size col_400 col_408 = col_409 at *
        replace hG_18 := hG_18.gr hg_407
        replace rh_382 := rh_382.gr hg_407
        replace rh_396 := rh_396.gr hg_407
        replace hst := hst.grow hg_407
        refine lv (v := (.tuple #[(.slice ra_403 r_401.1.length rc_404), (.int .i64 r_401.2)])) rfl rfl (r_move rfl) ?_
        refine lv (v := (.slice ra_403 r_401.1.length rc_404)) rfl rfl (r_extract rfl rfl) ?_
        refine lv (v := (.int .i64 r_401.2)) rfl rfl (r_extract rfl rfl) ?_
        refine lv (v := (.slice ra_403 r_401.1.length rc_404)) rfl rfl (r_assign rfl) ?_
        refine lv (v := (.int .i64 r_401.2)) rfl rfl (r_assign rfl) ?_
        refine lnil ?_
        refine wseq ?_
        refine wregion ?_
        refine lv (v := (.pointer (some ⟨o_17.g, 0, none⟩))) rfl rfl (r_move rfl) ?_
        refine lv (v := (.slice ra_380 r_378.1.length rc_381)) rfl rfl (r_move rfl) ?_
        obtain ⟨r_410, hr_411, hm⟩ := bind_some hm
        refine lc rfl rfl (r_call2 Try.call42 rfl rfl) (c_order_Width N (frC 38 col_409) _ 2 (by decide) o_17 t_15 ra_380 rc_381 r_378.1 (hG_18.froz 38 (by decide)) (rh_382.toSlF (Froz.int .i64)) r_410 hr_411) ?_
        rintro _ w_412 ⟨rfl, hg_413⟩
        refine ⟨_, rfl, ?_⟩
        replace hg_413 : Grow col_409 w_406 col_409 w_412 := .of_below hg_413
        replace rh_382 := rh_382.gr hg_413
        replace rh_396 := rh_396.gr hg_413
        replace rh_405 := rh_405.gr hg_413
        replace hG_18 := hG_18.gr hg_413
        replace hst := hst.grow hg_413
        refine lv (v := (.tuple #[(.int .i64 r_410.1), (.int .i64 r_410.2)])) rfl rfl (r_move rfl) ?_
        refine lv (v := (.int .i64 r_410.1)) rfl rfl (r_extract rfl rfl) ?_
        refine lv (v := (.int .i64 r_410.2)) rfl rfl (r_extract rfl rfl) ?_
        refine lv (v := (.int .i64 r_410.1)) rfl rfl (r_assign rfl) ?_
        refine lv (v := (.int .i64 r_410.2)) rfl rfl (r_assign rfl) ?_
        refine lnil ?_
        refine wseq ?_
        refine wregion ?_
        obtain ⟨r_414, hr_415, hm⟩ := bind_some hm
        refine lc rfl rfl (r_call2 Try.call32 rfl rfl) (c_order_Fill_v0n N 42 col_409 _ none 0 ([] : List Int) Sl.nil r_414 hr_415) ?_
        rintro _ w_419 ⟨col_421, ra_416, rc_417, rfl, hg_420, rh_418⟩
        refine ⟨_, rfl, ?_⟩
        replace rh_382 := rh_382.gr hg_420
        replace rh_396 := rh_396.gr hg_420
        replace rh_405 := rh_405.gr hg_420
        replace hst := hst.grow hg_420
        refine lv (v := (.tuple #[(.slice ra_416 r_414.1.length rc_417), (.int .i64 r_414.2)])) rfl rfl (r_move rfl) ?_
        refine lv (v := (.slice ra_416 r_414.1.length rc_417)) rfl rfl (r_extract rfl rfl) ?_
        refine lv (v := (.int .i64 r_414.2)) rfl rfl (r_extract rfl rfl) ?_
        refine lv (v := (.slice ra_416 r_414.1.length rc_417)) rfl rfl (r_assign rfl) ?_
        refine lv (v := (.int .i64 r_414.2)) rfl rfl (r_assign rfl) ?_
        refine lnil ?_
        refine wseq ?_
        refine Wp.cut (fun f w_481 => ∃ (col_482 : Col) (v_483 : Bool), m_credencelaw18_awake_J3 v_483 = some r ∧ St w0 (col0 col) col_482 w_481 ∧ f 0 = (.bool v_483) ∧ f 1000000 = (enc [])) ?_ ?_
        · intro f w_481 hJ
          obtain ⟨col_482, v_483, hm, hst, hs0, hs1000000⟩ := hJ
          rw [m_credencelaw18_awake_J3.eq_1] at hm
          refine .ld (d := 0) (v := (.bool v_483)) hs0 ?_
          refine .ld (d := 1000000) (v := (enc [])) hs1000000 ?_
          clear hs0 hs1000000
          refine wret ?_
          cases hm
          exact ⟨rfl, rfl, hst.below⟩
        · refine wregion ?_
          refine lv (v := (.int .i64 r_378.2)) rfl rfl (r_move rfl) ?_
          refine lv (v := (.bool (decide (r_378.2 = 0)))) rfl rfl (r_eql r_378.2 0 rfl rfl) ?_
          refine lv (v := (.bool (decide (r_378.2 = 0)))) rfl rfl (r_move rfl) ?_
          by_cases hg_484 : (decide (r_378.2 = 0)) = true
          · rw [if_pos hg_484] at hm
            refine lg (b := decide (r_378.2 = 0)) 53 rfl rfl rfl (by rw [hg_484]; rfl) ?_
            refine lv (v := (.int .i64 r_392.2)) rfl rfl (r_move rfl) ?_
            refine lg (b := decide (r_378.2 = 0)) 53 rfl rfl rfl (by rw [hg_484]; rfl) ?_
            refine lv (v := (.bool (decide (r_392.2 = 0)))) rfl rfl (r_eql r_392.2 0 rfl rfl) ?_
            refine lv (v := (.bool (decide (r_392.2 = 0)))) rfl rfl (r_pickT (congrArg Value.bool hg_484) rfl) ?_
            refine lv (v := (.bool (decide (r_392.2 = 0)))) rfl rfl (r_move rfl) ?_
            by_cases hg_485 : (decide (r_392.2 = 0)) = true
            · rw [if_pos hg_485] at hm
              refine lg (b := decide (r_392.2 = 0)) 57 rfl rfl rfl (by rw [hg_485]; rfl) ?_
              refine lv (v := (.int .i64 r_401.2)) rfl rfl (r_move rfl) ?_
              refine lg (b := decide (r_392.2 = 0)) 57 rfl rfl rfl (by rw [hg_485]; rfl) ?_
              refine lv (v := (.bool (decide (r_401.2 = 0)))) rfl rfl (r_eql r_401.2 0 rfl rfl) ?_
              refine lv (v := (.bool (decide (r_401.2 = 0)))) rfl rfl (r_pickT (congrArg Value.bool hg_485) rfl) ?_
              refine lv (v := (.bool (decide (r_401.2 = 0)))) rfl rfl (r_move rfl) ?_
              by_cases hg_486 : (decide (r_401.2 = 0)) = true
              · rw [if_pos hg_486] at hm
                refine lg (b := decide (r_401.2 = 0)) 61 rfl rfl rfl (by rw [hg_486]; rfl) ?_
                refine lv (v := (.int .i64 r_410.2)) rfl rfl (r_move rfl) ?_
                refine lg (b := decide (r_401.2 = 0)) 61 rfl rfl rfl (by rw [hg_486]; rfl) ?_
                refine lv (v := (.bool (decide (r_410.2 = 0)))) rfl rfl (r_eql r_410.2 0 rfl rfl) ?_
                refine lv (v := (.bool (decide (r_410.2 = 0)))) rfl rfl (r_pickT (congrArg Value.bool hg_486) rfl) ?_
                refine lv (v := (.bool (decide (r_410.2 = 0)))) rfl rfl (r_move rfl) ?_
                by_cases hg_487 : (decide (r_410.2 = 0)) = true
                · rw [if_pos hg_487] at hm
                  refine lg (b := decide (r_410.2 = 0)) 65 rfl rfl rfl (by rw [hg_487]; rfl) ?_
                  refine lv (v := (.slice ra_380 r_378.1.length rc_381)) rfl rfl (r_move rfl) ?_
                  refine lg (b := decide (r_410.2 = 0)) 65 rfl rfl rfl (by rw [hg_487]; rfl) ?_
                  refine l_lit (col := col_421) (r := (Rep.int .i64)) (xs := [4, 0, 1, 2, 3]) [(.int .i64 4), (.int .i64 0), (.int .i64 1), (.int .i64 2), (.int .i64 3)] 48 rfl Try.underlying22 el3_29 rfl rfl rfl rfl rfl rfl (by intro v hv; simp only [List.mem_cons, List.not_mem_nil, or_false] at hv; rcases hv with rfl | rfl | rfl | rfl | rfl <;> rfl) (RowsH.ofF (Rows.consF (r := (Rep.int .i64)) (x := 4) (cs := [(.int .i64 4)]) (rd_int .i64 4) (Rows.consF (r := (Rep.int .i64)) (x := 0) (cs := [(.int .i64 0)]) (rd_int .i64 0) (Rows.consF (r := (Rep.int .i64)) (x := 1) (cs := [(.int .i64 1)]) (rd_int .i64 1) (Rows.consF (r := (Rep.int .i64)) (x := 2) (cs := [(.int .i64 2)]) (rd_int .i64 2) (Rows.consF (r := (Rep.int .i64)) (x := 3) (cs := [(.int .i64 3)]) (rd_int .i64 3) Rows.nil0)))))) ?_
                  intro a_488 w_489 col_490 hg_491 h_492
                  replace rh_396 := rh_396.gr hg_491
                  replace rh_405 := rh_405.gr hg_491
                  replace rh_382 := rh_382.gr hg_491
                  replace hst := hst.grow hg_491
                  refine lg (b := decide (r_410.2 = 0)) 65 rfl rfl rfl (by rw [hg_487]; rfl) ?_
                  obtain ⟨r_493, hr_494, hm⟩ := bind_some hm
                  refine lc rfl rfl (r_call2 Try.call36 rfl rfl) (c_credenceref15_Ints N (frC 48 (frC 38 col_490)) _ ra_380 rc_381 r_378.1 a_488 5 [4, 0, 1, 2, 3] ((rh_382.toSlF (Froz.int .i64)).froz 48) ((h_492.froz 38 (by decide)).toSlF (Froz.int .i64)) r_493 hr_494) ?_
                  rintro _ w_495 ⟨rfl, hg_496⟩
                  refine ⟨_, rfl, ?_⟩
                  replace hg_496 : Grow col_490 w_489 col_490 w_495 := .of_below hg_496
                  replace rh_396 := rh_396.gr hg_496
                  replace rh_405 := rh_405.gr hg_496
                  replace rh_382 := rh_382.gr hg_496
                  replace h_492 := h_492.gr hg_496
                  replace hst := hst.grow hg_496
                  refine lv (v := (.bool r_493)) rfl rfl (r_pickT (congrArg Value.bool hg_487) rfl) ?_
                  refine lv (v := (.bool r_493)) rfl rfl (r_move rfl) ?_
                  by_cases hg_497 : r_493 = true
                  · rw [if_pos hg_497] at hm
                    refine lg (b := r_493) 70 rfl rfl rfl (by rw [hg_497]; rfl) ?_
                    refine lv (v := (.slice ra_394 r_392.1.length rc_395)) rfl rfl (r_move rfl) ?_
                    refine lg (b := r_493) 70 rfl rfl rfl (by rw [hg_497]; rfl) ?_
                    refine l_lit (col := col_490) (r := (Rep.int .i64)) (xs := [1, 3]) [(.int .i64 1), (.int .i64 3)] 49 rfl Try.underlying22 el3_29 rfl rfl rfl rfl rfl rfl (by intro v hv; simp only [List.mem_cons, List.not_mem_nil, or_false] at hv; rcases hv with rfl | rfl <;> rfl) (RowsH.ofF (Rows.consF (r := (Rep.int .i64)) (x := 1) (cs := [(.int .i64 1)]) (rd_int .i64 1) (Rows.consF (r := (Rep.int .i64)) (x := 3) (cs := [(.int .i64 3)]) (rd_int .i64 3) Rows.nil0))) ?_
                    intro a_498 w_499 col_500 hg_501 h_502
                    replace rh_405 := rh_405.gr hg_501
                    replace rh_396 := rh_396.gr hg_501
                    replace hst := hst.grow hg_501
                    refine lg (b := r_493) 70 rfl rfl rfl (by rw [hg_497]; rfl) ?_
                    obtain ⟨r_503, hr_504, hm⟩ := bind_some hm
                    refine lc rfl rfl (r_call2 Try.call36 rfl rfl) (c_credenceref15_Ints N (frC 49 (frC 40 col_500)) _ ra_394 rc_395 r_392.1 a_498 2 [1, 3] ((rh_396.toSlF (Froz.int .i64)).froz 49) ((h_502.froz 40 (by decide)).toSlF (Froz.int .i64)) r_503 hr_504) ?_
                    rintro _ w_505 ⟨rfl, hg_506⟩
                    refine ⟨_, rfl, ?_⟩
                    replace hg_506 : Grow col_500 w_499 col_500 w_505 := .of_below hg_506
                    replace rh_405 := rh_405.gr hg_506
                    replace rh_396 := rh_396.gr hg_506
                    replace h_502 := h_502.gr hg_506
                    replace hst := hst.grow hg_506
                    refine lv (v := (.bool r_503)) rfl rfl (r_pickT (congrArg Value.bool hg_497) rfl) ?_
                    refine lv (v := (.bool r_503)) rfl rfl (r_move rfl) ?_
                    by_cases hg_507 : r_503 = true
                    · rw [if_pos hg_507] at hm
                      refine lg (b := r_503) 75 rfl rfl rfl (by rw [hg_507]; rfl) ?_
                      refine lv (v := (.slice ra_403 r_401.1.length rc_404)) rfl rfl (r_move rfl) ?_
                      refine lg (b := r_503) 75 rfl rfl rfl (by rw [hg_507]; rfl) ?_
                      refine lv (v := (.int .i64 (r_401.1.length : Int))) rfl rfl (r_len Try.underlying33 rfl) ?_
                      refine lg (b := r_503) 75 rfl rfl rfl (by rw [hg_507]; rfl) ?_
                      refine lv (v := (.bool (decide ((r_401.1.length : Int) = 5)))) rfl rfl (r_eql (r_401.1.length : Int) 5 rfl rfl) ?_
                      refine lv (v := (.bool (decide ((r_401.1.length : Int) = 5)))) rfl rfl (r_pickT (congrArg Value.bool hg_507) rfl) ?_
                      refine lv (v := (.bool (decide ((r_401.1.length : Int) = 5)))) rfl rfl (r_move rfl) ?_
                      by_cases hg_508 : (decide ((r_401.1.length : Int) = 5)) = true
                      · rw [if_pos hg_508] at hm
                        refine lg (b := decide ((r_401.1.length : Int) = 5)) 80 rfl rfl rfl (by rw [hg_508]; rfl) ?_
                        refine lv (v := (.slice ra_403 r_401.1.length rc_404)) rfl rfl (r_move rfl) ?_
                        refine lg (b := decide ((r_401.1.length : Int) = 5)) 80 rfl rfl rfl (by rw [hg_508]; rfl) ?_
                        obtain ⟨e_509, hj_510, hm⟩ := bind_some hm
                        refine lv (v := (sptr ra_403 (Int.toNat 1 * 1))) rfl rfl (r_idx Try.underlying33 Try.sizeOf22 rfl rfl (at?_some hj_510).1 (at?_some hj_510).2.1 (rh_405.addr hj_510)) ?_
                        refine lg (b := decide ((r_401.1.length : Int) = 5)) 80 rfl rfl rfl (by rw [hg_508]; rfl) ?_
                        obtain ⟨_, hr_511, hA_512⟩ := rh_405.atN hj_510
                        obtain ⟨a_513, cap_514, rfl, h_515⟩ := hr_511.row
                        refine lv (v := (.slice a_513 e_509.length cap_514)) rfl rfl (r_ld Try.isAgg22 rfl hA_512.one) ?_
                        refine lg (b := decide ((r_401.1.length : Int) = 5)) 80 rfl rfl rfl (by rw [hg_508]; rfl) ?_
                        refine lv (v := (.int .i64 (e_509.length : Int))) rfl rfl (r_len Try.underlying22 rfl) ?_
                        refine lg (b := decide ((r_401.1.length : Int) = 5)) 80 rfl rfl rfl (by rw [hg_508]; rfl) ?_
                        refine lv (v := (.bool (decide ((e_509.length : Int) = 3)))) rfl rfl (r_eql (e_509.length : Int) 3 rfl rfl) ?_
                        refine lv (v := (.bool (decide ((e_509.length : Int) = 3)))) rfl rfl (r_pickT (congrArg Value.bool hg_508) rfl) ?_
                        refine lv (v := (.bool (decide ((e_509.length : Int) = 3)))) rfl rfl (r_move rfl) ?_
                        by_cases hg_516 : (decide ((e_509.length : Int) = 3)) = true
                        · rw [if_pos hg_516] at hm
                          refine lg (b := decide ((e_509.length : Int) = 3)) 87 rfl rfl rfl (by rw [hg_516]; rfl) ?_
                          refine lv (v := (.int .i64 r_410.1)) rfl rfl (r_move rfl) ?_
                          refine lg (b := decide ((e_509.length : Int) = 3)) 87 rfl rfl rfl (by rw [hg_516]; rfl) ?_
                          refine lv (v := (.bool (decide (r_410.1 = 2)))) rfl rfl (r_eql r_410.1 2 rfl rfl) ?_
                          refine lv (v := (.bool (decide (r_410.1 = 2)))) rfl rfl (r_pickT (congrArg Value.bool hg_516) rfl) ?_
                          refine lv (v := (.bool (decide (r_410.1 = 2)))) rfl rfl (r_move rfl) ?_
                          by_cases hg_517 : (decide (r_410.1 = 2)) = true
                          · rw [if_pos hg_517] at hm
                            refine lg (b := decide (r_410.1 = 2)) 91 rfl rfl rfl (by rw [hg_517]; rfl) ?_
                            refine lv (v := (.int .i64 r_414.2)) rfl rfl (r_move rfl) ?_
                            refine lg (b := decide (r_410.1 = 2)) 91 rfl rfl rfl (by rw [hg_517]; rfl) ?_
                            refine lv (v := (.bool (decide (r_414.2 = 2)))) rfl rfl (r_eql r_414.2 2 rfl rfl) ?_
                            refine lv (v := (.bool (decide (r_414.2 = 2)))) rfl rfl (r_pickT (congrArg Value.bool hg_517) rfl) ?_
                            refine lv (v := (.bool (decide (r_414.2 = 2)))) rfl rfl (r_move rfl) ?_
                            by_cases hg_518 : (decide (r_414.2 = 2)) = true
                            · rw [if_pos hg_518] at hm
                              refine lg (b := decide (r_414.2 = 2)) 95 rfl rfl rfl (by rw [hg_518]; rfl) ?_
                              refine l_lit (col := col_500) (r := (Rep.int .i64)) (xs := [2, 0, 1]) [(.int .i64 2), (.int .i64 0), (.int .i64 1)] 50 rfl Try.underlying22 el3_29 rfl rfl rfl rfl rfl rfl (by intro v hv; simp only [List.mem_cons, List.not_mem_nil, or_false] at hv; rcases hv with rfl | rfl | rfl <;> rfl) (RowsH.ofF (Rows.consF (r := (Rep.int .i64)) (x := 2) (cs := [(.int .i64 2)]) (rd_int .i64 2) (Rows.consF (r := (Rep.int .i64)) (x := 0) (cs := [(.int .i64 0)]) (rd_int .i64 0) (Rows.consF (r := (Rep.int .i64)) (x := 1) (cs := [(.int .i64 1)]) (rd_int .i64 1) Rows.nil0)))) ?_
                              intro a_519 w_520 col_521 hg_522 h_523
                              replace hst := hst.grow hg_522
                              refine lg (b := decide (r_414.2 = 2)) 95 rfl rfl rfl (by rw [hg_518]; rfl) ?_
                              refine l_lit (col := col_521) (r := (Rep.int .i64)) (xs := [0, 1, 2]) [(.int .i64 0), (.int .i64 1), (.int .i64 2)] 51 rfl Try.underlying22 el3_29 rfl rfl rfl rfl rfl rfl (by intro v hv; simp only [List.mem_cons, List.not_mem_nil, or_false] at hv; rcases hv with rfl | rfl | rfl <;> rfl) (RowsH.ofF (Rows.consF (r := (Rep.int .i64)) (x := 0) (cs := [(.int .i64 0)]) (rd_int .i64 0) (Rows.consF (r := (Rep.int .i64)) (x := 1) (cs := [(.int .i64 1)]) (rd_int .i64 1) (Rows.consF (r := (Rep.int .i64)) (x := 2) (cs := [(.int .i64 2)]) (rd_int .i64 2) Rows.nil0)))) ?_
                              intro a_524 w_525 col_526 hg_527 h_528
                              replace h_523 := h_523.gr hg_527
                              replace hst := hst.grow hg_527
                              refine lg (b := decide (r_414.2 = 2)) 95 rfl rfl rfl (by rw [hg_518]; rfl) ?_
                              obtain ⟨r_529, hr_530, hm⟩ := bind_some hm
                              refine lc rfl rfl (r_call2 Try.call45 rfl rfl) (c_order_Check (frC 51 (frC 50 col_526)) _ a_519 3 [2, 0, 1] a_524 3 [0, 1, 2] ((h_523.toSlF (Froz.int .i64)).froz 51) ((h_528.froz 50 (by decide)).toSlF (Froz.int .i64)) r_529 hr_530) ?_
                              rintro _ w_531 ⟨rfl, hg_532⟩
                              refine ⟨_, rfl, ?_⟩
                              replace hg_532 : Grow col_526 w_525 col_526 w_531 := .of_below hg_532
                              replace h_523 := h_523.gr hg_532
                              replace h_528 := h_528.gr hg_532
                              replace hst := hst.grow hg_532
                              refine lg (b := decide (r_414.2 = 2)) 95 rfl rfl rfl (by rw [hg_518]; rfl) ?_
                              refine lv (v := (.bool (decide (r_529 = 0)))) rfl rfl (r_eql r_529 0 rfl rfl) ?_
                              refine lv (v := (.bool (decide (r_529 = 0)))) rfl rfl (r_pickT (congrArg Value.bool hg_518) rfl) ?_
                              refine lv (v := (.bool (decide (r_529 = 0)))) rfl rfl (r_move rfl) ?_
                              by_cases hg_533 : (decide (r_529 = 0)) = true
                              · rw [if_pos hg_533] at hm
                                refine lg (b := decide (r_529 = 0)) 101 rfl rfl rfl (by rw [hg_533]; rfl) ?_
                                refine l_lit (col := col_526) (r := (Rep.int .i64)) (xs := [0]) [(.int .i64 0)] 52 rfl Try.underlying22 el3_29 rfl rfl rfl rfl rfl rfl (by intro v hv; simp only [List.mem_cons, List.not_mem_nil, or_false] at hv; subst hv; rfl) (RowsH.ofF (Rows.consF (r := (Rep.int .i64)) (x := 0) (cs := [(.int .i64 0)]) (rd_int .i64 0) Rows.nil0)) ?_
                                intro a_534 w_535 col_536 hg_537 h_538
                                replace hst := hst.grow hg_537
                                refine lg (b := decide (r_529 = 0)) 101 rfl rfl rfl (by rw [hg_533]; rfl) ?_
                                obtain ⟨r_539, hr_540, hm⟩ := bind_some hm
                                refine lc rfl rfl (r_call2 Try.call45 rfl rfl) (c_order_Check (frC 52 col_536) _ a_534 1 [0] none 0 ([] : List Int) (h_538.toSlF (Froz.int .i64)) Sl.nil r_539 hr_540) ?_
                                rintro _ w_541 ⟨rfl, hg_542⟩
                                refine ⟨_, rfl, ?_⟩
                                replace hg_542 : Grow col_536 w_535 col_536 w_541 := .of_below hg_542
                                replace h_538 := h_538.gr hg_542
                                replace hst := hst.grow hg_542
                                refine lg (b := decide (r_529 = 0)) 101 rfl rfl rfl (by rw [hg_533]; rfl) ?_
                                refine lv (v := (.bool (decide (r_539 = 51)))) rfl rfl (r_eql r_539 51 rfl rfl) ?_
                                refine lv (v := (.bool (decide (r_539 = 51)))) rfl rfl (r_pickT (congrArg Value.bool hg_533) rfl) ?_
                                refine lv (v := (.bool (decide (r_539 = 51)))) rfl rfl (r_assign rfl) ?_
                                refine lnil ?_
                                exact ⟨col_536, (decide (r_539 = 51)), hm, hst, rfl, rfl⟩
                              · rw [if_neg hg_533] at hm
                                replace hg_533 := Bool.eq_false_iff.2 hg_533
                                refine lp (b := decide (r_529 = 0)) 101 rfl rfl rfl rfl (by rw [hg_533]; rfl) ?_
                                refine lp (b := decide (r_529 = 0)) 101 rfl rfl rfl rfl (by rw [hg_533]; rfl) ?_
                                refine lp (b := decide (r_529 = 0)) 101 rfl rfl rfl rfl (by rw [hg_533]; rfl) ?_
                                refine lv (v := (.bool false)) rfl rfl (r_pickF (congrArg Value.bool hg_533) rfl) ?_
                                refine lv (v := (.bool false)) rfl rfl (r_assign rfl) ?_
                                refine lnil ?_
                                exact ⟨col_526, false, hm, hst, rfl, rfl⟩
                            · rw [if_neg hg_518] at hm
                              replace hg_518 := Bool.eq_false_iff.2 hg_518
                              refine lp (b := decide (r_414.2 = 2)) 95 rfl rfl rfl rfl (by rw [hg_518]; rfl) ?_
                              refine lp (b := decide (r_414.2 = 2)) 95 rfl rfl rfl rfl (by rw [hg_518]; rfl) ?_
                              refine lp (b := decide (r_414.2 = 2)) 95 rfl rfl rfl rfl (by rw [hg_518]; rfl) ?_
                              refine lp (b := decide (r_414.2 = 2)) 95 rfl rfl rfl rfl (by rw [hg_518]; rfl) ?_
                              refine lv (v := (.bool false)) rfl rfl (r_pickF (congrArg Value.bool hg_518) rfl) ?_
                              refine lv (v := (.bool false)) rfl rfl (r_move rfl) ?_
                              refine lp (b := false) 101 rfl rfl rfl rfl rfl ?_
                              refine lp (b := false) 101 rfl rfl rfl rfl rfl ?_
                              refine lp (b := false) 101 rfl rfl rfl rfl rfl ?_
                              refine lv (v := (.bool false)) rfl rfl (r_pickF rfl rfl) ?_
                              refine lv (v := (.bool false)) rfl rfl (r_assign rfl) ?_
                              refine lnil ?_
                              exact ⟨col_500, false, hm, hst, rfl, rfl⟩
                          · rw [if_neg hg_517] at hm
                            replace hg_517 := Bool.eq_false_iff.2 hg_517
                            refine lp (b := decide (r_410.1 = 2)) 91 rfl rfl rfl rfl (by rw [hg_517]; rfl) ?_
                            refine lp (b := decide (r_410.1 = 2)) 91 rfl rfl rfl rfl (by rw [hg_517]; rfl) ?_
                            refine lv (v := (.bool false)) rfl rfl (r_pickF (congrArg Value.bool hg_517) rfl) ?_
                            refine lv (v := (.bool false)) rfl rfl (r_move rfl) ?_
                            refine lp (b := false) 95 rfl rfl rfl rfl rfl ?_
                            refine lp (b := false) 95 rfl rfl rfl rfl rfl ?_
                            refine lp (b := false) 95 rfl rfl rfl rfl rfl ?_
                            refine lp (b := false) 95 rfl rfl rfl rfl rfl ?_
                            refine lv (v := (.bool false)) rfl rfl (r_pickF rfl rfl) ?_
                            refine lv (v := (.bool false)) rfl rfl (r_move rfl) ?_
                            refine lp (b := false) 101 rfl rfl rfl rfl rfl ?_
                            refine lp (b := false) 101 rfl rfl rfl rfl rfl ?_
                            refine lp (b := false) 101 rfl rfl rfl rfl rfl ?_
                            refine lv (v := (.bool false)) rfl rfl (r_pickF rfl rfl) ?_
                            refine lv (v := (.bool false)) rfl rfl (r_assign rfl) ?_
                            refine lnil ?_
                            exact ⟨col_500, false, hm, hst, rfl, rfl⟩
                        · rw [if_neg hg_516] at hm
                          replace hg_516 := Bool.eq_false_iff.2 hg_516
                          refine lp (b := decide ((e_509.length : Int) = 3)) 87 rfl rfl rfl rfl (by rw [hg_516]; rfl) ?_
                          refine lp (b := decide ((e_509.length : Int) = 3)) 87 rfl rfl rfl rfl (by rw [hg_516]; rfl) ?_
                          refine lv (v := (.bool false)) rfl rfl (r_pickF (congrArg Value.bool hg_516) rfl) ?_
                          refine lv (v := (.bool false)) rfl rfl (r_move rfl) ?_
                          refine lp (b := false) 91 rfl rfl rfl rfl rfl ?_
                          refine lp (b := false) 91 rfl rfl rfl rfl rfl ?_
                          refine lv (v := (.bool false)) rfl rfl (r_pickF rfl rfl) ?_
                          refine lv (v := (.bool false)) rfl rfl (r_move rfl) ?_
                          refine lp (b := false) 95 rfl rfl rfl rfl rfl ?_
                          refine lp (b := false) 95 rfl rfl rfl rfl rfl ?_
                          refine lp (b := false) 95 rfl rfl rfl rfl rfl ?_
                          refine lp (b := false) 95 rfl rfl rfl rfl rfl ?_
                          refine lv (v := (.bool false)) rfl rfl (r_pickF rfl rfl) ?_
                          refine lv (v := (.bool false)) rfl rfl (r_move rfl) ?_
                          refine lp (b := false) 101 rfl rfl rfl rfl rfl ?_
                          refine lp (b := false) 101 rfl rfl rfl rfl rfl ?_
                          refine lp (b := false) 101 rfl rfl rfl rfl rfl ?_
                          refine lv (v := (.bool false)) rfl rfl (r_pickF rfl rfl) ?_
                          refine lv (v := (.bool false)) rfl rfl (r_assign rfl) ?_
                          refine lnil ?_
                          exact ⟨col_500, false, hm, hst, rfl, rfl⟩
                      · rw [if_neg hg_508] at hm
                        replace hg_508 := Bool.eq_false_iff.2 hg_508
                        refine lp (b := decide ((r_401.1.length : Int) = 5)) 80 rfl rfl rfl rfl (by rw [hg_508]; rfl) ?_
                        refine lp (b := decide ((r_401.1.length : Int) = 5)) 80 rfl rfl rfl rfl (by rw [hg_508]; rfl) ?_
                        refine lp (b := decide ((r_401.1.length : Int) = 5)) 80 rfl rfl rfl rfl (by rw [hg_508]; rfl) ?_
                        refine lp (b := decide ((r_401.1.length : Int) = 5)) 80 rfl rfl rfl rfl (by rw [hg_508]; rfl) ?_
                        refine lp (b := decide ((r_401.1.length : Int) = 5)) 80 rfl rfl rfl rfl (by rw [hg_508]; rfl) ?_
                        refine lv (v := (.bool false)) rfl rfl (r_pickF (congrArg Value.bool hg_508) rfl) ?_
                        refine lv (v := (.bool false)) rfl rfl (r_move rfl) ?_
                        refine lp (b := false) 87 rfl rfl rfl rfl rfl ?_
                        refine lp (b := false) 87 rfl rfl rfl rfl rfl ?_
                        refine lv (v := (.bool false)) rfl rfl (r_pickF rfl rfl) ?_
                        refine lv (v := (.bool false)) rfl rfl (r_move rfl) ?_
                        refine lp (b := false) 91 rfl rfl rfl rfl rfl ?_
                        refine lp (b := false) 91 rfl rfl rfl rfl rfl ?_
                        refine lv (v := (.bool false)) rfl rfl (r_pickF rfl rfl) ?_
                        refine lv (v := (.bool false)) rfl rfl (r_move rfl) ?_
                        refine lp (b := false) 95 rfl rfl rfl rfl rfl ?_
                        refine lp (b := false) 95 rfl rfl rfl rfl rfl ?_
                        refine lp (b := false) 95 rfl rfl rfl rfl rfl ?_
                        refine lp (b := false) 95 rfl rfl rfl rfl rfl ?_
                        refine lv (v := (.bool false)) rfl rfl (r_pickF rfl rfl) ?_
                        refine lv (v := (.bool false)) rfl rfl (r_move rfl) ?_
                        refine lp (b := false) 101 rfl rfl rfl rfl rfl ?_
                        refine lp (b := false) 101 rfl rfl rfl rfl rfl ?_
                        refine lp (b := false) 101 rfl rfl rfl rfl rfl ?_
                        refine lv (v := (.bool false)) rfl rfl (r_pickF rfl rfl) ?_
                        refine lv (v := (.bool false)) rfl rfl (r_assign rfl) ?_
                        refine lnil ?_
                        exact ⟨col_500, false, hm, hst, rfl, rfl⟩
                    · rw [if_neg hg_507] at hm
                      replace hg_507 := Bool.eq_false_iff.2 hg_507
                      refine lp (b := r_503) 75 rfl rfl rfl rfl (by rw [hg_507]; rfl) ?_
                      refine lp (b := r_503) 75 rfl rfl rfl rfl (by rw [hg_507]; rfl) ?_
                      refine lp (b := r_503) 75 rfl rfl rfl rfl (by rw [hg_507]; rfl) ?_
                      refine lv (v := (.bool false)) rfl rfl (r_pickF (congrArg Value.bool hg_507) rfl) ?_
                      refine lv (v := (.bool false)) rfl rfl (r_move rfl) ?_
                      refine lp (b := false) 80 rfl rfl rfl rfl rfl ?_
                      refine lp (b := false) 80 rfl rfl rfl rfl rfl ?_
                      refine lp (b := false) 80 rfl rfl rfl rfl rfl ?_
                      refine lp (b := false) 80 rfl rfl rfl rfl rfl ?_
                      refine lp (b := false) 80 rfl rfl rfl rfl rfl ?_
                      refine lv (v := (.bool false)) rfl rfl (r_pickF rfl rfl) ?_
                      refine lv (v := (.bool false)) rfl rfl (r_move rfl) ?_
                      refine lp (b := false) 87 rfl rfl rfl rfl rfl ?_
                      refine lp (b := false) 87 rfl rfl rfl rfl rfl ?_
                      refine lv (v := (.bool false)) rfl rfl (r_pickF rfl rfl) ?_
                      refine lv (v := (.bool false)) rfl rfl (r_move rfl) ?_
                      refine lp (b := false) 91 rfl rfl rfl rfl rfl ?_
                      refine lp (b := false) 91 rfl rfl rfl rfl rfl ?_
                      refine lv (v := (.bool false)) rfl rfl (r_pickF rfl rfl) ?_
                      refine lv (v := (.bool false)) rfl rfl (r_move rfl) ?_
                      refine lp (b := false) 95 rfl rfl rfl rfl rfl ?_
                      refine lp (b := false) 95 rfl rfl rfl rfl rfl ?_
                      refine lp (b := false) 95 rfl rfl rfl rfl rfl ?_
                      refine lp (b := false) 95 rfl rfl rfl rfl rfl ?_
                      refine lv (v := (.bool false)) rfl rfl (r_pickF rfl rfl) ?_
                      refine lv (v := (.bool false)) rfl rfl (r_move rfl) ?_
                      refine lp (b := false) 101 rfl rfl rfl rfl rfl ?_
                      refine lp (b := false) 101 rfl rfl rfl rfl rfl ?_
                      refine lp (b := false) 101 rfl rfl rfl rfl rfl ?_
                      refine lv (v := (.bool false)) rfl rfl (r_pickF rfl rfl) ?_
                      refine lv (v := (.bool false)) rfl rfl (r_assign rfl) ?_
                      refine lnil ?_
                      exact ⟨col_500, false, hm, hst, rfl, rfl⟩
                  · rw [if_neg hg_497] at hm
                    replace hg_497 := Bool.eq_false_iff.2 hg_497
                    refine lp (b := r_493) 70 rfl rfl rfl rfl (by rw [hg_497]; rfl) ?_
                    refine lp (b := r_493) 70 rfl rfl rfl rfl (by rw [hg_497]; rfl) ?_
                    refine lp (b := r_493) 70 rfl rfl rfl rfl (by rw [hg_497]; rfl) ?_
                    refine lv (v := (.bool false)) rfl rfl (r_pickF (congrArg Value.bool hg_497) rfl) ?_
                    refine lv (v := (.bool false)) rfl rfl (r_move rfl) ?_
                    refine lp (b := false) 75 rfl rfl rfl rfl rfl ?_
                    refine lp (b := false) 75 rfl rfl rfl rfl rfl ?_
                    refine lp (b := false) 75 rfl rfl rfl rfl rfl ?_
                    refine lv (v := (.bool false)) rfl rfl (r_pickF rfl rfl) ?_
                    refine lv (v := (.bool false)) rfl rfl (r_move rfl) ?_
                    refine lp (b := false) 80 rfl rfl rfl rfl rfl ?_
                    refine lp (b := false) 80 rfl rfl rfl rfl rfl ?_
                    refine lp (b := false) 80 rfl rfl rfl rfl rfl ?_
                    refine lp (b := false) 80 rfl rfl rfl rfl rfl ?_
                    refine lp (b := false) 80 rfl rfl rfl rfl rfl ?_
                    refine lv (v := (.bool false)) rfl rfl (r_pickF rfl rfl) ?_
                    refine lv (v := (.bool false)) rfl rfl (r_move rfl) ?_
                    refine lp (b := false) 87 rfl rfl rfl rfl rfl ?_
                    refine lp (b := false) 87 rfl rfl rfl rfl rfl ?_
                    refine lv (v := (.bool false)) rfl rfl (r_pickF rfl rfl) ?_
                    refine lv (v := (.bool false)) rfl rfl (r_move rfl) ?_
                    refine lp (b := false) 91 rfl rfl rfl rfl rfl ?_
                    refine lp (b := false) 91 rfl rfl rfl rfl rfl ?_
                    refine lv (v := (.bool false)) rfl rfl (r_pickF rfl rfl) ?_
                    refine lv (v := (.bool false)) rfl rfl (r_move rfl) ?_
                    refine lp (b := false) 95 rfl rfl rfl rfl rfl ?_
                    refine lp (b := false) 95 rfl rfl rfl rfl rfl ?_
                    refine lp (b := false) 95 rfl rfl rfl rfl rfl ?_
                    refine lp (b := false) 95 rfl rfl rfl rfl rfl ?_
                    refine lv (v := (.bool false)) rfl rfl (r_pickF rfl rfl) ?_
                    refine lv (v := (.bool false)) rfl rfl (r_move rfl) ?_
                    refine lp (b := false) 101 rfl rfl rfl rfl rfl ?_
                    refine lp (b := false) 101 rfl rfl rfl rfl rfl ?_
                    refine lp (b := false) 101 rfl rfl rfl rfl rfl ?_
                    refine lv (v := (.bool false)) rfl rfl (r_pickF rfl rfl) ?_
                    refine lv (v := (.bool false)) rfl rfl (r_assign rfl) ?_
                    refine lnil ?_
                    exact ⟨col_490, false, hm, hst, rfl, rfl⟩
                · rw [if_neg hg_487] at hm
                  replace hg_487 := Bool.eq_false_iff.2 hg_487
                  refine lp (b := decide (r_410.2 = 0)) 65 rfl rfl rfl rfl (by rw [hg_487]; rfl) ?_
                  refine lp (b := decide (r_410.2 = 0)) 65 rfl rfl rfl rfl (by rw [hg_487]; rfl) ?_
                  refine lp (b := decide (r_410.2 = 0)) 65 rfl rfl rfl rfl (by rw [hg_487]; rfl) ?_
                  refine lv (v := (.bool false)) rfl rfl (r_pickF (congrArg Value.bool hg_487) rfl) ?_
                  refine lv (v := (.bool false)) rfl rfl (r_move rfl) ?_
                  refine lp (b := false) 70 rfl rfl rfl rfl rfl ?_
                  refine lp (b := false) 70 rfl rfl rfl rfl rfl ?_
                  refine lp (b := false) 70 rfl rfl rfl rfl rfl ?_
                  refine lv (v := (.bool false)) rfl rfl (r_pickF rfl rfl) ?_
                  refine lv (v := (.bool false)) rfl rfl (r_move rfl) ?_
                  refine lp (b := false) 75 rfl rfl rfl rfl rfl ?_
                  refine lp (b := false) 75 rfl rfl rfl rfl rfl ?_
                  refine lp (b := false) 75 rfl rfl rfl rfl rfl ?_
                  refine lv (v := (.bool false)) rfl rfl (r_pickF rfl rfl) ?_
                  refine lv (v := (.bool false)) rfl rfl (r_move rfl) ?_
                  refine lp (b := false) 80 rfl rfl rfl rfl rfl ?_
                  refine lp (b := false) 80 rfl rfl rfl rfl rfl ?_
                  refine lp (b := false) 80 rfl rfl rfl rfl rfl ?_
                  refine lp (b := false) 80 rfl rfl rfl rfl rfl ?_
                  refine lp (b := false) 80 rfl rfl rfl rfl rfl ?_
                  refine lv (v := (.bool false)) rfl rfl (r_pickF rfl rfl) ?_
                  refine lv (v := (.bool false)) rfl rfl (r_move rfl) ?_
                  refine lp (b := false) 87 rfl rfl rfl rfl rfl ?_
                  refine lp (b := false) 87 rfl rfl rfl rfl rfl ?_
                  refine lv (v := (.bool false)) rfl rfl (r_pickF rfl rfl) ?_
                  refine lv (v := (.bool false)) rfl rfl (r_move rfl) ?_
                  refine lp (b := false) 91 rfl rfl rfl rfl rfl ?_
                  refine lp (b := false) 91 rfl rfl rfl rfl rfl ?_
                  refine lv (v := (.bool false)) rfl rfl (r_pickF rfl rfl) ?_
                  refine lv (v := (.bool false)) rfl rfl (r_move rfl) ?_
                  refine lp (b := false) 95 rfl rfl rfl rfl rfl ?_
                  refine lp (b := false) 95 rfl rfl rfl rfl rfl ?_
                  refine lp (b := false) 95 rfl rfl rfl rfl rfl ?_
                  refine lp (b := false) 95 rfl rfl rfl rfl rfl ?_
                  refine lv (v := (.bool false)) rfl rfl (r_pickF rfl rfl) ?_
                  refine lv (v := (.bool false)) rfl rfl (r_move rfl) ?_
                  refine lp (b := false) 101 rfl rfl rfl rfl rfl ?_
                  refine lp (b := false) 101 rfl rfl rfl rfl rfl ?_
                  refine lp (b := false) 101 rfl rfl rfl rfl rfl ?_
                  refine lv (v := (.bool false)) rfl rfl (r_pickF rfl rfl) ?_
                  refine lv (v := (.bool false)) rfl rfl (r_assign rfl) ?_
                  refine lnil ?_
                  exact ⟨col_421, false, hm, hst, rfl, rfl⟩
              · rw [if_neg hg_486] at hm
                replace hg_486 := Bool.eq_false_iff.2 hg_486
                refine lp (b := decide (r_401.2 = 0)) 61 rfl rfl rfl rfl (by rw [hg_486]; rfl) ?_
                refine lp (b := decide (r_401.2 = 0)) 61 rfl rfl rfl rfl (by rw [hg_486]; rfl) ?_
                refine lv (v := (.bool false)) rfl rfl (r_pickF (congrArg Value.bool hg_486) rfl) ?_
                refine lv (v := (.bool false)) rfl rfl (r_move rfl) ?_
                refine lp (b := false) 65 rfl rfl rfl rfl rfl ?_
                refine lp (b := false) 65 rfl rfl rfl rfl rfl ?_
                refine lp (b := false) 65 rfl rfl rfl rfl rfl ?_
                refine lv (v := (.bool false)) rfl rfl (r_pickF rfl rfl) ?_
                refine lv (v := (.bool false)) rfl rfl (r_move rfl) ?_
                refine lp (b := false) 70 rfl rfl rfl rfl rfl ?_
                refine lp (b := false) 70 rfl rfl rfl rfl rfl ?_
                refine lp (b := false) 70 rfl rfl rfl rfl rfl ?_
                refine lv (v := (.bool false)) rfl rfl (r_pickF rfl rfl) ?_
                refine lv (v := (.bool false)) rfl rfl (r_move rfl) ?_
                refine lp (b := false) 75 rfl rfl rfl rfl rfl ?_
                refine lp (b := false) 75 rfl rfl rfl rfl rfl ?_
                refine lp (b := false) 75 rfl rfl rfl rfl rfl ?_
                refine lv (v := (.bool false)) rfl rfl (r_pickF rfl rfl) ?_
                refine lv (v := (.bool false)) rfl rfl (r_move rfl) ?_
                refine lp (b := false) 80 rfl rfl rfl rfl rfl ?_
                refine lp (b := false) 80 rfl rfl rfl rfl rfl ?_
                refine lp (b := false) 80 rfl rfl rfl rfl rfl ?_
                refine lp (b := false) 80 rfl rfl rfl rfl rfl ?_
                refine lp (b := false) 80 rfl rfl rfl rfl rfl ?_
                refine lv (v := (.bool false)) rfl rfl (r_pickF rfl rfl) ?_
                refine lv (v := (.bool false)) rfl rfl (r_move rfl) ?_
                refine lp (b := false) 87 rfl rfl rfl rfl rfl ?_
                refine lp (b := false) 87 rfl rfl rfl rfl rfl ?_
                refine lv (v := (.bool false)) rfl rfl (r_pickF rfl rfl) ?_
                refine lv (v := (.bool false)) rfl rfl (r_move rfl) ?_
                refine lp (b := false) 91 rfl rfl rfl rfl rfl ?_
                refine lp (b := false) 91 rfl rfl rfl rfl rfl ?_
                refine lv (v := (.bool false)) rfl rfl (r_pickF rfl rfl) ?_
                refine lv (v := (.bool false)) rfl rfl (r_move rfl) ?_
                refine lp (b := false) 95 rfl rfl rfl rfl rfl ?_
                refine lp (b := false) 95 rfl rfl rfl rfl rfl ?_
                refine lp (b := false) 95 rfl rfl rfl rfl rfl ?_
                refine lp (b := false) 95 rfl rfl rfl rfl rfl ?_
                refine lv (v := (.bool false)) rfl rfl (r_pickF rfl rfl) ?_
                refine lv (v := (.bool false)) rfl rfl (r_move rfl) ?_
                refine lp (b := false) 101 rfl rfl rfl rfl rfl ?_
                refine lp (b := false) 101 rfl rfl rfl rfl rfl ?_
                refine lp (b := false) 101 rfl rfl rfl rfl rfl ?_
                refine lv (v := (.bool false)) rfl rfl (r_pickF rfl rfl) ?_
                refine lv (v := (.bool false)) rfl rfl (r_assign rfl) ?_
                refine lnil ?_
                exact ⟨col_421, false, hm, hst, rfl, rfl⟩
            · rw [if_neg hg_485] at hm
              replace hg_485 := Bool.eq_false_iff.2 hg_485
              refine lp (b := decide (r_392.2 = 0)) 57 rfl rfl rfl rfl (by rw [hg_485]; rfl) ?_
              refine lp (b := decide (r_392.2 = 0)) 57 rfl rfl rfl rfl (by rw [hg_485]; rfl) ?_
              refine lv (v := (.bool false)) rfl rfl (r_pickF (congrArg Value.bool hg_485) rfl) ?_
              refine lv (v := (.bool false)) rfl rfl (r_move rfl) ?_
              refine lp (b := false) 61 rfl rfl rfl rfl rfl ?_
              refine lp (b := false) 61 rfl rfl rfl rfl rfl ?_
              refine lv (v := (.bool false)) rfl rfl (r_pickF rfl rfl) ?_
              refine lv (v := (.bool false)) rfl rfl (r_move rfl) ?_
              refine lp (b := false) 65 rfl rfl rfl rfl rfl ?_
              refine lp (b := false) 65 rfl rfl rfl rfl rfl ?_
              refine lp (b := false) 65 rfl rfl rfl rfl rfl ?_
              refine lv (v := (.bool false)) rfl rfl (r_pickF rfl rfl) ?_
              refine lv (v := (.bool false)) rfl rfl (r_move rfl) ?_
              refine lp (b := false) 70 rfl rfl rfl rfl rfl ?_
              refine lp (b := false) 70 rfl rfl rfl rfl rfl ?_
              refine lp (b := false) 70 rfl rfl rfl rfl rfl ?_
              refine lv (v := (.bool false)) rfl rfl (r_pickF rfl rfl) ?_
              refine lv (v := (.bool false)) rfl rfl (r_move rfl) ?_
              refine lp (b := false) 75 rfl rfl rfl rfl rfl ?_
              refine lp (b := false) 75 rfl rfl rfl rfl rfl ?_
              refine lp (b := false) 75 rfl rfl rfl rfl rfl ?_
              refine lv (v := (.bool false)) rfl rfl (r_pickF rfl rfl) ?_
              refine lv (v := (.bool false)) rfl rfl (r_move rfl) ?_
              refine lp (b := false) 80 rfl rfl rfl rfl rfl ?_
              refine lp (b := false) 80 rfl rfl rfl rfl rfl ?_
              refine lp (b := false) 80 rfl rfl rfl rfl rfl ?_
              refine lp (b := false) 80 rfl rfl rfl rfl rfl ?_
              refine lp (b := false) 80 rfl rfl rfl rfl rfl ?_
              refine lv (v := (.bool false)) rfl rfl (r_pickF rfl rfl) ?_
              refine lv (v := (.bool false)) rfl rfl (r_move rfl) ?_
              refine lp (b := false) 87 rfl rfl rfl rfl rfl ?_
              refine lp (b := false) 87 rfl rfl rfl rfl rfl ?_
              refine lv (v := (.bool false)) rfl rfl (r_pickF rfl rfl) ?_
              refine lv (v := (.bool false)) rfl rfl (r_move rfl) ?_
              refine lp (b := false) 91 rfl rfl rfl rfl rfl ?_
              refine lp (b := false) 91 rfl rfl rfl rfl rfl ?_
              refine lv (v := (.bool false)) rfl rfl (r_pickF rfl rfl) ?_
              refine lv (v := (.bool false)) rfl rfl (r_move rfl) ?_
              refine lp (b := false) 95 rfl rfl rfl rfl rfl ?_
              refine lp (b := false) 95 rfl rfl rfl rfl rfl ?_
              refine lp (b := false) 95 rfl rfl rfl rfl rfl ?_
              refine lp (b := false) 95 rfl rfl rfl rfl rfl ?_
              refine lv (v := (.bool false)) rfl rfl (r_pickF rfl rfl) ?_
              refine lv (v := (.bool false)) rfl rfl (r_move rfl) ?_
              refine lp (b := false) 101 rfl rfl rfl rfl rfl ?_
              refine lp (b := false) 101 rfl rfl rfl rfl rfl ?_
              refine lp (b := false) 101 rfl rfl rfl rfl rfl ?_
              refine lv (v := (.bool false)) rfl rfl (r_pickF rfl rfl) ?_
              refine lv (v := (.bool false)) rfl rfl (r_assign rfl) ?_
              refine lnil ?_
              exact ⟨col_421, false, hm, hst, rfl, rfl⟩
          · rw [if_neg hg_484] at hm
            replace hg_484 := Bool.eq_false_iff.2 hg_484
            refine lp (b := decide (r_378.2 = 0)) 53 rfl rfl rfl rfl (by rw [hg_484]; rfl) ?_
            refine lp (b := decide (r_378.2 = 0)) 53 rfl rfl rfl rfl (by rw [hg_484]; rfl) ?_
            refine lv (v := (.bool false)) rfl rfl (r_pickF (congrArg Value.bool hg_484) rfl) ?_
            refine lv (v := (.bool false)) rfl rfl (r_move rfl) ?_
            refine lp (b := false) 57 rfl rfl rfl rfl rfl ?_
            refine lp (b := false) 57 rfl rfl rfl rfl rfl ?_
            refine lv (v := (.bool false)) rfl rfl (r_pickF rfl rfl) ?_
            refine lv (v := (.bool false)) rfl rfl (r_move rfl) ?_
            refine lp (b := false) 61 rfl rfl rfl rfl rfl ?_
            refine lp (b := false) 61 rfl rfl rfl rfl rfl ?_
            refine lv (v := (.bool false)) rfl rfl (r_pickF rfl rfl) ?_
            refine lv (v := (.bool false)) rfl rfl (r_move rfl) ?_
            refine lp (b := false) 65 rfl rfl rfl rfl rfl ?_
            refine lp (b := false) 65 rfl rfl rfl rfl rfl ?_
            refine lp (b := false) 65 rfl rfl rfl rfl rfl ?_
            refine lv (v := (.bool false)) rfl rfl (r_pickF rfl rfl) ?_
            refine lv (v := (.bool false)) rfl rfl (r_move rfl) ?_
            refine lp (b := false) 70 rfl rfl rfl rfl rfl ?_
            refine lp (b := false) 70 rfl rfl rfl rfl rfl ?_
            refine lp (b := false) 70 rfl rfl rfl rfl rfl ?_
            refine lv (v := (.bool false)) rfl rfl (r_pickF rfl rfl) ?_
            refine lv (v := (.bool false)) rfl rfl (r_move rfl) ?_
            refine lp (b := false) 75 rfl rfl rfl rfl rfl ?_
            refine lp (b := false) 75 rfl rfl rfl rfl rfl ?_
            refine lp (b := false) 75 rfl rfl rfl rfl rfl ?_
            refine lv (v := (.bool false)) rfl rfl (r_pickF rfl rfl) ?_
            refine lv (v := (.bool false)) rfl rfl (r_move rfl) ?_
            refine lp (b := false) 80 rfl rfl rfl rfl rfl ?_
            refine lp (b := false) 80 rfl rfl rfl rfl rfl ?_
            refine lp (b := false) 80 rfl rfl rfl rfl rfl ?_
            refine lp (b := false) 80 rfl rfl rfl rfl rfl ?_
            refine lp (b := false) 80 rfl rfl rfl rfl rfl ?_
            refine lv (v := (.bool false)) rfl rfl (r_pickF rfl rfl) ?_
            refine lv (v := (.bool false)) rfl rfl (r_move rfl) ?_
            refine lp (b := false) 87 rfl rfl rfl rfl rfl ?_
            refine lp (b := false) 87 rfl rfl rfl rfl rfl ?_
            refine lv (v := (.bool false)) rfl rfl (r_pickF rfl rfl) ?_
            refine lv (v := (.bool false)) rfl rfl (r_move rfl) ?_
            refine lp (b := false) 91 rfl rfl rfl rfl rfl ?_
            refine lp (b := false) 91 rfl rfl rfl rfl rfl ?_
            refine lv (v := (.bool false)) rfl rfl (r_pickF rfl rfl) ?_
            refine lv (v := (.bool false)) rfl rfl (r_move rfl) ?_
            refine lp (b := false) 95 rfl rfl rfl rfl rfl ?_
            refine lp (b := false) 95 rfl rfl rfl rfl rfl ?_
            refine lp (b := false) 95 rfl rfl rfl rfl rfl ?_
            refine lp (b := false) 95 rfl rfl rfl rfl rfl ?_
            refine lv (v := (.bool false)) rfl rfl (r_pickF rfl rfl) ?_
            refine lv (v := (.bool false)) rfl rfl (r_move rfl) ?_
            refine lp (b := false) 101 rfl rfl rfl rfl rfl ?_
            refine lp (b := false) 101 rfl rfl rfl rfl rfl ?_
            refine lp (b := false) 101 rfl rfl rfl rfl rfl ?_
            refine lv (v := (.bool false)) rfl rfl (r_pickF rfl rfl) ?_
            refine lv (v := (.bool false)) rfl rfl (r_assign rfl) ?_
            refine lnil ?_
            exact ⟨col_421, false, hm, hst, rfl, rfl⟩
    | some t_366 =>
      rw [hx_367] at hm rh_11
      replace hm := optC_some hm
      obtain ⟨g_368, a_370, cap_371, rfl, hB_369, hO_372⟩ := optP_some rh_11
      refine lv (v := (.tuple #[(.pointer (some ⟨o_17.g, 0, none⟩)), (.pointer (some ⟨g_368, 0, none⟩)), (.bool r_6.2.2)])) rfl rfl (r_move rfl) ?_
      refine lv (v := (.pointer (some ⟨o_17.g, 0, none⟩))) rfl rfl (r_extract rfl rfl) ?_
      refine lv (v := (.pointer (some ⟨g_368, 0, none⟩))) rfl rfl (r_extract rfl rfl) ?_
      refine lv (v := (.bool r_6.2.2)) rfl rfl (r_extract rfl rfl) ?_
      refine lv (v := (.pointer (some ⟨o_17.g, 0, none⟩))) rfl rfl (r_assign rfl) ?_
      refine lv (v := (.pointer (some ⟨g_368, 0, none⟩))) rfl rfl (r_assign rfl) ?_
      refine lv (v := (.bool r_6.2.2)) rfl rfl (r_assign rfl) ?_
      refine lnil ?_
      refine wseq ?_
      refine wseq ?_
      refine wregion ?_
      refine lv (v := (.bool r_6.2.2)) rfl rfl (r_move rfl) ?_
      refine lv (v := (.bool (!r_6.2.2))) rfl rfl (r_not r_6.2.2 rfl) ?_
      refine lnil ?_
      refine wcond (!r_6.2.2) rfl (fun hb => ?_) (fun hb => ?_)
      · rw [if_pos hb] at hm
        clear hb
        refine wseq ?_
        refine wregion ?_
        refine lv (v := (.bool false)) rfl rfl (r_assign rfl) ?_
        refine lnil ?_
        refine wret ?_
        cases hm
        exact ⟨rfl, rfl, hst.below⟩
      · rw [if_neg (by rw [hb]; decide)] at hm
        clear hb
        refine wskip ?_
        refine wseq ?_
        refine wregion ?_
        refine lv (v := (.pointer (some ⟨o_17.g, 0, none⟩))) rfl rfl (r_move rfl) ?_
        refine l_lit (col := col_14) (r := (Rep.int .i64)) (xs := [0, 1, 2, 3, 4]) [(.int .i64 0), (.int .i64 1), (.int .i64 2), (.int .i64 3), (.int .i64 4)] 53 rfl Try.underlying22 el3_29 rfl rfl rfl rfl rfl rfl (by intro v hv; simp only [List.mem_cons, List.not_mem_nil, or_false] at hv; rcases hv with rfl | rfl | rfl | rfl | rfl <;> rfl) (RowsH.ofF (Rows.consF (r := (Rep.int .i64)) (x := 0) (cs := [(.int .i64 0)]) (rd_int .i64 0) (Rows.consF (r := (Rep.int .i64)) (x := 1) (cs := [(.int .i64 1)]) (rd_int .i64 1) (Rows.consF (r := (Rep.int .i64)) (x := 2) (cs := [(.int .i64 2)]) (rd_int .i64 2) (Rows.consF (r := (Rep.int .i64)) (x := 3) (cs := [(.int .i64 3)]) (rd_int .i64 3) (Rows.consF (r := (Rep.int .i64)) (x := 4) (cs := [(.int .i64 4)]) (rd_int .i64 4) Rows.nil0)))))) ?_
        intro a_543 w_544 col_545 hg_546 h_547
        replace hG_18 := hG_18.gr hg_546
        replace hst := hst.grow hg_546
        obtain ⟨r_548, hr_549, hm⟩ := bind_some hm
        refine lc rfl rfl (r_call2 Try.call32 rfl rfl) (c_order_Fill N 54 (frC 53 col_545) _ 2 (by decide) o_17 t_15 a_543 5 [0, 1, 2, 3, 4] (hG_18.froz 53 (by decide)) (h_547.toSlF (Froz.int .i64)) r_548 hr_549) ?_
        rintro _ w_553 ⟨col_555, ra_550, rc_551, rfl, hg_554, rh_552⟩
        refine ⟨_, rfl, ?_⟩
        replace rh_552 := rh_552.thaw (flat_int .i64) hg_554 ((Fz.refl (col := col_545)).froz 53) (by decide)
        replace hg_554 := hg_554.thawR (col := col_545)
        generalize colR w_544.heap.size col_545 col_555 = col_556 at *
        replace hG_18 := hG_18.gr hg_554
        replace h_547 := h_547.gr hg_554
        replace hst := hst.grow hg_554
        refine lv (v := (.tuple #[(.slice ra_550 r_548.1.length rc_551), (.int .i64 r_548.2)])) rfl rfl (r_move rfl) ?_
        refine lv (v := (.slice ra_550 r_548.1.length rc_551)) rfl rfl (r_extract rfl rfl) ?_
        refine lv (v := (.int .i64 r_548.2)) rfl rfl (r_extract rfl rfl) ?_
        refine lv (v := (.slice ra_550 r_548.1.length rc_551)) rfl rfl (r_assign rfl) ?_
        refine lv (v := (.int .i64 r_548.2)) rfl rfl (r_assign rfl) ?_
        refine lnil ?_
        refine wseq ?_
        refine wregion ?_
        refine lv (v := (.pointer (some ⟨o_17.g, 0, none⟩))) rfl rfl (r_move rfl) ?_
        refine l_lit (col := col_556) (r := (Rep.int .i64)) (xs := [3, 1]) [(.int .i64 3), (.int .i64 1)] 55 rfl Try.underlying22 el3_29 rfl rfl rfl rfl rfl rfl (by intro v hv; simp only [List.mem_cons, List.not_mem_nil, or_false] at hv; rcases hv with rfl | rfl <;> rfl) (RowsH.ofF (Rows.consF (r := (Rep.int .i64)) (x := 3) (cs := [(.int .i64 3)]) (rd_int .i64 3) (Rows.consF (r := (Rep.int .i64)) (x := 1) (cs := [(.int .i64 1)]) (rd_int .i64 1) Rows.nil0))) ?_
        intro a_557 w_558 col_559 hg_560 h_561
        replace hG_18 := hG_18.gr hg_560
        replace rh_552 := rh_552.gr hg_560
        replace hst := hst.grow hg_560
        obtain ⟨r_562, hr_563, hm⟩ := bind_some hm
        refine lc rfl rfl (r_call2 Try.call33 rfl rfl) (c_order_Degree N 56 (frC 55 col_559) _ 2 (by decide) o_17 t_15 a_557 2 [3, 1] (hG_18.froz 55 (by decide)) (h_561.toSlF (Froz.int .i64)) r_562 hr_563) ?_
        rintro _ w_567 ⟨col_569, ra_564, rc_565, rfl, hg_568, rh_566⟩
        refine ⟨_, rfl, ?_⟩
        replace rh_566 := rh_566.thaw (flat_int .i64) hg_568 ((Fz.refl (col := col_559)).froz 55) (by decide)
        replace hg_568 := hg_568.thawR (col := col_559)
        generalize colR w_558.heap.size col_559 col_569 = col_570 at *
        replace hG_18 := hG_18.gr hg_568
        replace rh_552 := rh_552.gr hg_568
        replace h_561 := h_561.gr hg_568
        replace hst := hst.grow hg_568
        refine lv (v := (.tuple #[(.slice ra_564 r_562.1.length rc_565), (.int .i64 r_562.2)])) rfl rfl (r_move rfl) ?_
        refine lv (v := (.slice ra_564 r_562.1.length rc_565)) rfl rfl (r_extract rfl rfl) ?_
        refine lv (v := (.int .i64 r_562.2)) rfl rfl (r_extract rfl rfl) ?_
        refine lv (v := (.slice ra_564 r_562.1.length rc_565)) rfl rfl (r_assign rfl) ?_
        refine lv (v := (.int .i64 r_562.2)) rfl rfl (r_assign rfl) ?_
        refine lnil ?_
        refine wseq ?_
        refine wregion ?_
        refine lv (v := (.pointer (some ⟨o_17.g, 0, none⟩))) rfl rfl (r_move rfl) ?_
        refine lv (v := (.slice ra_550 r_548.1.length rc_551)) rfl rfl (r_move rfl) ?_
        obtain ⟨r_571, hr_572, hm⟩ := bind_some hm
        refine lc rfl rfl (r_call2 Try.call40 rfl rfl) (c_order_Cliques N 57 (frC 54 col_570) _ 2 (by decide) o_17 t_15 ra_550 rc_551 r_548.1 (hG_18.froz 54 (by decide)) (rh_552.toSlF (Froz.int .i64)) r_571 hr_572) ?_
        rintro _ w_576 ⟨col_578, ra_573, rc_574, rfl, hg_577, rh_575⟩
        refine ⟨_, rfl, ?_⟩
        replace rh_575 := rh_575.thaw (flat_row (flat_int .i64)) hg_577 ((Fz.refl (col := col_570)).froz 54) (by decide)
        replace hg_577 := hg_577.thawR (col := col_570)
        generalize colR w_567.heap.size col_570 col_578 = col_579 at *
        replace hG_18 := hG_18.gr hg_577
        replace rh_552 := rh_552.gr hg_577
        replace rh_566 := rh_566.gr hg_577
        replace hst := hst.grow hg_577
        refine lv (v := (.tuple #[(.slice ra_573 r_571.1.length rc_574), (.int .i64 r_571.2)])) rfl rfl (r_move rfl) ?_
        refine lv (v := (.slice ra_573 r_571.1.length rc_574)) rfl rfl (r_extract rfl rfl) ?_
        refine lv (v := (.int .i64 r_571.2)) rfl rfl (r_extract rfl rfl) ?_
        refine lv (v := (.slice ra_573 r_571.1.length rc_574)) rfl rfl (r_assign rfl) ?_
        refine lv (v := (.int .i64 r_571.2)) rfl rfl (r_assign rfl) ?_
        refine lnil ?_
        refine wseq ?_
        refine wregion ?_
        refine lv (v := (.pointer (some ⟨o_17.g, 0, none⟩))) rfl rfl (r_move rfl) ?_
        refine lv (v := (.slice ra_550 r_548.1.length rc_551)) rfl rfl (r_move rfl) ?_
        obtain ⟨r_580, hr_581, hm⟩ := bind_some hm
        refine lc rfl rfl (r_call2 Try.call42 rfl rfl) (c_order_Width N (frC 54 col_579) _ 2 (by decide) o_17 t_15 ra_550 rc_551 r_548.1 (hG_18.froz 54 (by decide)) (rh_552.toSlF (Froz.int .i64)) r_580 hr_581) ?_
        rintro _ w_582 ⟨rfl, hg_583⟩
        refine ⟨_, rfl, ?_⟩
        replace hg_583 : Grow col_579 w_576 col_579 w_582 := .of_below hg_583
        replace rh_552 := rh_552.gr hg_583
        replace rh_566 := rh_566.gr hg_583
        replace rh_575 := rh_575.gr hg_583
        replace hG_18 := hG_18.gr hg_583
        replace hst := hst.grow hg_583
        refine lv (v := (.tuple #[(.int .i64 r_580.1), (.int .i64 r_580.2)])) rfl rfl (r_move rfl) ?_
        refine lv (v := (.int .i64 r_580.1)) rfl rfl (r_extract rfl rfl) ?_
        refine lv (v := (.int .i64 r_580.2)) rfl rfl (r_extract rfl rfl) ?_
        refine lv (v := (.int .i64 r_580.1)) rfl rfl (r_assign rfl) ?_
        refine lv (v := (.int .i64 r_580.2)) rfl rfl (r_assign rfl) ?_
        refine lnil ?_
        refine wseq ?_
        refine wregion ?_
        obtain ⟨r_584, hr_585, hm⟩ := bind_some hm
        refine lc rfl rfl (r_call2 Try.call32 rfl rfl) (c_order_Fill_v0n N 58 col_579 _ none 0 ([] : List Int) Sl.nil r_584 hr_585) ?_
        rintro _ w_589 ⟨col_591, ra_586, rc_587, rfl, hg_590, rh_588⟩
        refine ⟨_, rfl, ?_⟩
        replace rh_552 := rh_552.gr hg_590
        replace rh_566 := rh_566.gr hg_590
        replace rh_575 := rh_575.gr hg_590
        replace hst := hst.grow hg_590
        refine lv (v := (.tuple #[(.slice ra_586 r_584.1.length rc_587), (.int .i64 r_584.2)])) rfl rfl (r_move rfl) ?_
        refine lv (v := (.slice ra_586 r_584.1.length rc_587)) rfl rfl (r_extract rfl rfl) ?_
        refine lv (v := (.int .i64 r_584.2)) rfl rfl (r_extract rfl rfl) ?_
        refine lv (v := (.slice ra_586 r_584.1.length rc_587)) rfl rfl (r_assign rfl) ?_
        refine lv (v := (.int .i64 r_584.2)) rfl rfl (r_assign rfl) ?_
        refine lnil ?_
        refine wseq ?_
        refine Wp.cut (fun f w_651 => ∃ (col_652 : Col) (v_653 : Bool), m_credencelaw18_awake_J4 v_653 = some r ∧ St w0 (col0 col) col_652 w_651 ∧ f 0 = (.bool v_653) ∧ f 1000000 = (enc [])) ?_ ?_
        · intro f w_651 hJ
          obtain ⟨col_652, v_653, hm, hst, hs0, hs1000000⟩ := hJ
          rw [m_credencelaw18_awake_J4.eq_1] at hm
          refine .ld (d := 0) (v := (.bool v_653)) hs0 ?_
          refine .ld (d := 1000000) (v := (enc [])) hs1000000 ?_
          clear hs0 hs1000000
          refine wret ?_
          cases hm
          exact ⟨rfl, rfl, hst.below⟩
        · refine wregion ?_
          refine lv (v := (.int .i64 r_548.2)) rfl rfl (r_move rfl) ?_
          refine lv (v := (.bool (decide (r_548.2 = 0)))) rfl rfl (r_eql r_548.2 0 rfl rfl) ?_
          refine lv (v := (.bool (decide (r_548.2 = 0)))) rfl rfl (r_move rfl) ?_
          by_cases hg_654 : (decide (r_548.2 = 0)) = true
          · rw [if_pos hg_654] at hm
            refine lg (b := decide (r_548.2 = 0)) 53 rfl rfl rfl (by rw [hg_654]; rfl) ?_
            refine lv (v := (.int .i64 r_562.2)) rfl rfl (r_move rfl) ?_
            refine lg (b := decide (r_548.2 = 0)) 53 rfl rfl rfl (by rw [hg_654]; rfl) ?_
            refine lv (v := (.bool (decide (r_562.2 = 0)))) rfl rfl (r_eql r_562.2 0 rfl rfl) ?_
            refine lv (v := (.bool (decide (r_562.2 = 0)))) rfl rfl (r_pickT (congrArg Value.bool hg_654) rfl) ?_
            refine lv (v := (.bool (decide (r_562.2 = 0)))) rfl rfl (r_move rfl) ?_
            by_cases hg_655 : (decide (r_562.2 = 0)) = true
            · rw [if_pos hg_655] at hm
              refine lg (b := decide (r_562.2 = 0)) 57 rfl rfl rfl (by rw [hg_655]; rfl) ?_
              refine lv (v := (.int .i64 r_571.2)) rfl rfl (r_move rfl) ?_
              refine lg (b := decide (r_562.2 = 0)) 57 rfl rfl rfl (by rw [hg_655]; rfl) ?_
              refine lv (v := (.bool (decide (r_571.2 = 0)))) rfl rfl (r_eql r_571.2 0 rfl rfl) ?_
              refine lv (v := (.bool (decide (r_571.2 = 0)))) rfl rfl (r_pickT (congrArg Value.bool hg_655) rfl) ?_
              refine lv (v := (.bool (decide (r_571.2 = 0)))) rfl rfl (r_move rfl) ?_
              by_cases hg_656 : (decide (r_571.2 = 0)) = true
              · rw [if_pos hg_656] at hm
                refine lg (b := decide (r_571.2 = 0)) 61 rfl rfl rfl (by rw [hg_656]; rfl) ?_
                refine lv (v := (.int .i64 r_580.2)) rfl rfl (r_move rfl) ?_
                refine lg (b := decide (r_571.2 = 0)) 61 rfl rfl rfl (by rw [hg_656]; rfl) ?_
                refine lv (v := (.bool (decide (r_580.2 = 0)))) rfl rfl (r_eql r_580.2 0 rfl rfl) ?_
                refine lv (v := (.bool (decide (r_580.2 = 0)))) rfl rfl (r_pickT (congrArg Value.bool hg_656) rfl) ?_
                refine lv (v := (.bool (decide (r_580.2 = 0)))) rfl rfl (r_move rfl) ?_
                by_cases hg_657 : (decide (r_580.2 = 0)) = true
                · rw [if_pos hg_657] at hm
                  refine lg (b := decide (r_580.2 = 0)) 65 rfl rfl rfl (by rw [hg_657]; rfl) ?_
                  refine lv (v := (.slice ra_550 r_548.1.length rc_551)) rfl rfl (r_move rfl) ?_
                  refine lg (b := decide (r_580.2 = 0)) 65 rfl rfl rfl (by rw [hg_657]; rfl) ?_
                  refine l_lit (col := col_591) (r := (Rep.int .i64)) (xs := [4, 0, 1, 2, 3]) [(.int .i64 4), (.int .i64 0), (.int .i64 1), (.int .i64 2), (.int .i64 3)] 64 rfl Try.underlying22 el3_29 rfl rfl rfl rfl rfl rfl (by intro v hv; simp only [List.mem_cons, List.not_mem_nil, or_false] at hv; rcases hv with rfl | rfl | rfl | rfl | rfl <;> rfl) (RowsH.ofF (Rows.consF (r := (Rep.int .i64)) (x := 4) (cs := [(.int .i64 4)]) (rd_int .i64 4) (Rows.consF (r := (Rep.int .i64)) (x := 0) (cs := [(.int .i64 0)]) (rd_int .i64 0) (Rows.consF (r := (Rep.int .i64)) (x := 1) (cs := [(.int .i64 1)]) (rd_int .i64 1) (Rows.consF (r := (Rep.int .i64)) (x := 2) (cs := [(.int .i64 2)]) (rd_int .i64 2) (Rows.consF (r := (Rep.int .i64)) (x := 3) (cs := [(.int .i64 3)]) (rd_int .i64 3) Rows.nil0)))))) ?_
                  intro a_658 w_659 col_660 hg_661 h_662
                  replace rh_566 := rh_566.gr hg_661
                  replace rh_575 := rh_575.gr hg_661
                  replace rh_552 := rh_552.gr hg_661
                  replace hst := hst.grow hg_661
                  refine lg (b := decide (r_580.2 = 0)) 65 rfl rfl rfl (by rw [hg_657]; rfl) ?_
                  obtain ⟨r_663, hr_664, hm⟩ := bind_some hm
                  refine lc rfl rfl (r_call2 Try.call36 rfl rfl) (c_credenceref15_Ints N (frC 64 (frC 54 col_660)) _ ra_550 rc_551 r_548.1 a_658 5 [4, 0, 1, 2, 3] ((rh_552.toSlF (Froz.int .i64)).froz 64) ((h_662.froz 54 (by decide)).toSlF (Froz.int .i64)) r_663 hr_664) ?_
                  rintro _ w_665 ⟨rfl, hg_666⟩
                  refine ⟨_, rfl, ?_⟩
                  replace hg_666 : Grow col_660 w_659 col_660 w_665 := .of_below hg_666
                  replace rh_566 := rh_566.gr hg_666
                  replace rh_575 := rh_575.gr hg_666
                  replace rh_552 := rh_552.gr hg_666
                  replace h_662 := h_662.gr hg_666
                  replace hst := hst.grow hg_666
                  refine lv (v := (.bool r_663)) rfl rfl (r_pickT (congrArg Value.bool hg_657) rfl) ?_
                  refine lv (v := (.bool r_663)) rfl rfl (r_move rfl) ?_
                  by_cases hg_667 : r_663 = true
                  · rw [if_pos hg_667] at hm
                    refine lg (b := r_663) 70 rfl rfl rfl (by rw [hg_667]; rfl) ?_
                    refine lv (v := (.slice ra_564 r_562.1.length rc_565)) rfl rfl (r_move rfl) ?_
                    refine lg (b := r_663) 70 rfl rfl rfl (by rw [hg_667]; rfl) ?_
                    refine l_lit (col := col_660) (r := (Rep.int .i64)) (xs := [1, 3]) [(.int .i64 1), (.int .i64 3)] 65 rfl Try.underlying22 el3_29 rfl rfl rfl rfl rfl rfl (by intro v hv; simp only [List.mem_cons, List.not_mem_nil, or_false] at hv; rcases hv with rfl | rfl <;> rfl) (RowsH.ofF (Rows.consF (r := (Rep.int .i64)) (x := 1) (cs := [(.int .i64 1)]) (rd_int .i64 1) (Rows.consF (r := (Rep.int .i64)) (x := 3) (cs := [(.int .i64 3)]) (rd_int .i64 3) Rows.nil0))) ?_
                    intro a_668 w_669 col_670 hg_671 h_672
                    replace rh_575 := rh_575.gr hg_671
                    replace rh_566 := rh_566.gr hg_671
                    replace hst := hst.grow hg_671
                    refine lg (b := r_663) 70 rfl rfl rfl (by rw [hg_667]; rfl) ?_
                    obtain ⟨r_673, hr_674, hm⟩ := bind_some hm
                    refine lc rfl rfl (r_call2 Try.call36 rfl rfl) (c_credenceref15_Ints N (frC 65 (frC 56 col_670)) _ ra_564 rc_565 r_562.1 a_668 2 [1, 3] ((rh_566.toSlF (Froz.int .i64)).froz 65) ((h_672.froz 56 (by decide)).toSlF (Froz.int .i64)) r_673 hr_674) ?_
                    rintro _ w_675 ⟨rfl, hg_676⟩
                    refine ⟨_, rfl, ?_⟩
                    replace hg_676 : Grow col_670 w_669 col_670 w_675 := .of_below hg_676
                    replace rh_575 := rh_575.gr hg_676
                    replace rh_566 := rh_566.gr hg_676
                    replace h_672 := h_672.gr hg_676
                    replace hst := hst.grow hg_676
                    refine lv (v := (.bool r_673)) rfl rfl (r_pickT (congrArg Value.bool hg_667) rfl) ?_
                    refine lv (v := (.bool r_673)) rfl rfl (r_move rfl) ?_
                    by_cases hg_677 : r_673 = true
                    · rw [if_pos hg_677] at hm
                      refine lg (b := r_673) 75 rfl rfl rfl (by rw [hg_677]; rfl) ?_
                      refine lv (v := (.slice ra_573 r_571.1.length rc_574)) rfl rfl (r_move rfl) ?_
                      refine lg (b := r_673) 75 rfl rfl rfl (by rw [hg_677]; rfl) ?_
                      refine lv (v := (.int .i64 (r_571.1.length : Int))) rfl rfl (r_len Try.underlying33 rfl) ?_
                      refine lg (b := r_673) 75 rfl rfl rfl (by rw [hg_677]; rfl) ?_
                      refine lv (v := (.bool (decide ((r_571.1.length : Int) = 5)))) rfl rfl (r_eql (r_571.1.length : Int) 5 rfl rfl) ?_
                      refine lv (v := (.bool (decide ((r_571.1.length : Int) = 5)))) rfl rfl (r_pickT (congrArg Value.bool hg_677) rfl) ?_
                      refine lv (v := (.bool (decide ((r_571.1.length : Int) = 5)))) rfl rfl (r_move rfl) ?_
                      by_cases hg_678 : (decide ((r_571.1.length : Int) = 5)) = true
                      · rw [if_pos hg_678] at hm
                        refine lg (b := decide ((r_571.1.length : Int) = 5)) 80 rfl rfl rfl (by rw [hg_678]; rfl) ?_
                        refine lv (v := (.slice ra_573 r_571.1.length rc_574)) rfl rfl (r_move rfl) ?_
                        refine lg (b := decide ((r_571.1.length : Int) = 5)) 80 rfl rfl rfl (by rw [hg_678]; rfl) ?_
                        obtain ⟨e_679, hj_680, hm⟩ := bind_some hm
                        refine lv (v := (sptr ra_573 (Int.toNat 1 * 1))) rfl rfl (r_idx Try.underlying33 Try.sizeOf22 rfl rfl (at?_some hj_680).1 (at?_some hj_680).2.1 (rh_575.addr hj_680)) ?_
                        refine lg (b := decide ((r_571.1.length : Int) = 5)) 80 rfl rfl rfl (by rw [hg_678]; rfl) ?_
                        obtain ⟨_, hr_681, hA_682⟩ := rh_575.atN hj_680
                        obtain ⟨a_683, cap_684, rfl, h_685⟩ := hr_681.row
                        refine lv (v := (.slice a_683 e_679.length cap_684)) rfl rfl (r_ld Try.isAgg22 rfl hA_682.one) ?_
                        refine lg (b := decide ((r_571.1.length : Int) = 5)) 80 rfl rfl rfl (by rw [hg_678]; rfl) ?_
                        refine lv (v := (.int .i64 (e_679.length : Int))) rfl rfl (r_len Try.underlying22 rfl) ?_
                        refine lg (b := decide ((r_571.1.length : Int) = 5)) 80 rfl rfl rfl (by rw [hg_678]; rfl) ?_
                        refine lv (v := (.bool (decide ((e_679.length : Int) = 3)))) rfl rfl (r_eql (e_679.length : Int) 3 rfl rfl) ?_
                        refine lv (v := (.bool (decide ((e_679.length : Int) = 3)))) rfl rfl (r_pickT (congrArg Value.bool hg_678) rfl) ?_
                        refine lv (v := (.bool (decide ((e_679.length : Int) = 3)))) rfl rfl (r_move rfl) ?_
                        by_cases hg_686 : (decide ((e_679.length : Int) = 3)) = true
                        · rw [if_pos hg_686] at hm
                          refine lg (b := decide ((e_679.length : Int) = 3)) 87 rfl rfl rfl (by rw [hg_686]; rfl) ?_
                          refine lv (v := (.int .i64 r_580.1)) rfl rfl (r_move rfl) ?_
                          refine lg (b := decide ((e_679.length : Int) = 3)) 87 rfl rfl rfl (by rw [hg_686]; rfl) ?_
                          refine lv (v := (.bool (decide (r_580.1 = 2)))) rfl rfl (r_eql r_580.1 2 rfl rfl) ?_
                          refine lv (v := (.bool (decide (r_580.1 = 2)))) rfl rfl (r_pickT (congrArg Value.bool hg_686) rfl) ?_
                          refine lv (v := (.bool (decide (r_580.1 = 2)))) rfl rfl (r_move rfl) ?_
                          by_cases hg_687 : (decide (r_580.1 = 2)) = true
                          · rw [if_pos hg_687] at hm
                            refine lg (b := decide (r_580.1 = 2)) 91 rfl rfl rfl (by rw [hg_687]; rfl) ?_
                            refine lv (v := (.int .i64 r_584.2)) rfl rfl (r_move rfl) ?_
                            refine lg (b := decide (r_580.1 = 2)) 91 rfl rfl rfl (by rw [hg_687]; rfl) ?_
                            refine lv (v := (.bool (decide (r_584.2 = 2)))) rfl rfl (r_eql r_584.2 2 rfl rfl) ?_
                            refine lv (v := (.bool (decide (r_584.2 = 2)))) rfl rfl (r_pickT (congrArg Value.bool hg_687) rfl) ?_
                            refine lv (v := (.bool (decide (r_584.2 = 2)))) rfl rfl (r_move rfl) ?_
                            by_cases hg_688 : (decide (r_584.2 = 2)) = true
                            · rw [if_pos hg_688] at hm
                              refine lg (b := decide (r_584.2 = 2)) 95 rfl rfl rfl (by rw [hg_688]; rfl) ?_
                              refine l_lit (col := col_670) (r := (Rep.int .i64)) (xs := [2, 0, 1]) [(.int .i64 2), (.int .i64 0), (.int .i64 1)] 66 rfl Try.underlying22 el3_29 rfl rfl rfl rfl rfl rfl (by intro v hv; simp only [List.mem_cons, List.not_mem_nil, or_false] at hv; rcases hv with rfl | rfl | rfl <;> rfl) (RowsH.ofF (Rows.consF (r := (Rep.int .i64)) (x := 2) (cs := [(.int .i64 2)]) (rd_int .i64 2) (Rows.consF (r := (Rep.int .i64)) (x := 0) (cs := [(.int .i64 0)]) (rd_int .i64 0) (Rows.consF (r := (Rep.int .i64)) (x := 1) (cs := [(.int .i64 1)]) (rd_int .i64 1) Rows.nil0)))) ?_
                              intro a_689 w_690 col_691 hg_692 h_693
                              replace hst := hst.grow hg_692
                              refine lg (b := decide (r_584.2 = 2)) 95 rfl rfl rfl (by rw [hg_688]; rfl) ?_
                              refine l_lit (col := col_691) (r := (Rep.int .i64)) (xs := [0, 1, 2]) [(.int .i64 0), (.int .i64 1), (.int .i64 2)] 67 rfl Try.underlying22 el3_29 rfl rfl rfl rfl rfl rfl (by intro v hv; simp only [List.mem_cons, List.not_mem_nil, or_false] at hv; rcases hv with rfl | rfl | rfl <;> rfl) (RowsH.ofF (Rows.consF (r := (Rep.int .i64)) (x := 0) (cs := [(.int .i64 0)]) (rd_int .i64 0) (Rows.consF (r := (Rep.int .i64)) (x := 1) (cs := [(.int .i64 1)]) (rd_int .i64 1) (Rows.consF (r := (Rep.int .i64)) (x := 2) (cs := [(.int .i64 2)]) (rd_int .i64 2) Rows.nil0)))) ?_
                              intro a_694 w_695 col_696 hg_697 h_698
                              replace h_693 := h_693.gr hg_697
                              replace hst := hst.grow hg_697
                              refine lg (b := decide (r_584.2 = 2)) 95 rfl rfl rfl (by rw [hg_688]; rfl) ?_
                              obtain ⟨r_699, hr_700, hm⟩ := bind_some hm
                              refine lc rfl rfl (r_call2 Try.call45 rfl rfl) (c_order_Check (frC 67 (frC 66 col_696)) _ a_689 3 [2, 0, 1] a_694 3 [0, 1, 2] ((h_693.toSlF (Froz.int .i64)).froz 67) ((h_698.froz 66 (by decide)).toSlF (Froz.int .i64)) r_699 hr_700) ?_
                              rintro _ w_701 ⟨rfl, hg_702⟩
                              refine ⟨_, rfl, ?_⟩
                              replace hg_702 : Grow col_696 w_695 col_696 w_701 := .of_below hg_702
                              replace h_693 := h_693.gr hg_702
                              replace h_698 := h_698.gr hg_702
                              replace hst := hst.grow hg_702
                              refine lg (b := decide (r_584.2 = 2)) 95 rfl rfl rfl (by rw [hg_688]; rfl) ?_
                              refine lv (v := (.bool (decide (r_699 = 0)))) rfl rfl (r_eql r_699 0 rfl rfl) ?_
                              refine lv (v := (.bool (decide (r_699 = 0)))) rfl rfl (r_pickT (congrArg Value.bool hg_688) rfl) ?_
                              refine lv (v := (.bool (decide (r_699 = 0)))) rfl rfl (r_move rfl) ?_
                              by_cases hg_703 : (decide (r_699 = 0)) = true
                              · rw [if_pos hg_703] at hm
                                refine lg (b := decide (r_699 = 0)) 101 rfl rfl rfl (by rw [hg_703]; rfl) ?_
                                refine l_lit (col := col_696) (r := (Rep.int .i64)) (xs := [0]) [(.int .i64 0)] 68 rfl Try.underlying22 el3_29 rfl rfl rfl rfl rfl rfl (by intro v hv; simp only [List.mem_cons, List.not_mem_nil, or_false] at hv; subst hv; rfl) (RowsH.ofF (Rows.consF (r := (Rep.int .i64)) (x := 0) (cs := [(.int .i64 0)]) (rd_int .i64 0) Rows.nil0)) ?_
                                intro a_704 w_705 col_706 hg_707 h_708
                                replace hst := hst.grow hg_707
                                refine lg (b := decide (r_699 = 0)) 101 rfl rfl rfl (by rw [hg_703]; rfl) ?_
                                obtain ⟨r_709, hr_710, hm⟩ := bind_some hm
                                refine lc rfl rfl (r_call2 Try.call45 rfl rfl) (c_order_Check (frC 68 col_706) _ a_704 1 [0] none 0 ([] : List Int) (h_708.toSlF (Froz.int .i64)) Sl.nil r_709 hr_710) ?_
                                rintro _ w_711 ⟨rfl, hg_712⟩
                                refine ⟨_, rfl, ?_⟩
                                replace hg_712 : Grow col_706 w_705 col_706 w_711 := .of_below hg_712
                                replace h_708 := h_708.gr hg_712
                                replace hst := hst.grow hg_712
                                refine lg (b := decide (r_699 = 0)) 101 rfl rfl rfl (by rw [hg_703]; rfl) ?_
                                refine lv (v := (.bool (decide (r_709 = 51)))) rfl rfl (r_eql r_709 51 rfl rfl) ?_
                                refine lv (v := (.bool (decide (r_709 = 51)))) rfl rfl (r_pickT (congrArg Value.bool hg_703) rfl) ?_
                                refine lv (v := (.bool (decide (r_709 = 51)))) rfl rfl (r_assign rfl) ?_
                                refine lnil ?_
                                exact ⟨col_706, (decide (r_709 = 51)), hm, hst, rfl, rfl⟩
                              · rw [if_neg hg_703] at hm
                                replace hg_703 := Bool.eq_false_iff.2 hg_703
                                refine lp (b := decide (r_699 = 0)) 101 rfl rfl rfl rfl (by rw [hg_703]; rfl) ?_
                                refine lp (b := decide (r_699 = 0)) 101 rfl rfl rfl rfl (by rw [hg_703]; rfl) ?_
                                refine lp (b := decide (r_699 = 0)) 101 rfl rfl rfl rfl (by rw [hg_703]; rfl) ?_
                                refine lv (v := (.bool false)) rfl rfl (r_pickF (congrArg Value.bool hg_703) rfl) ?_
                                refine lv (v := (.bool false)) rfl rfl (r_assign rfl) ?_
                                refine lnil ?_
                                exact ⟨col_696, false, hm, hst, rfl, rfl⟩
                            · rw [if_neg hg_688] at hm
                              replace hg_688 := Bool.eq_false_iff.2 hg_688
                              refine lp (b := decide (r_584.2 = 2)) 95 rfl rfl rfl rfl (by rw [hg_688]; rfl) ?_
                              refine lp (b := decide (r_584.2 = 2)) 95 rfl rfl rfl rfl (by rw [hg_688]; rfl) ?_
                              refine lp (b := decide (r_584.2 = 2)) 95 rfl rfl rfl rfl (by rw [hg_688]; rfl) ?_
                              refine lp (b := decide (r_584.2 = 2)) 95 rfl rfl rfl rfl (by rw [hg_688]; rfl) ?_
                              refine lv (v := (.bool false)) rfl rfl (r_pickF (congrArg Value.bool hg_688) rfl) ?_
                              refine lv (v := (.bool false)) rfl rfl (r_move rfl) ?_
                              refine lp (b := false) 101 rfl rfl rfl rfl rfl ?_
                              refine lp (b := false) 101 rfl rfl rfl rfl rfl ?_
                              refine lp (b := false) 101 rfl rfl rfl rfl rfl ?_
                              refine lv (v := (.bool false)) rfl rfl (r_pickF rfl rfl) ?_
                              refine lv (v := (.bool false)) rfl rfl (r_assign rfl) ?_
                              refine lnil ?_
                              exact ⟨col_670, false, hm, hst, rfl, rfl⟩
                          · rw [if_neg hg_687] at hm
                            replace hg_687 := Bool.eq_false_iff.2 hg_687
                            refine lp (b := decide (r_580.1 = 2)) 91 rfl rfl rfl rfl (by rw [hg_687]; rfl) ?_
                            refine lp (b := decide (r_580.1 = 2)) 91 rfl rfl rfl rfl (by rw [hg_687]; rfl) ?_
                            refine lv (v := (.bool false)) rfl rfl (r_pickF (congrArg Value.bool hg_687) rfl) ?_
                            refine lv (v := (.bool false)) rfl rfl (r_move rfl) ?_
                            refine lp (b := false) 95 rfl rfl rfl rfl rfl ?_
                            refine lp (b := false) 95 rfl rfl rfl rfl rfl ?_
                            refine lp (b := false) 95 rfl rfl rfl rfl rfl ?_
                            refine lp (b := false) 95 rfl rfl rfl rfl rfl ?_
                            refine lv (v := (.bool false)) rfl rfl (r_pickF rfl rfl) ?_
                            refine lv (v := (.bool false)) rfl rfl (r_move rfl) ?_
                            refine lp (b := false) 101 rfl rfl rfl rfl rfl ?_
                            refine lp (b := false) 101 rfl rfl rfl rfl rfl ?_
                            refine lp (b := false) 101 rfl rfl rfl rfl rfl ?_
                            refine lv (v := (.bool false)) rfl rfl (r_pickF rfl rfl) ?_
                            refine lv (v := (.bool false)) rfl rfl (r_assign rfl) ?_
                            refine lnil ?_
                            exact ⟨col_670, false, hm, hst, rfl, rfl⟩
                        · rw [if_neg hg_686] at hm
                          replace hg_686 := Bool.eq_false_iff.2 hg_686
                          refine lp (b := decide ((e_679.length : Int) = 3)) 87 rfl rfl rfl rfl (by rw [hg_686]; rfl) ?_
                          refine lp (b := decide ((e_679.length : Int) = 3)) 87 rfl rfl rfl rfl (by rw [hg_686]; rfl) ?_
                          refine lv (v := (.bool false)) rfl rfl (r_pickF (congrArg Value.bool hg_686) rfl) ?_
                          refine lv (v := (.bool false)) rfl rfl (r_move rfl) ?_
                          refine lp (b := false) 91 rfl rfl rfl rfl rfl ?_
                          refine lp (b := false) 91 rfl rfl rfl rfl rfl ?_
                          refine lv (v := (.bool false)) rfl rfl (r_pickF rfl rfl) ?_
                          refine lv (v := (.bool false)) rfl rfl (r_move rfl) ?_
                          refine lp (b := false) 95 rfl rfl rfl rfl rfl ?_
                          refine lp (b := false) 95 rfl rfl rfl rfl rfl ?_
                          refine lp (b := false) 95 rfl rfl rfl rfl rfl ?_
                          refine lp (b := false) 95 rfl rfl rfl rfl rfl ?_
                          refine lv (v := (.bool false)) rfl rfl (r_pickF rfl rfl) ?_
                          refine lv (v := (.bool false)) rfl rfl (r_move rfl) ?_
                          refine lp (b := false) 101 rfl rfl rfl rfl rfl ?_
                          refine lp (b := false) 101 rfl rfl rfl rfl rfl ?_
                          refine lp (b := false) 101 rfl rfl rfl rfl rfl ?_
                          refine lv (v := (.bool false)) rfl rfl (r_pickF rfl rfl) ?_
                          refine lv (v := (.bool false)) rfl rfl (r_assign rfl) ?_
                          refine lnil ?_
                          exact ⟨col_670, false, hm, hst, rfl, rfl⟩
                      · rw [if_neg hg_678] at hm
                        replace hg_678 := Bool.eq_false_iff.2 hg_678
                        refine lp (b := decide ((r_571.1.length : Int) = 5)) 80 rfl rfl rfl rfl (by rw [hg_678]; rfl) ?_
                        refine lp (b := decide ((r_571.1.length : Int) = 5)) 80 rfl rfl rfl rfl (by rw [hg_678]; rfl) ?_
                        refine lp (b := decide ((r_571.1.length : Int) = 5)) 80 rfl rfl rfl rfl (by rw [hg_678]; rfl) ?_
                        refine lp (b := decide ((r_571.1.length : Int) = 5)) 80 rfl rfl rfl rfl (by rw [hg_678]; rfl) ?_
                        refine lp (b := decide ((r_571.1.length : Int) = 5)) 80 rfl rfl rfl rfl (by rw [hg_678]; rfl) ?_
                        refine lv (v := (.bool false)) rfl rfl (r_pickF (congrArg Value.bool hg_678) rfl) ?_
                        refine lv (v := (.bool false)) rfl rfl (r_move rfl) ?_
                        refine lp (b := false) 87 rfl rfl rfl rfl rfl ?_
                        refine lp (b := false) 87 rfl rfl rfl rfl rfl ?_
                        refine lv (v := (.bool false)) rfl rfl (r_pickF rfl rfl) ?_
                        refine lv (v := (.bool false)) rfl rfl (r_move rfl) ?_
                        refine lp (b := false) 91 rfl rfl rfl rfl rfl ?_
                        refine lp (b := false) 91 rfl rfl rfl rfl rfl ?_
                        refine lv (v := (.bool false)) rfl rfl (r_pickF rfl rfl) ?_
                        refine lv (v := (.bool false)) rfl rfl (r_move rfl) ?_
                        refine lp (b := false) 95 rfl rfl rfl rfl rfl ?_
                        refine lp (b := false) 95 rfl rfl rfl rfl rfl ?_
                        refine lp (b := false) 95 rfl rfl rfl rfl rfl ?_
                        refine lp (b := false) 95 rfl rfl rfl rfl rfl ?_
                        refine lv (v := (.bool false)) rfl rfl (r_pickF rfl rfl) ?_
                        refine lv (v := (.bool false)) rfl rfl (r_move rfl) ?_
                        refine lp (b := false) 101 rfl rfl rfl rfl rfl ?_
                        refine lp (b := false) 101 rfl rfl rfl rfl rfl ?_
                        refine lp (b := false) 101 rfl rfl rfl rfl rfl ?_
                        refine lv (v := (.bool false)) rfl rfl (r_pickF rfl rfl) ?_
                        refine lv (v := (.bool false)) rfl rfl (r_assign rfl) ?_
                        refine lnil ?_
                        exact ⟨col_670, false, hm, hst, rfl, rfl⟩
                    · rw [if_neg hg_677] at hm
                      replace hg_677 := Bool.eq_false_iff.2 hg_677
                      refine lp (b := r_673) 75 rfl rfl rfl rfl (by rw [hg_677]; rfl) ?_
                      refine lp (b := r_673) 75 rfl rfl rfl rfl (by rw [hg_677]; rfl) ?_
                      refine lp (b := r_673) 75 rfl rfl rfl rfl (by rw [hg_677]; rfl) ?_
                      refine lv (v := (.bool false)) rfl rfl (r_pickF (congrArg Value.bool hg_677) rfl) ?_
                      refine lv (v := (.bool false)) rfl rfl (r_move rfl) ?_
                      refine lp (b := false) 80 rfl rfl rfl rfl rfl ?_
                      refine lp (b := false) 80 rfl rfl rfl rfl rfl ?_
                      refine lp (b := false) 80 rfl rfl rfl rfl rfl ?_
                      refine lp (b := false) 80 rfl rfl rfl rfl rfl ?_
                      refine lp (b := false) 80 rfl rfl rfl rfl rfl ?_
                      refine lv (v := (.bool false)) rfl rfl (r_pickF rfl rfl) ?_
                      refine lv (v := (.bool false)) rfl rfl (r_move rfl) ?_
                      refine lp (b := false) 87 rfl rfl rfl rfl rfl ?_
                      refine lp (b := false) 87 rfl rfl rfl rfl rfl ?_
                      refine lv (v := (.bool false)) rfl rfl (r_pickF rfl rfl) ?_
                      refine lv (v := (.bool false)) rfl rfl (r_move rfl) ?_
                      refine lp (b := false) 91 rfl rfl rfl rfl rfl ?_
                      refine lp (b := false) 91 rfl rfl rfl rfl rfl ?_
                      refine lv (v := (.bool false)) rfl rfl (r_pickF rfl rfl) ?_
                      refine lv (v := (.bool false)) rfl rfl (r_move rfl) ?_
                      refine lp (b := false) 95 rfl rfl rfl rfl rfl ?_
                      refine lp (b := false) 95 rfl rfl rfl rfl rfl ?_
                      refine lp (b := false) 95 rfl rfl rfl rfl rfl ?_
                      refine lp (b := false) 95 rfl rfl rfl rfl rfl ?_
                      refine lv (v := (.bool false)) rfl rfl (r_pickF rfl rfl) ?_
                      refine lv (v := (.bool false)) rfl rfl (r_move rfl) ?_
                      refine lp (b := false) 101 rfl rfl rfl rfl rfl ?_
                      refine lp (b := false) 101 rfl rfl rfl rfl rfl ?_
                      refine lp (b := false) 101 rfl rfl rfl rfl rfl ?_
                      refine lv (v := (.bool false)) rfl rfl (r_pickF rfl rfl) ?_
                      refine lv (v := (.bool false)) rfl rfl (r_assign rfl) ?_
                      refine lnil ?_
                      exact ⟨col_670, false, hm, hst, rfl, rfl⟩
                  · rw [if_neg hg_667] at hm
                    replace hg_667 := Bool.eq_false_iff.2 hg_667
                    refine lp (b := r_663) 70 rfl rfl rfl rfl (by rw [hg_667]; rfl) ?_
                    refine lp (b := r_663) 70 rfl rfl rfl rfl (by rw [hg_667]; rfl) ?_
                    refine lp (b := r_663) 70 rfl rfl rfl rfl (by rw [hg_667]; rfl) ?_
                    refine lv (v := (.bool false)) rfl rfl (r_pickF (congrArg Value.bool hg_667) rfl) ?_
                    refine lv (v := (.bool false)) rfl rfl (r_move rfl) ?_
                    refine lp (b := false) 75 rfl rfl rfl rfl rfl ?_
                    refine lp (b := false) 75 rfl rfl rfl rfl rfl ?_
                    refine lp (b := false) 75 rfl rfl rfl rfl rfl ?_
                    refine lv (v := (.bool false)) rfl rfl (r_pickF rfl rfl) ?_
                    refine lv (v := (.bool false)) rfl rfl (r_move rfl) ?_
                    refine lp (b := false) 80 rfl rfl rfl rfl rfl ?_
                    refine lp (b := false) 80 rfl rfl rfl rfl rfl ?_
                    refine lp (b := false) 80 rfl rfl rfl rfl rfl ?_
                    refine lp (b := false) 80 rfl rfl rfl rfl rfl ?_
                    refine lp (b := false) 80 rfl rfl rfl rfl rfl ?_
                    refine lv (v := (.bool false)) rfl rfl (r_pickF rfl rfl) ?_
                    refine lv (v := (.bool false)) rfl rfl (r_move rfl) ?_
                    refine lp (b := false) 87 rfl rfl rfl rfl rfl ?_
                    refine lp (b := false) 87 rfl rfl rfl rfl rfl ?_
                    refine lv (v := (.bool false)) rfl rfl (r_pickF rfl rfl) ?_
                    refine lv (v := (.bool false)) rfl rfl (r_move rfl) ?_
                    refine lp (b := false) 91 rfl rfl rfl rfl rfl ?_
                    refine lp (b := false) 91 rfl rfl rfl rfl rfl ?_
                    refine lv (v := (.bool false)) rfl rfl (r_pickF rfl rfl) ?_
                    refine lv (v := (.bool false)) rfl rfl (r_move rfl) ?_
                    refine lp (b := false) 95 rfl rfl rfl rfl rfl ?_
                    refine lp (b := false) 95 rfl rfl rfl rfl rfl ?_
                    refine lp (b := false) 95 rfl rfl rfl rfl rfl ?_
                    refine lp (b := false) 95 rfl rfl rfl rfl rfl ?_
                    refine lv (v := (.bool false)) rfl rfl (r_pickF rfl rfl) ?_
                    refine lv (v := (.bool false)) rfl rfl (r_move rfl) ?_
                    refine lp (b := false) 101 rfl rfl rfl rfl rfl ?_
                    refine lp (b := false) 101 rfl rfl rfl rfl rfl ?_
                    refine lp (b := false) 101 rfl rfl rfl rfl rfl ?_
                    refine lv (v := (.bool false)) rfl rfl (r_pickF rfl rfl) ?_
                    refine lv (v := (.bool false)) rfl rfl (r_assign rfl) ?_
                    refine lnil ?_
                    exact ⟨col_660, false, hm, hst, rfl, rfl⟩
                · rw [if_neg hg_657] at hm
                  replace hg_657 := Bool.eq_false_iff.2 hg_657
                  refine lp (b := decide (r_580.2 = 0)) 65 rfl rfl rfl rfl (by rw [hg_657]; rfl) ?_
                  refine lp (b := decide (r_580.2 = 0)) 65 rfl rfl rfl rfl (by rw [hg_657]; rfl) ?_
                  refine lp (b := decide (r_580.2 = 0)) 65 rfl rfl rfl rfl (by rw [hg_657]; rfl) ?_
                  refine lv (v := (.bool false)) rfl rfl (r_pickF (congrArg Value.bool hg_657) rfl) ?_
                  refine lv (v := (.bool false)) rfl rfl (r_move rfl) ?_
                  refine lp (b := false) 70 rfl rfl rfl rfl rfl ?_
                  refine lp (b := false) 70 rfl rfl rfl rfl rfl ?_
                  refine lp (b := false) 70 rfl rfl rfl rfl rfl ?_
                  refine lv (v := (.bool false)) rfl rfl (r_pickF rfl rfl) ?_
                  refine lv (v := (.bool false)) rfl rfl (r_move rfl) ?_
                  refine lp (b := false) 75 rfl rfl rfl rfl rfl ?_
                  refine lp (b := false) 75 rfl rfl rfl rfl rfl ?_
                  refine lp (b := false) 75 rfl rfl rfl rfl rfl ?_
                  refine lv (v := (.bool false)) rfl rfl (r_pickF rfl rfl) ?_
                  refine lv (v := (.bool false)) rfl rfl (r_move rfl) ?_
                  refine lp (b := false) 80 rfl rfl rfl rfl rfl ?_
                  refine lp (b := false) 80 rfl rfl rfl rfl rfl ?_
                  refine lp (b := false) 80 rfl rfl rfl rfl rfl ?_
                  refine lp (b := false) 80 rfl rfl rfl rfl rfl ?_
                  refine lp (b := false) 80 rfl rfl rfl rfl rfl ?_
                  refine lv (v := (.bool false)) rfl rfl (r_pickF rfl rfl) ?_
                  refine lv (v := (.bool false)) rfl rfl (r_move rfl) ?_
                  refine lp (b := false) 87 rfl rfl rfl rfl rfl ?_
                  refine lp (b := false) 87 rfl rfl rfl rfl rfl ?_
                  refine lv (v := (.bool false)) rfl rfl (r_pickF rfl rfl) ?_
                  refine lv (v := (.bool false)) rfl rfl (r_move rfl) ?_
                  refine lp (b := false) 91 rfl rfl rfl rfl rfl ?_
                  refine lp (b := false) 91 rfl rfl rfl rfl rfl ?_
                  refine lv (v := (.bool false)) rfl rfl (r_pickF rfl rfl) ?_
                  refine lv (v := (.bool false)) rfl rfl (r_move rfl) ?_
                  refine lp (b := false) 95 rfl rfl rfl rfl rfl ?_
                  refine lp (b := false) 95 rfl rfl rfl rfl rfl ?_
                  refine lp (b := false) 95 rfl rfl rfl rfl rfl ?_
                  refine lp (b := false) 95 rfl rfl rfl rfl rfl ?_
                  refine lv (v := (.bool false)) rfl rfl (r_pickF rfl rfl) ?_
                  refine lv (v := (.bool false)) rfl rfl (r_move rfl) ?_
                  refine lp (b := false) 101 rfl rfl rfl rfl rfl ?_
                  refine lp (b := false) 101 rfl rfl rfl rfl rfl ?_
                  refine lp (b := false) 101 rfl rfl rfl rfl rfl ?_
                  refine lv (v := (.bool false)) rfl rfl (r_pickF rfl rfl) ?_
                  refine lv (v := (.bool false)) rfl rfl (r_assign rfl) ?_
                  refine lnil ?_
                  exact ⟨col_591, false, hm, hst, rfl, rfl⟩
              · rw [if_neg hg_656] at hm
                replace hg_656 := Bool.eq_false_iff.2 hg_656
                refine lp (b := decide (r_571.2 = 0)) 61 rfl rfl rfl rfl (by rw [hg_656]; rfl) ?_
                refine lp (b := decide (r_571.2 = 0)) 61 rfl rfl rfl rfl (by rw [hg_656]; rfl) ?_
                refine lv (v := (.bool false)) rfl rfl (r_pickF (congrArg Value.bool hg_656) rfl) ?_
                refine lv (v := (.bool false)) rfl rfl (r_move rfl) ?_
                refine lp (b := false) 65 rfl rfl rfl rfl rfl ?_
                refine lp (b := false) 65 rfl rfl rfl rfl rfl ?_
                refine lp (b := false) 65 rfl rfl rfl rfl rfl ?_
                refine lv (v := (.bool false)) rfl rfl (r_pickF rfl rfl) ?_
                refine lv (v := (.bool false)) rfl rfl (r_move rfl) ?_
                refine lp (b := false) 70 rfl rfl rfl rfl rfl ?_
                refine lp (b := false) 70 rfl rfl rfl rfl rfl ?_
                refine lp (b := false) 70 rfl rfl rfl rfl rfl ?_
                refine lv (v := (.bool false)) rfl rfl (r_pickF rfl rfl) ?_
                refine lv (v := (.bool false)) rfl rfl (r_move rfl) ?_
                refine lp (b := false) 75 rfl rfl rfl rfl rfl ?_
                refine lp (b := false) 75 rfl rfl rfl rfl rfl ?_
                refine lp (b := false) 75 rfl rfl rfl rfl rfl ?_
                refine lv (v := (.bool false)) rfl rfl (r_pickF rfl rfl) ?_
                refine lv (v := (.bool false)) rfl rfl (r_move rfl) ?_
                refine lp (b := false) 80 rfl rfl rfl rfl rfl ?_
                refine lp (b := false) 80 rfl rfl rfl rfl rfl ?_
                refine lp (b := false) 80 rfl rfl rfl rfl rfl ?_
                refine lp (b := false) 80 rfl rfl rfl rfl rfl ?_
                refine lp (b := false) 80 rfl rfl rfl rfl rfl ?_
                refine lv (v := (.bool false)) rfl rfl (r_pickF rfl rfl) ?_
                refine lv (v := (.bool false)) rfl rfl (r_move rfl) ?_
                refine lp (b := false) 87 rfl rfl rfl rfl rfl ?_
                refine lp (b := false) 87 rfl rfl rfl rfl rfl ?_
                refine lv (v := (.bool false)) rfl rfl (r_pickF rfl rfl) ?_
                refine lv (v := (.bool false)) rfl rfl (r_move rfl) ?_
                refine lp (b := false) 91 rfl rfl rfl rfl rfl ?_
                refine lp (b := false) 91 rfl rfl rfl rfl rfl ?_
                refine lv (v := (.bool false)) rfl rfl (r_pickF rfl rfl) ?_
                refine lv (v := (.bool false)) rfl rfl (r_move rfl) ?_
                refine lp (b := false) 95 rfl rfl rfl rfl rfl ?_
                refine lp (b := false) 95 rfl rfl rfl rfl rfl ?_
                refine lp (b := false) 95 rfl rfl rfl rfl rfl ?_
                refine lp (b := false) 95 rfl rfl rfl rfl rfl ?_
                refine lv (v := (.bool false)) rfl rfl (r_pickF rfl rfl) ?_
                refine lv (v := (.bool false)) rfl rfl (r_move rfl) ?_
                refine lp (b := false) 101 rfl rfl rfl rfl rfl ?_
                refine lp (b := false) 101 rfl rfl rfl rfl rfl ?_
                refine lp (b := false) 101 rfl rfl rfl rfl rfl ?_
                refine lv (v := (.bool false)) rfl rfl (r_pickF rfl rfl) ?_
                refine lv (v := (.bool false)) rfl rfl (r_assign rfl) ?_
                refine lnil ?_
                exact ⟨col_591, false, hm, hst, rfl, rfl⟩
            · rw [if_neg hg_655] at hm
              replace hg_655 := Bool.eq_false_iff.2 hg_655
              refine lp (b := decide (r_562.2 = 0)) 57 rfl rfl rfl rfl (by rw [hg_655]; rfl) ?_
              refine lp (b := decide (r_562.2 = 0)) 57 rfl rfl rfl rfl (by rw [hg_655]; rfl) ?_
              refine lv (v := (.bool false)) rfl rfl (r_pickF (congrArg Value.bool hg_655) rfl) ?_
              refine lv (v := (.bool false)) rfl rfl (r_move rfl) ?_
              refine lp (b := false) 61 rfl rfl rfl rfl rfl ?_
              refine lp (b := false) 61 rfl rfl rfl rfl rfl ?_
              refine lv (v := (.bool false)) rfl rfl (r_pickF rfl rfl) ?_
              refine lv (v := (.bool false)) rfl rfl (r_move rfl) ?_
              refine lp (b := false) 65 rfl rfl rfl rfl rfl ?_
              refine lp (b := false) 65 rfl rfl rfl rfl rfl ?_
              refine lp (b := false) 65 rfl rfl rfl rfl rfl ?_
              refine lv (v := (.bool false)) rfl rfl (r_pickF rfl rfl) ?_
              refine lv (v := (.bool false)) rfl rfl (r_move rfl) ?_
              refine lp (b := false) 70 rfl rfl rfl rfl rfl ?_
              refine lp (b := false) 70 rfl rfl rfl rfl rfl ?_
              refine lp (b := false) 70 rfl rfl rfl rfl rfl ?_
              refine lv (v := (.bool false)) rfl rfl (r_pickF rfl rfl) ?_
              refine lv (v := (.bool false)) rfl rfl (r_move rfl) ?_
              refine lp (b := false) 75 rfl rfl rfl rfl rfl ?_
              refine lp (b := false) 75 rfl rfl rfl rfl rfl ?_
              refine lp (b := false) 75 rfl rfl rfl rfl rfl ?_
              refine lv (v := (.bool false)) rfl rfl (r_pickF rfl rfl) ?_
              refine lv (v := (.bool false)) rfl rfl (r_move rfl) ?_
              refine lp (b := false) 80 rfl rfl rfl rfl rfl ?_
              refine lp (b := false) 80 rfl rfl rfl rfl rfl ?_
              refine lp (b := false) 80 rfl rfl rfl rfl rfl ?_
              refine lp (b := false) 80 rfl rfl rfl rfl rfl ?_
              refine lp (b := false) 80 rfl rfl rfl rfl rfl ?_
              refine lv (v := (.bool false)) rfl rfl (r_pickF rfl rfl) ?_
              refine lv (v := (.bool false)) rfl rfl (r_move rfl) ?_
              refine lp (b := false) 87 rfl rfl rfl rfl rfl ?_
              refine lp (b := false) 87 rfl rfl rfl rfl rfl ?_
              refine lv (v := (.bool false)) rfl rfl (r_pickF rfl rfl) ?_
              refine lv (v := (.bool false)) rfl rfl (r_move rfl) ?_
              refine lp (b := false) 91 rfl rfl rfl rfl rfl ?_
              refine lp (b := false) 91 rfl rfl rfl rfl rfl ?_
              refine lv (v := (.bool false)) rfl rfl (r_pickF rfl rfl) ?_
              refine lv (v := (.bool false)) rfl rfl (r_move rfl) ?_
              refine lp (b := false) 95 rfl rfl rfl rfl rfl ?_
              refine lp (b := false) 95 rfl rfl rfl rfl rfl ?_
              refine lp (b := false) 95 rfl rfl rfl rfl rfl ?_
              refine lp (b := false) 95 rfl rfl rfl rfl rfl ?_
              refine lv (v := (.bool false)) rfl rfl (r_pickF rfl rfl) ?_
              refine lv (v := (.bool false)) rfl rfl (r_move rfl) ?_
              refine lp (b := false) 101 rfl rfl rfl rfl rfl ?_
              refine lp (b := false) 101 rfl rfl rfl rfl rfl ?_
              refine lp (b := false) 101 rfl rfl rfl rfl rfl ?_
              refine lv (v := (.bool false)) rfl rfl (r_pickF rfl rfl) ?_
              refine lv (v := (.bool false)) rfl rfl (r_assign rfl) ?_
              refine lnil ?_
              exact ⟨col_591, false, hm, hst, rfl, rfl⟩
          · rw [if_neg hg_654] at hm
            replace hg_654 := Bool.eq_false_iff.2 hg_654
            refine lp (b := decide (r_548.2 = 0)) 53 rfl rfl rfl rfl (by rw [hg_654]; rfl) ?_
            refine lp (b := decide (r_548.2 = 0)) 53 rfl rfl rfl rfl (by rw [hg_654]; rfl) ?_
            refine lv (v := (.bool false)) rfl rfl (r_pickF (congrArg Value.bool hg_654) rfl) ?_
            refine lv (v := (.bool false)) rfl rfl (r_move rfl) ?_
            refine lp (b := false) 57 rfl rfl rfl rfl rfl ?_
            refine lp (b := false) 57 rfl rfl rfl rfl rfl ?_
            refine lv (v := (.bool false)) rfl rfl (r_pickF rfl rfl) ?_
            refine lv (v := (.bool false)) rfl rfl (r_move rfl) ?_
            refine lp (b := false) 61 rfl rfl rfl rfl rfl ?_
            refine lp (b := false) 61 rfl rfl rfl rfl rfl ?_
            refine lv (v := (.bool false)) rfl rfl (r_pickF rfl rfl) ?_
            refine lv (v := (.bool false)) rfl rfl (r_move rfl) ?_
            refine lp (b := false) 65 rfl rfl rfl rfl rfl ?_
            refine lp (b := false) 65 rfl rfl rfl rfl rfl ?_
            refine lp (b := false) 65 rfl rfl rfl rfl rfl ?_
            refine lv (v := (.bool false)) rfl rfl (r_pickF rfl rfl) ?_
            refine lv (v := (.bool false)) rfl rfl (r_move rfl) ?_
            refine lp (b := false) 70 rfl rfl rfl rfl rfl ?_
            refine lp (b := false) 70 rfl rfl rfl rfl rfl ?_
            refine lp (b := false) 70 rfl rfl rfl rfl rfl ?_
            refine lv (v := (.bool false)) rfl rfl (r_pickF rfl rfl) ?_
            refine lv (v := (.bool false)) rfl rfl (r_move rfl) ?_
            refine lp (b := false) 75 rfl rfl rfl rfl rfl ?_
            refine lp (b := false) 75 rfl rfl rfl rfl rfl ?_
            refine lp (b := false) 75 rfl rfl rfl rfl rfl ?_
            refine lv (v := (.bool false)) rfl rfl (r_pickF rfl rfl) ?_
            refine lv (v := (.bool false)) rfl rfl (r_move rfl) ?_
            refine lp (b := false) 80 rfl rfl rfl rfl rfl ?_
            refine lp (b := false) 80 rfl rfl rfl rfl rfl ?_
            refine lp (b := false) 80 rfl rfl rfl rfl rfl ?_
            refine lp (b := false) 80 rfl rfl rfl rfl rfl ?_
            refine lp (b := false) 80 rfl rfl rfl rfl rfl ?_
            refine lv (v := (.bool false)) rfl rfl (r_pickF rfl rfl) ?_
            refine lv (v := (.bool false)) rfl rfl (r_move rfl) ?_
            refine lp (b := false) 87 rfl rfl rfl rfl rfl ?_
            refine lp (b := false) 87 rfl rfl rfl rfl rfl ?_
            refine lv (v := (.bool false)) rfl rfl (r_pickF rfl rfl) ?_
            refine lv (v := (.bool false)) rfl rfl (r_move rfl) ?_
            refine lp (b := false) 91 rfl rfl rfl rfl rfl ?_
            refine lp (b := false) 91 rfl rfl rfl rfl rfl ?_
            refine lv (v := (.bool false)) rfl rfl (r_pickF rfl rfl) ?_
            refine lv (v := (.bool false)) rfl rfl (r_move rfl) ?_
            refine lp (b := false) 95 rfl rfl rfl rfl rfl ?_
            refine lp (b := false) 95 rfl rfl rfl rfl rfl ?_
            refine lp (b := false) 95 rfl rfl rfl rfl rfl ?_
            refine lp (b := false) 95 rfl rfl rfl rfl rfl ?_
            refine lv (v := (.bool false)) rfl rfl (r_pickF rfl rfl) ?_
            refine lv (v := (.bool false)) rfl rfl (r_move rfl) ?_
            refine lp (b := false) 101 rfl rfl rfl rfl rfl ?_
            refine lp (b := false) 101 rfl rfl rfl rfl rfl ?_
            refine lp (b := false) 101 rfl rfl rfl rfl rfl ?_
            refine lv (v := (.bool false)) rfl rfl (r_pickF rfl rfl) ?_
            refine lv (v := (.bool false)) rfl rfl (r_assign rfl) ?_
            refine lnil ?_
            exact ⟨col_591, false, hm, hst, rfl, rfl⟩

set_option maxRecDepth 100000 in
theorem val_credencelaw18_awake : m_credencelaw18_awake 3000000 = some true := by decide +kernel
def w_credencelaw18_awake : Option Bool := some true
theorem k_credencelaw18_awake (col : Col) (w0 : World) (r : Bool) (hm : w_credencelaw18_awake = some r) : Calls Try.prog 29 #[] w0 (fun e w' => e = .returned ((.bool r)) ∧ Below w0.heap.size w0 w') := by
  cases hm
  exact c_credencelaw18_awake 3000000 col w0 true val_credencelaw18_awake



set_option maxRecDepth 100000 in
theorem el3_31 : ElemOk Try.prog 3 1 8 := ⟨Try.t3, _, rfl, rfl, rfl, rfl, rfl⟩

def m_credencelaw18_ints_L1 (N : Nat) (p0_l : (List Int)) : Nat → (List Int) → Int → Option (Nat × (List Int))
  | 0, _, _ => none
  | n_8 + 1, m_11, i_15 => if (decide (i_15 < 9)) = true then (chk ((m_11.length + [IntKind.i64.wrap ((-70) - i_15)].length) * 8 ≤ 140737488355328 ∧ m_11.length + [IntKind.i64.wrap ((-70) - i_15)].length ≤ maxLen) ((m_credencelaw18_ints_L1 N p0_l n_8) (m_11 ++ [IntKind.i64.wrap ((-70) - i_15)]) (IntKind.i64.wrap (i_15 + 1)))) else (chk ((0 : Int) ≤ (p0_l.length : Int) ∧ (p0_l.length : Int) ≤ (m_11.length : Int)) (some ((Int.toNat (p0_l.length : Int)), m_11)))

def m_credencelaw18_ints (N : Nat) (p0_l : (List Int)) : Option (Nat × (List Int)) :=
  chk ((([] : List Int).length + p0_l.length) * 8 ≤ 140737488355328 ∧ ([] : List Int).length + p0_l.length ≤ maxLen) (m_credencelaw18_ints_L1 N p0_l N (([] : List Int) ++ p0_l) 0)

set_option maxRecDepth 100000 in
set_option maxHeartbeats 2000000 in
theorem c_credencelaw18_ints (N : Nat) (c1 : Nat) (col : Col) (w0 : World) (a0 : Option Addr) (cap0 : Nat) (p0_l : (List Int)) (h0 : Sl (Rep.int .i64) col w0 a0 cap0 p0_l) (r : (Nat × (List Int))) (hm : m_credencelaw18_ints N p0_l = some r) :
    Calls Try.prog 31 #[(.slice a0 p0_l.length cap0)] w0 (fun e w' => ∃ (col' : Col) (ra1 : Option Addr) (rc2 : Nat), e = .returned ((.slice ra1 ((r.2.take r.1).length) rc2)) ∧ Grow col w0 col' w' ∧ Own (Rep.int .i64) 3 c1 col' w' ra1 rc2 r.2) := by
  refine calls_of1 2 (m := 21) (args := [(.slice a0 p0_l.length cap0)]) Try.func31 rfl rfl rfl rfl rfl ?_
  rw [m_credencelaw18_ints.eq_1] at hm
  have hst := St.start col w0
  replace h0 := h0.keep (Stay.start col w0)
  refine wseq ?_
  refine wregion ?_
  refine lv (v := (.slice none (([] : List Int).length) 0)) rfl rfl (r_assign rfl) ?_
  refine lnil ?_
  refine wseq ?_
  refine wregion ?_
  refine lv (v := (.slice none (([] : List Int).length) 0)) rfl rfl (r_assign rfl) ?_
  refine lnil ?_
  refine wseq ?_
  refine wregion ?_
  refine lv (v := (.slice none (([] : List Int).length) 0)) rfl rfl (r_move rfl) ?_
  refine lv (v := (.slice a0 p0_l.length cap0)) rfl rfl (r_move rfl) ?_
  obtain ⟨hb_1, hm⟩ := chk_some hm
  refine l_appendM (col := (col0 col)) (w := w0) (r := (Rep.int .i64)) (c := 1) (c2 := 1) (xs := ([] : List Int)) (ys := p0_l) Own.nil h0.srcC rfl Try.underlying22 el3_31 rfl rfl rfl hb_1.1 hb_1.2 (by decide) ?_
  intro a_2 cap_3 w_4 col_5 hk_6 h_7
  replace h0 := h0.kpp hk_6 rfl
  replace hst := hst.kpp hk_6 rfl rfl
  refine lv (v := (.slice a_2 ((([] : List Int) ++ p0_l).length) cap_3)) rfl rfl (r_assign rfl) ?_
  refine lnil ?_
  refine wseq ?_
  refine wseq ?_
  refine wregion ?_
  refine lv (v := (.int .i64 0)) rfl rfl (r_assign rfl) ?_
  refine lnil ?_
  refine wblock ?_
  refine wloop (fun n f w_9 => ∃ (col_10 : Col) (a_12 : Option Addr) (cap_13 : Nat) (m_11 : List Int) (i_15 : Int) (n_8 : Nat), n_8 = n ∧ m_credencelaw18_ints_L1 N p0_l n_8 m_11 i_15 = some r ∧ St w0 (col0 col) col_10 w_9 ∧ Sl (Rep.int .i64) col_10 w_9 a0 cap0 p0_l ∧ Own (Rep.int .i64) 3 1 col_10 w_9 a_12 cap_13 m_11 ∧ f 0 = (.slice a0 p0_l.length cap0) ∧ f 3 = (.slice a_12 m_11.length cap_13) ∧ f 4 = (.int .i64 i_15) ∧ f 1000000 = (enc [])) N ⟨col_5, a_2, cap_3, (([] : List Int) ++ p0_l), 0, N, rfl, hm, hst, h0, h_7, rfl, rfl, rfl, rfl⟩ ?_
  clear hm; intro n f w_9 hI
  obtain ⟨col_10, a_12, cap_13, m_11, i_15, n_8, hn, hm, hst, h0, h_14, hs0, hs3, hs4, hs1000000⟩ := hI
  subst hn
  refine .ld (d := 0) (v := (.slice a0 p0_l.length cap0)) hs0 ?_
  refine .ld (d := 3) (v := (.slice a_12 m_11.length cap_13)) hs3 ?_
  refine .ld (d := 4) (v := (.int .i64 i_15)) hs4 ?_
  refine .ld (d := 1000000) (v := (enc [])) hs1000000 ?_
  clear hs0 hs3 hs4 hs1000000
  cases n_8 with
  | zero => rw [m_credencelaw18_ints_L1.eq_1] at hm; cases hm
  | succ n_8 =>
    rw [m_credencelaw18_ints_L1.eq_2] at hm
    refine wseq ?_
    refine wseq ?_
    refine wregion ?_
    refine lv (v := (.int .i64 i_15)) rfl rfl (r_move rfl) ?_
    refine lv (v := (.bool (decide (i_15 < 9)))) rfl rfl (r_lss i_15 9 rfl rfl) ?_
    refine lnil ?_
    refine wcond (decide (i_15 < 9)) rfl (fun hb => ?_) (fun hb => ?_)
    · rw [if_pos hb] at hm
      clear hb
      refine wskip ?_
      refine wseq ?_
      refine wblock ?_
      refine wregion ?_
      refine lv (v := (.slice a_12 m_11.length cap_13)) rfl rfl (r_move rfl) ?_
      refine lv (v := (.int .i64 i_15)) rfl rfl (r_move rfl) ?_
      refine lv (v := (.int .i64 (IntKind.i64.wrap ((-70) - i_15)))) rfl rfl (r_sub (-70) i_15 rfl rfl) ?_
      refine l_lit (col := col_10) (r := (Rep.int .i64)) (xs := [IntKind.i64.wrap ((-70) - i_15)]) [(.int .i64 (IntKind.i64.wrap ((-70) - i_15)))] 2 rfl Try.underlying22 el3_31 rfl rfl rfl rfl rfl rfl (by intro v hv; simp only [List.mem_cons, List.not_mem_nil, or_false] at hv; subst hv; rfl) (RowsH.ofF (Rows.consF (r := (Rep.int .i64)) (x := IntKind.i64.wrap ((-70) - i_15)) (cs := [(.int .i64 (IntKind.i64.wrap ((-70) - i_15)))]) (rd_int .i64 (IntKind.i64.wrap ((-70) - i_15))) Rows.nil0)) ?_
      intro a_16 w_17 col_18 hg_19 h_20
      replace h0 := h0.gr hg_19
      replace h_14 := h_14.gr hg_19
      replace hst := hst.grow hg_19
      obtain ⟨hb_21, hm⟩ := chk_some hm
      refine l_appendM (col := col_18) (w := w_17) (r := (Rep.int .i64)) (c := 1) (c2 := 1) (xs := m_11) (ys := [IntKind.i64.wrap ((-70) - i_15)]) h_14 (h_20.srcN (NB.int (k := .i64))) rfl Try.underlying22 el3_31 rfl rfl rfl hb_21.1 hb_21.2 (by decide) ?_
      intro a_22 cap_23 w_24 col_25 hk_26 h_27
      replace h0 := h0.kpp hk_26 rfl
      replace h_20 := h_20.kpp hk_26 rfl rfl
      replace hst := hst.kpp hk_26 rfl rfl
      clear h_14
      refine lv (v := (.slice a_22 ((m_11 ++ [IntKind.i64.wrap ((-70) - i_15)]).length) cap_23)) rfl rfl (r_assign rfl) ?_
      refine lnil ?_
      refine wregion ?_
      refine lv (v := (.int .i64 i_15)) rfl rfl (r_move rfl) ?_
      refine lv (v := (.int .i64 (IntKind.i64.wrap (i_15 + 1)))) rfl rfl (r_add i_15 1 rfl rfl) ?_
      refine lv (v := (.int .i64 (IntKind.i64.wrap (i_15 + 1)))) rfl rfl (r_assign rfl) ?_
      refine lnil ?_
      exact ⟨n_8, by omega, ⟨col_25, a_22, cap_23, (m_11 ++ [IntKind.i64.wrap ((-70) - i_15)]), (IntKind.i64.wrap (i_15 + 1)), n_8, rfl, hm, hst, h0, h_27, rfl, rfl, rfl, rfl⟩⟩
    · rw [if_neg (by rw [hb]; decide)] at hm
      clear hb
      refine wexit (inB_hit ?_)
      refine wseq ?_
      refine wregion ?_
      refine lv (v := (.slice a_12 m_11.length cap_13)) rfl rfl (r_move rfl) ?_
      refine lv (v := (.slice a0 p0_l.length cap0)) rfl rfl (r_move rfl) ?_
      refine lv (v := (.int .i64 (p0_l.length : Int))) rfl rfl (r_len Try.underlying22 rfl) ?_
      obtain ⟨hb_28, hm⟩ := chk_some hm
      refine lv (v := .slice a_12 (Int.toNat (p0_l.length : Int)) cap_13) rfl rfl (r_sliceH Try.underlying22 Try.sizeOf3 rfl rfl hb_28.1 (by have := h_14.lecap; have := hb_28.2; omega)) ?_
      refine .ld (d := 20) (v := (.slice a_12 ((m_11.take (Int.toNat (p0_l.length : Int))).length) cap_13)) (congrArg (fun n => Value.slice a_12 n cap_13) (List.length_take_of_le (show (Int.toNat (p0_l.length : Int)) ≤ m_11.length by have := hb_28.2; omega)).symm) ?_
      refine lv (v := (.slice a_12 ((m_11.take (Int.toNat (p0_l.length : Int))).length) cap_13)) rfl rfl (r_assign rfl) ?_
      refine lnil ?_
      refine wret ?_
      cases hm
      exact ⟨rfl, colF w0.heap.size col col_10 (fun n => bif Nat.beq n 1 then c1 else 0), a_12, cap_13, rfl, hst.fin (fun n => bif Nat.beq n 1 then c1 else 0), hst.finOwn (g := (fun n => bif Nat.beq n 1 then c1 else 0)) rfl h_14 (by decide) (by decide) rfl⟩




def m_credenceref18_times_J1 (i_5 : Int) (kk_L1 : (Int → Int → Option Int)) (n_8 : Int) : Option Int :=
  kk_L1 n_8 (IntKind.i64.wrap (i_5 + 1))

def m_credenceref18_times_L1 (N : Nat) (p0_l : (List Int)) (p1_x : Int) : Nat → Int → Int → Option Int
  | 0, _, _ => none
  | n_1 + 1, n_4, i_5 => if (decide (i_5 < (p0_l.length : Int))) = true then ((at? p0_l i_5).bind fun e_9 => if (decide (e_9 = p1_x)) = true then (m_credenceref18_times_J1 i_5 (m_credenceref18_times_L1 N p0_l p1_x n_1) (IntKind.i64.wrap (n_4 + 1))) else (m_credenceref18_times_J1 i_5 (m_credenceref18_times_L1 N p0_l p1_x n_1) n_4)) else (some n_4)

def m_credenceref18_times (N : Nat) (p0_l : (List Int)) (p1_x : Int) : Option Int :=
  m_credenceref18_times_L1 N p0_l p1_x N 0 0

set_option maxRecDepth 100000 in
set_option maxHeartbeats 2000000 in
theorem c_credenceref18_times (N : Nat) (col : Col) (w0 : World) (a0 : Option Addr) (cap0 : Nat) (p0_l : (List Int)) (p1_x : Int) (h0 : Sl (Rep.int .i64) col w0 a0 cap0 p0_l) (r : Int) (hm : m_credenceref18_times N p0_l p1_x = some r) :
    Calls Try.prog 83 #[(.slice a0 p0_l.length cap0), (.int .i64 p1_x)] w0 (fun e w' => e = .returned ((.int .i64 r)) ∧ Below w0.heap.size w0 w') := by
  refine calls_of1 4 (m := 22) (args := [(.slice a0 p0_l.length cap0), (.int .i64 p1_x)]) Try.func83 rfl rfl rfl rfl rfl ?_
  rw [m_credenceref18_times.eq_1] at hm
  have hst := St.start col w0
  replace h0 := h0.keep (Stay.start col w0)
  refine wseq ?_
  refine wregion ?_
  refine lv (v := (.int .i64 0)) rfl rfl (r_assign rfl) ?_
  refine lnil ?_
  refine wseq ?_
  refine wregion ?_
  refine lv (v := (.int .i64 0)) rfl rfl (r_assign rfl) ?_
  refine lnil ?_
  refine wseq ?_
  refine wseq ?_
  refine wregion ?_
  refine lv (v := (.int .i64 0)) rfl rfl (r_assign rfl) ?_
  refine lnil ?_
  refine wblock ?_
  refine wloop (fun n f w_2 => ∃ (col_3 : Col) (n_4 : Int) (i_5 : Int) (n_1 : Nat), n_1 = n ∧ m_credenceref18_times_L1 N p0_l p1_x n_1 n_4 i_5 = some r ∧ St w0 (col0 col) col_3 w_2 ∧ Sl (Rep.int .i64) col_3 w_2 a0 cap0 p0_l ∧ f 0 = (.slice a0 p0_l.length cap0) ∧ f 1 = (.int .i64 p1_x) ∧ f 5 = (.int .i64 n_4) ∧ f 6 = (.int .i64 i_5) ∧ f 1000000 = (enc [])) N ⟨(col0 col), 0, 0, N, rfl, hm, hst, h0, rfl, rfl, rfl, rfl, rfl⟩ ?_
  clear hm; intro n f w_2 hI
  obtain ⟨col_3, n_4, i_5, n_1, hn, hm, hst, h0, hs0, hs1, hs5, hs6, hs1000000⟩ := hI
  subst hn
  refine .ld (d := 0) (v := (.slice a0 p0_l.length cap0)) hs0 ?_
  refine .ld (d := 1) (v := (.int .i64 p1_x)) hs1 ?_
  refine .ld (d := 5) (v := (.int .i64 n_4)) hs5 ?_
  refine .ld (d := 6) (v := (.int .i64 i_5)) hs6 ?_
  refine .ld (d := 1000000) (v := (enc [])) hs1000000 ?_
  clear hs0 hs1 hs5 hs6 hs1000000
  cases n_1 with
  | zero => rw [m_credenceref18_times_L1.eq_1] at hm; cases hm
  | succ n_1 =>
    rw [m_credenceref18_times_L1.eq_2] at hm
    refine wseq ?_
    refine wseq ?_
    refine wregion ?_
    refine lv (v := (.int .i64 i_5)) rfl rfl (r_move rfl) ?_
    refine lv (v := (.slice a0 p0_l.length cap0)) rfl rfl (r_move rfl) ?_
    refine lv (v := (.int .i64 (p0_l.length : Int))) rfl rfl (r_len Try.underlying22 rfl) ?_
    refine lv (v := (.bool (decide (i_5 < (p0_l.length : Int))))) rfl rfl (r_lss i_5 (p0_l.length : Int) rfl rfl) ?_
    refine lnil ?_
    refine wcond (decide (i_5 < (p0_l.length : Int))) rfl (fun hb => ?_) (fun hb => ?_)
    · rw [if_pos hb] at hm
      clear hb
      refine wskip ?_
      refine wseq ?_
      refine Wp.cut (fun f w_6 => ∃ (col_7 : Col) (n_8 : Int), m_credenceref18_times_J1 i_5 (m_credenceref18_times_L1 N p0_l p1_x n_1) n_8 = some r ∧ St w0 (col0 col) col_7 w_6 ∧ Sl (Rep.int .i64) col_7 w_6 a0 cap0 p0_l ∧ f 0 = (.slice a0 p0_l.length cap0) ∧ f 1 = (.int .i64 p1_x) ∧ f 5 = (.int .i64 n_8) ∧ f 6 = (.int .i64 i_5) ∧ f 1000000 = (enc [])) ?_ ?_
      · intro f w_6 hJ
        obtain ⟨col_7, n_8, hm, hst, h0, hs0, hs1, hs5, hs6, hs1000000⟩ := hJ
        rw [m_credenceref18_times_J1.eq_1] at hm
        refine .ld (d := 0) (v := (.slice a0 p0_l.length cap0)) hs0 ?_
        refine .ld (d := 1) (v := (.int .i64 p1_x)) hs1 ?_
        refine .ld (d := 5) (v := (.int .i64 n_8)) hs5 ?_
        refine .ld (d := 6) (v := (.int .i64 i_5)) hs6 ?_
        refine .ld (d := 1000000) (v := (enc [])) hs1000000 ?_
        clear hs0 hs1 hs5 hs6 hs1000000
        refine wregion ?_
        refine lv (v := (.int .i64 i_5)) rfl rfl (r_move rfl) ?_
        refine lv (v := (.int .i64 (IntKind.i64.wrap (i_5 + 1)))) rfl rfl (r_add i_5 1 rfl rfl) ?_
        refine lv (v := (.int .i64 (IntKind.i64.wrap (i_5 + 1)))) rfl rfl (r_assign rfl) ?_
        refine lnil ?_
        exact ⟨n_1, by omega, ⟨col_7, n_8, (IntKind.i64.wrap (i_5 + 1)), n_1, rfl, hm, hst, h0, rfl, rfl, rfl, rfl, rfl⟩⟩
      · refine wblock ?_
        refine wseq ?_
        refine wregion ?_
        refine lv (v := (.slice a0 p0_l.length cap0)) rfl rfl (r_move rfl) ?_
        refine lv (v := (.int .i64 i_5)) rfl rfl (r_move rfl) ?_
        obtain ⟨e_9, hj_10, hm⟩ := bind_some hm
        refine lv (v := (sptr a0 (Int.toNat i_5 * 1))) rfl rfl (r_idx Try.underlying22 Try.sizeOf3 rfl rfl (at?_some hj_10).1 (at?_some hj_10).2.1 (h0.addr hj_10)) ?_
        refine lv (v := (.int .i64 e_9)) rfl rfl (r_ld Try.isAgg3 rfl (h0.atInt hj_10)) ?_
        refine lv (v := (.int .i64 p1_x)) rfl rfl (r_move rfl) ?_
        refine lv (v := (.bool (decide (e_9 = p1_x)))) rfl rfl (r_eql e_9 p1_x rfl rfl) ?_
        refine lnil ?_
        refine wcond (decide (e_9 = p1_x)) rfl (fun hb => ?_) (fun hb => ?_)
        · rw [if_pos hb] at hm
          clear hb
          refine wregion ?_
          refine lv (v := (.int .i64 n_4)) rfl rfl (r_move rfl) ?_
          refine lv (v := (.int .i64 (IntKind.i64.wrap (n_4 + 1)))) rfl rfl (r_add n_4 1 rfl rfl) ?_
          refine lv (v := (.int .i64 (IntKind.i64.wrap (n_4 + 1)))) rfl rfl (r_assign rfl) ?_
          refine lnil ?_
          exact ⟨col_3, (IntKind.i64.wrap (n_4 + 1)), hm, hst, h0, rfl, rfl, rfl, rfl, rfl⟩
        · rw [if_neg (by rw [hb]; decide)] at hm
          clear hb
          refine wskip ?_
          exact ⟨col_3, n_4, hm, hst, h0, rfl, rfl, rfl, rfl, rfl⟩
    · rw [if_neg (by rw [hb]; decide)] at hm
      clear hb
      refine wexit (inB_hit ?_)
      refine wseq ?_
      refine wregion ?_
      refine lv (v := (.int .i64 n_4)) rfl rfl (r_move rfl) ?_
      refine lv (v := (.int .i64 n_4)) rfl rfl (r_assign rfl) ?_
      refine lnil ?_
      refine wret ?_
      cases hm
      exact ⟨rfl, rfl, hst.below⟩


end Go.Proofs.Ytgkofjmeopbkbaa
