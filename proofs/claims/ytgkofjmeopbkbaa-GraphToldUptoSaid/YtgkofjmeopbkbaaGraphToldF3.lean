/-
  What functions of the program compute, as plain Lean functions (m_..), and proofs that they compute it (c_..). Printed by a program of the author; no conditions.
-/
import Derived.Test.YtgkofjmeopbkbaaGraphToldBFloat
import Derived.Test.YtgkofjmeopbkbaaProg
import Derived.Test.YtgkofjmeopbkbaaGraphToldBGraph
import Derived.Test.YtgkofjmeopbkbaaGraphToldF2
set_option linter.unusedVariables false
namespace Go.Proofs.Ytgkofjmeopbkbaa
open Go Go.RowKit


set_option maxRecDepth 100000 in
theorem el3_12 : ElemOk Try.prog 3 1 8 := ⟨Try.t3, _, rfl, rfl, rfl, rfl, rfl⟩
set_option maxRecDepth 100000 in
theorem el22_12 : ElemOk Try.prog 22 1 24 := ⟨Try.t22, _, rfl, rfl, rfl, rfl, rfl⟩

def m_l15_awake_J1 (v_26 : Bool) : Option Bool :=
  if v_26 = true then (some false) else none

def m_l15_awake_J3 (v_58 : Bool) : Option Bool :=
  if v_58 = true then (some false) else none

def m_l15_awake_J5 (v_126 : Bool) : Option Bool :=
  some v_126

def m_l15_awake_L1 (N : Nat) (r_32 : ((List Int) × (List (Int × Int)) × List (List Bool))) : Nat → (List (List Bool)) → Int → Option Bool
  | 0, _, _ => none
  | n_68 + 1, h_71, i_73 => if (decide (i_73 < 4)) = true then ((m_graph_Graph_Join h_71 i_73 (Int.tmod (IntKind.i64.wrap (i_73 + 1)) 4)).bind fun r_74 => (m_l15_awake_L1 N r_32 n_68) r_74.2 (IntKind.i64.wrap (i_73 + 1))) else ((m_graph_Graph_Chordal N h_71).bind fun r_80 => (m_graph_Graph_Remove N h_71 0).bind fun r_84 => if (decide ((r_32.1.length : Int) = 3)) = true then (if (decide ((r_32.2.1.length : Int) = 0)) = true then ((m_graph_Graph_Has r_32.2.2 0 1).bind fun r_129 => if r_129 = true then ((m_graph_Graph_Has r_32.2.2 0 2).bind fun r_134 => if (!r_134) = true then (if (!r_80) = true then (if (decide ((r_84.1.length : Int) = 3)) = true then (if (decide ((r_84.2.1.length : Int) = 1)) = true then ((m_graph_Graph_Chordal N r_84.2.2).bind fun r_142 => if r_142 = true then ((m_graph_Graph_Pieces N r_84.2.2).bind fun r_147 => m_l15_awake_J5 (decide ((r_147.length : Int) = 2))) else (m_l15_awake_J5 false)) else (m_l15_awake_J5 false)) else (m_l15_awake_J5 false)) else (m_l15_awake_J5 false)) else (m_l15_awake_J5 false)) else (m_l15_awake_J5 false)) else (m_l15_awake_J5 false)) else (m_l15_awake_J5 false))

def m_l15_awake_J4 (N : Nat) (r_32 : ((List Int) × (List (Int × Int)) × List (List Bool))) (t_51 : List (List Bool)) (v_67 : Bool) : Option Bool :=
  if v_67 = true then (some false) else (m_l15_awake_L1 N r_32 N t_51 0)

def m_l15_awake_J2 (N : Nat) (t_19 : List (List Bool)) (v_31 : Bool) : Option Bool :=
  if v_31 = true then (some false) else ((m_graph_Graph_Remove N t_19 2).bind fun r_32 => (m_graph_New 4).bind fun r_44 => optC (r_44.1) (if (!decide (r_44.2 = 0)) = true then (m_l15_awake_J3 true) else (m_l15_awake_J3 true)) (fun t_51 => if (!decide (r_44.2 = 0)) = true then (m_l15_awake_J4 N r_32 t_51 true) else (m_l15_awake_J4 N r_32 t_51 false)))

def m_l15_awake (N : Nat)  : Option Bool :=
  (m_graph_Moral N [([] : List Int), ([] : List Int), [0, 1]]).bind fun r_12 => optC (r_12.1) (if (!decide (r_12.2 = 0)) = true then (m_l15_awake_J1 true) else (m_l15_awake_J1 true)) (fun t_19 => if (!decide (r_12.2 = 0)) = true then (m_l15_awake_J2 N t_19 true) else (m_l15_awake_J2 N t_19 false))

set_option maxRecDepth 100000 in
set_option maxHeartbeats 2000000 in
theorem c_l15_awake (N : Nat) (col : Col) (w0 : World)  (r : Bool) (hm : m_l15_awake N = some r) :
    Calls Try.prog 12 #[] w0 (fun e w' => e = .returned ((.bool r)) ∧ Below w0.heap.size w0 w') := by
  refine calls_of1 0 (m := 96) (args := []) Try.func12 rfl rfl rfl rfl rfl ?_
  rw [m_l15_awake.eq_1] at hm
  have hst := St.start col w0
  refine wseq ?_
  refine wregion ?_
  refine lv (v := (.bool false)) rfl rfl (r_assign rfl) ?_
  refine lnil ?_
  refine wseq ?_
  refine wregion ?_
  refine l_lit (col := (col0 col)) (r := (Rep.int .i64)) (xs := [0, 1]) [(.int .i64 0), (.int .i64 1)] 1 rfl Try.underlying22 el3_12 rfl rfl rfl rfl rfl rfl (by intro v hv; simp only [List.mem_cons, List.not_mem_nil, or_false] at hv; rcases hv with rfl | rfl <;> rfl) (RowsH.ofF (Rows.consF (r := (Rep.int .i64)) (x := 0) (cs := [(.int .i64 0)]) (rd_int .i64 0) (Rows.consF (r := (Rep.int .i64)) (x := 1) (cs := [(.int .i64 1)]) (rd_int .i64 1) Rows.nil0))) ?_
  intro a_1 w_2 col_3 hg_4 h_5
  replace hst := hst.grow hg_4
  have hx_6 : Has (Rep.row 3 (Rep.int .i64)) 1 col_3 w_2 [(.slice a_1 ([0, 1].length) 2)] [0, 1] := h_5.has
  refine l_lit (col := col_3) (r := (Rep.row 3 (Rep.int .i64))) (xs := [([] : List Int), ([] : List Int), [0, 1]]) [(.slice none (([] : List Int).length) 0), (.slice none (([] : List Int).length) 0), (.slice a_1 ([0, 1].length) 2)] 1 rfl Try.underlying33 el22_12 rfl rfl rfl rfl rfl rfl (by intro v hv; simp only [List.mem_cons, List.not_mem_nil, or_false] at hv; rcases hv with rfl | rfl | rfl <;> rfl) (RowsH.consF (r := (Rep.row 3 (Rep.int .i64))) (x := ([] : List Int)) (cs := [(.slice none (([] : List Int).length) 0)]) rd_nilrow (RowsH.consF (r := (Rep.row 3 (Rep.int .i64))) (x := ([] : List Int)) (cs := [(.slice none (([] : List Int).length) 0)]) rd_nilrow (RowsH.cons1 (cs := [(.slice a_1 ([0, 1].length) 2)]) hx_6 Rows.nil0))) ?_
  intro a_7 w_8 col_9 hg_10 h_11
  replace h_5 := h_5.gr hg_10
  replace hst := hst.grow hg_10
  replace h_11 := (h_11).toSlF (Froz.row (Froz.int .i64))
  replace hst := hst.froz 1 (by decide) (by decide)
  obtain ⟨r_12, hr_13, hm⟩ := bind_some hm
  refine lc rfl rfl (r_call1 Try.call50 rfl) (c_graph_Moral N 2 (frC 1 col_9) _ a_7 3 [([] : List Int), ([] : List Int), [0, 1]] h_11 r_12 hr_13) ?_
  rintro _ w_16 ⟨col_18, rv_14, rfl, hg_17, rh_15⟩
  refine ⟨_, rfl, ?_⟩
  replace h_11 := h_11.gr hg_17
  replace hst := hst.grow hg_17
  cases hx_20 : r_12.1 with
  | none =>
    rw [hx_20] at hm rh_15
    replace hm := optC_none hm
    obtain rfl := optP_none rh_15
    clear rh_15
    refine lv (v := (.tuple #[(.pointer none), (.int .i64 r_12.2)])) rfl rfl (r_move rfl) ?_
    refine lv (v := (.pointer none)) rfl rfl (r_extract rfl rfl) ?_
    refine lv (v := (.int .i64 r_12.2)) rfl rfl (r_extract rfl rfl) ?_
    refine lv (v := (.pointer none)) rfl rfl (r_assign rfl) ?_
    refine lv (v := (.int .i64 r_12.2)) rfl rfl (r_assign rfl) ?_
    refine lnil ?_
    refine wseq ?_
    refine wseq ?_
    refine Wp.cut (fun f w_24 => ∃ (col_25 : Col) (v_26 : Bool), m_l15_awake_J1 v_26 = some r ∧ St w0 (col0 col) col_25 w_24 ∧ f 1 = (.pointer none) ∧ f 22 = (.bool v_26) ∧ f 1000000 = (enc [])) ?_ ?_
    · intro f w_24 hJ
      obtain ⟨col_25, v_26, hm, hst, hs1, hs22, hs1000000⟩ := hJ
      rw [m_l15_awake_J1.eq_1] at hm
      refine .ld (d := 1) (v := (.pointer none)) hs1 ?_
      refine .ld (d := 22) (v := (.bool v_26)) hs22 ?_
      refine .ld (d := 1000000) (v := (enc [])) hs1000000 ?_
      clear hs1 hs22 hs1000000
      refine wcond (v_26) rfl (fun hb => ?_) (fun hb => ?_)
      · rw [if_pos hb] at hm
        clear hb
        refine wseq ?_
        refine wregion ?_
        refine lv (v := (.bool false)) rfl rfl (r_assign rfl) ?_
        refine lnil ?_
        refine wret ?_
        cases hm
        exact ⟨rfl, rfl, hst.below⟩
      · rw [if_neg (by rw [hb]; decide)] at hm
        clear hb
        refine wskip ?_
        refine wseq ?_
        refine wregion ?_
        refine lv (v := (.pointer none)) rfl rfl (r_move rfl) ?_
        cases hm
    · refine wregion ?_
      refine lv (v := (.int .i64 r_12.2)) rfl rfl (r_move rfl) ?_
      refine lv (v := (.bool (!decide (r_12.2 = 0)))) rfl rfl (r_neq r_12.2 0 rfl rfl) ?_
      refine lv (v := (.bool (!decide (r_12.2 = 0)))) rfl rfl (r_move rfl) ?_
      by_cases hg_27 : (!decide (r_12.2 = 0)) = true
      · rw [if_pos hg_27] at hm
        refine lp (b := !decide (r_12.2 = 0)) 19 rfl rfl rfl rfl (by rw [hg_27]; rfl) ?_
        refine lp (b := !decide (r_12.2 = 0)) 19 rfl rfl rfl rfl (by rw [hg_27]; rfl) ?_
        refine lv (v := (.bool true)) rfl rfl (r_pickT (congrArg Value.bool hg_27) rfl) ?_
        refine lnil ?_
        exact ⟨col_18, true, hm, hst, rfl, rfl, rfl⟩
      · rw [if_neg hg_27] at hm
        replace hg_27 := Bool.eq_false_iff.2 hg_27
        refine lg (b := !decide (r_12.2 = 0)) 19 rfl rfl rfl (by rw [hg_27]; rfl) ?_
        refine lv (v := (.pointer none)) rfl rfl (r_move rfl) ?_
        refine lg (b := !decide (r_12.2 = 0)) 19 rfl rfl rfl (by rw [hg_27]; rfl) ?_
        refine lv (v := (.bool true)) rfl rfl (r_eqlP0 ⟨_, Try.underlying24⟩ rfl rfl) ?_
        refine lv (v := (.bool true)) rfl rfl (r_pickF (congrArg Value.bool hg_27) rfl) ?_
        refine lnil ?_
        exact ⟨col_18, true, hm, hst, rfl, rfl, rfl⟩
  | some t_19 =>
    rw [hx_20] at hm rh_15
    replace hm := optC_some hm
    obtain ⟨o_21, rfl, hG_22⟩ := optP_some rh_15
    refine lv (v := (.tuple #[(.pointer (some ⟨o_21.g, 0, none⟩)), (.int .i64 r_12.2)])) rfl rfl (r_move rfl) ?_
    refine lv (v := (.pointer (some ⟨o_21.g, 0, none⟩))) rfl rfl (r_extract rfl rfl) ?_
    refine lv (v := (.int .i64 r_12.2)) rfl rfl (r_extract rfl rfl) ?_
    refine lv (v := (.pointer (some ⟨o_21.g, 0, none⟩))) rfl rfl (r_assign rfl) ?_
    refine lv (v := (.int .i64 r_12.2)) rfl rfl (r_assign rfl) ?_
    refine lnil ?_
    refine wseq ?_
    refine wseq ?_
    refine Wp.cut (fun f w_29 => ∃ (col_30 : Col) (v_31 : Bool), m_l15_awake_J2 N t_19 v_31 = some r ∧ St w0 (col0 col) col_30 w_29 ∧ GO 85 86 2 col_30 w_29 o_21 t_19 ∧ f 1 = (.pointer (some ⟨o_21.g, 0, none⟩)) ∧ f 22 = (.bool v_31) ∧ f 1000000 = (enc [])) ?_ ?_
    · intro f w_29 hJ
      obtain ⟨col_30, v_31, hm, hst, hG_22, hs1, hs22, hs1000000⟩ := hJ
      rw [m_l15_awake_J2.eq_1] at hm
      refine .ld (d := 1) (v := (.pointer (some ⟨o_21.g, 0, none⟩))) hs1 ?_
      refine .ld (d := 22) (v := (.bool v_31)) hs22 ?_
      refine .ld (d := 1000000) (v := (enc [])) hs1000000 ?_
      clear hs1 hs22 hs1000000
      refine wcond (v_31) rfl (fun hb => ?_) (fun hb => ?_)
      · rw [if_pos hb] at hm
        clear hb
        refine wseq ?_
        refine wregion ?_
        refine lv (v := (.bool false)) rfl rfl (r_assign rfl) ?_
        refine lnil ?_
        refine wret ?_
        cases hm
        exact ⟨rfl, rfl, hst.below⟩
      · rw [if_neg (by rw [hb]; decide)] at hm
        clear hb
        refine wskip ?_
        refine wseq ?_
        refine wregion ?_
        refine lv (v := (.pointer (some ⟨o_21.g, 0, none⟩))) rfl rfl (r_move rfl) ?_
        obtain ⟨r_32, hr_33, hm⟩ := bind_some hm
        refine lc rfl rfl (r_call2 Try.call17 rfl rfl) (c_graph_Graph_Remove N 3 4 col_30 _ 2 rfl o_21 t_19 2 hG_22 r_32 hr_33) ?_
        rintro _ w_41 ⟨col_43, ra_34, rc_35, ra_37, rc_38, rfl, hg_42, rh_36, rh_39, oh_40⟩
        refine ⟨_, rfl, ?_⟩
        replace hst := hst.kpp hg_42 rfl rfl
        clear hG_22
        refine lv (v := (.tuple #[(.slice ra_34 r_32.1.length rc_35), (.slice ra_37 r_32.2.1.length rc_38)])) rfl rfl (r_move rfl) ?_
        refine lv (v := (.slice ra_34 r_32.1.length rc_35)) rfl rfl (r_extract rfl rfl) ?_
        refine lv (v := (.slice ra_37 r_32.2.1.length rc_38)) rfl rfl (r_extract rfl rfl) ?_
        refine lv (v := (.slice ra_34 r_32.1.length rc_35)) rfl rfl (r_assign rfl) ?_
        refine lv (v := (.slice ra_37 r_32.2.1.length rc_38)) rfl rfl (r_assign rfl) ?_
        refine lnil ?_
        refine wseq ?_
        refine wregion ?_
        obtain ⟨r_44, hr_45, hm⟩ := bind_some hm
        refine lc rfl rfl (r_call1 Try.call51 rfl) (c_graph_New 5 col_43 _ 4 r_44 hr_45) ?_
        rintro _ w_48 ⟨col_50, rv_46, rfl, hg_49, rh_47⟩
        refine ⟨_, rfl, ?_⟩
        replace oh_40 := oh_40.gr hg_49
        replace rh_36 := rh_36.gr hg_49
        replace rh_39 := rh_39.gr hg_49
        replace hst := hst.grow hg_49
        cases hx_52 : r_44.1 with
        | none =>
          rw [hx_52] at hm rh_47
          replace hm := optC_none hm
          obtain rfl := optP_none rh_47
          clear rh_47
          refine lv (v := (.tuple #[(.pointer none), (.int .i64 r_44.2)])) rfl rfl (r_move rfl) ?_
          refine lv (v := (.pointer none)) rfl rfl (r_extract rfl rfl) ?_
          refine lv (v := (.int .i64 r_44.2)) rfl rfl (r_extract rfl rfl) ?_
          refine lv (v := (.pointer none)) rfl rfl (r_assign rfl) ?_
          refine lv (v := (.int .i64 r_44.2)) rfl rfl (r_assign rfl) ?_
          refine lnil ?_
          refine wseq ?_
          refine wseq ?_
          refine Wp.cut (fun f w_56 => ∃ (col_57 : Col) (v_58 : Bool), m_l15_awake_J3 v_58 = some r ∧ St w0 (col0 col) col_57 w_56 ∧ GO 85 86 2 col_57 w_56 o_21 r_32.2.2 ∧ Own (Rep.int .i64) 3 3 col_57 w_56 ra_34 rc_35 r_32.1 ∧ Own (Rep.pair (Rep.int .i64) (Rep.int .i64)) 47 4 col_57 w_56 ra_37 rc_38 r_32.2.1 ∧ f 1 = (.pointer (some ⟨o_21.g, 0, none⟩)) ∧ f 3 = (.slice ra_34 r_32.1.length rc_35) ∧ f 37 = (.bool v_58) ∧ f 4 = (.slice ra_37 r_32.2.1.length rc_38) ∧ f 5 = (.pointer none) ∧ f 1000000 = (enc [])) ?_ ?_
          · intro f w_56 hJ
            obtain ⟨col_57, v_58, hm, hst, oh_40, rh_36, rh_39, hs1, hs3, hs37, hs4, hs5, hs1000000⟩ := hJ
            rw [m_l15_awake_J3.eq_1] at hm
            refine .ld (d := 1) (v := (.pointer (some ⟨o_21.g, 0, none⟩))) hs1 ?_
            refine .ld (d := 3) (v := (.slice ra_34 r_32.1.length rc_35)) hs3 ?_
            refine .ld (d := 37) (v := (.bool v_58)) hs37 ?_
            refine .ld (d := 4) (v := (.slice ra_37 r_32.2.1.length rc_38)) hs4 ?_
            refine .ld (d := 5) (v := (.pointer none)) hs5 ?_
            refine .ld (d := 1000000) (v := (enc [])) hs1000000 ?_
            clear hs1 hs3 hs37 hs4 hs5 hs1000000
            refine wcond (v_58) rfl (fun hb => ?_) (fun hb => ?_)
            · rw [if_pos hb] at hm
              clear hb
              refine wseq ?_
              refine wregion ?_
              refine lv (v := (.bool false)) rfl rfl (r_assign rfl) ?_
              refine lnil ?_
              refine wret ?_
              cases hm
              exact ⟨rfl, rfl, hst.below⟩
            · rw [if_neg (by rw [hb]; decide)] at hm
              clear hb
              cases hm
          · refine wregion ?_
            refine lv (v := (.int .i64 r_44.2)) rfl rfl (r_move rfl) ?_
            refine lv (v := (.bool (!decide (r_44.2 = 0)))) rfl rfl (r_neq r_44.2 0 rfl rfl) ?_
            refine lv (v := (.bool (!decide (r_44.2 = 0)))) rfl rfl (r_move rfl) ?_
            by_cases hg_63 : (!decide (r_44.2 = 0)) = true
            · rw [if_pos hg_63] at hm
              refine lp (b := !decide (r_44.2 = 0)) 34 rfl rfl rfl rfl (by rw [hg_63]; rfl) ?_
              refine lp (b := !decide (r_44.2 = 0)) 34 rfl rfl rfl rfl (by rw [hg_63]; rfl) ?_
              refine lv (v := (.bool true)) rfl rfl (r_pickT (congrArg Value.bool hg_63) rfl) ?_
              refine lnil ?_
              exact ⟨col_50, true, hm, hst, oh_40, rh_36, rh_39, rfl, rfl, rfl, rfl, rfl, rfl⟩
            · rw [if_neg hg_63] at hm
              replace hg_63 := Bool.eq_false_iff.2 hg_63
              refine lg (b := !decide (r_44.2 = 0)) 34 rfl rfl rfl (by rw [hg_63]; rfl) ?_
              refine lv (v := (.pointer none)) rfl rfl (r_move rfl) ?_
              refine lg (b := !decide (r_44.2 = 0)) 34 rfl rfl rfl (by rw [hg_63]; rfl) ?_
              refine lv (v := (.bool true)) rfl rfl (r_eqlP0 ⟨_, Try.underlying24⟩ rfl rfl) ?_
              refine lv (v := (.bool true)) rfl rfl (r_pickF (congrArg Value.bool hg_63) rfl) ?_
              refine lnil ?_
              exact ⟨col_50, true, hm, hst, oh_40, rh_36, rh_39, rfl, rfl, rfl, rfl, rfl, rfl⟩
        | some t_51 =>
          rw [hx_52] at hm rh_47
          replace hm := optC_some hm
          obtain ⟨o_53, rfl, hG_54⟩ := optP_some rh_47
          refine lv (v := (.tuple #[(.pointer (some ⟨o_53.g, 0, none⟩)), (.int .i64 r_44.2)])) rfl rfl (r_move rfl) ?_
          refine lv (v := (.pointer (some ⟨o_53.g, 0, none⟩))) rfl rfl (r_extract rfl rfl) ?_
          refine lv (v := (.int .i64 r_44.2)) rfl rfl (r_extract rfl rfl) ?_
          refine lv (v := (.pointer (some ⟨o_53.g, 0, none⟩))) rfl rfl (r_assign rfl) ?_
          refine lv (v := (.int .i64 r_44.2)) rfl rfl (r_assign rfl) ?_
          refine lnil ?_
          refine wseq ?_
          refine wseq ?_
          refine Wp.cut (fun f w_65 => ∃ (col_66 : Col) (v_67 : Bool), m_l15_awake_J4 N r_32 t_51 v_67 = some r ∧ St w0 (col0 col) col_66 w_65 ∧ GO 85 86 2 col_66 w_65 o_21 r_32.2.2 ∧ Own (Rep.int .i64) 3 3 col_66 w_65 ra_34 rc_35 r_32.1 ∧ Own (Rep.pair (Rep.int .i64) (Rep.int .i64)) 47 4 col_66 w_65 ra_37 rc_38 r_32.2.1 ∧ GO 85 86 5 col_66 w_65 o_53 t_51 ∧ f 1 = (.pointer (some ⟨o_21.g, 0, none⟩)) ∧ f 3 = (.slice ra_34 r_32.1.length rc_35) ∧ f 37 = (.bool v_67) ∧ f 4 = (.slice ra_37 r_32.2.1.length rc_38) ∧ f 5 = (.pointer (some ⟨o_53.g, 0, none⟩)) ∧ f 1000000 = (enc [])) ?_ ?_
          · intro f w_65 hJ
            obtain ⟨col_66, v_67, hm, hst, oh_40, rh_36, rh_39, hG_54, hs1, hs3, hs37, hs4, hs5, hs1000000⟩ := hJ
            rw [m_l15_awake_J4.eq_1] at hm
            refine .ld (d := 1) (v := (.pointer (some ⟨o_21.g, 0, none⟩))) hs1 ?_
            refine .ld (d := 3) (v := (.slice ra_34 r_32.1.length rc_35)) hs3 ?_
            refine .ld (d := 37) (v := (.bool v_67)) hs37 ?_
            refine .ld (d := 4) (v := (.slice ra_37 r_32.2.1.length rc_38)) hs4 ?_
            refine .ld (d := 5) (v := (.pointer (some ⟨o_53.g, 0, none⟩))) hs5 ?_
            refine .ld (d := 1000000) (v := (enc [])) hs1000000 ?_
            clear hs1 hs3 hs37 hs4 hs5 hs1000000
            refine wcond (v_67) rfl (fun hb => ?_) (fun hb => ?_)
            · rw [if_pos hb] at hm
              clear hb
              refine wseq ?_
              refine wregion ?_
              refine lv (v := (.bool false)) rfl rfl (r_assign rfl) ?_
              refine lnil ?_
              refine wret ?_
              cases hm
              exact ⟨rfl, rfl, hst.below⟩
            · rw [if_neg (by rw [hb]; decide)] at hm
              clear hb
              refine wskip ?_
              refine wseq ?_
              refine wseq ?_
              refine wregion ?_
              refine lv (v := (.int .i64 0)) rfl rfl (r_assign rfl) ?_
              refine lnil ?_
              refine wblock ?_
              refine wloop (fun n f w_69 => ∃ (col_70 : Col) (h_71 : List (List Bool)) (i_73 : Int) (n_68 : Nat), n_68 = n ∧ m_l15_awake_L1 N r_32 n_68 h_71 i_73 = some r ∧ St w0 (col0 col) col_70 w_69 ∧ GO 85 86 2 col_70 w_69 o_21 r_32.2.2 ∧ Own (Rep.int .i64) 3 3 col_70 w_69 ra_34 rc_35 r_32.1 ∧ Own (Rep.pair (Rep.int .i64) (Rep.int .i64)) 47 4 col_70 w_69 ra_37 rc_38 r_32.2.1 ∧ GO 85 86 5 col_70 w_69 o_53 h_71 ∧ f 1 = (.pointer (some ⟨o_21.g, 0, none⟩)) ∧ f 3 = (.slice ra_34 r_32.1.length rc_35) ∧ f 4 = (.slice ra_37 r_32.2.1.length rc_38) ∧ f 5 = (.pointer (some ⟨o_53.g, 0, none⟩)) ∧ f 7 = (.int .i64 i_73) ∧ f 1000000 = (enc [])) N ⟨col_66, t_51, 0, N, rfl, hm, hst, oh_40, rh_36, rh_39, hG_54, rfl, rfl, rfl, rfl, rfl, rfl⟩ ?_
              clear hm; intro n f w_69 hI
              obtain ⟨col_70, h_71, i_73, n_68, hn, hm, hst, oh_40, rh_36, rh_39, h_72, hs1, hs3, hs4, hs5, hs7, hs1000000⟩ := hI
              subst hn
              refine .ld (d := 1) (v := (.pointer (some ⟨o_21.g, 0, none⟩))) hs1 ?_
              refine .ld (d := 3) (v := (.slice ra_34 r_32.1.length rc_35)) hs3 ?_
              refine .ld (d := 4) (v := (.slice ra_37 r_32.2.1.length rc_38)) hs4 ?_
              refine .ld (d := 5) (v := (.pointer (some ⟨o_53.g, 0, none⟩))) hs5 ?_
              refine .ld (d := 7) (v := (.int .i64 i_73)) hs7 ?_
              refine .ld (d := 1000000) (v := (enc [])) hs1000000 ?_
              clear hs1 hs3 hs4 hs5 hs7 hs1000000
              cases n_68 with
              | zero => rw [m_l15_awake_L1.eq_1] at hm; cases hm
              | succ n_68 =>
                rw [m_l15_awake_L1.eq_2] at hm
                refine wseq ?_
                refine wseq ?_
                refine wregion ?_
                refine lv (v := (.int .i64 i_73)) rfl rfl (r_move rfl) ?_
                refine lv (v := (.bool (decide (i_73 < 4)))) rfl rfl (r_lss i_73 4 rfl rfl) ?_
                refine lnil ?_
                refine wcond (decide (i_73 < 4)) rfl (fun hb => ?_) (fun hb => ?_)
                · rw [if_pos hb] at hm
                  clear hb
                  refine wskip ?_
                  refine wseq ?_
                  refine wblock ?_
                  refine wregion ?_
                  refine lv (v := (.pointer (some ⟨o_53.g, 0, none⟩))) rfl rfl (r_move rfl) ?_
                  refine lv (v := (.int .i64 i_73)) rfl rfl (r_move rfl) ?_
                  refine lv (v := (.int .i64 i_73)) rfl rfl (r_move rfl) ?_
                  refine lv (v := (.int .i64 (IntKind.i64.wrap (i_73 + 1)))) rfl rfl (r_add i_73 1 rfl rfl) ?_
                  refine lv (v := (.int .i64 (Int.tmod (IntKind.i64.wrap (i_73 + 1)) 4))) rfl rfl (r_rem (IntKind.i64.wrap (i_73 + 1)) 4 rfl rfl (by decide)) ?_
                  obtain ⟨r_74, hr_75, hm⟩ := bind_some hm
                  refine lc rfl rfl (r_call3 Try.call23 rfl rfl rfl) (c_graph_Graph_Join col_70 _ 5 rfl o_53 h_71 i_73 (Int.tmod (IntKind.i64.wrap (i_73 + 1)) 4) h_72 r_74 hr_75) ?_
                  rintro _ w_77 ⟨col_79, rfl, hg_78, oh_76⟩
                  refine ⟨_, rfl, ?_⟩
                  replace oh_40 := oh_40.kpp hg_78 rfl rfl
                  replace rh_36 := rh_36.kpp hg_78 rfl rfl
                  replace rh_39 := rh_39.kpp hg_78 rfl rfl
                  replace hst := hst.kpp hg_78 rfl rfl
                  clear h_72
                  refine lnil ?_
                  refine wregion ?_
                  refine lv (v := (.int .i64 i_73)) rfl rfl (r_move rfl) ?_
                  refine lv (v := (.int .i64 (IntKind.i64.wrap (i_73 + 1)))) rfl rfl (r_add i_73 1 rfl rfl) ?_
                  refine lv (v := (.int .i64 (IntKind.i64.wrap (i_73 + 1)))) rfl rfl (r_assign rfl) ?_
                  refine lnil ?_
                  exact ⟨n_68, by omega, ⟨col_79, r_74.2, (IntKind.i64.wrap (i_73 + 1)), n_68, rfl, hm, hst, oh_40, rh_36, rh_39, oh_76, rfl, rfl, rfl, rfl, rfl, rfl⟩⟩
                · rw [if_neg (by rw [hb]; decide)] at hm
                  clear hb
                  refine wexit (inB_hit ?_)
                  refine wseq ?_
                  refine wregion ?_
                  refine lv (v := (.pointer (some ⟨o_53.g, 0, none⟩))) rfl rfl (r_move rfl) ?_
                  obtain ⟨r_80, hr_81, hm⟩ := bind_some hm
                  refine lc rfl rfl (r_call1 Try.call14 rfl) (c_graph_Graph_Chordal N col_70 _ 5 (by decide) o_53 h_71 h_72 r_80 hr_81) ?_
                  rintro _ w_82 ⟨rfl, hg_83⟩
                  refine ⟨_, rfl, ?_⟩
                  replace hg_83 : Grow col_70 w_69 col_70 w_82 := .of_below hg_83
                  replace oh_40 := oh_40.gr hg_83
                  replace rh_36 := rh_36.gr hg_83
                  replace rh_39 := rh_39.gr hg_83
                  replace h_72 := h_72.gr hg_83
                  replace hst := hst.grow hg_83
                  refine lv (v := (.bool r_80)) rfl rfl (r_assign rfl) ?_
                  refine lnil ?_
                  refine wseq ?_
                  refine wregion ?_
                  refine lv (v := (.pointer (some ⟨o_53.g, 0, none⟩))) rfl rfl (r_move rfl) ?_
                  obtain ⟨r_84, hr_85, hm⟩ := bind_some hm
                  refine lc rfl rfl (r_call2 Try.call17 rfl rfl) (c_graph_Graph_Remove N 6 7 col_70 _ 5 rfl o_53 h_71 0 h_72 r_84 hr_85) ?_
                  rintro _ w_93 ⟨col_95, ra_86, rc_87, ra_89, rc_90, rfl, hg_94, rh_88, rh_91, oh_92⟩
                  refine ⟨_, rfl, ?_⟩
                  replace oh_40 := oh_40.kpp hg_94 rfl rfl
                  replace rh_36 := rh_36.kpp hg_94 rfl rfl
                  replace rh_39 := rh_39.kpp hg_94 rfl rfl
                  replace hst := hst.kpp hg_94 rfl rfl
                  clear h_72
                  refine lv (v := (.tuple #[(.slice ra_86 r_84.1.length rc_87), (.slice ra_89 r_84.2.1.length rc_90)])) rfl rfl (r_move rfl) ?_
                  refine lv (v := (.slice ra_86 r_84.1.length rc_87)) rfl rfl (r_extract rfl rfl) ?_
                  refine lv (v := (.slice ra_89 r_84.2.1.length rc_90)) rfl rfl (r_extract rfl rfl) ?_
                  refine lv (v := (.slice ra_86 r_84.1.length rc_87)) rfl rfl (r_assign rfl) ?_
                  refine lv (v := (.slice ra_89 r_84.2.1.length rc_90)) rfl rfl (r_assign rfl) ?_
                  refine lnil ?_
                  refine wseq ?_
                  refine Wp.cut (fun f w_124 => ∃ (col_125 : Col) (v_126 : Bool), m_l15_awake_J5 v_126 = some r ∧ St w0 (col0 col) col_125 w_124 ∧ f 0 = (.bool v_126) ∧ f 1000000 = (enc [])) ?_ ?_
                  · intro f w_124 hJ
                    obtain ⟨col_125, v_126, hm, hst, hs0, hs1000000⟩ := hJ
                    rw [m_l15_awake_J5.eq_1] at hm
                    refine .ld (d := 0) (v := (.bool v_126)) hs0 ?_
                    refine .ld (d := 1000000) (v := (enc [])) hs1000000 ?_
                    clear hs0 hs1000000
                    refine wret ?_
                    cases hm
                    exact ⟨rfl, rfl, hst.below⟩
                  · refine wregion ?_
                    refine lv (v := (.slice ra_34 r_32.1.length rc_35)) rfl rfl (r_move rfl) ?_
                    refine lv (v := (.int .i64 (r_32.1.length : Int))) rfl rfl (r_len Try.underlying22 rfl) ?_
                    refine lv (v := (.bool (decide ((r_32.1.length : Int) = 3)))) rfl rfl (r_eql (r_32.1.length : Int) 3 rfl rfl) ?_
                    refine lv (v := (.bool (decide ((r_32.1.length : Int) = 3)))) rfl rfl (r_move rfl) ?_
                    by_cases hg_127 : (decide ((r_32.1.length : Int) = 3)) = true
                    · rw [if_pos hg_127] at hm
                      refine lg (b := decide ((r_32.1.length : Int) = 3)) 58 rfl rfl rfl (by rw [hg_127]; rfl) ?_
                      refine lv (v := (.slice ra_37 r_32.2.1.length rc_38)) rfl rfl (r_move rfl) ?_
                      refine lg (b := decide ((r_32.1.length : Int) = 3)) 58 rfl rfl rfl (by rw [hg_127]; rfl) ?_
                      refine lv (v := (.int .i64 (r_32.2.1.length : Int))) rfl rfl (r_len Try.underlying29 rfl) ?_
                      refine lg (b := decide ((r_32.1.length : Int) = 3)) 58 rfl rfl rfl (by rw [hg_127]; rfl) ?_
                      refine lv (v := (.bool (decide ((r_32.2.1.length : Int) = 0)))) rfl rfl (r_eql (r_32.2.1.length : Int) 0 rfl rfl) ?_
                      refine lv (v := (.bool (decide ((r_32.2.1.length : Int) = 0)))) rfl rfl (r_pickT (congrArg Value.bool hg_127) rfl) ?_
                      refine lv (v := (.bool (decide ((r_32.2.1.length : Int) = 0)))) rfl rfl (r_move rfl) ?_
                      by_cases hg_128 : (decide ((r_32.2.1.length : Int) = 0)) = true
                      · rw [if_pos hg_128] at hm
                        refine lg (b := decide ((r_32.2.1.length : Int) = 0)) 63 rfl rfl rfl (by rw [hg_128]; rfl) ?_
                        refine lv (v := (.pointer (some ⟨o_21.g, 0, none⟩))) rfl rfl (r_move rfl) ?_
                        refine lg (b := decide ((r_32.2.1.length : Int) = 0)) 63 rfl rfl rfl (by rw [hg_128]; rfl) ?_
                        obtain ⟨r_129, hr_130, hm⟩ := bind_some hm
                        refine lc rfl rfl (r_call3 Try.call24 rfl rfl rfl) (c_graph_Graph_Has col_95 _ 2 (by decide) o_21 r_32.2.2 0 1 oh_40 r_129 hr_130) ?_
                        rintro _ w_131 ⟨rfl, hg_132⟩
                        refine ⟨_, rfl, ?_⟩
                        replace hg_132 : Grow col_95 w_93 col_95 w_131 := .of_below hg_132
                        replace oh_40 := oh_40.gr hg_132
                        replace oh_92 := oh_92.gr hg_132
                        replace rh_88 := rh_88.gr hg_132
                        replace rh_91 := rh_91.gr hg_132
                        replace hst := hst.grow hg_132
                        refine lv (v := (.bool r_129)) rfl rfl (r_pickT (congrArg Value.bool hg_128) rfl) ?_
                        refine lv (v := (.bool r_129)) rfl rfl (r_move rfl) ?_
                        by_cases hg_133 : r_129 = true
                        · rw [if_pos hg_133] at hm
                          refine lg (b := r_129) 67 rfl rfl rfl (by rw [hg_133]; rfl) ?_
                          refine lv (v := (.pointer (some ⟨o_21.g, 0, none⟩))) rfl rfl (r_move rfl) ?_
                          refine lg (b := r_129) 67 rfl rfl rfl (by rw [hg_133]; rfl) ?_
                          obtain ⟨r_134, hr_135, hm⟩ := bind_some hm
                          refine lc rfl rfl (r_call3 Try.call24 rfl rfl rfl) (c_graph_Graph_Has col_95 _ 2 (by decide) o_21 r_32.2.2 0 2 oh_40 r_134 hr_135) ?_
                          rintro _ w_136 ⟨rfl, hg_137⟩
                          refine ⟨_, rfl, ?_⟩
                          replace hg_137 : Grow col_95 w_131 col_95 w_136 := .of_below hg_137
                          replace oh_92 := oh_92.gr hg_137
                          replace rh_88 := rh_88.gr hg_137
                          replace rh_91 := rh_91.gr hg_137
                          replace oh_40 := oh_40.gr hg_137
                          replace hst := hst.grow hg_137
                          refine lg (b := r_129) 67 rfl rfl rfl (by rw [hg_133]; rfl) ?_
                          refine lv (v := (.bool (!r_134))) rfl rfl (r_not r_134 rfl) ?_
                          refine lv (v := (.bool (!r_134))) rfl rfl (r_pickT (congrArg Value.bool hg_133) rfl) ?_
                          refine lv (v := (.bool (!r_134))) rfl rfl (r_move rfl) ?_
                          by_cases hg_138 : (!r_134) = true
                          · rw [if_pos hg_138] at hm
                            refine lg (b := !r_134) 72 rfl rfl rfl (by rw [hg_138]; rfl) ?_
                            refine lv (v := (.bool r_80)) rfl rfl (r_move rfl) ?_
                            refine lg (b := !r_134) 72 rfl rfl rfl (by rw [hg_138]; rfl) ?_
                            refine lv (v := (.bool (!r_80))) rfl rfl (r_not r_80 rfl) ?_
                            refine lv (v := (.bool (!r_80))) rfl rfl (r_pickT (congrArg Value.bool hg_138) rfl) ?_
                            refine lv (v := (.bool (!r_80))) rfl rfl (r_move rfl) ?_
                            by_cases hg_139 : (!r_80) = true
                            · rw [if_pos hg_139] at hm
                              refine lg (b := !r_80) 76 rfl rfl rfl (by rw [hg_139]; rfl) ?_
                              refine lv (v := (.slice ra_86 r_84.1.length rc_87)) rfl rfl (r_move rfl) ?_
                              refine lg (b := !r_80) 76 rfl rfl rfl (by rw [hg_139]; rfl) ?_
                              refine lv (v := (.int .i64 (r_84.1.length : Int))) rfl rfl (r_len Try.underlying22 rfl) ?_
                              refine lg (b := !r_80) 76 rfl rfl rfl (by rw [hg_139]; rfl) ?_
                              refine lv (v := (.bool (decide ((r_84.1.length : Int) = 3)))) rfl rfl (r_eql (r_84.1.length : Int) 3 rfl rfl) ?_
                              refine lv (v := (.bool (decide ((r_84.1.length : Int) = 3)))) rfl rfl (r_pickT (congrArg Value.bool hg_139) rfl) ?_
                              refine lv (v := (.bool (decide ((r_84.1.length : Int) = 3)))) rfl rfl (r_move rfl) ?_
                              by_cases hg_140 : (decide ((r_84.1.length : Int) = 3)) = true
                              · rw [if_pos hg_140] at hm
                                refine lg (b := decide ((r_84.1.length : Int) = 3)) 81 rfl rfl rfl (by rw [hg_140]; rfl) ?_
                                refine lv (v := (.slice ra_89 r_84.2.1.length rc_90)) rfl rfl (r_move rfl) ?_
                                refine lg (b := decide ((r_84.1.length : Int) = 3)) 81 rfl rfl rfl (by rw [hg_140]; rfl) ?_
                                refine lv (v := (.int .i64 (r_84.2.1.length : Int))) rfl rfl (r_len Try.underlying29 rfl) ?_
                                refine lg (b := decide ((r_84.1.length : Int) = 3)) 81 rfl rfl rfl (by rw [hg_140]; rfl) ?_
                                refine lv (v := (.bool (decide ((r_84.2.1.length : Int) = 1)))) rfl rfl (r_eql (r_84.2.1.length : Int) 1 rfl rfl) ?_
                                refine lv (v := (.bool (decide ((r_84.2.1.length : Int) = 1)))) rfl rfl (r_pickT (congrArg Value.bool hg_140) rfl) ?_
                                refine lv (v := (.bool (decide ((r_84.2.1.length : Int) = 1)))) rfl rfl (r_move rfl) ?_
                                by_cases hg_141 : (decide ((r_84.2.1.length : Int) = 1)) = true
                                · rw [if_pos hg_141] at hm
                                  refine lg (b := decide ((r_84.2.1.length : Int) = 1)) 86 rfl rfl rfl (by rw [hg_141]; rfl) ?_
                                  refine lv (v := (.pointer (some ⟨o_53.g, 0, none⟩))) rfl rfl (r_move rfl) ?_
                                  refine lg (b := decide ((r_84.2.1.length : Int) = 1)) 86 rfl rfl rfl (by rw [hg_141]; rfl) ?_
                                  obtain ⟨r_142, hr_143, hm⟩ := bind_some hm
                                  refine lc rfl rfl (r_call1 Try.call14 rfl) (c_graph_Graph_Chordal N col_95 _ 5 (by decide) o_53 r_84.2.2 oh_92 r_142 hr_143) ?_
                                  rintro _ w_144 ⟨rfl, hg_145⟩
                                  refine ⟨_, rfl, ?_⟩
                                  replace hg_145 : Grow col_95 w_136 col_95 w_144 := .of_below hg_145
                                  replace oh_92 := oh_92.gr hg_145
                                  replace hst := hst.grow hg_145
                                  refine lv (v := (.bool r_142)) rfl rfl (r_pickT (congrArg Value.bool hg_141) rfl) ?_
                                  refine lv (v := (.bool r_142)) rfl rfl (r_move rfl) ?_
                                  by_cases hg_146 : r_142 = true
                                  · rw [if_pos hg_146] at hm
                                    refine lg (b := r_142) 90 rfl rfl rfl (by rw [hg_146]; rfl) ?_
                                    refine lv (v := (.pointer (some ⟨o_53.g, 0, none⟩))) rfl rfl (r_move rfl) ?_
                                    refine lg (b := r_142) 90 rfl rfl rfl (by rw [hg_146]; rfl) ?_
                                    obtain ⟨r_147, hr_148, hm⟩ := bind_some hm
                                    refine lc rfl rfl (r_call1 Try.call27 rfl) (c_graph_Graph_Pieces N 9 col_95 _ 5 (by decide) o_53 r_84.2.2 oh_92 r_147 hr_148) ?_
                                    rintro _ w_152 ⟨col_154, ra_149, rc_150, rfl, hg_153, rh_151⟩
                                    refine ⟨_, rfl, ?_⟩
                                    replace oh_92 := oh_92.gr hg_153
                                    replace hst := hst.grow hg_153
                                    refine lg (b := r_142) 90 rfl rfl rfl (by rw [hg_146]; rfl) ?_
                                    refine lv (v := (.int .i64 (r_147.length : Int))) rfl rfl (r_len Try.underlying33 rfl) ?_
                                    refine lg (b := r_142) 90 rfl rfl rfl (by rw [hg_146]; rfl) ?_
                                    refine lv (v := (.bool (decide ((r_147.length : Int) = 2)))) rfl rfl (r_eql (r_147.length : Int) 2 rfl rfl) ?_
                                    refine lv (v := (.bool (decide ((r_147.length : Int) = 2)))) rfl rfl (r_pickT (congrArg Value.bool hg_146) rfl) ?_
                                    refine lv (v := (.bool (decide ((r_147.length : Int) = 2)))) rfl rfl (r_assign rfl) ?_
                                    refine lnil ?_
                                    exact ⟨col_154, (decide ((r_147.length : Int) = 2)), hm, hst, rfl, rfl⟩
                                  · rw [if_neg hg_146] at hm
                                    replace hg_146 := Bool.eq_false_iff.2 hg_146
                                    refine lp (b := r_142) 90 rfl rfl rfl rfl (by rw [hg_146]; rfl) ?_
                                    refine lp (b := r_142) 90 rfl rfl rfl rfl (by rw [hg_146]; rfl) ?_
                                    refine lp (b := r_142) 90 rfl rfl rfl rfl (by rw [hg_146]; rfl) ?_
                                    refine lp (b := r_142) 90 rfl rfl rfl rfl (by rw [hg_146]; rfl) ?_
                                    refine lv (v := (.bool false)) rfl rfl (r_pickF (congrArg Value.bool hg_146) rfl) ?_
                                    refine lv (v := (.bool false)) rfl rfl (r_assign rfl) ?_
                                    refine lnil ?_
                                    exact ⟨col_95, false, hm, hst, rfl, rfl⟩
                                · rw [if_neg hg_141] at hm
                                  replace hg_141 := Bool.eq_false_iff.2 hg_141
                                  refine lp (b := decide ((r_84.2.1.length : Int) = 1)) 86 rfl rfl rfl rfl (by rw [hg_141]; rfl) ?_
                                  refine lp (b := decide ((r_84.2.1.length : Int) = 1)) 86 rfl rfl rfl rfl (by rw [hg_141]; rfl) ?_
                                  refine lv (v := (.bool false)) rfl rfl (r_pickF (congrArg Value.bool hg_141) rfl) ?_
                                  refine lv (v := (.bool false)) rfl rfl (r_move rfl) ?_
                                  refine lp (b := false) 90 rfl rfl rfl rfl rfl ?_
                                  refine lp (b := false) 90 rfl rfl rfl rfl rfl ?_
                                  refine lp (b := false) 90 rfl rfl rfl rfl rfl ?_
                                  refine lp (b := false) 90 rfl rfl rfl rfl rfl ?_
                                  refine lv (v := (.bool false)) rfl rfl (r_pickF rfl rfl) ?_
                                  refine lv (v := (.bool false)) rfl rfl (r_assign rfl) ?_
                                  refine lnil ?_
                                  exact ⟨col_95, false, hm, hst, rfl, rfl⟩
                              · rw [if_neg hg_140] at hm
                                replace hg_140 := Bool.eq_false_iff.2 hg_140
                                refine lp (b := decide ((r_84.1.length : Int) = 3)) 81 rfl rfl rfl rfl (by rw [hg_140]; rfl) ?_
                                refine lp (b := decide ((r_84.1.length : Int) = 3)) 81 rfl rfl rfl rfl (by rw [hg_140]; rfl) ?_
                                refine lp (b := decide ((r_84.1.length : Int) = 3)) 81 rfl rfl rfl rfl (by rw [hg_140]; rfl) ?_
                                refine lv (v := (.bool false)) rfl rfl (r_pickF (congrArg Value.bool hg_140) rfl) ?_
                                refine lv (v := (.bool false)) rfl rfl (r_move rfl) ?_
                                refine lp (b := false) 86 rfl rfl rfl rfl rfl ?_
                                refine lp (b := false) 86 rfl rfl rfl rfl rfl ?_
                                refine lv (v := (.bool false)) rfl rfl (r_pickF rfl rfl) ?_
                                refine lv (v := (.bool false)) rfl rfl (r_move rfl) ?_
                                refine lp (b := false) 90 rfl rfl rfl rfl rfl ?_
                                refine lp (b := false) 90 rfl rfl rfl rfl rfl ?_
                                refine lp (b := false) 90 rfl rfl rfl rfl rfl ?_
                                refine lp (b := false) 90 rfl rfl rfl rfl rfl ?_
                                refine lv (v := (.bool false)) rfl rfl (r_pickF rfl rfl) ?_
                                refine lv (v := (.bool false)) rfl rfl (r_assign rfl) ?_
                                refine lnil ?_
                                exact ⟨col_95, false, hm, hst, rfl, rfl⟩
                            · rw [if_neg hg_139] at hm
                              replace hg_139 := Bool.eq_false_iff.2 hg_139
                              refine lp (b := !r_80) 76 rfl rfl rfl rfl (by rw [hg_139]; rfl) ?_
                              refine lp (b := !r_80) 76 rfl rfl rfl rfl (by rw [hg_139]; rfl) ?_
                              refine lp (b := !r_80) 76 rfl rfl rfl rfl (by rw [hg_139]; rfl) ?_
                              refine lv (v := (.bool false)) rfl rfl (r_pickF (congrArg Value.bool hg_139) rfl) ?_
                              refine lv (v := (.bool false)) rfl rfl (r_move rfl) ?_
                              refine lp (b := false) 81 rfl rfl rfl rfl rfl ?_
                              refine lp (b := false) 81 rfl rfl rfl rfl rfl ?_
                              refine lp (b := false) 81 rfl rfl rfl rfl rfl ?_
                              refine lv (v := (.bool false)) rfl rfl (r_pickF rfl rfl) ?_
                              refine lv (v := (.bool false)) rfl rfl (r_move rfl) ?_
                              refine lp (b := false) 86 rfl rfl rfl rfl rfl ?_
                              refine lp (b := false) 86 rfl rfl rfl rfl rfl ?_
                              refine lv (v := (.bool false)) rfl rfl (r_pickF rfl rfl) ?_
                              refine lv (v := (.bool false)) rfl rfl (r_move rfl) ?_
                              refine lp (b := false) 90 rfl rfl rfl rfl rfl ?_
                              refine lp (b := false) 90 rfl rfl rfl rfl rfl ?_
                              refine lp (b := false) 90 rfl rfl rfl rfl rfl ?_
                              refine lp (b := false) 90 rfl rfl rfl rfl rfl ?_
                              refine lv (v := (.bool false)) rfl rfl (r_pickF rfl rfl) ?_
                              refine lv (v := (.bool false)) rfl rfl (r_assign rfl) ?_
                              refine lnil ?_
                              exact ⟨col_95, false, hm, hst, rfl, rfl⟩
                          · rw [if_neg hg_138] at hm
                            replace hg_138 := Bool.eq_false_iff.2 hg_138
                            refine lp (b := !r_134) 72 rfl rfl rfl rfl (by rw [hg_138]; rfl) ?_
                            refine lp (b := !r_134) 72 rfl rfl rfl rfl (by rw [hg_138]; rfl) ?_
                            refine lv (v := (.bool false)) rfl rfl (r_pickF (congrArg Value.bool hg_138) rfl) ?_
                            refine lv (v := (.bool false)) rfl rfl (r_move rfl) ?_
                            refine lp (b := false) 76 rfl rfl rfl rfl rfl ?_
                            refine lp (b := false) 76 rfl rfl rfl rfl rfl ?_
                            refine lp (b := false) 76 rfl rfl rfl rfl rfl ?_
                            refine lv (v := (.bool false)) rfl rfl (r_pickF rfl rfl) ?_
                            refine lv (v := (.bool false)) rfl rfl (r_move rfl) ?_
                            refine lp (b := false) 81 rfl rfl rfl rfl rfl ?_
                            refine lp (b := false) 81 rfl rfl rfl rfl rfl ?_
                            refine lp (b := false) 81 rfl rfl rfl rfl rfl ?_
                            refine lv (v := (.bool false)) rfl rfl (r_pickF rfl rfl) ?_
                            refine lv (v := (.bool false)) rfl rfl (r_move rfl) ?_
                            refine lp (b := false) 86 rfl rfl rfl rfl rfl ?_
                            refine lp (b := false) 86 rfl rfl rfl rfl rfl ?_
                            refine lv (v := (.bool false)) rfl rfl (r_pickF rfl rfl) ?_
                            refine lv (v := (.bool false)) rfl rfl (r_move rfl) ?_
                            refine lp (b := false) 90 rfl rfl rfl rfl rfl ?_
                            refine lp (b := false) 90 rfl rfl rfl rfl rfl ?_
                            refine lp (b := false) 90 rfl rfl rfl rfl rfl ?_
                            refine lp (b := false) 90 rfl rfl rfl rfl rfl ?_
                            refine lv (v := (.bool false)) rfl rfl (r_pickF rfl rfl) ?_
                            refine lv (v := (.bool false)) rfl rfl (r_assign rfl) ?_
                            refine lnil ?_
                            exact ⟨col_95, false, hm, hst, rfl, rfl⟩
                        · rw [if_neg hg_133] at hm
                          replace hg_133 := Bool.eq_false_iff.2 hg_133
                          refine lp (b := r_129) 67 rfl rfl rfl rfl (by rw [hg_133]; rfl) ?_
                          refine lp (b := r_129) 67 rfl rfl rfl rfl (by rw [hg_133]; rfl) ?_
                          refine lp (b := r_129) 67 rfl rfl rfl rfl (by rw [hg_133]; rfl) ?_
                          refine lv (v := (.bool false)) rfl rfl (r_pickF (congrArg Value.bool hg_133) rfl) ?_
                          refine lv (v := (.bool false)) rfl rfl (r_move rfl) ?_
                          refine lp (b := false) 72 rfl rfl rfl rfl rfl ?_
                          refine lp (b := false) 72 rfl rfl rfl rfl rfl ?_
                          refine lv (v := (.bool false)) rfl rfl (r_pickF rfl rfl) ?_
                          refine lv (v := (.bool false)) rfl rfl (r_move rfl) ?_
                          refine lp (b := false) 76 rfl rfl rfl rfl rfl ?_
                          refine lp (b := false) 76 rfl rfl rfl rfl rfl ?_
                          refine lp (b := false) 76 rfl rfl rfl rfl rfl ?_
                          refine lv (v := (.bool false)) rfl rfl (r_pickF rfl rfl) ?_
                          refine lv (v := (.bool false)) rfl rfl (r_move rfl) ?_
                          refine lp (b := false) 81 rfl rfl rfl rfl rfl ?_
                          refine lp (b := false) 81 rfl rfl rfl rfl rfl ?_
                          refine lp (b := false) 81 rfl rfl rfl rfl rfl ?_
                          refine lv (v := (.bool false)) rfl rfl (r_pickF rfl rfl) ?_
                          refine lv (v := (.bool false)) rfl rfl (r_move rfl) ?_
                          refine lp (b := false) 86 rfl rfl rfl rfl rfl ?_
                          refine lp (b := false) 86 rfl rfl rfl rfl rfl ?_
                          refine lv (v := (.bool false)) rfl rfl (r_pickF rfl rfl) ?_
                          refine lv (v := (.bool false)) rfl rfl (r_move rfl) ?_
                          refine lp (b := false) 90 rfl rfl rfl rfl rfl ?_
                          refine lp (b := false) 90 rfl rfl rfl rfl rfl ?_
                          refine lp (b := false) 90 rfl rfl rfl rfl rfl ?_
                          refine lp (b := false) 90 rfl rfl rfl rfl rfl ?_
                          refine lv (v := (.bool false)) rfl rfl (r_pickF rfl rfl) ?_
                          refine lv (v := (.bool false)) rfl rfl (r_assign rfl) ?_
                          refine lnil ?_
                          exact ⟨col_95, false, hm, hst, rfl, rfl⟩
                      · rw [if_neg hg_128] at hm
                        replace hg_128 := Bool.eq_false_iff.2 hg_128
                        refine lp (b := decide ((r_32.2.1.length : Int) = 0)) 63 rfl rfl rfl rfl (by rw [hg_128]; rfl) ?_
                        refine lp (b := decide ((r_32.2.1.length : Int) = 0)) 63 rfl rfl rfl rfl (by rw [hg_128]; rfl) ?_
                        refine lv (v := (.bool false)) rfl rfl (r_pickF (congrArg Value.bool hg_128) rfl) ?_
                        refine lv (v := (.bool false)) rfl rfl (r_move rfl) ?_
                        refine lp (b := false) 67 rfl rfl rfl rfl rfl ?_
                        refine lp (b := false) 67 rfl rfl rfl rfl rfl ?_
                        refine lp (b := false) 67 rfl rfl rfl rfl rfl ?_
                        refine lv (v := (.bool false)) rfl rfl (r_pickF rfl rfl) ?_
                        refine lv (v := (.bool false)) rfl rfl (r_move rfl) ?_
                        refine lp (b := false) 72 rfl rfl rfl rfl rfl ?_
                        refine lp (b := false) 72 rfl rfl rfl rfl rfl ?_
                        refine lv (v := (.bool false)) rfl rfl (r_pickF rfl rfl) ?_
                        refine lv (v := (.bool false)) rfl rfl (r_move rfl) ?_
                        refine lp (b := false) 76 rfl rfl rfl rfl rfl ?_
                        refine lp (b := false) 76 rfl rfl rfl rfl rfl ?_
                        refine lp (b := false) 76 rfl rfl rfl rfl rfl ?_
                        refine lv (v := (.bool false)) rfl rfl (r_pickF rfl rfl) ?_
                        refine lv (v := (.bool false)) rfl rfl (r_move rfl) ?_
                        refine lp (b := false) 81 rfl rfl rfl rfl rfl ?_
                        refine lp (b := false) 81 rfl rfl rfl rfl rfl ?_
                        refine lp (b := false) 81 rfl rfl rfl rfl rfl ?_
                        refine lv (v := (.bool false)) rfl rfl (r_pickF rfl rfl) ?_
                        refine lv (v := (.bool false)) rfl rfl (r_move rfl) ?_
                        refine lp (b := false) 86 rfl rfl rfl rfl rfl ?_
                        refine lp (b := false) 86 rfl rfl rfl rfl rfl ?_
                        refine lv (v := (.bool false)) rfl rfl (r_pickF rfl rfl) ?_
                        refine lv (v := (.bool false)) rfl rfl (r_move rfl) ?_
                        refine lp (b := false) 90 rfl rfl rfl rfl rfl ?_
                        refine lp (b := false) 90 rfl rfl rfl rfl rfl ?_
                        refine lp (b := false) 90 rfl rfl rfl rfl rfl ?_
                        refine lp (b := false) 90 rfl rfl rfl rfl rfl ?_
                        refine lv (v := (.bool false)) rfl rfl (r_pickF rfl rfl) ?_
                        refine lv (v := (.bool false)) rfl rfl (r_assign rfl) ?_
                        refine lnil ?_
                        exact ⟨col_95, false, hm, hst, rfl, rfl⟩
                    · rw [if_neg hg_127] at hm
                      replace hg_127 := Bool.eq_false_iff.2 hg_127
                      refine lp (b := decide ((r_32.1.length : Int) = 3)) 58 rfl rfl rfl rfl (by rw [hg_127]; rfl) ?_
                      refine lp (b := decide ((r_32.1.length : Int) = 3)) 58 rfl rfl rfl rfl (by rw [hg_127]; rfl) ?_
                      refine lp (b := decide ((r_32.1.length : Int) = 3)) 58 rfl rfl rfl rfl (by rw [hg_127]; rfl) ?_
                      refine lv (v := (.bool false)) rfl rfl (r_pickF (congrArg Value.bool hg_127) rfl) ?_
                      refine lv (v := (.bool false)) rfl rfl (r_move rfl) ?_
                      refine lp (b := false) 63 rfl rfl rfl rfl rfl ?_
                      refine lp (b := false) 63 rfl rfl rfl rfl rfl ?_
                      refine lv (v := (.bool false)) rfl rfl (r_pickF rfl rfl) ?_
                      refine lv (v := (.bool false)) rfl rfl (r_move rfl) ?_
                      refine lp (b := false) 67 rfl rfl rfl rfl rfl ?_
                      refine lp (b := false) 67 rfl rfl rfl rfl rfl ?_
                      refine lp (b := false) 67 rfl rfl rfl rfl rfl ?_
                      refine lv (v := (.bool false)) rfl rfl (r_pickF rfl rfl) ?_
                      refine lv (v := (.bool false)) rfl rfl (r_move rfl) ?_
                      refine lp (b := false) 72 rfl rfl rfl rfl rfl ?_
                      refine lp (b := false) 72 rfl rfl rfl rfl rfl ?_
                      refine lv (v := (.bool false)) rfl rfl (r_pickF rfl rfl) ?_
                      refine lv (v := (.bool false)) rfl rfl (r_move rfl) ?_
                      refine lp (b := false) 76 rfl rfl rfl rfl rfl ?_
                      refine lp (b := false) 76 rfl rfl rfl rfl rfl ?_
                      refine lp (b := false) 76 rfl rfl rfl rfl rfl ?_
                      refine lv (v := (.bool false)) rfl rfl (r_pickF rfl rfl) ?_
                      refine lv (v := (.bool false)) rfl rfl (r_move rfl) ?_
                      refine lp (b := false) 81 rfl rfl rfl rfl rfl ?_
                      refine lp (b := false) 81 rfl rfl rfl rfl rfl ?_
                      refine lp (b := false) 81 rfl rfl rfl rfl rfl ?_
                      refine lv (v := (.bool false)) rfl rfl (r_pickF rfl rfl) ?_
                      refine lv (v := (.bool false)) rfl rfl (r_move rfl) ?_
                      refine lp (b := false) 86 rfl rfl rfl rfl rfl ?_
                      refine lp (b := false) 86 rfl rfl rfl rfl rfl ?_
                      refine lv (v := (.bool false)) rfl rfl (r_pickF rfl rfl) ?_
                      refine lv (v := (.bool false)) rfl rfl (r_move rfl) ?_
                      refine lp (b := false) 90 rfl rfl rfl rfl rfl ?_
                      refine lp (b := false) 90 rfl rfl rfl rfl rfl ?_
                      refine lp (b := false) 90 rfl rfl rfl rfl rfl ?_
                      refine lp (b := false) 90 rfl rfl rfl rfl rfl ?_
                      refine lv (v := (.bool false)) rfl rfl (r_pickF rfl rfl) ?_
                      refine lv (v := (.bool false)) rfl rfl (r_assign rfl) ?_
                      refine lnil ?_
                      exact ⟨col_95, false, hm, hst, rfl, rfl⟩
          · refine wregion ?_
            refine lv (v := (.int .i64 r_44.2)) rfl rfl (r_move rfl) ?_
            refine lv (v := (.bool (!decide (r_44.2 = 0)))) rfl rfl (r_neq r_44.2 0 rfl rfl) ?_
            refine lv (v := (.bool (!decide (r_44.2 = 0)))) rfl rfl (r_move rfl) ?_
            by_cases hg_155 : (!decide (r_44.2 = 0)) = true
            · rw [if_pos hg_155] at hm
              refine lp (b := !decide (r_44.2 = 0)) 34 rfl rfl rfl rfl (by rw [hg_155]; rfl) ?_
              refine lp (b := !decide (r_44.2 = 0)) 34 rfl rfl rfl rfl (by rw [hg_155]; rfl) ?_
              refine lv (v := (.bool true)) rfl rfl (r_pickT (congrArg Value.bool hg_155) rfl) ?_
              refine lnil ?_
              exact ⟨col_50, true, hm, hst, oh_40, rh_36, rh_39, hG_54, rfl, rfl, rfl, rfl, rfl, rfl⟩
            · rw [if_neg hg_155] at hm
              replace hg_155 := Bool.eq_false_iff.2 hg_155
              refine lg (b := !decide (r_44.2 = 0)) 34 rfl rfl rfl (by rw [hg_155]; rfl) ?_
              refine lv (v := (.pointer (some ⟨o_53.g, 0, none⟩))) rfl rfl (r_move rfl) ?_
              refine lg (b := !decide (r_44.2 = 0)) 34 rfl rfl rfl (by rw [hg_155]; rfl) ?_
              refine lv (v := (.bool false)) rfl rfl (r_eqlP1 ⟨_, Try.underlying24⟩ rfl rfl) ?_
              refine lv (v := (.bool false)) rfl rfl (r_pickF (congrArg Value.bool hg_155) rfl) ?_
              refine lnil ?_
              exact ⟨col_50, false, hm, hst, oh_40, rh_36, rh_39, hG_54, rfl, rfl, rfl, rfl, rfl, rfl⟩
    · refine wregion ?_
      refine lv (v := (.int .i64 r_12.2)) rfl rfl (r_move rfl) ?_
      refine lv (v := (.bool (!decide (r_12.2 = 0)))) rfl rfl (r_neq r_12.2 0 rfl rfl) ?_
      refine lv (v := (.bool (!decide (r_12.2 = 0)))) rfl rfl (r_move rfl) ?_
      by_cases hg_156 : (!decide (r_12.2 = 0)) = true
      · rw [if_pos hg_156] at hm
        refine lp (b := !decide (r_12.2 = 0)) 19 rfl rfl rfl rfl (by rw [hg_156]; rfl) ?_
        refine lp (b := !decide (r_12.2 = 0)) 19 rfl rfl rfl rfl (by rw [hg_156]; rfl) ?_
        refine lv (v := (.bool true)) rfl rfl (r_pickT (congrArg Value.bool hg_156) rfl) ?_
        refine lnil ?_
        exact ⟨col_18, true, hm, hst, hG_22, rfl, rfl, rfl⟩
      · rw [if_neg hg_156] at hm
        replace hg_156 := Bool.eq_false_iff.2 hg_156
        refine lg (b := !decide (r_12.2 = 0)) 19 rfl rfl rfl (by rw [hg_156]; rfl) ?_
        refine lv (v := (.pointer (some ⟨o_21.g, 0, none⟩))) rfl rfl (r_move rfl) ?_
        refine lg (b := !decide (r_12.2 = 0)) 19 rfl rfl rfl (by rw [hg_156]; rfl) ?_
        refine lv (v := (.bool false)) rfl rfl (r_eqlP1 ⟨_, Try.underlying24⟩ rfl rfl) ?_
        refine lv (v := (.bool false)) rfl rfl (r_pickF (congrArg Value.bool hg_156) rfl) ?_
        refine lnil ?_
        exact ⟨col_18, false, hm, hst, hG_22, rfl, rfl, rfl⟩

set_option maxRecDepth 100000 in
theorem val_l15_awake : m_l15_awake 3000000 = some true := by decide +kernel
def w_l15_awake : Option Bool := some true
theorem k_l15_awake (col : Col) (w0 : World) (r : Bool) (hm : w_l15_awake = some r) : Calls Try.prog 12 #[] w0 (fun e w' => e = .returned ((.bool r)) ∧ Below w0.heap.size w0 w') := by
  cases hm
  exact c_l15_awake 3000000 col w0 true val_l15_awake




def m_l15_listed_v0n  : Option ((List (Int × Int)) × Bool) :=
  none

set_option maxRecDepth 100000 in
set_option maxHeartbeats 2000000 in
theorem c_l15_listed_v0n (c1 : Nat) (col : Col) (w0 : World)  (r : ((List (Int × Int)) × Bool)) (hm : m_l15_listed_v0n = some r) :
    Calls Try.prog 25 #[(.pointer none)] w0 (fun e w' => ∃ (col' : Col) (ra1 : Option Addr) (rc2 : Nat), e = .returned (.tuple #[(.slice ra1 r.1.length rc2), (.bool r.2)]) ∧ Grow col w0 col' w' ∧ Own (Rep.pair (Rep.int .i64) (Rep.int .i64)) 47 c1 col' w' ra1 rc2 r.1) := by
  refine calls_ofM2 2 3 (m := 18) (args := [(.pointer none)]) Try.func25 rfl rfl rfl rfl rfl ?_
  rw [m_l15_listed_v0n.eq_1] at hm
  have hst := St.start col w0
  have hmk : Marks (col0 col) w0 [] := .nil
  refine wseq ?_
  refine wregion ?_
  refine lv (v := (.slice none (([] : List (Int × Int)).length) 0)) rfl rfl (r_assign rfl) ?_
  refine lv (v := (.bool false)) rfl rfl (r_assign rfl) ?_
  refine lnil ?_
  refine wseq ?_
  refine wregion ?_
  refine l_alloc (col := (col0 col)) (v := (.slice none (([] : List (Int × Int)).length) 0)) 1 rfl Try.zeroValue29 ?_
  intro g_1 w_2 col_3 hg_4 hb_5
  replace hmk := hmk.gr hg_4
  replace hst := hst.grow hg_4
  replace hb_5 : Box 29 1 col_3 w_2 g_1 #[(.slice none (([] : List (Int × Int)).length) 0)] := hb_5
  refine lnil ?_
  refine wseq ?_
  refine wregion ?_
  refine lv (v := (.pointer none)) rfl rfl (r_move rfl) ?_
  cases hm




def m_l15_GraphTold_L1 (N : Nat)  : Nat → Int → Int → Option Bool
  | 0, _, _ => none
  | n_28 + 1, count_31, a_32 => none

def m_l15_GraphTold_J1 (N : Nat) (v_19 : Bool) : Option Bool :=
  if v_19 = true then (some false) else ((m_l15_listed_v0n).bind fun r_20 => m_l15_GraphTold_L1 N N 0 0)

def m_l15_GraphTold_J3 (i_66 : Int) (kk_L3 : (Int → Option Bool)) : Option Bool :=
  kk_L3 (IntKind.i64.wrap (i_66 + 1))

def m_l15_GraphTold_J4 (i_66 : Int) (kk_L3 : (Int → Option Bool)) (v_86 : Bool) : Option Bool :=
  if v_86 = true then (some false) else (m_l15_GraphTold_J3 i_66 kk_L3)

def m_l15_GraphTold_L3 (N : Nat) (t_12 : List (List Bool)) (count_49 : Int) (a_50 : Int) (kk_L2 : (Int → Int → Option Bool)) (r_55 : (List Int)) : Nat → Int → Option Bool
  | 0, _ => none
  | n_63 + 1, i_66 => if (decide (i_66 < (r_55.length : Int))) = true then ((at? r_55 i_66).bind fun e_87 => (m_graph_Graph_Has t_12 a_50 e_87).bind fun r_89 => if (!r_89) = true then (m_l15_GraphTold_J4 i_66 (m_l15_GraphTold_L3 N t_12 count_49 a_50 kk_L2 r_55 n_63) true) else ((m_graph_Graph_Has t_12 e_87 a_50).bind fun r_93 => if (!r_93) = true then (m_l15_GraphTold_J4 i_66 (m_l15_GraphTold_L3 N t_12 count_49 a_50 kk_L2 r_55 n_63) true) else (if (decide (0 < i_66)) = true then ((at? r_55 (IntKind.i64.wrap (i_66 - 1))).bind fun e_98 => m_l15_GraphTold_J4 i_66 (m_l15_GraphTold_L3 N t_12 count_49 a_50 kk_L2 r_55 n_63) (decide (e_87 ≤ e_98))) else (m_l15_GraphTold_J4 i_66 (m_l15_GraphTold_L3 N t_12 count_49 a_50 kk_L2 r_55 n_63) false)))) else (kk_L2 (IntKind.i64.wrap (count_49 + (r_55.length : Int))) (IntKind.i64.wrap (a_50 + 1)))

def m_l15_GraphTold_J5 (i_128 : Int) (of_132 : List Int) (seen_136 : Int) (k_137 : Int) (kk_L5 : ((List Int) → Int → Int → Option Bool)) (e_150 : Int) (v_162 : Bool) : Option Bool :=
  if v_162 = true then (some false) else ((at? of_132 e_150).bind fun e_163 => (some (of_132.set (Int.toNat e_150) (IntKind.i64.wrap (i_128 + 1)))).bind fun xs_170 => kk_L5 xs_170 (IntKind.i64.wrap (seen_136 + 1)) (IntKind.i64.wrap (k_137 + 1)))

def m_l15_GraphTold_J6 (i_128 : Int) (kk_L4 : ((List Int) → Int → Int → Option Bool)) (of_132 : List Int) (seen_136 : Int) (v_224 : Bool) : Option Bool :=
  if v_224 = true then (some false) else (kk_L4 of_132 seen_136 (IntKind.i64.wrap (i_128 + 1)))

def m_l15_GraphTold_L5 (N : Nat) (t_12 : List (List Bool)) (r_112 : (List (List Int))) (i_128 : Int) (kk_L4 : ((List Int) → Int → Int → Option Bool)) : Nat → (List Int) → Int → Int → Option Bool
  | 0, _, _, _ => none
  | n_129 + 1, of_132, seen_136, k_137 => (at? r_112 i_128).bind fun e_138 => if (decide (k_137 < (e_138.length : Int))) = true then ((at? e_138 k_137).bind fun e_150 => if (decide (e_150 < 0)) = true then (m_l15_GraphTold_J5 i_128 of_132 seen_136 k_137 (m_l15_GraphTold_L5 N t_12 r_112 i_128 kk_L4 n_129) e_150 true) else ((m_graph_Graph_Len t_12).bind fun r_172 => if (decide (r_172 ≤ e_150)) = true then (m_l15_GraphTold_J5 i_128 of_132 seen_136 k_137 (m_l15_GraphTold_L5 N t_12 r_112 i_128 kk_L4 n_129) e_150 true) else ((at? of_132 e_150).bind fun e_177 => m_l15_GraphTold_J5 i_128 of_132 seen_136 k_137 (m_l15_GraphTold_L5 N t_12 r_112 i_128 kk_L4 n_129) e_150 (!decide (e_177 = 0))))) else ((m_graph_Graph_Among N t_12 e_138).bind fun r_184 => optC (r_184) (none) (fun t_191 => if (decide ((e_138.length : Int) = 0)) = true then (m_l15_GraphTold_J6 i_128 kk_L4 of_132 seen_136 true) else ((m_graph_Graph_Pieces N t_191).bind fun r_238 => (m_graph_Graph_Len t_12).bind fun r_247 => m_l15_GraphTold_J6 i_128 kk_L4 of_132 seen_136 (!decide ((r_238.length : Int) = (IntKind.i64.wrap ((IntKind.i64.wrap (r_247 - (e_138.length : Int))) + 1)))))))

def m_l15_GraphTold_J7 (i_255 : Int) (kk_L6 : (Int → Option Bool)) (v_283 : Bool) : Option Bool :=
  if v_283 = true then (some false) else (kk_L6 (IntKind.i64.wrap (i_255 + 1)))

def m_l15_GraphTold_J8 (v_363 : Bool) : Option Bool :=
  some v_363

def m_l15_GraphTold_L7 (N : Nat) (t_12 : List (List Bool)) (r_38 : ((List (Int × Int)) × Bool)) (count_49 : Int) (seen_127 : Int) (t_316 : List (List Bool)) (r_320 : ((List (Int × Int)) × Bool)) : Nat → Int → Option Bool
  | 0, _ => none
  | n_328 + 1, i_331 => if (decide (i_331 < (r_320.1.length : Int))) = true then ((at? r_320.1 i_331).bind fun e_332 => (m_graph_Graph_Has t_12 e_332.1 e_332.2).bind fun r_342 => if (!r_342) = true then (some false) else ((m_l15_GraphTold_L7 N t_12 r_38 count_49 seen_127 t_316 r_320 n_328) (IntKind.i64.wrap (i_331 + 1)))) else (if r_38.2 = true then (if r_320.2 = true then (if (decide (count_49 = (IntKind.i64.wrap (2 * (r_38.1.length : Int))))) = true then ((m_graph_Graph_Len t_12).bind fun r_367 => if (decide (seen_127 = r_367)) = true then ((m_graph_Graph_Len t_316).bind fun r_372 => (m_graph_Graph_Len t_12).bind fun r_376 => m_l15_GraphTold_J8 (decide (r_372 = r_376))) else (m_l15_GraphTold_J8 false)) else (m_l15_GraphTold_J8 false)) else (m_l15_GraphTold_J8 false)) else (m_l15_GraphTold_J8 false))

def m_l15_GraphTold_L6 (N : Nat) (p2_points : (List Int)) (t_12 : List (List Bool)) (r_38 : ((List (Int × Int)) × Bool)) (count_49 : Int) (of_123 : List Int) (seen_127 : Int) : Nat → Int → Option Bool
  | 0, _ => none
  | n_252 + 1, i_255 => if (decide (i_255 < (r_38.1.length : Int))) = true then ((at? r_38.1 i_255).bind fun e_284 => (at? of_123 e_284.1).bind fun e_290 => (at? of_123 e_284.2).bind fun e_296 => if (!decide (e_290 = e_296)) = true then (m_l15_GraphTold_J7 i_255 (m_l15_GraphTold_L6 N p2_points t_12 r_38 count_49 of_123 seen_127 n_252) true) else (m_l15_GraphTold_J7 i_255 (m_l15_GraphTold_L6 N p2_points t_12 r_38 count_49 of_123 seen_127 n_252) (decide (e_284.2 ≤ e_284.1)))) else ((m_graph_Graph_Among N t_12 p2_points).bind fun r_309 => optC (r_309) (some false) (fun t_316 => (m_l15_listed N t_316).bind fun r_320 => m_l15_GraphTold_L7 N t_12 r_38 count_49 seen_127 t_316 r_320 N 0))

def m_l15_GraphTold_L4 (N : Nat) (p2_points : (List Int)) (t_12 : List (List Bool)) (r_38 : ((List (Int × Int)) × Bool)) (count_49 : Int) (r_112 : (List (List Int))) : Nat → (List Int) → Int → Int → Option Bool
  | 0, _, _, _ => none
  | n_120 + 1, of_123, seen_127, i_128 => if (decide (i_128 < (r_112.length : Int))) = true then (m_l15_GraphTold_L5 N t_12 r_112 i_128 (m_l15_GraphTold_L4 N p2_points t_12 r_38 count_49 r_112 n_120) N of_123 seen_127 0) else (m_l15_GraphTold_L6 N p2_points t_12 r_38 count_49 of_123 seen_127 N 0)

def m_l15_GraphTold_L2 (N : Nat) (p2_points : (List Int)) (t_12 : List (List Bool)) (r_38 : ((List (Int × Int)) × Bool)) : Nat → Int → Int → Option Bool
  | 0, _, _ => none
  | n_46 + 1, count_49, a_50 => (m_graph_Graph_Len t_12).bind fun r_51 => if (decide (a_50 < r_51)) = true then ((m_graph_Graph_Near t_12 a_50).bind fun r_55 => m_l15_GraphTold_L3 N t_12 count_49 a_50 (m_l15_GraphTold_L2 N p2_points t_12 r_38 n_46) r_55 N 0) else ((m_graph_Graph_Len t_12).bind fun r_102 => chk ((Int.toNat r_102) * 8 ≤ 281474976710656 ∧ (Int.toNat r_102) ≤ maxLen ∧ 0 ≤ r_102) ((m_graph_Graph_Pieces N t_12).bind fun r_112 => m_l15_GraphTold_L4 N p2_points t_12 r_38 count_49 r_112 N (List.replicate (Int.toNat r_102) (0 : Int)) 0 0))

def m_l15_GraphTold_J2 (N : Nat) (p2_points : (List Int)) (t_12 : List (List Bool)) (v_37 : Bool) : Option Bool :=
  if v_37 = true then (some false) else ((m_l15_listed N t_12).bind fun r_38 => m_l15_GraphTold_L2 N p2_points t_12 r_38 N 0 0)

def m_l15_GraphTold (N : Nat) (p0_n : Int) (p1_pairs : (List Int)) (p2_points : (List Int)) : Option Bool :=
  (w_l15_awake).bind fun r_1 => (m_l15_drawn N p0_n p1_pairs).bind fun r_5 => optC (r_5) (if (!r_1) = true then (m_l15_GraphTold_J1 N true) else (m_l15_GraphTold_J1 N true)) (fun t_12 => if (!r_1) = true then (m_l15_GraphTold_J2 N p2_points t_12 true) else (m_l15_GraphTold_J2 N p2_points t_12 false))

set_option maxRecDepth 100000 in
set_option maxHeartbeats 2000000 in
theorem c_l15_GraphTold (N : Nat) (col : Col) (w0 : World) (p0_n : Int) (a1 : Option Addr) (cap1 : Nat) (p1_pairs : (List Int)) (a2 : Option Addr) (cap2 : Nat) (p2_points : (List Int)) (h1 : Sl (Rep.int .i64) col w0 a1 cap1 p1_pairs) (h2 : Sl (Rep.int .i64) col w0 a2 cap2 p2_points) (r : Bool) (hm : m_l15_GraphTold N p0_n p1_pairs p2_points = some r) :
    Calls Try.prog 7 #[(.int .i64 p0_n), (.slice a1 p1_pairs.length cap1), (.slice a2 p2_points.length cap2)] w0 (fun e w' => e = .returned ((.bool r)) ∧ Below w0.heap.size w0 w') := by
  refine calls_of1 6 (m := 266) (args := [(.int .i64 p0_n), (.slice a1 p1_pairs.length cap1), (.slice a2 p2_points.length cap2)]) Try.func7 rfl rfl rfl rfl rfl ?_
  rw [m_l15_GraphTold.eq_1] at hm
  have hst := St.start col w0
  replace h1 := h1.keep (Stay.start col w0)
  replace h2 := h2.keep (Stay.start col w0)
  refine wseq ?_
  refine wregion ?_
  refine lv (v := (.bool false)) rfl rfl (r_assign rfl) ?_
  refine lnil ?_
  refine wseq ?_
  refine wregion ?_
  obtain ⟨r_1, hr_2, hm⟩ := bind_some hm
  refine lc rfl rfl (r_call0 Try.call12 ) (k_l15_awake (col0 col) _ r_1 hr_2) ?_
  rintro _ w_3 ⟨rfl, hg_4⟩
  refine ⟨_, rfl, ?_⟩
  replace hg_4 : Grow (col0 col) w0 (col0 col) w_3 := .of_below hg_4
  replace h1 := h1.gr hg_4
  replace h2 := h2.gr hg_4
  replace hst := hst.grow hg_4
  refine lv (v := (.bool r_1)) rfl rfl (r_assign rfl) ?_
  refine lnil ?_
  refine wseq ?_
  refine wregion ?_
  refine lv (v := (.int .i64 p0_n)) rfl rfl (r_move rfl) ?_
  refine lv (v := (.slice a1 p1_pairs.length cap1)) rfl rfl (r_move rfl) ?_
  obtain ⟨r_5, hr_6, hm⟩ := bind_some hm
  refine lc rfl rfl (r_call2 Try.call13 rfl rfl) (c_l15_drawn N 1 (col0 col) _ p0_n a1 cap1 p1_pairs h1 r_5 hr_6) ?_
  rintro _ w_9 ⟨col_11, rv_7, rfl, hg_10, rh_8⟩
  refine ⟨_, rfl, ?_⟩
  replace h2 := h2.gr hg_10
  replace h1 := h1.gr hg_10
  replace hst := hst.grow hg_10
  cases hx_13 : r_5 with
  | none =>
    rw [hx_13] at hm rh_8
    replace hm := optC_none hm
    obtain rfl := optP_none rh_8
    clear rh_8
    refine lv (v := (.pointer none)) rfl rfl (r_assign rfl) ?_
    refine lnil ?_
    refine wseq ?_
    refine wseq ?_
    refine Wp.cut (fun f w_17 => ∃ (col_18 : Col) (v_19 : Bool), m_l15_GraphTold_J1 N v_19 = some r ∧ St w0 (col0 col) col_18 w_17 ∧ Sl (Rep.int .i64) col_18 w_17 a2 cap2 p2_points ∧ f 2 = (.slice a2 p2_points.length cap2) ∧ f 37 = (.bool v_19) ∧ f 8 = (.pointer none) ∧ f 1000000 = (enc [])) ?_ ?_
    · intro f w_17 hJ
      obtain ⟨col_18, v_19, hm, hst, h2, hs2, hs37, hs8, hs1000000⟩ := hJ
      rw [m_l15_GraphTold_J1.eq_1] at hm
      refine .ld (d := 2) (v := (.slice a2 p2_points.length cap2)) hs2 ?_
      refine .ld (d := 37) (v := (.bool v_19)) hs37 ?_
      refine .ld (d := 8) (v := (.pointer none)) hs8 ?_
      refine .ld (d := 1000000) (v := (enc [])) hs1000000 ?_
      clear hs2 hs37 hs8 hs1000000
      refine wcond (v_19) rfl (fun hb => ?_) (fun hb => ?_)
      · rw [if_pos hb] at hm
        clear hb
        refine wseq ?_
        refine wregion ?_
        refine lv (v := (.bool false)) rfl rfl (r_assign rfl) ?_
        refine lnil ?_
        refine wret ?_
        cases hm
        exact ⟨rfl, rfl, hst.below⟩
      · rw [if_neg (by rw [hb]; decide)] at hm
        clear hb
        refine wskip ?_
        refine wseq ?_
        refine wregion ?_
        refine lv (v := (.pointer none)) rfl rfl (r_move rfl) ?_
        obtain ⟨r_20, hr_21, hm⟩ := bind_some hm
        refine lc rfl rfl (r_call1 Try.call25 rfl) (c_l15_listed_v0n 2 col_18 _ r_20 hr_21) ?_
        rintro _ w_25 ⟨col_27, ra_22, rc_23, rfl, hg_26, rh_24⟩
        refine ⟨_, rfl, ?_⟩
        replace h2 := h2.gr hg_26
        replace hst := hst.grow hg_26
        refine lv (v := (.tuple #[(.slice ra_22 r_20.1.length rc_23), (.bool r_20.2)])) rfl rfl (r_move rfl) ?_
        refine lv (v := (.slice ra_22 r_20.1.length rc_23)) rfl rfl (r_extract rfl rfl) ?_
        refine lv (v := (.bool r_20.2)) rfl rfl (r_extract rfl rfl) ?_
        refine lv (v := (.slice ra_22 r_20.1.length rc_23)) rfl rfl (r_assign rfl) ?_
        refine lv (v := (.bool r_20.2)) rfl rfl (r_assign rfl) ?_
        refine lnil ?_
        refine wseq ?_
        refine wregion ?_
        refine lv (v := (.int .i64 0)) rfl rfl (r_assign rfl) ?_
        refine lnil ?_
        refine wseq ?_
        refine wseq ?_
        refine wregion ?_
        refine lv (v := (.int .i64 0)) rfl rfl (r_assign rfl) ?_
        refine lnil ?_
        refine wblock ?_
        refine wloop (fun n f w_29 => ∃ (col_30 : Col) (count_31 : Int) (a_32 : Int) (n_28 : Nat), n_28 = n ∧ m_l15_GraphTold_L1 N n_28 count_31 a_32 = some r ∧ St w0 (col0 col) col_30 w_29 ∧ Sl (Rep.int .i64) col_30 w_29 a2 cap2 p2_points ∧ Own (Rep.pair (Rep.int .i64) (Rep.int .i64)) 47 2 col_30 w_29 ra_22 rc_23 r_20.1 ∧ f 10 = (.bool r_20.2) ∧ f 11 = (.int .i64 count_31) ∧ f 12 = (.int .i64 a_32) ∧ f 2 = (.slice a2 p2_points.length cap2) ∧ f 8 = (.pointer none) ∧ f 9 = (.slice ra_22 r_20.1.length rc_23) ∧ f 1000000 = (enc [])) N ⟨col_27, 0, 0, N, rfl, hm, hst, h2, rh_24, rfl, rfl, rfl, rfl, rfl, rfl, rfl⟩ ?_
        clear hm; intro n f w_29 hI
        obtain ⟨col_30, count_31, a_32, n_28, hn, hm, hst, h2, rh_24, hs10, hs11, hs12, hs2, hs8, hs9, hs1000000⟩ := hI
        subst hn
        refine .ld (d := 10) (v := (.bool r_20.2)) hs10 ?_
        refine .ld (d := 11) (v := (.int .i64 count_31)) hs11 ?_
        refine .ld (d := 12) (v := (.int .i64 a_32)) hs12 ?_
        refine .ld (d := 2) (v := (.slice a2 p2_points.length cap2)) hs2 ?_
        refine .ld (d := 8) (v := (.pointer none)) hs8 ?_
        refine .ld (d := 9) (v := (.slice ra_22 r_20.1.length rc_23)) hs9 ?_
        refine .ld (d := 1000000) (v := (enc [])) hs1000000 ?_
        clear hs10 hs11 hs12 hs2 hs8 hs9 hs1000000
        cases n_28 with
        | zero => rw [m_l15_GraphTold_L1.eq_1] at hm; cases hm
        | succ n_28 =>
          rw [m_l15_GraphTold_L1.eq_2] at hm
          refine wseq ?_
          refine wseq ?_
          refine wregion ?_
          refine lv (v := (.int .i64 a_32)) rfl rfl (r_move rfl) ?_
          refine lv (v := (.pointer none)) rfl rfl (r_move rfl) ?_
          cases hm
    · refine wregion ?_
      refine lv (v := (.bool r_1)) rfl rfl (r_move rfl) ?_
      refine lv (v := (.bool (!r_1))) rfl rfl (r_not r_1 rfl) ?_
      refine lv (v := (.bool (!r_1))) rfl rfl (r_move rfl) ?_
      by_cases hg_33 : (!r_1) = true
      · rw [if_pos hg_33] at hm
        refine lp (b := !r_1) 34 rfl rfl rfl rfl (by rw [hg_33]; rfl) ?_
        refine lp (b := !r_1) 34 rfl rfl rfl rfl (by rw [hg_33]; rfl) ?_
        refine lv (v := (.bool true)) rfl rfl (r_pickT (congrArg Value.bool hg_33) rfl) ?_
        refine lnil ?_
        exact ⟨col_11, true, hm, hst, h2, rfl, rfl, rfl, rfl⟩
      · rw [if_neg hg_33] at hm
        replace hg_33 := Bool.eq_false_iff.2 hg_33
        refine lg (b := !r_1) 34 rfl rfl rfl (by rw [hg_33]; rfl) ?_
        refine lv (v := (.pointer none)) rfl rfl (r_move rfl) ?_
        refine lg (b := !r_1) 34 rfl rfl rfl (by rw [hg_33]; rfl) ?_
        refine lv (v := (.bool true)) rfl rfl (r_eqlP0 ⟨_, Try.underlying24⟩ rfl rfl) ?_
        refine lv (v := (.bool true)) rfl rfl (r_pickF (congrArg Value.bool hg_33) rfl) ?_
        refine lnil ?_
        exact ⟨col_11, true, hm, hst, h2, rfl, rfl, rfl, rfl⟩
  | some t_12 =>
    rw [hx_13] at hm rh_8
    replace hm := optC_some hm
    obtain ⟨o_14, rfl, hG_15⟩ := optP_some rh_8
    refine lv (v := (.pointer (some ⟨o_14.g, 0, none⟩))) rfl rfl (r_assign rfl) ?_
    refine lnil ?_
    refine wseq ?_
    refine wseq ?_
    refine Wp.cut (fun f w_35 => ∃ (col_36 : Col) (v_37 : Bool), m_l15_GraphTold_J2 N p2_points t_12 v_37 = some r ∧ St w0 (col0 col) col_36 w_35 ∧ Sl (Rep.int .i64) col_36 w_35 a2 cap2 p2_points ∧ GO 85 86 1 col_36 w_35 o_14 t_12 ∧ f 2 = (.slice a2 p2_points.length cap2) ∧ f 37 = (.bool v_37) ∧ f 8 = (.pointer (some ⟨o_14.g, 0, none⟩)) ∧ f 1000000 = (enc [])) ?_ ?_
    · intro f w_35 hJ
      obtain ⟨col_36, v_37, hm, hst, h2, hG_15, hs2, hs37, hs8, hs1000000⟩ := hJ
      rw [m_l15_GraphTold_J2.eq_1] at hm
      refine .ld (d := 2) (v := (.slice a2 p2_points.length cap2)) hs2 ?_
      refine .ld (d := 37) (v := (.bool v_37)) hs37 ?_
      refine .ld (d := 8) (v := (.pointer (some ⟨o_14.g, 0, none⟩))) hs8 ?_
      refine .ld (d := 1000000) (v := (enc [])) hs1000000 ?_
      clear hs2 hs37 hs8 hs1000000
      refine wcond (v_37) rfl (fun hb => ?_) (fun hb => ?_)
      · rw [if_pos hb] at hm
        clear hb
        refine wseq ?_
        refine wregion ?_
        refine lv (v := (.bool false)) rfl rfl (r_assign rfl) ?_
        refine lnil ?_
        refine wret ?_
        cases hm
        exact ⟨rfl, rfl, hst.below⟩
      · rw [if_neg (by rw [hb]; decide)] at hm
        clear hb
        refine wskip ?_
        refine wseq ?_
        refine wregion ?_
        refine lv (v := (.pointer (some ⟨o_14.g, 0, none⟩))) rfl rfl (r_move rfl) ?_
        obtain ⟨r_38, hr_39, hm⟩ := bind_some hm
        refine lc rfl rfl (r_call1 Try.call25 rfl) (c_l15_listed N 3 col_36 _ 1 (by decide) o_14 t_12 hG_15 r_38 hr_39) ?_
        rintro _ w_43 ⟨col_45, ra_40, rc_41, rfl, hg_44, rh_42⟩
        refine ⟨_, rfl, ?_⟩
        replace h2 := h2.gr hg_44
        replace hG_15 := hG_15.gr hg_44
        replace hst := hst.grow hg_44
        refine lv (v := (.tuple #[(.slice ra_40 r_38.1.length rc_41), (.bool r_38.2)])) rfl rfl (r_move rfl) ?_
        refine lv (v := (.slice ra_40 r_38.1.length rc_41)) rfl rfl (r_extract rfl rfl) ?_
        refine lv (v := (.bool r_38.2)) rfl rfl (r_extract rfl rfl) ?_
        refine lv (v := (.slice ra_40 r_38.1.length rc_41)) rfl rfl (r_assign rfl) ?_
        refine lv (v := (.bool r_38.2)) rfl rfl (r_assign rfl) ?_
        refine lnil ?_
        refine wseq ?_
        refine wregion ?_
        refine lv (v := (.int .i64 0)) rfl rfl (r_assign rfl) ?_
        refine lnil ?_
        refine wseq ?_
        refine wseq ?_
        refine wregion ?_
        refine lv (v := (.int .i64 0)) rfl rfl (r_assign rfl) ?_
        refine lnil ?_
        refine wblock ?_
        refine wloop (fun n f w_47 => ∃ (col_48 : Col) (count_49 : Int) (a_50 : Int) (n_46 : Nat), n_46 = n ∧ m_l15_GraphTold_L2 N p2_points t_12 r_38 n_46 count_49 a_50 = some r ∧ St w0 (col0 col) col_48 w_47 ∧ Sl (Rep.int .i64) col_48 w_47 a2 cap2 p2_points ∧ GO 85 86 1 col_48 w_47 o_14 t_12 ∧ Own (Rep.pair (Rep.int .i64) (Rep.int .i64)) 47 3 col_48 w_47 ra_40 rc_41 r_38.1 ∧ f 10 = (.bool r_38.2) ∧ f 11 = (.int .i64 count_49) ∧ f 12 = (.int .i64 a_50) ∧ f 2 = (.slice a2 p2_points.length cap2) ∧ f 8 = (.pointer (some ⟨o_14.g, 0, none⟩)) ∧ f 9 = (.slice ra_40 r_38.1.length rc_41) ∧ f 1000000 = (enc [])) N ⟨col_45, 0, 0, N, rfl, hm, hst, h2, hG_15, rh_42, rfl, rfl, rfl, rfl, rfl, rfl, rfl⟩ ?_
        clear hm; intro n f w_47 hI
        obtain ⟨col_48, count_49, a_50, n_46, hn, hm, hst, h2, hG_15, rh_42, hs10, hs11, hs12, hs2, hs8, hs9, hs1000000⟩ := hI
        subst hn
        refine .ld (d := 10) (v := (.bool r_38.2)) hs10 ?_
        refine .ld (d := 11) (v := (.int .i64 count_49)) hs11 ?_
        refine .ld (d := 12) (v := (.int .i64 a_50)) hs12 ?_
        refine .ld (d := 2) (v := (.slice a2 p2_points.length cap2)) hs2 ?_
        refine .ld (d := 8) (v := (.pointer (some ⟨o_14.g, 0, none⟩))) hs8 ?_
        refine .ld (d := 9) (v := (.slice ra_40 r_38.1.length rc_41)) hs9 ?_
        refine .ld (d := 1000000) (v := (enc [])) hs1000000 ?_
        clear hs10 hs11 hs12 hs2 hs8 hs9 hs1000000
        cases n_46 with
        | zero => rw [m_l15_GraphTold_L2.eq_1] at hm; cases hm
        | succ n_46 =>
          rw [m_l15_GraphTold_L2.eq_2] at hm
          refine wseq ?_
          refine wseq ?_
          refine wregion ?_
          refine lv (v := (.int .i64 a_50)) rfl rfl (r_move rfl) ?_
          refine lv (v := (.pointer (some ⟨o_14.g, 0, none⟩))) rfl rfl (r_move rfl) ?_
          obtain ⟨r_51, hr_52, hm⟩ := bind_some hm
          refine lc rfl rfl (r_call1 Try.call15 rfl) (c_graph_Graph_Len col_48 _ 1 (by decide) o_14 t_12 hG_15 r_51 hr_52) ?_
          rintro _ w_53 ⟨rfl, hg_54⟩
          refine ⟨_, rfl, ?_⟩
          replace hg_54 : Grow col_48 w_47 col_48 w_53 := .of_below hg_54
          replace h2 := h2.gr hg_54
          replace hG_15 := hG_15.gr hg_54
          replace rh_42 := rh_42.gr hg_54
          replace hst := hst.grow hg_54
          refine lv (v := (.bool (decide (a_50 < r_51)))) rfl rfl (r_lss a_50 r_51 rfl rfl) ?_
          refine lnil ?_
          refine wcond (decide (a_50 < r_51)) rfl (fun hb => ?_) (fun hb => ?_)
          · rw [if_pos hb] at hm
            clear hb
            refine wskip ?_
            refine wseq ?_
            refine wblock ?_
            refine wseq ?_
            refine wregion ?_
            refine lv (v := (.pointer (some ⟨o_14.g, 0, none⟩))) rfl rfl (r_move rfl) ?_
            refine lv (v := (.int .i64 a_50)) rfl rfl (r_move rfl) ?_
            obtain ⟨r_55, hr_56, hm⟩ := bind_some hm
            refine lc rfl rfl (r_call2 Try.call22 rfl rfl) (c_graph_Graph_Near 4 col_48 _ 1 (by decide) o_14 t_12 a_50 hG_15 r_55 hr_56) ?_
            rintro _ w_60 ⟨col_62, ra_57, rc_58, rfl, hg_61, rh_59⟩
            refine ⟨_, rfl, ?_⟩
            replace h2 := h2.gr hg_61
            replace hG_15 := hG_15.gr hg_61
            replace rh_42 := rh_42.gr hg_61
            replace hst := hst.grow hg_61
            refine lv (v := (.slice ra_57 r_55.length rc_58)) rfl rfl (r_assign rfl) ?_
            refine lnil ?_
            refine wseq ?_
            refine wseq ?_
            refine wregion ?_
            refine lv (v := (.int .i64 0)) rfl rfl (r_assign rfl) ?_
            refine lnil ?_
            refine wblock ?_
            refine wloop (fun n f w_64 => ∃ (col_65 : Col) (i_66 : Int) (n_63 : Nat), n_63 = n ∧ m_l15_GraphTold_L3 N t_12 count_49 a_50 (m_l15_GraphTold_L2 N p2_points t_12 r_38 n_46) r_55 n_63 i_66 = some r ∧ St w0 (col0 col) col_65 w_64 ∧ Own (Rep.int .i64) 3 4 col_65 w_64 ra_57 rc_58 r_55 ∧ Sl (Rep.int .i64) col_65 w_64 a2 cap2 p2_points ∧ GO 85 86 1 col_65 w_64 o_14 t_12 ∧ Own (Rep.pair (Rep.int .i64) (Rep.int .i64)) 47 3 col_65 w_64 ra_40 rc_41 r_38.1 ∧ f 10 = (.bool r_38.2) ∧ f 11 = (.int .i64 count_49) ∧ f 12 = (.int .i64 a_50) ∧ f 13 = (.slice ra_57 r_55.length rc_58) ∧ f 14 = (.int .i64 i_66) ∧ f 2 = (.slice a2 p2_points.length cap2) ∧ f 8 = (.pointer (some ⟨o_14.g, 0, none⟩)) ∧ f 9 = (.slice ra_40 r_38.1.length rc_41) ∧ f 1000000 = (enc [])) N ⟨col_62, 0, N, rfl, hm, hst, rh_59, h2, hG_15, rh_42, rfl, rfl, rfl, rfl, rfl, rfl, rfl, rfl, rfl⟩ ?_
            clear hm; intro n f w_64 hI
            obtain ⟨col_65, i_66, n_63, hn, hm, hst, rh_59, h2, hG_15, rh_42, hs10, hs11, hs12, hs13, hs14, hs2, hs8, hs9, hs1000000⟩ := hI
            subst hn
            refine .ld (d := 10) (v := (.bool r_38.2)) hs10 ?_
            refine .ld (d := 11) (v := (.int .i64 count_49)) hs11 ?_
            refine .ld (d := 12) (v := (.int .i64 a_50)) hs12 ?_
            refine .ld (d := 13) (v := (.slice ra_57 r_55.length rc_58)) hs13 ?_
            refine .ld (d := 14) (v := (.int .i64 i_66)) hs14 ?_
            refine .ld (d := 2) (v := (.slice a2 p2_points.length cap2)) hs2 ?_
            refine .ld (d := 8) (v := (.pointer (some ⟨o_14.g, 0, none⟩))) hs8 ?_
            refine .ld (d := 9) (v := (.slice ra_40 r_38.1.length rc_41)) hs9 ?_
            refine .ld (d := 1000000) (v := (enc [])) hs1000000 ?_
            clear hs10 hs11 hs12 hs13 hs14 hs2 hs8 hs9 hs1000000
            cases n_63 with
            | zero => rw [m_l15_GraphTold_L3.eq_1] at hm; cases hm
            | succ n_63 =>
              rw [m_l15_GraphTold_L3.eq_2] at hm
              refine wseq ?_
              refine wseq ?_
              refine wregion ?_
              refine lv (v := (.int .i64 i_66)) rfl rfl (r_move rfl) ?_
              refine lv (v := (.slice ra_57 r_55.length rc_58)) rfl rfl (r_move rfl) ?_
              refine lv (v := (.int .i64 (r_55.length : Int))) rfl rfl (r_len Try.underlying22 rfl) ?_
              refine lv (v := (.bool (decide (i_66 < (r_55.length : Int))))) rfl rfl (r_lss i_66 (r_55.length : Int) rfl rfl) ?_
              refine lnil ?_
              refine wcond (decide (i_66 < (r_55.length : Int))) rfl (fun hb => ?_) (fun hb => ?_)
              · rw [if_pos hb] at hm
                clear hb
                refine wskip ?_
                refine wseq ?_
                refine Wp.cut (fun f w_67 => ∃ (col_68 : Col), m_l15_GraphTold_J3 i_66 (m_l15_GraphTold_L3 N t_12 count_49 a_50 (m_l15_GraphTold_L2 N p2_points t_12 r_38 n_46) r_55 n_63)  = some r ∧ St w0 (col0 col) col_68 w_67 ∧ Own (Rep.int .i64) 3 4 col_68 w_67 ra_57 rc_58 r_55 ∧ Sl (Rep.int .i64) col_68 w_67 a2 cap2 p2_points ∧ GO 85 86 1 col_68 w_67 o_14 t_12 ∧ Own (Rep.pair (Rep.int .i64) (Rep.int .i64)) 47 3 col_68 w_67 ra_40 rc_41 r_38.1 ∧ f 10 = (.bool r_38.2) ∧ f 11 = (.int .i64 count_49) ∧ f 12 = (.int .i64 a_50) ∧ f 13 = (.slice ra_57 r_55.length rc_58) ∧ f 14 = (.int .i64 i_66) ∧ f 2 = (.slice a2 p2_points.length cap2) ∧ f 8 = (.pointer (some ⟨o_14.g, 0, none⟩)) ∧ f 9 = (.slice ra_40 r_38.1.length rc_41) ∧ f 1000000 = (enc [])) ?_ ?_
                · intro f w_67 hJ
                  obtain ⟨col_68, hm, hst, rh_59, h2, hG_15, rh_42, hs10, hs11, hs12, hs13, hs14, hs2, hs8, hs9, hs1000000⟩ := hJ
                  rw [m_l15_GraphTold_J3.eq_1] at hm
                  refine .ld (d := 10) (v := (.bool r_38.2)) hs10 ?_
                  refine .ld (d := 11) (v := (.int .i64 count_49)) hs11 ?_
                  refine .ld (d := 12) (v := (.int .i64 a_50)) hs12 ?_
                  refine .ld (d := 13) (v := (.slice ra_57 r_55.length rc_58)) hs13 ?_
                  refine .ld (d := 14) (v := (.int .i64 i_66)) hs14 ?_
                  refine .ld (d := 2) (v := (.slice a2 p2_points.length cap2)) hs2 ?_
                  refine .ld (d := 8) (v := (.pointer (some ⟨o_14.g, 0, none⟩))) hs8 ?_
                  refine .ld (d := 9) (v := (.slice ra_40 r_38.1.length rc_41)) hs9 ?_
                  refine .ld (d := 1000000) (v := (enc [])) hs1000000 ?_
                  clear hs10 hs11 hs12 hs13 hs14 hs2 hs8 hs9 hs1000000
                  refine wregion ?_
                  refine lv (v := (.int .i64 i_66)) rfl rfl (r_move rfl) ?_
                  refine lv (v := (.int .i64 (IntKind.i64.wrap (i_66 + 1)))) rfl rfl (r_add i_66 1 rfl rfl) ?_
                  refine lv (v := (.int .i64 (IntKind.i64.wrap (i_66 + 1)))) rfl rfl (r_assign rfl) ?_
                  refine lnil ?_
                  exact ⟨n_63, by omega, ⟨col_68, (IntKind.i64.wrap (i_66 + 1)), n_63, rfl, hm, hst, rh_59, h2, hG_15, rh_42, rfl, rfl, rfl, rfl, rfl, rfl, rfl, rfl, rfl⟩⟩
                · refine wblock ?_
                  refine wseq ?_
                  refine Wp.cut (fun f w_84 => ∃ (col_85 : Col) (v_86 : Bool), m_l15_GraphTold_J4 i_66 (m_l15_GraphTold_L3 N t_12 count_49 a_50 (m_l15_GraphTold_L2 N p2_points t_12 r_38 n_46) r_55 n_63) v_86 = some r ∧ St w0 (col0 col) col_85 w_84 ∧ Own (Rep.int .i64) 3 4 col_85 w_84 ra_57 rc_58 r_55 ∧ Sl (Rep.int .i64) col_85 w_84 a2 cap2 p2_points ∧ GO 85 86 1 col_85 w_84 o_14 t_12 ∧ Own (Rep.pair (Rep.int .i64) (Rep.int .i64)) 47 3 col_85 w_84 ra_40 rc_41 r_38.1 ∧ f 10 = (.bool r_38.2) ∧ f 11 = (.int .i64 count_49) ∧ f 12 = (.int .i64 a_50) ∧ f 13 = (.slice ra_57 r_55.length rc_58) ∧ f 14 = (.int .i64 i_66) ∧ f 2 = (.slice a2 p2_points.length cap2) ∧ f 8 = (.pointer (some ⟨o_14.g, 0, none⟩)) ∧ f 9 = (.slice ra_40 r_38.1.length rc_41) ∧ f 91 = (.bool v_86) ∧ f 1000000 = (enc [])) ?_ ?_
                  · intro f w_84 hJ
                    obtain ⟨col_85, v_86, hm, hst, rh_59, h2, hG_15, rh_42, hs10, hs11, hs12, hs13, hs14, hs2, hs8, hs9, hs91, hs1000000⟩ := hJ
                    rw [m_l15_GraphTold_J4.eq_1] at hm
                    refine .ld (d := 10) (v := (.bool r_38.2)) hs10 ?_
                    refine .ld (d := 11) (v := (.int .i64 count_49)) hs11 ?_
                    refine .ld (d := 12) (v := (.int .i64 a_50)) hs12 ?_
                    refine .ld (d := 13) (v := (.slice ra_57 r_55.length rc_58)) hs13 ?_
                    refine .ld (d := 14) (v := (.int .i64 i_66)) hs14 ?_
                    refine .ld (d := 2) (v := (.slice a2 p2_points.length cap2)) hs2 ?_
                    refine .ld (d := 8) (v := (.pointer (some ⟨o_14.g, 0, none⟩))) hs8 ?_
                    refine .ld (d := 9) (v := (.slice ra_40 r_38.1.length rc_41)) hs9 ?_
                    refine .ld (d := 91) (v := (.bool v_86)) hs91 ?_
                    refine .ld (d := 1000000) (v := (enc [])) hs1000000 ?_
                    clear hs10 hs11 hs12 hs13 hs14 hs2 hs8 hs9 hs91 hs1000000
                    refine wcond (v_86) rfl (fun hb => ?_) (fun hb => ?_)
                    · rw [if_pos hb] at hm
                      clear hb
                      refine wseq ?_
                      refine wregion ?_
                      refine lv (v := (.bool false)) rfl rfl (r_assign rfl) ?_
                      refine lnil ?_
                      refine wret ?_
                      cases hm
                      exact ⟨rfl, rfl, hst.below⟩
                    · rw [if_neg (by rw [hb]; decide)] at hm
                      clear hb
                      refine wskip ?_
                      exact ⟨col_85, hm, hst, rh_59, h2, hG_15, rh_42, rfl, rfl, rfl, rfl, rfl, rfl, rfl, rfl, rfl⟩
                  · refine wquiet (col := col_65) (by kernel_rfl) (by kernel_rfl) ?_
                    refine qv (v := (.pointer (some ⟨o_14.g, 0, none⟩))) rfl (fun _ hC => r_move rfl) ?_
                    refine qv (v := (.int .i64 a_50)) rfl (fun _ hC => r_move rfl) ?_
                    refine qv (v := (.slice ra_57 r_55.length rc_58)) rfl (fun _ hC => r_move rfl) ?_
                    refine qv (v := (.int .i64 i_66)) rfl (fun _ hC => r_move rfl) ?_
                    obtain ⟨e_87, hj_88, hm⟩ := bind_some hm
                    refine qv (v := (sptr ra_57 (Int.toNat i_66 * 1))) rfl (fun _ hC => r_idx Try.underlying22 Try.sizeOf3 rfl rfl (at?_some hj_88).1 (at?_some hj_88).2.1 (rh_59.addr hj_88)) ?_
                    refine qv (v := (.int .i64 e_87)) rfl (fun _ hC => r_ld Try.isAgg3 rfl ((rh_59.gr (Grow.of_below (col := col_65) hC.below)).atInt hj_88)) ?_
                    obtain ⟨r_89, hr_90, hm⟩ := bind_some hm
                    refine qc (v := (.bool r_89)) rfl (fun _ hC => ⟨_, _, r_call3 Try.call24 rfl rfl rfl, (c_graph_Graph_Has col_65 _ 1 (by decide) o_14 t_12 a_50 e_87 (hG_15.gr (Grow.of_below (col := col_65) hC.below)) r_89 hr_90).mono fun _ _ h => ⟨h.1, hC.trans (.of_below h.2)⟩⟩) ?_
                    refine qv (v := (.bool (!r_89))) rfl (fun _ hC => r_not r_89 rfl) ?_
                    refine qv (v := (.bool (!r_89))) rfl (fun _ hC => r_move rfl) ?_
                    by_cases hg_91 : (!r_89) = true
                    · rw [if_pos hg_91] at hm
                      refine qp (b := !r_89) 66 rfl rfl rfl rfl (by rw [hg_91]; rfl) ?_
                      refine qp (b := !r_89) 66 rfl rfl rfl rfl (by rw [hg_91]; rfl) ?_
                      refine qp (b := !r_89) 66 rfl rfl rfl rfl (by rw [hg_91]; rfl) ?_
                      refine qp (b := !r_89) 66 rfl rfl rfl rfl (by rw [hg_91]; rfl) ?_
                      refine qp (b := !r_89) 66 rfl rfl rfl rfl (by rw [hg_91]; rfl) ?_
                      refine qp (b := !r_89) 66 rfl rfl rfl rfl (by rw [hg_91]; rfl) ?_
                      refine qp (b := !r_89) 66 rfl rfl rfl rfl (by rw [hg_91]; rfl) ?_
                      refine qp (b := !r_89) 66 rfl rfl rfl rfl (by rw [hg_91]; rfl) ?_
                      refine qv (v := (.bool true)) rfl (fun _ hC => r_pickT (congrArg Value.bool hg_91) rfl) ?_
                      refine qv (v := (.bool true)) rfl (fun _ hC => r_move rfl) ?_
                      refine qp (b := true) 76 rfl rfl rfl rfl rfl ?_
                      refine qp (b := true) 76 rfl rfl rfl rfl rfl ?_
                      refine qp (b := true) 76 rfl rfl rfl rfl rfl ?_
                      refine qpU 79 rfl rfl rfl rfl ?_
                      refine qpU 79 rfl rfl rfl rfl ?_
                      refine qpU 79 rfl rfl rfl rfl ?_
                      refine qpU 79 rfl rfl rfl rfl ?_
                      refine qpU 79 rfl rfl rfl rfl ?_
                      refine qpU 79 rfl rfl rfl rfl ?_
                      refine qpU 79 rfl rfl rfl rfl ?_
                      refine qpU 79 rfl rfl rfl rfl ?_
                      refine qpU 79 rfl rfl rfl rfl ?_
                      refine qpU 79 rfl rfl rfl rfl ?_
                      refine qp (b := true) 76 rfl rfl rfl rfl rfl ?_
                      refine qv (v := (.bool true)) rfl (fun _ hC => r_pickT rfl rfl) ?_
                      refine qnil ?_
                      intro w_92 hC
                      replace hC : Grow col_65 w_64 col_65 w_92 := .of_below hC.below
                      replace rh_59 := rh_59.gr hC
                      replace h2 := h2.gr hC
                      replace hG_15 := hG_15.gr hC
                      replace rh_42 := rh_42.gr hC
                      replace hst := hst.grow hC
                      exact ⟨col_65, true, hm, hst, rh_59, h2, hG_15, rh_42, rfl, rfl, rfl, rfl, rfl, rfl, rfl, rfl, rfl, rfl⟩
                    · rw [if_neg hg_91] at hm
                      replace hg_91 := Bool.eq_false_iff.2 hg_91
                      refine qg (b := !r_89) 66 rfl rfl rfl (by rw [hg_91]; rfl) ?_
                      refine qv (v := (.pointer (some ⟨o_14.g, 0, none⟩))) rfl (fun _ hC => r_move rfl) ?_
                      refine qg (b := !r_89) 66 rfl rfl rfl (by rw [hg_91]; rfl) ?_
                      refine qv (v := (.slice ra_57 r_55.length rc_58)) rfl (fun _ hC => r_move rfl) ?_
                      refine qg (b := !r_89) 66 rfl rfl rfl (by rw [hg_91]; rfl) ?_
                      refine qv (v := (.int .i64 i_66)) rfl (fun _ hC => r_move rfl) ?_
                      refine qg (b := !r_89) 66 rfl rfl rfl (by rw [hg_91]; rfl) ?_
                      refine qv (v := (sptr ra_57 (Int.toNat i_66 * 1))) rfl (fun _ hC => r_idx Try.underlying22 Try.sizeOf3 rfl rfl (at?_some hj_88).1 (at?_some hj_88).2.1 (rh_59.addr hj_88)) ?_
                      refine qg (b := !r_89) 66 rfl rfl rfl (by rw [hg_91]; rfl) ?_
                      refine qv (v := (.int .i64 e_87)) rfl (fun _ hC => r_ld Try.isAgg3 rfl ((rh_59.gr (Grow.of_below (col := col_65) hC.below)).atInt hj_88)) ?_
                      refine qg (b := !r_89) 66 rfl rfl rfl (by rw [hg_91]; rfl) ?_
                      refine qv (v := (.int .i64 a_50)) rfl (fun _ hC => r_move rfl) ?_
                      refine qg (b := !r_89) 66 rfl rfl rfl (by rw [hg_91]; rfl) ?_
                      obtain ⟨r_93, hr_94, hm⟩ := bind_some hm
                      refine qc (v := (.bool r_93)) rfl (fun _ hC => ⟨_, _, r_call3 Try.call24 rfl rfl rfl, (c_graph_Graph_Has col_65 _ 1 (by decide) o_14 t_12 e_87 a_50 (hG_15.gr (Grow.of_below (col := col_65) hC.below)) r_93 hr_94).mono fun _ _ h => ⟨h.1, hC.trans (.of_below h.2)⟩⟩) ?_
                      refine qg (b := !r_89) 66 rfl rfl rfl (by rw [hg_91]; rfl) ?_
                      refine qv (v := (.bool (!r_93))) rfl (fun _ hC => r_not r_93 rfl) ?_
                      refine qv (v := (.bool (!r_93))) rfl (fun _ hC => r_pickF (congrArg Value.bool hg_91) rfl) ?_
                      refine qv (v := (.bool (!r_93))) rfl (fun _ hC => r_move rfl) ?_
                      by_cases hg_95 : (!r_93) = true
                      · rw [if_pos hg_95] at hm
                        refine qp (b := !r_93) 76 rfl rfl rfl rfl (by rw [hg_95]; rfl) ?_
                        refine qp (b := !r_93) 76 rfl rfl rfl rfl (by rw [hg_95]; rfl) ?_
                        refine qp (b := !r_93) 76 rfl rfl rfl rfl (by rw [hg_95]; rfl) ?_
                        refine qpU 79 rfl rfl rfl rfl ?_
                        refine qpU 79 rfl rfl rfl rfl ?_
                        refine qpU 79 rfl rfl rfl rfl ?_
                        refine qpU 79 rfl rfl rfl rfl ?_
                        refine qpU 79 rfl rfl rfl rfl ?_
                        refine qpU 79 rfl rfl rfl rfl ?_
                        refine qpU 79 rfl rfl rfl rfl ?_
                        refine qpU 79 rfl rfl rfl rfl ?_
                        refine qpU 79 rfl rfl rfl rfl ?_
                        refine qpU 79 rfl rfl rfl rfl ?_
                        refine qp (b := !r_93) 76 rfl rfl rfl rfl (by rw [hg_95]; rfl) ?_
                        refine qv (v := (.bool true)) rfl (fun _ hC => r_pickT (congrArg Value.bool hg_95) rfl) ?_
                        refine qnil ?_
                        intro w_96 hC
                        replace hC : Grow col_65 w_64 col_65 w_96 := .of_below hC.below
                        replace rh_59 := rh_59.gr hC
                        replace h2 := h2.gr hC
                        replace hG_15 := hG_15.gr hC
                        replace rh_42 := rh_42.gr hC
                        replace hst := hst.grow hC
                        exact ⟨col_65, true, hm, hst, rh_59, h2, hG_15, rh_42, rfl, rfl, rfl, rfl, rfl, rfl, rfl, rfl, rfl, rfl⟩
                      · rw [if_neg hg_95] at hm
                        replace hg_95 := Bool.eq_false_iff.2 hg_95
                        refine qg (b := !r_93) 76 rfl rfl rfl (by rw [hg_95]; rfl) ?_
                        refine qv (v := (.int .i64 i_66)) rfl (fun _ hC => r_move rfl) ?_
                        refine qg (b := !r_93) 76 rfl rfl rfl (by rw [hg_95]; rfl) ?_
                        refine qv (v := (.bool (decide (0 < i_66)))) rfl (fun _ hC => r_gtr i_66 0 rfl rfl) ?_
                        refine qg (b := !r_93) 76 rfl rfl rfl (by rw [hg_95]; rfl) ?_
                        refine qv (v := (.bool (decide (0 < i_66)))) rfl (fun _ hC => r_move rfl) ?_
                        by_cases hg_97 : (decide (0 < i_66)) = true
                        · rw [if_pos hg_97] at hm
                          refine qg (b := decide (0 < i_66)) 79 rfl rfl rfl (by rw [hg_97]; rfl) ?_
                          refine qv (v := (.slice ra_57 r_55.length rc_58)) rfl (fun _ hC => r_move rfl) ?_
                          refine qg (b := decide (0 < i_66)) 79 rfl rfl rfl (by rw [hg_97]; rfl) ?_
                          refine qv (v := (.int .i64 i_66)) rfl (fun _ hC => r_move rfl) ?_
                          refine qg (b := decide (0 < i_66)) 79 rfl rfl rfl (by rw [hg_97]; rfl) ?_
                          refine qv (v := (sptr ra_57 (Int.toNat i_66 * 1))) rfl (fun _ hC => r_idx Try.underlying22 Try.sizeOf3 rfl rfl (at?_some hj_88).1 (at?_some hj_88).2.1 (rh_59.addr hj_88)) ?_
                          refine qg (b := decide (0 < i_66)) 79 rfl rfl rfl (by rw [hg_97]; rfl) ?_
                          refine qv (v := (.int .i64 e_87)) rfl (fun _ hC => r_ld Try.isAgg3 rfl ((rh_59.gr (Grow.of_below (col := col_65) hC.below)).atInt hj_88)) ?_
                          refine qg (b := decide (0 < i_66)) 79 rfl rfl rfl (by rw [hg_97]; rfl) ?_
                          refine qv (v := (.slice ra_57 r_55.length rc_58)) rfl (fun _ hC => r_move rfl) ?_
                          refine qg (b := decide (0 < i_66)) 79 rfl rfl rfl (by rw [hg_97]; rfl) ?_
                          refine qv (v := (.int .i64 i_66)) rfl (fun _ hC => r_move rfl) ?_
                          refine qg (b := decide (0 < i_66)) 79 rfl rfl rfl (by rw [hg_97]; rfl) ?_
                          refine qv (v := (.int .i64 (IntKind.i64.wrap (i_66 - 1)))) rfl (fun _ hC => r_sub i_66 1 rfl rfl) ?_
                          refine qg (b := decide (0 < i_66)) 79 rfl rfl rfl (by rw [hg_97]; rfl) ?_
                          obtain ⟨e_98, hj_99, hm⟩ := bind_some hm
                          refine qv (v := (sptr ra_57 (Int.toNat (IntKind.i64.wrap (i_66 - 1)) * 1))) rfl (fun _ hC => r_idx Try.underlying22 Try.sizeOf3 rfl rfl (at?_some hj_99).1 (at?_some hj_99).2.1 (rh_59.addr hj_99)) ?_
                          refine qg (b := decide (0 < i_66)) 79 rfl rfl rfl (by rw [hg_97]; rfl) ?_
                          refine qv (v := (.int .i64 e_98)) rfl (fun _ hC => r_ld Try.isAgg3 rfl ((rh_59.gr (Grow.of_below (col := col_65) hC.below)).atInt hj_99)) ?_
                          refine qg (b := decide (0 < i_66)) 79 rfl rfl rfl (by rw [hg_97]; rfl) ?_
                          refine qv (v := (.bool (decide (e_87 ≤ e_98)))) rfl (fun _ hC => r_leq e_87 e_98 rfl rfl) ?_
                          refine qg (b := !r_93) 76 rfl rfl rfl (by rw [hg_95]; rfl) ?_
                          refine qv (v := (.bool (decide (e_87 ≤ e_98)))) rfl (fun _ hC => r_pickT (congrArg Value.bool hg_97) rfl) ?_
                          refine qv (v := (.bool (decide (e_87 ≤ e_98)))) rfl (fun _ hC => r_pickF (congrArg Value.bool hg_95) rfl) ?_
                          refine qnil ?_
                          intro w_100 hC
                          replace hC : Grow col_65 w_64 col_65 w_100 := .of_below hC.below
                          replace rh_59 := rh_59.gr hC
                          replace h2 := h2.gr hC
                          replace hG_15 := hG_15.gr hC
                          replace rh_42 := rh_42.gr hC
                          replace hst := hst.grow hC
                          exact ⟨col_65, (decide (e_87 ≤ e_98)), hm, hst, rh_59, h2, hG_15, rh_42, rfl, rfl, rfl, rfl, rfl, rfl, rfl, rfl, rfl, rfl⟩
                        · rw [if_neg hg_97] at hm
                          replace hg_97 := Bool.eq_false_iff.2 hg_97
                          refine qp (b := decide (0 < i_66)) 79 rfl rfl rfl rfl (by rw [hg_97]; rfl) ?_
                          refine qp (b := decide (0 < i_66)) 79 rfl rfl rfl rfl (by rw [hg_97]; rfl) ?_
                          refine qp (b := decide (0 < i_66)) 79 rfl rfl rfl rfl (by rw [hg_97]; rfl) ?_
                          refine qp (b := decide (0 < i_66)) 79 rfl rfl rfl rfl (by rw [hg_97]; rfl) ?_
                          refine qp (b := decide (0 < i_66)) 79 rfl rfl rfl rfl (by rw [hg_97]; rfl) ?_
                          refine qp (b := decide (0 < i_66)) 79 rfl rfl rfl rfl (by rw [hg_97]; rfl) ?_
                          refine qp (b := decide (0 < i_66)) 79 rfl rfl rfl rfl (by rw [hg_97]; rfl) ?_
                          refine qp (b := decide (0 < i_66)) 79 rfl rfl rfl rfl (by rw [hg_97]; rfl) ?_
                          refine qp (b := decide (0 < i_66)) 79 rfl rfl rfl rfl (by rw [hg_97]; rfl) ?_
                          refine qp (b := decide (0 < i_66)) 79 rfl rfl rfl rfl (by rw [hg_97]; rfl) ?_
                          refine qg (b := !r_93) 76 rfl rfl rfl (by rw [hg_95]; rfl) ?_
                          refine qv (v := (.bool false)) rfl (fun _ hC => r_pickF (congrArg Value.bool hg_97) rfl) ?_
                          refine qv (v := (.bool false)) rfl (fun _ hC => r_pickF (congrArg Value.bool hg_95) rfl) ?_
                          refine qnil ?_
                          intro w_101 hC
                          replace hC : Grow col_65 w_64 col_65 w_101 := .of_below hC.below
                          replace rh_59 := rh_59.gr hC
                          replace h2 := h2.gr hC
                          replace hG_15 := hG_15.gr hC
                          replace rh_42 := rh_42.gr hC
                          replace hst := hst.grow hC
                          exact ⟨col_65, false, hm, hst, rh_59, h2, hG_15, rh_42, rfl, rfl, rfl, rfl, rfl, rfl, rfl, rfl, rfl, rfl⟩
              · rw [if_neg (by rw [hb]; decide)] at hm
                clear hb
                refine wexit (inB_hit ?_)
                refine wregion ?_
                refine lv (v := (.int .i64 count_49)) rfl rfl (r_move rfl) ?_
                refine lv (v := (.slice ra_57 r_55.length rc_58)) rfl rfl (r_move rfl) ?_
                refine lv (v := (.int .i64 (r_55.length : Int))) rfl rfl (r_len Try.underlying22 rfl) ?_
                refine lv (v := (.int .i64 (IntKind.i64.wrap (count_49 + (r_55.length : Int))))) rfl rfl (r_add count_49 (r_55.length : Int) rfl rfl) ?_
                refine lv (v := (.int .i64 (IntKind.i64.wrap (count_49 + (r_55.length : Int))))) rfl rfl (r_assign rfl) ?_
                refine lnil ?_
                refine wregion ?_
                refine lv (v := (.int .i64 a_50)) rfl rfl (r_move rfl) ?_
                refine lv (v := (.int .i64 (IntKind.i64.wrap (a_50 + 1)))) rfl rfl (r_add a_50 1 rfl rfl) ?_
                refine lv (v := (.int .i64 (IntKind.i64.wrap (a_50 + 1)))) rfl rfl (r_assign rfl) ?_
                refine lnil ?_
                exact ⟨n_46, by omega, ⟨col_65, (IntKind.i64.wrap (count_49 + (r_55.length : Int))), (IntKind.i64.wrap (a_50 + 1)), n_46, rfl, hm, hst, h2, hG_15, rh_42, rfl, rfl, rfl, rfl, rfl, rfl, rfl⟩⟩
          · rw [if_neg (by rw [hb]; decide)] at hm
            clear hb
            refine wexit (inB_hit ?_)
            refine wseq ?_
            refine wregion ?_
            refine lv (v := (.pointer (some ⟨o_14.g, 0, none⟩))) rfl rfl (r_move rfl) ?_
            obtain ⟨r_102, hr_103, hm⟩ := bind_some hm
            refine lc rfl rfl (r_call1 Try.call15 rfl) (c_graph_Graph_Len col_48 _ 1 (by decide) o_14 t_12 hG_15 r_102 hr_103) ?_
            rintro _ w_104 ⟨rfl, hg_105⟩
            refine ⟨_, rfl, ?_⟩
            replace hg_105 : Grow col_48 w_53 col_48 w_104 := .of_below hg_105
            replace h2 := h2.gr hg_105
            replace hG_15 := hG_15.gr hg_105
            replace rh_42 := rh_42.gr hg_105
            replace hst := hst.grow hg_105
            obtain ⟨hb_106, hm⟩ := chk_some hm
            refine l_make (col := col_48) (w := w_104) (r := (Rep.int .i64)) (n := (Int.toNat r_102)) (x0 := 0) 5 rfl Try.underlying22 Try.t3 rfl rfl rfl rfl rfl (congrArg (Value.int _) (Int.toNat_of_nonneg hb_106.2.2).symm) (congrArg (Value.int _) (Int.toNat_of_nonneg hb_106.2.2).symm) hb_106.1 hb_106.2.1 (rd_int .i64 0) ?_
            intro a_107 w_108 col_109 hg_110 h_111
            replace h2 := h2.gr hg_110
            replace hG_15 := hG_15.gr hg_110
            replace rh_42 := rh_42.gr hg_110
            replace hst := hst.grow hg_110
            refine lv (v := (.slice a_107 ((List.replicate (Int.toNat r_102) (0 : Int)).length) (Int.toNat r_102))) rfl rfl (r_assign rfl) ?_
            refine lnil ?_
            refine wseq ?_
            refine wregion ?_
            refine lv (v := (.pointer (some ⟨o_14.g, 0, none⟩))) rfl rfl (r_move rfl) ?_
            obtain ⟨r_112, hr_113, hm⟩ := bind_some hm
            refine lc rfl rfl (r_call1 Try.call27 rfl) (c_graph_Graph_Pieces N 6 col_109 _ 1 (by decide) o_14 t_12 hG_15 r_112 hr_113) ?_
            rintro _ w_117 ⟨col_119, ra_114, rc_115, rfl, hg_118, rh_116⟩
            refine ⟨_, rfl, ?_⟩
            replace h2 := h2.gr hg_118
            replace hG_15 := hG_15.gr hg_118
            replace rh_42 := rh_42.gr hg_118
            replace h_111 := h_111.gr hg_118
            replace hst := hst.grow hg_118
            refine lv (v := (.slice ra_114 r_112.length rc_115)) rfl rfl (r_assign rfl) ?_
            refine lnil ?_
            refine wseq ?_
            refine wregion ?_
            refine lv (v := (.int .i64 0)) rfl rfl (r_assign rfl) ?_
            refine lnil ?_
            refine wseq ?_
            refine wseq ?_
            refine wregion ?_
            refine lv (v := (.int .i64 0)) rfl rfl (r_assign rfl) ?_
            refine lnil ?_
            refine wblock ?_
            replace h2 := h2.froz 6
            replace hG_15 := hG_15.froz 6 (by decide)
            replace rh_42 := rh_42.froz 6 (by decide)
            replace h_111 := h_111.froz 6 (by decide)
            replace rh_116 := (rh_116).toSlF (Froz.row (Froz.int .i64))
            replace hst := hst.froz 6 (by decide) (by decide)
            refine wloop (fun n f w_121 => ∃ (col_122 : Col) (a_124 : Option Addr) (cap_125 : Nat) (of_123 : List Int) (seen_127 : Int) (i_128 : Int) (n_120 : Nat), n_120 = n ∧ m_l15_GraphTold_L4 N p2_points t_12 r_38 count_49 r_112 n_120 of_123 seen_127 i_128 = some r ∧ St w0 (col0 col) col_122 w_121 ∧ Own (Rep.int .i64) 3 5 col_122 w_121 a_124 cap_125 of_123 ∧ Sl (Rep.slice (Rep.int .i64)) col_122 w_121 ra_114 rc_115 r_112 ∧ Sl (Rep.int .i64) col_122 w_121 a2 cap2 p2_points ∧ GO 85 86 1 col_122 w_121 o_14 t_12 ∧ Own (Rep.pair (Rep.int .i64) (Rep.int .i64)) 47 3 col_122 w_121 ra_40 rc_41 r_38.1 ∧ f 10 = (.bool r_38.2) ∧ f 11 = (.int .i64 count_49) ∧ f 15 = (.slice a_124 of_123.length cap_125) ∧ f 16 = (.slice ra_114 r_112.length rc_115) ∧ f 17 = (.int .i64 seen_127) ∧ f 18 = (.int .i64 i_128) ∧ f 2 = (.slice a2 p2_points.length cap2) ∧ f 8 = (.pointer (some ⟨o_14.g, 0, none⟩)) ∧ f 9 = (.slice ra_40 r_38.1.length rc_41) ∧ f 1000000 = (enc [])) N ⟨(frC 6 col_119), a_107, (Int.toNat r_102), (List.replicate (Int.toNat r_102) (0 : Int)), 0, 0, N, rfl, hm, hst, h_111, rh_116, h2, hG_15, rh_42, rfl, rfl, rfl, rfl, rfl, rfl, rfl, rfl, rfl, rfl⟩ ?_
            clear hm; intro n f w_121 hI
            obtain ⟨col_122, a_124, cap_125, of_123, seen_127, i_128, n_120, hn, hm, hst, h_126, rh_116, h2, hG_15, rh_42, hs10, hs11, hs15, hs16, hs17, hs18, hs2, hs8, hs9, hs1000000⟩ := hI
            subst hn
            refine .ld (d := 10) (v := (.bool r_38.2)) hs10 ?_
            refine .ld (d := 11) (v := (.int .i64 count_49)) hs11 ?_
            refine .ld (d := 15) (v := (.slice a_124 of_123.length cap_125)) hs15 ?_
            refine .ld (d := 16) (v := (.slice ra_114 r_112.length rc_115)) hs16 ?_
            refine .ld (d := 17) (v := (.int .i64 seen_127)) hs17 ?_
            refine .ld (d := 18) (v := (.int .i64 i_128)) hs18 ?_
            refine .ld (d := 2) (v := (.slice a2 p2_points.length cap2)) hs2 ?_
            refine .ld (d := 8) (v := (.pointer (some ⟨o_14.g, 0, none⟩))) hs8 ?_
            refine .ld (d := 9) (v := (.slice ra_40 r_38.1.length rc_41)) hs9 ?_
            refine .ld (d := 1000000) (v := (enc [])) hs1000000 ?_
            clear hs10 hs11 hs15 hs16 hs17 hs18 hs2 hs8 hs9 hs1000000
            cases n_120 with
            | zero => rw [m_l15_GraphTold_L4.eq_1] at hm; cases hm
            | succ n_120 =>
              rw [m_l15_GraphTold_L4.eq_2] at hm
              refine wseq ?_
              refine wseq ?_
              refine wregion ?_
              refine lv (v := (.int .i64 i_128)) rfl rfl (r_move rfl) ?_
              refine lv (v := (.slice ra_114 r_112.length rc_115)) rfl rfl (r_move rfl) ?_
              refine lv (v := (.int .i64 (r_112.length : Int))) rfl rfl (r_len Try.underlying33 rfl) ?_
              refine lv (v := (.bool (decide (i_128 < (r_112.length : Int))))) rfl rfl (r_lss i_128 (r_112.length : Int) rfl rfl) ?_
              refine lnil ?_
              refine wcond (decide (i_128 < (r_112.length : Int))) rfl (fun hb => ?_) (fun hb => ?_)
              · rw [if_pos hb] at hm
                clear hb
                refine wskip ?_
                refine wseq ?_
                refine wblock ?_
                refine wseq ?_
                refine wseq ?_
                refine wregion ?_
                refine lv (v := (.int .i64 0)) rfl rfl (r_assign rfl) ?_
                refine lnil ?_
                refine wblock ?_
                refine wloop (fun n f w_130 => ∃ (col_131 : Col) (a_133 : Option Addr) (cap_134 : Nat) (of_132 : List Int) (seen_136 : Int) (k_137 : Int) (n_129 : Nat), n_129 = n ∧ m_l15_GraphTold_L5 N t_12 r_112 i_128 (m_l15_GraphTold_L4 N p2_points t_12 r_38 count_49 r_112 n_120) n_129 of_132 seen_136 k_137 = some r ∧ St w0 (col0 col) col_131 w_130 ∧ Own (Rep.int .i64) 3 5 col_131 w_130 a_133 cap_134 of_132 ∧ Sl (Rep.slice (Rep.int .i64)) col_131 w_130 ra_114 rc_115 r_112 ∧ Sl (Rep.int .i64) col_131 w_130 a2 cap2 p2_points ∧ GO 85 86 1 col_131 w_130 o_14 t_12 ∧ Own (Rep.pair (Rep.int .i64) (Rep.int .i64)) 47 3 col_131 w_130 ra_40 rc_41 r_38.1 ∧ f 10 = (.bool r_38.2) ∧ f 11 = (.int .i64 count_49) ∧ f 15 = (.slice a_133 of_132.length cap_134) ∧ f 16 = (.slice ra_114 r_112.length rc_115) ∧ f 17 = (.int .i64 seen_136) ∧ f 18 = (.int .i64 i_128) ∧ f 19 = (.int .i64 k_137) ∧ f 2 = (.slice a2 p2_points.length cap2) ∧ f 8 = (.pointer (some ⟨o_14.g, 0, none⟩)) ∧ f 9 = (.slice ra_40 r_38.1.length rc_41) ∧ f 1000000 = (enc [])) N ⟨col_122, a_124, cap_125, of_123, seen_127, 0, N, rfl, hm, hst, h_126, rh_116, h2, hG_15, rh_42, rfl, rfl, rfl, rfl, rfl, rfl, rfl, rfl, rfl, rfl, rfl⟩ ?_
                clear hm; intro n f w_130 hI
                obtain ⟨col_131, a_133, cap_134, of_132, seen_136, k_137, n_129, hn, hm, hst, h_135, rh_116, h2, hG_15, rh_42, hs10, hs11, hs15, hs16, hs17, hs18, hs19, hs2, hs8, hs9, hs1000000⟩ := hI
                subst hn
                refine .ld (d := 10) (v := (.bool r_38.2)) hs10 ?_
                refine .ld (d := 11) (v := (.int .i64 count_49)) hs11 ?_
                refine .ld (d := 15) (v := (.slice a_133 of_132.length cap_134)) hs15 ?_
                refine .ld (d := 16) (v := (.slice ra_114 r_112.length rc_115)) hs16 ?_
                refine .ld (d := 17) (v := (.int .i64 seen_136)) hs17 ?_
                refine .ld (d := 18) (v := (.int .i64 i_128)) hs18 ?_
                refine .ld (d := 19) (v := (.int .i64 k_137)) hs19 ?_
                refine .ld (d := 2) (v := (.slice a2 p2_points.length cap2)) hs2 ?_
                refine .ld (d := 8) (v := (.pointer (some ⟨o_14.g, 0, none⟩))) hs8 ?_
                refine .ld (d := 9) (v := (.slice ra_40 r_38.1.length rc_41)) hs9 ?_
                refine .ld (d := 1000000) (v := (enc [])) hs1000000 ?_
                clear hs10 hs11 hs15 hs16 hs17 hs18 hs19 hs2 hs8 hs9 hs1000000
                cases n_129 with
                | zero => rw [m_l15_GraphTold_L5.eq_1] at hm; cases hm
                | succ n_129 =>
                  rw [m_l15_GraphTold_L5.eq_2] at hm
                  refine wseq ?_
                  refine wseq ?_
                  refine wregion ?_
                  refine lv (v := (.int .i64 k_137)) rfl rfl (r_move rfl) ?_
                  refine lv (v := (.slice ra_114 r_112.length rc_115)) rfl rfl (r_move rfl) ?_
                  refine lv (v := (.int .i64 i_128)) rfl rfl (r_move rfl) ?_
                  obtain ⟨e_138, hj_139, hm⟩ := bind_some hm
                  refine lv (v := (sptr ra_114 (Int.toNat i_128 * 1))) rfl rfl (r_idx Try.underlying33 Try.sizeOf22 rfl rfl (at?_some hj_139).1 (at?_some hj_139).2.1 (rh_116.addr hj_139)) ?_
                  obtain ⟨_, hr_140, hA_141⟩ := rh_116.atN hj_139
                  obtain ⟨⟨a_142, cap_143, rfl, h_144⟩, _⟩ := hr_140
                  refine lv (v := (.slice a_142 e_138.length cap_143)) rfl rfl (r_ld Try.isAgg22 rfl hA_141.one) ?_
                  refine lv (v := (.int .i64 (e_138.length : Int))) rfl rfl (r_len Try.underlying22 rfl) ?_
                  refine lv (v := (.bool (decide (k_137 < (e_138.length : Int))))) rfl rfl (r_lss k_137 (e_138.length : Int) rfl rfl) ?_
                  refine lnil ?_
                  refine wcond (decide (k_137 < (e_138.length : Int))) rfl (fun hb => ?_) (fun hb => ?_)
                  · rw [if_pos hb] at hm
                    clear hb
                    refine wskip ?_
                    refine wseq ?_
                    refine wblock ?_
                    refine wseq ?_
                    refine wregion ?_
                    refine lv (v := (.slice ra_114 r_112.length rc_115)) rfl rfl (r_move rfl) ?_
                    refine lv (v := (.int .i64 i_128)) rfl rfl (r_move rfl) ?_
                    refine lv (v := (sptr ra_114 (Int.toNat i_128 * 1))) rfl rfl (r_idx Try.underlying33 Try.sizeOf22 rfl rfl (at?_some hj_139).1 (at?_some hj_139).2.1 (rh_116.addr hj_139)) ?_
                    obtain ⟨_, hr_145, hA_146⟩ := rh_116.atN hj_139
                    obtain ⟨⟨a_147, cap_148, rfl, h_149⟩, _⟩ := hr_145
                    refine lv (v := (.slice a_147 e_138.length cap_148)) rfl rfl (r_ld Try.isAgg22 rfl hA_146.one) ?_
                    refine lv (v := (.int .i64 k_137)) rfl rfl (r_move rfl) ?_
                    obtain ⟨e_150, hj_151, hm⟩ := bind_some hm
                    refine lv (v := (sptr a_147 (Int.toNat k_137 * 1))) rfl rfl (r_idx Try.underlying22 Try.sizeOf3 rfl rfl (at?_some hj_151).1 (at?_some hj_151).2.1 (h_149.addr hj_151)) ?_
                    refine lv (v := (.int .i64 e_150)) rfl rfl (r_ld Try.isAgg3 rfl (h_149.atInt hj_151)) ?_
                    refine lv (v := (.int .i64 e_150)) rfl rfl (r_assign rfl) ?_
                    refine lnil ?_
                    refine wseq ?_
                    refine wseq ?_
                    refine Wp.cut (fun f w_160 => ∃ (col_161 : Col) (v_162 : Bool), m_l15_GraphTold_J5 i_128 of_132 seen_136 k_137 (m_l15_GraphTold_L5 N t_12 r_112 i_128 (m_l15_GraphTold_L4 N p2_points t_12 r_38 count_49 r_112 n_120) n_129) e_150 v_162 = some r ∧ St w0 (col0 col) col_161 w_160 ∧ Own (Rep.int .i64) 3 5 col_161 w_160 a_133 cap_134 of_132 ∧ Sl (Rep.slice (Rep.int .i64)) col_161 w_160 ra_114 rc_115 r_112 ∧ Sl (Rep.int .i64) col_161 w_160 a2 cap2 p2_points ∧ GO 85 86 1 col_161 w_160 o_14 t_12 ∧ Own (Rep.pair (Rep.int .i64) (Rep.int .i64)) 47 3 col_161 w_160 ra_40 rc_41 r_38.1 ∧ f 10 = (.bool r_38.2) ∧ f 11 = (.int .i64 count_49) ∧ f 137 = (.bool v_162) ∧ f 15 = (.slice a_133 of_132.length cap_134) ∧ f 16 = (.slice ra_114 r_112.length rc_115) ∧ f 17 = (.int .i64 seen_136) ∧ f 18 = (.int .i64 i_128) ∧ f 19 = (.int .i64 k_137) ∧ f 2 = (.slice a2 p2_points.length cap2) ∧ f 20 = (.int .i64 e_150) ∧ f 8 = (.pointer (some ⟨o_14.g, 0, none⟩)) ∧ f 9 = (.slice ra_40 r_38.1.length rc_41) ∧ f 1000000 = (enc [])) ?_ ?_
                    · intro f w_160 hJ
                      obtain ⟨col_161, v_162, hm, hst, h_135, rh_116, h2, hG_15, rh_42, hs10, hs11, hs137, hs15, hs16, hs17, hs18, hs19, hs2, hs20, hs8, hs9, hs1000000⟩ := hJ
                      rw [m_l15_GraphTold_J5.eq_1] at hm
                      refine .ld (d := 10) (v := (.bool r_38.2)) hs10 ?_
                      refine .ld (d := 11) (v := (.int .i64 count_49)) hs11 ?_
                      refine .ld (d := 137) (v := (.bool v_162)) hs137 ?_
                      refine .ld (d := 15) (v := (.slice a_133 of_132.length cap_134)) hs15 ?_
                      refine .ld (d := 16) (v := (.slice ra_114 r_112.length rc_115)) hs16 ?_
                      refine .ld (d := 17) (v := (.int .i64 seen_136)) hs17 ?_
                      refine .ld (d := 18) (v := (.int .i64 i_128)) hs18 ?_
                      refine .ld (d := 19) (v := (.int .i64 k_137)) hs19 ?_
                      refine .ld (d := 2) (v := (.slice a2 p2_points.length cap2)) hs2 ?_
                      refine .ld (d := 20) (v := (.int .i64 e_150)) hs20 ?_
                      refine .ld (d := 8) (v := (.pointer (some ⟨o_14.g, 0, none⟩))) hs8 ?_
                      refine .ld (d := 9) (v := (.slice ra_40 r_38.1.length rc_41)) hs9 ?_
                      refine .ld (d := 1000000) (v := (enc [])) hs1000000 ?_
                      clear hs10 hs11 hs137 hs15 hs16 hs17 hs18 hs19 hs2 hs20 hs8 hs9 hs1000000
                      refine wcond (v_162) rfl (fun hb => ?_) (fun hb => ?_)
                      · rw [if_pos hb] at hm
                        clear hb
                        refine wseq ?_
                        refine wregion ?_
                        refine lv (v := (.bool false)) rfl rfl (r_assign rfl) ?_
                        refine lnil ?_
                        refine wret ?_
                        cases hm
                        exact ⟨rfl, rfl, hst.below⟩
                      · rw [if_neg (by rw [hb]; decide)] at hm
                        clear hb
                        refine wskip ?_
                        refine wseq ?_
                        refine wregion ?_
                        refine lv (v := (.slice a_133 of_132.length cap_134)) rfl rfl (r_move rfl) ?_
                        refine lv (v := (.int .i64 e_150)) rfl rfl (r_move rfl) ?_
                        refine lv (v := (.int .i64 i_128)) rfl rfl (r_move rfl) ?_
                        refine lv (v := (.int .i64 (IntKind.i64.wrap (i_128 + 1)))) rfl rfl (r_add i_128 1 rfl rfl) ?_
                        obtain ⟨e_163, hj_164, hm⟩ := bind_some hm
                        refine lv (v := (sptr a_133 (Int.toNat e_150 * 1))) rfl rfl (r_idx Try.underlying22 Try.sizeOf3 rfl rfl (at?_some hj_164).1 (at?_some hj_164).2.1 (h_135.addr hj_164)) ?_
                        obtain ⟨xs_170, hz_169, hm⟩ := bind_some hm
                        have hz_169 : xs_170 = of_132.set (Int.toNat e_150) (IntKind.i64.wrap (i_128 + 1)) := (Option.some.inj hz_169).symm
                        refine l_store (x1 := IntKind.i64.wrap (i_128 + 1)) (v := (.int .i64 (IntKind.i64.wrap (i_128 + 1)))) h_135 hj_164 rfl Try.sizeOf3 (rd_int .i64 (IntKind.i64.wrap (i_128 + 1))) rfl rfl (by decide) ?_
                        intro w_165 hk_166 hs_167 h_168
                        rw [← hz_169] at h_168
                        replace rh_116 := rh_116.kp hk_166 (by decide)
                        replace h2 := h2.kp hk_166 (by decide)
                        replace hG_15 := hG_15.kp hk_166 (by decide) (by decide)
                        replace rh_42 := rh_42.kp hk_166 (by decide) (by decide)
                        replace hst := hst.kp hk_166 hs_167 (by decide) (by decide)
                        refine .ld (d := 15) (v := (.slice a_133 xs_170.length cap_134)) (congrArg (fun n => Value.slice a_133 n cap_134) (show of_132.length = xs_170.length by rw [hz_169, List.length_set])) ?_
                        clear h_135
                        refine lnil ?_
                        refine wregion ?_
                        refine lv (v := (.int .i64 seen_136)) rfl rfl (r_move rfl) ?_
                        refine lv (v := (.int .i64 (IntKind.i64.wrap (seen_136 + 1)))) rfl rfl (r_add seen_136 1 rfl rfl) ?_
                        refine lv (v := (.int .i64 (IntKind.i64.wrap (seen_136 + 1)))) rfl rfl (r_assign rfl) ?_
                        refine lnil ?_
                        refine wregion ?_
                        refine lv (v := (.int .i64 k_137)) rfl rfl (r_move rfl) ?_
                        refine lv (v := (.int .i64 (IntKind.i64.wrap (k_137 + 1)))) rfl rfl (r_add k_137 1 rfl rfl) ?_
                        refine lv (v := (.int .i64 (IntKind.i64.wrap (k_137 + 1)))) rfl rfl (r_assign rfl) ?_
                        refine lnil ?_
                        exact ⟨n_129, by omega, ⟨col_161, a_133, cap_134, xs_170, (IntKind.i64.wrap (seen_136 + 1)), (IntKind.i64.wrap (k_137 + 1)), n_129, rfl, hm, hst, h_168, rh_116, h2, hG_15, rh_42, rfl, rfl, rfl, rfl, rfl, rfl, rfl, rfl, rfl, rfl, rfl⟩⟩
                    · refine wregion ?_
                      refine lv (v := (.int .i64 e_150)) rfl rfl (r_move rfl) ?_
                      refine lv (v := (.bool (decide (e_150 < 0)))) rfl rfl (r_lss e_150 0 rfl rfl) ?_
                      refine lv (v := (.bool (decide (e_150 < 0)))) rfl rfl (r_move rfl) ?_
                      by_cases hg_171 : (decide (e_150 < 0)) = true
                      · rw [if_pos hg_171] at hm
                        refine lp (b := decide (e_150 < 0)) 125 rfl rfl rfl rfl (by rw [hg_171]; rfl) ?_
                        refine lp (b := decide (e_150 < 0)) 125 rfl rfl rfl rfl (by rw [hg_171]; rfl) ?_
                        refine lp (b := decide (e_150 < 0)) 125 rfl rfl rfl rfl (by rw [hg_171]; rfl) ?_
                        refine lp (b := decide (e_150 < 0)) 125 rfl rfl rfl rfl (by rw [hg_171]; rfl) ?_
                        refine lv (v := (.bool true)) rfl rfl (r_pickT (congrArg Value.bool hg_171) rfl) ?_
                        refine lv (v := (.bool true)) rfl rfl (r_move rfl) ?_
                        refine lp (b := true) 131 rfl rfl rfl rfl rfl ?_
                        refine lp (b := true) 131 rfl rfl rfl rfl rfl ?_
                        refine lp (b := true) 131 rfl rfl rfl rfl rfl ?_
                        refine lp (b := true) 131 rfl rfl rfl rfl rfl ?_
                        refine lp (b := true) 131 rfl rfl rfl rfl rfl ?_
                        refine lv (v := (.bool true)) rfl rfl (r_pickT rfl rfl) ?_
                        refine lnil ?_
                        exact ⟨col_131, true, hm, hst, h_135, rh_116, h2, hG_15, rh_42, rfl, rfl, rfl, rfl, rfl, rfl, rfl, rfl, rfl, rfl, rfl, rfl, rfl⟩
                      · rw [if_neg hg_171] at hm
                        replace hg_171 := Bool.eq_false_iff.2 hg_171
                        refine lg (b := decide (e_150 < 0)) 125 rfl rfl rfl (by rw [hg_171]; rfl) ?_
                        refine lv (v := (.int .i64 e_150)) rfl rfl (r_move rfl) ?_
                        refine lg (b := decide (e_150 < 0)) 125 rfl rfl rfl (by rw [hg_171]; rfl) ?_
                        refine lv (v := (.pointer (some ⟨o_14.g, 0, none⟩))) rfl rfl (r_move rfl) ?_
                        refine lg (b := decide (e_150 < 0)) 125 rfl rfl rfl (by rw [hg_171]; rfl) ?_
                        obtain ⟨r_172, hr_173, hm⟩ := bind_some hm
                        refine lc rfl rfl (r_call1 Try.call15 rfl) (c_graph_Graph_Len col_131 _ 1 (by decide) o_14 t_12 hG_15 r_172 hr_173) ?_
                        rintro _ w_174 ⟨rfl, hg_175⟩
                        refine ⟨_, rfl, ?_⟩
                        replace hg_175 : Grow col_131 w_130 col_131 w_174 := .of_below hg_175
                        replace h_135 := h_135.gr hg_175
                        replace rh_116 := rh_116.gr hg_175
                        replace h2 := h2.gr hg_175
                        replace hG_15 := hG_15.gr hg_175
                        replace rh_42 := rh_42.gr hg_175
                        replace hst := hst.grow hg_175
                        refine lg (b := decide (e_150 < 0)) 125 rfl rfl rfl (by rw [hg_171]; rfl) ?_
                        refine lv (v := (.bool (decide (r_172 ≤ e_150)))) rfl rfl (r_geq e_150 r_172 rfl rfl) ?_
                        refine lv (v := (.bool (decide (r_172 ≤ e_150)))) rfl rfl (r_pickF (congrArg Value.bool hg_171) rfl) ?_
                        refine lv (v := (.bool (decide (r_172 ≤ e_150)))) rfl rfl (r_move rfl) ?_
                        by_cases hg_176 : (decide (r_172 ≤ e_150)) = true
                        · rw [if_pos hg_176] at hm
                          refine lp (b := decide (r_172 ≤ e_150)) 131 rfl rfl rfl rfl (by rw [hg_176]; rfl) ?_
                          refine lp (b := decide (r_172 ≤ e_150)) 131 rfl rfl rfl rfl (by rw [hg_176]; rfl) ?_
                          refine lp (b := decide (r_172 ≤ e_150)) 131 rfl rfl rfl rfl (by rw [hg_176]; rfl) ?_
                          refine lp (b := decide (r_172 ≤ e_150)) 131 rfl rfl rfl rfl (by rw [hg_176]; rfl) ?_
                          refine lp (b := decide (r_172 ≤ e_150)) 131 rfl rfl rfl rfl (by rw [hg_176]; rfl) ?_
                          refine lv (v := (.bool true)) rfl rfl (r_pickT (congrArg Value.bool hg_176) rfl) ?_
                          refine lnil ?_
                          exact ⟨col_131, true, hm, hst, h_135, rh_116, h2, hG_15, rh_42, rfl, rfl, rfl, rfl, rfl, rfl, rfl, rfl, rfl, rfl, rfl, rfl, rfl⟩
                        · rw [if_neg hg_176] at hm
                          replace hg_176 := Bool.eq_false_iff.2 hg_176
                          refine lg (b := decide (r_172 ≤ e_150)) 131 rfl rfl rfl (by rw [hg_176]; rfl) ?_
                          refine lv (v := (.slice a_133 of_132.length cap_134)) rfl rfl (r_move rfl) ?_
                          refine lg (b := decide (r_172 ≤ e_150)) 131 rfl rfl rfl (by rw [hg_176]; rfl) ?_
                          refine lv (v := (.int .i64 e_150)) rfl rfl (r_move rfl) ?_
                          refine lg (b := decide (r_172 ≤ e_150)) 131 rfl rfl rfl (by rw [hg_176]; rfl) ?_
                          obtain ⟨e_177, hj_178, hm⟩ := bind_some hm
                          refine lv (v := (sptr a_133 (Int.toNat e_150 * 1))) rfl rfl (r_idx Try.underlying22 Try.sizeOf3 rfl rfl (at?_some hj_178).1 (at?_some hj_178).2.1 (h_135.addr hj_178)) ?_
                          refine lg (b := decide (r_172 ≤ e_150)) 131 rfl rfl rfl (by rw [hg_176]; rfl) ?_
                          refine lv (v := (.int .i64 e_177)) rfl rfl (r_ld Try.isAgg3 rfl (h_135.atInt hj_178)) ?_
                          refine lg (b := decide (r_172 ≤ e_150)) 131 rfl rfl rfl (by rw [hg_176]; rfl) ?_
                          refine lv (v := (.bool (!decide (e_177 = 0)))) rfl rfl (r_neq e_177 0 rfl rfl) ?_
                          refine lv (v := (.bool (!decide (e_177 = 0)))) rfl rfl (r_pickF (congrArg Value.bool hg_176) rfl) ?_
                          refine lnil ?_
                          exact ⟨col_131, (!decide (e_177 = 0)), hm, hst, h_135, rh_116, h2, hG_15, rh_42, rfl, rfl, rfl, rfl, rfl, rfl, rfl, rfl, rfl, rfl, rfl, rfl, rfl⟩
                  · rw [if_neg (by rw [hb]; decide)] at hm
                    clear hb
                    refine wexit (inB_hit ?_)
                    refine wseq ?_
                    refine wregion ?_
                    refine lv (v := (.pointer (some ⟨o_14.g, 0, none⟩))) rfl rfl (r_move rfl) ?_
                    refine lv (v := (.slice ra_114 r_112.length rc_115)) rfl rfl (r_move rfl) ?_
                    refine lv (v := (.int .i64 i_128)) rfl rfl (r_move rfl) ?_
                    refine lv (v := (sptr ra_114 (Int.toNat i_128 * 1))) rfl rfl (r_idx Try.underlying33 Try.sizeOf22 rfl rfl (at?_some hj_139).1 (at?_some hj_139).2.1 (rh_116.addr hj_139)) ?_
                    obtain ⟨_, hr_179, hA_180⟩ := rh_116.atN hj_139
                    obtain ⟨⟨a_181, cap_182, rfl, h_183⟩, _⟩ := hr_179
                    refine lv (v := (.slice a_181 e_138.length cap_182)) rfl rfl (r_ld Try.isAgg22 rfl hA_180.one) ?_
                    obtain ⟨r_184, hr_185, hm⟩ := bind_some hm
                    refine lc rfl rfl (r_call2 Try.call28 rfl rfl) (c_graph_Graph_Among N 7 col_131 _ 1 (by decide) o_14 t_12 a_181 cap_182 e_138 hG_15 h_183 r_184 hr_185) ?_
                    rintro _ w_188 ⟨col_190, rv_186, rfl, hg_189, rh_187⟩
                    refine ⟨_, rfl, ?_⟩
                    replace h_135 := h_135.gr hg_189
                    replace rh_116 := rh_116.gr hg_189
                    replace h2 := h2.gr hg_189
                    replace hG_15 := hG_15.gr hg_189
                    replace rh_42 := rh_42.gr hg_189
                    replace h_183 := h_183.gr hg_189
                    replace hst := hst.grow hg_189
                    cases hx_192 : r_184 with
                    | none =>
                      rw [hx_192] at hm rh_187
                      replace hm := optC_none hm
                      obtain rfl := optP_none rh_187
                      clear rh_187
                      cases hm
                    | some t_191 =>
                      rw [hx_192] at hm rh_187
                      replace hm := optC_some hm
                      obtain ⟨o_193, rfl, hG_194⟩ := optP_some rh_187
                      refine lv (v := (.pointer (some ⟨o_193.g, 0, none⟩))) rfl rfl (r_assign rfl) ?_
                      refine lnil ?_
                      refine wseq ?_
                      refine Wp.cut (fun f w_222 => ∃ (col_223 : Col) (v_224 : Bool), m_l15_GraphTold_J6 i_128 (m_l15_GraphTold_L4 N p2_points t_12 r_38 count_49 r_112 n_120) of_132 seen_136 v_224 = some r ∧ St w0 (col0 col) col_223 w_222 ∧ Own (Rep.int .i64) 3 5 col_223 w_222 a_133 cap_134 of_132 ∧ Sl (Rep.slice (Rep.int .i64)) col_223 w_222 ra_114 rc_115 r_112 ∧ Sl (Rep.int .i64) col_223 w_222 a2 cap2 p2_points ∧ GO 85 86 1 col_223 w_222 o_14 t_12 ∧ Own (Rep.pair (Rep.int .i64) (Rep.int .i64)) 47 3 col_223 w_222 ra_40 rc_41 r_38.1 ∧ f 10 = (.bool r_38.2) ∧ f 11 = (.int .i64 count_49) ∧ f 15 = (.slice a_133 of_132.length cap_134) ∧ f 16 = (.slice ra_114 r_112.length rc_115) ∧ f 17 = (.int .i64 seen_136) ∧ f 175 = (.bool v_224) ∧ f 18 = (.int .i64 i_128) ∧ f 2 = (.slice a2 p2_points.length cap2) ∧ f 8 = (.pointer (some ⟨o_14.g, 0, none⟩)) ∧ f 9 = (.slice ra_40 r_38.1.length rc_41) ∧ f 1000000 = (enc [])) ?_ ?_
                      · intro f w_222 hJ
                        obtain ⟨col_223, v_224, hm, hst, h_135, rh_116, h2, hG_15, rh_42, hs10, hs11, hs15, hs16, hs17, hs175, hs18, hs2, hs8, hs9, hs1000000⟩ := hJ
                        rw [m_l15_GraphTold_J6.eq_1] at hm
                        refine .ld (d := 10) (v := (.bool r_38.2)) hs10 ?_
                        refine .ld (d := 11) (v := (.int .i64 count_49)) hs11 ?_
                        refine .ld (d := 15) (v := (.slice a_133 of_132.length cap_134)) hs15 ?_
                        refine .ld (d := 16) (v := (.slice ra_114 r_112.length rc_115)) hs16 ?_
                        refine .ld (d := 17) (v := (.int .i64 seen_136)) hs17 ?_
                        refine .ld (d := 175) (v := (.bool v_224)) hs175 ?_
                        refine .ld (d := 18) (v := (.int .i64 i_128)) hs18 ?_
                        refine .ld (d := 2) (v := (.slice a2 p2_points.length cap2)) hs2 ?_
                        refine .ld (d := 8) (v := (.pointer (some ⟨o_14.g, 0, none⟩))) hs8 ?_
                        refine .ld (d := 9) (v := (.slice ra_40 r_38.1.length rc_41)) hs9 ?_
                        refine .ld (d := 1000000) (v := (enc [])) hs1000000 ?_
                        clear hs10 hs11 hs15 hs16 hs17 hs175 hs18 hs2 hs8 hs9 hs1000000
                        refine wcond (v_224) rfl (fun hb => ?_) (fun hb => ?_)
                        · rw [if_pos hb] at hm
                          clear hb
                          refine wseq ?_
                          refine wregion ?_
                          refine lv (v := (.bool false)) rfl rfl (r_assign rfl) ?_
                          refine lnil ?_
                          refine wret ?_
                          cases hm
                          exact ⟨rfl, rfl, hst.below⟩
                        · rw [if_neg (by rw [hb]; decide)] at hm
                          clear hb
                          refine wskip ?_
                          refine wregion ?_
                          refine lv (v := (.int .i64 i_128)) rfl rfl (r_move rfl) ?_
                          refine lv (v := (.int .i64 (IntKind.i64.wrap (i_128 + 1)))) rfl rfl (r_add i_128 1 rfl rfl) ?_
                          refine lv (v := (.int .i64 (IntKind.i64.wrap (i_128 + 1)))) rfl rfl (r_assign rfl) ?_
                          refine lnil ?_
                          exact ⟨n_120, by omega, ⟨col_223, a_133, cap_134, of_132, seen_136, (IntKind.i64.wrap (i_128 + 1)), n_120, rfl, hm, hst, h_135, rh_116, h2, hG_15, rh_42, rfl, rfl, rfl, rfl, rfl, rfl, rfl, rfl, rfl, rfl⟩⟩
                      · refine wmix (col := col_190) [(0, 1), (1, 0), (2, 1), (3, 1), (4, 1), (5, 1), (6, 0), (7, 1), (8, 1), (9, 1), (10, 1), (11, 1), (14, 1), (16, 1), (17, 1), (18, 1), (19, 0), (20, 1), (12, 3), (13, 1), (15, 3), (21, 1), (22, 1), (23, 1), (24, 1)] (by kernel_rfl) (by kernel_rfl) ?_
                        refine xu (v := (.pointer (some ⟨o_193.g, 0, none⟩))) rfl rfl (fun _ => r_move rfl) ?_
                        refine xv (v := (.bool false)) rfl rfl (fun _ hC => r_eqlP1 ⟨_, Try.underlying24⟩ rfl rfl) ?_
                        refine xu (v := (.bool false)) rfl rfl (fun _ => r_move rfl) ?_
                        refine xu_g (v := (.slice ra_114 r_112.length rc_115)) (b := false) 153 rfl rfl rfl rfl rfl rfl (fun _ => r_move rfl) ?_
                        refine xu_g (v := (.int .i64 i_128)) (b := false) 153 rfl rfl rfl rfl rfl rfl (fun _ => r_move rfl) ?_
                        refine xu_g (v := (sptr ra_114 (Int.toNat i_128 * 1))) (b := false) 153 rfl rfl rfl rfl rfl rfl (fun _ => r_idx Try.underlying33 Try.sizeOf22 rfl rfl (at?_some hj_139).1 (at?_some hj_139).2.1 (rh_116.addr hj_139)) ?_
                        obtain ⟨_, hr_225, hA_226⟩ := rh_116.atN hj_139
                        obtain ⟨⟨a_227, cap_228, rfl, h_229⟩, _⟩ := hr_225
                        refine xv_g (v := (.slice a_227 e_138.length cap_228)) (b := false) 153 rfl rfl rfl rfl rfl rfl (fun _ hC => r_ld Try.isAgg22 rfl (hA_226.one.gr (Grow.of_below (col := col_190) hC.below))) ?_
                        refine xu_g (v := (.int .i64 (e_138.length : Int))) (b := false) 153 rfl rfl rfl rfl rfl rfl (fun _ => r_len Try.underlying22 rfl) ?_
                        refine xu_g (v := (.bool (decide ((e_138.length : Int) = 0)))) (b := false) 153 rfl rfl rfl rfl rfl rfl (fun _ => r_eql (e_138.length : Int) 0 rfl rfl) ?_
                        refine xu (v := (.bool (decide ((e_138.length : Int) = 0)))) rfl rfl (fun _ => r_pickF rfl rfl) ?_
                        refine xu (v := (.bool (decide ((e_138.length : Int) = 0)))) rfl rfl (fun _ => r_move rfl) ?_
                        by_cases hg_230 : (decide ((e_138.length : Int) = 0)) = true
                        · rw [if_pos hg_230] at hm
                          refine xpass (b := decide ((e_138.length : Int) = 0)) 161 rfl rfl rfl rfl rfl (by rw [hg_230]; rfl) ?_
                          refine xpass (b := decide ((e_138.length : Int) = 0)) 161 rfl rfl rfl rfl rfl (by rw [hg_230]; rfl) ?_
                          refine xpass (b := decide ((e_138.length : Int) = 0)) 161 rfl rfl rfl rfl rfl (by rw [hg_230]; rfl) ?_
                          refine xpass (b := decide ((e_138.length : Int) = 0)) 161 rfl rfl rfl rfl rfl (by rw [hg_230]; rfl) ?_
                          refine xpass (b := decide ((e_138.length : Int) = 0)) 161 rfl rfl rfl rfl rfl (by rw [hg_230]; rfl) ?_
                          refine xpass (b := decide ((e_138.length : Int) = 0)) 161 rfl rfl rfl rfl rfl (by rw [hg_230]; rfl) ?_
                          refine xpass (b := decide ((e_138.length : Int) = 0)) 161 rfl rfl rfl rfl rfl (by rw [hg_230]; rfl) ?_
                          refine xpass (b := decide ((e_138.length : Int) = 0)) 161 rfl rfl rfl rfl rfl (by rw [hg_230]; rfl) ?_
                          refine xpass (b := decide ((e_138.length : Int) = 0)) 161 rfl rfl rfl rfl rfl (by rw [hg_230]; rfl) ?_
                          refine xpass (b := decide ((e_138.length : Int) = 0)) 161 rfl rfl rfl rfl rfl (by rw [hg_230]; rfl) ?_
                          refine xpass (b := decide ((e_138.length : Int) = 0)) 161 rfl rfl rfl rfl rfl (by rw [hg_230]; rfl) ?_
                          refine xpass (b := decide ((e_138.length : Int) = 0)) 161 rfl rfl rfl rfl rfl (by rw [hg_230]; rfl) ?_
                          refine xpass (b := decide ((e_138.length : Int) = 0)) 161 rfl rfl rfl rfl rfl (by rw [hg_230]; rfl) ?_
                          refine xu (v := (.bool true)) rfl rfl (fun _ => r_pickT (congrArg Value.bool hg_230) rfl) ?_
                          refine xnil ?_
                          intro w_231 hC
                          replace hC : Grow col_190 w_188 col_190 w_231 := .of_below hC.below
                          replace h_135 := h_135.gr hC
                          replace rh_116 := rh_116.gr hC
                          replace h2 := h2.gr hC
                          replace hG_15 := hG_15.gr hC
                          replace rh_42 := rh_42.gr hC
                          replace hst := hst.grow hC
                          exact ⟨col_190, true, hm, hst, h_135, rh_116, h2, hG_15, rh_42, rfl, rfl, rfl, rfl, rfl, rfl, rfl, rfl, rfl, rfl, rfl⟩
                        · rw [if_neg hg_230] at hm
                          replace hg_230 := Bool.eq_false_iff.2 hg_230
                          refine xu_g (v := (.pointer (some ⟨o_193.g, 0, none⟩))) (b := decide ((e_138.length : Int) = 0)) 161 rfl rfl rfl rfl rfl (by rw [hg_230]; rfl) (fun _ => r_move rfl) ?_
                          refine xu_g (v := (.pointer (some ⟨o_14.g, 0, none⟩))) (b := decide ((e_138.length : Int) = 0)) 161 rfl rfl rfl rfl rfl (by rw [hg_230]; rfl) (fun _ => r_move rfl) ?_
                          refine xu_g (v := (.slice ra_114 r_112.length rc_115)) (b := decide ((e_138.length : Int) = 0)) 161 rfl rfl rfl rfl rfl (by rw [hg_230]; rfl) (fun _ => r_move rfl) ?_
                          refine xu_g (v := (.int .i64 i_128)) (b := decide ((e_138.length : Int) = 0)) 161 rfl rfl rfl rfl rfl (by rw [hg_230]; rfl) (fun _ => r_move rfl) ?_
                          refine xu_g (v := (sptr ra_114 (Int.toNat i_128 * 1))) (b := decide ((e_138.length : Int) = 0)) 161 rfl rfl rfl rfl rfl (by rw [hg_230]; rfl) (fun _ => r_idx Try.underlying33 Try.sizeOf22 rfl rfl (at?_some hj_139).1 (at?_some hj_139).2.1 (rh_116.addr hj_139)) ?_
                          obtain ⟨_, hr_232, hA_233⟩ := rh_116.atN hj_139
                          obtain ⟨⟨a_234, cap_235, rfl, h_236⟩, _⟩ := hr_232
                          refine xv_g (v := (.slice a_234 e_138.length cap_235)) (b := decide ((e_138.length : Int) = 0)) 161 rfl rfl rfl rfl rfl (by rw [hg_230]; rfl) (fun _ hC => r_ld Try.isAgg22 rfl (hA_233.one.gr (Grow.of_below (col := col_190) hC.below))) ?_
                          refine xu_g (v := (.int .i64 (e_138.length : Int))) (b := decide ((e_138.length : Int) = 0)) 161 rfl rfl rfl rfl rfl (by rw [hg_230]; rfl) (fun _ => r_len Try.underlying22 rfl) ?_
                          refine xe rfl rfl ?_
                          intro w_237 hC0
                          have hC : Grow col_190 w_188 col_190 w_237 := .of_below hC0.below
                          replace h_135 := h_135.gr hC
                          replace rh_116 := rh_116.gr hC
                          replace h2 := h2.gr hC
                          replace hG_15 := hG_15.gr hC
                          replace rh_42 := rh_42.gr hC
                          replace hG_194 := hG_194.gr hC
                          replace hst := hst.grow hC
                          refine lg (b := decide ((e_138.length : Int) = 0)) 161 rfl rfl rfl (by rw [hg_230]; rfl) ?_
                          obtain ⟨r_238, hr_239, hm⟩ := bind_some hm
                          refine lc rfl rfl (r_call1 Try.call27 rfl) (c_graph_Graph_Pieces N 9 col_190 _ 7 (by decide) o_193 t_191 hG_194 r_238 hr_239) ?_
                          rintro _ w_243 ⟨col_245, ra_240, rc_241, rfl, hg_244, rh_242⟩
                          refine ⟨_, rfl, ?_⟩
                          replace h_135 := h_135.gr hg_244
                          replace rh_116 := rh_116.gr hg_244
                          replace h2 := h2.gr hg_244
                          replace hG_15 := hG_15.gr hg_244
                          replace rh_42 := rh_42.gr hg_244
                          replace hG_194 := hG_194.gr hg_244
                          replace hst := hst.grow hg_244
                          refine lnil ⟨fun w' => Grow col_245 w_243 col_245 w', Grow.refl _ _, fun _ _ h => cls hC0 hg_244 h, ?_⟩
                          refine xu_g (v := (.int .i64 (r_238.length : Int))) (b := decide ((e_138.length : Int) = 0)) 161 rfl rfl rfl rfl rfl (by rw [hg_230]; rfl) (fun _ => r_len Try.underlying33 rfl) ?_
                          refine xe rfl rfl ?_
                          intro w_246 hC0
                          have hC : Grow col_245 w_243 col_245 w_246 := .of_below hC0.below
                          replace h_135 := h_135.gr hC
                          replace rh_116 := rh_116.gr hC
                          replace h2 := h2.gr hC
                          replace hG_15 := hG_15.gr hC
                          replace rh_42 := rh_42.gr hC
                          replace hst := hst.grow hC
                          refine lg (b := decide ((e_138.length : Int) = 0)) 161 rfl rfl rfl (by rw [hg_230]; rfl) ?_
                          obtain ⟨r_247, hr_248, hm⟩ := bind_some hm
                          refine lc rfl rfl (r_call1 Try.call15 rfl) (c_graph_Graph_Len col_245 _ 1 (by decide) o_14 t_12 hG_15 r_247 hr_248) ?_
                          rintro _ w_249 ⟨rfl, hg_250⟩
                          refine ⟨_, rfl, ?_⟩
                          replace hg_250 : Grow col_245 w_246 col_245 w_249 := .of_below hg_250
                          replace h_135 := h_135.gr hg_250
                          replace rh_116 := rh_116.gr hg_250
                          replace h2 := h2.gr hg_250
                          replace hG_15 := hG_15.gr hg_250
                          replace rh_42 := rh_42.gr hg_250
                          replace hst := hst.grow hg_250
                          refine lnil ⟨fun w' => Grow col_245 w_249 col_245 w', Grow.refl _ _, fun _ _ h => cls hC0 hg_250 h, ?_⟩
                          refine xu_g (v := (.int .i64 (IntKind.i64.wrap (r_247 - (e_138.length : Int))))) (b := decide ((e_138.length : Int) = 0)) 161 rfl rfl rfl rfl rfl (by rw [hg_230]; rfl) (fun _ => r_sub r_247 (e_138.length : Int) rfl rfl) ?_
                          refine xu_g (v := (.int .i64 (IntKind.i64.wrap ((IntKind.i64.wrap (r_247 - (e_138.length : Int))) + 1)))) (b := decide ((e_138.length : Int) = 0)) 161 rfl rfl rfl rfl rfl (by rw [hg_230]; rfl) (fun _ => r_add (IntKind.i64.wrap (r_247 - (e_138.length : Int))) 1 rfl rfl) ?_
                          refine xu_g (v := (.bool (!decide ((r_238.length : Int) = (IntKind.i64.wrap ((IntKind.i64.wrap (r_247 - (e_138.length : Int))) + 1)))))) (b := decide ((e_138.length : Int) = 0)) 161 rfl rfl rfl rfl rfl (by rw [hg_230]; rfl) (fun _ => r_neq (r_238.length : Int) (IntKind.i64.wrap ((IntKind.i64.wrap (r_247 - (e_138.length : Int))) + 1)) rfl rfl) ?_
                          refine xu (v := (.bool (!decide ((r_238.length : Int) = (IntKind.i64.wrap ((IntKind.i64.wrap (r_247 - (e_138.length : Int))) + 1)))))) rfl rfl (fun _ => r_pickF (congrArg Value.bool hg_230) rfl) ?_
                          refine xnil ?_
                          intro w_251 hC
                          replace hC : Grow col_245 w_249 col_245 w_251 := .of_below hC.below
                          replace h_135 := h_135.gr hC
                          replace rh_116 := rh_116.gr hC
                          replace h2 := h2.gr hC
                          replace hG_15 := hG_15.gr hC
                          replace rh_42 := rh_42.gr hC
                          replace hst := hst.grow hC
                          exact ⟨col_245, (!decide ((r_238.length : Int) = (IntKind.i64.wrap ((IntKind.i64.wrap (r_247 - (e_138.length : Int))) + 1)))), hm, hst, h_135, rh_116, h2, hG_15, rh_42, rfl, rfl, rfl, rfl, rfl, rfl, rfl, rfl, rfl, rfl, rfl⟩
              · rw [if_neg (by rw [hb]; decide)] at hm
                clear hb
                refine wexit (inB_hit ?_)
                refine wseq ?_
                refine wseq ?_
                refine wregion ?_
                refine lv (v := (.int .i64 0)) rfl rfl (r_assign rfl) ?_
                refine lnil ?_
                refine wblock ?_
                refine wloop (fun n f w_253 => ∃ (col_254 : Col) (i_255 : Int) (n_252 : Nat), n_252 = n ∧ m_l15_GraphTold_L6 N p2_points t_12 r_38 count_49 of_123 seen_127 n_252 i_255 = some r ∧ St w0 (col0 col) col_254 w_253 ∧ Own (Rep.int .i64) 3 5 col_254 w_253 a_124 cap_125 of_123 ∧ Sl (Rep.int .i64) col_254 w_253 a2 cap2 p2_points ∧ GO 85 86 1 col_254 w_253 o_14 t_12 ∧ Own (Rep.pair (Rep.int .i64) (Rep.int .i64)) 47 3 col_254 w_253 ra_40 rc_41 r_38.1 ∧ f 10 = (.bool r_38.2) ∧ f 11 = (.int .i64 count_49) ∧ f 15 = (.slice a_124 of_123.length cap_125) ∧ f 17 = (.int .i64 seen_127) ∧ f 2 = (.slice a2 p2_points.length cap2) ∧ f 22 = (.int .i64 i_255) ∧ f 8 = (.pointer (some ⟨o_14.g, 0, none⟩)) ∧ f 9 = (.slice ra_40 r_38.1.length rc_41) ∧ f 1000000 = (enc [])) N ⟨col_122, 0, N, rfl, hm, hst, h_126, h2, hG_15, rh_42, rfl, rfl, rfl, rfl, rfl, rfl, rfl, rfl, rfl⟩ ?_
                clear hm; intro n f w_253 hI
                obtain ⟨col_254, i_255, n_252, hn, hm, hst, h_126, h2, hG_15, rh_42, hs10, hs11, hs15, hs17, hs2, hs22, hs8, hs9, hs1000000⟩ := hI
                subst hn
                refine .ld (d := 10) (v := (.bool r_38.2)) hs10 ?_
                refine .ld (d := 11) (v := (.int .i64 count_49)) hs11 ?_
                refine .ld (d := 15) (v := (.slice a_124 of_123.length cap_125)) hs15 ?_
                refine .ld (d := 17) (v := (.int .i64 seen_127)) hs17 ?_
                refine .ld (d := 2) (v := (.slice a2 p2_points.length cap2)) hs2 ?_
                refine .ld (d := 22) (v := (.int .i64 i_255)) hs22 ?_
                refine .ld (d := 8) (v := (.pointer (some ⟨o_14.g, 0, none⟩))) hs8 ?_
                refine .ld (d := 9) (v := (.slice ra_40 r_38.1.length rc_41)) hs9 ?_
                refine .ld (d := 1000000) (v := (enc [])) hs1000000 ?_
                clear hs10 hs11 hs15 hs17 hs2 hs22 hs8 hs9 hs1000000
                cases n_252 with
                | zero => rw [m_l15_GraphTold_L6.eq_1] at hm; cases hm
                | succ n_252 =>
                  rw [m_l15_GraphTold_L6.eq_2] at hm
                  refine wseq ?_
                  refine wseq ?_
                  refine wregion ?_
                  refine lv (v := (.int .i64 i_255)) rfl rfl (r_move rfl) ?_
                  refine lv (v := (.slice ra_40 r_38.1.length rc_41)) rfl rfl (r_move rfl) ?_
                  refine lv (v := (.int .i64 (r_38.1.length : Int))) rfl rfl (r_len Try.underlying29 rfl) ?_
                  refine lv (v := (.bool (decide (i_255 < (r_38.1.length : Int))))) rfl rfl (r_lss i_255 (r_38.1.length : Int) rfl rfl) ?_
                  refine lnil ?_
                  refine wcond (decide (i_255 < (r_38.1.length : Int))) rfl (fun hb => ?_) (fun hb => ?_)
                  · rw [if_pos hb] at hm
                    clear hb
                    refine wskip ?_
                    refine wseq ?_
                    refine wblock ?_
                    refine wseq ?_
                    refine Wp.cut (fun f w_281 => ∃ (col_282 : Col) (v_283 : Bool), m_l15_GraphTold_J7 i_255 (m_l15_GraphTold_L6 N p2_points t_12 r_38 count_49 of_123 seen_127 n_252) v_283 = some r ∧ St w0 (col0 col) col_282 w_281 ∧ Own (Rep.int .i64) 3 5 col_282 w_281 a_124 cap_125 of_123 ∧ Sl (Rep.int .i64) col_282 w_281 a2 cap2 p2_points ∧ GO 85 86 1 col_282 w_281 o_14 t_12 ∧ Own (Rep.pair (Rep.int .i64) (Rep.int .i64)) 47 3 col_282 w_281 ra_40 rc_41 r_38.1 ∧ f 10 = (.bool r_38.2) ∧ f 11 = (.int .i64 count_49) ∧ f 15 = (.slice a_124 of_123.length cap_125) ∧ f 17 = (.int .i64 seen_127) ∧ f 2 = (.slice a2 p2_points.length cap2) ∧ f 211 = (.bool v_283) ∧ f 22 = (.int .i64 i_255) ∧ f 8 = (.pointer (some ⟨o_14.g, 0, none⟩)) ∧ f 9 = (.slice ra_40 r_38.1.length rc_41) ∧ f 1000000 = (enc [])) ?_ ?_
                    · intro f w_281 hJ
                      obtain ⟨col_282, v_283, hm, hst, h_126, h2, hG_15, rh_42, hs10, hs11, hs15, hs17, hs2, hs211, hs22, hs8, hs9, hs1000000⟩ := hJ
                      rw [m_l15_GraphTold_J7.eq_1] at hm
                      refine .ld (d := 10) (v := (.bool r_38.2)) hs10 ?_
                      refine .ld (d := 11) (v := (.int .i64 count_49)) hs11 ?_
                      refine .ld (d := 15) (v := (.slice a_124 of_123.length cap_125)) hs15 ?_
                      refine .ld (d := 17) (v := (.int .i64 seen_127)) hs17 ?_
                      refine .ld (d := 2) (v := (.slice a2 p2_points.length cap2)) hs2 ?_
                      refine .ld (d := 211) (v := (.bool v_283)) hs211 ?_
                      refine .ld (d := 22) (v := (.int .i64 i_255)) hs22 ?_
                      refine .ld (d := 8) (v := (.pointer (some ⟨o_14.g, 0, none⟩))) hs8 ?_
                      refine .ld (d := 9) (v := (.slice ra_40 r_38.1.length rc_41)) hs9 ?_
                      refine .ld (d := 1000000) (v := (enc [])) hs1000000 ?_
                      clear hs10 hs11 hs15 hs17 hs2 hs211 hs22 hs8 hs9 hs1000000
                      refine wcond (v_283) rfl (fun hb => ?_) (fun hb => ?_)
                      · rw [if_pos hb] at hm
                        clear hb
                        refine wseq ?_
                        refine wregion ?_
                        refine lv (v := (.bool false)) rfl rfl (r_assign rfl) ?_
                        refine lnil ?_
                        refine wret ?_
                        cases hm
                        exact ⟨rfl, rfl, hst.below⟩
                      · rw [if_neg (by rw [hb]; decide)] at hm
                        clear hb
                        refine wskip ?_
                        refine wregion ?_
                        refine lv (v := (.int .i64 i_255)) rfl rfl (r_move rfl) ?_
                        refine lv (v := (.int .i64 (IntKind.i64.wrap (i_255 + 1)))) rfl rfl (r_add i_255 1 rfl rfl) ?_
                        refine lv (v := (.int .i64 (IntKind.i64.wrap (i_255 + 1)))) rfl rfl (r_assign rfl) ?_
                        refine lnil ?_
                        exact ⟨n_252, by omega, ⟨col_282, (IntKind.i64.wrap (i_255 + 1)), n_252, rfl, hm, hst, h_126, h2, hG_15, rh_42, rfl, rfl, rfl, rfl, rfl, rfl, rfl, rfl, rfl⟩⟩
                    · refine wquiet (col := col_254) (by kernel_rfl) (by kernel_rfl) ?_
                      refine qv (v := (.slice a_124 of_123.length cap_125)) rfl (fun _ hC => r_move rfl) ?_
                      refine qv (v := (.slice ra_40 r_38.1.length rc_41)) rfl (fun _ hC => r_move rfl) ?_
                      refine qv (v := (.int .i64 i_255)) rfl (fun _ hC => r_move rfl) ?_
                      obtain ⟨e_284, hj_285, hm⟩ := bind_some hm
                      refine qv (v := (sptr ra_40 (Int.toNat i_255 * 2))) rfl (fun _ hC => r_idx Try.underlying29 Try.sizeOf47 rfl rfl (at?_some hj_285).1 (at?_some hj_285).2.1 (rh_42.addr hj_285)) ?_
                      refine qv (v := (.pointer ((ra_40.map (·.add (Int.toNat i_255 * 2))).map (·.add 0)))) rfl (fun _ hC => r_fieldAddr (sz := 1) (off := 0) Try.underlying47 rfl Try.sizeOf3 (by decide) rfl rfl (sptr_addr (rh_42.addr hj_285))) ?_
                      obtain ⟨_, hr_286, hA_287⟩ := rh_42.atN hj_285
                      obtain ⟨_, _, rfl, hp_288, hp_289⟩ := hr_286.parts
                      obtain rfl := hp_288.int
                      obtain rfl := hp_289.int
                      refine qv (v := (.int .i64 e_284.1)) rfl (fun _ hC => r_ld Try.isAgg3 rfl (((hA_287).nth (q := 0) (v := (.int .i64 e_284.1)) rfl).gr (Grow.of_below (col := col_254) hC.below))) ?_
                      obtain ⟨e_290, hj_291, hm⟩ := bind_some hm
                      refine qv (v := (sptr a_124 (Int.toNat e_284.1 * 1))) rfl (fun _ hC => r_idx Try.underlying22 Try.sizeOf3 rfl rfl (at?_some hj_291).1 (at?_some hj_291).2.1 (h_126.addr hj_291)) ?_
                      refine qv (v := (.int .i64 e_290)) rfl (fun _ hC => r_ld Try.isAgg3 rfl ((h_126.gr (Grow.of_below (col := col_254) hC.below)).atInt hj_291)) ?_
                      refine qv (v := (.slice a_124 of_123.length cap_125)) rfl (fun _ hC => r_move rfl) ?_
                      refine qv (v := (.slice ra_40 r_38.1.length rc_41)) rfl (fun _ hC => r_move rfl) ?_
                      refine qv (v := (.int .i64 i_255)) rfl (fun _ hC => r_move rfl) ?_
                      refine qv (v := (sptr ra_40 (Int.toNat i_255 * 2))) rfl (fun _ hC => r_idx Try.underlying29 Try.sizeOf47 rfl rfl (at?_some hj_285).1 (at?_some hj_285).2.1 (rh_42.addr hj_285)) ?_
                      refine qv (v := (.pointer ((ra_40.map (·.add (Int.toNat i_255 * 2))).map (·.add 1)))) rfl (fun _ hC => r_fieldAddr (sz := 1) (off := 1) Try.underlying47 rfl Try.sizeOf3 (by decide) rfl rfl (sptr_addr (rh_42.addr hj_285))) ?_
                      obtain ⟨_, hr_292, hA_293⟩ := rh_42.atN hj_285
                      obtain ⟨_, _, rfl, hp_294, hp_295⟩ := hr_292.parts
                      obtain rfl := hp_294.int
                      obtain rfl := hp_295.int
                      refine qv (v := (.int .i64 e_284.2)) rfl (fun _ hC => r_ld Try.isAgg3 rfl (((hA_293).nth (q := 1) (v := (.int .i64 e_284.2)) rfl).gr (Grow.of_below (col := col_254) hC.below))) ?_
                      obtain ⟨e_296, hj_297, hm⟩ := bind_some hm
                      refine qv (v := (sptr a_124 (Int.toNat e_284.2 * 1))) rfl (fun _ hC => r_idx Try.underlying22 Try.sizeOf3 rfl rfl (at?_some hj_297).1 (at?_some hj_297).2.1 (h_126.addr hj_297)) ?_
                      refine qv (v := (.int .i64 e_296)) rfl (fun _ hC => r_ld Try.isAgg3 rfl ((h_126.gr (Grow.of_below (col := col_254) hC.below)).atInt hj_297)) ?_
                      refine qv (v := (.bool (!decide (e_290 = e_296)))) rfl (fun _ hC => r_neq e_290 e_296 rfl rfl) ?_
                      refine qv (v := (.bool (!decide (e_290 = e_296)))) rfl (fun _ hC => r_move rfl) ?_
                      by_cases hg_298 : (!decide (e_290 = e_296)) = true
                      · rw [if_pos hg_298] at hm
                        refine qp (b := !decide (e_290 = e_296)) 199 rfl rfl rfl rfl (by rw [hg_298]; rfl) ?_
                        refine qp (b := !decide (e_290 = e_296)) 199 rfl rfl rfl rfl (by rw [hg_298]; rfl) ?_
                        refine qp (b := !decide (e_290 = e_296)) 199 rfl rfl rfl rfl (by rw [hg_298]; rfl) ?_
                        refine qp (b := !decide (e_290 = e_296)) 199 rfl rfl rfl rfl (by rw [hg_298]; rfl) ?_
                        refine qp (b := !decide (e_290 = e_296)) 199 rfl rfl rfl rfl (by rw [hg_298]; rfl) ?_
                        refine qp (b := !decide (e_290 = e_296)) 199 rfl rfl rfl rfl (by rw [hg_298]; rfl) ?_
                        refine qp (b := !decide (e_290 = e_296)) 199 rfl rfl rfl rfl (by rw [hg_298]; rfl) ?_
                        refine qp (b := !decide (e_290 = e_296)) 199 rfl rfl rfl rfl (by rw [hg_298]; rfl) ?_
                        refine qp (b := !decide (e_290 = e_296)) 199 rfl rfl rfl rfl (by rw [hg_298]; rfl) ?_
                        refine qp (b := !decide (e_290 = e_296)) 199 rfl rfl rfl rfl (by rw [hg_298]; rfl) ?_
                        refine qp (b := !decide (e_290 = e_296)) 199 rfl rfl rfl rfl (by rw [hg_298]; rfl) ?_
                        refine qv (v := (.bool true)) rfl (fun _ hC => r_pickT (congrArg Value.bool hg_298) rfl) ?_
                        refine qnil ?_
                        intro w_299 hC
                        replace hC : Grow col_254 w_253 col_254 w_299 := .of_below hC.below
                        replace h_126 := h_126.gr hC
                        replace h2 := h2.gr hC
                        replace hG_15 := hG_15.gr hC
                        replace rh_42 := rh_42.gr hC
                        replace hst := hst.grow hC
                        exact ⟨col_254, true, hm, hst, h_126, h2, hG_15, rh_42, rfl, rfl, rfl, rfl, rfl, rfl, rfl, rfl, rfl, rfl⟩
                      · rw [if_neg hg_298] at hm
                        replace hg_298 := Bool.eq_false_iff.2 hg_298
                        refine qg (b := !decide (e_290 = e_296)) 199 rfl rfl rfl (by rw [hg_298]; rfl) ?_
                        refine qv (v := (.slice ra_40 r_38.1.length rc_41)) rfl (fun _ hC => r_move rfl) ?_
                        refine qg (b := !decide (e_290 = e_296)) 199 rfl rfl rfl (by rw [hg_298]; rfl) ?_
                        refine qv (v := (.int .i64 i_255)) rfl (fun _ hC => r_move rfl) ?_
                        refine qg (b := !decide (e_290 = e_296)) 199 rfl rfl rfl (by rw [hg_298]; rfl) ?_
                        refine qv (v := (sptr ra_40 (Int.toNat i_255 * 2))) rfl (fun _ hC => r_idx Try.underlying29 Try.sizeOf47 rfl rfl (at?_some hj_285).1 (at?_some hj_285).2.1 (rh_42.addr hj_285)) ?_
                        refine qg (b := !decide (e_290 = e_296)) 199 rfl rfl rfl (by rw [hg_298]; rfl) ?_
                        refine qv (v := (.pointer ((ra_40.map (·.add (Int.toNat i_255 * 2))).map (·.add 0)))) rfl (fun _ hC => r_fieldAddr (sz := 1) (off := 0) Try.underlying47 rfl Try.sizeOf3 (by decide) rfl rfl (sptr_addr (rh_42.addr hj_285))) ?_
                        refine qg (b := !decide (e_290 = e_296)) 199 rfl rfl rfl (by rw [hg_298]; rfl) ?_
                        obtain ⟨_, hr_300, hA_301⟩ := rh_42.atN hj_285
                        obtain ⟨_, _, rfl, hp_302, hp_303⟩ := hr_300.parts
                        obtain rfl := hp_302.int
                        obtain rfl := hp_303.int
                        refine qv (v := (.int .i64 e_284.1)) rfl (fun _ hC => r_ld Try.isAgg3 rfl (((hA_301).nth (q := 0) (v := (.int .i64 e_284.1)) rfl).gr (Grow.of_below (col := col_254) hC.below))) ?_
                        refine qg (b := !decide (e_290 = e_296)) 199 rfl rfl rfl (by rw [hg_298]; rfl) ?_
                        refine qv (v := (.slice ra_40 r_38.1.length rc_41)) rfl (fun _ hC => r_move rfl) ?_
                        refine qg (b := !decide (e_290 = e_296)) 199 rfl rfl rfl (by rw [hg_298]; rfl) ?_
                        refine qv (v := (.int .i64 i_255)) rfl (fun _ hC => r_move rfl) ?_
                        refine qg (b := !decide (e_290 = e_296)) 199 rfl rfl rfl (by rw [hg_298]; rfl) ?_
                        refine qv (v := (sptr ra_40 (Int.toNat i_255 * 2))) rfl (fun _ hC => r_idx Try.underlying29 Try.sizeOf47 rfl rfl (at?_some hj_285).1 (at?_some hj_285).2.1 (rh_42.addr hj_285)) ?_
                        refine qg (b := !decide (e_290 = e_296)) 199 rfl rfl rfl (by rw [hg_298]; rfl) ?_
                        refine qv (v := (.pointer ((ra_40.map (·.add (Int.toNat i_255 * 2))).map (·.add 1)))) rfl (fun _ hC => r_fieldAddr (sz := 1) (off := 1) Try.underlying47 rfl Try.sizeOf3 (by decide) rfl rfl (sptr_addr (rh_42.addr hj_285))) ?_
                        refine qg (b := !decide (e_290 = e_296)) 199 rfl rfl rfl (by rw [hg_298]; rfl) ?_
                        obtain ⟨_, hr_304, hA_305⟩ := rh_42.atN hj_285
                        obtain ⟨_, _, rfl, hp_306, hp_307⟩ := hr_304.parts
                        obtain rfl := hp_306.int
                        obtain rfl := hp_307.int
                        refine qv (v := (.int .i64 e_284.2)) rfl (fun _ hC => r_ld Try.isAgg3 rfl (((hA_305).nth (q := 1) (v := (.int .i64 e_284.2)) rfl).gr (Grow.of_below (col := col_254) hC.below))) ?_
                        refine qg (b := !decide (e_290 = e_296)) 199 rfl rfl rfl (by rw [hg_298]; rfl) ?_
                        refine qv (v := (.bool (decide (e_284.2 ≤ e_284.1)))) rfl (fun _ hC => r_geq e_284.1 e_284.2 rfl rfl) ?_
                        refine qv (v := (.bool (decide (e_284.2 ≤ e_284.1)))) rfl (fun _ hC => r_pickF (congrArg Value.bool hg_298) rfl) ?_
                        refine qnil ?_
                        intro w_308 hC
                        replace hC : Grow col_254 w_253 col_254 w_308 := .of_below hC.below
                        replace h_126 := h_126.gr hC
                        replace h2 := h2.gr hC
                        replace hG_15 := hG_15.gr hC
                        replace rh_42 := rh_42.gr hC
                        replace hst := hst.grow hC
                        exact ⟨col_254, (decide (e_284.2 ≤ e_284.1)), hm, hst, h_126, h2, hG_15, rh_42, rfl, rfl, rfl, rfl, rfl, rfl, rfl, rfl, rfl, rfl⟩
                  · rw [if_neg (by rw [hb]; decide)] at hm
                    clear hb
                    refine wexit (inB_hit ?_)
                    refine wseq ?_
                    refine wregion ?_
                    refine lv (v := (.pointer (some ⟨o_14.g, 0, none⟩))) rfl rfl (r_move rfl) ?_
                    refine lv (v := (.slice a2 p2_points.length cap2)) rfl rfl (r_move rfl) ?_
                    obtain ⟨r_309, hr_310, hm⟩ := bind_some hm
                    refine lc rfl rfl (r_call2 Try.call28 rfl rfl) (c_graph_Graph_Among N 10 col_254 _ 1 (by decide) o_14 t_12 a2 cap2 p2_points hG_15 h2 r_309 hr_310) ?_
                    rintro _ w_313 ⟨col_315, rv_311, rfl, hg_314, rh_312⟩
                    refine ⟨_, rfl, ?_⟩
                    replace hG_15 := hG_15.gr hg_314
                    replace rh_42 := rh_42.gr hg_314
                    replace h2 := h2.gr hg_314
                    replace hst := hst.grow hg_314
                    cases hx_317 : r_309 with
                    | none =>
                      rw [hx_317] at hm rh_312
                      replace hm := optC_none hm
                      obtain rfl := optP_none rh_312
                      clear rh_312
                      refine lv (v := (.pointer none)) rfl rfl (r_assign rfl) ?_
                      refine lnil ?_
                      refine wseq ?_
                      refine wseq ?_
                      refine wregion ?_
                      refine lv (v := (.pointer none)) rfl rfl (r_move rfl) ?_
                      refine lv (v := (.bool true)) rfl rfl (r_eqlP0 ⟨_, Try.underlying24⟩ rfl rfl) ?_
                      refine lnil ?_
                      refine wcondT rfl ?_
                      refine wseq ?_
                      refine wregion ?_
                      refine lv (v := (.bool false)) rfl rfl (r_assign rfl) ?_
                      refine lnil ?_
                      refine wret ?_
                      cases hm
                      exact ⟨rfl, rfl, hst.below⟩
                    | some t_316 =>
                      rw [hx_317] at hm rh_312
                      replace hm := optC_some hm
                      obtain ⟨o_318, rfl, hG_319⟩ := optP_some rh_312
                      refine lv (v := (.pointer (some ⟨o_318.g, 0, none⟩))) rfl rfl (r_assign rfl) ?_
                      refine lnil ?_
                      refine wseq ?_
                      refine wseq ?_
                      refine wregion ?_
                      refine lv (v := (.pointer (some ⟨o_318.g, 0, none⟩))) rfl rfl (r_move rfl) ?_
                      refine lv (v := (.bool false)) rfl rfl (r_eqlP1 ⟨_, Try.underlying24⟩ rfl rfl) ?_
                      refine lnil ?_
                      refine wcondF rfl ?_
                      refine wskip ?_
                      refine wseq ?_
                      refine wregion ?_
                      refine lv (v := (.pointer (some ⟨o_318.g, 0, none⟩))) rfl rfl (r_move rfl) ?_
                      obtain ⟨r_320, hr_321, hm⟩ := bind_some hm
                      refine lc rfl rfl (r_call1 Try.call25 rfl) (c_l15_listed N 11 col_315 _ 10 (by decide) o_318 t_316 hG_319 r_320 hr_321) ?_
                      rintro _ w_325 ⟨col_327, ra_322, rc_323, rfl, hg_326, rh_324⟩
                      refine ⟨_, rfl, ?_⟩
                      replace hG_15 := hG_15.gr hg_326
                      replace rh_42 := rh_42.gr hg_326
                      replace hG_319 := hG_319.gr hg_326
                      replace hst := hst.grow hg_326
                      refine lv (v := (.tuple #[(.slice ra_322 r_320.1.length rc_323), (.bool r_320.2)])) rfl rfl (r_move rfl) ?_
                      refine lv (v := (.slice ra_322 r_320.1.length rc_323)) rfl rfl (r_extract rfl rfl) ?_
                      refine lv (v := (.bool r_320.2)) rfl rfl (r_extract rfl rfl) ?_
                      refine lv (v := (.slice ra_322 r_320.1.length rc_323)) rfl rfl (r_assign rfl) ?_
                      refine lv (v := (.bool r_320.2)) rfl rfl (r_assign rfl) ?_
                      refine lnil ?_
                      refine wseq ?_
                      refine wseq ?_
                      refine wregion ?_
                      refine lv (v := (.int .i64 0)) rfl rfl (r_assign rfl) ?_
                      refine lnil ?_
                      refine wblock ?_
                      refine wloop (fun n f w_329 => ∃ (col_330 : Col) (i_331 : Int) (n_328 : Nat), n_328 = n ∧ m_l15_GraphTold_L7 N t_12 r_38 count_49 seen_127 t_316 r_320 n_328 i_331 = some r ∧ St w0 (col0 col) col_330 w_329 ∧ GO 85 86 10 col_330 w_329 o_318 t_316 ∧ Own (Rep.pair (Rep.int .i64) (Rep.int .i64)) 47 11 col_330 w_329 ra_322 rc_323 r_320.1 ∧ GO 85 86 1 col_330 w_329 o_14 t_12 ∧ Own (Rep.pair (Rep.int .i64) (Rep.int .i64)) 47 3 col_330 w_329 ra_40 rc_41 r_38.1 ∧ f 10 = (.bool r_38.2) ∧ f 11 = (.int .i64 count_49) ∧ f 17 = (.int .i64 seen_127) ∧ f 23 = (.pointer (some ⟨o_318.g, 0, none⟩)) ∧ f 24 = (.slice ra_322 r_320.1.length rc_323) ∧ f 25 = (.bool r_320.2) ∧ f 26 = (.int .i64 i_331) ∧ f 8 = (.pointer (some ⟨o_14.g, 0, none⟩)) ∧ f 9 = (.slice ra_40 r_38.1.length rc_41) ∧ f 1000000 = (enc [])) N ⟨col_327, 0, N, rfl, hm, hst, hG_319, rh_324, hG_15, rh_42, rfl, rfl, rfl, rfl, rfl, rfl, rfl, rfl, rfl, rfl⟩ ?_
                      clear hm; intro n f w_329 hI
                      obtain ⟨col_330, i_331, n_328, hn, hm, hst, hG_319, rh_324, hG_15, rh_42, hs10, hs11, hs17, hs23, hs24, hs25, hs26, hs8, hs9, hs1000000⟩ := hI
                      subst hn
                      refine .ld (d := 10) (v := (.bool r_38.2)) hs10 ?_
                      refine .ld (d := 11) (v := (.int .i64 count_49)) hs11 ?_
                      refine .ld (d := 17) (v := (.int .i64 seen_127)) hs17 ?_
                      refine .ld (d := 23) (v := (.pointer (some ⟨o_318.g, 0, none⟩))) hs23 ?_
                      refine .ld (d := 24) (v := (.slice ra_322 r_320.1.length rc_323)) hs24 ?_
                      refine .ld (d := 25) (v := (.bool r_320.2)) hs25 ?_
                      refine .ld (d := 26) (v := (.int .i64 i_331)) hs26 ?_
                      refine .ld (d := 8) (v := (.pointer (some ⟨o_14.g, 0, none⟩))) hs8 ?_
                      refine .ld (d := 9) (v := (.slice ra_40 r_38.1.length rc_41)) hs9 ?_
                      refine .ld (d := 1000000) (v := (enc [])) hs1000000 ?_
                      clear hs10 hs11 hs17 hs23 hs24 hs25 hs26 hs8 hs9 hs1000000
                      cases n_328 with
                      | zero => rw [m_l15_GraphTold_L7.eq_1] at hm; cases hm
                      | succ n_328 =>
                        rw [m_l15_GraphTold_L7.eq_2] at hm
                        refine wseq ?_
                        refine wseq ?_
                        refine wregion ?_
                        refine lv (v := (.int .i64 i_331)) rfl rfl (r_move rfl) ?_
                        refine lv (v := (.slice ra_322 r_320.1.length rc_323)) rfl rfl (r_move rfl) ?_
                        refine lv (v := (.int .i64 (r_320.1.length : Int))) rfl rfl (r_len Try.underlying29 rfl) ?_
                        refine lv (v := (.bool (decide (i_331 < (r_320.1.length : Int))))) rfl rfl (r_lss i_331 (r_320.1.length : Int) rfl rfl) ?_
                        refine lnil ?_
                        refine wcond (decide (i_331 < (r_320.1.length : Int))) rfl (fun hb => ?_) (fun hb => ?_)
                        · rw [if_pos hb] at hm
                          clear hb
                          refine wskip ?_
                          refine wseq ?_
                          refine wblock ?_
                          refine wseq ?_
                          refine wquiet (col := col_330) (by kernel_rfl) (by kernel_rfl) ?_
                          refine qv (v := (.pointer (some ⟨o_14.g, 0, none⟩))) rfl (fun _ hC => r_move rfl) ?_
                          refine qv (v := (.slice ra_322 r_320.1.length rc_323)) rfl (fun _ hC => r_move rfl) ?_
                          refine qv (v := (.int .i64 i_331)) rfl (fun _ hC => r_move rfl) ?_
                          obtain ⟨e_332, hj_333, hm⟩ := bind_some hm
                          refine qv (v := (sptr ra_322 (Int.toNat i_331 * 2))) rfl (fun _ hC => r_idx Try.underlying29 Try.sizeOf47 rfl rfl (at?_some hj_333).1 (at?_some hj_333).2.1 (rh_324.addr hj_333)) ?_
                          refine qv (v := (.pointer ((ra_322.map (·.add (Int.toNat i_331 * 2))).map (·.add 0)))) rfl (fun _ hC => r_fieldAddr (sz := 1) (off := 0) Try.underlying47 rfl Try.sizeOf3 (by decide) rfl rfl (sptr_addr (rh_324.addr hj_333))) ?_
                          obtain ⟨_, hr_334, hA_335⟩ := rh_324.atN hj_333
                          obtain ⟨_, _, rfl, hp_336, hp_337⟩ := hr_334.parts
                          obtain rfl := hp_336.int
                          obtain rfl := hp_337.int
                          refine qv (v := (.int .i64 e_332.1)) rfl (fun _ hC => r_ld Try.isAgg3 rfl (((hA_335).nth (q := 0) (v := (.int .i64 e_332.1)) rfl).gr (Grow.of_below (col := col_330) hC.below))) ?_
                          refine qv (v := (.slice ra_322 r_320.1.length rc_323)) rfl (fun _ hC => r_move rfl) ?_
                          refine qv (v := (.int .i64 i_331)) rfl (fun _ hC => r_move rfl) ?_
                          refine qv (v := (sptr ra_322 (Int.toNat i_331 * 2))) rfl (fun _ hC => r_idx Try.underlying29 Try.sizeOf47 rfl rfl (at?_some hj_333).1 (at?_some hj_333).2.1 (rh_324.addr hj_333)) ?_
                          refine qv (v := (.pointer ((ra_322.map (·.add (Int.toNat i_331 * 2))).map (·.add 1)))) rfl (fun _ hC => r_fieldAddr (sz := 1) (off := 1) Try.underlying47 rfl Try.sizeOf3 (by decide) rfl rfl (sptr_addr (rh_324.addr hj_333))) ?_
                          obtain ⟨_, hr_338, hA_339⟩ := rh_324.atN hj_333
                          obtain ⟨_, _, rfl, hp_340, hp_341⟩ := hr_338.parts
                          obtain rfl := hp_340.int
                          obtain rfl := hp_341.int
                          refine qv (v := (.int .i64 e_332.2)) rfl (fun _ hC => r_ld Try.isAgg3 rfl (((hA_339).nth (q := 1) (v := (.int .i64 e_332.2)) rfl).gr (Grow.of_below (col := col_330) hC.below))) ?_
                          obtain ⟨r_342, hr_343, hm⟩ := bind_some hm
                          refine qc (v := (.bool r_342)) rfl (fun _ hC => ⟨_, _, r_call3 Try.call24 rfl rfl rfl, (c_graph_Graph_Has col_330 _ 1 (by decide) o_14 t_12 e_332.1 e_332.2 (hG_15.gr (Grow.of_below (col := col_330) hC.below)) r_342 hr_343).mono fun _ _ h => ⟨h.1, hC.trans (.of_below h.2)⟩⟩) ?_
                          refine qv (v := (.bool r_342)) rfl (fun _ hC => r_assign rfl) ?_
                          refine qnil ?_
                          intro w_344 hC
                          replace hC : Grow col_330 w_329 col_330 w_344 := .of_below hC.below
                          replace hG_319 := hG_319.gr hC
                          replace rh_324 := rh_324.gr hC
                          replace hG_15 := hG_15.gr hC
                          replace rh_42 := rh_42.gr hC
                          replace hst := hst.grow hC
                          refine wseq ?_
                          refine wregion ?_
                          refine lv (v := (.bool r_342)) rfl rfl (r_move rfl) ?_
                          refine lv (v := (.bool (!r_342))) rfl rfl (r_not r_342 rfl) ?_
                          refine lnil ?_
                          refine wcond (!r_342) rfl (fun hb => ?_) (fun hb => ?_)
                          · rw [if_pos hb] at hm
                            clear hb
                            refine wseq ?_
                            refine wregion ?_
                            refine lv (v := (.bool false)) rfl rfl (r_assign rfl) ?_
                            refine lnil ?_
                            refine wret ?_
                            cases hm
                            exact ⟨rfl, rfl, hst.below⟩
                          · rw [if_neg (by rw [hb]; decide)] at hm
                            clear hb
                            refine wskip ?_
                            refine wregion ?_
                            refine lv (v := (.int .i64 i_331)) rfl rfl (r_move rfl) ?_
                            refine lv (v := (.int .i64 (IntKind.i64.wrap (i_331 + 1)))) rfl rfl (r_add i_331 1 rfl rfl) ?_
                            refine lv (v := (.int .i64 (IntKind.i64.wrap (i_331 + 1)))) rfl rfl (r_assign rfl) ?_
                            refine lnil ?_
                            exact ⟨n_328, by omega, ⟨col_330, (IntKind.i64.wrap (i_331 + 1)), n_328, rfl, hm, hst, hG_319, rh_324, hG_15, rh_42, rfl, rfl, rfl, rfl, rfl, rfl, rfl, rfl, rfl, rfl⟩⟩
                        · rw [if_neg (by rw [hb]; decide)] at hm
                          clear hb
                          refine wexit (inB_hit ?_)
                          refine wseq ?_
                          refine Wp.cut (fun f w_361 => ∃ (col_362 : Col) (v_363 : Bool), m_l15_GraphTold_J8 v_363 = some r ∧ St w0 (col0 col) col_362 w_361 ∧ f 6 = (.bool v_363) ∧ f 1000000 = (enc [])) ?_ ?_
                          · intro f w_361 hJ
                            obtain ⟨col_362, v_363, hm, hst, hs6, hs1000000⟩ := hJ
                            rw [m_l15_GraphTold_J8.eq_1] at hm
                            refine .ld (d := 6) (v := (.bool v_363)) hs6 ?_
                            refine .ld (d := 1000000) (v := (enc [])) hs1000000 ?_
                            clear hs6 hs1000000
                            refine wret ?_
                            cases hm
                            exact ⟨rfl, rfl, hst.below⟩
                          · refine wregion ?_
                            refine lv (v := (.bool r_38.2)) rfl rfl (r_move rfl) ?_
                            refine lv (v := (.bool r_38.2)) rfl rfl (r_move rfl) ?_
                            by_cases hg_364 : r_38.2 = true
                            · rw [if_pos hg_364] at hm
                              refine lg (b := r_38.2) 243 rfl rfl rfl (by rw [hg_364]; rfl) ?_
                              refine lv (v := (.bool r_320.2)) rfl rfl (r_move rfl) ?_
                              refine lv (v := (.bool r_320.2)) rfl rfl (r_pickT (congrArg Value.bool hg_364) rfl) ?_
                              refine lv (v := (.bool r_320.2)) rfl rfl (r_move rfl) ?_
                              by_cases hg_365 : r_320.2 = true
                              · rw [if_pos hg_365] at hm
                                refine lg (b := r_320.2) 246 rfl rfl rfl (by rw [hg_365]; rfl) ?_
                                refine lv (v := (.int .i64 count_49)) rfl rfl (r_move rfl) ?_
                                refine lg (b := r_320.2) 246 rfl rfl rfl (by rw [hg_365]; rfl) ?_
                                refine lv (v := (.slice ra_40 r_38.1.length rc_41)) rfl rfl (r_move rfl) ?_
                                refine lg (b := r_320.2) 246 rfl rfl rfl (by rw [hg_365]; rfl) ?_
                                refine lv (v := (.int .i64 (r_38.1.length : Int))) rfl rfl (r_len Try.underlying29 rfl) ?_
                                refine lg (b := r_320.2) 246 rfl rfl rfl (by rw [hg_365]; rfl) ?_
                                refine lv (v := (.int .i64 (IntKind.i64.wrap (2 * (r_38.1.length : Int))))) rfl rfl (r_mul 2 (r_38.1.length : Int) rfl rfl) ?_
                                refine lg (b := r_320.2) 246 rfl rfl rfl (by rw [hg_365]; rfl) ?_
                                refine lv (v := (.bool (decide (count_49 = (IntKind.i64.wrap (2 * (r_38.1.length : Int))))))) rfl rfl (r_eql count_49 (IntKind.i64.wrap (2 * (r_38.1.length : Int))) rfl rfl) ?_
                                refine lv (v := (.bool (decide (count_49 = (IntKind.i64.wrap (2 * (r_38.1.length : Int))))))) rfl rfl (r_pickT (congrArg Value.bool hg_365) rfl) ?_
                                refine lv (v := (.bool (decide (count_49 = (IntKind.i64.wrap (2 * (r_38.1.length : Int))))))) rfl rfl (r_move rfl) ?_
                                by_cases hg_366 : (decide (count_49 = (IntKind.i64.wrap (2 * (r_38.1.length : Int))))) = true
                                · rw [if_pos hg_366] at hm
                                  refine lg (b := decide (count_49 = (IntKind.i64.wrap (2 * (r_38.1.length : Int))))) 253 rfl rfl rfl (by rw [hg_366]; rfl) ?_
                                  refine lv (v := (.int .i64 seen_127)) rfl rfl (r_move rfl) ?_
                                  refine lg (b := decide (count_49 = (IntKind.i64.wrap (2 * (r_38.1.length : Int))))) 253 rfl rfl rfl (by rw [hg_366]; rfl) ?_
                                  refine lv (v := (.pointer (some ⟨o_14.g, 0, none⟩))) rfl rfl (r_move rfl) ?_
                                  refine lg (b := decide (count_49 = (IntKind.i64.wrap (2 * (r_38.1.length : Int))))) 253 rfl rfl rfl (by rw [hg_366]; rfl) ?_
                                  obtain ⟨r_367, hr_368, hm⟩ := bind_some hm
                                  refine lc rfl rfl (r_call1 Try.call15 rfl) (c_graph_Graph_Len col_330 _ 1 (by decide) o_14 t_12 hG_15 r_367 hr_368) ?_
                                  rintro _ w_369 ⟨rfl, hg_370⟩
                                  refine ⟨_, rfl, ?_⟩
                                  replace hg_370 : Grow col_330 w_329 col_330 w_369 := .of_below hg_370
                                  replace hG_319 := hG_319.gr hg_370
                                  replace hG_15 := hG_15.gr hg_370
                                  replace hst := hst.grow hg_370
                                  refine lg (b := decide (count_49 = (IntKind.i64.wrap (2 * (r_38.1.length : Int))))) 253 rfl rfl rfl (by rw [hg_366]; rfl) ?_
                                  refine lv (v := (.bool (decide (seen_127 = r_367)))) rfl rfl (r_eql seen_127 r_367 rfl rfl) ?_
                                  refine lv (v := (.bool (decide (seen_127 = r_367)))) rfl rfl (r_pickT (congrArg Value.bool hg_366) rfl) ?_
                                  refine lv (v := (.bool (decide (seen_127 = r_367)))) rfl rfl (r_move rfl) ?_
                                  by_cases hg_371 : (decide (seen_127 = r_367)) = true
                                  · rw [if_pos hg_371] at hm
                                    refine lg (b := decide (seen_127 = r_367)) 259 rfl rfl rfl (by rw [hg_371]; rfl) ?_
                                    refine lv (v := (.pointer (some ⟨o_318.g, 0, none⟩))) rfl rfl (r_move rfl) ?_
                                    refine lg (b := decide (seen_127 = r_367)) 259 rfl rfl rfl (by rw [hg_371]; rfl) ?_
                                    obtain ⟨r_372, hr_373, hm⟩ := bind_some hm
                                    refine lc rfl rfl (r_call1 Try.call15 rfl) (c_graph_Graph_Len col_330 _ 10 (by decide) o_318 t_316 hG_319 r_372 hr_373) ?_
                                    rintro _ w_374 ⟨rfl, hg_375⟩
                                    refine ⟨_, rfl, ?_⟩
                                    replace hg_375 : Grow col_330 w_369 col_330 w_374 := .of_below hg_375
                                    replace hG_15 := hG_15.gr hg_375
                                    replace hG_319 := hG_319.gr hg_375
                                    replace hst := hst.grow hg_375
                                    refine lg (b := decide (seen_127 = r_367)) 259 rfl rfl rfl (by rw [hg_371]; rfl) ?_
                                    refine lv (v := (.pointer (some ⟨o_14.g, 0, none⟩))) rfl rfl (r_move rfl) ?_
                                    refine lg (b := decide (seen_127 = r_367)) 259 rfl rfl rfl (by rw [hg_371]; rfl) ?_
                                    obtain ⟨r_376, hr_377, hm⟩ := bind_some hm
                                    refine lc rfl rfl (r_call1 Try.call15 rfl) (c_graph_Graph_Len col_330 _ 1 (by decide) o_14 t_12 hG_15 r_376 hr_377) ?_
                                    rintro _ w_378 ⟨rfl, hg_379⟩
                                    refine ⟨_, rfl, ?_⟩
                                    replace hg_379 : Grow col_330 w_374 col_330 w_378 := .of_below hg_379
                                    replace hG_15 := hG_15.gr hg_379
                                    replace hst := hst.grow hg_379
                                    refine lg (b := decide (seen_127 = r_367)) 259 rfl rfl rfl (by rw [hg_371]; rfl) ?_
                                    refine lv (v := (.bool (decide (r_372 = r_376)))) rfl rfl (r_eql r_372 r_376 rfl rfl) ?_
                                    refine lv (v := (.bool (decide (r_372 = r_376)))) rfl rfl (r_pickT (congrArg Value.bool hg_371) rfl) ?_
                                    refine lv (v := (.bool (decide (r_372 = r_376)))) rfl rfl (r_assign rfl) ?_
                                    refine lnil ?_
                                    exact ⟨col_330, (decide (r_372 = r_376)), hm, hst, rfl, rfl⟩
                                  · rw [if_neg hg_371] at hm
                                    replace hg_371 := Bool.eq_false_iff.2 hg_371
                                    refine lp (b := decide (seen_127 = r_367)) 259 rfl rfl rfl rfl (by rw [hg_371]; rfl) ?_
                                    refine lp (b := decide (seen_127 = r_367)) 259 rfl rfl rfl rfl (by rw [hg_371]; rfl) ?_
                                    refine lp (b := decide (seen_127 = r_367)) 259 rfl rfl rfl rfl (by rw [hg_371]; rfl) ?_
                                    refine lp (b := decide (seen_127 = r_367)) 259 rfl rfl rfl rfl (by rw [hg_371]; rfl) ?_
                                    refine lp (b := decide (seen_127 = r_367)) 259 rfl rfl rfl rfl (by rw [hg_371]; rfl) ?_
                                    refine lv (v := (.bool false)) rfl rfl (r_pickF (congrArg Value.bool hg_371) rfl) ?_
                                    refine lv (v := (.bool false)) rfl rfl (r_assign rfl) ?_
                                    refine lnil ?_
                                    exact ⟨col_330, false, hm, hst, rfl, rfl⟩
                                · rw [if_neg hg_366] at hm
                                  replace hg_366 := Bool.eq_false_iff.2 hg_366
                                  refine lp (b := decide (count_49 = (IntKind.i64.wrap (2 * (r_38.1.length : Int))))) 253 rfl rfl rfl rfl (by rw [hg_366]; rfl) ?_
                                  refine lp (b := decide (count_49 = (IntKind.i64.wrap (2 * (r_38.1.length : Int))))) 253 rfl rfl rfl rfl (by rw [hg_366]; rfl) ?_
                                  refine lp (b := decide (count_49 = (IntKind.i64.wrap (2 * (r_38.1.length : Int))))) 253 rfl rfl rfl rfl (by rw [hg_366]; rfl) ?_
                                  refine lp (b := decide (count_49 = (IntKind.i64.wrap (2 * (r_38.1.length : Int))))) 253 rfl rfl rfl rfl (by rw [hg_366]; rfl) ?_
                                  refine lv (v := (.bool false)) rfl rfl (r_pickF (congrArg Value.bool hg_366) rfl) ?_
                                  refine lv (v := (.bool false)) rfl rfl (r_move rfl) ?_
                                  refine lp (b := false) 259 rfl rfl rfl rfl rfl ?_
                                  refine lp (b := false) 259 rfl rfl rfl rfl rfl ?_
                                  refine lp (b := false) 259 rfl rfl rfl rfl rfl ?_
                                  refine lp (b := false) 259 rfl rfl rfl rfl rfl ?_
                                  refine lp (b := false) 259 rfl rfl rfl rfl rfl ?_
                                  refine lv (v := (.bool false)) rfl rfl (r_pickF rfl rfl) ?_
                                  refine lv (v := (.bool false)) rfl rfl (r_assign rfl) ?_
                                  refine lnil ?_
                                  exact ⟨col_330, false, hm, hst, rfl, rfl⟩
                              · rw [if_neg hg_365] at hm
                                replace hg_365 := Bool.eq_false_iff.2 hg_365
                                refine lp (b := r_320.2) 246 rfl rfl rfl rfl (by rw [hg_365]; rfl) ?_
                                refine lp (b := r_320.2) 246 rfl rfl rfl rfl (by rw [hg_365]; rfl) ?_
                                refine lp (b := r_320.2) 246 rfl rfl rfl rfl (by rw [hg_365]; rfl) ?_
                                refine lp (b := r_320.2) 246 rfl rfl rfl rfl (by rw [hg_365]; rfl) ?_
                                refine lp (b := r_320.2) 246 rfl rfl rfl rfl (by rw [hg_365]; rfl) ?_
                                refine lv (v := (.bool false)) rfl rfl (r_pickF (congrArg Value.bool hg_365) rfl) ?_
                                refine lv (v := (.bool false)) rfl rfl (r_move rfl) ?_
                                refine lp (b := false) 253 rfl rfl rfl rfl rfl ?_
                                refine lp (b := false) 253 rfl rfl rfl rfl rfl ?_
                                refine lp (b := false) 253 rfl rfl rfl rfl rfl ?_
                                refine lp (b := false) 253 rfl rfl rfl rfl rfl ?_
                                refine lv (v := (.bool false)) rfl rfl (r_pickF rfl rfl) ?_
                                refine lv (v := (.bool false)) rfl rfl (r_move rfl) ?_
                                refine lp (b := false) 259 rfl rfl rfl rfl rfl ?_
                                refine lp (b := false) 259 rfl rfl rfl rfl rfl ?_
                                refine lp (b := false) 259 rfl rfl rfl rfl rfl ?_
                                refine lp (b := false) 259 rfl rfl rfl rfl rfl ?_
                                refine lp (b := false) 259 rfl rfl rfl rfl rfl ?_
                                refine lv (v := (.bool false)) rfl rfl (r_pickF rfl rfl) ?_
                                refine lv (v := (.bool false)) rfl rfl (r_assign rfl) ?_
                                refine lnil ?_
                                exact ⟨col_330, false, hm, hst, rfl, rfl⟩
                            · rw [if_neg hg_364] at hm
                              replace hg_364 := Bool.eq_false_iff.2 hg_364
                              refine lp (b := r_38.2) 243 rfl rfl rfl rfl (by rw [hg_364]; rfl) ?_
                              refine lv (v := (.bool false)) rfl rfl (r_pickF (congrArg Value.bool hg_364) rfl) ?_
                              refine lv (v := (.bool false)) rfl rfl (r_move rfl) ?_
                              refine lp (b := false) 246 rfl rfl rfl rfl rfl ?_
                              refine lp (b := false) 246 rfl rfl rfl rfl rfl ?_
                              refine lp (b := false) 246 rfl rfl rfl rfl rfl ?_
                              refine lp (b := false) 246 rfl rfl rfl rfl rfl ?_
                              refine lp (b := false) 246 rfl rfl rfl rfl rfl ?_
                              refine lv (v := (.bool false)) rfl rfl (r_pickF rfl rfl) ?_
                              refine lv (v := (.bool false)) rfl rfl (r_move rfl) ?_
                              refine lp (b := false) 253 rfl rfl rfl rfl rfl ?_
                              refine lp (b := false) 253 rfl rfl rfl rfl rfl ?_
                              refine lp (b := false) 253 rfl rfl rfl rfl rfl ?_
                              refine lp (b := false) 253 rfl rfl rfl rfl rfl ?_
                              refine lv (v := (.bool false)) rfl rfl (r_pickF rfl rfl) ?_
                              refine lv (v := (.bool false)) rfl rfl (r_move rfl) ?_
                              refine lp (b := false) 259 rfl rfl rfl rfl rfl ?_
                              refine lp (b := false) 259 rfl rfl rfl rfl rfl ?_
                              refine lp (b := false) 259 rfl rfl rfl rfl rfl ?_
                              refine lp (b := false) 259 rfl rfl rfl rfl rfl ?_
                              refine lp (b := false) 259 rfl rfl rfl rfl rfl ?_
                              refine lv (v := (.bool false)) rfl rfl (r_pickF rfl rfl) ?_
                              refine lv (v := (.bool false)) rfl rfl (r_assign rfl) ?_
                              refine lnil ?_
                              exact ⟨col_330, false, hm, hst, rfl, rfl⟩
    · refine wregion ?_
      refine lv (v := (.bool r_1)) rfl rfl (r_move rfl) ?_
      refine lv (v := (.bool (!r_1))) rfl rfl (r_not r_1 rfl) ?_
      refine lv (v := (.bool (!r_1))) rfl rfl (r_move rfl) ?_
      by_cases hg_380 : (!r_1) = true
      · rw [if_pos hg_380] at hm
        refine lp (b := !r_1) 34 rfl rfl rfl rfl (by rw [hg_380]; rfl) ?_
        refine lp (b := !r_1) 34 rfl rfl rfl rfl (by rw [hg_380]; rfl) ?_
        refine lv (v := (.bool true)) rfl rfl (r_pickT (congrArg Value.bool hg_380) rfl) ?_
        refine lnil ?_
        exact ⟨col_11, true, hm, hst, h2, hG_15, rfl, rfl, rfl, rfl⟩
      · rw [if_neg hg_380] at hm
        replace hg_380 := Bool.eq_false_iff.2 hg_380
        refine lg (b := !r_1) 34 rfl rfl rfl (by rw [hg_380]; rfl) ?_
        refine lv (v := (.pointer (some ⟨o_14.g, 0, none⟩))) rfl rfl (r_move rfl) ?_
        refine lg (b := !r_1) 34 rfl rfl rfl (by rw [hg_380]; rfl) ?_
        refine lv (v := (.bool false)) rfl rfl (r_eqlP1 ⟨_, Try.underlying24⟩ rfl rfl) ?_
        refine lv (v := (.bool false)) rfl rfl (r_pickF (congrArg Value.bool hg_380) rfl) ?_
        refine lnil ?_
        exact ⟨col_11, false, hm, hst, h2, hG_15, rfl, rfl, rfl, rfl⟩



/-! ### twice the edges -/
theorem sum_map_zero {β : Type} : ∀ M : List β, (M.map fun _ => (0 : Nat)).sum = 0
  | [] => rfl
  | _ :: M => by rw [List.map_cons, List.sum_cons, sum_map_zero M]
theorem sum_map_add {β : Type} (f g : β → Nat) : ∀ M : List β, (M.map fun b => f b + g b).sum = (M.map f).sum + (M.map g).sum
  | [] => rfl
  | b :: M => by simp only [List.map_cons, List.sum_cons, sum_map_add f g M]; omega
theorem sum_map_ite {β : Type} (q : β → Bool) : ∀ M : List β, (M.map fun b => if q b = true then 1 else 0).sum = (M.filter q).length
  | [] => rfl
  | b :: M => by
    rw [List.map_cons, List.sum_cons, sum_map_ite q M, List.filter_cons]
    cases q b <;> simp; omega
theorem sum_swap {α β : Type} (p : α → β → Bool) (M : List β) : ∀ L : List α, (L.map fun a => (M.filter (p a)).length).sum = (M.map fun b => (L.filter fun a => p a b).length).sum
  | [] => by simp only [List.map_nil, List.sum_nil, List.filter_nil, List.length_nil]; rw [sum_map_zero]
  | a :: L => by
    rw [List.map_cons, List.sum_cons, sum_swap p M L, ← sum_map_ite, ← sum_map_add]
    congr 1
    refine List.map_congr_left fun b _ => ?_
    rw [List.filter_cons]
    cases p a b <;> simp; omega
theorem filter_split {p q : Int → Bool} : ∀ L : List Int, (∀ x ∈ L, p x = true → q x = true → False) → (L.filter fun x => p x || q x).length = (L.filter p).length + (L.filter q).length
  | [], _ => rfl
  | x :: L, h => by
    have ih := filter_split L fun y hy => h y (by simp [hy])
    have := h x (by simp)
    rw [List.filter_cons, List.filter_cons, List.filter_cons]
    cases h1 : p x <;> cases h2 : q x <;> simp [ih] <;> first | omega | (exfalso; exact this h1 h2)
section
variable {n N : Nat} {t : List (List Bool)} {a b c x y : Int}
theorem near_len_eq (h : Tab n t) (p : Int → Bool) : ((near n t a).filter p).length = ((pts n).filter fun b => ge t a b && p b).length := by
  refine List.Perm.length_eq ((List.perm_ext_iff_of_nodup ?_ ?_).2 fun x => ?_)
  · exact ((gkeys_rises (row := row t a)).filter _).imp fun h => by omega
  · exact (pts_rises.filter _).imp fun h => by omega
  · rw [List.mem_filter, near_mem, List.mem_filter, pts_mem, Bool.and_eq_true]
    exact ⟨fun ⟨h1, h2⟩ => ⟨(h.range h1).2, h1, h2⟩, fun ⟨_, h1, h2⟩ => ⟨h1, h2⟩⟩
def nearSum (n : Nat) (t : List (List Bool)) (k : Nat) : Nat := ((List.range k).map fun a : Nat => (near n t (a : Int)).length).sum
theorem nearSum_succ (k : Nat) : nearSum n t (k + 1) = nearSum n t k + (near n t (k : Int)).length := by
  unfold nearSum
  rw [List.range_succ, List.map_append, List.sum_append]; simp
theorem nearSum_le (h : Tab n t) : ∀ k : Nat, nearSum n t k ≤ k * n
  | 0 => by simp [nearSum]
  | k + 1 => by
    have h1 := nearSum_le h k
    have h2 := near_len (a := (k : Int)) h
    rw [nearSum_succ, Nat.add_mul]; omega
theorem twice (h : Gr n t) : nearSum n t n = 2 * (edgesL n t).length := by
  have e1 : nearSum n t n = ((pts n).map fun a => ((pts n).filter fun b => ge t a b).length).sum := by
    unfold nearSum pts
    rw [List.map_map]
    congr 1
    refine List.map_congr_left fun k _ => ?_
    have := near_len_eq (a := (k : Int)) h.tab (fun _ => true)
    rw [show (near n t (k : Int)).filter (fun _ => true) = near n t (k : Int) from List.filter_eq_self.2 fun _ _ => rfl] at this
    rw [this]
    simp only [Bool.and_true, Function.comp]
    rfl
  have e2 : (edgesL n t).length = ((pts n).map fun a => ((pts n).filter fun b => ge t a b && decide (a < b)).length).sum := by
    unfold edgesL
    rw [List.length_flatMap]
    unfold pts
    rw [List.map_map]
    congr 1
    refine List.map_congr_left fun k _ => ?_
    rw [List.length_map]
    exact near_len_eq (a := (k : Int)) h.tab (fun b => decide ((k : Int) < b))
  have e3 : ((pts n).map fun a => ((pts n).filter fun b => ge t a b && decide (b < a)).length).sum = ((pts n).map fun a => ((pts n).filter fun b => ge t a b && decide (a < b)).length).sum := by
    rw [sum_swap (fun a b => ge t a b && decide (b < a))]
    congr 1
    refine List.map_congr_left fun b _ => ?_
    congr 1
    refine List.filter_congr fun a _ => ?_
    rw [h.sym]
  have e4 : ∀ a : Int, ((pts n).filter fun b => ge t a b).length = ((pts n).filter fun b => ge t a b && decide (a < b)).length + ((pts n).filter fun b => ge t a b && decide (b < a)).length := fun a => by
    rw [← filter_split]
    · congr 1
      refine List.filter_congr fun b _ => ?_
      cases hg : ge t a b
      · rfl
      · have hne : a ≠ b := fun e => by rw [e, h.irr] at hg; cases hg
        rw [Bool.true_and, Bool.true_and, ← Bool.decide_or]
        symm; rw [decide_eq_true_eq]; omega
    · intro x _ h1 h2
      simp only [Bool.and_eq_true, decide_eq_true_eq] at h1 h2
      omega
  rw [e1, e2]
  simp only [e4]
  rw [sum_map_add, e3]; omega

/-! ### the law's loops -/
theorem Told_L3 (h : Gr n t) (hn : n ≤ 12) (count : Int) (a : Int) (kk : Int → Int → Option Bool) : ∀ (f i : Nat), i ≤ (near n t a).length → (near n t a).length - i < f →
    m_l15_GraphTold_L3 N t count a kk (near n t a) f (i : Int) = kk (IntKind.i64.wrap (count + ((near n t a).length : Int))) (IntKind.i64.wrap (a + 1))
  | 0, i, _, hf => by omega
  | f + 1, i, hi, hf => by
    have hl := near_len (a := a) h.tab
    rw [m_l15_GraphTold_L3.eq_2]
    by_cases hlt : i < (near n t a).length
    · have e1 : ge t a (near n t a)[i] = true := near_mem.1 (List.getElem_mem hlt)
      have IH := Told_L3 h hn count a kk f (i + 1) (by omega) (by omega)
      rw [if_pos (decide_eq_true (by omega)), at?_lt hlt]
      simp only [Option.bind_some]
      rw [Has_eq h.tab, e1]
      simp only [Option.bind_some]
      rw [if_neg (by decide), Has_eq h.tab, h.sym, e1]
      simp only [Option.bind_some]
      rw [if_neg (by decide)]
      unfold m_l15_GraphTold_J4 m_l15_GraphTold_J3
      rw [wS (by omega), IH]
      by_cases h0 : 0 < i
      · rw [if_pos (decide_eq_true (by omega)), show IntKind.i64.wrap ((i : Int) - 1) = ((i - 1 : Nat) : Int) by rw [w64 (by omega)]; omega, at?_lt (show i - 1 < (near n t a).length by omega)]
        simp only [Option.bind_some]
        have := List.pairwise_iff_getElem.1 (gkeys_rises (row := row t a)) (i - 1) i (show i - 1 < (near n t a).length by omega) hlt (by omega)
        have e2 : (near n t a)[i - 1] < (near n t a)[i] := this
        rw [if_neg (by simp; omega)]
      · rw [if_neg (by simp; omega), if_neg (by decide)]
    · have : i = (near n t a).length := by omega
      rw [if_neg (by simp; omega)]
theorem Told_L2 (h : Gr n t) (hn : n ≤ 12) (hN : 2048 < N) (points : List Int) (r38 : List (Int × Int) × Bool)
    (hE : m_l15_GraphTold_L4 N points t r38 (nearSum n t n : Int) ((lsts n t).map (hang n t)) N (List.replicate n (0 : Int)) 0 0 = some true) : ∀ (f k : Nat), k ≤ n → n - k < f →
    m_l15_GraphTold_L2 N points t r38 f (nearSum n t k : Int) (k : Int) = some true
  | 0, k, _, hf => by omega
  | f + 1, k, hk, hf => by
    rw [m_l15_GraphTold_L2.eq_2]
    unfold m_graph_Graph_Len
    simp only [Option.bind_some]
    rw [h.tab.len]
    by_cases hlt : k < n
    · have h1 := nearSum_le h.tab k
      have h2 : k * n ≤ 12 * 12 := Nat.mul_le_mul (by omega) hn
      have hl := near_len (a := (k : Int)) h.tab
      rw [if_pos (decide_eq_true (by omega)), Near_eq h.tab (by omega)]
      simp only [Option.bind_some]
      have := Told_L3 (N := N) h hn (nearSum n t k : Int) (k : Int) (m_l15_GraphTold_L2 N points t r38 f) N 0 (Nat.zero_le _) (by omega)
      refine this.trans ?_
      rw [wS (by omega), show IntKind.i64.wrap ((nearSum n t k : Int) + ((near n t (k : Int)).length : Int)) = ((nearSum n t (k + 1) : Nat) : Int) by rw [w64 (by omega), nearSum_succ]; omega]
      exact Told_L2 h hn hN points r38 hE f (k + 1) (by omega) (by omega)
    · have : k = n := by omega
      subst this
      rw [if_neg (by simp), chk_pos ⟨by omega, by simp only [maxLen]; omega, by omega⟩, Pieces_eq h (by omega) hN]
      simp only [Option.bind_some, Int.toNat_natCast]
      exact hE
/-- What of tells when pieces ps[0 .. i) are gone through and the next up to its place k. -/
structure OF (n : Nat) (ps : List (List Int)) (i k : Nat) (cur : List Int) (of_ : List Int) (seen : Nat) : Prop where
  len : of_.length = n
  A : ∀ (j : Nat) (p : List Int), j < i → ps[j]? = some p → ∀ x ∈ p, at? of_ x = some ((j : Int) + 1)
  B : ∀ x ∈ cur.take k, at? of_ x = some ((i : Int) + 1)
  C : ∀ x, 0 ≤ x → x < (n : Int) → (∀ (j : Nat) (p : List Int), j < i → ps[j]? = some p → x ∉ p) → x ∉ cur.take k → at? of_ x = some 0
  D : (of_.filter fun z => !decide (z = 0)).length = seen
theorem filter_set {q : Int → Bool} {z : Int} (hz : q z = true) : ∀ (l : List Int) (k : Nat) (hk : k < l.length), q l[k] = false → ((l.set k z).filter q).length = (l.filter q).length + 1
  | x :: l, 0, hk, h => by
    simp only [List.getElem_cons_zero] at h
    rw [List.set_cons_zero, List.filter_cons, List.filter_cons, h, hz]; simp
  | x :: l, k + 1, hk, h => by
    have ih := filter_set hz l k (by simpa using hk) (by simpa using h)
    rw [List.set_cons_succ, List.filter_cons, List.filter_cons]
    cases q x <;> simp [ih]
structure PS (n : Nat) (t : List (List Bool)) (ps : List (List Int)) : Prop where
  rng : ∀ p ∈ ps, ∀ x ∈ p, 0 ≤ x ∧ x < (n : Int)
  nd : ∀ p ∈ ps, p.Nodup
  dis : ∀ (i j : Nat) (p q : List Int), i < j → ps[i]? = some p → ps[j]? = some q → ∀ x ∈ p, x ∉ q
  cover : ∀ x, 0 ≤ x → x < (n : Int) → ∃ p ∈ ps, x ∈ p
  edge : ∀ p ∈ ps, ∀ x ∈ p, ∀ y, ge t x y = true → y ∈ p
  one : ∀ p ∈ ps, p ≠ [] ∧ p.length ≤ n ∧ ∃ ps', m_graph_Graph_Pieces N (amongT n t p) = some ps' ∧ ps'.length + p.length = n + 1
  len : ps.length ≤ n
theorem least_of (h : Gr n t) : ∀ (m : Nat) (x : Int), 0 ≤ x → x < (n : Int) → x.toNat < m → ∃ u ∈ lsts n t, Conn t u x
  | 0, x, _, _, hm => by omega
  | m + 1, x, h0, h1, hm => by
    by_cases hl : ∀ a, 0 ≤ a → a < x → ¬ Conn t a x
    · exact ⟨x, lsts_mem.2 ⟨⟨h0, h1⟩, hl⟩, .refl _⟩
    · simp only [Classical.not_forall, Classical.not_not] at hl
      obtain ⟨a, ha, hax, hc⟩ := hl
      obtain ⟨u, hu, hcu⟩ := least_of h m a ha (by omega) (by omega)
      exact ⟨u, hu, hcu.trans hc⟩
theorem pieces_PS (h : Gr n t) (hn : n ≤ 1024) (hN : 2048 < N) : PS (N := N) n t ((lsts n t).map (hang n t)) := by
  have hrise : (lsts n t).Pairwise (· < ·) := pts_rises.filter _
  refine ⟨?_, ?_, ?_, ?_, ?_, ?_, ?_⟩
  · intro p hp x hx
    obtain ⟨u, hu, rfl⟩ := List.mem_map.1 hp
    exact (hang_mem.1 hx).1
  · intro p hp
    obtain ⟨u, hu, rfl⟩ := List.mem_map.1 hp
    exact hang_rises.imp fun h => by omega
  · intro i j p q hij hp hq x hx hxq
    rw [List.getElem?_map, Option.map_eq_some_iff] at hp hq
    obtain ⟨u, hu, rfl⟩ := hp
    obtain ⟨v, hv, rfl⟩ := hq
    obtain ⟨hi, hu2⟩ := List.getElem?_eq_some_iff.1 hu
    obtain ⟨hj, hv2⟩ := List.getElem?_eq_some_iff.1 hv
    have huv := List.pairwise_iff_getElem.1 hrise i j hi hj hij
    rw [hu2, hv2] at huv
    have hum := lsts_mem.1 (List.mem_of_getElem? hu)
    exact (lsts_mem.1 (List.mem_of_getElem? hv)).2 u hum.1.1 huv ((hang_mem.1 hx).2.trans ((hang_mem.1 hxq).2.symm h))
  · intro x h0 h1
    obtain ⟨u, hu, hc⟩ := least_of h _ x h0 h1 (Nat.lt_succ_self _)
    exact ⟨_, List.mem_map.2 ⟨u, hu, rfl⟩, hang_mem.2 ⟨⟨h0, h1⟩, hc⟩⟩
  · intro p hp x hx y hxy
    obtain ⟨u, hu, rfl⟩ := List.mem_map.1 hp
    exact hang_mem.2 ⟨(h.tab.range hxy).2, (hang_mem.1 hx).2.on hxy⟩
  · intro p hp
    obtain ⟨u, hu, rfl⟩ := List.mem_map.1 hp
    have hum := lsts_mem.1 hu
    refine ⟨fun e => ?_, ?_, _, Pieces_eq (Gr.among _) hn hN, ?_⟩
    · have : u ∈ hang n t u := hang_mem.2 ⟨hum.1, .refl _⟩
      rw [e] at this; cases this
    · have : (hang n t u).length ≤ (pts n).length := List.length_filter_le _ _
      rw [pts_len] at this; exact this
    · rw [List.length_map]; exact among_pieces h hu
  · rw [List.length_map]
    have : (lsts n t).length ≤ (pts n).length := List.length_filter_le _ _
    rw [pts_len] at this; exact this
theorem at?_set {l : List Int} {a z : Int} (h0 : 0 ≤ a) (h1 : a < (l.length : Int)) : at? (l.set a.toNat z) x = if x = a then some z else at? l x := by
  unfold at?
  by_cases hx : 0 ≤ x
  · rw [if_pos hx, if_pos hx]
    by_cases he : x = a
    · subst he; rw [if_pos rfl, List.getElem?_set_self (by omega)]
    · rw [if_neg he, List.getElem?_set_ne (by omega)]
  · rw [if_neg hx, if_neg hx, if_neg (by omega)]
theorem OF.step {ps : List (List Int)} (hp : PS (N := N) n t ps) {i k : Nat} {cur of_ : List Int} {seen : Nat} (hi : ps[i]? = some cur) (hk : k < cur.length) (H : OF n ps i k cur of_ seen) :
    at? of_ cur[k] = some 0 ∧ OF n ps i (k + 1) cur (of_.set cur[k].toNat ((i : Int) + 1)) (seen + 1) := by
  have hcm : cur ∈ ps := List.mem_of_getElem? hi
  have hr := hp.rng cur hcm cur[k] (List.getElem_mem hk)
  have hnd := hp.nd cur hcm
  have hnt : cur[k] ∉ cur.take k := fun hm => by
    obtain ⟨j, hj, e⟩ := List.getElem_of_mem hm
    rw [List.length_take] at hj
    rw [List.getElem_take] at e
    have hjk : j < k := by omega
    exact List.pairwise_iff_getElem.1 hnd j k (by omega) hk hjk e
  have h0 := H.C cur[k] hr.1 hr.2 (fun j p hj hpj hx => hp.dis j i p cur hj hpj hi _ hx (List.getElem_mem hk)) hnt
  have hset : ∀ x, at? (of_.set cur[k].toNat ((i : Int) + 1)) x = if x = cur[k] then some ((i : Int) + 1) else at? of_ x := fun x => at?_set hr.1 (by rw [H.len]; exact hr.2)
  have htk : cur.take (k + 1) = cur.take k ++ [cur[k]] := (List.take_append_getElem hk).symm
  refine ⟨h0, by rw [List.length_set]; exact H.len, fun j p hj hpj x hx => ?_, fun x hx => ?_, fun x hx0 hx1 hxp hxt => ?_, ?_⟩
  · rw [hset, if_neg (fun e => by subst e; exact hp.dis j i p cur hj hpj hi _ hx (List.getElem_mem hk))]
    exact H.A j p hj hpj x hx
  · rw [hset]
    rw [htk, List.mem_append, List.mem_singleton] at hx
    by_cases e : x = cur[k]
    · rw [if_pos e]
    · rw [if_neg e]
      exact H.B x (hx.elim id fun h => absurd h e)
  · rw [htk, List.mem_append, List.mem_singleton, not_or] at hxt
    rw [hset, if_neg hxt.2]
    exact H.C x hx0 hx1 hxp hxt.1
  · have hl : cur[k].toNat < of_.length := by rw [H.len]; omega
    have e0 : of_[cur[k].toNat] = 0 := by
      unfold at? at h0
      rw [if_pos hr.1, List.getElem?_eq_getElem hl] at h0
      exact Option.some.inj h0
    rw [filter_set (by simp; omega) of_ _ hl (by rw [e0]; rfl), H.D]
theorem OF.next {ps : List (List Int)} {i : Nat} {cur of_ : List Int} {seen : Nat} (hi : ps[i]? = some cur) (H : OF n ps i cur.length cur of_ seen) (nx : List Int) : OF n ps (i + 1) 0 nx of_ seen := by
  refine ⟨H.len, fun j p hj hpj x hx => ?_, by simp, fun x h0 h1 hx _ => ?_, H.D⟩
  · by_cases e : j = i
    · subst e
      rw [hi] at hpj
      cases hpj
      exact H.B x (by rw [List.take_length]; exact hx)
    · exact H.A j p (by omega) hpj x hx
  · refine H.C x h0 h1 (fun j p hj => hx j p (by omega)) ?_
    rw [List.take_length]
    exact hx i cur (by omega) hi
theorem OF.seen_le {ps : List (List Int)} {i k : Nat} {cur of_ : List Int} {seen : Nat} (H : OF n ps i k cur of_ seen) : seen ≤ n := by
  rw [← H.D, ← H.len]; exact List.length_filter_le _ _
theorem Told_L5 (h : Gr n t) (hn : n ≤ 12) (hN : 2048 < N) {ps : List (List Int)} (hp : PS (N := N) n t ps) (i : Nat) (cur : List Int) (hi : ps[i]? = some cur) (kk : List Int → Int → Int → Option Bool) : ∀ (f k : Nat) (of_ : List Int) (seen : Nat), k ≤ cur.length → cur.length - k < f → OF n ps i k cur of_ seen →
    ∃ of2 seen2, OF n ps i cur.length cur of2 seen2 ∧ m_l15_GraphTold_L5 N t ps (i : Int) kk f of_ (seen : Int) (k : Int) = kk of2 (seen2 : Int) ((i + 1 : Nat) : Int)
  | 0, k, _, _, _, hf, _ => by omega
  | f + 1, k, of_, seen, hk, hf, H => by
    have hcm : cur ∈ ps := List.mem_of_getElem? hi
    have hsl := H.seen_le
    obtain ⟨hne, hlen, ps', hps', hcount⟩ := hp.one cur hcm
    have hil := (List.getElem?_eq_some_iff.1 hi).1
    have hpl := hp.len
    have e1 : at? ps (i : Int) = some cur := by rw [at?_nat]; exact hi
    rw [m_l15_GraphTold_L5.eq_2, e1]
    simp only [Option.bind_some]
    by_cases hlt : k < cur.length
    · rw [if_pos (decide_eq_true (by omega)), at?_lt hlt]
      simp only [Option.bind_some]
      have hr := hp.rng cur hcm cur[k] (List.getElem_mem hlt)
      obtain ⟨h0, H2⟩ := H.step hp hi hlt
      obtain ⟨of2, seen2, h3, h4⟩ := Told_L5 h hn hN hp i cur hi kk f (k + 1) _ (seen + 1) (by omega) (by omega) H2
      refine ⟨of2, seen2, h3, ?_⟩
      rw [if_neg (by simp; omega)]
      unfold m_graph_Graph_Len
      simp only [Option.bind_some]
      rw [h.tab.len, if_neg (by simp; omega), h0]
      simp only [Option.bind_some]
      unfold m_l15_GraphTold_J5
      rw [if_neg (by simp), h0]
      simp only [Option.bind_some]
      rw [show IntKind.i64.wrap ((i : Int) + 1) = (i : Int) + 1 by rw [w64 (by omega)], wS (by omega), wS (by omega)]
      exact h4
    · have : k = cur.length := by omega
      subst this
      refine ⟨of_, seen, H, ?_⟩
      rw [if_neg (by simp), Among_eq h.tab (by omega) hN]
      simp only [Option.bind_some]
      unfold optC
      simp only []
      rw [if_neg (by
        have := List.length_pos_iff.2 hne
        simp; omega), hps']
      simp only [Option.bind_some]
      unfold m_graph_Graph_Len
      simp only [Option.bind_some]
      rw [h.tab.len]
      unfold m_l15_GraphTold_J6
      have e2 : IntKind.i64.wrap ((n : Int) - (cur.length : Int)) = (n : Int) - (cur.length : Int) := w64 (by omega)
      rw [e2, w64 (by omega), if_neg (by simp; omega), wS (by omega)]
theorem Told_L7 (h : Gr n t) (hn : n ≤ 12) (P : List Int) (count : Int) (seen : Int) (l : List (Int × Int)) (hc : count = 2 * (l.length : Int)) (hl : l.length ≤ 1000) (hs : seen = (n : Int)) : ∀ (f i : Nat), i ≤ (edgesL n (amongT n t P)).length → (edgesL n (amongT n t P)).length - i < f →
    m_l15_GraphTold_L7 N t (l, true) count seen (amongT n t P) (edgesL n (amongT n t P), true) f (i : Int) = some true
  | 0, i, _, hf => by omega
  | f + 1, i, hi, hf => by
    have hle := edgesL_len (t := amongT n t P) (Gr.among P).tab
    have hle2 : n * n ≤ 12 * 12 := Nat.mul_le_mul hn hn
    rw [m_l15_GraphTold_L7.eq_2]
    simp only []
    by_cases hlt : i < (edgesL n (amongT n t P)).length
    · rw [if_pos (decide_eq_true (by omega)), at?_lt hlt]
      simp only [Option.bind_some]
      have hm : ge (amongT n t P) ((edgesL n (amongT n t P))[i]).1 ((edgesL n (amongT n t P))[i]).2 = true := ((edgesL_mem (Gr.among P).tab).1 (List.getElem_mem hlt)).1
      rw [ge_among h] at hm
      simp only [Bool.and_eq_true] at hm
      rw [Has_eq h.tab, hm.1.1]
      simp only [Option.bind_some]
      rw [if_neg (by decide), wS (by omega)]
      exact Told_L7 h hn P count seen l hc hl hs f (i + 1) (by omega) (by omega)
    · rw [if_neg (by simp; omega), if_pos trivial, if_pos trivial, if_pos (decide_eq_true (by rw [w64 (by omega)]; exact hc))]
      unfold m_graph_Graph_Len
      simp only [Option.bind_some]
      rw [h.tab.len, (Gr.among (t := t) P).tab.len, if_pos (decide_eq_true hs)]
      unfold m_l15_GraphTold_J8
      simp
theorem Told_L6 (h : Gr n t) (hn : n ≤ 12) (hN : 2048 < N) (points : List Int) {ps : List (List Int)} (hp : PS (N := N) n t ps) {of_ : List Int} {seen : Nat} {nx : List Int} (H : OF n ps ps.length 0 nx of_ seen) : ∀ (f i : Nat), i ≤ (edgesL n t).length → (edgesL n t).length - i < f →
    m_l15_GraphTold_L6 N points t (edgesL n t, true) (nearSum n t n : Int) of_ (seen : Int) f (i : Int) = some true
  | 0, i, _, hf => by omega
  | f + 1, i, hi, hf => by
    have hle := edgesL_len (t := t) h.tab
    have hle2 : n * n ≤ 12 * 12 := Nat.mul_le_mul hn hn
    rw [m_l15_GraphTold_L6.eq_2]
    simp only []
    by_cases hlt : i < (edgesL n t).length
    · rw [if_pos (decide_eq_true (by omega)), at?_lt hlt]
      simp only [Option.bind_some]
      have IH := Told_L6 h hn hN points hp H f (i + 1) (by omega) (by omega)
      have hm : ((edgesL n t)[i].1, (edgesL n t)[i].2) ∈ edgesL n t := List.getElem_mem hlt
      obtain ⟨h1, h2⟩ := (edgesL_mem h.tab).1 hm
      generalize (edgesL n t)[i] = e at *
      obtain ⟨hx, hy⟩ := h.tab.range h1
      obtain ⟨p, hpm, hxp⟩ := hp.cover e.1 hx.1 hx.2
      have hyp := hp.edge p hpm _ hxp _ h1
      obtain ⟨j, hj⟩ := List.getElem?_of_mem hpm
      have hjl := (List.getElem?_eq_some_iff.1 hj).1
      rw [H.A j p hjl hj _ hxp, H.A j p hjl hj _ hyp]
      simp only [Option.bind_some]
      unfold m_l15_GraphTold_J7
      rw [if_neg (by simp), if_neg (by simp; omega), wS (by omega)]
      exact IH
    · have hall : ∀ z ∈ of_, (!decide (z = 0)) = true := fun z hz => by
        obtain ⟨k, hk, e⟩ := List.getElem_of_mem hz
        have hkn : k < n := by rw [← H.len]; exact hk
        obtain ⟨p, hpm, hxp⟩ := hp.cover (k : Int) (by omega) (by omega)
        obtain ⟨j, hj⟩ := List.getElem?_of_mem hpm
        have := H.A j p (List.getElem?_eq_some_iff.1 hj).1 hj _ hxp
        rw [at?_lt hk, e] at this
        have := Option.some.inj this
        simp; omega
      have hseen : seen = n := by rw [← H.D, List.filter_eq_self.2 hall, H.len]
      have hle3 := edgesL_len (t := amongT n t points) (Gr.among points).tab
      rw [if_neg (by simp; omega), Among_eq h.tab (by omega) hN]
      simp only [Option.bind_some]
      unfold optC
      simp only []
      rw [listed_eq (Gr.among points).tab (by omega) hN]
      simp only [Option.bind_some]
      exact Told_L7 h hn points _ _ _ (by rw [twice h]; omega) (by omega) (by omega) N 0 (Nat.zero_le _) (by omega)
theorem Told_L4 (h : Gr n t) (hn : n ≤ 12) (hN : 2048 < N) (points : List Int) {ps : List (List Int)} (hp : PS (N := N) n t ps) : ∀ (f i : Nat) (of_ : List Int) (seen : Nat), i ≤ ps.length → ps.length - i < f → (∀ nx, OF n ps i 0 nx of_ seen) →
    m_l15_GraphTold_L4 N points t (edgesL n t, true) (nearSum n t n : Int) ps f of_ (seen : Int) (i : Int) = some true
  | 0, i, _, _, _, hf, _ => by omega
  | f + 1, i, of_, seen, hi, hf, H => by
    rw [m_l15_GraphTold_L4.eq_2]
    by_cases hlt : i < ps.length
    · rw [if_pos (decide_eq_true (by omega))]
      have hpl := hp.len
      have hl := (hp.one ps[i] (List.getElem_mem hlt)).2.1
      obtain ⟨of2, seen2, h3, h4⟩ := Told_L5 h hn hN hp i ps[i] (List.getElem?_eq_getElem hlt) (m_l15_GraphTold_L4 N points t (edgesL n t, true) (nearSum n t n : Int) ps f) N 0 of_ seen (Nat.zero_le _) (by omega) (H _)
      refine h4.trans ?_
      exact Told_L4 h hn hN points hp f (i + 1) of2 seen2 (by omega) (by omega) fun nx => h3.next (List.getElem?_eq_getElem hlt) nx
    · have : i = ps.length := by omega
      subst this
      have hle := edgesL_len (t := t) h.tab
      have hle2 : n * n ≤ 12 * 12 := Nat.mul_le_mul hn hn
      rw [if_neg (by simp)]
      exact Told_L6 h hn hN points hp (H []) N 0 (Nat.zero_le _) (by omega)
end
theorem GraphTold_true (N : Nat) (hN : 3000000 ≤ N) (k : Int) (pairs points : List Int) (hp : pairs.length ≤ 9223372036854775000) (hpN : pairs.length + 1 < N) :
    m_l15_GraphTold N k pairs points = some true := by
  unfold m_l15_GraphTold w_l15_awake
  simp only [Option.bind_some]
  obtain ⟨n, t, hn, hg, e⟩ := drawn_eq (N := N) pairs hp hpN k
  rw [e]
  simp only [Option.bind_some]
  unfold optC
  simp only []
  rw [if_neg (by decide)]
  unfold m_l15_GraphTold_J2
  rw [if_neg (by decide), listed_eq hg.tab (by omega) (by omega)]
  simp only [Option.bind_some]
  have h4 := Told_L4 (N := N) hg hn (by omega) points (pieces_PS (N := N) hg (by omega) (by omega)) N 0 (List.replicate n 0) 0 (Nat.zero_le _) (by have := (pieces_PS (N := N) hg (by omega) (by omega)).len; omega) (fun nx => by
    refine ⟨by simp, fun j p hj => by omega, by simp, fun x h0 h1 _ _ => ?_, ?_⟩
    · unfold at?
      rw [if_pos h0, List.getElem?_replicate, if_pos (by omega)]
    · rw [List.length_eq_zero_iff, List.filter_eq_nil_iff]
      intro z hz
      rw [List.eq_of_mem_replicate hz]; simp)
  have := Told_L2 (N := N) hg hn (by omega) points (edgesL n t, true) h4 N 0 (Nat.zero_le _) (by omega)
  have e0 : nearSum n t 0 = 0 := by simp [nearSum]
  rw [e0] at this
  exact this

end Go.Proofs.Ytgkofjmeopbkbaa
