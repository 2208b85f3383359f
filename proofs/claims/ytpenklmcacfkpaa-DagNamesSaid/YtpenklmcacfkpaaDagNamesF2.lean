/-
  What functions of the program compute, as plain Lean functions (m_..), and proofs that they compute it (c_..). Printed by a program of the author; no conditions.
-/
import Derived.Test.YtpenklmcacfkpaaQue
import Derived.Test.YtpenklmcacfkpaaProg
import Derived.Test.YtpenklmcacfkpaaDagNamesF1
set_option linter.unusedVariables false
namespace Go.Proofs.Ytpenklmcacfkpaa
open Go Go.RowKit


theorem el3_15 : ElemOk Try.prog 3 1 8 := ⟨Try.t3, _, rfl, rfl, rfl, rfl, rfl⟩
theorem el31_15 : ElemOk Try.prog 31 1 24 := ⟨Try.t31, _, rfl, rfl, rfl, rfl, rfl⟩

def m_credencelaw14_alive_J1 (v_144 : Bool) : Option Bool :=
  some v_144

def m_credencelaw14_alive (N : Nat)  : Option Bool :=
  (m_dag_Order N [([] : List Int), [0], [0], [2, 1]]).bind fun r_29 => (m_dag_Above N [([] : List Int), [0], [0], [2, 1]] [1, 2]).bind fun r_71 => (m_dag_Cycle N [[1], [2], [0]]).bind fun r_102 => if (decide (r_29.2 = 0)) = true then (if (decide (r_71.2 = 0)) = true then ((m_credenceref14_Same N r_29.1 [0, 1, 2, 3]).bind fun r_152 => if r_152 = true then ((m_credenceref14_Same N r_71.1 [0, 1, 2]).bind fun r_162 => if r_162 = true then ((m_credenceref14_Same N r_102 [0, 1, 2]).bind fun r_172 => m_credencelaw14_alive_J1 r_172) else (m_credencelaw14_alive_J1 false)) else (m_credencelaw14_alive_J1 false)) else (m_credencelaw14_alive_J1 false)) else (m_credencelaw14_alive_J1 false)

set_option maxRecDepth 100000 in
theorem c_credencelaw14_alive (N : Nat) (col : Col) (w0 : World)  (r : Bool) (hm : m_credencelaw14_alive N = some r) :
    Calls Try.prog 15 #[] w0 (fun e w' => e = .returned ((.bool r)) ∧ Below w0.heap.size w0 w') := by
  refine calls_of1 0 (m := 51) (args := []) Try.func15 rfl rfl rfl rfl rfl ?_
  rw [m_credencelaw14_alive.eq_1] at hm
  have hst := St.start col w0
  refine wseq ?_
  refine wregion ?_
  refine lv (v := (.bool false)) rfl rfl (r_assign rfl) ?_
  refine lnil ?_
  refine wseq ?_
  refine wregion ?_
  refine l_lit0 (col := (col0 col)) (r := (Rep.int .i64)) 1 rfl Try.underlying31 el3_15 rfl ?_
  intro a_1 w_2 col_3 hg_4 h_5
  replace hst := hst.grow hg_4
  refine l_lit (col := col_3) (r := (Rep.int .i64)) (xs := [0]) [(.int .i64 0)] 2 rfl Try.underlying31 el3_15 rfl rfl rfl rfl rfl rfl (by intro v hv; simp only [List.mem_cons, List.not_mem_nil, or_false] at hv; subst hv; rfl) (RowsH.ofF (Rows.consF (r := (Rep.int .i64)) (x := 0) (cs := [(.int .i64 0)]) (rd_int .i64 0) Rows.nil0)) ?_
  intro a_6 w_7 col_8 hg_9 h_10
  replace h_5 := h_5.gr hg_9
  replace hst := hst.grow hg_9
  refine l_lit (col := col_8) (r := (Rep.int .i64)) (xs := [0]) [(.int .i64 0)] 3 rfl Try.underlying31 el3_15 rfl rfl rfl rfl rfl rfl (by intro v hv; simp only [List.mem_cons, List.not_mem_nil, or_false] at hv; subst hv; rfl) (RowsH.ofF (Rows.consF (r := (Rep.int .i64)) (x := 0) (cs := [(.int .i64 0)]) (rd_int .i64 0) Rows.nil0)) ?_
  intro a_11 w_12 col_13 hg_14 h_15
  replace h_5 := h_5.gr hg_14
  replace h_10 := h_10.gr hg_14
  replace hst := hst.grow hg_14
  refine l_lit (col := col_13) (r := (Rep.int .i64)) (xs := [2, 1]) [(.int .i64 2), (.int .i64 1)] 4 rfl Try.underlying31 el3_15 rfl rfl rfl rfl rfl rfl (by intro v hv; simp only [List.mem_cons, List.not_mem_nil, or_false] at hv; rcases hv with rfl | rfl <;> rfl) (RowsH.ofF (Rows.consF (r := (Rep.int .i64)) (x := 2) (cs := [(.int .i64 2)]) (rd_int .i64 2) (Rows.consF (r := (Rep.int .i64)) (x := 1) (cs := [(.int .i64 1)]) (rd_int .i64 1) Rows.nil0))) ?_
  intro a_16 w_17 col_18 hg_19 h_20
  replace h_5 := h_5.gr hg_19
  replace h_10 := h_10.gr hg_19
  replace h_15 := h_15.gr hg_19
  replace hst := hst.grow hg_19
  have hx_21 := RowsH.cons (cs := [(.slice a_11 ([0].length) 1)]) h_15.has (RowsH.cons1 (cs := [(.slice a_16 ([2, 1].length) 2)]) h_20.has Rows.nil0) (by decide) (by decide)
  replace h_5 := h_5.recol 3 4 (by decide)
  replace h_10 := h_10.recol 3 4 (by decide)
  replace h_15 := h_15.recolSelf 4 (by decide)
  replace h_20 := h_20.recol 3 4 (by decide)
  replace hst := hst.recol 3 4 (by decide) (by decide)
  have hx_22 := RowsH.cons (cs := [(.slice a_6 ([0].length) 1)]) h_10.has hx_21 (by decide) (by decide)
  replace h_5 := h_5.recol 2 4 (by decide)
  replace h_10 := h_10.recolSelf 4 (by decide)
  replace h_15 := h_15.recol 2 4 (by decide)
  replace h_20 := h_20.recol 2 4 (by decide)
  replace hst := hst.recol 2 4 (by decide) (by decide)
  have hx_23 := RowsH.cons (cs := [(.slice a_1 (([] : List Int).length) 0)]) h_5.has hx_22 (by decide) (by decide)
  replace h_5 := h_5.recolSelf 4 (by decide)
  replace h_10 := h_10.recol 1 4 (by decide)
  replace h_15 := h_15.recol 1 4 (by decide)
  replace h_20 := h_20.recol 1 4 (by decide)
  replace hst := hst.recol 1 4 (by decide) (by decide)
  refine l_lit (col := (rcC 1 4 (rcC 2 4 (rcC 3 4 col_18)))) (r := (Rep.row 3 (Rep.int .i64))) (xs := [([] : List Int), [0], [0], [2, 1]]) [(.slice a_1 (([] : List Int).length) 0), (.slice a_6 ([0].length) 1), (.slice a_11 ([0].length) 1), (.slice a_16 ([2, 1].length) 2)] 4 rfl Try.underlying22 el31_15 rfl rfl rfl rfl rfl rfl (by intro v hv; simp only [List.mem_cons, List.not_mem_nil, or_false] at hv; rcases hv with rfl | rfl | rfl | rfl <;> rfl) hx_23 ?_
  intro a_24 w_25 col_26 hg_27 h_28
  replace h_5 := h_5.gr hg_27
  replace h_10 := h_10.gr hg_27
  replace h_15 := h_15.gr hg_27
  replace h_20 := h_20.gr hg_27
  replace hst := hst.grow hg_27
  obtain ⟨r_29, hr_30, hm⟩ := bind_some hm
  refine lc rfl rfl (r_call1 Try.call16 rfl) (c_dag_Order N 5 (frC 4 col_26) _ a_24 4 [([] : List Int), [0], [0], [2, 1]] (h_28.toSlF (Froz.row (Froz.int .i64))) r_29 hr_30) ?_
  rintro _ w_34 ⟨col_36, ra_31, rc_32, rfl, hg_35, rh_33⟩
  refine ⟨_, rfl, ?_⟩
  replace rh_33 := rh_33.thaw (flat_int .i64) hg_35 ((Fz.refl (col := col_26)).froz 4) (by decide)
  replace hg_35 := hg_35.thawR (col := col_26)
  generalize colR w_25.heap.size col_26 col_36 = col_37 at *
  replace h_28 := h_28.gr hg_35
  replace hst := hst.grow hg_35
  refine lv (v := (.tuple #[(.slice ra_31 r_29.1.length rc_32), (.int .i64 r_29.2)])) rfl rfl (r_move rfl) ?_
  refine lv (v := (.slice ra_31 r_29.1.length rc_32)) rfl rfl (r_extract rfl rfl) ?_
  refine lv (v := (.int .i64 r_29.2)) rfl rfl (r_extract rfl rfl) ?_
  refine lv (v := (.slice ra_31 r_29.1.length rc_32)) rfl rfl (r_assign rfl) ?_
  refine lv (v := (.int .i64 r_29.2)) rfl rfl (r_assign rfl) ?_
  refine lnil ?_
  refine wseq ?_
  refine wregion ?_
  refine l_lit0 (col := col_37) (r := (Rep.int .i64)) 6 rfl Try.underlying31 el3_15 rfl ?_
  intro a_38 w_39 col_40 hg_41 h_42
  replace rh_33 := rh_33.gr hg_41
  replace hst := hst.grow hg_41
  refine l_lit (col := col_40) (r := (Rep.int .i64)) (xs := [0]) [(.int .i64 0)] 7 rfl Try.underlying31 el3_15 rfl rfl rfl rfl rfl rfl (by intro v hv; simp only [List.mem_cons, List.not_mem_nil, or_false] at hv; subst hv; rfl) (RowsH.ofF (Rows.consF (r := (Rep.int .i64)) (x := 0) (cs := [(.int .i64 0)]) (rd_int .i64 0) Rows.nil0)) ?_
  intro a_43 w_44 col_45 hg_46 h_47
  replace rh_33 := rh_33.gr hg_46
  replace h_42 := h_42.gr hg_46
  replace hst := hst.grow hg_46
  refine l_lit (col := col_45) (r := (Rep.int .i64)) (xs := [0]) [(.int .i64 0)] 8 rfl Try.underlying31 el3_15 rfl rfl rfl rfl rfl rfl (by intro v hv; simp only [List.mem_cons, List.not_mem_nil, or_false] at hv; subst hv; rfl) (RowsH.ofF (Rows.consF (r := (Rep.int .i64)) (x := 0) (cs := [(.int .i64 0)]) (rd_int .i64 0) Rows.nil0)) ?_
  intro a_48 w_49 col_50 hg_51 h_52
  replace rh_33 := rh_33.gr hg_51
  replace h_42 := h_42.gr hg_51
  replace h_47 := h_47.gr hg_51
  replace hst := hst.grow hg_51
  refine l_lit (col := col_50) (r := (Rep.int .i64)) (xs := [2, 1]) [(.int .i64 2), (.int .i64 1)] 9 rfl Try.underlying31 el3_15 rfl rfl rfl rfl rfl rfl (by intro v hv; simp only [List.mem_cons, List.not_mem_nil, or_false] at hv; rcases hv with rfl | rfl <;> rfl) (RowsH.ofF (Rows.consF (r := (Rep.int .i64)) (x := 2) (cs := [(.int .i64 2)]) (rd_int .i64 2) (Rows.consF (r := (Rep.int .i64)) (x := 1) (cs := [(.int .i64 1)]) (rd_int .i64 1) Rows.nil0))) ?_
  intro a_53 w_54 col_55 hg_56 h_57
  replace rh_33 := rh_33.gr hg_56
  replace h_42 := h_42.gr hg_56
  replace h_47 := h_47.gr hg_56
  replace h_52 := h_52.gr hg_56
  replace hst := hst.grow hg_56
  have hx_58 := RowsH.cons (cs := [(.slice a_48 ([0].length) 1)]) h_52.has (RowsH.cons1 (cs := [(.slice a_53 ([2, 1].length) 2)]) h_57.has Rows.nil0) (by decide) (by decide)
  replace rh_33 := rh_33.recol 8 9 (by decide)
  replace h_42 := h_42.recol 8 9 (by decide)
  replace h_47 := h_47.recol 8 9 (by decide)
  replace h_52 := h_52.recolSelf 9 (by decide)
  replace h_57 := h_57.recol 8 9 (by decide)
  replace hst := hst.recol 8 9 (by decide) (by decide)
  have hx_59 := RowsH.cons (cs := [(.slice a_43 ([0].length) 1)]) h_47.has hx_58 (by decide) (by decide)
  replace rh_33 := rh_33.recol 7 9 (by decide)
  replace h_42 := h_42.recol 7 9 (by decide)
  replace h_47 := h_47.recolSelf 9 (by decide)
  replace h_52 := h_52.recol 7 9 (by decide)
  replace h_57 := h_57.recol 7 9 (by decide)
  replace hst := hst.recol 7 9 (by decide) (by decide)
  have hx_60 := RowsH.cons (cs := [(.slice a_38 (([] : List Int).length) 0)]) h_42.has hx_59 (by decide) (by decide)
  replace rh_33 := rh_33.recol 6 9 (by decide)
  replace h_42 := h_42.recolSelf 9 (by decide)
  replace h_47 := h_47.recol 6 9 (by decide)
  replace h_52 := h_52.recol 6 9 (by decide)
  replace h_57 := h_57.recol 6 9 (by decide)
  replace hst := hst.recol 6 9 (by decide) (by decide)
  refine l_lit (col := (rcC 6 9 (rcC 7 9 (rcC 8 9 col_55)))) (r := (Rep.row 3 (Rep.int .i64))) (xs := [([] : List Int), [0], [0], [2, 1]]) [(.slice a_38 (([] : List Int).length) 0), (.slice a_43 ([0].length) 1), (.slice a_48 ([0].length) 1), (.slice a_53 ([2, 1].length) 2)] 9 rfl Try.underlying22 el31_15 rfl rfl rfl rfl rfl rfl (by intro v hv; simp only [List.mem_cons, List.not_mem_nil, or_false] at hv; rcases hv with rfl | rfl | rfl | rfl <;> rfl) hx_60 ?_
  intro a_61 w_62 col_63 hg_64 h_65
  replace rh_33 := rh_33.gr hg_64
  replace h_42 := h_42.gr hg_64
  replace h_47 := h_47.gr hg_64
  replace h_52 := h_52.gr hg_64
  replace h_57 := h_57.gr hg_64
  replace hst := hst.grow hg_64
  refine l_lit (col := col_63) (r := (Rep.int .i64)) (xs := [1, 2]) [(.int .i64 1), (.int .i64 2)] 10 rfl Try.underlying31 el3_15 rfl rfl rfl rfl rfl rfl (by intro v hv; simp only [List.mem_cons, List.not_mem_nil, or_false] at hv; rcases hv with rfl | rfl <;> rfl) (RowsH.ofF (Rows.consF (r := (Rep.int .i64)) (x := 1) (cs := [(.int .i64 1)]) (rd_int .i64 1) (Rows.consF (r := (Rep.int .i64)) (x := 2) (cs := [(.int .i64 2)]) (rd_int .i64 2) Rows.nil0))) ?_
  intro a_66 w_67 col_68 hg_69 h_70
  replace rh_33 := rh_33.gr hg_69
  replace h_65 := h_65.gr hg_69
  replace hst := hst.grow hg_69
  obtain ⟨r_71, hr_72, hm⟩ := bind_some hm
  refine lc rfl rfl (r_call2 Try.call24 rfl rfl) (c_dag_Above N 11 (frC 10 (frC 9 col_68)) _ a_61 4 [([] : List Int), [0], [0], [2, 1]] a_66 2 [1, 2] ((h_65.toSlF (Froz.row (Froz.int .i64))).froz 10) ((h_70.froz 9 (by decide)).toSlF (Froz.int .i64)) r_71 hr_72) ?_
  rintro _ w_76 ⟨col_78, ra_73, rc_74, rfl, hg_77, rh_75⟩
  refine ⟨_, rfl, ?_⟩
  replace rh_75 := rh_75.thaw (flat_int .i64) hg_77 (((Fz.refl (col := col_68)).froz 9).froz 10) (by decide)
  replace hg_77 := hg_77.thawR (col := col_68)
  generalize colR w_67.heap.size col_68 col_78 = col_79 at *
  replace rh_33 := rh_33.gr hg_77
  replace h_65 := h_65.gr hg_77
  replace h_70 := h_70.gr hg_77
  replace hst := hst.grow hg_77
  refine lv (v := (.tuple #[(.slice ra_73 r_71.1.length rc_74), (.int .i64 r_71.2)])) rfl rfl (r_move rfl) ?_
  refine lv (v := (.slice ra_73 r_71.1.length rc_74)) rfl rfl (r_extract rfl rfl) ?_
  refine lv (v := (.int .i64 r_71.2)) rfl rfl (r_extract rfl rfl) ?_
  refine lv (v := (.slice ra_73 r_71.1.length rc_74)) rfl rfl (r_assign rfl) ?_
  refine lv (v := (.int .i64 r_71.2)) rfl rfl (r_assign rfl) ?_
  refine lnil ?_
  refine wseq ?_
  refine wregion ?_
  refine l_lit (col := col_79) (r := (Rep.int .i64)) (xs := [1]) [(.int .i64 1)] 12 rfl Try.underlying31 el3_15 rfl rfl rfl rfl rfl rfl (by intro v hv; simp only [List.mem_cons, List.not_mem_nil, or_false] at hv; subst hv; rfl) (RowsH.ofF (Rows.consF (r := (Rep.int .i64)) (x := 1) (cs := [(.int .i64 1)]) (rd_int .i64 1) Rows.nil0)) ?_
  intro a_80 w_81 col_82 hg_83 h_84
  replace rh_33 := rh_33.gr hg_83
  replace rh_75 := rh_75.gr hg_83
  replace hst := hst.grow hg_83
  refine l_lit (col := col_82) (r := (Rep.int .i64)) (xs := [2]) [(.int .i64 2)] 13 rfl Try.underlying31 el3_15 rfl rfl rfl rfl rfl rfl (by intro v hv; simp only [List.mem_cons, List.not_mem_nil, or_false] at hv; subst hv; rfl) (RowsH.ofF (Rows.consF (r := (Rep.int .i64)) (x := 2) (cs := [(.int .i64 2)]) (rd_int .i64 2) Rows.nil0)) ?_
  intro a_85 w_86 col_87 hg_88 h_89
  replace rh_33 := rh_33.gr hg_88
  replace rh_75 := rh_75.gr hg_88
  replace h_84 := h_84.gr hg_88
  replace hst := hst.grow hg_88
  refine l_lit (col := col_87) (r := (Rep.int .i64)) (xs := [0]) [(.int .i64 0)] 14 rfl Try.underlying31 el3_15 rfl rfl rfl rfl rfl rfl (by intro v hv; simp only [List.mem_cons, List.not_mem_nil, or_false] at hv; subst hv; rfl) (RowsH.ofF (Rows.consF (r := (Rep.int .i64)) (x := 0) (cs := [(.int .i64 0)]) (rd_int .i64 0) Rows.nil0)) ?_
  intro a_90 w_91 col_92 hg_93 h_94
  replace rh_33 := rh_33.gr hg_93
  replace rh_75 := rh_75.gr hg_93
  replace h_84 := h_84.gr hg_93
  replace h_89 := h_89.gr hg_93
  replace hst := hst.grow hg_93
  have hx_95 := RowsH.cons (cs := [(.slice a_85 ([2].length) 1)]) h_89.has (RowsH.cons1 (cs := [(.slice a_90 ([0].length) 1)]) h_94.has Rows.nil0) (by decide) (by decide)
  replace rh_33 := rh_33.recol 13 14 (by decide)
  replace rh_75 := rh_75.recol 13 14 (by decide)
  replace h_84 := h_84.recol 13 14 (by decide)
  replace h_89 := h_89.recolSelf 14 (by decide)
  replace h_94 := h_94.recol 13 14 (by decide)
  replace hst := hst.recol 13 14 (by decide) (by decide)
  have hx_96 := RowsH.cons (cs := [(.slice a_80 ([1].length) 1)]) h_84.has hx_95 (by decide) (by decide)
  replace rh_33 := rh_33.recol 12 14 (by decide)
  replace rh_75 := rh_75.recol 12 14 (by decide)
  replace h_84 := h_84.recolSelf 14 (by decide)
  replace h_89 := h_89.recol 12 14 (by decide)
  replace h_94 := h_94.recol 12 14 (by decide)
  replace hst := hst.recol 12 14 (by decide) (by decide)
  refine l_lit (col := (rcC 12 14 (rcC 13 14 col_92))) (r := (Rep.row 3 (Rep.int .i64))) (xs := [[1], [2], [0]]) [(.slice a_80 ([1].length) 1), (.slice a_85 ([2].length) 1), (.slice a_90 ([0].length) 1)] 14 rfl Try.underlying22 el31_15 rfl rfl rfl rfl rfl rfl (by intro v hv; simp only [List.mem_cons, List.not_mem_nil, or_false] at hv; rcases hv with rfl | rfl | rfl <;> rfl) hx_96 ?_
  intro a_97 w_98 col_99 hg_100 h_101
  replace rh_33 := rh_33.gr hg_100
  replace rh_75 := rh_75.gr hg_100
  replace h_84 := h_84.gr hg_100
  replace h_89 := h_89.gr hg_100
  replace h_94 := h_94.gr hg_100
  replace hst := hst.grow hg_100
  obtain ⟨r_102, hr_103, hm⟩ := bind_some hm
  refine lc rfl rfl (r_call1 Try.call17 rfl) (c_dag_Cycle N 15 (frC 14 col_99) _ a_97 3 [[1], [2], [0]] (h_101.toSlF (Froz.row (Froz.int .i64))) r_102 hr_103) ?_
  rintro _ w_107 ⟨col_109, ra_104, rc_105, rfl, hg_108, rh_106⟩
  refine ⟨_, rfl, ?_⟩
  replace rh_106 := rh_106.thaw (flat_int .i64) hg_108 ((Fz.refl (col := col_99)).froz 14) (by decide)
  replace hg_108 := hg_108.thawR (col := col_99)
  generalize colR w_98.heap.size col_99 col_109 = col_110 at *
  replace rh_33 := rh_33.gr hg_108
  replace rh_75 := rh_75.gr hg_108
  replace h_101 := h_101.gr hg_108
  replace hst := hst.grow hg_108
  refine lv (v := (.slice ra_104 r_102.length rc_105)) rfl rfl (r_assign rfl) ?_
  refine lnil ?_
  refine wseq ?_
  refine Wp.cut (fun f w_142 => ∃ (col_143 : Col) (v_144 : Bool), m_credencelaw14_alive_J1 v_144 = some r ∧ St w0 (col0 col) col_143 w_142 ∧ f 0 = (.bool v_144) ∧ f 1000000 = (enc [])) ?_ ?_
  · intro f w_142 hJ
    obtain ⟨col_143, v_144, hm, hst, hs0, hs1000000⟩ := hJ
    rw [m_credencelaw14_alive_J1.eq_1] at hm
    refine .ld (d := 0) (v := (.bool v_144)) hs0 ?_
    refine .ld (d := 1000000) (v := (enc [])) hs1000000 ?_
    clear hs0 hs1000000
    refine wret ?_
    cases hm
    exact ⟨rfl, rfl, hst.below⟩
  · refine wregion ?_
    refine lv (v := (.int .i64 r_29.2)) rfl rfl (r_move rfl) ?_
    refine lv (v := (.bool (decide (r_29.2 = 0)))) rfl rfl (r_eql r_29.2 0 rfl rfl) ?_
    refine lv (v := (.bool (decide (r_29.2 = 0)))) rfl rfl (r_move rfl) ?_
    by_cases hg_145 : (decide (r_29.2 = 0)) = true
    · rw [if_pos hg_145] at hm
      refine lg (b := decide (r_29.2 = 0)) 32 rfl rfl rfl (by rw [hg_145]; rfl) ?_
      refine lv (v := (.int .i64 r_71.2)) rfl rfl (r_move rfl) ?_
      refine lg (b := decide (r_29.2 = 0)) 32 rfl rfl rfl (by rw [hg_145]; rfl) ?_
      refine lv (v := (.bool (decide (r_71.2 = 0)))) rfl rfl (r_eql r_71.2 0 rfl rfl) ?_
      refine lv (v := (.bool (decide (r_71.2 = 0)))) rfl rfl (r_pickT (congrArg Value.bool hg_145) rfl) ?_
      refine lv (v := (.bool (decide (r_71.2 = 0)))) rfl rfl (r_move rfl) ?_
      by_cases hg_146 : (decide (r_71.2 = 0)) = true
      · rw [if_pos hg_146] at hm
        refine lg (b := decide (r_71.2 = 0)) 36 rfl rfl rfl (by rw [hg_146]; rfl) ?_
        refine lv (v := (.slice ra_31 r_29.1.length rc_32)) rfl rfl (r_move rfl) ?_
        refine lg (b := decide (r_71.2 = 0)) 36 rfl rfl rfl (by rw [hg_146]; rfl) ?_
        refine l_lit (col := col_110) (r := (Rep.int .i64)) (xs := [0, 1, 2, 3]) [(.int .i64 0), (.int .i64 1), (.int .i64 2), (.int .i64 3)] 19 rfl Try.underlying31 el3_15 rfl rfl rfl rfl rfl rfl (by intro v hv; simp only [List.mem_cons, List.not_mem_nil, or_false] at hv; rcases hv with rfl | rfl | rfl | rfl <;> rfl) (RowsH.ofF (Rows.consF (r := (Rep.int .i64)) (x := 0) (cs := [(.int .i64 0)]) (rd_int .i64 0) (Rows.consF (r := (Rep.int .i64)) (x := 1) (cs := [(.int .i64 1)]) (rd_int .i64 1) (Rows.consF (r := (Rep.int .i64)) (x := 2) (cs := [(.int .i64 2)]) (rd_int .i64 2) (Rows.consF (r := (Rep.int .i64)) (x := 3) (cs := [(.int .i64 3)]) (rd_int .i64 3) Rows.nil0))))) ?_
        intro a_147 w_148 col_149 hg_150 h_151
        replace rh_75 := rh_75.gr hg_150
        replace rh_106 := rh_106.gr hg_150
        replace rh_33 := rh_33.gr hg_150
        replace hst := hst.grow hg_150
        refine lg (b := decide (r_71.2 = 0)) 36 rfl rfl rfl (by rw [hg_146]; rfl) ?_
        obtain ⟨r_152, hr_153, hm⟩ := bind_some hm
        refine lc rfl rfl (r_call2 Try.call12 rfl rfl) (c_credenceref14_Same N (frC 19 (frC 5 col_149)) _ ra_31 rc_32 r_29.1 a_147 4 [0, 1, 2, 3] ((rh_33.toSlF (Froz.int .i64)).froz 19) ((h_151.froz 5 (by decide)).toSlF (Froz.int .i64)) r_152 hr_153) ?_
        rintro _ w_154 ⟨rfl, hg_155⟩
        refine ⟨_, rfl, ?_⟩
        replace hg_155 : Grow col_149 w_148 col_149 w_154 := .of_below hg_155
        replace rh_75 := rh_75.gr hg_155
        replace rh_106 := rh_106.gr hg_155
        replace rh_33 := rh_33.gr hg_155
        replace h_151 := h_151.gr hg_155
        replace hst := hst.grow hg_155
        refine lv (v := (.bool r_152)) rfl rfl (r_pickT (congrArg Value.bool hg_146) rfl) ?_
        refine lv (v := (.bool r_152)) rfl rfl (r_move rfl) ?_
        by_cases hg_156 : r_152 = true
        · rw [if_pos hg_156] at hm
          refine lg (b := r_152) 41 rfl rfl rfl (by rw [hg_156]; rfl) ?_
          refine lv (v := (.slice ra_73 r_71.1.length rc_74)) rfl rfl (r_move rfl) ?_
          refine lg (b := r_152) 41 rfl rfl rfl (by rw [hg_156]; rfl) ?_
          refine l_lit (col := col_149) (r := (Rep.int .i64)) (xs := [0, 1, 2]) [(.int .i64 0), (.int .i64 1), (.int .i64 2)] 20 rfl Try.underlying31 el3_15 rfl rfl rfl rfl rfl rfl (by intro v hv; simp only [List.mem_cons, List.not_mem_nil, or_false] at hv; rcases hv with rfl | rfl | rfl <;> rfl) (RowsH.ofF (Rows.consF (r := (Rep.int .i64)) (x := 0) (cs := [(.int .i64 0)]) (rd_int .i64 0) (Rows.consF (r := (Rep.int .i64)) (x := 1) (cs := [(.int .i64 1)]) (rd_int .i64 1) (Rows.consF (r := (Rep.int .i64)) (x := 2) (cs := [(.int .i64 2)]) (rd_int .i64 2) Rows.nil0)))) ?_
          intro a_157 w_158 col_159 hg_160 h_161
          replace rh_106 := rh_106.gr hg_160
          replace rh_75 := rh_75.gr hg_160
          replace hst := hst.grow hg_160
          refine lg (b := r_152) 41 rfl rfl rfl (by rw [hg_156]; rfl) ?_
          obtain ⟨r_162, hr_163, hm⟩ := bind_some hm
          refine lc rfl rfl (r_call2 Try.call12 rfl rfl) (c_credenceref14_Same N (frC 20 (frC 11 col_159)) _ ra_73 rc_74 r_71.1 a_157 3 [0, 1, 2] ((rh_75.toSlF (Froz.int .i64)).froz 20) ((h_161.froz 11 (by decide)).toSlF (Froz.int .i64)) r_162 hr_163) ?_
          rintro _ w_164 ⟨rfl, hg_165⟩
          refine ⟨_, rfl, ?_⟩
          replace hg_165 : Grow col_159 w_158 col_159 w_164 := .of_below hg_165
          replace rh_106 := rh_106.gr hg_165
          replace rh_75 := rh_75.gr hg_165
          replace h_161 := h_161.gr hg_165
          replace hst := hst.grow hg_165
          refine lv (v := (.bool r_162)) rfl rfl (r_pickT (congrArg Value.bool hg_156) rfl) ?_
          refine lv (v := (.bool r_162)) rfl rfl (r_move rfl) ?_
          by_cases hg_166 : r_162 = true
          · rw [if_pos hg_166] at hm
            refine lg (b := r_162) 46 rfl rfl rfl (by rw [hg_166]; rfl) ?_
            refine lv (v := (.slice ra_104 r_102.length rc_105)) rfl rfl (r_move rfl) ?_
            refine lg (b := r_162) 46 rfl rfl rfl (by rw [hg_166]; rfl) ?_
            refine l_lit (col := col_159) (r := (Rep.int .i64)) (xs := [0, 1, 2]) [(.int .i64 0), (.int .i64 1), (.int .i64 2)] 21 rfl Try.underlying31 el3_15 rfl rfl rfl rfl rfl rfl (by intro v hv; simp only [List.mem_cons, List.not_mem_nil, or_false] at hv; rcases hv with rfl | rfl | rfl <;> rfl) (RowsH.ofF (Rows.consF (r := (Rep.int .i64)) (x := 0) (cs := [(.int .i64 0)]) (rd_int .i64 0) (Rows.consF (r := (Rep.int .i64)) (x := 1) (cs := [(.int .i64 1)]) (rd_int .i64 1) (Rows.consF (r := (Rep.int .i64)) (x := 2) (cs := [(.int .i64 2)]) (rd_int .i64 2) Rows.nil0)))) ?_
            intro a_167 w_168 col_169 hg_170 h_171
            replace rh_106 := rh_106.gr hg_170
            replace hst := hst.grow hg_170
            refine lg (b := r_162) 46 rfl rfl rfl (by rw [hg_166]; rfl) ?_
            obtain ⟨r_172, hr_173, hm⟩ := bind_some hm
            refine lc rfl rfl (r_call2 Try.call12 rfl rfl) (c_credenceref14_Same N (frC 21 (frC 15 col_169)) _ ra_104 rc_105 r_102 a_167 3 [0, 1, 2] ((rh_106.toSlF (Froz.int .i64)).froz 21) ((h_171.froz 15 (by decide)).toSlF (Froz.int .i64)) r_172 hr_173) ?_
            rintro _ w_174 ⟨rfl, hg_175⟩
            refine ⟨_, rfl, ?_⟩
            replace hg_175 : Grow col_169 w_168 col_169 w_174 := .of_below hg_175
            replace rh_106 := rh_106.gr hg_175
            replace h_171 := h_171.gr hg_175
            replace hst := hst.grow hg_175
            refine lv (v := (.bool r_172)) rfl rfl (r_pickT (congrArg Value.bool hg_166) rfl) ?_
            refine lv (v := (.bool r_172)) rfl rfl (r_assign rfl) ?_
            refine lnil ?_
            exact ⟨col_169, r_172, hm, hst, rfl, rfl⟩
          · rw [if_neg hg_166] at hm
            replace hg_166 := Bool.eq_false_iff.2 hg_166
            refine lp (b := r_162) 46 rfl rfl rfl rfl (by rw [hg_166]; rfl) ?_
            refine lp (b := r_162) 46 rfl rfl rfl rfl (by rw [hg_166]; rfl) ?_
            refine lp (b := r_162) 46 rfl rfl rfl rfl (by rw [hg_166]; rfl) ?_
            refine lv (v := (.bool false)) rfl rfl (r_pickF (congrArg Value.bool hg_166) rfl) ?_
            refine lv (v := (.bool false)) rfl rfl (r_assign rfl) ?_
            refine lnil ?_
            exact ⟨col_159, false, hm, hst, rfl, rfl⟩
        · rw [if_neg hg_156] at hm
          replace hg_156 := Bool.eq_false_iff.2 hg_156
          refine lp (b := r_152) 41 rfl rfl rfl rfl (by rw [hg_156]; rfl) ?_
          refine lp (b := r_152) 41 rfl rfl rfl rfl (by rw [hg_156]; rfl) ?_
          refine lp (b := r_152) 41 rfl rfl rfl rfl (by rw [hg_156]; rfl) ?_
          refine lv (v := (.bool false)) rfl rfl (r_pickF (congrArg Value.bool hg_156) rfl) ?_
          refine lv (v := (.bool false)) rfl rfl (r_move rfl) ?_
          refine lp (b := false) 46 rfl rfl rfl rfl rfl ?_
          refine lp (b := false) 46 rfl rfl rfl rfl rfl ?_
          refine lp (b := false) 46 rfl rfl rfl rfl rfl ?_
          refine lv (v := (.bool false)) rfl rfl (r_pickF rfl rfl) ?_
          refine lv (v := (.bool false)) rfl rfl (r_assign rfl) ?_
          refine lnil ?_
          exact ⟨col_149, false, hm, hst, rfl, rfl⟩
      · rw [if_neg hg_146] at hm
        replace hg_146 := Bool.eq_false_iff.2 hg_146
        refine lp (b := decide (r_71.2 = 0)) 36 rfl rfl rfl rfl (by rw [hg_146]; rfl) ?_
        refine lp (b := decide (r_71.2 = 0)) 36 rfl rfl rfl rfl (by rw [hg_146]; rfl) ?_
        refine lp (b := decide (r_71.2 = 0)) 36 rfl rfl rfl rfl (by rw [hg_146]; rfl) ?_
        refine lv (v := (.bool false)) rfl rfl (r_pickF (congrArg Value.bool hg_146) rfl) ?_
        refine lv (v := (.bool false)) rfl rfl (r_move rfl) ?_
        refine lp (b := false) 41 rfl rfl rfl rfl rfl ?_
        refine lp (b := false) 41 rfl rfl rfl rfl rfl ?_
        refine lp (b := false) 41 rfl rfl rfl rfl rfl ?_
        refine lv (v := (.bool false)) rfl rfl (r_pickF rfl rfl) ?_
        refine lv (v := (.bool false)) rfl rfl (r_move rfl) ?_
        refine lp (b := false) 46 rfl rfl rfl rfl rfl ?_
        refine lp (b := false) 46 rfl rfl rfl rfl rfl ?_
        refine lp (b := false) 46 rfl rfl rfl rfl rfl ?_
        refine lv (v := (.bool false)) rfl rfl (r_pickF rfl rfl) ?_
        refine lv (v := (.bool false)) rfl rfl (r_assign rfl) ?_
        refine lnil ?_
        exact ⟨col_110, false, hm, hst, rfl, rfl⟩
    · rw [if_neg hg_145] at hm
      replace hg_145 := Bool.eq_false_iff.2 hg_145
      refine lp (b := decide (r_29.2 = 0)) 32 rfl rfl rfl rfl (by rw [hg_145]; rfl) ?_
      refine lp (b := decide (r_29.2 = 0)) 32 rfl rfl rfl rfl (by rw [hg_145]; rfl) ?_
      refine lv (v := (.bool false)) rfl rfl (r_pickF (congrArg Value.bool hg_145) rfl) ?_
      refine lv (v := (.bool false)) rfl rfl (r_move rfl) ?_
      refine lp (b := false) 36 rfl rfl rfl rfl rfl ?_
      refine lp (b := false) 36 rfl rfl rfl rfl rfl ?_
      refine lp (b := false) 36 rfl rfl rfl rfl rfl ?_
      refine lv (v := (.bool false)) rfl rfl (r_pickF rfl rfl) ?_
      refine lv (v := (.bool false)) rfl rfl (r_move rfl) ?_
      refine lp (b := false) 41 rfl rfl rfl rfl rfl ?_
      refine lp (b := false) 41 rfl rfl rfl rfl rfl ?_
      refine lp (b := false) 41 rfl rfl rfl rfl rfl ?_
      refine lv (v := (.bool false)) rfl rfl (r_pickF rfl rfl) ?_
      refine lv (v := (.bool false)) rfl rfl (r_move rfl) ?_
      refine lp (b := false) 46 rfl rfl rfl rfl rfl ?_
      refine lp (b := false) 46 rfl rfl rfl rfl rfl ?_
      refine lp (b := false) 46 rfl rfl rfl rfl rfl ?_
      refine lv (v := (.bool false)) rfl rfl (r_pickF rfl rfl) ?_
      refine lv (v := (.bool false)) rfl rfl (r_assign rfl) ?_
      refine lnil ?_
      exact ⟨col_110, false, hm, hst, rfl, rfl⟩




def m_credencelaw14_DagNames_J1 (v_7 : Bool) : Option Bool :=
  some v_7

def m_credencelaw14_DagNames (N : Nat)  : Option Bool :=
  (m_credencelaw14_alive N).bind fun r_8 => m_credencelaw14_DagNames_J1 r_8

set_option maxRecDepth 100000 in
theorem c_credencelaw14_DagNames (N : Nat) (col : Col) (w0 : World)  (r : Bool) (hm : m_credencelaw14_DagNames N = some r) :
    Calls Try.prog 4 #[] w0 (fun e w' => e = .returned ((.bool r)) ∧ Below w0.heap.size w0 w') := by
  refine calls_of1 0 (m := 4) (args := []) Try.func4 rfl rfl rfl rfl rfl ?_
  rw [m_credencelaw14_DagNames.eq_1] at hm
  have hst := St.start col w0
  refine wseq ?_
  refine wregion ?_
  refine lv (v := (.bool false)) rfl rfl (r_assign rfl) ?_
  refine lnil ?_
  refine wseq ?_
  refine Wp.cut (fun f w_5 => ∃ (col_6 : Col) (v_7 : Bool), m_credencelaw14_DagNames_J1 v_7 = some r ∧ St w0 (col0 col) col_6 w_5 ∧ f 0 = (.bool v_7) ∧ f 1000000 = (enc [])) ?_ ?_
  · intro f w_5 hJ
    obtain ⟨col_6, v_7, hm, hst, hs0, hs1000000⟩ := hJ
    rw [m_credencelaw14_DagNames_J1.eq_1] at hm
    refine .ld (d := 0) (v := (.bool v_7)) hs0 ?_
    refine .ld (d := 1000000) (v := (enc [])) hs1000000 ?_
    clear hs0 hs1000000
    refine wret ?_
    cases hm
    exact ⟨rfl, rfl, hst.below⟩
  · refine wregion ?_
    refine lv (v := (.bool true)) rfl rfl (r_move rfl) ?_
    refine lg (b := true) 1 rfl rfl rfl rfl ?_
    obtain ⟨r_8, hr_9, hm⟩ := bind_some hm
    refine lc rfl rfl (r_call0 Try.call15 ) (c_credencelaw14_alive N (col0 col) _ r_8 hr_9) ?_
    rintro _ w_10 ⟨rfl, hg_11⟩
    refine ⟨_, rfl, ?_⟩
    replace hg_11 : Grow (col0 col) w0 (col0 col) w_10 := .of_below hg_11
    replace hst := hst.grow hg_11
    refine lv (v := (.bool r_8)) rfl rfl (r_pickT rfl rfl) ?_
    refine lv (v := (.bool r_8)) rfl rfl (r_assign rfl) ?_
    refine lnil ?_
    exact ⟨(col0 col), r_8, hm, hst, rfl, rfl⟩


end Go.Proofs.Ytpenklmcacfkpaa
