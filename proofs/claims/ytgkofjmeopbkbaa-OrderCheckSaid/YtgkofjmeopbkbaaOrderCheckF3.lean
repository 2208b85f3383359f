/-
  What functions of the program compute, as plain Lean functions (m_..), and proofs that they compute it (c_..). Printed by a program of the author; no conditions.
-/
import Derived.Test.YtgkofjmeopbkbaaFloat
import Derived.Test.YtgkofjmeopbkbaaProg
import Derived.Test.YtgkofjmeopbkbaaCompact
import Derived.Test.YtgkofjmeopbkbaaGraph
import Derived.Test.YtgkofjmeopbkbaaLibSort
import Derived.Test.YtgkofjmeopbkbaaOrderCheckF2
set_option linter.unusedVariables false
namespace Go.Proofs.Ytgkofjmeopbkbaa
open Go Go.RowKit


set_option maxRecDepth 100000 in
theorem el3_29 : ElemOk Try.prog 3 1 8 := ⟨Try.t3, _, rfl, rfl, rfl, rfl, rfl⟩

def m_credencelaw18_awake_J1 (v_188 : Bool) : Option Bool :=
  some v_188

def m_credencelaw18_awake_J2 (v_417 : Bool) : Option Bool :=
  some v_417

def m_credencelaw18_awake (N : Nat)  : Option Bool :=
  (m_credencelaw18_drawn N (5, [0, 1, 1, 2, 2, 3, 0, 3, 3, 4])).bind fun r_6 => optC (r_6.1) (if (!r_6.2.2) = true then (some false) else ((m_order_Fill_v0n N [0, 1, 2, 3, 4]).bind fun r_24 => (m_order_Degree_v0n N [3, 1]).bind fun r_38 => (m_order_Cliques_v0n N r_24.1).bind fun r_47 => (m_order_Width_v0n N r_24.1).bind fun r_56 => (m_order_Fill_v0n N ([] : List Int)).bind fun r_60 => if (decide (r_24.2 = 0)) = true then (if (decide (r_38.2 = 0)) = true then (if (decide (r_47.2 = 0)) = true then (if (decide (r_56.2 = 0)) = true then ((m_credenceref15_Ints N r_24.1 [4, 0, 1, 2, 3]).bind fun r_198 => if r_198 = true then ((m_credenceref15_Ints N r_38.1 [1, 3]).bind fun r_208 => if r_208 = true then (if (decide ((r_47.1.length : Int) = 5)) = true then ((at? r_47.1 1).bind fun e_214 => if (decide ((e_214.length : Int) = 3)) = true then (if (decide (r_56.1 = 2)) = true then (if (decide (r_60.2 = 2)) = true then ((m_order_Check [2, 0, 1] [0, 1, 2]).bind fun r_234 => if (decide (r_234 = 0)) = true then ((m_order_Check [0] ([] : List Int)).bind fun r_244 => m_credencelaw18_awake_J1 (decide (r_244 = 51))) else (m_credencelaw18_awake_J1 false)) else (m_credencelaw18_awake_J1 false)) else (m_credencelaw18_awake_J1 false)) else (m_credencelaw18_awake_J1 false)) else (m_credencelaw18_awake_J1 false)) else (m_credencelaw18_awake_J1 false)) else (m_credencelaw18_awake_J1 false)) else (m_credencelaw18_awake_J1 false)) else (m_credencelaw18_awake_J1 false)) else (m_credencelaw18_awake_J1 false)) else (m_credencelaw18_awake_J1 false))) (fun t_15 => if (!r_6.2.2) = true then (some false) else ((m_order_Fill N t_15 [0, 1, 2, 3, 4]).bind fun r_253 => (m_order_Degree N t_15 [3, 1]).bind fun r_267 => (m_order_Cliques N t_15 r_253.1).bind fun r_276 => (m_order_Width N t_15 r_253.1).bind fun r_285 => (m_order_Fill_v0n N ([] : List Int)).bind fun r_289 => if (decide (r_253.2 = 0)) = true then (if (decide (r_267.2 = 0)) = true then (if (decide (r_276.2 = 0)) = true then (if (decide (r_285.2 = 0)) = true then ((m_credenceref15_Ints N r_253.1 [4, 0, 1, 2, 3]).bind fun r_427 => if r_427 = true then ((m_credenceref15_Ints N r_267.1 [1, 3]).bind fun r_437 => if r_437 = true then (if (decide ((r_276.1.length : Int) = 5)) = true then ((at? r_276.1 1).bind fun e_443 => if (decide ((e_443.length : Int) = 3)) = true then (if (decide (r_285.1 = 2)) = true then (if (decide (r_289.2 = 2)) = true then ((m_order_Check [2, 0, 1] [0, 1, 2]).bind fun r_463 => if (decide (r_463 = 0)) = true then ((m_order_Check [0] ([] : List Int)).bind fun r_473 => m_credencelaw18_awake_J2 (decide (r_473 = 51))) else (m_credencelaw18_awake_J2 false)) else (m_credencelaw18_awake_J2 false)) else (m_credencelaw18_awake_J2 false)) else (m_credencelaw18_awake_J2 false)) else (m_credencelaw18_awake_J2 false)) else (m_credencelaw18_awake_J2 false)) else (m_credencelaw18_awake_J2 false)) else (m_credencelaw18_awake_J2 false)) else (m_credencelaw18_awake_J2 false)) else (m_credencelaw18_awake_J2 false)) else (m_credencelaw18_awake_J2 false)))

set_option maxRecDepth 100000 in
set_option maxHeartbeats 2000000 in
theorem c_credencelaw18_awake (N : Nat) (col : Col) (w0 : World)  (r : Bool) (hm : m_credencelaw18_awake N = some r) :
    Calls Try.prog 29 #[] w0 (fun e w' => e = .returned ((.bool r)) ∧ Below w0.heap.size w0 w') := by
  refine calls_of1 0 (m := 106) (args := []) Try.func29 rfl rfl rfl rfl rfl ?_
  rw [m_credencelaw18_awake.eq_1] at hm
  have hst := St.start col w0
  refine wseq ?_
  refine wregion ?_
  refine lv (v := (.bool false)) rfl rfl (r_assign rfl) ?_
  refine lnil ?_
  refine wseq ?_
  refine wregion ?_
  refine l_lit (col := (col0 col)) (r := (Rep.int .i64)) (xs := [0, 1, 1, 2, 2, 3, 0, 3, 3, 4]) [(.int .i64 0), (.int .i64 1), (.int .i64 1), (.int .i64 2), (.int .i64 2), (.int .i64 3), (.int .i64 0), (.int .i64 3), (.int .i64 3), (.int .i64 4)] 1 rfl Try.underlying22 el3_29 rfl rfl rfl rfl rfl rfl (by intro v hv; simp only [List.mem_cons, List.not_mem_nil, or_false] at hv; rcases hv with rfl | rfl | rfl | rfl | rfl | rfl | rfl | rfl | rfl | rfl <;> rfl) (RowsH.ofF (Rows.consF (r := (Rep.int .i64)) (x := 0) (cs := [(.int .i64 0)]) (rd_int .i64 0) (Rows.consF (r := (Rep.int .i64)) (x := 1) (cs := [(.int .i64 1)]) (rd_int .i64 1) (Rows.consF (r := (Rep.int .i64)) (x := 1) (cs := [(.int .i64 1)]) (rd_int .i64 1) (Rows.consF (r := (Rep.int .i64)) (x := 2) (cs := [(.int .i64 2)]) (rd_int .i64 2) (Rows.consF (r := (Rep.int .i64)) (x := 2) (cs := [(.int .i64 2)]) (rd_int .i64 2) (Rows.consF (r := (Rep.int .i64)) (x := 3) (cs := [(.int .i64 3)]) (rd_int .i64 3) (Rows.consF (r := (Rep.int .i64)) (x := 0) (cs := [(.int .i64 0)]) (rd_int .i64 0) (Rows.consF (r := (Rep.int .i64)) (x := 3) (cs := [(.int .i64 3)]) (rd_int .i64 3) (Rows.consF (r := (Rep.int .i64)) (x := 3) (cs := [(.int .i64 3)]) (rd_int .i64 3) (Rows.consF (r := (Rep.int .i64)) (x := 4) (cs := [(.int .i64 4)]) (rd_int .i64 4) Rows.nil0))))))))))) ?_
  intro a_1 w_2 col_3 hg_4 h_5
  replace hst := hst.grow hg_4
  refine lv (v := (.agg #[(.int .i64 5), (.slice a_1 ([0, 1, 1, 2, 2, 3, 0, 3, 3, 4].length) 10)])) rfl rfl (r_build (l := [_, _]) (qs := [(0, 1), (1, 1)]) Try.underlying59 Try.zeroValue59 ⟨rfl, Try.sizeOf3, rfl, Try.sizeOf22, trivial⟩ rfl) ?_
  replace h_5 := (h_5).toSlF (Froz.int .i64)
  replace hst := hst.froz 1 (by decide) (by decide)
  obtain ⟨r_6, hr_7, hm⟩ := bind_some hm
  refine lc rfl rfl (r_call1 Try.call30 rfl) (c_credencelaw18_drawn N 2 3 4 (frC 1 col_3) _ a_1 10 (5, [0, 1, 1, 2, 2, 3, 0, 3, 3, 4]) h_5 r_6 hr_7) ?_
  rintro _ w_12 ⟨col_14, rv_8, rv_10, rfl, hg_13, rh_9, rh_11⟩
  refine ⟨_, rfl, ?_⟩
  replace h_5 := h_5.gr hg_13
  replace hst := hst.grow hg_13
  cases hx_16 : r_6.1 with
  | none =>
    rw [hx_16] at hm rh_9
    replace hm := optC_none hm
    obtain rfl := optP_none rh_9
    clear rh_9
    refine lv (v := (.tuple #[(.pointer none), rv_10, (.bool r_6.2.2)])) rfl rfl (r_move rfl) ?_
    refine lv (v := (.pointer none)) rfl rfl (r_extract rfl rfl) ?_
    refine lv (v := rv_10) rfl rfl (r_extract rfl rfl) ?_
    refine lv (v := (.bool r_6.2.2)) rfl rfl (r_extract rfl rfl) ?_
    refine lv (v := (.pointer none)) rfl rfl (r_assign rfl) ?_
    refine lv (v := rv_10) rfl rfl (r_assign rfl) ?_
    refine lv (v := (.bool r_6.2.2)) rfl rfl (r_assign rfl) ?_
    refine lnil ?_
    refine wseq ?_
    refine wseq ?_
    refine wregion ?_
    refine lv (v := (.bool r_6.2.2)) rfl rfl (r_move rfl) ?_
    refine lv (v := (.bool (!r_6.2.2))) rfl rfl (r_not r_6.2.2 rfl) ?_
    refine lnil ?_
    refine wcond (!r_6.2.2) rfl (fun hb => ?_) (fun hb => ?_)
    · rw [if_pos hb] at hm
      clear hb
      refine wseq ?_
      refine wregion ?_
      refine lv (v := (.bool false)) rfl rfl (r_assign rfl) ?_
      refine lnil ?_
      refine wret ?_
      cases hm
      exact ⟨rfl, rfl, hst.below⟩
    · rw [if_neg (by rw [hb]; decide)] at hm
      clear hb
      refine wskip ?_
      refine wseq ?_
      refine wregion ?_
      refine lv (v := (.pointer none)) rfl rfl (r_move rfl) ?_
      refine l_lit (col := col_14) (r := (Rep.int .i64)) (xs := [0, 1, 2, 3, 4]) [(.int .i64 0), (.int .i64 1), (.int .i64 2), (.int .i64 3), (.int .i64 4)] 5 rfl Try.underlying22 el3_29 rfl rfl rfl rfl rfl rfl (by intro v hv; simp only [List.mem_cons, List.not_mem_nil, or_false] at hv; rcases hv with rfl | rfl | rfl | rfl | rfl <;> rfl) (RowsH.ofF (Rows.consF (r := (Rep.int .i64)) (x := 0) (cs := [(.int .i64 0)]) (rd_int .i64 0) (Rows.consF (r := (Rep.int .i64)) (x := 1) (cs := [(.int .i64 1)]) (rd_int .i64 1) (Rows.consF (r := (Rep.int .i64)) (x := 2) (cs := [(.int .i64 2)]) (rd_int .i64 2) (Rows.consF (r := (Rep.int .i64)) (x := 3) (cs := [(.int .i64 3)]) (rd_int .i64 3) (Rows.consF (r := (Rep.int .i64)) (x := 4) (cs := [(.int .i64 4)]) (rd_int .i64 4) Rows.nil0)))))) ?_
      intro a_19 w_20 col_21 hg_22 h_23
      replace hst := hst.grow hg_22
      obtain ⟨r_24, hr_25, hm⟩ := bind_some hm
      refine lc rfl rfl (r_call2 Try.call32 rfl rfl) (c_order_Fill_v0n N 6 (frC 5 col_21) _ a_19 5 [0, 1, 2, 3, 4] (h_23.toSlF (Froz.int .i64)) r_24 hr_25) ?_
      rintro _ w_29 ⟨col_31, ra_26, rc_27, rfl, hg_30, rh_28⟩
      refine ⟨_, rfl, ?_⟩
      replace rh_28 := rh_28.thaw (flat_int .i64) hg_30 ((Fz.refl (col := col_21)).froz 5) (by decide)
      replace hg_30 := hg_30.thawR (col := col_21)
      generalize colR w_20.heap.size col_21 col_31 = col_32 at *
      replace h_23 := h_23.gr hg_30
      replace hst := hst.grow hg_30
      refine lv (v := (.tuple #[(.slice ra_26 r_24.1.length rc_27), (.int .i64 r_24.2)])) rfl rfl (r_move rfl) ?_
      refine lv (v := (.slice ra_26 r_24.1.length rc_27)) rfl rfl (r_extract rfl rfl) ?_
      refine lv (v := (.int .i64 r_24.2)) rfl rfl (r_extract rfl rfl) ?_
      refine lv (v := (.slice ra_26 r_24.1.length rc_27)) rfl rfl (r_assign rfl) ?_
      refine lv (v := (.int .i64 r_24.2)) rfl rfl (r_assign rfl) ?_
      refine lnil ?_
      refine wseq ?_
      refine wregion ?_
      refine lv (v := (.pointer none)) rfl rfl (r_move rfl) ?_
      refine l_lit (col := col_32) (r := (Rep.int .i64)) (xs := [3, 1]) [(.int .i64 3), (.int .i64 1)] 7 rfl Try.underlying22 el3_29 rfl rfl rfl rfl rfl rfl (by intro v hv; simp only [List.mem_cons, List.not_mem_nil, or_false] at hv; rcases hv with rfl | rfl <;> rfl) (RowsH.ofF (Rows.consF (r := (Rep.int .i64)) (x := 3) (cs := [(.int .i64 3)]) (rd_int .i64 3) (Rows.consF (r := (Rep.int .i64)) (x := 1) (cs := [(.int .i64 1)]) (rd_int .i64 1) Rows.nil0))) ?_
      intro a_33 w_34 col_35 hg_36 h_37
      replace rh_28 := rh_28.gr hg_36
      replace hst := hst.grow hg_36
      obtain ⟨r_38, hr_39, hm⟩ := bind_some hm
      refine lc rfl rfl (r_call2 Try.call33 rfl rfl) (c_order_Degree_v0n N 8 (frC 7 col_35) _ a_33 2 [3, 1] (h_37.toSlF (Froz.int .i64)) r_38 hr_39) ?_
      rintro _ w_43 ⟨col_45, ra_40, rc_41, rfl, hg_44, rh_42⟩
      refine ⟨_, rfl, ?_⟩
      replace rh_42 := rh_42.thaw (flat_int .i64) hg_44 ((Fz.refl (col := col_35)).froz 7) (by decide)
      replace hg_44 := hg_44.thawR (col := col_35)
      generalize colR w_34.heap.size col_35 col_45 = col_46 at *
      replace rh_28 := rh_28.gr hg_44
      replace h_37 := h_37.gr hg_44
      replace hst := hst.grow hg_44
      refine lv (v := (.tuple #[(.slice ra_40 r_38.1.length rc_41), (.int .i64 r_38.2)])) rfl rfl (r_move rfl) ?_
      refine lv (v := (.slice ra_40 r_38.1.length rc_41)) rfl rfl (r_extract rfl rfl) ?_
      refine lv (v := (.int .i64 r_38.2)) rfl rfl (r_extract rfl rfl) ?_
      refine lv (v := (.slice ra_40 r_38.1.length rc_41)) rfl rfl (r_assign rfl) ?_
      refine lv (v := (.int .i64 r_38.2)) rfl rfl (r_assign rfl) ?_
      refine lnil ?_
      refine wseq ?_
      refine wregion ?_
      refine lv (v := (.pointer none)) rfl rfl (r_move rfl) ?_
      refine lv (v := (.slice ra_26 r_24.1.length rc_27)) rfl rfl (r_move rfl) ?_
      obtain ⟨r_47, hr_48, hm⟩ := bind_some hm
      refine lc rfl rfl (r_call2 Try.call40 rfl rfl) (c_order_Cliques_v0n N 9 (frC 6 col_46) _ ra_26 rc_27 r_24.1 (rh_28.toSlF (Froz.int .i64)) r_47 hr_48) ?_
      rintro _ w_52 ⟨col_54, ra_49, rc_50, rfl, hg_53, rh_51⟩
      refine ⟨_, rfl, ?_⟩
      replace rh_51 := rh_51.thaw (flat_row (flat_int .i64)) hg_53 ((Fz.refl (col := col_46)).froz 6) (by decide)
      replace hg_53 := hg_53.thawR (col := col_46)
      generalize colR w_43.heap.size col_46 col_54 = col_55 at *
      replace rh_28 := rh_28.gr hg_53
      replace rh_42 := rh_42.gr hg_53
      replace hst := hst.grow hg_53
      refine lv (v := (.tuple #[(.slice ra_49 r_47.1.length rc_50), (.int .i64 r_47.2)])) rfl rfl (r_move rfl) ?_
      refine lv (v := (.slice ra_49 r_47.1.length rc_50)) rfl rfl (r_extract rfl rfl) ?_
      refine lv (v := (.int .i64 r_47.2)) rfl rfl (r_extract rfl rfl) ?_
      refine lv (v := (.slice ra_49 r_47.1.length rc_50)) rfl rfl (r_assign rfl) ?_
      refine lv (v := (.int .i64 r_47.2)) rfl rfl (r_assign rfl) ?_
      refine lnil ?_
      refine wseq ?_
      refine wregion ?_
      refine lv (v := (.pointer none)) rfl rfl (r_move rfl) ?_
      refine lv (v := (.slice ra_26 r_24.1.length rc_27)) rfl rfl (r_move rfl) ?_
      obtain ⟨r_56, hr_57, hm⟩ := bind_some hm
      refine lc rfl rfl (r_call2 Try.call42 rfl rfl) (c_order_Width_v0n N (frC 6 col_55) _ ra_26 rc_27 r_24.1 (rh_28.toSlF (Froz.int .i64)) r_56 hr_57) ?_
      rintro _ w_58 ⟨rfl, hg_59⟩
      refine ⟨_, rfl, ?_⟩
      replace hg_59 : Grow col_55 w_52 col_55 w_58 := .of_below hg_59
      replace rh_28 := rh_28.gr hg_59
      replace rh_42 := rh_42.gr hg_59
      replace rh_51 := rh_51.gr hg_59
      replace hst := hst.grow hg_59
      refine lv (v := (.tuple #[(.int .i64 r_56.1), (.int .i64 r_56.2)])) rfl rfl (r_move rfl) ?_
      refine lv (v := (.int .i64 r_56.1)) rfl rfl (r_extract rfl rfl) ?_
      refine lv (v := (.int .i64 r_56.2)) rfl rfl (r_extract rfl rfl) ?_
      refine lv (v := (.int .i64 r_56.1)) rfl rfl (r_assign rfl) ?_
      refine lv (v := (.int .i64 r_56.2)) rfl rfl (r_assign rfl) ?_
      refine lnil ?_
      refine wseq ?_
      refine wregion ?_
      obtain ⟨r_60, hr_61, hm⟩ := bind_some hm
      refine lc rfl rfl (r_call2 Try.call32 rfl rfl) (c_order_Fill_v0n N 10 col_55 _ none 0 ([] : List Int) Sl.nil r_60 hr_61) ?_
      rintro _ w_65 ⟨col_67, ra_62, rc_63, rfl, hg_66, rh_64⟩
      refine ⟨_, rfl, ?_⟩
      replace rh_28 := rh_28.gr hg_66
      replace rh_42 := rh_42.gr hg_66
      replace rh_51 := rh_51.gr hg_66
      replace hst := hst.grow hg_66
      refine lv (v := (.tuple #[(.slice ra_62 r_60.1.length rc_63), (.int .i64 r_60.2)])) rfl rfl (r_move rfl) ?_
      refine lv (v := (.slice ra_62 r_60.1.length rc_63)) rfl rfl (r_extract rfl rfl) ?_
      refine lv (v := (.int .i64 r_60.2)) rfl rfl (r_extract rfl rfl) ?_
      refine lv (v := (.slice ra_62 r_60.1.length rc_63)) rfl rfl (r_assign rfl) ?_
      refine lv (v := (.int .i64 r_60.2)) rfl rfl (r_assign rfl) ?_
      refine lnil ?_
      refine wseq ?_
      refine Wp.cut (fun f w_186 => ∃ (col_187 : Col) (v_188 : Bool), m_credencelaw18_awake_J1 v_188 = some r ∧ St w0 (col0 col) col_187 w_186 ∧ f 0 = (.bool v_188) ∧ f 1000000 = (enc [])) ?_ ?_
      · intro f w_186 hJ
        obtain ⟨col_187, v_188, hm, hst, hs0, hs1000000⟩ := hJ
        rw [m_credencelaw18_awake_J1.eq_1] at hm
        refine .ld (d := 0) (v := (.bool v_188)) hs0 ?_
        refine .ld (d := 1000000) (v := (enc [])) hs1000000 ?_
        clear hs0 hs1000000
        refine wret ?_
        cases hm
        exact ⟨rfl, rfl, hst.below⟩
      · refine wregion ?_
        refine lv (v := (.int .i64 r_24.2)) rfl rfl (r_move rfl) ?_
        refine lv (v := (.bool (decide (r_24.2 = 0)))) rfl rfl (r_eql r_24.2 0 rfl rfl) ?_
        refine lv (v := (.bool (decide (r_24.2 = 0)))) rfl rfl (r_move rfl) ?_
        by_cases hg_189 : (decide (r_24.2 = 0)) = true
        · rw [if_pos hg_189] at hm
          refine lg (b := decide (r_24.2 = 0)) 53 rfl rfl rfl (by rw [hg_189]; rfl) ?_
          refine lv (v := (.int .i64 r_38.2)) rfl rfl (r_move rfl) ?_
          refine lg (b := decide (r_24.2 = 0)) 53 rfl rfl rfl (by rw [hg_189]; rfl) ?_
          refine lv (v := (.bool (decide (r_38.2 = 0)))) rfl rfl (r_eql r_38.2 0 rfl rfl) ?_
          refine lv (v := (.bool (decide (r_38.2 = 0)))) rfl rfl (r_pickT (congrArg Value.bool hg_189) rfl) ?_
          refine lv (v := (.bool (decide (r_38.2 = 0)))) rfl rfl (r_move rfl) ?_
          by_cases hg_190 : (decide (r_38.2 = 0)) = true
          · rw [if_pos hg_190] at hm
            refine lg (b := decide (r_38.2 = 0)) 57 rfl rfl rfl (by rw [hg_190]; rfl) ?_
            refine lv (v := (.int .i64 r_47.2)) rfl rfl (r_move rfl) ?_
            refine lg (b := decide (r_38.2 = 0)) 57 rfl rfl rfl (by rw [hg_190]; rfl) ?_
            refine lv (v := (.bool (decide (r_47.2 = 0)))) rfl rfl (r_eql r_47.2 0 rfl rfl) ?_
            refine lv (v := (.bool (decide (r_47.2 = 0)))) rfl rfl (r_pickT (congrArg Value.bool hg_190) rfl) ?_
            refine lv (v := (.bool (decide (r_47.2 = 0)))) rfl rfl (r_move rfl) ?_
            by_cases hg_191 : (decide (r_47.2 = 0)) = true
            · rw [if_pos hg_191] at hm
              refine lg (b := decide (r_47.2 = 0)) 61 rfl rfl rfl (by rw [hg_191]; rfl) ?_
              refine lv (v := (.int .i64 r_56.2)) rfl rfl (r_move rfl) ?_
              refine lg (b := decide (r_47.2 = 0)) 61 rfl rfl rfl (by rw [hg_191]; rfl) ?_
              refine lv (v := (.bool (decide (r_56.2 = 0)))) rfl rfl (r_eql r_56.2 0 rfl rfl) ?_
              refine lv (v := (.bool (decide (r_56.2 = 0)))) rfl rfl (r_pickT (congrArg Value.bool hg_191) rfl) ?_
              refine lv (v := (.bool (decide (r_56.2 = 0)))) rfl rfl (r_move rfl) ?_
              by_cases hg_192 : (decide (r_56.2 = 0)) = true
              · rw [if_pos hg_192] at hm
                refine lg (b := decide (r_56.2 = 0)) 65 rfl rfl rfl (by rw [hg_192]; rfl) ?_
                refine lv (v := (.slice ra_26 r_24.1.length rc_27)) rfl rfl (r_move rfl) ?_
                refine lg (b := decide (r_56.2 = 0)) 65 rfl rfl rfl (by rw [hg_192]; rfl) ?_
                refine l_lit (col := col_67) (r := (Rep.int .i64)) (xs := [4, 0, 1, 2, 3]) [(.int .i64 4), (.int .i64 0), (.int .i64 1), (.int .i64 2), (.int .i64 3)] 21 rfl Try.underlying22 el3_29 rfl rfl rfl rfl rfl rfl (by intro v hv; simp only [List.mem_cons, List.not_mem_nil, or_false] at hv; rcases hv with rfl | rfl | rfl | rfl | rfl <;> rfl) (RowsH.ofF (Rows.consF (r := (Rep.int .i64)) (x := 4) (cs := [(.int .i64 4)]) (rd_int .i64 4) (Rows.consF (r := (Rep.int .i64)) (x := 0) (cs := [(.int .i64 0)]) (rd_int .i64 0) (Rows.consF (r := (Rep.int .i64)) (x := 1) (cs := [(.int .i64 1)]) (rd_int .i64 1) (Rows.consF (r := (Rep.int .i64)) (x := 2) (cs := [(.int .i64 2)]) (rd_int .i64 2) (Rows.consF (r := (Rep.int .i64)) (x := 3) (cs := [(.int .i64 3)]) (rd_int .i64 3) Rows.nil0)))))) ?_
                intro a_193 w_194 col_195 hg_196 h_197
                replace rh_42 := rh_42.gr hg_196
                replace rh_51 := rh_51.gr hg_196
                replace rh_28 := rh_28.gr hg_196
                replace hst := hst.grow hg_196
                refine lg (b := decide (r_56.2 = 0)) 65 rfl rfl rfl (by rw [hg_192]; rfl) ?_
                obtain ⟨r_198, hr_199, hm⟩ := bind_some hm
                refine lc rfl rfl (r_call2 Try.call36 rfl rfl) (c_credenceref15_Ints N (frC 21 (frC 6 col_195)) _ ra_26 rc_27 r_24.1 a_193 5 [4, 0, 1, 2, 3] ((rh_28.toSlF (Froz.int .i64)).froz 21) ((h_197.froz 6 (by decide)).toSlF (Froz.int .i64)) r_198 hr_199) ?_
                rintro _ w_200 ⟨rfl, hg_201⟩
                refine ⟨_, rfl, ?_⟩
                replace hg_201 : Grow col_195 w_194 col_195 w_200 := .of_below hg_201
                replace rh_42 := rh_42.gr hg_201
                replace rh_51 := rh_51.gr hg_201
                replace rh_28 := rh_28.gr hg_201
                replace h_197 := h_197.gr hg_201
                replace hst := hst.grow hg_201
                refine lv (v := (.bool r_198)) rfl rfl (r_pickT (congrArg Value.bool hg_192) rfl) ?_
                refine lv (v := (.bool r_198)) rfl rfl (r_move rfl) ?_
                by_cases hg_202 : r_198 = true
                · rw [if_pos hg_202] at hm
                  refine lg (b := r_198) 70 rfl rfl rfl (by rw [hg_202]; rfl) ?_
                  refine lv (v := (.slice ra_40 r_38.1.length rc_41)) rfl rfl (r_move rfl) ?_
                  refine lg (b := r_198) 70 rfl rfl rfl (by rw [hg_202]; rfl) ?_
                  refine l_lit (col := col_195) (r := (Rep.int .i64)) (xs := [1, 3]) [(.int .i64 1), (.int .i64 3)] 22 rfl Try.underlying22 el3_29 rfl rfl rfl rfl rfl rfl (by intro v hv; simp only [List.mem_cons, List.not_mem_nil, or_false] at hv; rcases hv with rfl | rfl <;> rfl) (RowsH.ofF (Rows.consF (r := (Rep.int .i64)) (x := 1) (cs := [(.int .i64 1)]) (rd_int .i64 1) (Rows.consF (r := (Rep.int .i64)) (x := 3) (cs := [(.int .i64 3)]) (rd_int .i64 3) Rows.nil0))) ?_
                  intro a_203 w_204 col_205 hg_206 h_207
                  replace rh_51 := rh_51.gr hg_206
                  replace rh_42 := rh_42.gr hg_206
                  replace hst := hst.grow hg_206
                  refine lg (b := r_198) 70 rfl rfl rfl (by rw [hg_202]; rfl) ?_
                  obtain ⟨r_208, hr_209, hm⟩ := bind_some hm
                  refine lc rfl rfl (r_call2 Try.call36 rfl rfl) (c_credenceref15_Ints N (frC 22 (frC 8 col_205)) _ ra_40 rc_41 r_38.1 a_203 2 [1, 3] ((rh_42.toSlF (Froz.int .i64)).froz 22) ((h_207.froz 8 (by decide)).toSlF (Froz.int .i64)) r_208 hr_209) ?_
                  rintro _ w_210 ⟨rfl, hg_211⟩
                  refine ⟨_, rfl, ?_⟩
                  replace hg_211 : Grow col_205 w_204 col_205 w_210 := .of_below hg_211
                  replace rh_51 := rh_51.gr hg_211
                  replace rh_42 := rh_42.gr hg_211
                  replace h_207 := h_207.gr hg_211
                  replace hst := hst.grow hg_211
                  refine lv (v := (.bool r_208)) rfl rfl (r_pickT (congrArg Value.bool hg_202) rfl) ?_
                  refine lv (v := (.bool r_208)) rfl rfl (r_move rfl) ?_
                  by_cases hg_212 : r_208 = true
                  · rw [if_pos hg_212] at hm
                    refine lg (b := r_208) 75 rfl rfl rfl (by rw [hg_212]; rfl) ?_
                    refine lv (v := (.slice ra_49 r_47.1.length rc_50)) rfl rfl (r_move rfl) ?_
                    refine lg (b := r_208) 75 rfl rfl rfl (by rw [hg_212]; rfl) ?_
                    refine lv (v := (.int .i64 (r_47.1.length : Int))) rfl rfl (r_len Try.underlying33 rfl) ?_
                    refine lg (b := r_208) 75 rfl rfl rfl (by rw [hg_212]; rfl) ?_
                    refine lv (v := (.bool (decide ((r_47.1.length : Int) = 5)))) rfl rfl (r_eql (r_47.1.length : Int) 5 rfl rfl) ?_
                    refine lv (v := (.bool (decide ((r_47.1.length : Int) = 5)))) rfl rfl (r_pickT (congrArg Value.bool hg_212) rfl) ?_
                    refine lv (v := (.bool (decide ((r_47.1.length : Int) = 5)))) rfl rfl (r_move rfl) ?_
                    by_cases hg_213 : (decide ((r_47.1.length : Int) = 5)) = true
                    · rw [if_pos hg_213] at hm
                      refine lg (b := decide ((r_47.1.length : Int) = 5)) 80 rfl rfl rfl (by rw [hg_213]; rfl) ?_
                      refine lv (v := (.slice ra_49 r_47.1.length rc_50)) rfl rfl (r_move rfl) ?_
                      refine lg (b := decide ((r_47.1.length : Int) = 5)) 80 rfl rfl rfl (by rw [hg_213]; rfl) ?_
                      obtain ⟨e_214, hj_215, hm⟩ := bind_some hm
                      refine lv (v := (sptr ra_49 (Int.toNat 1 * 1))) rfl rfl (r_idx Try.underlying33 Try.sizeOf22 rfl rfl (at?_some hj_215).1 (at?_some hj_215).2.1 (rh_51.addr hj_215)) ?_
                      refine lg (b := decide ((r_47.1.length : Int) = 5)) 80 rfl rfl rfl (by rw [hg_213]; rfl) ?_
                      obtain ⟨_, hr_216, hA_217⟩ := rh_51.atN hj_215
                      obtain ⟨a_218, cap_219, rfl, h_220⟩ := hr_216.row
                      refine lv (v := (.slice a_218 e_214.length cap_219)) rfl rfl (r_ld Try.isAgg22 rfl hA_217.one) ?_
                      refine lg (b := decide ((r_47.1.length : Int) = 5)) 80 rfl rfl rfl (by rw [hg_213]; rfl) ?_
                      refine lv (v := (.int .i64 (e_214.length : Int))) rfl rfl (r_len Try.underlying22 rfl) ?_
                      refine lg (b := decide ((r_47.1.length : Int) = 5)) 80 rfl rfl rfl (by rw [hg_213]; rfl) ?_
                      refine lv (v := (.bool (decide ((e_214.length : Int) = 3)))) rfl rfl (r_eql (e_214.length : Int) 3 rfl rfl) ?_
                      refine lv (v := (.bool (decide ((e_214.length : Int) = 3)))) rfl rfl (r_pickT (congrArg Value.bool hg_213) rfl) ?_
                      refine lv (v := (.bool (decide ((e_214.length : Int) = 3)))) rfl rfl (r_move rfl) ?_
                      by_cases hg_221 : (decide ((e_214.length : Int) = 3)) = true
                      · rw [if_pos hg_221] at hm
                        refine lg (b := decide ((e_214.length : Int) = 3)) 87 rfl rfl rfl (by rw [hg_221]; rfl) ?_
                        refine lv (v := (.int .i64 r_56.1)) rfl rfl (r_move rfl) ?_
                        refine lg (b := decide ((e_214.length : Int) = 3)) 87 rfl rfl rfl (by rw [hg_221]; rfl) ?_
                        refine lv (v := (.bool (decide (r_56.1 = 2)))) rfl rfl (r_eql r_56.1 2 rfl rfl) ?_
                        refine lv (v := (.bool (decide (r_56.1 = 2)))) rfl rfl (r_pickT (congrArg Value.bool hg_221) rfl) ?_
                        refine lv (v := (.bool (decide (r_56.1 = 2)))) rfl rfl (r_move rfl) ?_
                        by_cases hg_222 : (decide (r_56.1 = 2)) = true
                        · rw [if_pos hg_222] at hm
                          refine lg (b := decide (r_56.1 = 2)) 91 rfl rfl rfl (by rw [hg_222]; rfl) ?_
                          refine lv (v := (.int .i64 r_60.2)) rfl rfl (r_move rfl) ?_
                          refine lg (b := decide (r_56.1 = 2)) 91 rfl rfl rfl (by rw [hg_222]; rfl) ?_
                          refine lv (v := (.bool (decide (r_60.2 = 2)))) rfl rfl (r_eql r_60.2 2 rfl rfl) ?_
                          refine lv (v := (.bool (decide (r_60.2 = 2)))) rfl rfl (r_pickT (congrArg Value.bool hg_222) rfl) ?_
                          refine lv (v := (.bool (decide (r_60.2 = 2)))) rfl rfl (r_move rfl) ?_
                          by_cases hg_223 : (decide (r_60.2 = 2)) = true
                          · rw [if_pos hg_223] at hm
                            refine lg (b := decide (r_60.2 = 2)) 95 rfl rfl rfl (by rw [hg_223]; rfl) ?_
                            refine l_lit (col := col_205) (r := (Rep.int .i64)) (xs := [2, 0, 1]) [(.int .i64 2), (.int .i64 0), (.int .i64 1)] 23 rfl Try.underlying22 el3_29 rfl rfl rfl rfl rfl rfl (by intro v hv; simp only [List.mem_cons, List.not_mem_nil, or_false] at hv; rcases hv with rfl | rfl | rfl <;> rfl) (RowsH.ofF (Rows.consF (r := (Rep.int .i64)) (x := 2) (cs := [(.int .i64 2)]) (rd_int .i64 2) (Rows.consF (r := (Rep.int .i64)) (x := 0) (cs := [(.int .i64 0)]) (rd_int .i64 0) (Rows.consF (r := (Rep.int .i64)) (x := 1) (cs := [(.int .i64 1)]) (rd_int .i64 1) Rows.nil0)))) ?_
                            intro a_224 w_225 col_226 hg_227 h_228
                            replace hst := hst.grow hg_227
                            refine lg (b := decide (r_60.2 = 2)) 95 rfl rfl rfl (by rw [hg_223]; rfl) ?_
                            refine l_lit (col := col_226) (r := (Rep.int .i64)) (xs := [0, 1, 2]) [(.int .i64 0), (.int .i64 1), (.int .i64 2)] 24 rfl Try.underlying22 el3_29 rfl rfl rfl rfl rfl rfl (by intro v hv; simp only [List.mem_cons, List.not_mem_nil, or_false] at hv; rcases hv with rfl | rfl | rfl <;> rfl) (RowsH.ofF (Rows.consF (r := (Rep.int .i64)) (x := 0) (cs := [(.int .i64 0)]) (rd_int .i64 0) (Rows.consF (r := (Rep.int .i64)) (x := 1) (cs := [(.int .i64 1)]) (rd_int .i64 1) (Rows.consF (r := (Rep.int .i64)) (x := 2) (cs := [(.int .i64 2)]) (rd_int .i64 2) Rows.nil0)))) ?_
                            intro a_229 w_230 col_231 hg_232 h_233
                            replace h_228 := h_228.gr hg_232
                            replace hst := hst.grow hg_232
                            refine lg (b := decide (r_60.2 = 2)) 95 rfl rfl rfl (by rw [hg_223]; rfl) ?_
                            obtain ⟨r_234, hr_235, hm⟩ := bind_some hm
                            refine lc rfl rfl (r_call2 Try.call45 rfl rfl) (c_order_Check (frC 24 (frC 23 col_231)) _ a_224 3 [2, 0, 1] a_229 3 [0, 1, 2] ((h_228.toSlF (Froz.int .i64)).froz 24) ((h_233.froz 23 (by decide)).toSlF (Froz.int .i64)) r_234 hr_235) ?_
                            rintro _ w_236 ⟨rfl, hg_237⟩
                            refine ⟨_, rfl, ?_⟩
                            replace hg_237 : Grow col_231 w_230 col_231 w_236 := .of_below hg_237
                            replace h_228 := h_228.gr hg_237
                            replace h_233 := h_233.gr hg_237
                            replace hst := hst.grow hg_237
                            refine lg (b := decide (r_60.2 = 2)) 95 rfl rfl rfl (by rw [hg_223]; rfl) ?_
                            refine lv (v := (.bool (decide (r_234 = 0)))) rfl rfl (r_eql r_234 0 rfl rfl) ?_
                            refine lv (v := (.bool (decide (r_234 = 0)))) rfl rfl (r_pickT (congrArg Value.bool hg_223) rfl) ?_
                            refine lv (v := (.bool (decide (r_234 = 0)))) rfl rfl (r_move rfl) ?_
                            by_cases hg_238 : (decide (r_234 = 0)) = true
                            · rw [if_pos hg_238] at hm
                              refine lg (b := decide (r_234 = 0)) 101 rfl rfl rfl (by rw [hg_238]; rfl) ?_
                              refine l_lit (col := col_231) (r := (Rep.int .i64)) (xs := [0]) [(.int .i64 0)] 25 rfl Try.underlying22 el3_29 rfl rfl rfl rfl rfl rfl (by intro v hv; simp only [List.mem_cons, List.not_mem_nil, or_false] at hv; subst hv; rfl) (RowsH.ofF (Rows.consF (r := (Rep.int .i64)) (x := 0) (cs := [(.int .i64 0)]) (rd_int .i64 0) Rows.nil0)) ?_
                              intro a_239 w_240 col_241 hg_242 h_243
                              replace hst := hst.grow hg_242
                              refine lg (b := decide (r_234 = 0)) 101 rfl rfl rfl (by rw [hg_238]; rfl) ?_
                              obtain ⟨r_244, hr_245, hm⟩ := bind_some hm
                              refine lc rfl rfl (r_call2 Try.call45 rfl rfl) (c_order_Check (frC 25 col_241) _ a_239 1 [0] none 0 ([] : List Int) (h_243.toSlF (Froz.int .i64)) Sl.nil r_244 hr_245) ?_
                              rintro _ w_246 ⟨rfl, hg_247⟩
                              refine ⟨_, rfl, ?_⟩
                              replace hg_247 : Grow col_241 w_240 col_241 w_246 := .of_below hg_247
                              replace h_243 := h_243.gr hg_247
                              replace hst := hst.grow hg_247
                              refine lg (b := decide (r_234 = 0)) 101 rfl rfl rfl (by rw [hg_238]; rfl) ?_
                              refine lv (v := (.bool (decide (r_244 = 51)))) rfl rfl (r_eql r_244 51 rfl rfl) ?_
                              refine lv (v := (.bool (decide (r_244 = 51)))) rfl rfl (r_pickT (congrArg Value.bool hg_238) rfl) ?_
                              refine lv (v := (.bool (decide (r_244 = 51)))) rfl rfl (r_assign rfl) ?_
                              refine lnil ?_
                              exact ⟨col_241, (decide (r_244 = 51)), hm, hst, rfl, rfl⟩
                            · rw [if_neg hg_238] at hm
                              replace hg_238 := Bool.eq_false_iff.2 hg_238
                              refine lp (b := decide (r_234 = 0)) 101 rfl rfl rfl rfl (by rw [hg_238]; rfl) ?_
                              refine lp (b := decide (r_234 = 0)) 101 rfl rfl rfl rfl (by rw [hg_238]; rfl) ?_
                              refine lp (b := decide (r_234 = 0)) 101 rfl rfl rfl rfl (by rw [hg_238]; rfl) ?_
                              refine lv (v := (.bool false)) rfl rfl (r_pickF (congrArg Value.bool hg_238) rfl) ?_
                              refine lv (v := (.bool false)) rfl rfl (r_assign rfl) ?_
                              refine lnil ?_
                              exact ⟨col_231, false, hm, hst, rfl, rfl⟩
                          · rw [if_neg hg_223] at hm
                            replace hg_223 := Bool.eq_false_iff.2 hg_223
                            refine lp (b := decide (r_60.2 = 2)) 95 rfl rfl rfl rfl (by rw [hg_223]; rfl) ?_
                            refine lp (b := decide (r_60.2 = 2)) 95 rfl rfl rfl rfl (by rw [hg_223]; rfl) ?_
                            refine lp (b := decide (r_60.2 = 2)) 95 rfl rfl rfl rfl (by rw [hg_223]; rfl) ?_
                            refine lp (b := decide (r_60.2 = 2)) 95 rfl rfl rfl rfl (by rw [hg_223]; rfl) ?_
                            refine lv (v := (.bool false)) rfl rfl (r_pickF (congrArg Value.bool hg_223) rfl) ?_
                            refine lv (v := (.bool false)) rfl rfl (r_move rfl) ?_
                            refine lp (b := false) 101 rfl rfl rfl rfl rfl ?_
                            refine lp (b := false) 101 rfl rfl rfl rfl rfl ?_
                            refine lp (b := false) 101 rfl rfl rfl rfl rfl ?_
                            refine lv (v := (.bool false)) rfl rfl (r_pickF rfl rfl) ?_
                            refine lv (v := (.bool false)) rfl rfl (r_assign rfl) ?_
                            refine lnil ?_
                            exact ⟨col_205, false, hm, hst, rfl, rfl⟩
                        · rw [if_neg hg_222] at hm
                          replace hg_222 := Bool.eq_false_iff.2 hg_222
                          refine lp (b := decide (r_56.1 = 2)) 91 rfl rfl rfl rfl (by rw [hg_222]; rfl) ?_
                          refine lp (b := decide (r_56.1 = 2)) 91 rfl rfl rfl rfl (by rw [hg_222]; rfl) ?_
                          refine lv (v := (.bool false)) rfl rfl (r_pickF (congrArg Value.bool hg_222) rfl) ?_
                          refine lv (v := (.bool false)) rfl rfl (r_move rfl) ?_
                          refine lp (b := false) 95 rfl rfl rfl rfl rfl ?_
                          refine lp (b := false) 95 rfl rfl rfl rfl rfl ?_
                          refine lp (b := false) 95 rfl rfl rfl rfl rfl ?_
                          refine lp (b := false) 95 rfl rfl rfl rfl rfl ?_
                          refine lv (v := (.bool false)) rfl rfl (r_pickF rfl rfl) ?_
                          refine lv (v := (.bool false)) rfl rfl (r_move rfl) ?_
                          refine lp (b := false) 101 rfl rfl rfl rfl rfl ?_
                          refine lp (b := false) 101 rfl rfl rfl rfl rfl ?_
                          refine lp (b := false) 101 rfl rfl rfl rfl rfl ?_
                          refine lv (v := (.bool false)) rfl rfl (r_pickF rfl rfl) ?_
                          refine lv (v := (.bool false)) rfl rfl (r_assign rfl) ?_
                          refine lnil ?_
                          exact ⟨col_205, false, hm, hst, rfl, rfl⟩
                      · rw [if_neg hg_221] at hm
                        replace hg_221 := Bool.eq_false_iff.2 hg_221
                        refine lp (b := decide ((e_214.length : Int) = 3)) 87 rfl rfl rfl rfl (by rw [hg_221]; rfl) ?_
                        refine lp (b := decide ((e_214.length : Int) = 3)) 87 rfl rfl rfl rfl (by rw [hg_221]; rfl) ?_
                        refine lv (v := (.bool false)) rfl rfl (r_pickF (congrArg Value.bool hg_221) rfl) ?_
                        refine lv (v := (.bool false)) rfl rfl (r_move rfl) ?_
                        refine lp (b := false) 91 rfl rfl rfl rfl rfl ?_
                        refine lp (b := false) 91 rfl rfl rfl rfl rfl ?_
                        refine lv (v := (.bool false)) rfl rfl (r_pickF rfl rfl) ?_
                        refine lv (v := (.bool false)) rfl rfl (r_move rfl) ?_
                        refine lp (b := false) 95 rfl rfl rfl rfl rfl ?_
                        refine lp (b := false) 95 rfl rfl rfl rfl rfl ?_
                        refine lp (b := false) 95 rfl rfl rfl rfl rfl ?_
                        refine lp (b := false) 95 rfl rfl rfl rfl rfl ?_
                        refine lv (v := (.bool false)) rfl rfl (r_pickF rfl rfl) ?_
                        refine lv (v := (.bool false)) rfl rfl (r_move rfl) ?_
                        refine lp (b := false) 101 rfl rfl rfl rfl rfl ?_
                        refine lp (b := false) 101 rfl rfl rfl rfl rfl ?_
                        refine lp (b := false) 101 rfl rfl rfl rfl rfl ?_
                        refine lv (v := (.bool false)) rfl rfl (r_pickF rfl rfl) ?_
                        refine lv (v := (.bool false)) rfl rfl (r_assign rfl) ?_
                        refine lnil ?_
                        exact ⟨col_205, false, hm, hst, rfl, rfl⟩
                    · rw [if_neg hg_213] at hm
                      replace hg_213 := Bool.eq_false_iff.2 hg_213
                      refine lp (b := decide ((r_47.1.length : Int) = 5)) 80 rfl rfl rfl rfl (by rw [hg_213]; rfl) ?_
                      refine lp (b := decide ((r_47.1.length : Int) = 5)) 80 rfl rfl rfl rfl (by rw [hg_213]; rfl) ?_
                      refine lp (b := decide ((r_47.1.length : Int) = 5)) 80 rfl rfl rfl rfl (by rw [hg_213]; rfl) ?_
                      refine lp (b := decide ((r_47.1.length : Int) = 5)) 80 rfl rfl rfl rfl (by rw [hg_213]; rfl) ?_
                      refine lp (b := decide ((r_47.1.length : Int) = 5)) 80 rfl rfl rfl rfl (by rw [hg_213]; rfl) ?_
                      refine lv (v := (.bool false)) rfl rfl (r_pickF (congrArg Value.bool hg_213) rfl) ?_
                      refine lv (v := (.bool false)) rfl rfl (r_move rfl) ?_
                      refine lp (b := false) 87 rfl rfl rfl rfl rfl ?_
                      refine lp (b := false) 87 rfl rfl rfl rfl rfl ?_
                      refine lv (v := (.bool false)) rfl rfl (r_pickF rfl rfl) ?_
                      refine lv (v := (.bool false)) rfl rfl (r_move rfl) ?_
                      refine lp (b := false) 91 rfl rfl rfl rfl rfl ?_
                      refine lp (b := false) 91 rfl rfl rfl rfl rfl ?_
                      refine lv (v := (.bool false)) rfl rfl (r_pickF rfl rfl) ?_
                      refine lv (v := (.bool false)) rfl rfl (r_move rfl) ?_
                      refine lp (b := false) 95 rfl rfl rfl rfl rfl ?_
                      refine lp (b := false) 95 rfl rfl rfl rfl rfl ?_
                      refine lp (b := false) 95 rfl rfl rfl rfl rfl ?_
                      refine lp (b := false) 95 rfl rfl rfl rfl rfl ?_
                      refine lv (v := (.bool false)) rfl rfl (r_pickF rfl rfl) ?_
                      refine lv (v := (.bool false)) rfl rfl (r_move rfl) ?_
                      refine lp (b := false) 101 rfl rfl rfl rfl rfl ?_
                      refine lp (b := false) 101 rfl rfl rfl rfl rfl ?_
                      refine lp (b := false) 101 rfl rfl rfl rfl rfl ?_
                      refine lv (v := (.bool false)) rfl rfl (r_pickF rfl rfl) ?_
                      refine lv (v := (.bool false)) rfl rfl (r_assign rfl) ?_
                      refine lnil ?_
                      exact ⟨col_205, false, hm, hst, rfl, rfl⟩
                  · rw [if_neg hg_212] at hm
                    replace hg_212 := Bool.eq_false_iff.2 hg_212
                    refine lp (b := r_208) 75 rfl rfl rfl rfl (by rw [hg_212]; rfl) ?_
                    refine lp (b := r_208) 75 rfl rfl rfl rfl (by rw [hg_212]; rfl) ?_
                    refine lp (b := r_208) 75 rfl rfl rfl rfl (by rw [hg_212]; rfl) ?_
                    refine lv (v := (.bool false)) rfl rfl (r_pickF (congrArg Value.bool hg_212) rfl) ?_
                    refine lv (v := (.bool false)) rfl rfl (r_move rfl) ?_
                    refine lp (b := false) 80 rfl rfl rfl rfl rfl ?_
                    refine lp (b := false) 80 rfl rfl rfl rfl rfl ?_
                    refine lp (b := false) 80 rfl rfl rfl rfl rfl ?_
                    refine lp (b := false) 80 rfl rfl rfl rfl rfl ?_
                    refine lp (b := false) 80 rfl rfl rfl rfl rfl ?_
                    refine lv (v := (.bool false)) rfl rfl (r_pickF rfl rfl) ?_
                    refine lv (v := (.bool false)) rfl rfl (r_move rfl) ?_
                    refine lp (b := false) 87 rfl rfl rfl rfl rfl ?_
                    refine lp (b := false) 87 rfl rfl rfl rfl rfl ?_
                    refine lv (v := (.bool false)) rfl rfl (r_pickF rfl rfl) ?_
                    refine lv (v := (.bool false)) rfl rfl (r_move rfl) ?_
                    refine lp (b := false) 91 rfl rfl rfl rfl rfl ?_
                    refine lp (b := false) 91 rfl rfl rfl rfl rfl ?_
                    refine lv (v := (.bool false)) rfl rfl (r_pickF rfl rfl) ?_
                    refine lv (v := (.bool false)) rfl rfl (r_move rfl) ?_
                    refine lp (b := false) 95 rfl rfl rfl rfl rfl ?_
                    refine lp (b := false) 95 rfl rfl rfl rfl rfl ?_
                    refine lp (b := false) 95 rfl rfl rfl rfl rfl ?_
                    refine lp (b := false) 95 rfl rfl rfl rfl rfl ?_
                    refine lv (v := (.bool false)) rfl rfl (r_pickF rfl rfl) ?_
                    refine lv (v := (.bool false)) rfl rfl (r_move rfl) ?_
                    refine lp (b := false) 101 rfl rfl rfl rfl rfl ?_
                    refine lp (b := false) 101 rfl rfl rfl rfl rfl ?_
                    refine lp (b := false) 101 rfl rfl rfl rfl rfl ?_
                    refine lv (v := (.bool false)) rfl rfl (r_pickF rfl rfl) ?_
                    refine lv (v := (.bool false)) rfl rfl (r_assign rfl) ?_
                    refine lnil ?_
                    exact ⟨col_205, false, hm, hst, rfl, rfl⟩
                · rw [if_neg hg_202] at hm
                  replace hg_202 := Bool.eq_false_iff.2 hg_202
                  refine lp (b := r_198) 70 rfl rfl rfl rfl (by rw [hg_202]; rfl) ?_
                  refine lp (b := r_198) 70 rfl rfl rfl rfl (by rw [hg_202]; rfl) ?_
                  refine lp (b := r_198) 70 rfl rfl rfl rfl (by rw [hg_202]; rfl) ?_
                  refine lv (v := (.bool false)) rfl rfl (r_pickF (congrArg Value.bool hg_202) rfl) ?_
                  refine lv (v := (.bool false)) rfl rfl (r_move rfl) ?_
                  refine lp (b := false) 75 rfl rfl rfl rfl rfl ?_
                  refine lp (b := false) 75 rfl rfl rfl rfl rfl ?_
                  refine lp (b := false) 75 rfl rfl rfl rfl rfl ?_
                  refine lv (v := (.bool false)) rfl rfl (r_pickF rfl rfl) ?_
                  refine lv (v := (.bool false)) rfl rfl (r_move rfl) ?_
                  refine lp (b := false) 80 rfl rfl rfl rfl rfl ?_
                  refine lp (b := false) 80 rfl rfl rfl rfl rfl ?_
                  refine lp (b := false) 80 rfl rfl rfl rfl rfl ?_
                  refine lp (b := false) 80 rfl rfl rfl rfl rfl ?_
                  refine lp (b := false) 80 rfl rfl rfl rfl rfl ?_
                  refine lv (v := (.bool false)) rfl rfl (r_pickF rfl rfl) ?_
                  refine lv (v := (.bool false)) rfl rfl (r_move rfl) ?_
                  refine lp (b := false) 87 rfl rfl rfl rfl rfl ?_
                  refine lp (b := false) 87 rfl rfl rfl rfl rfl ?_
                  refine lv (v := (.bool false)) rfl rfl (r_pickF rfl rfl) ?_
                  refine lv (v := (.bool false)) rfl rfl (r_move rfl) ?_
                  refine lp (b := false) 91 rfl rfl rfl rfl rfl ?_
                  refine lp (b := false) 91 rfl rfl rfl rfl rfl ?_
                  refine lv (v := (.bool false)) rfl rfl (r_pickF rfl rfl) ?_
                  refine lv (v := (.bool false)) rfl rfl (r_move rfl) ?_
                  refine lp (b := false) 95 rfl rfl rfl rfl rfl ?_
                  refine lp (b := false) 95 rfl rfl rfl rfl rfl ?_
                  refine lp (b := false) 95 rfl rfl rfl rfl rfl ?_
                  refine lp (b := false) 95 rfl rfl rfl rfl rfl ?_
                  refine lv (v := (.bool false)) rfl rfl (r_pickF rfl rfl) ?_
                  refine lv (v := (.bool false)) rfl rfl (r_move rfl) ?_
                  refine lp (b := false) 101 rfl rfl rfl rfl rfl ?_
                  refine lp (b := false) 101 rfl rfl rfl rfl rfl ?_
                  refine lp (b := false) 101 rfl rfl rfl rfl rfl ?_
                  refine lv (v := (.bool false)) rfl rfl (r_pickF rfl rfl) ?_
                  refine lv (v := (.bool false)) rfl rfl (r_assign rfl) ?_
                  refine lnil ?_
                  exact ⟨col_195, false, hm, hst, rfl, rfl⟩
              · rw [if_neg hg_192] at hm
                replace hg_192 := Bool.eq_false_iff.2 hg_192
                refine lp (b := decide (r_56.2 = 0)) 65 rfl rfl rfl rfl (by rw [hg_192]; rfl) ?_
                refine lp (b := decide (r_56.2 = 0)) 65 rfl rfl rfl rfl (by rw [hg_192]; rfl) ?_
                refine lp (b := decide (r_56.2 = 0)) 65 rfl rfl rfl rfl (by rw [hg_192]; rfl) ?_
                refine lv (v := (.bool false)) rfl rfl (r_pickF (congrArg Value.bool hg_192) rfl) ?_
                refine lv (v := (.bool false)) rfl rfl (r_move rfl) ?_
                refine lp (b := false) 70 rfl rfl rfl rfl rfl ?_
                refine lp (b := false) 70 rfl rfl rfl rfl rfl ?_
                refine lp (b := false) 70 rfl rfl rfl rfl rfl ?_
                refine lv (v := (.bool false)) rfl rfl (r_pickF rfl rfl) ?_
                refine lv (v := (.bool false)) rfl rfl (r_move rfl) ?_
                refine lp (b := false) 75 rfl rfl rfl rfl rfl ?_
                refine lp (b := false) 75 rfl rfl rfl rfl rfl ?_
                refine lp (b := false) 75 rfl rfl rfl rfl rfl ?_
                refine lv (v := (.bool false)) rfl rfl (r_pickF rfl rfl) ?_
                refine lv (v := (.bool false)) rfl rfl (r_move rfl) ?_
                refine lp (b := false) 80 rfl rfl rfl rfl rfl ?_
                refine lp (b := false) 80 rfl rfl rfl rfl rfl ?_
                refine lp (b := false) 80 rfl rfl rfl rfl rfl ?_
                refine lp (b := false) 80 rfl rfl rfl rfl rfl ?_
                refine lp (b := false) 80 rfl rfl rfl rfl rfl ?_
                refine lv (v := (.bool false)) rfl rfl (r_pickF rfl rfl) ?_
                refine lv (v := (.bool false)) rfl rfl (r_move rfl) ?_
                refine lp (b := false) 87 rfl rfl rfl rfl rfl ?_
                refine lp (b := false) 87 rfl rfl rfl rfl rfl ?_
                refine lv (v := (.bool false)) rfl rfl (r_pickF rfl rfl) ?_
                refine lv (v := (.bool false)) rfl rfl (r_move rfl) ?_
                refine lp (b := false) 91 rfl rfl rfl rfl rfl ?_
                refine lp (b := false) 91 rfl rfl rfl rfl rfl ?_
                refine lv (v := (.bool false)) rfl rfl (r_pickF rfl rfl) ?_
                refine lv (v := (.bool false)) rfl rfl (r_move rfl) ?_
                refine lp (b := false) 95 rfl rfl rfl rfl rfl ?_
                refine lp (b := false) 95 rfl rfl rfl rfl rfl ?_
                refine lp (b := false) 95 rfl rfl rfl rfl rfl ?_
                refine lp (b := false) 95 rfl rfl rfl rfl rfl ?_
                refine lv (v := (.bool false)) rfl rfl (r_pickF rfl rfl) ?_
                refine lv (v := (.bool false)) rfl rfl (r_move rfl) ?_
                refine lp (b := false) 101 rfl rfl rfl rfl rfl ?_
                refine lp (b := false) 101 rfl rfl rfl rfl rfl ?_
                refine lp (b := false) 101 rfl rfl rfl rfl rfl ?_
                refine lv (v := (.bool false)) rfl rfl (r_pickF rfl rfl) ?_
                refine lv (v := (.bool false)) rfl rfl (r_assign rfl) ?_
                refine lnil ?_
                exact ⟨col_67, false, hm, hst, rfl, rfl⟩
            · rw [if_neg hg_191] at hm
              replace hg_191 := Bool.eq_false_iff.2 hg_191
              refine lp (b := decide (r_47.2 = 0)) 61 rfl rfl rfl rfl (by rw [hg_191]; rfl) ?_
              refine lp (b := decide (r_47.2 = 0)) 61 rfl rfl rfl rfl (by rw [hg_191]; rfl) ?_
              refine lv (v := (.bool false)) rfl rfl (r_pickF (congrArg Value.bool hg_191) rfl) ?_
              refine lv (v := (.bool false)) rfl rfl (r_move rfl) ?_
              refine lp (b := false) 65 rfl rfl rfl rfl rfl ?_
              refine lp (b := false) 65 rfl rfl rfl rfl rfl ?_
              refine lp (b := false) 65 rfl rfl rfl rfl rfl ?_
              refine lv (v := (.bool false)) rfl rfl (r_pickF rfl rfl) ?_
              refine lv (v := (.bool false)) rfl rfl (r_move rfl) ?_
              refine lp (b := false) 70 rfl rfl rfl rfl rfl ?_
              refine lp (b := false) 70 rfl rfl rfl rfl rfl ?_
              refine lp (b := false) 70 rfl rfl rfl rfl rfl ?_
              refine lv (v := (.bool false)) rfl rfl (r_pickF rfl rfl) ?_
              refine lv (v := (.bool false)) rfl rfl (r_move rfl) ?_
              refine lp (b := false) 75 rfl rfl rfl rfl rfl ?_
              refine lp (b := false) 75 rfl rfl rfl rfl rfl ?_
              refine lp (b := false) 75 rfl rfl rfl rfl rfl ?_
              refine lv (v := (.bool false)) rfl rfl (r_pickF rfl rfl) ?_
              refine lv (v := (.bool false)) rfl rfl (r_move rfl) ?_
              refine lp (b := false) 80 rfl rfl rfl rfl rfl ?_
              refine lp (b := false) 80 rfl rfl rfl rfl rfl ?_
              refine lp (b := false) 80 rfl rfl rfl rfl rfl ?_
              refine lp (b := false) 80 rfl rfl rfl rfl rfl ?_
              refine lp (b := false) 80 rfl rfl rfl rfl rfl ?_
              refine lv (v := (.bool false)) rfl rfl (r_pickF rfl rfl) ?_
              refine lv (v := (.bool false)) rfl rfl (r_move rfl) ?_
              refine lp (b := false) 87 rfl rfl rfl rfl rfl ?_
              refine lp (b := false) 87 rfl rfl rfl rfl rfl ?_
              refine lv (v := (.bool false)) rfl rfl (r_pickF rfl rfl) ?_
              refine lv (v := (.bool false)) rfl rfl (r_move rfl) ?_
              refine lp (b := false) 91 rfl rfl rfl rfl rfl ?_
              refine lp (b := false) 91 rfl rfl rfl rfl rfl ?_
              refine lv (v := (.bool false)) rfl rfl (r_pickF rfl rfl) ?_
              refine lv (v := (.bool false)) rfl rfl (r_move rfl) ?_
              refine lp (b := false) 95 rfl rfl rfl rfl rfl ?_
              refine lp (b := false) 95 rfl rfl rfl rfl rfl ?_
              refine lp (b := false) 95 rfl rfl rfl rfl rfl ?_
              refine lp (b := false) 95 rfl rfl rfl rfl rfl ?_
              refine lv (v := (.bool false)) rfl rfl (r_pickF rfl rfl) ?_
              refine lv (v := (.bool false)) rfl rfl (r_move rfl) ?_
              refine lp (b := false) 101 rfl rfl rfl rfl rfl ?_
              refine lp (b := false) 101 rfl rfl rfl rfl rfl ?_
              refine lp (b := false) 101 rfl rfl rfl rfl rfl ?_
              refine lv (v := (.bool false)) rfl rfl (r_pickF rfl rfl) ?_
              refine lv (v := (.bool false)) rfl rfl (r_assign rfl) ?_
              refine lnil ?_
              exact ⟨col_67, false, hm, hst, rfl, rfl⟩
          · rw [if_neg hg_190] at hm
            replace hg_190 := Bool.eq_false_iff.2 hg_190
            refine lp (b := decide (r_38.2 = 0)) 57 rfl rfl rfl rfl (by rw [hg_190]; rfl) ?_
            refine lp (b := decide (r_38.2 = 0)) 57 rfl rfl rfl rfl (by rw [hg_190]; rfl) ?_
            refine lv (v := (.bool false)) rfl rfl (r_pickF (congrArg Value.bool hg_190) rfl) ?_
            refine lv (v := (.bool false)) rfl rfl (r_move rfl) ?_
            refine lp (b := false) 61 rfl rfl rfl rfl rfl ?_
            refine lp (b := false) 61 rfl rfl rfl rfl rfl ?_
            refine lv (v := (.bool false)) rfl rfl (r_pickF rfl rfl) ?_
            refine lv (v := (.bool false)) rfl rfl (r_move rfl) ?_
            refine lp (b := false) 65 rfl rfl rfl rfl rfl ?_
            refine lp (b := false) 65 rfl rfl rfl rfl rfl ?_
            refine lp (b := false) 65 rfl rfl rfl rfl rfl ?_
            refine lv (v := (.bool false)) rfl rfl (r_pickF rfl rfl) ?_
            refine lv (v := (.bool false)) rfl rfl (r_move rfl) ?_
            refine lp (b := false) 70 rfl rfl rfl rfl rfl ?_
            refine lp (b := false) 70 rfl rfl rfl rfl rfl ?_
            refine lp (b := false) 70 rfl rfl rfl rfl rfl ?_
            refine lv (v := (.bool false)) rfl rfl (r_pickF rfl rfl) ?_
            refine lv (v := (.bool false)) rfl rfl (r_move rfl) ?_
            refine lp (b := false) 75 rfl rfl rfl rfl rfl ?_
            refine lp (b := false) 75 rfl rfl rfl rfl rfl ?_
            refine lp (b := false) 75 rfl rfl rfl rfl rfl ?_
            refine lv (v := (.bool false)) rfl rfl (r_pickF rfl rfl) ?_
            refine lv (v := (.bool false)) rfl rfl (r_move rfl) ?_
            refine lp (b := false) 80 rfl rfl rfl rfl rfl ?_
            refine lp (b := false) 80 rfl rfl rfl rfl rfl ?_
            refine lp (b := false) 80 rfl rfl rfl rfl rfl ?_
            refine lp (b := false) 80 rfl rfl rfl rfl rfl ?_
            refine lp (b := false) 80 rfl rfl rfl rfl rfl ?_
            refine lv (v := (.bool false)) rfl rfl (r_pickF rfl rfl) ?_
            refine lv (v := (.bool false)) rfl rfl (r_move rfl) ?_
            refine lp (b := false) 87 rfl rfl rfl rfl rfl ?_
            refine lp (b := false) 87 rfl rfl rfl rfl rfl ?_
            refine lv (v := (.bool false)) rfl rfl (r_pickF rfl rfl) ?_
            refine lv (v := (.bool false)) rfl rfl (r_move rfl) ?_
            refine lp (b := false) 91 rfl rfl rfl rfl rfl ?_
            refine lp (b := false) 91 rfl rfl rfl rfl rfl ?_
            refine lv (v := (.bool false)) rfl rfl (r_pickF rfl rfl) ?_
            refine lv (v := (.bool false)) rfl rfl (r_move rfl) ?_
            refine lp (b := false) 95 rfl rfl rfl rfl rfl ?_
            refine lp (b := false) 95 rfl rfl rfl rfl rfl ?_
            refine lp (b := false) 95 rfl rfl rfl rfl rfl ?_
            refine lp (b := false) 95 rfl rfl rfl rfl rfl ?_
            refine lv (v := (.bool false)) rfl rfl (r_pickF rfl rfl) ?_
            refine lv (v := (.bool false)) rfl rfl (r_move rfl) ?_
            refine lp (b := false) 101 rfl rfl rfl rfl rfl ?_
            refine lp (b := false) 101 rfl rfl rfl rfl rfl ?_
            refine lp (b := false) 101 rfl rfl rfl rfl rfl ?_
            refine lv (v := (.bool false)) rfl rfl (r_pickF rfl rfl) ?_
            refine lv (v := (.bool false)) rfl rfl (r_assign rfl) ?_
            refine lnil ?_
            exact ⟨col_67, false, hm, hst, rfl, rfl⟩
        · rw [if_neg hg_189] at hm
          replace hg_189 := Bool.eq_false_iff.2 hg_189
          refine lp (b := decide (r_24.2 = 0)) 53 rfl rfl rfl rfl (by rw [hg_189]; rfl) ?_
          refine lp (b := decide (r_24.2 = 0)) 53 rfl rfl rfl rfl (by rw [hg_189]; rfl) ?_
          refine lv (v := (.bool false)) rfl rfl (r_pickF (congrArg Value.bool hg_189) rfl) ?_
          refine lv (v := (.bool false)) rfl rfl (r_move rfl) ?_
          refine lp (b := false) 57 rfl rfl rfl rfl rfl ?_
          refine lp (b := false) 57 rfl rfl rfl rfl rfl ?_
          refine lv (v := (.bool false)) rfl rfl (r_pickF rfl rfl) ?_
          refine lv (v := (.bool false)) rfl rfl (r_move rfl) ?_
          refine lp (b := false) 61 rfl rfl rfl rfl rfl ?_
          refine lp (b := false) 61 rfl rfl rfl rfl rfl ?_
          refine lv (v := (.bool false)) rfl rfl (r_pickF rfl rfl) ?_
          refine lv (v := (.bool false)) rfl rfl (r_move rfl) ?_
          refine lp (b := false) 65 rfl rfl rfl rfl rfl ?_
          refine lp (b := false) 65 rfl rfl rfl rfl rfl ?_
          refine lp (b := false) 65 rfl rfl rfl rfl rfl ?_
          refine lv (v := (.bool false)) rfl rfl (r_pickF rfl rfl) ?_
          refine lv (v := (.bool false)) rfl rfl (r_move rfl) ?_
          refine lp (b := false) 70 rfl rfl rfl rfl rfl ?_
          refine lp (b := false) 70 rfl rfl rfl rfl rfl ?_
          refine lp (b := false) 70 rfl rfl rfl rfl rfl ?_
          refine lv (v := (.bool false)) rfl rfl (r_pickF rfl rfl) ?_
          refine lv (v := (.bool false)) rfl rfl (r_move rfl) ?_
          refine lp (b := false) 75 rfl rfl rfl rfl rfl ?_
          refine lp (b := false) 75 rfl rfl rfl rfl rfl ?_
          refine lp (b := false) 75 rfl rfl rfl rfl rfl ?_
          refine lv (v := (.bool false)) rfl rfl (r_pickF rfl rfl) ?_
          refine lv (v := (.bool false)) rfl rfl (r_move rfl) ?_
          refine lp (b := false) 80 rfl rfl rfl rfl rfl ?_
          refine lp (b := false) 80 rfl rfl rfl rfl rfl ?_
          refine lp (b := false) 80 rfl rfl rfl rfl rfl ?_
          refine lp (b := false) 80 rfl rfl rfl rfl rfl ?_
          refine lp (b := false) 80 rfl rfl rfl rfl rfl ?_
          refine lv (v := (.bool false)) rfl rfl (r_pickF rfl rfl) ?_
          refine lv (v := (.bool false)) rfl rfl (r_move rfl) ?_
          refine lp (b := false) 87 rfl rfl rfl rfl rfl ?_
          refine lp (b := false) 87 rfl rfl rfl rfl rfl ?_
          refine lv (v := (.bool false)) rfl rfl (r_pickF rfl rfl) ?_
          refine lv (v := (.bool false)) rfl rfl (r_move rfl) ?_
          refine lp (b := false) 91 rfl rfl rfl rfl rfl ?_
          refine lp (b := false) 91 rfl rfl rfl rfl rfl ?_
          refine lv (v := (.bool false)) rfl rfl (r_pickF rfl rfl) ?_
          refine lv (v := (.bool false)) rfl rfl (r_move rfl) ?_
          refine lp (b := false) 95 rfl rfl rfl rfl rfl ?_
          refine lp (b := false) 95 rfl rfl rfl rfl rfl ?_
          refine lp (b := false) 95 rfl rfl rfl rfl rfl ?_
          refine lp (b := false) 95 rfl rfl rfl rfl rfl ?_
          refine lv (v := (.bool false)) rfl rfl (r_pickF rfl rfl) ?_
          refine lv (v := (.bool false)) rfl rfl (r_move rfl) ?_
          refine lp (b := false) 101 rfl rfl rfl rfl rfl ?_
          refine lp (b := false) 101 rfl rfl rfl rfl rfl ?_
          refine lp (b := false) 101 rfl rfl rfl rfl rfl ?_
          refine lv (v := (.bool false)) rfl rfl (r_pickF rfl rfl) ?_
          refine lv (v := (.bool false)) rfl rfl (r_assign rfl) ?_
          refine lnil ?_
          exact ⟨col_67, false, hm, hst, rfl, rfl⟩
  | some t_15 =>
    rw [hx_16] at hm rh_9
    replace hm := optC_some hm
    obtain ⟨o_17, rfl, hG_18⟩ := optP_some rh_9
    refine lv (v := (.tuple #[(.pointer (some ⟨o_17.g, 0, none⟩)), rv_10, (.bool r_6.2.2)])) rfl rfl (r_move rfl) ?_
    refine lv (v := (.pointer (some ⟨o_17.g, 0, none⟩))) rfl rfl (r_extract rfl rfl) ?_
    refine lv (v := rv_10) rfl rfl (r_extract rfl rfl) ?_
    refine lv (v := (.bool r_6.2.2)) rfl rfl (r_extract rfl rfl) ?_
    refine lv (v := (.pointer (some ⟨o_17.g, 0, none⟩))) rfl rfl (r_assign rfl) ?_
    refine lv (v := rv_10) rfl rfl (r_assign rfl) ?_
    refine lv (v := (.bool r_6.2.2)) rfl rfl (r_assign rfl) ?_
    refine lnil ?_
    refine wseq ?_
    refine wseq ?_
    refine wregion ?_
    refine lv (v := (.bool r_6.2.2)) rfl rfl (r_move rfl) ?_
    refine lv (v := (.bool (!r_6.2.2))) rfl rfl (r_not r_6.2.2 rfl) ?_
    refine lnil ?_
    refine wcond (!r_6.2.2) rfl (fun hb => ?_) (fun hb => ?_)
    · rw [if_pos hb] at hm
      clear hb
      refine wseq ?_
      refine wregion ?_
      refine lv (v := (.bool false)) rfl rfl (r_assign rfl) ?_
      refine lnil ?_
      refine wret ?_
      cases hm
      exact ⟨rfl, rfl, hst.below⟩
    · rw [if_neg (by rw [hb]; decide)] at hm
      clear hb
      refine wskip ?_
      refine wseq ?_
      refine wregion ?_
      refine lv (v := (.pointer (some ⟨o_17.g, 0, none⟩))) rfl rfl (r_move rfl) ?_
      refine l_lit (col := col_14) (r := (Rep.int .i64)) (xs := [0, 1, 2, 3, 4]) [(.int .i64 0), (.int .i64 1), (.int .i64 2), (.int .i64 3), (.int .i64 4)] 26 rfl Try.underlying22 el3_29 rfl rfl rfl rfl rfl rfl (by intro v hv; simp only [List.mem_cons, List.not_mem_nil, or_false] at hv; rcases hv with rfl | rfl | rfl | rfl | rfl <;> rfl) (RowsH.ofF (Rows.consF (r := (Rep.int .i64)) (x := 0) (cs := [(.int .i64 0)]) (rd_int .i64 0) (Rows.consF (r := (Rep.int .i64)) (x := 1) (cs := [(.int .i64 1)]) (rd_int .i64 1) (Rows.consF (r := (Rep.int .i64)) (x := 2) (cs := [(.int .i64 2)]) (rd_int .i64 2) (Rows.consF (r := (Rep.int .i64)) (x := 3) (cs := [(.int .i64 3)]) (rd_int .i64 3) (Rows.consF (r := (Rep.int .i64)) (x := 4) (cs := [(.int .i64 4)]) (rd_int .i64 4) Rows.nil0)))))) ?_
      intro a_248 w_249 col_250 hg_251 h_252
      replace hG_18 := hG_18.gr hg_251
      replace hst := hst.grow hg_251
      obtain ⟨r_253, hr_254, hm⟩ := bind_some hm
      refine lc rfl rfl (r_call2 Try.call32 rfl rfl) (c_order_Fill N 27 (frC 26 col_250) _ 2 (by decide) o_17 t_15 a_248 5 [0, 1, 2, 3, 4] (hG_18.froz 26 (by decide)) (h_252.toSlF (Froz.int .i64)) r_253 hr_254) ?_
      rintro _ w_258 ⟨col_260, ra_255, rc_256, rfl, hg_259, rh_257⟩
      refine ⟨_, rfl, ?_⟩
      replace rh_257 := rh_257.thaw (flat_int .i64) hg_259 ((Fz.refl (col := col_250)).froz 26) (by decide)
      replace hg_259 := hg_259.thawR (col := col_250)
      generalize colR w_249.heap.size col_250 col_260 = col_261 at *
      replace hG_18 := hG_18.gr hg_259
      replace h_252 := h_252.gr hg_259
      replace hst := hst.grow hg_259
      refine lv (v := (.tuple #[(.slice ra_255 r_253.1.length rc_256), (.int .i64 r_253.2)])) rfl rfl (r_move rfl) ?_
      refine lv (v := (.slice ra_255 r_253.1.length rc_256)) rfl rfl (r_extract rfl rfl) ?_
      refine lv (v := (.int .i64 r_253.2)) rfl rfl (r_extract rfl rfl) ?_
      refine lv (v := (.slice ra_255 r_253.1.length rc_256)) rfl rfl (r_assign rfl) ?_
      refine lv (v := (.int .i64 r_253.2)) rfl rfl (r_assign rfl) ?_
      refine lnil ?_
      refine wseq ?_
      refine wregion ?_
      refine lv (v := (.pointer (some ⟨o_17.g, 0, none⟩))) rfl rfl (r_move rfl) ?_
      refine l_lit (col := col_261) (r := (Rep.int .i64)) (xs := [3, 1]) [(.int .i64 3), (.int .i64 1)] 28 rfl Try.underlying22 el3_29 rfl rfl rfl rfl rfl rfl (by intro v hv; simp only [List.mem_cons, List.not_mem_nil, or_false] at hv; rcases hv with rfl | rfl <;> rfl) (RowsH.ofF (Rows.consF (r := (Rep.int .i64)) (x := 3) (cs := [(.int .i64 3)]) (rd_int .i64 3) (Rows.consF (r := (Rep.int .i64)) (x := 1) (cs := [(.int .i64 1)]) (rd_int .i64 1) Rows.nil0))) ?_
      intro a_262 w_263 col_264 hg_265 h_266
      replace hG_18 := hG_18.gr hg_265
      replace rh_257 := rh_257.gr hg_265
      replace hst := hst.grow hg_265
      obtain ⟨r_267, hr_268, hm⟩ := bind_some hm
      refine lc rfl rfl (r_call2 Try.call33 rfl rfl) (c_order_Degree N 29 (frC 28 col_264) _ 2 (by decide) o_17 t_15 a_262 2 [3, 1] (hG_18.froz 28 (by decide)) (h_266.toSlF (Froz.int .i64)) r_267 hr_268) ?_
      rintro _ w_272 ⟨col_274, ra_269, rc_270, rfl, hg_273, rh_271⟩
      refine ⟨_, rfl, ?_⟩
      replace rh_271 := rh_271.thaw (flat_int .i64) hg_273 ((Fz.refl (col := col_264)).froz 28) (by decide)
      replace hg_273 := hg_273.thawR (col := col_264)
      generalize colR w_263.heap.size col_264 col_274 = col_275 at *
      replace hG_18 := hG_18.gr hg_273
      replace rh_257 := rh_257.gr hg_273
      replace h_266 := h_266.gr hg_273
      replace hst := hst.grow hg_273
      refine lv (v := (.tuple #[(.slice ra_269 r_267.1.length rc_270), (.int .i64 r_267.2)])) rfl rfl (r_move rfl) ?_
      refine lv (v := (.slice ra_269 r_267.1.length rc_270)) rfl rfl (r_extract rfl rfl) ?_
      refine lv (v := (.int .i64 r_267.2)) rfl rfl (r_extract rfl rfl) ?_
      refine lv (v := (.slice ra_269 r_267.1.length rc_270)) rfl rfl (r_assign rfl) ?_
      refine lv (v := (.int .i64 r_267.2)) rfl rfl (r_assign rfl) ?_
      refine lnil ?_
      refine wseq ?_
      refine wregion ?_
      refine lv (v := (.pointer (some ⟨o_17.g, 0, none⟩))) rfl rfl (r_move rfl) ?_
      refine lv (v := (.slice ra_255 r_253.1.length rc_256)) rfl rfl (r_move rfl) ?_
      obtain ⟨r_276, hr_277, hm⟩ := bind_some hm
      refine lc rfl rfl (r_call2 Try.call40 rfl rfl) (c_order_Cliques N 30 (frC 27 col_275) _ 2 (by decide) o_17 t_15 ra_255 rc_256 r_253.1 (hG_18.froz 27 (by decide)) (rh_257.toSlF (Froz.int .i64)) r_276 hr_277) ?_
      rintro _ w_281 ⟨col_283, ra_278, rc_279, rfl, hg_282, rh_280⟩
      refine ⟨_, rfl, ?_⟩
      replace rh_280 := rh_280.thaw (flat_row (flat_int .i64)) hg_282 ((Fz.refl (col := col_275)).froz 27) (by decide)
      replace hg_282 := hg_282.thawR (col := col_275)
      generalize colR w_272.heap.size col_275 col_283 = col_284 at *
      replace hG_18 := hG_18.gr hg_282
      replace rh_257 := rh_257.gr hg_282
      replace rh_271 := rh_271.gr hg_282
      replace hst := hst.grow hg_282
      refine lv (v := (.tuple #[(.slice ra_278 r_276.1.length rc_279), (.int .i64 r_276.2)])) rfl rfl (r_move rfl) ?_
      refine lv (v := (.slice ra_278 r_276.1.length rc_279)) rfl rfl (r_extract rfl rfl) ?_
      refine lv (v := (.int .i64 r_276.2)) rfl rfl (r_extract rfl rfl) ?_
      refine lv (v := (.slice ra_278 r_276.1.length rc_279)) rfl rfl (r_assign rfl) ?_
      refine lv (v := (.int .i64 r_276.2)) rfl rfl (r_assign rfl) ?_
      refine lnil ?_
      refine wseq ?_
      refine wregion ?_
      refine lv (v := (.pointer (some ⟨o_17.g, 0, none⟩))) rfl rfl (r_move rfl) ?_
      refine lv (v := (.slice ra_255 r_253.1.length rc_256)) rfl rfl (r_move rfl) ?_
      obtain ⟨r_285, hr_286, hm⟩ := bind_some hm
      refine lc rfl rfl (r_call2 Try.call42 rfl rfl) (c_order_Width N (frC 27 col_284) _ 2 (by decide) o_17 t_15 ra_255 rc_256 r_253.1 (hG_18.froz 27 (by decide)) (rh_257.toSlF (Froz.int .i64)) r_285 hr_286) ?_
      rintro _ w_287 ⟨rfl, hg_288⟩
      refine ⟨_, rfl, ?_⟩
      replace hg_288 : Grow col_284 w_281 col_284 w_287 := .of_below hg_288
      replace rh_257 := rh_257.gr hg_288
      replace rh_271 := rh_271.gr hg_288
      replace rh_280 := rh_280.gr hg_288
      replace hG_18 := hG_18.gr hg_288
      replace hst := hst.grow hg_288
      refine lv (v := (.tuple #[(.int .i64 r_285.1), (.int .i64 r_285.2)])) rfl rfl (r_move rfl) ?_
      refine lv (v := (.int .i64 r_285.1)) rfl rfl (r_extract rfl rfl) ?_
      refine lv (v := (.int .i64 r_285.2)) rfl rfl (r_extract rfl rfl) ?_
      refine lv (v := (.int .i64 r_285.1)) rfl rfl (r_assign rfl) ?_
      refine lv (v := (.int .i64 r_285.2)) rfl rfl (r_assign rfl) ?_
      refine lnil ?_
      refine wseq ?_
      refine wregion ?_
      obtain ⟨r_289, hr_290, hm⟩ := bind_some hm
      refine lc rfl rfl (r_call2 Try.call32 rfl rfl) (c_order_Fill_v0n N 31 col_284 _ none 0 ([] : List Int) Sl.nil r_289 hr_290) ?_
      rintro _ w_294 ⟨col_296, ra_291, rc_292, rfl, hg_295, rh_293⟩
      refine ⟨_, rfl, ?_⟩
      replace rh_257 := rh_257.gr hg_295
      replace rh_271 := rh_271.gr hg_295
      replace rh_280 := rh_280.gr hg_295
      replace hst := hst.grow hg_295
      refine lv (v := (.tuple #[(.slice ra_291 r_289.1.length rc_292), (.int .i64 r_289.2)])) rfl rfl (r_move rfl) ?_
      refine lv (v := (.slice ra_291 r_289.1.length rc_292)) rfl rfl (r_extract rfl rfl) ?_
      refine lv (v := (.int .i64 r_289.2)) rfl rfl (r_extract rfl rfl) ?_
      refine lv (v := (.slice ra_291 r_289.1.length rc_292)) rfl rfl (r_assign rfl) ?_
      refine lv (v := (.int .i64 r_289.2)) rfl rfl (r_assign rfl) ?_
      refine lnil ?_
      refine wseq ?_
      refine Wp.cut (fun f w_415 => ∃ (col_416 : Col) (v_417 : Bool), m_credencelaw18_awake_J2 v_417 = some r ∧ St w0 (col0 col) col_416 w_415 ∧ f 0 = (.bool v_417) ∧ f 1000000 = (enc [])) ?_ ?_
      · intro f w_415 hJ
        obtain ⟨col_416, v_417, hm, hst, hs0, hs1000000⟩ := hJ
        rw [m_credencelaw18_awake_J2.eq_1] at hm
        refine .ld (d := 0) (v := (.bool v_417)) hs0 ?_
        refine .ld (d := 1000000) (v := (enc [])) hs1000000 ?_
        clear hs0 hs1000000
        refine wret ?_
        cases hm
        exact ⟨rfl, rfl, hst.below⟩
      · refine wregion ?_
        refine lv (v := (.int .i64 r_253.2)) rfl rfl (r_move rfl) ?_
        refine lv (v := (.bool (decide (r_253.2 = 0)))) rfl rfl (r_eql r_253.2 0 rfl rfl) ?_
        refine lv (v := (.bool (decide (r_253.2 = 0)))) rfl rfl (r_move rfl) ?_
        by_cases hg_418 : (decide (r_253.2 = 0)) = true
        · rw [if_pos hg_418] at hm
          refine lg (b := decide (r_253.2 = 0)) 53 rfl rfl rfl (by rw [hg_418]; rfl) ?_
          refine lv (v := (.int .i64 r_267.2)) rfl rfl (r_move rfl) ?_
          refine lg (b := decide (r_253.2 = 0)) 53 rfl rfl rfl (by rw [hg_418]; rfl) ?_
          refine lv (v := (.bool (decide (r_267.2 = 0)))) rfl rfl (r_eql r_267.2 0 rfl rfl) ?_
          refine lv (v := (.bool (decide (r_267.2 = 0)))) rfl rfl (r_pickT (congrArg Value.bool hg_418) rfl) ?_
          refine lv (v := (.bool (decide (r_267.2 = 0)))) rfl rfl (r_move rfl) ?_
          by_cases hg_419 : (decide (r_267.2 = 0)) = true
          · rw [if_pos hg_419] at hm
            refine lg (b := decide (r_267.2 = 0)) 57 rfl rfl rfl (by rw [hg_419]; rfl) ?_
            refine lv (v := (.int .i64 r_276.2)) rfl rfl (r_move rfl) ?_
            refine lg (b := decide (r_267.2 = 0)) 57 rfl rfl rfl (by rw [hg_419]; rfl) ?_
            refine lv (v := (.bool (decide (r_276.2 = 0)))) rfl rfl (r_eql r_276.2 0 rfl rfl) ?_
            refine lv (v := (.bool (decide (r_276.2 = 0)))) rfl rfl (r_pickT (congrArg Value.bool hg_419) rfl) ?_
            refine lv (v := (.bool (decide (r_276.2 = 0)))) rfl rfl (r_move rfl) ?_
            by_cases hg_420 : (decide (r_276.2 = 0)) = true
            · rw [if_pos hg_420] at hm
              refine lg (b := decide (r_276.2 = 0)) 61 rfl rfl rfl (by rw [hg_420]; rfl) ?_
              refine lv (v := (.int .i64 r_285.2)) rfl rfl (r_move rfl) ?_
              refine lg (b := decide (r_276.2 = 0)) 61 rfl rfl rfl (by rw [hg_420]; rfl) ?_
              refine lv (v := (.bool (decide (r_285.2 = 0)))) rfl rfl (r_eql r_285.2 0 rfl rfl) ?_
              refine lv (v := (.bool (decide (r_285.2 = 0)))) rfl rfl (r_pickT (congrArg Value.bool hg_420) rfl) ?_
              refine lv (v := (.bool (decide (r_285.2 = 0)))) rfl rfl (r_move rfl) ?_
              by_cases hg_421 : (decide (r_285.2 = 0)) = true
              · rw [if_pos hg_421] at hm
                refine lg (b := decide (r_285.2 = 0)) 65 rfl rfl rfl (by rw [hg_421]; rfl) ?_
                refine lv (v := (.slice ra_255 r_253.1.length rc_256)) rfl rfl (r_move rfl) ?_
                refine lg (b := decide (r_285.2 = 0)) 65 rfl rfl rfl (by rw [hg_421]; rfl) ?_
                refine l_lit (col := col_296) (r := (Rep.int .i64)) (xs := [4, 0, 1, 2, 3]) [(.int .i64 4), (.int .i64 0), (.int .i64 1), (.int .i64 2), (.int .i64 3)] 42 rfl Try.underlying22 el3_29 rfl rfl rfl rfl rfl rfl (by intro v hv; simp only [List.mem_cons, List.not_mem_nil, or_false] at hv; rcases hv with rfl | rfl | rfl | rfl | rfl <;> rfl) (RowsH.ofF (Rows.consF (r := (Rep.int .i64)) (x := 4) (cs := [(.int .i64 4)]) (rd_int .i64 4) (Rows.consF (r := (Rep.int .i64)) (x := 0) (cs := [(.int .i64 0)]) (rd_int .i64 0) (Rows.consF (r := (Rep.int .i64)) (x := 1) (cs := [(.int .i64 1)]) (rd_int .i64 1) (Rows.consF (r := (Rep.int .i64)) (x := 2) (cs := [(.int .i64 2)]) (rd_int .i64 2) (Rows.consF (r := (Rep.int .i64)) (x := 3) (cs := [(.int .i64 3)]) (rd_int .i64 3) Rows.nil0)))))) ?_
                intro a_422 w_423 col_424 hg_425 h_426
                replace rh_271 := rh_271.gr hg_425
                replace rh_280 := rh_280.gr hg_425
                replace rh_257 := rh_257.gr hg_425
                replace hst := hst.grow hg_425
                refine lg (b := decide (r_285.2 = 0)) 65 rfl rfl rfl (by rw [hg_421]; rfl) ?_
                obtain ⟨r_427, hr_428, hm⟩ := bind_some hm
                refine lc rfl rfl (r_call2 Try.call36 rfl rfl) (c_credenceref15_Ints N (frC 42 (frC 27 col_424)) _ ra_255 rc_256 r_253.1 a_422 5 [4, 0, 1, 2, 3] ((rh_257.toSlF (Froz.int .i64)).froz 42) ((h_426.froz 27 (by decide)).toSlF (Froz.int .i64)) r_427 hr_428) ?_
                rintro _ w_429 ⟨rfl, hg_430⟩
                refine ⟨_, rfl, ?_⟩
                replace hg_430 : Grow col_424 w_423 col_424 w_429 := .of_below hg_430
                replace rh_271 := rh_271.gr hg_430
                replace rh_280 := rh_280.gr hg_430
                replace rh_257 := rh_257.gr hg_430
                replace h_426 := h_426.gr hg_430
                replace hst := hst.grow hg_430
                refine lv (v := (.bool r_427)) rfl rfl (r_pickT (congrArg Value.bool hg_421) rfl) ?_
                refine lv (v := (.bool r_427)) rfl rfl (r_move rfl) ?_
                by_cases hg_431 : r_427 = true
                · rw [if_pos hg_431] at hm
                  refine lg (b := r_427) 70 rfl rfl rfl (by rw [hg_431]; rfl) ?_
                  refine lv (v := (.slice ra_269 r_267.1.length rc_270)) rfl rfl (r_move rfl) ?_
                  refine lg (b := r_427) 70 rfl rfl rfl (by rw [hg_431]; rfl) ?_
                  refine l_lit (col := col_424) (r := (Rep.int .i64)) (xs := [1, 3]) [(.int .i64 1), (.int .i64 3)] 43 rfl Try.underlying22 el3_29 rfl rfl rfl rfl rfl rfl (by intro v hv; simp only [List.mem_cons, List.not_mem_nil, or_false] at hv; rcases hv with rfl | rfl <;> rfl) (RowsH.ofF (Rows.consF (r := (Rep.int .i64)) (x := 1) (cs := [(.int .i64 1)]) (rd_int .i64 1) (Rows.consF (r := (Rep.int .i64)) (x := 3) (cs := [(.int .i64 3)]) (rd_int .i64 3) Rows.nil0))) ?_
                  intro a_432 w_433 col_434 hg_435 h_436
                  replace rh_280 := rh_280.gr hg_435
                  replace rh_271 := rh_271.gr hg_435
                  replace hst := hst.grow hg_435
                  refine lg (b := r_427) 70 rfl rfl rfl (by rw [hg_431]; rfl) ?_
                  obtain ⟨r_437, hr_438, hm⟩ := bind_some hm
                  refine lc rfl rfl (r_call2 Try.call36 rfl rfl) (c_credenceref15_Ints N (frC 43 (frC 29 col_434)) _ ra_269 rc_270 r_267.1 a_432 2 [1, 3] ((rh_271.toSlF (Froz.int .i64)).froz 43) ((h_436.froz 29 (by decide)).toSlF (Froz.int .i64)) r_437 hr_438) ?_
                  rintro _ w_439 ⟨rfl, hg_440⟩
                  refine ⟨_, rfl, ?_⟩
                  replace hg_440 : Grow col_434 w_433 col_434 w_439 := .of_below hg_440
                  replace rh_280 := rh_280.gr hg_440
                  replace rh_271 := rh_271.gr hg_440
                  replace h_436 := h_436.gr hg_440
                  replace hst := hst.grow hg_440
                  refine lv (v := (.bool r_437)) rfl rfl (r_pickT (congrArg Value.bool hg_431) rfl) ?_
                  refine lv (v := (.bool r_437)) rfl rfl (r_move rfl) ?_
                  by_cases hg_441 : r_437 = true
                  · rw [if_pos hg_441] at hm
                    refine lg (b := r_437) 75 rfl rfl rfl (by rw [hg_441]; rfl) ?_
                    refine lv (v := (.slice ra_278 r_276.1.length rc_279)) rfl rfl (r_move rfl) ?_
                    refine lg (b := r_437) 75 rfl rfl rfl (by rw [hg_441]; rfl) ?_
                    refine lv (v := (.int .i64 (r_276.1.length : Int))) rfl rfl (r_len Try.underlying33 rfl) ?_
                    refine lg (b := r_437) 75 rfl rfl rfl (by rw [hg_441]; rfl) ?_
                    refine lv (v := (.bool (decide ((r_276.1.length : Int) = 5)))) rfl rfl (r_eql (r_276.1.length : Int) 5 rfl rfl) ?_
                    refine lv (v := (.bool (decide ((r_276.1.length : Int) = 5)))) rfl rfl (r_pickT (congrArg Value.bool hg_441) rfl) ?_
                    refine lv (v := (.bool (decide ((r_276.1.length : Int) = 5)))) rfl rfl (r_move rfl) ?_
                    by_cases hg_442 : (decide ((r_276.1.length : Int) = 5)) = true
                    · rw [if_pos hg_442] at hm
                      refine lg (b := decide ((r_276.1.length : Int) = 5)) 80 rfl rfl rfl (by rw [hg_442]; rfl) ?_
                      refine lv (v := (.slice ra_278 r_276.1.length rc_279)) rfl rfl (r_move rfl) ?_
                      refine lg (b := decide ((r_276.1.length : Int) = 5)) 80 rfl rfl rfl (by rw [hg_442]; rfl) ?_
                      obtain ⟨e_443, hj_444, hm⟩ := bind_some hm
                      refine lv (v := (sptr ra_278 (Int.toNat 1 * 1))) rfl rfl (r_idx Try.underlying33 Try.sizeOf22 rfl rfl (at?_some hj_444).1 (at?_some hj_444).2.1 (rh_280.addr hj_444)) ?_
                      refine lg (b := decide ((r_276.1.length : Int) = 5)) 80 rfl rfl rfl (by rw [hg_442]; rfl) ?_
                      obtain ⟨_, hr_445, hA_446⟩ := rh_280.atN hj_444
                      obtain ⟨a_447, cap_448, rfl, h_449⟩ := hr_445.row
                      refine lv (v := (.slice a_447 e_443.length cap_448)) rfl rfl (r_ld Try.isAgg22 rfl hA_446.one) ?_
                      refine lg (b := decide ((r_276.1.length : Int) = 5)) 80 rfl rfl rfl (by rw [hg_442]; rfl) ?_
                      refine lv (v := (.int .i64 (e_443.length : Int))) rfl rfl (r_len Try.underlying22 rfl) ?_
                      refine lg (b := decide ((r_276.1.length : Int) = 5)) 80 rfl rfl rfl (by rw [hg_442]; rfl) ?_
                      refine lv (v := (.bool (decide ((e_443.length : Int) = 3)))) rfl rfl (r_eql (e_443.length : Int) 3 rfl rfl) ?_
                      refine lv (v := (.bool (decide ((e_443.length : Int) = 3)))) rfl rfl (r_pickT (congrArg Value.bool hg_442) rfl) ?_
                      refine lv (v := (.bool (decide ((e_443.length : Int) = 3)))) rfl rfl (r_move rfl) ?_
                      by_cases hg_450 : (decide ((e_443.length : Int) = 3)) = true
                      · rw [if_pos hg_450] at hm
                        refine lg (b := decide ((e_443.length : Int) = 3)) 87 rfl rfl rfl (by rw [hg_450]; rfl) ?_
                        refine lv (v := (.int .i64 r_285.1)) rfl rfl (r_move rfl) ?_
                        refine lg (b := decide ((e_443.length : Int) = 3)) 87 rfl rfl rfl (by rw [hg_450]; rfl) ?_
                        refine lv (v := (.bool (decide (r_285.1 = 2)))) rfl rfl (r_eql r_285.1 2 rfl rfl) ?_
                        refine lv (v := (.bool (decide (r_285.1 = 2)))) rfl rfl (r_pickT (congrArg Value.bool hg_450) rfl) ?_
                        refine lv (v := (.bool (decide (r_285.1 = 2)))) rfl rfl (r_move rfl) ?_
                        by_cases hg_451 : (decide (r_285.1 = 2)) = true
                        · rw [if_pos hg_451] at hm
                          refine lg (b := decide (r_285.1 = 2)) 91 rfl rfl rfl (by rw [hg_451]; rfl) ?_
                          refine lv (v := (.int .i64 r_289.2)) rfl rfl (r_move rfl) ?_
                          refine lg (b := decide (r_285.1 = 2)) 91 rfl rfl rfl (by rw [hg_451]; rfl) ?_
                          refine lv (v := (.bool (decide (r_289.2 = 2)))) rfl rfl (r_eql r_289.2 2 rfl rfl) ?_
                          refine lv (v := (.bool (decide (r_289.2 = 2)))) rfl rfl (r_pickT (congrArg Value.bool hg_451) rfl) ?_
                          refine lv (v := (.bool (decide (r_289.2 = 2)))) rfl rfl (r_move rfl) ?_
                          by_cases hg_452 : (decide (r_289.2 = 2)) = true
                          · rw [if_pos hg_452] at hm
                            refine lg (b := decide (r_289.2 = 2)) 95 rfl rfl rfl (by rw [hg_452]; rfl) ?_
                            refine l_lit (col := col_434) (r := (Rep.int .i64)) (xs := [2, 0, 1]) [(.int .i64 2), (.int .i64 0), (.int .i64 1)] 44 rfl Try.underlying22 el3_29 rfl rfl rfl rfl rfl rfl (by intro v hv; simp only [List.mem_cons, List.not_mem_nil, or_false] at hv; rcases hv with rfl | rfl | rfl <;> rfl) (RowsH.ofF (Rows.consF (r := (Rep.int .i64)) (x := 2) (cs := [(.int .i64 2)]) (rd_int .i64 2) (Rows.consF (r := (Rep.int .i64)) (x := 0) (cs := [(.int .i64 0)]) (rd_int .i64 0) (Rows.consF (r := (Rep.int .i64)) (x := 1) (cs := [(.int .i64 1)]) (rd_int .i64 1) Rows.nil0)))) ?_
                            intro a_453 w_454 col_455 hg_456 h_457
                            replace hst := hst.grow hg_456
                            refine lg (b := decide (r_289.2 = 2)) 95 rfl rfl rfl (by rw [hg_452]; rfl) ?_
                            refine l_lit (col := col_455) (r := (Rep.int .i64)) (xs := [0, 1, 2]) [(.int .i64 0), (.int .i64 1), (.int .i64 2)] 45 rfl Try.underlying22 el3_29 rfl rfl rfl rfl rfl rfl (by intro v hv; simp only [List.mem_cons, List.not_mem_nil, or_false] at hv; rcases hv with rfl | rfl | rfl <;> rfl) (RowsH.ofF (Rows.consF (r := (Rep.int .i64)) (x := 0) (cs := [(.int .i64 0)]) (rd_int .i64 0) (Rows.consF (r := (Rep.int .i64)) (x := 1) (cs := [(.int .i64 1)]) (rd_int .i64 1) (Rows.consF (r := (Rep.int .i64)) (x := 2) (cs := [(.int .i64 2)]) (rd_int .i64 2) Rows.nil0)))) ?_
                            intro a_458 w_459 col_460 hg_461 h_462
                            replace h_457 := h_457.gr hg_461
                            replace hst := hst.grow hg_461
                            refine lg (b := decide (r_289.2 = 2)) 95 rfl rfl rfl (by rw [hg_452]; rfl) ?_
                            obtain ⟨r_463, hr_464, hm⟩ := bind_some hm
                            refine lc rfl rfl (r_call2 Try.call45 rfl rfl) (c_order_Check (frC 45 (frC 44 col_460)) _ a_453 3 [2, 0, 1] a_458 3 [0, 1, 2] ((h_457.toSlF (Froz.int .i64)).froz 45) ((h_462.froz 44 (by decide)).toSlF (Froz.int .i64)) r_463 hr_464) ?_
                            rintro _ w_465 ⟨rfl, hg_466⟩
                            refine ⟨_, rfl, ?_⟩
                            replace hg_466 : Grow col_460 w_459 col_460 w_465 := .of_below hg_466
                            replace h_457 := h_457.gr hg_466
                            replace h_462 := h_462.gr hg_466
                            replace hst := hst.grow hg_466
                            refine lg (b := decide (r_289.2 = 2)) 95 rfl rfl rfl (by rw [hg_452]; rfl) ?_
                            refine lv (v := (.bool (decide (r_463 = 0)))) rfl rfl (r_eql r_463 0 rfl rfl) ?_
                            refine lv (v := (.bool (decide (r_463 = 0)))) rfl rfl (r_pickT (congrArg Value.bool hg_452) rfl) ?_
                            refine lv (v := (.bool (decide (r_463 = 0)))) rfl rfl (r_move rfl) ?_
                            by_cases hg_467 : (decide (r_463 = 0)) = true
                            · rw [if_pos hg_467] at hm
                              refine lg (b := decide (r_463 = 0)) 101 rfl rfl rfl (by rw [hg_467]; rfl) ?_
                              refine l_lit (col := col_460) (r := (Rep.int .i64)) (xs := [0]) [(.int .i64 0)] 46 rfl Try.underlying22 el3_29 rfl rfl rfl rfl rfl rfl (by intro v hv; simp only [List.mem_cons, List.not_mem_nil, or_false] at hv; subst hv; rfl) (RowsH.ofF (Rows.consF (r := (Rep.int .i64)) (x := 0) (cs := [(.int .i64 0)]) (rd_int .i64 0) Rows.nil0)) ?_
                              intro a_468 w_469 col_470 hg_471 h_472
                              replace hst := hst.grow hg_471
                              refine lg (b := decide (r_463 = 0)) 101 rfl rfl rfl (by rw [hg_467]; rfl) ?_
                              obtain ⟨r_473, hr_474, hm⟩ := bind_some hm
                              refine lc rfl rfl (r_call2 Try.call45 rfl rfl) (c_order_Check (frC 46 col_470) _ a_468 1 [0] none 0 ([] : List Int) (h_472.toSlF (Froz.int .i64)) Sl.nil r_473 hr_474) ?_
                              rintro _ w_475 ⟨rfl, hg_476⟩
                              refine ⟨_, rfl, ?_⟩
                              replace hg_476 : Grow col_470 w_469 col_470 w_475 := .of_below hg_476
                              replace h_472 := h_472.gr hg_476
                              replace hst := hst.grow hg_476
                              refine lg (b := decide (r_463 = 0)) 101 rfl rfl rfl (by rw [hg_467]; rfl) ?_
                              refine lv (v := (.bool (decide (r_473 = 51)))) rfl rfl (r_eql r_473 51 rfl rfl) ?_
                              refine lv (v := (.bool (decide (r_473 = 51)))) rfl rfl (r_pickT (congrArg Value.bool hg_467) rfl) ?_
                              refine lv (v := (.bool (decide (r_473 = 51)))) rfl rfl (r_assign rfl) ?_
                              refine lnil ?_
                              exact ⟨col_470, (decide (r_473 = 51)), hm, hst, rfl, rfl⟩
                            · rw [if_neg hg_467] at hm
                              replace hg_467 := Bool.eq_false_iff.2 hg_467
                              refine lp (b := decide (r_463 = 0)) 101 rfl rfl rfl rfl (by rw [hg_467]; rfl) ?_
                              refine lp (b := decide (r_463 = 0)) 101 rfl rfl rfl rfl (by rw [hg_467]; rfl) ?_
                              refine lp (b := decide (r_463 = 0)) 101 rfl rfl rfl rfl (by rw [hg_467]; rfl) ?_
                              refine lv (v := (.bool false)) rfl rfl (r_pickF (congrArg Value.bool hg_467) rfl) ?_
                              refine lv (v := (.bool false)) rfl rfl (r_assign rfl) ?_
                              refine lnil ?_
                              exact ⟨col_460, false, hm, hst, rfl, rfl⟩
                          · rw [if_neg hg_452] at hm
                            replace hg_452 := Bool.eq_false_iff.2 hg_452
                            refine lp (b := decide (r_289.2 = 2)) 95 rfl rfl rfl rfl (by rw [hg_452]; rfl) ?_
                            refine lp (b := decide (r_289.2 = 2)) 95 rfl rfl rfl rfl (by rw [hg_452]; rfl) ?_
                            refine lp (b := decide (r_289.2 = 2)) 95 rfl rfl rfl rfl (by rw [hg_452]; rfl) ?_
                            refine lp (b := decide (r_289.2 = 2)) 95 rfl rfl rfl rfl (by rw [hg_452]; rfl) ?_
                            refine lv (v := (.bool false)) rfl rfl (r_pickF (congrArg Value.bool hg_452) rfl) ?_
                            refine lv (v := (.bool false)) rfl rfl (r_move rfl) ?_
                            refine lp (b := false) 101 rfl rfl rfl rfl rfl ?_
                            refine lp (b := false) 101 rfl rfl rfl rfl rfl ?_
                            refine lp (b := false) 101 rfl rfl rfl rfl rfl ?_
                            refine lv (v := (.bool false)) rfl rfl (r_pickF rfl rfl) ?_
                            refine lv (v := (.bool false)) rfl rfl (r_assign rfl) ?_
                            refine lnil ?_
                            exact ⟨col_434, false, hm, hst, rfl, rfl⟩
                        · rw [if_neg hg_451] at hm
                          replace hg_451 := Bool.eq_false_iff.2 hg_451
                          refine lp (b := decide (r_285.1 = 2)) 91 rfl rfl rfl rfl (by rw [hg_451]; rfl) ?_
                          refine lp (b := decide (r_285.1 = 2)) 91 rfl rfl rfl rfl (by rw [hg_451]; rfl) ?_
                          refine lv (v := (.bool false)) rfl rfl (r_pickF (congrArg Value.bool hg_451) rfl) ?_
                          refine lv (v := (.bool false)) rfl rfl (r_move rfl) ?_
                          refine lp (b := false) 95 rfl rfl rfl rfl rfl ?_
                          refine lp (b := false) 95 rfl rfl rfl rfl rfl ?_
                          refine lp (b := false) 95 rfl rfl rfl rfl rfl ?_
                          refine lp (b := false) 95 rfl rfl rfl rfl rfl ?_
                          refine lv (v := (.bool false)) rfl rfl (r_pickF rfl rfl) ?_
                          refine lv (v := (.bool false)) rfl rfl (r_move rfl) ?_
                          refine lp (b := false) 101 rfl rfl rfl rfl rfl ?_
                          refine lp (b := false) 101 rfl rfl rfl rfl rfl ?_
                          refine lp (b := false) 101 rfl rfl rfl rfl rfl ?_
                          refine lv (v := (.bool false)) rfl rfl (r_pickF rfl rfl) ?_
                          refine lv (v := (.bool false)) rfl rfl (r_assign rfl) ?_
                          refine lnil ?_
                          exact ⟨col_434, false, hm, hst, rfl, rfl⟩
                      · rw [if_neg hg_450] at hm
                        replace hg_450 := Bool.eq_false_iff.2 hg_450
                        refine lp (b := decide ((e_443.length : Int) = 3)) 87 rfl rfl rfl rfl (by rw [hg_450]; rfl) ?_
                        refine lp (b := decide ((e_443.length : Int) = 3)) 87 rfl rfl rfl rfl (by rw [hg_450]; rfl) ?_
                        refine lv (v := (.bool false)) rfl rfl (r_pickF (congrArg Value.bool hg_450) rfl) ?_
                        refine lv (v := (.bool false)) rfl rfl (r_move rfl) ?_
                        refine lp (b := false) 91 rfl rfl rfl rfl rfl ?_
                        refine lp (b := false) 91 rfl rfl rfl rfl rfl ?_
                        refine lv (v := (.bool false)) rfl rfl (r_pickF rfl rfl) ?_
                        refine lv (v := (.bool false)) rfl rfl (r_move rfl) ?_
                        refine lp (b := false) 95 rfl rfl rfl rfl rfl ?_
                        refine lp (b := false) 95 rfl rfl rfl rfl rfl ?_
                        refine lp (b := false) 95 rfl rfl rfl rfl rfl ?_
                        refine lp (b := false) 95 rfl rfl rfl rfl rfl ?_
                        refine lv (v := (.bool false)) rfl rfl (r_pickF rfl rfl) ?_
                        refine lv (v := (.bool false)) rfl rfl (r_move rfl) ?_
                        refine lp (b := false) 101 rfl rfl rfl rfl rfl ?_
                        refine lp (b := false) 101 rfl rfl rfl rfl rfl ?_
                        refine lp (b := false) 101 rfl rfl rfl rfl rfl ?_
                        refine lv (v := (.bool false)) rfl rfl (r_pickF rfl rfl) ?_
                        refine lv (v := (.bool false)) rfl rfl (r_assign rfl) ?_
                        refine lnil ?_
                        exact ⟨col_434, false, hm, hst, rfl, rfl⟩
                    · rw [if_neg hg_442] at hm
                      replace hg_442 := Bool.eq_false_iff.2 hg_442
                      refine lp (b := decide ((r_276.1.length : Int) = 5)) 80 rfl rfl rfl rfl (by rw [hg_442]; rfl) ?_
                      refine lp (b := decide ((r_276.1.length : Int) = 5)) 80 rfl rfl rfl rfl (by rw [hg_442]; rfl) ?_
                      refine lp (b := decide ((r_276.1.length : Int) = 5)) 80 rfl rfl rfl rfl (by rw [hg_442]; rfl) ?_
                      refine lp (b := decide ((r_276.1.length : Int) = 5)) 80 rfl rfl rfl rfl (by rw [hg_442]; rfl) ?_
                      refine lp (b := decide ((r_276.1.length : Int) = 5)) 80 rfl rfl rfl rfl (by rw [hg_442]; rfl) ?_
                      refine lv (v := (.bool false)) rfl rfl (r_pickF (congrArg Value.bool hg_442) rfl) ?_
                      refine lv (v := (.bool false)) rfl rfl (r_move rfl) ?_
                      refine lp (b := false) 87 rfl rfl rfl rfl rfl ?_
                      refine lp (b := false) 87 rfl rfl rfl rfl rfl ?_
                      refine lv (v := (.bool false)) rfl rfl (r_pickF rfl rfl) ?_
                      refine lv (v := (.bool false)) rfl rfl (r_move rfl) ?_
                      refine lp (b := false) 91 rfl rfl rfl rfl rfl ?_
                      refine lp (b := false) 91 rfl rfl rfl rfl rfl ?_
                      refine lv (v := (.bool false)) rfl rfl (r_pickF rfl rfl) ?_
                      refine lv (v := (.bool false)) rfl rfl (r_move rfl) ?_
                      refine lp (b := false) 95 rfl rfl rfl rfl rfl ?_
                      refine lp (b := false) 95 rfl rfl rfl rfl rfl ?_
                      refine lp (b := false) 95 rfl rfl rfl rfl rfl ?_
                      refine lp (b := false) 95 rfl rfl rfl rfl rfl ?_
                      refine lv (v := (.bool false)) rfl rfl (r_pickF rfl rfl) ?_
                      refine lv (v := (.bool false)) rfl rfl (r_move rfl) ?_
                      refine lp (b := false) 101 rfl rfl rfl rfl rfl ?_
                      refine lp (b := false) 101 rfl rfl rfl rfl rfl ?_
                      refine lp (b := false) 101 rfl rfl rfl rfl rfl ?_
                      refine lv (v := (.bool false)) rfl rfl (r_pickF rfl rfl) ?_
                      refine lv (v := (.bool false)) rfl rfl (r_assign rfl) ?_
                      refine lnil ?_
                      exact ⟨col_434, false, hm, hst, rfl, rfl⟩
                  · rw [if_neg hg_441] at hm
                    replace hg_441 := Bool.eq_false_iff.2 hg_441
                    refine lp (b := r_437) 75 rfl rfl rfl rfl (by rw [hg_441]; rfl) ?_
                    refine lp (b := r_437) 75 rfl rfl rfl rfl (by rw [hg_441]; rfl) ?_
                    refine lp (b := r_437) 75 rfl rfl rfl rfl (by rw [hg_441]; rfl) ?_
                    refine lv (v := (.bool false)) rfl rfl (r_pickF (congrArg Value.bool hg_441) rfl) ?_
                    refine lv (v := (.bool false)) rfl rfl (r_move rfl) ?_
                    refine lp (b := false) 80 rfl rfl rfl rfl rfl ?_
                    refine lp (b := false) 80 rfl rfl rfl rfl rfl ?_
                    refine lp (b := false) 80 rfl rfl rfl rfl rfl ?_
                    refine lp (b := false) 80 rfl rfl rfl rfl rfl ?_
                    refine lp (b := false) 80 rfl rfl rfl rfl rfl ?_
                    refine lv (v := (.bool false)) rfl rfl (r_pickF rfl rfl) ?_
                    refine lv (v := (.bool false)) rfl rfl (r_move rfl) ?_
                    refine lp (b := false) 87 rfl rfl rfl rfl rfl ?_
                    refine lp (b := false) 87 rfl rfl rfl rfl rfl ?_
                    refine lv (v := (.bool false)) rfl rfl (r_pickF rfl rfl) ?_
                    refine lv (v := (.bool false)) rfl rfl (r_move rfl) ?_
                    refine lp (b := false) 91 rfl rfl rfl rfl rfl ?_
                    refine lp (b := false) 91 rfl rfl rfl rfl rfl ?_
                    refine lv (v := (.bool false)) rfl rfl (r_pickF rfl rfl) ?_
                    refine lv (v := (.bool false)) rfl rfl (r_move rfl) ?_
                    refine lp (b := false) 95 rfl rfl rfl rfl rfl ?_
                    refine lp (b := false) 95 rfl rfl rfl rfl rfl ?_
                    refine lp (b := false) 95 rfl rfl rfl rfl rfl ?_
                    refine lp (b := false) 95 rfl rfl rfl rfl rfl ?_
                    refine lv (v := (.bool false)) rfl rfl (r_pickF rfl rfl) ?_
                    refine lv (v := (.bool false)) rfl rfl (r_move rfl) ?_
                    refine lp (b := false) 101 rfl rfl rfl rfl rfl ?_
                    refine lp (b := false) 101 rfl rfl rfl rfl rfl ?_
                    refine lp (b := false) 101 rfl rfl rfl rfl rfl ?_
                    refine lv (v := (.bool false)) rfl rfl (r_pickF rfl rfl) ?_
                    refine lv (v := (.bool false)) rfl rfl (r_assign rfl) ?_
                    refine lnil ?_
                    exact ⟨col_434, false, hm, hst, rfl, rfl⟩
                · rw [if_neg hg_431] at hm
                  replace hg_431 := Bool.eq_false_iff.2 hg_431
                  refine lp (b := r_427) 70 rfl rfl rfl rfl (by rw [hg_431]; rfl) ?_
                  refine lp (b := r_427) 70 rfl rfl rfl rfl (by rw [hg_431]; rfl) ?_
                  refine lp (b := r_427) 70 rfl rfl rfl rfl (by rw [hg_431]; rfl) ?_
                  refine lv (v := (.bool false)) rfl rfl (r_pickF (congrArg Value.bool hg_431) rfl) ?_
                  refine lv (v := (.bool false)) rfl rfl (r_move rfl) ?_
                  refine lp (b := false) 75 rfl rfl rfl rfl rfl ?_
                  refine lp (b := false) 75 rfl rfl rfl rfl rfl ?_
                  refine lp (b := false) 75 rfl rfl rfl rfl rfl ?_
                  refine lv (v := (.bool false)) rfl rfl (r_pickF rfl rfl) ?_
                  refine lv (v := (.bool false)) rfl rfl (r_move rfl) ?_
                  refine lp (b := false) 80 rfl rfl rfl rfl rfl ?_
                  refine lp (b := false) 80 rfl rfl rfl rfl rfl ?_
                  refine lp (b := false) 80 rfl rfl rfl rfl rfl ?_
                  refine lp (b := false) 80 rfl rfl rfl rfl rfl ?_
                  refine lp (b := false) 80 rfl rfl rfl rfl rfl ?_
                  refine lv (v := (.bool false)) rfl rfl (r_pickF rfl rfl) ?_
                  refine lv (v := (.bool false)) rfl rfl (r_move rfl) ?_
                  refine lp (b := false) 87 rfl rfl rfl rfl rfl ?_
                  refine lp (b := false) 87 rfl rfl rfl rfl rfl ?_
                  refine lv (v := (.bool false)) rfl rfl (r_pickF rfl rfl) ?_
                  refine lv (v := (.bool false)) rfl rfl (r_move rfl) ?_
                  refine lp (b := false) 91 rfl rfl rfl rfl rfl ?_
                  refine lp (b := false) 91 rfl rfl rfl rfl rfl ?_
                  refine lv (v := (.bool false)) rfl rfl (r_pickF rfl rfl) ?_
                  refine lv (v := (.bool false)) rfl rfl (r_move rfl) ?_
                  refine lp (b := false) 95 rfl rfl rfl rfl rfl ?_
                  refine lp (b := false) 95 rfl rfl rfl rfl rfl ?_
                  refine lp (b := false) 95 rfl rfl rfl rfl rfl ?_
                  refine lp (b := false) 95 rfl rfl rfl rfl rfl ?_
                  refine lv (v := (.bool false)) rfl rfl (r_pickF rfl rfl) ?_
                  refine lv (v := (.bool false)) rfl rfl (r_move rfl) ?_
                  refine lp (b := false) 101 rfl rfl rfl rfl rfl ?_
                  refine lp (b := false) 101 rfl rfl rfl rfl rfl ?_
                  refine lp (b := false) 101 rfl rfl rfl rfl rfl ?_
                  refine lv (v := (.bool false)) rfl rfl (r_pickF rfl rfl) ?_
                  refine lv (v := (.bool false)) rfl rfl (r_assign rfl) ?_
                  refine lnil ?_
                  exact ⟨col_424, false, hm, hst, rfl, rfl⟩
              · rw [if_neg hg_421] at hm
                replace hg_421 := Bool.eq_false_iff.2 hg_421
                refine lp (b := decide (r_285.2 = 0)) 65 rfl rfl rfl rfl (by rw [hg_421]; rfl) ?_
                refine lp (b := decide (r_285.2 = 0)) 65 rfl rfl rfl rfl (by rw [hg_421]; rfl) ?_
                refine lp (b := decide (r_285.2 = 0)) 65 rfl rfl rfl rfl (by rw [hg_421]; rfl) ?_
                refine lv (v := (.bool false)) rfl rfl (r_pickF (congrArg Value.bool hg_421) rfl) ?_
                refine lv (v := (.bool false)) rfl rfl (r_move rfl) ?_
                refine lp (b := false) 70 rfl rfl rfl rfl rfl ?_
                refine lp (b := false) 70 rfl rfl rfl rfl rfl ?_
                refine lp (b := false) 70 rfl rfl rfl rfl rfl ?_
                refine lv (v := (.bool false)) rfl rfl (r_pickF rfl rfl) ?_
                refine lv (v := (.bool false)) rfl rfl (r_move rfl) ?_
                refine lp (b := false) 75 rfl rfl rfl rfl rfl ?_
                refine lp (b := false) 75 rfl rfl rfl rfl rfl ?_
                refine lp (b := false) 75 rfl rfl rfl rfl rfl ?_
                refine lv (v := (.bool false)) rfl rfl (r_pickF rfl rfl) ?_
                refine lv (v := (.bool false)) rfl rfl (r_move rfl) ?_
                refine lp (b := false) 80 rfl rfl rfl rfl rfl ?_
                refine lp (b := false) 80 rfl rfl rfl rfl rfl ?_
                refine lp (b := false) 80 rfl rfl rfl rfl rfl ?_
                refine lp (b := false) 80 rfl rfl rfl rfl rfl ?_
                refine lp (b := false) 80 rfl rfl rfl rfl rfl ?_
                refine lv (v := (.bool false)) rfl rfl (r_pickF rfl rfl) ?_
                refine lv (v := (.bool false)) rfl rfl (r_move rfl) ?_
                refine lp (b := false) 87 rfl rfl rfl rfl rfl ?_
                refine lp (b := false) 87 rfl rfl rfl rfl rfl ?_
                refine lv (v := (.bool false)) rfl rfl (r_pickF rfl rfl) ?_
                refine lv (v := (.bool false)) rfl rfl (r_move rfl) ?_
                refine lp (b := false) 91 rfl rfl rfl rfl rfl ?_
                refine lp (b := false) 91 rfl rfl rfl rfl rfl ?_
                refine lv (v := (.bool false)) rfl rfl (r_pickF rfl rfl) ?_
                refine lv (v := (.bool false)) rfl rfl (r_move rfl) ?_
                refine lp (b := false) 95 rfl rfl rfl rfl rfl ?_
                refine lp (b := false) 95 rfl rfl rfl rfl rfl ?_
                refine lp (b := false) 95 rfl rfl rfl rfl rfl ?_
                refine lp (b := false) 95 rfl rfl rfl rfl rfl ?_
                refine lv (v := (.bool false)) rfl rfl (r_pickF rfl rfl) ?_
                refine lv (v := (.bool false)) rfl rfl (r_move rfl) ?_
                refine lp (b := false) 101 rfl rfl rfl rfl rfl ?_
                refine lp (b := false) 101 rfl rfl rfl rfl rfl ?_
                refine lp (b := false) 101 rfl rfl rfl rfl rfl ?_
                refine lv (v := (.bool false)) rfl rfl (r_pickF rfl rfl) ?_
                refine lv (v := (.bool false)) rfl rfl (r_assign rfl) ?_
                refine lnil ?_
                exact ⟨col_296, false, hm, hst, rfl, rfl⟩
            · rw [if_neg hg_420] at hm
              replace hg_420 := Bool.eq_false_iff.2 hg_420
              refine lp (b := decide (r_276.2 = 0)) 61 rfl rfl rfl rfl (by rw [hg_420]; rfl) ?_
              refine lp (b := decide (r_276.2 = 0)) 61 rfl rfl rfl rfl (by rw [hg_420]; rfl) ?_
              refine lv (v := (.bool false)) rfl rfl (r_pickF (congrArg Value.bool hg_420) rfl) ?_
              refine lv (v := (.bool false)) rfl rfl (r_move rfl) ?_
              refine lp (b := false) 65 rfl rfl rfl rfl rfl ?_
              refine lp (b := false) 65 rfl rfl rfl rfl rfl ?_
              refine lp (b := false) 65 rfl rfl rfl rfl rfl ?_
              refine lv (v := (.bool false)) rfl rfl (r_pickF rfl rfl) ?_
              refine lv (v := (.bool false)) rfl rfl (r_move rfl) ?_
              refine lp (b := false) 70 rfl rfl rfl rfl rfl ?_
              refine lp (b := false) 70 rfl rfl rfl rfl rfl ?_
              refine lp (b := false) 70 rfl rfl rfl rfl rfl ?_
              refine lv (v := (.bool false)) rfl rfl (r_pickF rfl rfl) ?_
              refine lv (v := (.bool false)) rfl rfl (r_move rfl) ?_
              refine lp (b := false) 75 rfl rfl rfl rfl rfl ?_
              refine lp (b := false) 75 rfl rfl rfl rfl rfl ?_
              refine lp (b := false) 75 rfl rfl rfl rfl rfl ?_
              refine lv (v := (.bool false)) rfl rfl (r_pickF rfl rfl) ?_
              refine lv (v := (.bool false)) rfl rfl (r_move rfl) ?_
              refine lp (b := false) 80 rfl rfl rfl rfl rfl ?_
              refine lp (b := false) 80 rfl rfl rfl rfl rfl ?_
              refine lp (b := false) 80 rfl rfl rfl rfl rfl ?_
              refine lp (b := false) 80 rfl rfl rfl rfl rfl ?_
              refine lp (b := false) 80 rfl rfl rfl rfl rfl ?_
              refine lv (v := (.bool false)) rfl rfl (r_pickF rfl rfl) ?_
              refine lv (v := (.bool false)) rfl rfl (r_move rfl) ?_
              refine lp (b := false) 87 rfl rfl rfl rfl rfl ?_
              refine lp (b := false) 87 rfl rfl rfl rfl rfl ?_
              refine lv (v := (.bool false)) rfl rfl (r_pickF rfl rfl) ?_
              refine lv (v := (.bool false)) rfl rfl (r_move rfl) ?_
              refine lp (b := false) 91 rfl rfl rfl rfl rfl ?_
              refine lp (b := false) 91 rfl rfl rfl rfl rfl ?_
              refine lv (v := (.bool false)) rfl rfl (r_pickF rfl rfl) ?_
              refine lv (v := (.bool false)) rfl rfl (r_move rfl) ?_
              refine lp (b := false) 95 rfl rfl rfl rfl rfl ?_
              refine lp (b := false) 95 rfl rfl rfl rfl rfl ?_
              refine lp (b := false) 95 rfl rfl rfl rfl rfl ?_
              refine lp (b := false) 95 rfl rfl rfl rfl rfl ?_
              refine lv (v := (.bool false)) rfl rfl (r_pickF rfl rfl) ?_
              refine lv (v := (.bool false)) rfl rfl (r_move rfl) ?_
              refine lp (b := false) 101 rfl rfl rfl rfl rfl ?_
              refine lp (b := false) 101 rfl rfl rfl rfl rfl ?_
              refine lp (b := false) 101 rfl rfl rfl rfl rfl ?_
              refine lv (v := (.bool false)) rfl rfl (r_pickF rfl rfl) ?_
              refine lv (v := (.bool false)) rfl rfl (r_assign rfl) ?_
              refine lnil ?_
              exact ⟨col_296, false, hm, hst, rfl, rfl⟩
          · rw [if_neg hg_419] at hm
            replace hg_419 := Bool.eq_false_iff.2 hg_419
            refine lp (b := decide (r_267.2 = 0)) 57 rfl rfl rfl rfl (by rw [hg_419]; rfl) ?_
            refine lp (b := decide (r_267.2 = 0)) 57 rfl rfl rfl rfl (by rw [hg_419]; rfl) ?_
            refine lv (v := (.bool false)) rfl rfl (r_pickF (congrArg Value.bool hg_419) rfl) ?_
            refine lv (v := (.bool false)) rfl rfl (r_move rfl) ?_
            refine lp (b := false) 61 rfl rfl rfl rfl rfl ?_
            refine lp (b := false) 61 rfl rfl rfl rfl rfl ?_
            refine lv (v := (.bool false)) rfl rfl (r_pickF rfl rfl) ?_
            refine lv (v := (.bool false)) rfl rfl (r_move rfl) ?_
            refine lp (b := false) 65 rfl rfl rfl rfl rfl ?_
            refine lp (b := false) 65 rfl rfl rfl rfl rfl ?_
            refine lp (b := false) 65 rfl rfl rfl rfl rfl ?_
            refine lv (v := (.bool false)) rfl rfl (r_pickF rfl rfl) ?_
            refine lv (v := (.bool false)) rfl rfl (r_move rfl) ?_
            refine lp (b := false) 70 rfl rfl rfl rfl rfl ?_
            refine lp (b := false) 70 rfl rfl rfl rfl rfl ?_
            refine lp (b := false) 70 rfl rfl rfl rfl rfl ?_
            refine lv (v := (.bool false)) rfl rfl (r_pickF rfl rfl) ?_
            refine lv (v := (.bool false)) rfl rfl (r_move rfl) ?_
            refine lp (b := false) 75 rfl rfl rfl rfl rfl ?_
            refine lp (b := false) 75 rfl rfl rfl rfl rfl ?_
            refine lp (b := false) 75 rfl rfl rfl rfl rfl ?_
            refine lv (v := (.bool false)) rfl rfl (r_pickF rfl rfl) ?_
            refine lv (v := (.bool false)) rfl rfl (r_move rfl) ?_
            refine lp (b := false) 80 rfl rfl rfl rfl rfl ?_
            refine lp (b := false) 80 rfl rfl rfl rfl rfl ?_
            refine lp (b := false) 80 rfl rfl rfl rfl rfl ?_
            refine lp (b := false) 80 rfl rfl rfl rfl rfl ?_
            refine lp (b := false) 80 rfl rfl rfl rfl rfl ?_
            refine lv (v := (.bool false)) rfl rfl (r_pickF rfl rfl) ?_
            refine lv (v := (.bool false)) rfl rfl (r_move rfl) ?_
            refine lp (b := false) 87 rfl rfl rfl rfl rfl ?_
            refine lp (b := false) 87 rfl rfl rfl rfl rfl ?_
            refine lv (v := (.bool false)) rfl rfl (r_pickF rfl rfl) ?_
            refine lv (v := (.bool false)) rfl rfl (r_move rfl) ?_
            refine lp (b := false) 91 rfl rfl rfl rfl rfl ?_
            refine lp (b := false) 91 rfl rfl rfl rfl rfl ?_
            refine lv (v := (.bool false)) rfl rfl (r_pickF rfl rfl) ?_
            refine lv (v := (.bool false)) rfl rfl (r_move rfl) ?_
            refine lp (b := false) 95 rfl rfl rfl rfl rfl ?_
            refine lp (b := false) 95 rfl rfl rfl rfl rfl ?_
            refine lp (b := false) 95 rfl rfl rfl rfl rfl ?_
            refine lp (b := false) 95 rfl rfl rfl rfl rfl ?_
            refine lv (v := (.bool false)) rfl rfl (r_pickF rfl rfl) ?_
            refine lv (v := (.bool false)) rfl rfl (r_move rfl) ?_
            refine lp (b := false) 101 rfl rfl rfl rfl rfl ?_
            refine lp (b := false) 101 rfl rfl rfl rfl rfl ?_
            refine lp (b := false) 101 rfl rfl rfl rfl rfl ?_
            refine lv (v := (.bool false)) rfl rfl (r_pickF rfl rfl) ?_
            refine lv (v := (.bool false)) rfl rfl (r_assign rfl) ?_
            refine lnil ?_
            exact ⟨col_296, false, hm, hst, rfl, rfl⟩
        · rw [if_neg hg_418] at hm
          replace hg_418 := Bool.eq_false_iff.2 hg_418
          refine lp (b := decide (r_253.2 = 0)) 53 rfl rfl rfl rfl (by rw [hg_418]; rfl) ?_
          refine lp (b := decide (r_253.2 = 0)) 53 rfl rfl rfl rfl (by rw [hg_418]; rfl) ?_
          refine lv (v := (.bool false)) rfl rfl (r_pickF (congrArg Value.bool hg_418) rfl) ?_
          refine lv (v := (.bool false)) rfl rfl (r_move rfl) ?_
          refine lp (b := false) 57 rfl rfl rfl rfl rfl ?_
          refine lp (b := false) 57 rfl rfl rfl rfl rfl ?_
          refine lv (v := (.bool false)) rfl rfl (r_pickF rfl rfl) ?_
          refine lv (v := (.bool false)) rfl rfl (r_move rfl) ?_
          refine lp (b := false) 61 rfl rfl rfl rfl rfl ?_
          refine lp (b := false) 61 rfl rfl rfl rfl rfl ?_
          refine lv (v := (.bool false)) rfl rfl (r_pickF rfl rfl) ?_
          refine lv (v := (.bool false)) rfl rfl (r_move rfl) ?_
          refine lp (b := false) 65 rfl rfl rfl rfl rfl ?_
          refine lp (b := false) 65 rfl rfl rfl rfl rfl ?_
          refine lp (b := false) 65 rfl rfl rfl rfl rfl ?_
          refine lv (v := (.bool false)) rfl rfl (r_pickF rfl rfl) ?_
          refine lv (v := (.bool false)) rfl rfl (r_move rfl) ?_
          refine lp (b := false) 70 rfl rfl rfl rfl rfl ?_
          refine lp (b := false) 70 rfl rfl rfl rfl rfl ?_
          refine lp (b := false) 70 rfl rfl rfl rfl rfl ?_
          refine lv (v := (.bool false)) rfl rfl (r_pickF rfl rfl) ?_
          refine lv (v := (.bool false)) rfl rfl (r_move rfl) ?_
          refine lp (b := false) 75 rfl rfl rfl rfl rfl ?_
          refine lp (b := false) 75 rfl rfl rfl rfl rfl ?_
          refine lp (b := false) 75 rfl rfl rfl rfl rfl ?_
          refine lv (v := (.bool false)) rfl rfl (r_pickF rfl rfl) ?_
          refine lv (v := (.bool false)) rfl rfl (r_move rfl) ?_
          refine lp (b := false) 80 rfl rfl rfl rfl rfl ?_
          refine lp (b := false) 80 rfl rfl rfl rfl rfl ?_
          refine lp (b := false) 80 rfl rfl rfl rfl rfl ?_
          refine lp (b := false) 80 rfl rfl rfl rfl rfl ?_
          refine lp (b := false) 80 rfl rfl rfl rfl rfl ?_
          refine lv (v := (.bool false)) rfl rfl (r_pickF rfl rfl) ?_
          refine lv (v := (.bool false)) rfl rfl (r_move rfl) ?_
          refine lp (b := false) 87 rfl rfl rfl rfl rfl ?_
          refine lp (b := false) 87 rfl rfl rfl rfl rfl ?_
          refine lv (v := (.bool false)) rfl rfl (r_pickF rfl rfl) ?_
          refine lv (v := (.bool false)) rfl rfl (r_move rfl) ?_
          refine lp (b := false) 91 rfl rfl rfl rfl rfl ?_
          refine lp (b := false) 91 rfl rfl rfl rfl rfl ?_
          refine lv (v := (.bool false)) rfl rfl (r_pickF rfl rfl) ?_
          refine lv (v := (.bool false)) rfl rfl (r_move rfl) ?_
          refine lp (b := false) 95 rfl rfl rfl rfl rfl ?_
          refine lp (b := false) 95 rfl rfl rfl rfl rfl ?_
          refine lp (b := false) 95 rfl rfl rfl rfl rfl ?_
          refine lp (b := false) 95 rfl rfl rfl rfl rfl ?_
          refine lv (v := (.bool false)) rfl rfl (r_pickF rfl rfl) ?_
          refine lv (v := (.bool false)) rfl rfl (r_move rfl) ?_
          refine lp (b := false) 101 rfl rfl rfl rfl rfl ?_
          refine lp (b := false) 101 rfl rfl rfl rfl rfl ?_
          refine lp (b := false) 101 rfl rfl rfl rfl rfl ?_
          refine lv (v := (.bool false)) rfl rfl (r_pickF rfl rfl) ?_
          refine lv (v := (.bool false)) rfl rfl (r_assign rfl) ?_
          refine lnil ?_
          exact ⟨col_296, false, hm, hst, rfl, rfl⟩

set_option maxRecDepth 100000 in
theorem val_credencelaw18_awake : m_credencelaw18_awake 3000000 = some true := by decide +kernel
def w_credencelaw18_awake : Option Bool := some true
theorem k_credencelaw18_awake (col : Col) (w0 : World) (r : Bool) (hm : w_credencelaw18_awake = some r) : Calls Try.prog 29 #[] w0 (fun e w' => e = .returned ((.bool r)) ∧ Below w0.heap.size w0 w') := by
  cases hm
  exact c_credencelaw18_awake 3000000 col w0 true val_credencelaw18_awake



set_option maxRecDepth 100000 in
theorem el3_31 : ElemOk Try.prog 3 1 8 := ⟨Try.t3, _, rfl, rfl, rfl, rfl, rfl⟩

def m_credencelaw18_ints_L1 (N : Nat) (p0_l : (List Int)) : Nat → (List Int) → Int → Option (Nat × (List Int))
  | 0, _, _ => none
  | n_8 + 1, m_11, i_15 => if (decide (i_15 < 9)) = true then (chk ((m_11.length + [IntKind.i64.wrap ((-70) - i_15)].length) * 8 ≤ 140737488355328 ∧ m_11.length + [IntKind.i64.wrap ((-70) - i_15)].length ≤ maxLen) ((m_credencelaw18_ints_L1 N p0_l n_8) (m_11 ++ [IntKind.i64.wrap ((-70) - i_15)]) (IntKind.i64.wrap (i_15 + 1)))) else (chk ((0 : Int) ≤ (p0_l.length : Int) ∧ (p0_l.length : Int) ≤ (m_11.length : Int)) (some ((Int.toNat (p0_l.length : Int)), m_11)))

def m_credencelaw18_ints (N : Nat) (p0_l : (List Int)) : Option (Nat × (List Int)) :=
  chk ((([] : List Int).length + p0_l.length) * 8 ≤ 140737488355328 ∧ ([] : List Int).length + p0_l.length ≤ maxLen) (m_credencelaw18_ints_L1 N p0_l N (([] : List Int) ++ p0_l) 0)

set_option maxRecDepth 100000 in
set_option maxHeartbeats 2000000 in
theorem c_credencelaw18_ints (N : Nat) (c1 : Nat) (col : Col) (w0 : World) (a0 : Option Addr) (cap0 : Nat) (p0_l : (List Int)) (h0 : Sl (Rep.int .i64) col w0 a0 cap0 p0_l) (r : (Nat × (List Int))) (hm : m_credencelaw18_ints N p0_l = some r) :
    Calls Try.prog 31 #[(.slice a0 p0_l.length cap0)] w0 (fun e w' => ∃ (col' : Col) (ra1 : Option Addr) (rc2 : Nat), e = .returned ((.slice ra1 ((r.2.take r.1).length) rc2)) ∧ Grow col w0 col' w' ∧ Own (Rep.int .i64) 3 c1 col' w' ra1 rc2 r.2) := by
  refine calls_of1 2 (m := 21) (args := [(.slice a0 p0_l.length cap0)]) Try.func31 rfl rfl rfl rfl rfl ?_
  rw [m_credencelaw18_ints.eq_1] at hm
  have hst := St.start col w0
  replace h0 := h0.keep (Stay.start col w0)
  refine wseq ?_
  refine wregion ?_
  refine lv (v := (.slice none (([] : List Int).length) 0)) rfl rfl (r_assign rfl) ?_
  refine lnil ?_
  refine wseq ?_
  refine wregion ?_
  refine lv (v := (.slice none (([] : List Int).length) 0)) rfl rfl (r_assign rfl) ?_
  refine lnil ?_
  refine wseq ?_
  refine wregion ?_
  refine lv (v := (.slice none (([] : List Int).length) 0)) rfl rfl (r_move rfl) ?_
  refine lv (v := (.slice a0 p0_l.length cap0)) rfl rfl (r_move rfl) ?_
  obtain ⟨hb_1, hm⟩ := chk_some hm
  refine l_appendM (col := (col0 col)) (w := w0) (r := (Rep.int .i64)) (c := 1) (c2 := 1) (xs := ([] : List Int)) (ys := p0_l) Own.nil h0.srcC rfl Try.underlying22 el3_31 rfl rfl rfl hb_1.1 hb_1.2 (by decide) ?_
  intro a_2 cap_3 w_4 col_5 hk_6 h_7
  replace h0 := h0.kpp hk_6 rfl
  replace hst := hst.kpp hk_6 rfl rfl
  refine lv (v := (.slice a_2 ((([] : List Int) ++ p0_l).length) cap_3)) rfl rfl (r_assign rfl) ?_
  refine lnil ?_
  refine wseq ?_
  refine wseq ?_
  refine wregion ?_
  refine lv (v := (.int .i64 0)) rfl rfl (r_assign rfl) ?_
  refine lnil ?_
  refine wblock ?_
  refine wloop (fun n f w_9 => ∃ (col_10 : Col) (a_12 : Option Addr) (cap_13 : Nat) (m_11 : List Int) (i_15 : Int) (n_8 : Nat), n_8 = n ∧ m_credencelaw18_ints_L1 N p0_l n_8 m_11 i_15 = some r ∧ St w0 (col0 col) col_10 w_9 ∧ Sl (Rep.int .i64) col_10 w_9 a0 cap0 p0_l ∧ Own (Rep.int .i64) 3 1 col_10 w_9 a_12 cap_13 m_11 ∧ f 0 = (.slice a0 p0_l.length cap0) ∧ f 3 = (.slice a_12 m_11.length cap_13) ∧ f 4 = (.int .i64 i_15) ∧ f 1000000 = (enc [])) N ⟨col_5, a_2, cap_3, (([] : List Int) ++ p0_l), 0, N, rfl, hm, hst, h0, h_7, rfl, rfl, rfl, rfl⟩ ?_
  clear hm; intro n f w_9 hI
  obtain ⟨col_10, a_12, cap_13, m_11, i_15, n_8, hn, hm, hst, h0, h_14, hs0, hs3, hs4, hs1000000⟩ := hI
  subst hn
  refine .ld (d := 0) (v := (.slice a0 p0_l.length cap0)) hs0 ?_
  refine .ld (d := 3) (v := (.slice a_12 m_11.length cap_13)) hs3 ?_
  refine .ld (d := 4) (v := (.int .i64 i_15)) hs4 ?_
  refine .ld (d := 1000000) (v := (enc [])) hs1000000 ?_
  clear hs0 hs3 hs4 hs1000000
  cases n_8 with
  | zero => rw [m_credencelaw18_ints_L1.eq_1] at hm; cases hm
  | succ n_8 =>
    rw [m_credencelaw18_ints_L1.eq_2] at hm
    refine wseq ?_
    refine wseq ?_
    refine wregion ?_
    refine lv (v := (.int .i64 i_15)) rfl rfl (r_move rfl) ?_
    refine lv (v := (.bool (decide (i_15 < 9)))) rfl rfl (r_lss i_15 9 rfl rfl) ?_
    refine lnil ?_
    refine wcond (decide (i_15 < 9)) rfl (fun hb => ?_) (fun hb => ?_)
    · rw [if_pos hb] at hm
      clear hb
      refine wskip ?_
      refine wseq ?_
      refine wblock ?_
      refine wregion ?_
      refine lv (v := (.slice a_12 m_11.length cap_13)) rfl rfl (r_move rfl) ?_
      refine lv (v := (.int .i64 i_15)) rfl rfl (r_move rfl) ?_
      refine lv (v := (.int .i64 (IntKind.i64.wrap ((-70) - i_15)))) rfl rfl (r_sub (-70) i_15 rfl rfl) ?_
      refine l_lit (col := col_10) (r := (Rep.int .i64)) (xs := [IntKind.i64.wrap ((-70) - i_15)]) [(.int .i64 (IntKind.i64.wrap ((-70) - i_15)))] 2 rfl Try.underlying22 el3_31 rfl rfl rfl rfl rfl rfl (by intro v hv; simp only [List.mem_cons, List.not_mem_nil, or_false] at hv; subst hv; rfl) (RowsH.ofF (Rows.consF (r := (Rep.int .i64)) (x := IntKind.i64.wrap ((-70) - i_15)) (cs := [(.int .i64 (IntKind.i64.wrap ((-70) - i_15)))]) (rd_int .i64 (IntKind.i64.wrap ((-70) - i_15))) Rows.nil0)) ?_
      intro a_16 w_17 col_18 hg_19 h_20
      replace h0 := h0.gr hg_19
      replace h_14 := h_14.gr hg_19
      replace hst := hst.grow hg_19
      obtain ⟨hb_21, hm⟩ := chk_some hm
      refine l_appendM (col := col_18) (w := w_17) (r := (Rep.int .i64)) (c := 1) (c2 := 1) (xs := m_11) (ys := [IntKind.i64.wrap ((-70) - i_15)]) h_14 (h_20.srcN (NB.int (k := .i64))) rfl Try.underlying22 el3_31 rfl rfl rfl hb_21.1 hb_21.2 (by decide) ?_
      intro a_22 cap_23 w_24 col_25 hk_26 h_27
      replace h0 := h0.kpp hk_26 rfl
      replace h_20 := h_20.kpp hk_26 rfl rfl
      replace hst := hst.kpp hk_26 rfl rfl
      clear h_14
      refine lv (v := (.slice a_22 ((m_11 ++ [IntKind.i64.wrap ((-70) - i_15)]).length) cap_23)) rfl rfl (r_assign rfl) ?_
      refine lnil ?_
      refine wregion ?_
      refine lv (v := (.int .i64 i_15)) rfl rfl (r_move rfl) ?_
      refine lv (v := (.int .i64 (IntKind.i64.wrap (i_15 + 1)))) rfl rfl (r_add i_15 1 rfl rfl) ?_
      refine lv (v := (.int .i64 (IntKind.i64.wrap (i_15 + 1)))) rfl rfl (r_assign rfl) ?_
      refine lnil ?_
      exact ⟨n_8, by omega, ⟨col_25, a_22, cap_23, (m_11 ++ [IntKind.i64.wrap ((-70) - i_15)]), (IntKind.i64.wrap (i_15 + 1)), n_8, rfl, hm, hst, h0, h_27, rfl, rfl, rfl, rfl⟩⟩
    · rw [if_neg (by rw [hb]; decide)] at hm
      clear hb
      refine wexit (inB_hit ?_)
      refine wseq ?_
      refine wregion ?_
      refine lv (v := (.slice a_12 m_11.length cap_13)) rfl rfl (r_move rfl) ?_
      refine lv (v := (.slice a0 p0_l.length cap0)) rfl rfl (r_move rfl) ?_
      refine lv (v := (.int .i64 (p0_l.length : Int))) rfl rfl (r_len Try.underlying22 rfl) ?_
      obtain ⟨hb_28, hm⟩ := chk_some hm
      refine lv (v := .slice a_12 (Int.toNat (p0_l.length : Int)) cap_13) rfl rfl (r_sliceH Try.underlying22 Try.sizeOf3 rfl rfl hb_28.1 (by have := h_14.lecap; have := hb_28.2; omega)) ?_
      refine .ld (d := 20) (v := (.slice a_12 ((m_11.take (Int.toNat (p0_l.length : Int))).length) cap_13)) (congrArg (fun n => Value.slice a_12 n cap_13) (List.length_take_of_le (show (Int.toNat (p0_l.length : Int)) ≤ m_11.length by have := hb_28.2; omega)).symm) ?_
      refine lv (v := (.slice a_12 ((m_11.take (Int.toNat (p0_l.length : Int))).length) cap_13)) rfl rfl (r_assign rfl) ?_
      refine lnil ?_
      refine wret ?_
      cases hm
      exact ⟨rfl, colF w0.heap.size col col_10 (fun n => bif Nat.beq n 1 then c1 else 0), a_12, cap_13, rfl, hst.fin (fun n => bif Nat.beq n 1 then c1 else 0), hst.finOwn (g := (fun n => bif Nat.beq n 1 then c1 else 0)) rfl h_14 (by decide) (by decide) rfl⟩




def m_credenceref18_times_J1 (i_5 : Int) (kk_L1 : (Int → Int → Option Int)) (n_8 : Int) : Option Int :=
  kk_L1 n_8 (IntKind.i64.wrap (i_5 + 1))

def m_credenceref18_times_L1 (N : Nat) (p0_l : (List Int)) (p1_x : Int) : Nat → Int → Int → Option Int
  | 0, _, _ => none
  | n_1 + 1, n_4, i_5 => if (decide (i_5 < (p0_l.length : Int))) = true then ((at? p0_l i_5).bind fun e_9 => if (decide (e_9 = p1_x)) = true then (m_credenceref18_times_J1 i_5 (m_credenceref18_times_L1 N p0_l p1_x n_1) (IntKind.i64.wrap (n_4 + 1))) else (m_credenceref18_times_J1 i_5 (m_credenceref18_times_L1 N p0_l p1_x n_1) n_4)) else (some n_4)

def m_credenceref18_times (N : Nat) (p0_l : (List Int)) (p1_x : Int) : Option Int :=
  m_credenceref18_times_L1 N p0_l p1_x N 0 0

set_option maxRecDepth 100000 in
set_option maxHeartbeats 2000000 in
theorem c_credenceref18_times (N : Nat) (col : Col) (w0 : World) (a0 : Option Addr) (cap0 : Nat) (p0_l : (List Int)) (p1_x : Int) (h0 : Sl (Rep.int .i64) col w0 a0 cap0 p0_l) (r : Int) (hm : m_credenceref18_times N p0_l p1_x = some r) :
    Calls Try.prog 83 #[(.slice a0 p0_l.length cap0), (.int .i64 p1_x)] w0 (fun e w' => e = .returned ((.int .i64 r)) ∧ Below w0.heap.size w0 w') := by
  refine calls_of1 4 (m := 22) (args := [(.slice a0 p0_l.length cap0), (.int .i64 p1_x)]) Try.func83 rfl rfl rfl rfl rfl ?_
  rw [m_credenceref18_times.eq_1] at hm
  have hst := St.start col w0
  replace h0 := h0.keep (Stay.start col w0)
  refine wseq ?_
  refine wregion ?_
  refine lv (v := (.int .i64 0)) rfl rfl (r_assign rfl) ?_
  refine lnil ?_
  refine wseq ?_
  refine wregion ?_
  refine lv (v := (.int .i64 0)) rfl rfl (r_assign rfl) ?_
  refine lnil ?_
  refine wseq ?_
  refine wseq ?_
  refine wregion ?_
  refine lv (v := (.int .i64 0)) rfl rfl (r_assign rfl) ?_
  refine lnil ?_
  refine wblock ?_
  refine wloop (fun n f w_2 => ∃ (col_3 : Col) (n_4 : Int) (i_5 : Int) (n_1 : Nat), n_1 = n ∧ m_credenceref18_times_L1 N p0_l p1_x n_1 n_4 i_5 = some r ∧ St w0 (col0 col) col_3 w_2 ∧ Sl (Rep.int .i64) col_3 w_2 a0 cap0 p0_l ∧ f 0 = (.slice a0 p0_l.length cap0) ∧ f 1 = (.int .i64 p1_x) ∧ f 5 = (.int .i64 n_4) ∧ f 6 = (.int .i64 i_5) ∧ f 1000000 = (enc [])) N ⟨(col0 col), 0, 0, N, rfl, hm, hst, h0, rfl, rfl, rfl, rfl, rfl⟩ ?_
  clear hm; intro n f w_2 hI
  obtain ⟨col_3, n_4, i_5, n_1, hn, hm, hst, h0, hs0, hs1, hs5, hs6, hs1000000⟩ := hI
  subst hn
  refine .ld (d := 0) (v := (.slice a0 p0_l.length cap0)) hs0 ?_
  refine .ld (d := 1) (v := (.int .i64 p1_x)) hs1 ?_
  refine .ld (d := 5) (v := (.int .i64 n_4)) hs5 ?_
  refine .ld (d := 6) (v := (.int .i64 i_5)) hs6 ?_
  refine .ld (d := 1000000) (v := (enc [])) hs1000000 ?_
  clear hs0 hs1 hs5 hs6 hs1000000
  cases n_1 with
  | zero => rw [m_credenceref18_times_L1.eq_1] at hm; cases hm
  | succ n_1 =>
    rw [m_credenceref18_times_L1.eq_2] at hm
    refine wseq ?_
    refine wseq ?_
    refine wregion ?_
    refine lv (v := (.int .i64 i_5)) rfl rfl (r_move rfl) ?_
    refine lv (v := (.slice a0 p0_l.length cap0)) rfl rfl (r_move rfl) ?_
    refine lv (v := (.int .i64 (p0_l.length : Int))) rfl rfl (r_len Try.underlying22 rfl) ?_
    refine lv (v := (.bool (decide (i_5 < (p0_l.length : Int))))) rfl rfl (r_lss i_5 (p0_l.length : Int) rfl rfl) ?_
    refine lnil ?_
    refine wcond (decide (i_5 < (p0_l.length : Int))) rfl (fun hb => ?_) (fun hb => ?_)
    · rw [if_pos hb] at hm
      clear hb
      refine wskip ?_
      refine wseq ?_
      refine Wp.cut (fun f w_6 => ∃ (col_7 : Col) (n_8 : Int), m_credenceref18_times_J1 i_5 (m_credenceref18_times_L1 N p0_l p1_x n_1) n_8 = some r ∧ St w0 (col0 col) col_7 w_6 ∧ Sl (Rep.int .i64) col_7 w_6 a0 cap0 p0_l ∧ f 0 = (.slice a0 p0_l.length cap0) ∧ f 1 = (.int .i64 p1_x) ∧ f 5 = (.int .i64 n_8) ∧ f 6 = (.int .i64 i_5) ∧ f 1000000 = (enc [])) ?_ ?_
      · intro f w_6 hJ
        obtain ⟨col_7, n_8, hm, hst, h0, hs0, hs1, hs5, hs6, hs1000000⟩ := hJ
        rw [m_credenceref18_times_J1.eq_1] at hm
        refine .ld (d := 0) (v := (.slice a0 p0_l.length cap0)) hs0 ?_
        refine .ld (d := 1) (v := (.int .i64 p1_x)) hs1 ?_
        refine .ld (d := 5) (v := (.int .i64 n_8)) hs5 ?_
        refine .ld (d := 6) (v := (.int .i64 i_5)) hs6 ?_
        refine .ld (d := 1000000) (v := (enc [])) hs1000000 ?_
        clear hs0 hs1 hs5 hs6 hs1000000
        refine wregion ?_
        refine lv (v := (.int .i64 i_5)) rfl rfl (r_move rfl) ?_
        refine lv (v := (.int .i64 (IntKind.i64.wrap (i_5 + 1)))) rfl rfl (r_add i_5 1 rfl rfl) ?_
        refine lv (v := (.int .i64 (IntKind.i64.wrap (i_5 + 1)))) rfl rfl (r_assign rfl) ?_
        refine lnil ?_
        exact ⟨n_1, by omega, ⟨col_7, n_8, (IntKind.i64.wrap (i_5 + 1)), n_1, rfl, hm, hst, h0, rfl, rfl, rfl, rfl, rfl⟩⟩
      · refine wblock ?_
        refine wseq ?_
        refine wregion ?_
        refine lv (v := (.slice a0 p0_l.length cap0)) rfl rfl (r_move rfl) ?_
        refine lv (v := (.int .i64 i_5)) rfl rfl (r_move rfl) ?_
        obtain ⟨e_9, hj_10, hm⟩ := bind_some hm
        refine lv (v := (sptr a0 (Int.toNat i_5 * 1))) rfl rfl (r_idx Try.underlying22 Try.sizeOf3 rfl rfl (at?_some hj_10).1 (at?_some hj_10).2.1 (h0.addr hj_10)) ?_
        refine lv (v := (.int .i64 e_9)) rfl rfl (r_ld Try.isAgg3 rfl (h0.atInt hj_10)) ?_
        refine lv (v := (.int .i64 p1_x)) rfl rfl (r_move rfl) ?_
        refine lv (v := (.bool (decide (e_9 = p1_x)))) rfl rfl (r_eql e_9 p1_x rfl rfl) ?_
        refine lnil ?_
        refine wcond (decide (e_9 = p1_x)) rfl (fun hb => ?_) (fun hb => ?_)
        · rw [if_pos hb] at hm
          clear hb
          refine wregion ?_
          refine lv (v := (.int .i64 n_4)) rfl rfl (r_move rfl) ?_
          refine lv (v := (.int .i64 (IntKind.i64.wrap (n_4 + 1)))) rfl rfl (r_add n_4 1 rfl rfl) ?_
          refine lv (v := (.int .i64 (IntKind.i64.wrap (n_4 + 1)))) rfl rfl (r_assign rfl) ?_
          refine lnil ?_
          exact ⟨col_3, (IntKind.i64.wrap (n_4 + 1)), hm, hst, h0, rfl, rfl, rfl, rfl, rfl⟩
        · rw [if_neg (by rw [hb]; decide)] at hm
          clear hb
          refine wskip ?_
          exact ⟨col_3, n_4, hm, hst, h0, rfl, rfl, rfl, rfl, rfl⟩
    · rw [if_neg (by rw [hb]; decide)] at hm
      clear hb
      refine wexit (inB_hit ?_)
      refine wseq ?_
      refine wregion ?_
      refine lv (v := (.int .i64 n_4)) rfl rfl (r_move rfl) ?_
      refine lv (v := (.int .i64 n_4)) rfl rfl (r_assign rfl) ?_
      refine lnil ?_
      refine wret ?_
      cases hm
      exact ⟨rfl, rfl, hst.below⟩




def m_credenceref18_Check_J1 (i_4 : Int) (kk_L1 : (Int → Option Int)) (v_29 : Bool) : Option Int :=
  if v_29 = true then (some 51) else (kk_L1 (IntKind.i64.wrap (i_4 + 1)))

def m_credenceref18_Check_L1 (N : Nat) (p0_order : (List Int)) (p1_points : (List Int)) : Nat → Int → Option Int
  | 0, _ => none
  | n_1 + 1, i_4 => if (decide (i_4 < (p1_points.length : Int))) = true then ((at? p1_points i_4).bind fun e_30 => (m_credenceref18_times N p0_order e_30).bind fun r_32 => if (!decide (r_32 = 1)) = true then (m_credenceref18_Check_J1 i_4 (m_credenceref18_Check_L1 N p0_order p1_points n_1) true) else ((m_credenceref18_times N p1_points e_30).bind fun r_37 => m_credenceref18_Check_J1 i_4 (m_credenceref18_Check_L1 N p0_order p1_points n_1) (!decide (r_37 = 1)))) else (some 0)

def m_credenceref18_Check (N : Nat) (p0_order : (List Int)) (p1_points : (List Int)) : Option Int :=
  if (!decide ((p0_order.length : Int) = (p1_points.length : Int))) = true then (some 51) else (m_credenceref18_Check_L1 N p0_order p1_points N 0)

set_option maxRecDepth 100000 in
set_option maxHeartbeats 2000000 in
theorem c_credenceref18_Check (N : Nat) (col : Col) (w0 : World) (a0 : Option Addr) (cap0 : Nat) (p0_order : (List Int)) (a1 : Option Addr) (cap1 : Nat) (p1_points : (List Int)) (h0 : Sl (Rep.int .i64) col w0 a0 cap0 p0_order) (h1 : Sl (Rep.int .i64) col w0 a1 cap1 p1_points) (r : Int) (hm : m_credenceref18_Check N p0_order p1_points = some r) :
    Calls Try.prog 46 #[(.slice a0 p0_order.length cap0), (.slice a1 p1_points.length cap1)] w0 (fun e w' => e = .returned ((.int .i64 r)) ∧ Below w0.heap.size w0 w') := by
  refine calls_of1 4 (m := 33) (args := [(.slice a0 p0_order.length cap0), (.slice a1 p1_points.length cap1)]) Try.func46 rfl rfl rfl rfl rfl ?_
  rw [m_credenceref18_Check.eq_1] at hm
  have hst := St.start col w0
  replace h0 := h0.keep (Stay.start col w0)
  replace h1 := h1.keep (Stay.start col w0)
  refine wseq ?_
  refine wregion ?_
  refine lv (v := (.int .i64 0)) rfl rfl (r_assign rfl) ?_
  refine lnil ?_
  refine wseq ?_
  refine wseq ?_
  refine wregion ?_
  refine lv (v := (.slice a0 p0_order.length cap0)) rfl rfl (r_move rfl) ?_
  refine lv (v := (.int .i64 (p0_order.length : Int))) rfl rfl (r_len Try.underlying22 rfl) ?_
  refine lv (v := (.slice a1 p1_points.length cap1)) rfl rfl (r_move rfl) ?_
  refine lv (v := (.int .i64 (p1_points.length : Int))) rfl rfl (r_len Try.underlying22 rfl) ?_
  refine lv (v := (.bool (!decide ((p0_order.length : Int) = (p1_points.length : Int))))) rfl rfl (r_neq (p0_order.length : Int) (p1_points.length : Int) rfl rfl) ?_
  refine lnil ?_
  refine wcond (!decide ((p0_order.length : Int) = (p1_points.length : Int))) rfl (fun hb => ?_) (fun hb => ?_)
  · rw [if_pos hb] at hm
    clear hb
    refine wseq ?_
    refine wregion ?_
    refine lv (v := (.int .i64 51)) rfl rfl (r_assign rfl) ?_
    refine lnil ?_
    refine wret ?_
    cases hm
    exact ⟨rfl, rfl, hst.below⟩
  · rw [if_neg (by rw [hb]; decide)] at hm
    clear hb
    refine wskip ?_
    refine wseq ?_
    refine wseq ?_
    refine wregion ?_
    refine lv (v := (.int .i64 0)) rfl rfl (r_assign rfl) ?_
    refine lnil ?_
    refine wblock ?_
    refine wloop (fun n f w_2 => ∃ (col_3 : Col) (i_4 : Int) (n_1 : Nat), n_1 = n ∧ m_credenceref18_Check_L1 N p0_order p1_points n_1 i_4 = some r ∧ St w0 (col0 col) col_3 w_2 ∧ Sl (Rep.int .i64) col_3 w_2 a0 cap0 p0_order ∧ Sl (Rep.int .i64) col_3 w_2 a1 cap1 p1_points ∧ f 0 = (.slice a0 p0_order.length cap0) ∧ f 1 = (.slice a1 p1_points.length cap1) ∧ f 5 = (.int .i64 i_4) ∧ f 1000000 = (enc [])) N ⟨(col0 col), 0, N, rfl, hm, hst, h0, h1, rfl, rfl, rfl, rfl⟩ ?_
    clear hm; intro n f w_2 hI
    obtain ⟨col_3, i_4, n_1, hn, hm, hst, h0, h1, hs0, hs1, hs5, hs1000000⟩ := hI
    subst hn
    refine .ld (d := 0) (v := (.slice a0 p0_order.length cap0)) hs0 ?_
    refine .ld (d := 1) (v := (.slice a1 p1_points.length cap1)) hs1 ?_
    refine .ld (d := 5) (v := (.int .i64 i_4)) hs5 ?_
    refine .ld (d := 1000000) (v := (enc [])) hs1000000 ?_
    clear hs0 hs1 hs5 hs1000000
    cases n_1 with
    | zero => rw [m_credenceref18_Check_L1.eq_1] at hm; cases hm
    | succ n_1 =>
      rw [m_credenceref18_Check_L1.eq_2] at hm
      refine wseq ?_
      refine wseq ?_
      refine wregion ?_
      refine lv (v := (.int .i64 i_4)) rfl rfl (r_move rfl) ?_
      refine lv (v := (.slice a1 p1_points.length cap1)) rfl rfl (r_move rfl) ?_
      refine lv (v := (.int .i64 (p1_points.length : Int))) rfl rfl (r_len Try.underlying22 rfl) ?_
      refine lv (v := (.bool (decide (i_4 < (p1_points.length : Int))))) rfl rfl (r_lss i_4 (p1_points.length : Int) rfl rfl) ?_
      refine lnil ?_
      refine wcond (decide (i_4 < (p1_points.length : Int))) rfl (fun hb => ?_) (fun hb => ?_)
      · rw [if_pos hb] at hm
        clear hb
        refine wskip ?_
        refine wseq ?_
        refine wblock ?_
        refine wseq ?_
        refine Wp.cut (fun f w_27 => ∃ (col_28 : Col) (v_29 : Bool), m_credenceref18_Check_J1 i_4 (m_credenceref18_Check_L1 N p0_order p1_points n_1) v_29 = some r ∧ St w0 (col0 col) col_28 w_27 ∧ Sl (Rep.int .i64) col_28 w_27 a0 cap0 p0_order ∧ Sl (Rep.int .i64) col_28 w_27 a1 cap1 p1_points ∧ f 0 = (.slice a0 p0_order.length cap0) ∧ f 1 = (.slice a1 p1_points.length cap1) ∧ f 32 = (.bool v_29) ∧ f 5 = (.int .i64 i_4) ∧ f 1000000 = (enc [])) ?_ ?_
        · intro f w_27 hJ
          obtain ⟨col_28, v_29, hm, hst, h0, h1, hs0, hs1, hs32, hs5, hs1000000⟩ := hJ
          rw [m_credenceref18_Check_J1.eq_1] at hm
          refine .ld (d := 0) (v := (.slice a0 p0_order.length cap0)) hs0 ?_
          refine .ld (d := 1) (v := (.slice a1 p1_points.length cap1)) hs1 ?_
          refine .ld (d := 32) (v := (.bool v_29)) hs32 ?_
          refine .ld (d := 5) (v := (.int .i64 i_4)) hs5 ?_
          refine .ld (d := 1000000) (v := (enc [])) hs1000000 ?_
          clear hs0 hs1 hs32 hs5 hs1000000
          refine wcond (v_29) rfl (fun hb => ?_) (fun hb => ?_)
          · rw [if_pos hb] at hm
            clear hb
            refine wseq ?_
            refine wregion ?_
            refine lv (v := (.int .i64 51)) rfl rfl (r_assign rfl) ?_
            refine lnil ?_
            refine wret ?_
            cases hm
            exact ⟨rfl, rfl, hst.below⟩
          · rw [if_neg (by rw [hb]; decide)] at hm
            clear hb
            refine wskip ?_
            refine wregion ?_
            refine lv (v := (.int .i64 i_4)) rfl rfl (r_move rfl) ?_
            refine lv (v := (.int .i64 (IntKind.i64.wrap (i_4 + 1)))) rfl rfl (r_add i_4 1 rfl rfl) ?_
            refine lv (v := (.int .i64 (IntKind.i64.wrap (i_4 + 1)))) rfl rfl (r_assign rfl) ?_
            refine lnil ?_
            exact ⟨n_1, by omega, ⟨col_28, (IntKind.i64.wrap (i_4 + 1)), n_1, rfl, hm, hst, h0, h1, rfl, rfl, rfl, rfl⟩⟩
        · refine wregion ?_
          refine lv (v := (.slice a0 p0_order.length cap0)) rfl rfl (r_move rfl) ?_
          refine lv (v := (.slice a1 p1_points.length cap1)) rfl rfl (r_move rfl) ?_
          refine lv (v := (.int .i64 i_4)) rfl rfl (r_move rfl) ?_
          obtain ⟨e_30, hj_31, hm⟩ := bind_some hm
          refine lv (v := (sptr a1 (Int.toNat i_4 * 1))) rfl rfl (r_idx Try.underlying22 Try.sizeOf3 rfl rfl (at?_some hj_31).1 (at?_some hj_31).2.1 (h1.addr hj_31)) ?_
          refine lv (v := (.int .i64 e_30)) rfl rfl (r_ld Try.isAgg3 rfl (h1.atInt hj_31)) ?_
          obtain ⟨r_32, hr_33, hm⟩ := bind_some hm
          refine lc rfl rfl (r_call2 Try.call83 rfl rfl) (c_credenceref18_times N col_3 _ a0 cap0 p0_order e_30 h0 r_32 hr_33) ?_
          rintro _ w_34 ⟨rfl, hg_35⟩
          refine ⟨_, rfl, ?_⟩
          replace hg_35 : Grow col_3 w_2 col_3 w_34 := .of_below hg_35
          replace h0 := h0.gr hg_35
          replace h1 := h1.gr hg_35
          replace hst := hst.grow hg_35
          refine lv (v := (.bool (!decide (r_32 = 1)))) rfl rfl (r_neq r_32 1 rfl rfl) ?_
          refine lv (v := (.bool (!decide (r_32 = 1)))) rfl rfl (r_move rfl) ?_
          by_cases hg_36 : (!decide (r_32 = 1)) = true
          · rw [if_pos hg_36] at hm
            refine lp (b := !decide (r_32 = 1)) 24 rfl rfl rfl rfl (by rw [hg_36]; rfl) ?_
            refine lp (b := !decide (r_32 = 1)) 24 rfl rfl rfl rfl (by rw [hg_36]; rfl) ?_
            refine lp (b := !decide (r_32 = 1)) 24 rfl rfl rfl rfl (by rw [hg_36]; rfl) ?_
            refine lp (b := !decide (r_32 = 1)) 24 rfl rfl rfl rfl (by rw [hg_36]; rfl) ?_
            refine lp (b := !decide (r_32 = 1)) 24 rfl rfl rfl rfl (by rw [hg_36]; rfl) ?_
            refine lp (b := !decide (r_32 = 1)) 24 rfl rfl rfl rfl (by rw [hg_36]; rfl) ?_
            refine lp (b := !decide (r_32 = 1)) 24 rfl rfl rfl rfl (by rw [hg_36]; rfl) ?_
            refine lv (v := (.bool true)) rfl rfl (r_pickT (congrArg Value.bool hg_36) rfl) ?_
            refine lnil ?_
            exact ⟨col_3, true, hm, hst, h0, h1, rfl, rfl, rfl, rfl, rfl⟩
          · rw [if_neg hg_36] at hm
            replace hg_36 := Bool.eq_false_iff.2 hg_36
            refine lg (b := !decide (r_32 = 1)) 24 rfl rfl rfl (by rw [hg_36]; rfl) ?_
            refine lv (v := (.slice a1 p1_points.length cap1)) rfl rfl (r_move rfl) ?_
            refine lg (b := !decide (r_32 = 1)) 24 rfl rfl rfl (by rw [hg_36]; rfl) ?_
            refine lv (v := (.slice a1 p1_points.length cap1)) rfl rfl (r_move rfl) ?_
            refine lg (b := !decide (r_32 = 1)) 24 rfl rfl rfl (by rw [hg_36]; rfl) ?_
            refine lv (v := (.int .i64 i_4)) rfl rfl (r_move rfl) ?_
            refine lg (b := !decide (r_32 = 1)) 24 rfl rfl rfl (by rw [hg_36]; rfl) ?_
            refine lv (v := (sptr a1 (Int.toNat i_4 * 1))) rfl rfl (r_idx Try.underlying22 Try.sizeOf3 rfl rfl (at?_some hj_31).1 (at?_some hj_31).2.1 (h1.addr hj_31)) ?_
            refine lg (b := !decide (r_32 = 1)) 24 rfl rfl rfl (by rw [hg_36]; rfl) ?_
            refine lv (v := (.int .i64 e_30)) rfl rfl (r_ld Try.isAgg3 rfl (h1.atInt hj_31)) ?_
            refine lg (b := !decide (r_32 = 1)) 24 rfl rfl rfl (by rw [hg_36]; rfl) ?_
            obtain ⟨r_37, hr_38, hm⟩ := bind_some hm
            refine lc rfl rfl (r_call2 Try.call83 rfl rfl) (c_credenceref18_times N col_3 _ a1 cap1 p1_points e_30 h1 r_37 hr_38) ?_
            rintro _ w_39 ⟨rfl, hg_40⟩
            refine ⟨_, rfl, ?_⟩
            replace hg_40 : Grow col_3 w_34 col_3 w_39 := .of_below hg_40
            replace h0 := h0.gr hg_40
            replace h1 := h1.gr hg_40
            replace hst := hst.grow hg_40
            refine lg (b := !decide (r_32 = 1)) 24 rfl rfl rfl (by rw [hg_36]; rfl) ?_
            refine lv (v := (.bool (!decide (r_37 = 1)))) rfl rfl (r_neq r_37 1 rfl rfl) ?_
            refine lv (v := (.bool (!decide (r_37 = 1)))) rfl rfl (r_pickF (congrArg Value.bool hg_36) rfl) ?_
            refine lnil ?_
            exact ⟨col_3, (!decide (r_37 = 1)), hm, hst, h0, h1, rfl, rfl, rfl, rfl, rfl⟩
      · rw [if_neg (by rw [hb]; decide)] at hm
        clear hb
        refine wexit (inB_hit ?_)
        refine wseq ?_
        refine wregion ?_
        refine lv (v := (.int .i64 0)) rfl rfl (r_assign rfl) ?_
        refine lnil ?_
        refine wret ?_
        cases hm
        exact ⟨rfl, rfl, hst.below⟩




def m_credencelaw18_kept_J1 (i_5 : Int) (kk_L1 : (Int → Option Bool)) : Option Bool :=
  kk_L1 (IntKind.i64.wrap (i_5 + 1))

def m_credencelaw18_kept_J2 (i_5 : Int) (kk_L1 : (Int → Option Bool)) (v_40 : Bool) : Option Bool :=
  if v_40 = true then (some false) else (m_credencelaw18_kept_J1 i_5 kk_L1)

def m_credencelaw18_kept_L1 (N : Nat) (n0 : Nat) (p0_m : (List Int)) (p1_l : (List Int)) : Nat → Int → Option Bool
  | 0, _ => none
  | n_2 + 1, i_5 => if (decide (i_5 < ((p0_m.take (Int.toNat (IntKind.i64.wrap ((p1_l.length : Int) + 9)))).length : Int))) = true then (if (decide (i_5 < (p1_l.length : Int))) = true then ((at? (p0_m.take (Int.toNat (IntKind.i64.wrap ((p1_l.length : Int) + 9)))) i_5).bind fun e_42 => (at? p1_l i_5).bind fun e_44 => if (!decide (e_42 = e_44)) = true then (m_credencelaw18_kept_J2 i_5 (m_credencelaw18_kept_L1 N n0 p0_m p1_l n_2) true) else (if (decide ((p1_l.length : Int) ≤ i_5)) = true then (m_credencelaw18_kept_J2 i_5 (m_credencelaw18_kept_L1 N n0 p0_m p1_l n_2) (!decide (e_42 = (IntKind.i64.wrap ((-70) - (IntKind.i64.wrap (i_5 - (p1_l.length : Int)))))))) else (m_credencelaw18_kept_J2 i_5 (m_credencelaw18_kept_L1 N n0 p0_m p1_l n_2) false))) else (if (decide ((p1_l.length : Int) ≤ i_5)) = true then ((at? (p0_m.take (Int.toNat (IntKind.i64.wrap ((p1_l.length : Int) + 9)))) i_5).bind fun e_52 => m_credencelaw18_kept_J2 i_5 (m_credencelaw18_kept_L1 N n0 p0_m p1_l n_2) (!decide (e_52 = (IntKind.i64.wrap ((-70) - (IntKind.i64.wrap (i_5 - (p1_l.length : Int)))))))) else (m_credencelaw18_kept_J2 i_5 (m_credencelaw18_kept_L1 N n0 p0_m p1_l n_2) false))) else (some (decide (((p0_m.take n0).length : Int) = (p1_l.length : Int))))

def m_credencelaw18_kept (N : Nat) (n0 : Nat) (p0_m : (List Int)) (p1_l : (List Int)) : Option Bool :=
  chk ((0 : Int) ≤ (IntKind.i64.wrap ((p1_l.length : Int) + 9)) ∧ (IntKind.i64.wrap ((p1_l.length : Int) + 9)) ≤ (p0_m.length : Int)) (m_credencelaw18_kept_L1 N n0 p0_m p1_l N 0)

set_option maxRecDepth 100000 in
set_option maxHeartbeats 2000000 in
theorem c_credencelaw18_kept (N : Nat) (col : Col) (w0 : World) (a0 : Option Addr) (cap0 : Nat) (n0 : Nat) (p0_m : (List Int)) (a1 : Option Addr) (cap1 : Nat) (p1_l : (List Int)) (h0 : Sl (Rep.int .i64) col w0 a0 cap0 p0_m) (h1 : Sl (Rep.int .i64) col w0 a1 cap1 p1_l) (r : Bool) (hm : m_credencelaw18_kept N n0 p0_m p1_l = some r) :
    Calls Try.prog 38 #[(.slice a0 ((p0_m.take n0).length) cap0), (.slice a1 p1_l.length cap1)] w0 (fun e w' => e = .returned ((.bool r)) ∧ Below w0.heap.size w0 w') := by
  refine calls_of1 4 (m := 56) (args := [(.slice a0 ((p0_m.take n0).length) cap0), (.slice a1 p1_l.length cap1)]) Try.func38 rfl rfl rfl rfl rfl ?_
  rw [m_credencelaw18_kept.eq_1] at hm
  have hst := St.start col w0
  replace h0 := h0.keep (Stay.start col w0)
  replace h1 := h1.keep (Stay.start col w0)
  refine wseq ?_
  refine wregion ?_
  refine lv (v := (.bool false)) rfl rfl (r_assign rfl) ?_
  refine lnil ?_
  refine wseq ?_
  refine wregion ?_
  refine lv (v := (.slice a0 ((p0_m.take n0).length) cap0)) rfl rfl (r_move rfl) ?_
  refine lv (v := (.slice a1 p1_l.length cap1)) rfl rfl (r_move rfl) ?_
  refine lv (v := (.int .i64 (p1_l.length : Int))) rfl rfl (r_len Try.underlying22 rfl) ?_
  refine lv (v := (.int .i64 (IntKind.i64.wrap ((p1_l.length : Int) + 9)))) rfl rfl (r_add (p1_l.length : Int) 9 rfl rfl) ?_
  obtain ⟨hb_1, hm⟩ := chk_some hm
  refine lv (v := .slice a0 (Int.toNat (IntKind.i64.wrap ((p1_l.length : Int) + 9))) cap0) rfl rfl (r_sliceH Try.underlying22 Try.sizeOf3 rfl rfl hb_1.1 (by have := h0.1.2; have := hb_1.2; omega)) ?_
  refine .ld (d := 11) (v := (.slice a0 ((p0_m.take (Int.toNat (IntKind.i64.wrap ((p1_l.length : Int) + 9)))).length) cap0)) (congrArg (fun n => Value.slice a0 n cap0) (List.length_take_of_le (show (Int.toNat (IntKind.i64.wrap ((p1_l.length : Int) + 9))) ≤ p0_m.length by have := hb_1.2; omega)).symm) ?_
  refine lv (v := (.slice a0 ((p0_m.take (Int.toNat (IntKind.i64.wrap ((p1_l.length : Int) + 9)))).length) cap0)) rfl rfl (r_assign rfl) ?_
  refine lnil ?_
  refine wseq ?_
  refine wseq ?_
  refine wregion ?_
  refine lv (v := (.int .i64 0)) rfl rfl (r_assign rfl) ?_
  refine lnil ?_
  refine wblock ?_
  refine wloop (fun n f w_3 => ∃ (col_4 : Col) (i_5 : Int) (n_2 : Nat), n_2 = n ∧ m_credencelaw18_kept_L1 N n0 p0_m p1_l n_2 i_5 = some r ∧ St w0 (col0 col) col_4 w_3 ∧ Sl (Rep.int .i64) col_4 w_3 a0 cap0 p0_m ∧ Sl (Rep.int .i64) col_4 w_3 a1 cap1 p1_l ∧ f 0 = (.slice a0 ((p0_m.take n0).length) cap0) ∧ f 1 = (.slice a1 p1_l.length cap1) ∧ f 5 = (.slice a0 ((p0_m.take (Int.toNat (IntKind.i64.wrap ((p1_l.length : Int) + 9)))).length) cap0) ∧ f 6 = (.int .i64 i_5) ∧ f 1000000 = (enc [])) N ⟨(col0 col), 0, N, rfl, hm, hst, h0, h1, rfl, rfl, rfl, rfl, rfl⟩ ?_
  clear hm; intro n f w_3 hI
  obtain ⟨col_4, i_5, n_2, hn, hm, hst, h0, h1, hs0, hs1, hs5, hs6, hs1000000⟩ := hI
  subst hn
  refine .ld (d := 0) (v := (.slice a0 ((p0_m.take n0).length) cap0)) hs0 ?_
  refine .ld (d := 1) (v := (.slice a1 p1_l.length cap1)) hs1 ?_
  refine .ld (d := 5) (v := (.slice a0 ((p0_m.take (Int.toNat (IntKind.i64.wrap ((p1_l.length : Int) + 9)))).length) cap0)) hs5 ?_
  refine .ld (d := 6) (v := (.int .i64 i_5)) hs6 ?_
  refine .ld (d := 1000000) (v := (enc [])) hs1000000 ?_
  clear hs0 hs1 hs5 hs6 hs1000000
  cases n_2 with
  | zero => rw [m_credencelaw18_kept_L1.eq_1] at hm; cases hm
  | succ n_2 =>
    rw [m_credencelaw18_kept_L1.eq_2] at hm
    refine wseq ?_
    refine wseq ?_
    refine wregion ?_
    refine lv (v := (.int .i64 i_5)) rfl rfl (r_move rfl) ?_
    refine lv (v := (.slice a0 ((p0_m.take (Int.toNat (IntKind.i64.wrap ((p1_l.length : Int) + 9)))).length) cap0)) rfl rfl (r_move rfl) ?_
    refine lv (v := (.int .i64 ((p0_m.take (Int.toNat (IntKind.i64.wrap ((p1_l.length : Int) + 9)))).length : Int))) rfl rfl (r_len Try.underlying22 rfl) ?_
    refine lv (v := (.bool (decide (i_5 < ((p0_m.take (Int.toNat (IntKind.i64.wrap ((p1_l.length : Int) + 9)))).length : Int))))) rfl rfl (r_lss i_5 ((p0_m.take (Int.toNat (IntKind.i64.wrap ((p1_l.length : Int) + 9)))).length : Int) rfl rfl) ?_
    refine lnil ?_
    refine wcond (decide (i_5 < ((p0_m.take (Int.toNat (IntKind.i64.wrap ((p1_l.length : Int) + 9)))).length : Int))) rfl (fun hb => ?_) (fun hb => ?_)
    · rw [if_pos hb] at hm
      clear hb
      refine wskip ?_
      refine wseq ?_
      refine Wp.cut (fun f w_6 => ∃ (col_7 : Col), m_credencelaw18_kept_J1 i_5 (m_credencelaw18_kept_L1 N n0 p0_m p1_l n_2)  = some r ∧ St w0 (col0 col) col_7 w_6 ∧ Sl (Rep.int .i64) col_7 w_6 a0 cap0 p0_m ∧ Sl (Rep.int .i64) col_7 w_6 a1 cap1 p1_l ∧ f 0 = (.slice a0 ((p0_m.take n0).length) cap0) ∧ f 1 = (.slice a1 p1_l.length cap1) ∧ f 5 = (.slice a0 ((p0_m.take (Int.toNat (IntKind.i64.wrap ((p1_l.length : Int) + 9)))).length) cap0) ∧ f 6 = (.int .i64 i_5) ∧ f 1000000 = (enc [])) ?_ ?_
      · intro f w_6 hJ
        obtain ⟨col_7, hm, hst, h0, h1, hs0, hs1, hs5, hs6, hs1000000⟩ := hJ
        rw [m_credencelaw18_kept_J1.eq_1] at hm
        refine .ld (d := 0) (v := (.slice a0 ((p0_m.take n0).length) cap0)) hs0 ?_
        refine .ld (d := 1) (v := (.slice a1 p1_l.length cap1)) hs1 ?_
        refine .ld (d := 5) (v := (.slice a0 ((p0_m.take (Int.toNat (IntKind.i64.wrap ((p1_l.length : Int) + 9)))).length) cap0)) hs5 ?_
        refine .ld (d := 6) (v := (.int .i64 i_5)) hs6 ?_
        refine .ld (d := 1000000) (v := (enc [])) hs1000000 ?_
        clear hs0 hs1 hs5 hs6 hs1000000
        refine wregion ?_
        refine lv (v := (.int .i64 i_5)) rfl rfl (r_move rfl) ?_
        refine lv (v := (.int .i64 (IntKind.i64.wrap (i_5 + 1)))) rfl rfl (r_add i_5 1 rfl rfl) ?_
        refine lv (v := (.int .i64 (IntKind.i64.wrap (i_5 + 1)))) rfl rfl (r_assign rfl) ?_
        refine lnil ?_
        exact ⟨n_2, by omega, ⟨col_7, (IntKind.i64.wrap (i_5 + 1)), n_2, rfl, hm, hst, h0, h1, rfl, rfl, rfl, rfl, rfl⟩⟩
      · refine wblock ?_
        refine wseq ?_
        refine Wp.cut (fun f w_38 => ∃ (col_39 : Col) (v_40 : Bool), m_credencelaw18_kept_J2 i_5 (m_credencelaw18_kept_L1 N n0 p0_m p1_l n_2) v_40 = some r ∧ St w0 (col0 col) col_39 w_38 ∧ Sl (Rep.int .i64) col_39 w_38 a0 cap0 p0_m ∧ Sl (Rep.int .i64) col_39 w_38 a1 cap1 p1_l ∧ f 0 = (.slice a0 ((p0_m.take n0).length) cap0) ∧ f 1 = (.slice a1 p1_l.length cap1) ∧ f 5 = (.slice a0 ((p0_m.take (Int.toNat (IntKind.i64.wrap ((p1_l.length : Int) + 9)))).length) cap0) ∧ f 50 = (.bool v_40) ∧ f 6 = (.int .i64 i_5) ∧ f 1000000 = (enc [])) ?_ ?_
        · intro f w_38 hJ
          obtain ⟨col_39, v_40, hm, hst, h0, h1, hs0, hs1, hs5, hs50, hs6, hs1000000⟩ := hJ
          rw [m_credencelaw18_kept_J2.eq_1] at hm
          refine .ld (d := 0) (v := (.slice a0 ((p0_m.take n0).length) cap0)) hs0 ?_
          refine .ld (d := 1) (v := (.slice a1 p1_l.length cap1)) hs1 ?_
          refine .ld (d := 5) (v := (.slice a0 ((p0_m.take (Int.toNat (IntKind.i64.wrap ((p1_l.length : Int) + 9)))).length) cap0)) hs5 ?_
          refine .ld (d := 50) (v := (.bool v_40)) hs50 ?_
          refine .ld (d := 6) (v := (.int .i64 i_5)) hs6 ?_
          refine .ld (d := 1000000) (v := (enc [])) hs1000000 ?_
          clear hs0 hs1 hs5 hs50 hs6 hs1000000
          refine wcond (v_40) rfl (fun hb => ?_) (fun hb => ?_)
          · rw [if_pos hb] at hm
            clear hb
            refine wseq ?_
            refine wregion ?_
            refine lv (v := (.bool false)) rfl rfl (r_assign rfl) ?_
            refine lnil ?_
            refine wret ?_
            cases hm
            exact ⟨rfl, rfl, hst.below⟩
          · rw [if_neg (by rw [hb]; decide)] at hm
            clear hb
            refine wskip ?_
            exact ⟨col_39, hm, hst, h0, h1, rfl, rfl, rfl, rfl, rfl⟩
        · refine wquiet (col := col_4) (by kernel_rfl) (by kernel_rfl) ?_
          refine qv (v := (.int .i64 i_5)) rfl (fun _ hC => r_move rfl) ?_
          refine qv (v := (.slice a1 p1_l.length cap1)) rfl (fun _ hC => r_move rfl) ?_
          refine qv (v := (.int .i64 (p1_l.length : Int))) rfl (fun _ hC => r_len Try.underlying22 rfl) ?_
          refine qv (v := (.bool (decide (i_5 < (p1_l.length : Int))))) rfl (fun _ hC => r_lss i_5 (p1_l.length : Int) rfl rfl) ?_
          refine qv (v := (.bool (decide (i_5 < (p1_l.length : Int))))) rfl (fun _ hC => r_move rfl) ?_
          by_cases hg_41 : (decide (i_5 < (p1_l.length : Int))) = true
          · rw [if_pos hg_41] at hm
            refine qg (b := decide (i_5 < (p1_l.length : Int))) 22 rfl rfl rfl (by rw [hg_41]; rfl) ?_
            refine qv (v := (.slice a0 ((p0_m.take (Int.toNat (IntKind.i64.wrap ((p1_l.length : Int) + 9)))).length) cap0)) rfl (fun _ hC => r_move rfl) ?_
            refine qg (b := decide (i_5 < (p1_l.length : Int))) 22 rfl rfl rfl (by rw [hg_41]; rfl) ?_
            refine qv (v := (.int .i64 i_5)) rfl (fun _ hC => r_move rfl) ?_
            refine qg (b := decide (i_5 < (p1_l.length : Int))) 22 rfl rfl rfl (by rw [hg_41]; rfl) ?_
            obtain ⟨e_42, hj_43, hm⟩ := bind_some hm
            refine qv (v := (sptr a0 (Int.toNat i_5 * 1))) rfl (fun _ hC => r_idx Try.underlying22 Try.sizeOf3 rfl rfl (at?_some hj_43).1 (at?_some hj_43).2.1 ((h0.take (Int.toNat (IntKind.i64.wrap ((p1_l.length : Int) + 9)))).addr hj_43)) ?_
            refine qg (b := decide (i_5 < (p1_l.length : Int))) 22 rfl rfl rfl (by rw [hg_41]; rfl) ?_
            refine qv (v := (.int .i64 e_42)) rfl (fun _ hC => r_ld Try.isAgg3 rfl (((h0.take (Int.toNat (IntKind.i64.wrap ((p1_l.length : Int) + 9)))).gr (Grow.of_below (col := col_4) hC.below)).atInt hj_43)) ?_
            refine qg (b := decide (i_5 < (p1_l.length : Int))) 22 rfl rfl rfl (by rw [hg_41]; rfl) ?_
            refine qv (v := (.slice a1 p1_l.length cap1)) rfl (fun _ hC => r_move rfl) ?_
            refine qg (b := decide (i_5 < (p1_l.length : Int))) 22 rfl rfl rfl (by rw [hg_41]; rfl) ?_
            refine qv (v := (.int .i64 i_5)) rfl (fun _ hC => r_move rfl) ?_
            refine qg (b := decide (i_5 < (p1_l.length : Int))) 22 rfl rfl rfl (by rw [hg_41]; rfl) ?_
            obtain ⟨e_44, hj_45, hm⟩ := bind_some hm
            refine qv (v := (sptr a1 (Int.toNat i_5 * 1))) rfl (fun _ hC => r_idx Try.underlying22 Try.sizeOf3 rfl rfl (at?_some hj_45).1 (at?_some hj_45).2.1 (h1.addr hj_45)) ?_
            refine qg (b := decide (i_5 < (p1_l.length : Int))) 22 rfl rfl rfl (by rw [hg_41]; rfl) ?_
            refine qv (v := (.int .i64 e_44)) rfl (fun _ hC => r_ld Try.isAgg3 rfl ((h1.gr (Grow.of_below (col := col_4) hC.below)).atInt hj_45)) ?_
            refine qg (b := decide (i_5 < (p1_l.length : Int))) 22 rfl rfl rfl (by rw [hg_41]; rfl) ?_
            refine qv (v := (.bool (!decide (e_42 = e_44)))) rfl (fun _ hC => r_neq e_42 e_44 rfl rfl) ?_
            refine qv (v := (.bool (!decide (e_42 = e_44)))) rfl (fun _ hC => r_pickT (congrArg Value.bool hg_41) rfl) ?_
            refine qv (v := (.bool (!decide (e_42 = e_44)))) rfl (fun _ hC => r_move rfl) ?_
            by_cases hg_46 : (!decide (e_42 = e_44)) = true
            · rw [if_pos hg_46] at hm
              refine qp (b := !decide (e_42 = e_44)) 33 rfl rfl rfl rfl (by rw [hg_46]; rfl) ?_
              refine qp (b := !decide (e_42 = e_44)) 33 rfl rfl rfl rfl (by rw [hg_46]; rfl) ?_
              refine qp (b := !decide (e_42 = e_44)) 33 rfl rfl rfl rfl (by rw [hg_46]; rfl) ?_
              refine qp (b := !decide (e_42 = e_44)) 33 rfl rfl rfl rfl (by rw [hg_46]; rfl) ?_
              refine qp (b := !decide (e_42 = e_44)) 33 rfl rfl rfl rfl (by rw [hg_46]; rfl) ?_
              refine qpU 38 rfl rfl rfl rfl ?_
              refine qpU 38 rfl rfl rfl rfl ?_
              refine qpU 38 rfl rfl rfl rfl ?_
              refine qpU 38 rfl rfl rfl rfl ?_
              refine qpU 38 rfl rfl rfl rfl ?_
              refine qpU 38 rfl rfl rfl rfl ?_
              refine qpU 38 rfl rfl rfl rfl ?_
              refine qpU 38 rfl rfl rfl rfl ?_
              refine qpU 38 rfl rfl rfl rfl ?_
              refine qpU 38 rfl rfl rfl rfl ?_
              refine qp (b := !decide (e_42 = e_44)) 33 rfl rfl rfl rfl (by rw [hg_46]; rfl) ?_
              refine qv (v := (.bool true)) rfl (fun _ hC => r_pickT (congrArg Value.bool hg_46) rfl) ?_
              refine qnil ?_
              intro w_47 hC
              replace hC : Grow col_4 w_3 col_4 w_47 := .of_below hC.below
              replace h0 := h0.gr hC
              replace h1 := h1.gr hC
              replace hst := hst.grow hC
              exact ⟨col_4, true, hm, hst, h0, h1, rfl, rfl, rfl, rfl, rfl, rfl⟩
            · rw [if_neg hg_46] at hm
              replace hg_46 := Bool.eq_false_iff.2 hg_46
              refine qg (b := !decide (e_42 = e_44)) 33 rfl rfl rfl (by rw [hg_46]; rfl) ?_
              refine qv (v := (.int .i64 i_5)) rfl (fun _ hC => r_move rfl) ?_
              refine qg (b := !decide (e_42 = e_44)) 33 rfl rfl rfl (by rw [hg_46]; rfl) ?_
              refine qv (v := (.slice a1 p1_l.length cap1)) rfl (fun _ hC => r_move rfl) ?_
              refine qg (b := !decide (e_42 = e_44)) 33 rfl rfl rfl (by rw [hg_46]; rfl) ?_
              refine qv (v := (.int .i64 (p1_l.length : Int))) rfl (fun _ hC => r_len Try.underlying22 rfl) ?_
              refine qg (b := !decide (e_42 = e_44)) 33 rfl rfl rfl (by rw [hg_46]; rfl) ?_
              refine qv (v := (.bool (decide ((p1_l.length : Int) ≤ i_5)))) rfl (fun _ hC => r_geq i_5 (p1_l.length : Int) rfl rfl) ?_
              refine qg (b := !decide (e_42 = e_44)) 33 rfl rfl rfl (by rw [hg_46]; rfl) ?_
              refine qv (v := (.bool (decide ((p1_l.length : Int) ≤ i_5)))) rfl (fun _ hC => r_move rfl) ?_
              by_cases hg_48 : (decide ((p1_l.length : Int) ≤ i_5)) = true
              · rw [if_pos hg_48] at hm
                refine qg (b := decide ((p1_l.length : Int) ≤ i_5)) 38 rfl rfl rfl (by rw [hg_48]; rfl) ?_
                refine qv (v := (.slice a0 ((p0_m.take (Int.toNat (IntKind.i64.wrap ((p1_l.length : Int) + 9)))).length) cap0)) rfl (fun _ hC => r_move rfl) ?_
                refine qg (b := decide ((p1_l.length : Int) ≤ i_5)) 38 rfl rfl rfl (by rw [hg_48]; rfl) ?_
                refine qv (v := (.int .i64 i_5)) rfl (fun _ hC => r_move rfl) ?_
                refine qg (b := decide ((p1_l.length : Int) ≤ i_5)) 38 rfl rfl rfl (by rw [hg_48]; rfl) ?_
                refine qv (v := (sptr a0 (Int.toNat i_5 * 1))) rfl (fun _ hC => r_idx Try.underlying22 Try.sizeOf3 rfl rfl (at?_some hj_43).1 (at?_some hj_43).2.1 ((h0.take (Int.toNat (IntKind.i64.wrap ((p1_l.length : Int) + 9)))).addr hj_43)) ?_
                refine qg (b := decide ((p1_l.length : Int) ≤ i_5)) 38 rfl rfl rfl (by rw [hg_48]; rfl) ?_
                refine qv (v := (.int .i64 e_42)) rfl (fun _ hC => r_ld Try.isAgg3 rfl (((h0.take (Int.toNat (IntKind.i64.wrap ((p1_l.length : Int) + 9)))).gr (Grow.of_below (col := col_4) hC.below)).atInt hj_43)) ?_
                refine qg (b := decide ((p1_l.length : Int) ≤ i_5)) 38 rfl rfl rfl (by rw [hg_48]; rfl) ?_
                refine qv (v := (.int .i64 i_5)) rfl (fun _ hC => r_move rfl) ?_
                refine qg (b := decide ((p1_l.length : Int) ≤ i_5)) 38 rfl rfl rfl (by rw [hg_48]; rfl) ?_
                refine qv (v := (.slice a1 p1_l.length cap1)) rfl (fun _ hC => r_move rfl) ?_
                refine qg (b := decide ((p1_l.length : Int) ≤ i_5)) 38 rfl rfl rfl (by rw [hg_48]; rfl) ?_
                refine qv (v := (.int .i64 (p1_l.length : Int))) rfl (fun _ hC => r_len Try.underlying22 rfl) ?_
                refine qg (b := decide ((p1_l.length : Int) ≤ i_5)) 38 rfl rfl rfl (by rw [hg_48]; rfl) ?_
                refine qv (v := (.int .i64 (IntKind.i64.wrap (i_5 - (p1_l.length : Int))))) rfl (fun _ hC => r_sub i_5 (p1_l.length : Int) rfl rfl) ?_
                refine qg (b := decide ((p1_l.length : Int) ≤ i_5)) 38 rfl rfl rfl (by rw [hg_48]; rfl) ?_
                refine qv (v := (.int .i64 (IntKind.i64.wrap ((-70) - (IntKind.i64.wrap (i_5 - (p1_l.length : Int))))))) rfl (fun _ hC => r_sub (-70) (IntKind.i64.wrap (i_5 - (p1_l.length : Int))) rfl rfl) ?_
                refine qg (b := decide ((p1_l.length : Int) ≤ i_5)) 38 rfl rfl rfl (by rw [hg_48]; rfl) ?_
                refine qv (v := (.bool (!decide (e_42 = (IntKind.i64.wrap ((-70) - (IntKind.i64.wrap (i_5 - (p1_l.length : Int))))))))) rfl (fun _ hC => r_neq e_42 (IntKind.i64.wrap ((-70) - (IntKind.i64.wrap (i_5 - (p1_l.length : Int))))) rfl rfl) ?_
                refine qg (b := !decide (e_42 = e_44)) 33 rfl rfl rfl (by rw [hg_46]; rfl) ?_
                refine qv (v := (.bool (!decide (e_42 = (IntKind.i64.wrap ((-70) - (IntKind.i64.wrap (i_5 - (p1_l.length : Int))))))))) rfl (fun _ hC => r_pickT (congrArg Value.bool hg_48) rfl) ?_
                refine qv (v := (.bool (!decide (e_42 = (IntKind.i64.wrap ((-70) - (IntKind.i64.wrap (i_5 - (p1_l.length : Int))))))))) rfl (fun _ hC => r_pickF (congrArg Value.bool hg_46) rfl) ?_
                refine qnil ?_
                intro w_49 hC
                replace hC : Grow col_4 w_3 col_4 w_49 := .of_below hC.below
                replace h0 := h0.gr hC
                replace h1 := h1.gr hC
                replace hst := hst.grow hC
                exact ⟨col_4, (!decide (e_42 = (IntKind.i64.wrap ((-70) - (IntKind.i64.wrap (i_5 - (p1_l.length : Int))))))), hm, hst, h0, h1, rfl, rfl, rfl, rfl, rfl, rfl⟩
              · rw [if_neg hg_48] at hm
                replace hg_48 := Bool.eq_false_iff.2 hg_48
                refine qp (b := decide ((p1_l.length : Int) ≤ i_5)) 38 rfl rfl rfl rfl (by rw [hg_48]; rfl) ?_
                refine qp (b := decide ((p1_l.length : Int) ≤ i_5)) 38 rfl rfl rfl rfl (by rw [hg_48]; rfl) ?_
                refine qp (b := decide ((p1_l.length : Int) ≤ i_5)) 38 rfl rfl rfl rfl (by rw [hg_48]; rfl) ?_
                refine qp (b := decide ((p1_l.length : Int) ≤ i_5)) 38 rfl rfl rfl rfl (by rw [hg_48]; rfl) ?_
                refine qp (b := decide ((p1_l.length : Int) ≤ i_5)) 38 rfl rfl rfl rfl (by rw [hg_48]; rfl) ?_
                refine qp (b := decide ((p1_l.length : Int) ≤ i_5)) 38 rfl rfl rfl rfl (by rw [hg_48]; rfl) ?_
                refine qp (b := decide ((p1_l.length : Int) ≤ i_5)) 38 rfl rfl rfl rfl (by rw [hg_48]; rfl) ?_
                refine qp (b := decide ((p1_l.length : Int) ≤ i_5)) 38 rfl rfl rfl rfl (by rw [hg_48]; rfl) ?_
                refine qp (b := decide ((p1_l.length : Int) ≤ i_5)) 38 rfl rfl rfl rfl (by rw [hg_48]; rfl) ?_
                refine qp (b := decide ((p1_l.length : Int) ≤ i_5)) 38 rfl rfl rfl rfl (by rw [hg_48]; rfl) ?_
                refine qg (b := !decide (e_42 = e_44)) 33 rfl rfl rfl (by rw [hg_46]; rfl) ?_
                refine qv (v := (.bool false)) rfl (fun _ hC => r_pickF (congrArg Value.bool hg_48) rfl) ?_
                refine qv (v := (.bool false)) rfl (fun _ hC => r_pickF (congrArg Value.bool hg_46) rfl) ?_
                refine qnil ?_
                intro w_50 hC
                replace hC : Grow col_4 w_3 col_4 w_50 := .of_below hC.below
                replace h0 := h0.gr hC
                replace h1 := h1.gr hC
                replace hst := hst.grow hC
                exact ⟨col_4, false, hm, hst, h0, h1, rfl, rfl, rfl, rfl, rfl, rfl⟩
          · rw [if_neg hg_41] at hm
            replace hg_41 := Bool.eq_false_iff.2 hg_41
            refine qp (b := decide (i_5 < (p1_l.length : Int))) 22 rfl rfl rfl rfl (by rw [hg_41]; rfl) ?_
            refine qp (b := decide (i_5 < (p1_l.length : Int))) 22 rfl rfl rfl rfl (by rw [hg_41]; rfl) ?_
            refine qp (b := decide (i_5 < (p1_l.length : Int))) 22 rfl rfl rfl rfl (by rw [hg_41]; rfl) ?_
            refine qp (b := decide (i_5 < (p1_l.length : Int))) 22 rfl rfl rfl rfl (by rw [hg_41]; rfl) ?_
            refine qp (b := decide (i_5 < (p1_l.length : Int))) 22 rfl rfl rfl rfl (by rw [hg_41]; rfl) ?_
            refine qp (b := decide (i_5 < (p1_l.length : Int))) 22 rfl rfl rfl rfl (by rw [hg_41]; rfl) ?_
            refine qp (b := decide (i_5 < (p1_l.length : Int))) 22 rfl rfl rfl rfl (by rw [hg_41]; rfl) ?_
            refine qp (b := decide (i_5 < (p1_l.length : Int))) 22 rfl rfl rfl rfl (by rw [hg_41]; rfl) ?_
            refine qp (b := decide (i_5 < (p1_l.length : Int))) 22 rfl rfl rfl rfl (by rw [hg_41]; rfl) ?_
            refine qv (v := (.bool false)) rfl (fun _ hC => r_pickF (congrArg Value.bool hg_41) rfl) ?_
            refine qv (v := (.bool false)) rfl (fun _ hC => r_move rfl) ?_
            refine qg (b := false) 33 rfl rfl rfl rfl ?_
            refine qv (v := (.int .i64 i_5)) rfl (fun _ hC => r_move rfl) ?_
            refine qg (b := false) 33 rfl rfl rfl rfl ?_
            refine qv (v := (.slice a1 p1_l.length cap1)) rfl (fun _ hC => r_move rfl) ?_
            refine qg (b := false) 33 rfl rfl rfl rfl ?_
            refine qv (v := (.int .i64 (p1_l.length : Int))) rfl (fun _ hC => r_len Try.underlying22 rfl) ?_
            refine qg (b := false) 33 rfl rfl rfl rfl ?_
            refine qv (v := (.bool (decide ((p1_l.length : Int) ≤ i_5)))) rfl (fun _ hC => r_geq i_5 (p1_l.length : Int) rfl rfl) ?_
            refine qg (b := false) 33 rfl rfl rfl rfl ?_
            refine qv (v := (.bool (decide ((p1_l.length : Int) ≤ i_5)))) rfl (fun _ hC => r_move rfl) ?_
            by_cases hg_51 : (decide ((p1_l.length : Int) ≤ i_5)) = true
            · rw [if_pos hg_51] at hm
              refine qg (b := decide ((p1_l.length : Int) ≤ i_5)) 38 rfl rfl rfl (by rw [hg_51]; rfl) ?_
              refine qv (v := (.slice a0 ((p0_m.take (Int.toNat (IntKind.i64.wrap ((p1_l.length : Int) + 9)))).length) cap0)) rfl (fun _ hC => r_move rfl) ?_
              refine qg (b := decide ((p1_l.length : Int) ≤ i_5)) 38 rfl rfl rfl (by rw [hg_51]; rfl) ?_
              refine qv (v := (.int .i64 i_5)) rfl (fun _ hC => r_move rfl) ?_
              refine qg (b := decide ((p1_l.length : Int) ≤ i_5)) 38 rfl rfl rfl (by rw [hg_51]; rfl) ?_
              obtain ⟨e_52, hj_53, hm⟩ := bind_some hm
              refine qv (v := (sptr a0 (Int.toNat i_5 * 1))) rfl (fun _ hC => r_idx Try.underlying22 Try.sizeOf3 rfl rfl (at?_some hj_53).1 (at?_some hj_53).2.1 ((h0.take (Int.toNat (IntKind.i64.wrap ((p1_l.length : Int) + 9)))).addr hj_53)) ?_
              refine qg (b := decide ((p1_l.length : Int) ≤ i_5)) 38 rfl rfl rfl (by rw [hg_51]; rfl) ?_
              refine qv (v := (.int .i64 e_52)) rfl (fun _ hC => r_ld Try.isAgg3 rfl (((h0.take (Int.toNat (IntKind.i64.wrap ((p1_l.length : Int) + 9)))).gr (Grow.of_below (col := col_4) hC.below)).atInt hj_53)) ?_
              refine qg (b := decide ((p1_l.length : Int) ≤ i_5)) 38 rfl rfl rfl (by rw [hg_51]; rfl) ?_
              refine qv (v := (.int .i64 i_5)) rfl (fun _ hC => r_move rfl) ?_
              refine qg (b := decide ((p1_l.length : Int) ≤ i_5)) 38 rfl rfl rfl (by rw [hg_51]; rfl) ?_
              refine qv (v := (.slice a1 p1_l.length cap1)) rfl (fun _ hC => r_move rfl) ?_
              refine qg (b := decide ((p1_l.length : Int) ≤ i_5)) 38 rfl rfl rfl (by rw [hg_51]; rfl) ?_
              refine qv (v := (.int .i64 (p1_l.length : Int))) rfl (fun _ hC => r_len Try.underlying22 rfl) ?_
              refine qg (b := decide ((p1_l.length : Int) ≤ i_5)) 38 rfl rfl rfl (by rw [hg_51]; rfl) ?_
              refine qv (v := (.int .i64 (IntKind.i64.wrap (i_5 - (p1_l.length : Int))))) rfl (fun _ hC => r_sub i_5 (p1_l.length : Int) rfl rfl) ?_
              refine qg (b := decide ((p1_l.length : Int) ≤ i_5)) 38 rfl rfl rfl (by rw [hg_51]; rfl) ?_
              refine qv (v := (.int .i64 (IntKind.i64.wrap ((-70) - (IntKind.i64.wrap (i_5 - (p1_l.length : Int))))))) rfl (fun _ hC => r_sub (-70) (IntKind.i64.wrap (i_5 - (p1_l.length : Int))) rfl rfl) ?_
              refine qg (b := decide ((p1_l.length : Int) ≤ i_5)) 38 rfl rfl rfl (by rw [hg_51]; rfl) ?_
              refine qv (v := (.bool (!decide (e_52 = (IntKind.i64.wrap ((-70) - (IntKind.i64.wrap (i_5 - (p1_l.length : Int))))))))) rfl (fun _ hC => r_neq e_52 (IntKind.i64.wrap ((-70) - (IntKind.i64.wrap (i_5 - (p1_l.length : Int))))) rfl rfl) ?_
              refine qg (b := false) 33 rfl rfl rfl rfl ?_
              refine qv (v := (.bool (!decide (e_52 = (IntKind.i64.wrap ((-70) - (IntKind.i64.wrap (i_5 - (p1_l.length : Int))))))))) rfl (fun _ hC => r_pickT (congrArg Value.bool hg_51) rfl) ?_
              refine qv (v := (.bool (!decide (e_52 = (IntKind.i64.wrap ((-70) - (IntKind.i64.wrap (i_5 - (p1_l.length : Int))))))))) rfl (fun _ hC => r_pickF rfl rfl) ?_
              refine qnil ?_
              intro w_54 hC
              replace hC : Grow col_4 w_3 col_4 w_54 := .of_below hC.below
              replace h0 := h0.gr hC
              replace h1 := h1.gr hC
              replace hst := hst.grow hC
              exact ⟨col_4, (!decide (e_52 = (IntKind.i64.wrap ((-70) - (IntKind.i64.wrap (i_5 - (p1_l.length : Int))))))), hm, hst, h0, h1, rfl, rfl, rfl, rfl, rfl, rfl⟩
            · rw [if_neg hg_51] at hm
              replace hg_51 := Bool.eq_false_iff.2 hg_51
              refine qp (b := decide ((p1_l.length : Int) ≤ i_5)) 38 rfl rfl rfl rfl (by rw [hg_51]; rfl) ?_
              refine qp (b := decide ((p1_l.length : Int) ≤ i_5)) 38 rfl rfl rfl rfl (by rw [hg_51]; rfl) ?_
              refine qp (b := decide ((p1_l.length : Int) ≤ i_5)) 38 rfl rfl rfl rfl (by rw [hg_51]; rfl) ?_
              refine qp (b := decide ((p1_l.length : Int) ≤ i_5)) 38 rfl rfl rfl rfl (by rw [hg_51]; rfl) ?_
              refine qp (b := decide ((p1_l.length : Int) ≤ i_5)) 38 rfl rfl rfl rfl (by rw [hg_51]; rfl) ?_
              refine qp (b := decide ((p1_l.length : Int) ≤ i_5)) 38 rfl rfl rfl rfl (by rw [hg_51]; rfl) ?_
              refine qp (b := decide ((p1_l.length : Int) ≤ i_5)) 38 rfl rfl rfl rfl (by rw [hg_51]; rfl) ?_
              refine qp (b := decide ((p1_l.length : Int) ≤ i_5)) 38 rfl rfl rfl rfl (by rw [hg_51]; rfl) ?_
              refine qp (b := decide ((p1_l.length : Int) ≤ i_5)) 38 rfl rfl rfl rfl (by rw [hg_51]; rfl) ?_
              refine qp (b := decide ((p1_l.length : Int) ≤ i_5)) 38 rfl rfl rfl rfl (by rw [hg_51]; rfl) ?_
              refine qg (b := false) 33 rfl rfl rfl rfl ?_
              refine qv (v := (.bool false)) rfl (fun _ hC => r_pickF (congrArg Value.bool hg_51) rfl) ?_
              refine qv (v := (.bool false)) rfl (fun _ hC => r_pickF rfl rfl) ?_
              refine qnil ?_
              intro w_55 hC
              replace hC : Grow col_4 w_3 col_4 w_55 := .of_below hC.below
              replace h0 := h0.gr hC
              replace h1 := h1.gr hC
              replace hst := hst.grow hC
              exact ⟨col_4, false, hm, hst, h0, h1, rfl, rfl, rfl, rfl, rfl, rfl⟩
    · rw [if_neg (by rw [hb]; decide)] at hm
      clear hb
      refine wexit (inB_hit ?_)
      refine wseq ?_
      refine wregion ?_
      refine lv (v := (.slice a0 ((p0_m.take n0).length) cap0)) rfl rfl (r_move rfl) ?_
      refine lv (v := (.int .i64 ((p0_m.take n0).length : Int))) rfl rfl (r_len Try.underlying22 rfl) ?_
      refine lv (v := (.slice a1 p1_l.length cap1)) rfl rfl (r_move rfl) ?_
      refine lv (v := (.int .i64 (p1_l.length : Int))) rfl rfl (r_len Try.underlying22 rfl) ?_
      refine lv (v := (.bool (decide (((p0_m.take n0).length : Int) = (p1_l.length : Int))))) rfl rfl (r_eql ((p0_m.take n0).length : Int) (p1_l.length : Int) rfl rfl) ?_
      refine lv (v := (.bool (decide (((p0_m.take n0).length : Int) = (p1_l.length : Int))))) rfl rfl (r_assign rfl) ?_
      refine lnil ?_
      refine wret ?_
      cases hm
      exact ⟨rfl, rfl, hst.below⟩




def m_credencelaw18_OrderCheck_J1 (v_61 : Bool) : Option Bool :=
  some v_61

def m_credencelaw18_OrderCheck (N : Nat) (p0_list : (List Int)) (p1_points : (List Int)) : Option Bool :=
  (w_credencelaw18_awake).bind fun r_1 => (m_credencelaw18_ints N p0_list).bind fun r_5 => (m_credencelaw18_ints N p1_points).bind fun r_13 => if r_1 = true then ((m_order_Check (r_5.2.take r_5.1) (r_13.2.take r_13.1)).bind fun r_63 => (m_credenceref18_Check N p0_list p1_points).bind fun r_67 => if (decide (r_63 = r_67)) = true then ((m_credencelaw18_kept N r_5.1 r_5.2 p0_list).bind fun r_72 => if r_72 = true then ((m_credencelaw18_kept N r_13.1 r_13.2 p1_points).bind fun r_77 => m_credencelaw18_OrderCheck_J1 r_77) else (m_credencelaw18_OrderCheck_J1 false)) else (m_credencelaw18_OrderCheck_J1 false)) else (m_credencelaw18_OrderCheck_J1 false)

set_option maxRecDepth 100000 in
set_option maxHeartbeats 2000000 in
theorem c_credencelaw18_OrderCheck (N : Nat) (col : Col) (w0 : World) (a0 : Option Addr) (cap0 : Nat) (p0_list : (List Int)) (a1 : Option Addr) (cap1 : Nat) (p1_points : (List Int)) (h0 : Sl (Rep.int .i64) col w0 a0 cap0 p0_list) (h1 : Sl (Rep.int .i64) col w0 a1 cap1 p1_points) (r : Bool) (hm : m_credencelaw18_OrderCheck N p0_list p1_points = some r) :
    Calls Try.prog 10 #[(.slice a0 p0_list.length cap0), (.slice a1 p1_points.length cap1)] w0 (fun e w' => e = .returned ((.bool r)) ∧ Below w0.heap.size w0 w') := by
  refine calls_of1 4 (m := 33) (args := [(.slice a0 p0_list.length cap0), (.slice a1 p1_points.length cap1)]) Try.func10 rfl rfl rfl rfl rfl ?_
  rw [m_credencelaw18_OrderCheck.eq_1] at hm
  have hst := St.start col w0
  replace h0 := h0.keep (Stay.start col w0)
  replace h1 := h1.keep (Stay.start col w0)
  refine wseq ?_
  refine wregion ?_
  refine lv (v := (.bool false)) rfl rfl (r_assign rfl) ?_
  refine lnil ?_
  refine wseq ?_
  refine wregion ?_
  obtain ⟨r_1, hr_2, hm⟩ := bind_some hm
  refine lc rfl rfl (r_call0 Try.call29 ) (k_credencelaw18_awake (col0 col) _ r_1 hr_2) ?_
  rintro _ w_3 ⟨rfl, hg_4⟩
  refine ⟨_, rfl, ?_⟩
  replace hg_4 : Grow (col0 col) w0 (col0 col) w_3 := .of_below hg_4
  replace h0 := h0.gr hg_4
  replace h1 := h1.gr hg_4
  replace hst := hst.grow hg_4
  refine lv (v := (.bool r_1)) rfl rfl (r_assign rfl) ?_
  refine lnil ?_
  refine wseq ?_
  refine wregion ?_
  refine lv (v := (.slice a0 p0_list.length cap0)) rfl rfl (r_move rfl) ?_
  obtain ⟨r_5, hr_6, hm⟩ := bind_some hm
  refine lc rfl rfl (r_call1 Try.call31 rfl) (c_credencelaw18_ints N 1 (col0 col) _ a0 cap0 p0_list h0 r_5 hr_6) ?_
  rintro _ w_10 ⟨col_12, ra_7, rc_8, rfl, hg_11, rh_9⟩
  refine ⟨_, rfl, ?_⟩
  replace h0 := h0.gr hg_11
  replace h1 := h1.gr hg_11
  replace hst := hst.grow hg_11
  refine lv (v := (.slice ra_7 ((r_5.2.take r_5.1).length) rc_8)) rfl rfl (r_assign rfl) ?_
  refine lnil ?_
  refine wseq ?_
  refine wregion ?_
  refine lv (v := (.slice a1 p1_points.length cap1)) rfl rfl (r_move rfl) ?_
  obtain ⟨r_13, hr_14, hm⟩ := bind_some hm
  refine lc rfl rfl (r_call1 Try.call31 rfl) (c_credencelaw18_ints N 2 col_12 _ a1 cap1 p1_points h1 r_13 hr_14) ?_
  rintro _ w_18 ⟨col_20, ra_15, rc_16, rfl, hg_19, rh_17⟩
  refine ⟨_, rfl, ?_⟩
  replace h0 := h0.gr hg_19
  replace h1 := h1.gr hg_19
  replace rh_9 := rh_9.gr hg_19
  replace hst := hst.grow hg_19
  refine lv (v := (.slice ra_15 ((r_13.2.take r_13.1).length) rc_16)) rfl rfl (r_assign rfl) ?_
  refine lnil ?_
  refine wseq ?_
  refine Wp.cut (fun f w_59 => ∃ (col_60 : Col) (v_61 : Bool), m_credencelaw18_OrderCheck_J1 v_61 = some r ∧ St w0 (col0 col) col_60 w_59 ∧ f 4 = (.bool v_61) ∧ f 1000000 = (enc [])) ?_ ?_
  · intro f w_59 hJ
    obtain ⟨col_60, v_61, hm, hst, hs4, hs1000000⟩ := hJ
    rw [m_credencelaw18_OrderCheck_J1.eq_1] at hm
    refine .ld (d := 4) (v := (.bool v_61)) hs4 ?_
    refine .ld (d := 1000000) (v := (enc [])) hs1000000 ?_
    clear hs4 hs1000000
    refine wret ?_
    cases hm
    exact ⟨rfl, rfl, hst.below⟩
  · refine wregion ?_
    refine lv (v := (.bool r_1)) rfl rfl (r_move rfl) ?_
    refine lv (v := (.bool r_1)) rfl rfl (r_move rfl) ?_
    by_cases hg_62 : r_1 = true
    · rw [if_pos hg_62] at hm
      refine lg (b := r_1) 14 rfl rfl rfl (by rw [hg_62]; rfl) ?_
      refine lv (v := (.slice ra_7 ((r_5.2.take r_5.1).length) rc_8)) rfl rfl (r_move rfl) ?_
      refine lg (b := r_1) 14 rfl rfl rfl (by rw [hg_62]; rfl) ?_
      refine lv (v := (.slice ra_15 ((r_13.2.take r_13.1).length) rc_16)) rfl rfl (r_move rfl) ?_
      refine lg (b := r_1) 14 rfl rfl rfl (by rw [hg_62]; rfl) ?_
      obtain ⟨r_63, hr_64, hm⟩ := bind_some hm
      refine lc rfl rfl (r_call2 Try.call45 rfl rfl) (c_order_Check (frC 2 (frC 1 col_20)) _ ra_7 rc_8 (r_5.2.take r_5.1) ra_15 rc_16 (r_13.2.take r_13.1) (((rh_9.take r_5.1).toSlF (Froz.int .i64)).froz 2) (((rh_17.take r_13.1).froz 1 (by decide)).toSlF (Froz.int .i64)) r_63 hr_64) ?_
      rintro _ w_65 ⟨rfl, hg_66⟩
      refine ⟨_, rfl, ?_⟩
      replace hg_66 : Grow col_20 w_18 col_20 w_65 := .of_below hg_66
      replace h0 := h0.gr hg_66
      replace h1 := h1.gr hg_66
      replace rh_9 := rh_9.gr hg_66
      replace rh_17 := rh_17.gr hg_66
      replace hst := hst.grow hg_66
      refine lg (b := r_1) 14 rfl rfl rfl (by rw [hg_62]; rfl) ?_
      refine lv (v := (.slice a0 p0_list.length cap0)) rfl rfl (r_move rfl) ?_
      refine lg (b := r_1) 14 rfl rfl rfl (by rw [hg_62]; rfl) ?_
      refine lv (v := (.slice a1 p1_points.length cap1)) rfl rfl (r_move rfl) ?_
      refine lg (b := r_1) 14 rfl rfl rfl (by rw [hg_62]; rfl) ?_
      obtain ⟨r_67, hr_68, hm⟩ := bind_some hm
      refine lc rfl rfl (r_call2 Try.call46 rfl rfl) (c_credenceref18_Check N col_20 _ a0 cap0 p0_list a1 cap1 p1_points h0 h1 r_67 hr_68) ?_
      rintro _ w_69 ⟨rfl, hg_70⟩
      refine ⟨_, rfl, ?_⟩
      replace hg_70 : Grow col_20 w_65 col_20 w_69 := .of_below hg_70
      replace h0 := h0.gr hg_70
      replace h1 := h1.gr hg_70
      replace rh_9 := rh_9.gr hg_70
      replace rh_17 := rh_17.gr hg_70
      replace hst := hst.grow hg_70
      refine lg (b := r_1) 14 rfl rfl rfl (by rw [hg_62]; rfl) ?_
      refine lv (v := (.bool (decide (r_63 = r_67)))) rfl rfl (r_eql r_63 r_67 rfl rfl) ?_
      refine lv (v := (.bool (decide (r_63 = r_67)))) rfl rfl (r_pickT (congrArg Value.bool hg_62) rfl) ?_
      refine lv (v := (.bool (decide (r_63 = r_67)))) rfl rfl (r_move rfl) ?_
      by_cases hg_71 : (decide (r_63 = r_67)) = true
      · rw [if_pos hg_71] at hm
        refine lg (b := decide (r_63 = r_67)) 23 rfl rfl rfl (by rw [hg_71]; rfl) ?_
        refine lv (v := (.slice ra_7 ((r_5.2.take r_5.1).length) rc_8)) rfl rfl (r_move rfl) ?_
        refine lg (b := decide (r_63 = r_67)) 23 rfl rfl rfl (by rw [hg_71]; rfl) ?_
        refine lv (v := (.slice a0 p0_list.length cap0)) rfl rfl (r_move rfl) ?_
        refine lg (b := decide (r_63 = r_67)) 23 rfl rfl rfl (by rw [hg_71]; rfl) ?_
        obtain ⟨r_72, hr_73, hm⟩ := bind_some hm
        refine lc rfl rfl (r_call2 Try.call38 rfl rfl) (c_credencelaw18_kept N (frC 1 col_20) _ ra_7 rc_8 r_5.1 r_5.2 a0 cap0 p0_list (rh_9.toSlF (Froz.int .i64)) (h0.froz 1) r_72 hr_73) ?_
        rintro _ w_74 ⟨rfl, hg_75⟩
        refine ⟨_, rfl, ?_⟩
        replace hg_75 : Grow col_20 w_69 col_20 w_74 := .of_below hg_75
        replace h1 := h1.gr hg_75
        replace rh_17 := rh_17.gr hg_75
        replace rh_9 := rh_9.gr hg_75
        replace h0 := h0.gr hg_75
        replace hst := hst.grow hg_75
        refine lv (v := (.bool r_72)) rfl rfl (r_pickT (congrArg Value.bool hg_71) rfl) ?_
        refine lv (v := (.bool r_72)) rfl rfl (r_move rfl) ?_
        by_cases hg_76 : r_72 = true
        · rw [if_pos hg_76] at hm
          refine lg (b := r_72) 28 rfl rfl rfl (by rw [hg_76]; rfl) ?_
          refine lv (v := (.slice ra_15 ((r_13.2.take r_13.1).length) rc_16)) rfl rfl (r_move rfl) ?_
          refine lg (b := r_72) 28 rfl rfl rfl (by rw [hg_76]; rfl) ?_
          refine lv (v := (.slice a1 p1_points.length cap1)) rfl rfl (r_move rfl) ?_
          refine lg (b := r_72) 28 rfl rfl rfl (by rw [hg_76]; rfl) ?_
          obtain ⟨r_77, hr_78, hm⟩ := bind_some hm
          refine lc rfl rfl (r_call2 Try.call38 rfl rfl) (c_credencelaw18_kept N (frC 2 col_20) _ ra_15 rc_16 r_13.1 r_13.2 a1 cap1 p1_points (rh_17.toSlF (Froz.int .i64)) (h1.froz 2) r_77 hr_78) ?_
          rintro _ w_79 ⟨rfl, hg_80⟩
          refine ⟨_, rfl, ?_⟩
          replace hg_80 : Grow col_20 w_74 col_20 w_79 := .of_below hg_80
          replace rh_17 := rh_17.gr hg_80
          replace h1 := h1.gr hg_80
          replace hst := hst.grow hg_80
          refine lv (v := (.bool r_77)) rfl rfl (r_pickT (congrArg Value.bool hg_76) rfl) ?_
          refine lv (v := (.bool r_77)) rfl rfl (r_assign rfl) ?_
          refine lnil ?_
          exact ⟨col_20, r_77, hm, hst, rfl, rfl⟩
        · rw [if_neg hg_76] at hm
          replace hg_76 := Bool.eq_false_iff.2 hg_76
          refine lp (b := r_72) 28 rfl rfl rfl rfl (by rw [hg_76]; rfl) ?_
          refine lp (b := r_72) 28 rfl rfl rfl rfl (by rw [hg_76]; rfl) ?_
          refine lp (b := r_72) 28 rfl rfl rfl rfl (by rw [hg_76]; rfl) ?_
          refine lv (v := (.bool false)) rfl rfl (r_pickF (congrArg Value.bool hg_76) rfl) ?_
          refine lv (v := (.bool false)) rfl rfl (r_assign rfl) ?_
          refine lnil ?_
          exact ⟨col_20, false, hm, hst, rfl, rfl⟩
      · rw [if_neg hg_71] at hm
        replace hg_71 := Bool.eq_false_iff.2 hg_71
        refine lp (b := decide (r_63 = r_67)) 23 rfl rfl rfl rfl (by rw [hg_71]; rfl) ?_
        refine lp (b := decide (r_63 = r_67)) 23 rfl rfl rfl rfl (by rw [hg_71]; rfl) ?_
        refine lp (b := decide (r_63 = r_67)) 23 rfl rfl rfl rfl (by rw [hg_71]; rfl) ?_
        refine lv (v := (.bool false)) rfl rfl (r_pickF (congrArg Value.bool hg_71) rfl) ?_
        refine lv (v := (.bool false)) rfl rfl (r_move rfl) ?_
        refine lp (b := false) 28 rfl rfl rfl rfl rfl ?_
        refine lp (b := false) 28 rfl rfl rfl rfl rfl ?_
        refine lp (b := false) 28 rfl rfl rfl rfl rfl ?_
        refine lv (v := (.bool false)) rfl rfl (r_pickF rfl rfl) ?_
        refine lv (v := (.bool false)) rfl rfl (r_assign rfl) ?_
        refine lnil ?_
        exact ⟨col_20, false, hm, hst, rfl, rfl⟩
    · rw [if_neg hg_62] at hm
      replace hg_62 := Bool.eq_false_iff.2 hg_62
      refine lp (b := r_1) 14 rfl rfl rfl rfl (by rw [hg_62]; rfl) ?_
      refine lp (b := r_1) 14 rfl rfl rfl rfl (by rw [hg_62]; rfl) ?_
      refine lp (b := r_1) 14 rfl rfl rfl rfl (by rw [hg_62]; rfl) ?_
      refine lp (b := r_1) 14 rfl rfl rfl rfl (by rw [hg_62]; rfl) ?_
      refine lp (b := r_1) 14 rfl rfl rfl rfl (by rw [hg_62]; rfl) ?_
      refine lp (b := r_1) 14 rfl rfl rfl rfl (by rw [hg_62]; rfl) ?_
      refine lp (b := r_1) 14 rfl rfl rfl rfl (by rw [hg_62]; rfl) ?_
      refine lv (v := (.bool false)) rfl rfl (r_pickF (congrArg Value.bool hg_62) rfl) ?_
      refine lv (v := (.bool false)) rfl rfl (r_move rfl) ?_
      refine lp (b := false) 23 rfl rfl rfl rfl rfl ?_
      refine lp (b := false) 23 rfl rfl rfl rfl rfl ?_
      refine lp (b := false) 23 rfl rfl rfl rfl rfl ?_
      refine lv (v := (.bool false)) rfl rfl (r_pickF rfl rfl) ?_
      refine lv (v := (.bool false)) rfl rfl (r_move rfl) ?_
      refine lp (b := false) 28 rfl rfl rfl rfl rfl ?_
      refine lp (b := false) 28 rfl rfl rfl rfl rfl ?_
      refine lp (b := false) 28 rfl rfl rfl rfl rfl ?_
      refine lv (v := (.bool false)) rfl rfl (r_pickF rfl rfl) ?_
      refine lv (v := (.bool false)) rfl rfl (r_assign rfl) ?_
      refine lnil ?_
      exact ⟨col_20, false, hm, hst, rfl, rfl⟩


variable {N : Nat}

theorem values_eq (l : List Int) : m_slices_Values_int_int l = some l := by
  unfold m_slices_Values_int_int m_slices_Values_int_int_1
  induction l with
  | nil => rfl
  | cons x l ih => rw [m_slices_Values_int_int_1_L1.eq_2, ih]; rfl
theorem appendSeq_L1 : ∀ (l s : List Int), s.length + l.length ≤ 17592186044000 → m_slices_AppendSeq_int_int_v0n_L1 l s = some (s ++ l)
  | [], s, _ => by rw [m_slices_AppendSeq_int_int_v0n_L1.eq_1, List.append_nil]
  | y :: l, s, h => by
    simp only [List.length_cons] at h
    rw [m_slices_AppendSeq_int_int_v0n_L1.eq_2, chk_pos (by simp only [List.length_singleton, maxLen]; omega), appendSeq_L1 l _ (by simp; omega), List.append_assoc]; rfl
theorem sorted_eq' (l : List Int) (h : l.length ≤ 17592186044000) : m_slices_Sorted_int l = some (isort l) := by
  unfold m_slices_Sorted_int m_slices_Collect_int m_slices_AppendSeq_int_int_v0n
  rw [appendSeq_L1 l [] (by simpa using h)]
  simp only [List.nil_append, Option.bind_some]
  unfold lib_sort
  rw [chk_pos (by omega)]; rfl
theorem isort_len (l : List Int) : (isort l).length = l.length := (isort_perm l).length_eq
theorem isort_congr {l m : List Int} (h : l.Perm m) : isort l = isort m := isort_eq ((isort_perm m).trans h.symm) (isort_rises m)
theorem isort_inj {l m : List Int} : isort l = isort m ↔ l.Perm m :=
  ⟨fun h => (isort_perm l).symm.trans (h ▸ isort_perm m), isort_congr⟩

theorem equal_L1 (m : List Int) : ∀ (l : List Int) (k : Nat), k + l.length = m.length → m_slices_Equal_int_int_L1 m l k = some (decide (l = m.drop k))
  | [], k, h => by
    rw [m_slices_Equal_int_int_L1.eq_1, List.drop_eq_nil_of_le (by simp at h; omega)]; rfl
  | x :: l, k, h => by
    simp only [List.length_cons] at h
    rw [m_slices_Equal_int_int_L1.eq_2, at?_lt (show k < m.length by omega)]
    simp only [Option.bind_some]
    rw [List.drop_eq_getElem_cons (show k < m.length by omega)]
    by_cases e : x = m[k]
    · rw [if_neg (by simp [e]), equal_L1 m l (k + 1) (by omega), ← e]
      exact congrArg some (decide_eq_decide.2 ⟨fun h => by rw [h], fun h => (List.cons.inj h).2⟩)
    · rw [if_pos (by simp [e])]
      exact congrArg some (decide_eq_false (fun h => e (List.cons.inj h).1)).symm
theorem equal_eq (l m : List Int) : m_slices_Equal_int_int l m = some (decide (l = m)) := by
  unfold m_slices_Equal_int_int
  by_cases h : l.length = m.length
  · rw [if_neg (by simp [h]), equal_L1 m l 0 (by omega), List.drop_zero]
  · rw [if_pos (by simp; omega)]
    congr 1
    symm; rw [decide_eq_false_iff_not]; intro e; exact h (by rw [e])

/-- Nothing falls away just if no two neighbours are one. -/
theorem compact_len_iff {l : List Int} (hs : l.Pairwise (· ≤ ·)) : (Go.Lib.compact l).length = l.length ↔ l.Nodup := by
  have key : (Go.Lib.compact l).length = l.length ↔ ∀ j, j < l.length → Go.Lib.keeps l.toArray j = true := by
    constructor
    · intro h j hj
      unfold Go.Lib.compact Go.Lib.compactUpTo at h
      rw [List.length_map] at h
      have h2 : ((List.range l.length).filter (Go.Lib.keeps l.toArray)).length = (List.range l.length).length := by rw [h]; simp
      exact (List.filter_eq_self.1 (List.filter_sublist.eq_of_length h2)) j (List.mem_range.2 hj)
    · intro h; rw [Go.Lib.compact_all l h]
  rw [key]
  have hk : ∀ j, j < l.length → (Go.Lib.keeps l.toArray j = true ↔ (j = 0 ∨ l[j]? ≠ l[j - 1]?)) := fun j hj => by
    unfold Go.Lib.keeps
    rw [decide_eq_true_iff]
    have h1 : j - 1 < l.length := by omega
    rw [getElem!_pos l.toArray j (by simpa using hj), getElem!_pos l.toArray (j - 1) (by simpa using h1), List.getElem?_eq_getElem hj, List.getElem?_eq_getElem h1]
    simp
  constructor
  · intro h
    rw [List.nodup_iff_pairwise_ne]
    rw [List.pairwise_iff_getElem] at hs ⊢
    intro i j hi hj hij e
    have hn := (hk j hj).1 (h j hj)
    rcases hn with hn | hn
    · omega
    · apply hn
      have h1 : j - 1 < l.length := by omega
      rw [List.getElem?_eq_getElem hj, List.getElem?_eq_getElem h1]
      congr 1
      have a1 := hs (j - 1) j h1 hj (by omega)
      by_cases h2 : i = j - 1
      · subst h2; exact e.symm
      · have a2 := hs i (j - 1) hi h1 (by omega)
        omega
  · intro h j hj
    rw [hk j hj]
    by_cases h0 : j = 0
    · exact .inl h0
    · refine .inr fun e => ?_
      have h1 : j - 1 < l.length := by omega
      rw [List.getElem?_eq_getElem hj, List.getElem?_eq_getElem h1] at e
      have := (List.getElem_inj h).1 (Option.some.inj e)
      omega

/-- What our Check says. -/
theorem check_eq (l m : List Int) (hl : l.length < 17592186044000) (hm : m.length < 17592186044000) : m_order_Check l m = some (if l.Perm m ∧ m.Nodup then 0 else 51) := by
  unfold m_order_Check
  rw [values_eq, values_eq]
  simp only [Option.bind_some]
  rw [sorted_eq' l (by omega), sorted_eq' m (by omega)]
  simp only [Option.bind_some]
  rw [equal_eq]
  simp only [Option.bind_some]
  by_cases h : isort l = isort m
  · have hp := isort_inj.1 h
    rw [if_neg (by simp [h])]
    unfold lib_compact m_order_Check_J1
    rw [chk_pos (by rw [isort_len]; omega)]
    simp only [Option.bind_some]
    have hn : (Go.Lib.compact (isort l)).length = (isort m).length ↔ m.Nodup := by
      rw [← h, compact_len_iff (isort_rises l), (isort_perm l).nodup_iff, hp.nodup_iff]
    by_cases hd : m.Nodup
    · rw [if_neg (by simp; have := hn.2 hd; omega), if_pos ⟨hp, hd⟩]
    · rw [if_pos (by
        simp only [Bool.not_eq_true', decide_eq_false_iff_not]
        intro e; exact hd (hn.1 (by omega))), if_neg (fun e => hd e.2)]
  · rw [if_pos (by simp [h])]
    unfold m_order_Check_J1
    rw [if_pos rfl, if_neg (fun e => h (isort_congr e.1))]

theorem times_L1 (l : List Int) (x : Int) (hl : l.length < 17592186044000) : ∀ (f i n : Nat), i ≤ l.length → l.length - i < f → n ≤ i →
    m_credenceref18_times_L1 N l x f (n : Int) (i : Int) = some (((n + (l.drop i).count x : Nat)) : Int) := by
  intro f
  induction f with
  | zero => intro i n _ h; omega
  | succ f ih =>
    intro i n hi hf hn
    rw [m_credenceref18_times_L1.eq_2]
    by_cases h : i < l.length
    · rw [if_pos (decide_eq_true (by omega)), at?_lt h]
      simp only [Option.bind_some, m_credenceref18_times_J1]
      rw [List.drop_eq_getElem_cons h, List.count_cons]
      by_cases e : l[i] = x
      · rw [if_pos (decide_eq_true e), wS (by omega), wS (by omega), ih (i + 1) (n + 1) (by omega) (by omega) (by omega)]
        congr 2
        simp [e]; omega
      · rw [if_neg (by simp [e]), wS (by omega), ih (i + 1) n (by omega) (by omega) (by omega)]
        congr 2
        simp [e]
    · rw [if_neg (by simp; omega), List.drop_eq_nil_of_le (by omega)]
      simp
theorem times_eq (l : List Int) (x : Int) (hl : l.length < 17592186044000) (hN : l.length < N) : m_credenceref18_times N l x = some ((l.count x : Nat) : Int) := by
  have := times_L1 (N := N) l x hl N 0 0 (by omega) (by omega) (Nat.le_refl _)
  simpa [m_credenceref18_times] using this

theorem ifc {a b : Prop} [Decidable a] [Decidable b] {x y : Int} (h : a ↔ b) : (if a then x else y) = if b then x else y := by
  by_cases ha : a
  · rw [if_pos ha, if_pos (h.1 ha)]
  · rw [if_neg ha, if_neg (fun e => ha (h.2 e))]
theorem refCheck_L1 (l m : List Int) (hl : l.length < 17592186044000) (hm : m.length < 17592186044000) (hN : 17592186044000 < N) : ∀ (f i : Nat), i ≤ m.length → m.length - i < f →
    m_credenceref18_Check_L1 N l m f (i : Int) = some (if ∀ x ∈ m.drop i, l.count x = 1 ∧ m.count x = 1 then 0 else 51) := by
  intro f
  induction f with
  | zero => intro i _ h; omega
  | succ f ih =>
    intro i hi hf
    rw [m_credenceref18_Check_L1.eq_2]
    by_cases h : i < m.length
    · rw [if_pos (decide_eq_true (by omega)), at?_lt h]
      simp only [Option.bind_some]
      rw [times_eq l _ hl (by omega)]
      simp only [Option.bind_some]
      rw [List.drop_eq_getElem_cons h]
      unfold m_credenceref18_Check_J1
      by_cases c1 : l.count m[i] = 1
      · rw [if_neg (by simp [c1]), times_eq m _ hm (by omega)]
        simp only [Option.bind_some]
        by_cases c2 : m.count m[i] = 1
        · rw [if_neg (by simp [c2]), wS (by omega), ih (i + 1) (by omega) (by omega)]
          congr 1
          apply ifc
          constructor
          · intro hh x hx
            rcases List.mem_cons.1 hx with rfl | hx
            · exact ⟨c1, c2⟩
            · exact hh x hx
          · exact fun hh x hx => hh x (List.mem_cons_of_mem _ hx)
        · rw [if_pos (by simp; omega), if_neg (fun hh => c2 (hh _ List.mem_cons_self).2)]
      · rw [if_pos (by simp; omega), if_pos rfl, if_neg (fun hh => c1 (hh _ List.mem_cons_self).1)]
    · rw [if_neg (by simp; omega), List.drop_eq_nil_of_le (by omega)]
      simp
theorem refCheck_eq (l m : List Int) (hl : l.length < 17592186044000) (hm : m.length < 17592186044000) (hN : 17592186044000 < N) : m_credenceref18_Check N l m = some (if l.Perm m ∧ m.Nodup then 0 else 51) := by
  unfold m_credenceref18_Check
  by_cases h : l.length = m.length
  · rw [if_neg (by simp [h])]
    have := refCheck_L1 (N := N) l m hl hm hN N 0 (by omega) (by omega)
    rw [List.drop_zero] at this
    refine this.trans (congrArg some (ifc ?_))
    constructor
    · intro hh
      have hn : m.Nodup := List.nodup_iff_count.2 fun x => by
        by_cases hx : x ∈ m
        · have := (hh x hx).2; omega
        · rw [List.count_eq_zero_of_not_mem hx]; omega
      refine ⟨?_, hn⟩
      have hsub : ∀ x ∈ m, x ∈ l := fun x hx => List.count_pos_iff.1 (by have := (hh x hx).1; omega)
      refine List.perm_iff_count.2 fun a => ?_
      by_cases ha : a ∈ m
      · have := hh a ha; omega
      · rw [List.count_eq_zero_of_not_mem ha, List.count_eq_zero_of_not_mem fun hl2 => ?_]
        have := nodup_le (l := a :: m) (r := l) (List.nodup_cons.2 ⟨ha, hn⟩) fun x hx => by
          rcases List.mem_cons.1 hx with rfl | hx
          · exact hl2
          · exact hsub x hx
        simp only [List.length_cons] at this
        omega
    · rintro ⟨hp, hn⟩ x hx
      rw [hp.count_eq]
      have h1 := List.nodup_iff_count.1 hn x
      have h2 := List.count_pos_iff.2 hx
      omega
  · rw [if_pos (by simp; omega), if_neg (fun e => h e.1.length_eq)]

/-- A list with marked room behind. -/
def marks9 (j : Nat) : List Int := (List.range j).map fun k : Nat => -70 - (k : Int)
theorem ints_L1 (l : List Int) (hl : l.length < 17592186044000) : ∀ (f j : Nat), j ≤ 9 → 9 - j < f → m_credencelaw18_ints_L1 N l f (l ++ marks9 j) (j : Int) = some (l.length, l ++ marks9 9) := by
  intro f
  induction f with
  | zero => intro j _ h; omega
  | succ f ih =>
    intro j hj hf
    have hml : ∀ j, (marks9 j).length = j := fun j => by simp [marks9]
    rw [m_credencelaw18_ints_L1.eq_2]
    by_cases h : j < 9
    · have e : IntKind.i64.wrap ((-70) - (j : Int)) = -70 - (j : Int) := w64 (by omega)
      rw [if_pos (decide_eq_true (by omega)), chk_pos (by simp only [List.length_append, hml, List.length_singleton, maxLen]; omega), wS (by omega), e]
      rw [show l ++ marks9 j ++ [-70 - (j : Int)] = l ++ marks9 (j + 1) by simp [marks9, List.range_succ]]
      exact ih (j + 1) (by omega) (by omega)
    · obtain rfl : j = 9 := by omega
      rw [if_neg (by simp), chk_pos (by simp only [List.length_append, hml]; omega)]
      simp
theorem ints_eq (l : List Int) (hl : l.length < 17592186044000) (hN : 20 < N) : m_credencelaw18_ints N l = some (l.length, l ++ marks9 9) := by
  unfold m_credencelaw18_ints
  rw [chk_pos (by simp only [List.length_nil, maxLen]; omega), List.nil_append]
  have := ints_L1 (N := N) l hl N 0 (by omega) (by omega)
  simpa [marks9] using this
theorem kept_L1 (l : List Int) (hl : l.length < 17592186044000) : ∀ (f i : Nat), i ≤ l.length + 9 → l.length + 9 - i < f →
    m_credencelaw18_kept_L1 N l.length (l ++ marks9 9) l f (i : Int) = some true := by
  intro f
  have hml : (marks9 9).length = 9 := rfl
  have e9 : Int.toNat (IntKind.i64.wrap ((l.length : Int) + 9)) = l.length + 9 := by rw [w64 (by omega)]; omega
  have et : (l ++ marks9 9).take (l.length + 9) = l ++ marks9 9 := List.take_of_length_le (by rw [List.length_append, hml]; omega)
  induction f with
  | zero => intro i _ h; omega
  | succ f ih =>
    intro i hi hf
    rw [m_credencelaw18_kept_L1.eq_2, e9, et]
    have hlen : (l ++ marks9 9).length = l.length + 9 := by rw [List.length_append, hml]
    by_cases h : i < l.length + 9
    · rw [if_pos (decide_eq_true (by rw [hlen]; omega))]
      by_cases h1 : i < l.length
      · rw [if_pos (decide_eq_true (by omega)), at?_lt (show i < (l ++ marks9 9).length by omega), at?_lt h1]
        simp only [Option.bind_some]
        rw [List.getElem_append_left h1, if_neg (by simp), if_neg (by simp; omega)]
        simp only [m_credencelaw18_kept_J2, m_credencelaw18_kept_J1]
        rw [if_neg (by decide), wS (by omega)]
        exact ih (i + 1) (by omega) (by omega)
      · rw [if_neg (by simp; omega), if_pos (decide_eq_true (by omega)), at?_lt (show i < (l ++ marks9 9).length by omega)]
        simp only [Option.bind_some]
        rw [List.getElem_append_right (by omega)]
        have e : (marks9 9)[i - l.length]'(by rw [hml]; omega) = IntKind.i64.wrap ((-70) - IntKind.i64.wrap ((i : Int) - (l.length : Int))) := by
          rw [w64 (x := (i : Int) - (l.length : Int)) (by omega), w64 (by omega)]
          simp only [marks9, List.getElem_map, List.getElem_range]
          omega
        rw [e]
        simp only [m_credencelaw18_kept_J2, m_credencelaw18_kept_J1]
        rw [if_neg (by simp), wS (by omega)]
        exact ih (i + 1) (by omega) (by omega)
    · rw [if_neg (by rw [hlen]; simp; omega)]
      simp
theorem kept_eq (l : List Int) (hl : l.length < 17592186044000) (hN : 17592186045000 < N) : m_credencelaw18_kept N l.length (l ++ marks9 9) l = some true := by
  unfold m_credencelaw18_kept
  rw [chk_pos (by rw [w64 (by omega)]; simp [marks9]; omega)]
  exact kept_L1 l hl N 0 (by omega) (by omega)

theorem OrderCheck_true (l m : List Int) (hl : l.length < 17592186044000) (hm : m.length < 17592186044000) (hN : 100000000000000 ≤ N) : m_credencelaw18_OrderCheck N l m = some true := by
  unfold m_credencelaw18_OrderCheck w_credencelaw18_awake
  rw [ints_eq l hl (by omega), ints_eq m hm (by omega)]
  simp only [Option.bind_some, if_true, List.take_left]
  rw [check_eq l m hl hm, refCheck_eq l m hl hm (by omega), kept_eq l hl (by omega), kept_eq m hm (by omega)]
  simp only [Option.bind_some, m_credencelaw18_OrderCheck_J1]
  simp

end Go.Proofs.Ytgkofjmeopbkbaa
