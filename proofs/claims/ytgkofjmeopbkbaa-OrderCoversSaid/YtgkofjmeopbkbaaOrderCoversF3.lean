/-
  What functions of the program compute, as plain Lean functions (m_..), and proofs that they compute it (c_..). Printed by a program of the author; no conditions.
-/
import Derived.Test.YtgkofjmeopbkbaaFloat
import Derived.Test.YtgkofjmeopbkbaaProg
import Derived.Test.YtgkofjmeopbkbaaBfs
import Derived.Test.YtgkofjmeopbkbaaCompact
import Derived.Test.YtgkofjmeopbkbaaGraph
import Derived.Test.YtgkofjmeopbkbaaKeys
import Derived.Test.YtgkofjmeopbkbaaLibSort
import Derived.Test.YtgkofjmeopbkbaaOrderCoversF2
set_option linter.unusedVariables false
namespace Go.Proofs.Ytgkofjmeopbkbaa
open Go Go.RowKit


set_option maxRecDepth 100000 in
theorem el3_29 : ElemOk Try.prog 3 1 8 := ⟨Try.t3, _, rfl, rfl, rfl, rfl, rfl⟩

def m_credencelaw18_awake_J1 (v_188 : Bool) : Option Bool :=
  some v_188

def m_credencelaw18_awake_J2 (v_417 : Bool) : Option Bool :=
  some v_417

def m_credencelaw18_awake (N : Nat)  : Option Bool :=
  (m_credencelaw18_drawn N (5, [0, 1, 1, 2, 2, 3, 0, 3, 3, 4])).bind fun r_6 => optC (r_6.1) (if (!r_6.2.2) = true then (some false) else ((m_order_Fill_v0n N [0, 1, 2, 3, 4]).bind fun r_24 => (m_order_Degree_v0n N [3, 1]).bind fun r_38 => (m_order_Cliques_v0n N r_24.1).bind fun r_47 => (m_order_Width_v0n N r_24.1).bind fun r_56 => (m_order_Fill_v0n N ([] : List Int)).bind fun r_60 => if (decide (r_24.2 = 0)) = true then (if (decide (r_38.2 = 0)) = true then (if (decide (r_47.2 = 0)) = true then (if (decide (r_56.2 = 0)) = true then ((m_credenceref15_Ints N r_24.1 [4, 0, 1, 2, 3]).bind fun r_198 => if r_198 = true then ((m_credenceref15_Ints N r_38.1 [1, 3]).bind fun r_208 => if r_208 = true then (if (decide ((r_47.1.length : Int) = 5)) = true then ((at? r_47.1 1).bind fun e_214 => if (decide ((e_214.length : Int) = 3)) = true then (if (decide (r_56.1 = 2)) = true then (if (decide (r_60.2 = 2)) = true then ((m_order_Check [2, 0, 1] [0, 1, 2]).bind fun r_234 => if (decide (r_234 = 0)) = true then ((m_order_Check [0] ([] : List Int)).bind fun r_244 => m_credencelaw18_awake_J1 (decide (r_244 = 51))) else (m_credencelaw18_awake_J1 false)) else (m_credencelaw18_awake_J1 false)) else (m_credencelaw18_awake_J1 false)) else (m_credencelaw18_awake_J1 false)) else (m_credencelaw18_awake_J1 false)) else (m_credencelaw18_awake_J1 false)) else (m_credencelaw18_awake_J1 false)) else (m_credencelaw18_awake_J1 false)) else (m_credencelaw18_awake_J1 false)) else (m_credencelaw18_awake_J1 false)) else (m_credencelaw18_awake_J1 false))) (fun t_15 => if (!r_6.2.2) = true then (some false) else ((m_order_Fill N t_15 [0, 1, 2, 3, 4]).bind fun r_253 => (m_order_Degree N t_15 [3, 1]).bind fun r_267 => (m_order_Cliques N t_15 r_253.1).bind fun r_276 => (m_order_Width N t_15 r_253.1).bind fun r_285 => (m_order_Fill_v0n N ([] : List Int)).bind fun r_289 => if (decide (r_253.2 = 0)) = true then (if (decide (r_267.2 = 0)) = true then (if (decide (r_276.2 = 0)) = true then (if (decide (r_285.2 = 0)) = true then ((m_credenceref15_Ints N r_253.1 [4, 0, 1, 2, 3]).bind fun r_427 => if r_427 = true then ((m_credenceref15_Ints N r_267.1 [1, 3]).bind fun r_437 => if r_437 = true then (if (decide ((r_276.1.length : Int) = 5)) = true then ((at? r_276.1 1).bind fun e_443 => if (decide ((e_443.length : Int) = 3)) = true then (if (decide (r_285.1 = 2)) = true then (if (decide (r_289.2 = 2)) = true then ((m_order_Check [2, 0, 1] [0, 1, 2]).bind fun r_463 => if (decide (r_463 = 0)) = true then ((m_order_Check [0] ([] : List Int)).bind fun r_473 => m_credencelaw18_awake_J2 (decide (r_473 = 51))) else (m_credencelaw18_awake_J2 false)) else (m_credencelaw18_awake_J2 false)) else (m_credencelaw18_awake_J2 false)) else (m_credencelaw18_awake_J2 false)) else (m_credencelaw18_awake_J2 false)) else (m_credencelaw18_awake_J2 false)) else (m_credencelaw18_awake_J2 false)) else (m_credencelaw18_awake_J2 false)) else (m_credencelaw18_awake_J2 false)) else (m_credencelaw18_awake_J2 false)) else (m_credencelaw18_awake_J2 false)))

set_option maxRecDepth 100000 in
set_option maxHeartbeats 2000000 in
theorem c_credencelaw18_awake (N : Nat) (col : Col) (w0 : World)  (r : Bool) (hm : m_credencelaw18_awake N = some r) :
    Calls Try.prog 29 #[] w0 (fun e w' => e = .returned ((.bool r)) ∧ Below w0.heap.size w0 w') := by
  refine calls_of1 0 (m := 106) (args := []) Try.func29 rfl rfl rfl rfl rfl ?_
  rw [m_credencelaw18_awake.eq_1] at hm
  have hst := St.start col w0
  refine wseq ?_
  refine wregion ?_
  refine lv (v := (.bool false)) rfl rfl (r_assign rfl) ?_
  refine lnil ?_
  refine wseq ?_
  refine wregion ?_
  refine l_lit (col := (col0 col)) (r := (Rep.int .i64)) (xs := [0, 1, 1, 2, 2, 3, 0, 3, 3, 4]) [(.int .i64 0), (.int .i64 1), (.int .i64 1), (.int .i64 2), (.int .i64 2), (.int .i64 3), (.int .i64 0), (.int .i64 3), (.int .i64 3), (.int .i64 4)] 1 rfl Try.underlying22 el3_29 rfl rfl rfl rfl rfl rfl (by intro v hv; simp only [List.mem_cons, List.not_mem_nil, or_false] at hv; rcases hv with rfl | rfl | rfl | rfl | rfl | rfl | rfl | rfl | rfl | rfl <;> rfl) (RowsH.ofF (Rows.consF (r := (Rep.int .i64)) (x := 0) (cs := [(.int .i64 0)]) (rd_int .i64 0) (Rows.consF (r := (Rep.int .i64)) (x := 1) (cs := [(.int .i64 1)]) (rd_int .i64 1) (Rows.consF (r := (Rep.int .i64)) (x := 1) (cs := [(.int .i64 1)]) (rd_int .i64 1) (Rows.consF (r := (Rep.int .i64)) (x := 2) (cs := [(.int .i64 2)]) (rd_int .i64 2) (Rows.consF (r := (Rep.int .i64)) (x := 2) (cs := [(.int .i64 2)]) (rd_int .i64 2) (Rows.consF (r := (Rep.int .i64)) (x := 3) (cs := [(.int .i64 3)]) (rd_int .i64 3) (Rows.consF (r := (Rep.int .i64)) (x := 0) (cs := [(.int .i64 0)]) (rd_int .i64 0) (Rows.consF (r := (Rep.int .i64)) (x := 3) (cs := [(.int .i64 3)]) (rd_int .i64 3) (Rows.consF (r := (Rep.int .i64)) (x := 3) (cs := [(.int .i64 3)]) (rd_int .i64 3) (Rows.consF (r := (Rep.int .i64)) (x := 4) (cs := [(.int .i64 4)]) (rd_int .i64 4) Rows.nil0))))))))))) ?_
  intro a_1 w_2 col_3 hg_4 h_5
  replace hst := hst.grow hg_4
  refine lv (v := (.agg #[(.int .i64 5), (.slice a_1 ([0, 1, 1, 2, 2, 3, 0, 3, 3, 4].length) 10)])) rfl rfl (r_build (l := [_, _]) (qs := [(0, 1), (1, 1)]) Try.underlying59 Try.zeroValue59 ⟨rfl, Try.sizeOf3, rfl, Try.sizeOf22, trivial⟩ rfl) ?_
  replace h_5 := (h_5).toSlF (Froz.int .i64)
  replace hst := hst.froz 1 (by decide) (by decide)
  obtain ⟨r_6, hr_7, hm⟩ := bind_some hm
  refine lc rfl rfl (r_call1 Try.call30 rfl) (c_credencelaw18_drawn N 2 3 4 (frC 1 col_3) _ a_1 10 (5, [0, 1, 1, 2, 2, 3, 0, 3, 3, 4]) h_5 r_6 hr_7) ?_
  rintro _ w_12 ⟨col_14, rv_8, rv_10, rfl, hg_13, rh_9, rh_11⟩
  refine ⟨_, rfl, ?_⟩
  replace h_5 := h_5.gr hg_13
  replace hst := hst.grow hg_13
  cases hx_16 : r_6.1 with
  | none =>
    rw [hx_16] at hm rh_9
    replace hm := optC_none hm
    obtain rfl := optP_none rh_9
    clear rh_9
    refine lv (v := (.tuple #[(.pointer none), rv_10, (.bool r_6.2.2)])) rfl rfl (r_move rfl) ?_
    refine lv (v := (.pointer none)) rfl rfl (r_extract rfl rfl) ?_
    refine lv (v := rv_10) rfl rfl (r_extract rfl rfl) ?_
    refine lv (v := (.bool r_6.2.2)) rfl rfl (r_extract rfl rfl) ?_
    refine lv (v := (.pointer none)) rfl rfl (r_assign rfl) ?_
    refine lv (v := rv_10) rfl rfl (r_assign rfl) ?_
    refine lv (v := (.bool r_6.2.2)) rfl rfl (r_assign rfl) ?_
    refine lnil ?_
    refine wseq ?_
    refine wseq ?_
    refine wregion ?_
    refine lv (v := (.bool r_6.2.2)) rfl rfl (r_move rfl) ?_
    refine lv (v := (.bool (!r_6.2.2))) rfl rfl (r_not r_6.2.2 rfl) ?_
    refine lnil ?_
    refine wcond (!r_6.2.2) rfl (fun hb => ?_) (fun hb => ?_)
    · rw [if_pos hb] at hm
      clear hb
      refine wseq ?_
      refine wregion ?_
      refine lv (v := (.bool false)) rfl rfl (r_assign rfl) ?_
      refine lnil ?_
      refine wret ?_
      cases hm
      exact ⟨rfl, rfl, hst.below⟩
    · rw [if_neg (by rw [hb]; decide)] at hm
      clear hb
      refine wskip ?_
      refine wseq ?_
      refine wregion ?_
      refine lv (v := (.pointer none)) rfl rfl (r_move rfl) ?_
      refine l_lit (col := col_14) (r := (Rep.int .i64)) (xs := [0, 1, 2, 3, 4]) [(.int .i64 0), (.int .i64 1), (.int .i64 2), (.int .i64 3), (.int .i64 4)] 5 rfl Try.underlying22 el3_29 rfl rfl rfl rfl rfl rfl (by intro v hv; simp only [List.mem_cons, List.not_mem_nil, or_false] at hv; rcases hv with rfl | rfl | rfl | rfl | rfl <;> rfl) (RowsH.ofF (Rows.consF (r := (Rep.int .i64)) (x := 0) (cs := [(.int .i64 0)]) (rd_int .i64 0) (Rows.consF (r := (Rep.int .i64)) (x := 1) (cs := [(.int .i64 1)]) (rd_int .i64 1) (Rows.consF (r := (Rep.int .i64)) (x := 2) (cs := [(.int .i64 2)]) (rd_int .i64 2) (Rows.consF (r := (Rep.int .i64)) (x := 3) (cs := [(.int .i64 3)]) (rd_int .i64 3) (Rows.consF (r := (Rep.int .i64)) (x := 4) (cs := [(.int .i64 4)]) (rd_int .i64 4) Rows.nil0)))))) ?_
      intro a_19 w_20 col_21 hg_22 h_23
      replace hst := hst.grow hg_22
      obtain ⟨r_24, hr_25, hm⟩ := bind_some hm
      refine lc rfl rfl (r_call2 Try.call32 rfl rfl) (c_order_Fill_v0n N 6 (frC 5 col_21) _ a_19 5 [0, 1, 2, 3, 4] (h_23.toSlF (Froz.int .i64)) r_24 hr_25) ?_
      rintro _ w_29 ⟨col_31, ra_26, rc_27, rfl, hg_30, rh_28⟩
      refine ⟨_, rfl, ?_⟩
      replace rh_28 := rh_28.thaw (flat_int .i64) hg_30 ((Fz.refl (col := col_21)).froz 5) (by decide)
      replace hg_30 := hg_30.thawR (col := col_21)
      generalize colR w_20.heap.size col_21 col_31 = col_32 at *
      replace h_23 := h_23.gr hg_30
      replace hst := hst.grow hg_30
      refine lv (v := (.tuple #[(.slice ra_26 r_24.1.length rc_27), (.int .i64 r_24.2)])) rfl rfl (r_move rfl) ?_
      refine lv (v := (.slice ra_26 r_24.1.length rc_27)) rfl rfl (r_extract rfl rfl) ?_
      refine lv (v := (.int .i64 r_24.2)) rfl rfl (r_extract rfl rfl) ?_
      refine lv (v := (.slice ra_26 r_24.1.length rc_27)) rfl rfl (r_assign rfl) ?_
      refine lv (v := (.int .i64 r_24.2)) rfl rfl (r_assign rfl) ?_
      refine lnil ?_
      refine wseq ?_
      refine wregion ?_
      refine lv (v := (.pointer none)) rfl rfl (r_move rfl) ?_
      refine l_lit (col := col_32) (r := (Rep.int .i64)) (xs := [3, 1]) [(.int .i64 3), (.int .i64 1)] 7 rfl Try.underlying22 el3_29 rfl rfl rfl rfl rfl rfl (by intro v hv; simp only [List.mem_cons, List.not_mem_nil, or_false] at hv; rcases hv with rfl | rfl <;> rfl) (RowsH.ofF (Rows.consF (r := (Rep.int .i64)) (x := 3) (cs := [(.int .i64 3)]) (rd_int .i64 3) (Rows.consF (r := (Rep.int .i64)) (x := 1) (cs := [(.int .i64 1)]) (rd_int .i64 1) Rows.nil0))) ?_
      intro a_33 w_34 col_35 hg_36 h_37
      replace rh_28 := rh_28.gr hg_36
      replace hst := hst.grow hg_36
      obtain ⟨r_38, hr_39, hm⟩ := bind_some hm
      refine lc rfl rfl (r_call2 Try.call33 rfl rfl) (c_order_Degree_v0n N 8 (frC 7 col_35) _ a_33 2 [3, 1] (h_37.toSlF (Froz.int .i64)) r_38 hr_39) ?_
      rintro _ w_43 ⟨col_45, ra_40, rc_41, rfl, hg_44, rh_42⟩
      refine ⟨_, rfl, ?_⟩
      replace rh_42 := rh_42.thaw (flat_int .i64) hg_44 ((Fz.refl (col := col_35)).froz 7) (by decide)
      replace hg_44 := hg_44.thawR (col := col_35)
      generalize colR w_34.heap.size col_35 col_45 = col_46 at *
      replace rh_28 := rh_28.gr hg_44
      replace h_37 := h_37.gr hg_44
      replace hst := hst.grow hg_44
      refine lv (v := (.tuple #[(.slice ra_40 r_38.1.length rc_41), (.int .i64 r_38.2)])) rfl rfl (r_move rfl) ?_
      refine lv (v := (.slice ra_40 r_38.1.length rc_41)) rfl rfl (r_extract rfl rfl) ?_
      refine lv (v := (.int .i64 r_38.2)) rfl rfl (r_extract rfl rfl) ?_
      refine lv (v := (.slice ra_40 r_38.1.length rc_41)) rfl rfl (r_assign rfl) ?_
      refine lv (v := (.int .i64 r_38.2)) rfl rfl (r_assign rfl) ?_
      refine lnil ?_
      refine wseq ?_
      refine wregion ?_
      refine lv (v := (.pointer none)) rfl rfl (r_move rfl) ?_
      refine lv (v := (.slice ra_26 r_24.1.length rc_27)) rfl rfl (r_move rfl) ?_
      obtain ⟨r_47, hr_48, hm⟩ := bind_some hm
      refine lc rfl rfl (r_call2 Try.call40 rfl rfl) (c_order_Cliques_v0n N 9 (frC 6 col_46) _ ra_26 rc_27 r_24.1 (rh_28.toSlF (Froz.int .i64)) r_47 hr_48) ?_
      rintro _ w_52 ⟨col_54, ra_49, rc_50, rfl, hg_53, rh_51⟩
      refine ⟨_, rfl, ?_⟩
      replace rh_51 := rh_51.thaw (flat_row (flat_int .i64)) hg_53 ((Fz.refl (col := col_46)).froz 6) (by decide)
      replace hg_53 := hg_53.thawR (col := col_46)
      generalize colR w_43.heap.size col_46 col_54 = col_55 at *
      replace rh_28 := rh_28.gr hg_53
      replace rh_42 := rh_42.gr hg_53
      replace hst := hst.grow hg_53
      refine lv (v := (.tuple #[(.slice ra_49 r_47.1.length rc_50), (.int .i64 r_47.2)])) rfl rfl (r_move rfl) ?_
      refine lv (v := (.slice ra_49 r_47.1.length rc_50)) rfl rfl (r_extract rfl rfl) ?_
      refine lv (v := (.int .i64 r_47.2)) rfl rfl (r_extract rfl rfl) ?_
      refine lv (v := (.slice ra_49 r_47.1.length rc_50)) rfl rfl (r_assign rfl) ?_
      refine lv (v := (.int .i64 r_47.2)) rfl rfl (r_assign rfl) ?_
      refine lnil ?_
      refine wseq ?_
      refine wregion ?_
      refine lv (v := (.pointer none)) rfl rfl (r_move rfl) ?_
      refine lv (v := (.slice ra_26 r_24.1.length rc_27)) rfl rfl (r_move rfl) ?_
      obtain ⟨r_56, hr_57, hm⟩ := bind_some hm
      refine lc rfl rfl (r_call2 Try.call42 rfl rfl) (c_order_Width_v0n N (frC 6 col_55) _ ra_26 rc_27 r_24.1 (rh_28.toSlF (Froz.int .i64)) r_56 hr_57) ?_
      rintro _ w_58 ⟨rfl, hg_59⟩
      refine ⟨_, rfl, ?_⟩
      replace hg_59 : Grow col_55 w_52 col_55 w_58 := .of_below hg_59
      replace rh_28 := rh_28.gr hg_59
      replace rh_42 := rh_42.gr hg_59
      replace rh_51 := rh_51.gr hg_59
      replace hst := hst.grow hg_59
      refine lv (v := (.tuple #[(.int .i64 r_56.1), (.int .i64 r_56.2)])) rfl rfl (r_move rfl) ?_
      refine lv (v := (.int .i64 r_56.1)) rfl rfl (r_extract rfl rfl) ?_
      refine lv (v := (.int .i64 r_56.2)) rfl rfl (r_extract rfl rfl) ?_
      refine lv (v := (.int .i64 r_56.1)) rfl rfl (r_assign rfl) ?_
      refine lv (v := (.int .i64 r_56.2)) rfl rfl (r_assign rfl) ?_
      refine lnil ?_
      refine wseq ?_
      refine wregion ?_
      obtain ⟨r_60, hr_61, hm⟩ := bind_some hm
      refine lc rfl rfl (r_call2 Try.call32 rfl rfl) (c_order_Fill_v0n N 10 col_55 _ none 0 ([] : List Int) Sl.nil r_60 hr_61) ?_
      rintro _ w_65 ⟨col_67, ra_62, rc_63, rfl, hg_66, rh_64⟩
      refine ⟨_, rfl, ?_⟩
      replace rh_28 := rh_28.gr hg_66
      replace rh_42 := rh_42.gr hg_66
      replace rh_51 := rh_51.gr hg_66
      replace hst := hst.grow hg_66
      refine lv (v := (.tuple #[(.slice ra_62 r_60.1.length rc_63), (.int .i64 r_60.2)])) rfl rfl (r_move rfl) ?_
      refine lv (v := (.slice ra_62 r_60.1.length rc_63)) rfl rfl (r_extract rfl rfl) ?_
      refine lv (v := (.int .i64 r_60.2)) rfl rfl (r_extract rfl rfl) ?_
      refine lv (v := (.slice ra_62 r_60.1.length rc_63)) rfl rfl (r_assign rfl) ?_
      refine lv (v := (.int .i64 r_60.2)) rfl rfl (r_assign rfl) ?_
      refine lnil ?_
      refine wseq ?_
      refine Wp.cut (fun f w_186 => ∃ (col_187 : Col) (v_188 : Bool), m_credencelaw18_awake_J1 v_188 = some r ∧ St w0 (col0 col) col_187 w_186 ∧ f 0 = (.bool v_188) ∧ f 1000000 = (enc [])) ?_ ?_
      · intro f w_186 hJ
        obtain ⟨col_187, v_188, hm, hst, hs0, hs1000000⟩ := hJ
        rw [m_credencelaw18_awake_J1.eq_1] at hm
        refine .ld (d := 0) (v := (.bool v_188)) hs0 ?_
        refine .ld (d := 1000000) (v := (enc [])) hs1000000 ?_
        clear hs0 hs1000000
        refine wret ?_
        cases hm
        exact ⟨rfl, rfl, hst.below⟩
      · refine wregion ?_
        refine lv (v := (.int .i64 r_24.2)) rfl rfl (r_move rfl) ?_
        refine lv (v := (.bool (decide (r_24.2 = 0)))) rfl rfl (r_eql r_24.2 0 rfl rfl) ?_
        refine lv (v := (.bool (decide (r_24.2 = 0)))) rfl rfl (r_move rfl) ?_
        by_cases hg_189 : (decide (r_24.2 = 0)) = true
        · rw [if_pos hg_189] at hm
          refine lg (b := decide (r_24.2 = 0)) 53 rfl rfl rfl (by rw [hg_189]; rfl) ?_
          refine lv (v := (.int .i64 r_38.2)) rfl rfl (r_move rfl) ?_
          refine lg (b := decide (r_24.2 = 0)) 53 rfl rfl rfl (by rw [hg_189]; rfl) ?_
          refine lv (v := (.bool (decide (r_38.2 = 0)))) rfl rfl (r_eql r_38.2 0 rfl rfl) ?_
          refine lv (v := (.bool (decide (r_38.2 = 0)))) rfl rfl (r_pickT (congrArg Value.bool hg_189) rfl) ?_
          refine lv (v := (.bool (decide (r_38.2 = 0)))) rfl rfl (r_move rfl) ?_
          by_cases hg_190 : (decide (r_38.2 = 0)) = true
          · rw [if_pos hg_190] at hm
            refine lg (b := decide (r_38.2 = 0)) 57 rfl rfl rfl (by rw [hg_190]; rfl) ?_
            refine lv (v := (.int .i64 r_47.2)) rfl rfl (r_move rfl) ?_
            refine lg (b := decide (r_38.2 = 0)) 57 rfl rfl rfl (by rw [hg_190]; rfl) ?_
            refine lv (v := (.bool (decide (r_47.2 = 0)))) rfl rfl (r_eql r_47.2 0 rfl rfl) ?_
            refine lv (v := (.bool (decide (r_47.2 = 0)))) rfl rfl (r_pickT (congrArg Value.bool hg_190) rfl) ?_
            refine lv (v := (.bool (decide (r_47.2 = 0)))) rfl rfl (r_move rfl) ?_
            by_cases hg_191 : (decide (r_47.2 = 0)) = true
            · rw [if_pos hg_191] at hm
              refine lg (b := decide (r_47.2 = 0)) 61 rfl rfl rfl (by rw [hg_191]; rfl) ?_
              refine lv (v := (.int .i64 r_56.2)) rfl rfl (r_move rfl) ?_
              refine lg (b := decide (r_47.2 = 0)) 61 rfl rfl rfl (by rw [hg_191]; rfl) ?_
              refine lv (v := (.bool (decide (r_56.2 = 0)))) rfl rfl (r_eql r_56.2 0 rfl rfl) ?_
              refine lv (v := (.bool (decide (r_56.2 = 0)))) rfl rfl (r_pickT (congrArg Value.bool hg_191) rfl) ?_
              refine lv (v := (.bool (decide (r_56.2 = 0)))) rfl rfl (r_move rfl) ?_
              by_cases hg_192 : (decide (r_56.2 = 0)) = true
              · rw [if_pos hg_192] at hm
                refine lg (b := decide (r_56.2 = 0)) 65 rfl rfl rfl (by rw [hg_192]; rfl) ?_
                refine lv (v := (.slice ra_26 r_24.1.length rc_27)) rfl rfl (r_move rfl) ?_
                refine lg (b := decide (r_56.2 = 0)) 65 rfl rfl rfl (by rw [hg_192]; rfl) ?_
                refine l_lit (col := col_67) (r := (Rep.int .i64)) (xs := [4, 0, 1, 2, 3]) [(.int .i64 4), (.int .i64 0), (.int .i64 1), (.int .i64 2), (.int .i64 3)] 21 rfl Try.underlying22 el3_29 rfl rfl rfl rfl rfl rfl (by intro v hv; simp only [List.mem_cons, List.not_mem_nil, or_false] at hv; rcases hv with rfl | rfl | rfl | rfl | rfl <;> rfl) (RowsH.ofF (Rows.consF (r := (Rep.int .i64)) (x := 4) (cs := [(.int .i64 4)]) (rd_int .i64 4) (Rows.consF (r := (Rep.int .i64)) (x := 0) (cs := [(.int .i64 0)]) (rd_int .i64 0) (Rows.consF (r := (Rep.int .i64)) (x := 1) (cs := [(.int .i64 1)]) (rd_int .i64 1) (Rows.consF (r := (Rep.int .i64)) (x := 2) (cs := [(.int .i64 2)]) (rd_int .i64 2) (Rows.consF (r := (Rep.int .i64)) (x := 3) (cs := [(.int .i64 3)]) (rd_int .i64 3) Rows.nil0)))))) ?_
                intro a_193 w_194 col_195 hg_196 h_197
                replace rh_42 := rh_42.gr hg_196
                replace rh_51 := rh_51.gr hg_196
                replace rh_28 := rh_28.gr hg_196
                replace hst := hst.grow hg_196
                refine lg (b := decide (r_56.2 = 0)) 65 rfl rfl rfl (by rw [hg_192]; rfl) ?_
                obtain ⟨r_198, hr_199, hm⟩ := bind_some hm
                refine lc rfl rfl (r_call2 Try.call36 rfl rfl) (c_credenceref15_Ints N (frC 21 (frC 6 col_195)) _ ra_26 rc_27 r_24.1 a_193 5 [4, 0, 1, 2, 3] ((rh_28.toSlF (Froz.int .i64)).froz 21) ((h_197.froz 6 (by decide)).toSlF (Froz.int .i64)) r_198 hr_199) ?_
                rintro _ w_200 ⟨rfl, hg_201⟩
                refine ⟨_, rfl, ?_⟩
                replace hg_201 : Grow col_195 w_194 col_195 w_200 := .of_below hg_201
                replace rh_42 := rh_42.gr hg_201
                replace rh_51 := rh_51.gr hg_201
                replace rh_28 := rh_28.gr hg_201
                replace h_197 := h_197.gr hg_201
                replace hst := hst.grow hg_201
                refine lv (v := (.bool r_198)) rfl rfl (r_pickT (congrArg Value.bool hg_192) rfl) ?_
                refine lv (v := (.bool r_198)) rfl rfl (r_move rfl) ?_
                by_cases hg_202 : r_198 = true
                · rw [if_pos hg_202] at hm
                  refine lg (b := r_198) 70 rfl rfl rfl (by rw [hg_202]; rfl) ?_
                  refine lv (v := (.slice ra_40 r_38.1.length rc_41)) rfl rfl (r_move rfl) ?_
                  refine lg (b := r_198) 70 rfl rfl rfl (by rw [hg_202]; rfl) ?_
                  refine l_lit (col := col_195) (r := (Rep.int .i64)) (xs := [1, 3]) [(.int .i64 1), (.int .i64 3)] 22 rfl Try.underlying22 el3_29 rfl rfl rfl rfl rfl rfl (by intro v hv; simp only [List.mem_cons, List.not_mem_nil, or_false] at hv; rcases hv with rfl | rfl <;> rfl) (RowsH.ofF (Rows.consF (r := (Rep.int .i64)) (x := 1) (cs := [(.int .i64 1)]) (rd_int .i64 1) (Rows.consF (r := (Rep.int .i64)) (x := 3) (cs := [(.int .i64 3)]) (rd_int .i64 3) Rows.nil0))) ?_
                  intro a_203 w_204 col_205 hg_206 h_207
                  replace rh_51 := rh_51.gr hg_206
                  replace rh_42 := rh_42.gr hg_206
                  replace hst := hst.grow hg_206
                  refine lg (b := r_198) 70 rfl rfl rfl (by rw [hg_202]; rfl) ?_
                  obtain ⟨r_208, hr_209, hm⟩ := bind_some hm
                  refine lc rfl rfl (r_call2 Try.call36 rfl rfl) (c_credenceref15_Ints N (frC 22 (frC 8 col_205)) _ ra_40 rc_41 r_38.1 a_203 2 [1, 3] ((rh_42.toSlF (Froz.int .i64)).froz 22) ((h_207.froz 8 (by decide)).toSlF (Froz.int .i64)) r_208 hr_209) ?_
                  rintro _ w_210 ⟨rfl, hg_211⟩
                  refine ⟨_, rfl, ?_⟩
                  replace hg_211 : Grow col_205 w_204 col_205 w_210 := .of_below hg_211
                  replace rh_51 := rh_51.gr hg_211
                  replace rh_42 := rh_42.gr hg_211
                  replace h_207 := h_207.gr hg_211
                  replace hst := hst.grow hg_211
                  refine lv (v := (.bool r_208)) rfl rfl (r_pickT (congrArg Value.bool hg_202) rfl) ?_
                  refine lv (v := (.bool r_208)) rfl rfl (r_move rfl) ?_
                  by_cases hg_212 : r_208 = true
                  · rw [if_pos hg_212] at hm
                    refine lg (b := r_208) 75 rfl rfl rfl (by rw [hg_212]; rfl) ?_
                    refine lv (v := (.slice ra_49 r_47.1.length rc_50)) rfl rfl (r_move rfl) ?_
                    refine lg (b := r_208) 75 rfl rfl rfl (by rw [hg_212]; rfl) ?_
                    refine lv (v := (.int .i64 (r_47.1.length : Int))) rfl rfl (r_len Try.underlying33 rfl) ?_
                    refine lg (b := r_208) 75 rfl rfl rfl (by rw [hg_212]; rfl) ?_
                    refine lv (v := (.bool (decide ((r_47.1.length : Int) = 5)))) rfl rfl (r_eql (r_47.1.length : Int) 5 rfl rfl) ?_
                    refine lv (v := (.bool (decide ((r_47.1.length : Int) = 5)))) rfl rfl (r_pickT (congrArg Value.bool hg_212) rfl) ?_
                    refine lv (v := (.bool (decide ((r_47.1.length : Int) = 5)))) rfl rfl (r_move rfl) ?_
                    by_cases hg_213 : (decide ((r_47.1.length : Int) = 5)) = true
                    · rw [if_pos hg_213] at hm
                      refine lg (b := decide ((r_47.1.length : Int) = 5)) 80 rfl rfl rfl (by rw [hg_213]; rfl) ?_
                      refine lv (v := (.slice ra_49 r_47.1.length rc_50)) rfl rfl (r_move rfl) ?_
                      refine lg (b := decide ((r_47.1.length : Int) = 5)) 80 rfl rfl rfl (by rw [hg_213]; rfl) ?_
                      obtain ⟨e_214, hj_215, hm⟩ := bind_some hm
                      refine lv (v := (sptr ra_49 (Int.toNat 1 * 1))) rfl rfl (r_idx Try.underlying33 Try.sizeOf22 rfl rfl (at?_some hj_215).1 (at?_some hj_215).2.1 (rh_51.addr hj_215)) ?_
                      refine lg (b := decide ((r_47.1.length : Int) = 5)) 80 rfl rfl rfl (by rw [hg_213]; rfl) ?_
                      obtain ⟨_, hr_216, hA_217⟩ := rh_51.atN hj_215
                      obtain ⟨a_218, cap_219, rfl, h_220⟩ := hr_216.row
                      refine lv (v := (.slice a_218 e_214.length cap_219)) rfl rfl (r_ld Try.isAgg22 rfl hA_217.one) ?_
                      refine lg (b := decide ((r_47.1.length : Int) = 5)) 80 rfl rfl rfl (by rw [hg_213]; rfl) ?_
                      refine lv (v := (.int .i64 (e_214.length : Int))) rfl rfl (r_len Try.underlying22 rfl) ?_
                      refine lg (b := decide ((r_47.1.length : Int) = 5)) 80 rfl rfl rfl (by rw [hg_213]; rfl) ?_
                      refine lv (v := (.bool (decide ((e_214.length : Int) = 3)))) rfl rfl (r_eql (e_214.length : Int) 3 rfl rfl) ?_
                      refine lv (v := (.bool (decide ((e_214.length : Int) = 3)))) rfl rfl (r_pickT (congrArg Value.bool hg_213) rfl) ?_
                      refine lv (v := (.bool (decide ((e_214.length : Int) = 3)))) rfl rfl (r_move rfl) ?_
                      by_cases hg_221 : (decide ((e_214.length : Int) = 3)) = true
                      · rw [if_pos hg_221] at hm
                        refine lg (b := decide ((e_214.length : Int) = 3)) 87 rfl rfl rfl (by rw [hg_221]; rfl) ?_
                        refine lv (v := (.int .i64 r_56.1)) rfl rfl (r_move rfl) ?_
                        refine lg (b := decide ((e_214.length : Int) = 3)) 87 rfl rfl rfl (by rw [hg_221]; rfl) ?_
                        refine lv (v := (.bool (decide (r_56.1 = 2)))) rfl rfl (r_eql r_56.1 2 rfl rfl) ?_
                        refine lv (v := (.bool (decide (r_56.1 = 2)))) rfl rfl (r_pickT (congrArg Value.bool hg_221) rfl) ?_
                        refine lv (v := (.bool (decide (r_56.1 = 2)))) rfl rfl (r_move rfl) ?_
                        by_cases hg_222 : (decide (r_56.1 = 2)) = true
                        · rw [if_pos hg_222] at hm
                          refine lg (b := decide (r_56.1 = 2)) 91 rfl rfl rfl (by rw [hg_222]; rfl) ?_
                          refine lv (v := (.int .i64 r_60.2)) rfl rfl (r_move rfl) ?_
                          refine lg (b := decide (r_56.1 = 2)) 91 rfl rfl rfl (by rw [hg_222]; rfl) ?_
                          refine lv (v := (.bool (decide (r_60.2 = 2)))) rfl rfl (r_eql r_60.2 2 rfl rfl) ?_
                          refine lv (v := (.bool (decide (r_60.2 = 2)))) rfl rfl (r_pickT (congrArg Value.bool hg_222) rfl) ?_
                          refine lv (v := (.bool (decide (r_60.2 = 2)))) rfl rfl (r_move rfl) ?_
                          by_cases hg_223 : (decide (r_60.2 = 2)) = true
                          · rw [if_pos hg_223] at hm
                            refine lg (b := decide (r_60.2 = 2)) 95 rfl rfl rfl (by rw [hg_223]; rfl) ?_
                            refine l_lit (col := col_205) (r := (Rep.int .i64)) (xs := [2, 0, 1]) [(.int .i64 2), (.int .i64 0), (.int .i64 1)] 23 rfl Try.underlying22 el3_29 rfl rfl rfl rfl rfl rfl (by intro v hv; simp only [List.mem_cons, List.not_mem_nil, or_false] at hv; rcases hv with rfl | rfl | rfl <;> rfl) (RowsH.ofF (Rows.consF (r := (Rep.int .i64)) (x := 2) (cs := [(.int .i64 2)]) (rd_int .i64 2) (Rows.consF (r := (Rep.int .i64)) (x := 0) (cs := [(.int .i64 0)]) (rd_int .i64 0) (Rows.consF (r := (Rep.int .i64)) (x := 1) (cs := [(.int .i64 1)]) (rd_int .i64 1) Rows.nil0)))) ?_
                            intro a_224 w_225 col_226 hg_227 h_228
                            replace hst := hst.grow hg_227
                            refine lg (b := decide (r_60.2 = 2)) 95 rfl rfl rfl (by rw [hg_223]; rfl) ?_
                            refine l_lit (col := col_226) (r := (Rep.int .i64)) (xs := [0, 1, 2]) [(.int .i64 0), (.int .i64 1), (.int .i64 2)] 24 rfl Try.underlying22 el3_29 rfl rfl rfl rfl rfl rfl (by intro v hv; simp only [List.mem_cons, List.not_mem_nil, or_false] at hv; rcases hv with rfl | rfl | rfl <;> rfl) (RowsH.ofF (Rows.consF (r := (Rep.int .i64)) (x := 0) (cs := [(.int .i64 0)]) (rd_int .i64 0) (Rows.consF (r := (Rep.int .i64)) (x := 1) (cs := [(.int .i64 1)]) (rd_int .i64 1) (Rows.consF (r := (Rep.int .i64)) (x := 2) (cs := [(.int .i64 2)]) (rd_int .i64 2) Rows.nil0)))) ?_
                            intro a_229 w_230 col_231 hg_232 h_233
                            replace h_228 := h_228.gr hg_232
                            replace hst := hst.grow hg_232
                            refine lg (b := decide (r_60.2 = 2)) 95 rfl rfl rfl (by rw [hg_223]; rfl) ?_
                            obtain ⟨r_234, hr_235, hm⟩ := bind_some hm
                            refine lc rfl rfl (r_call2 Try.call45 rfl rfl) (c_order_Check (frC 24 (frC 23 col_231)) _ a_224 3 [2, 0, 1] a_229 3 [0, 1, 2] ((h_228.toSlF (Froz.int .i64)).froz 24) ((h_233.froz 23 (by decide)).toSlF (Froz.int .i64)) r_234 hr_235) ?_
                            rintro _ w_236 ⟨rfl, hg_237⟩
                            refine ⟨_, rfl, ?_⟩
                            replace hg_237 : Grow col_231 w_230 col_231 w_236 := .of_below hg_237
                            replace h_228 := h_228.gr hg_237
                            replace h_233 := h_233.gr hg_237
                            replace hst := hst.grow hg_237
                            refine lg (b := decide (r_60.2 = 2)) 95 rfl rfl rfl (by rw [hg_223]; rfl) ?_
                            refine lv (v := (.bool (decide (r_234 = 0)))) rfl rfl (r_eql r_234 0 rfl rfl) ?_
                            refine lv (v := (.bool (decide (r_234 = 0)))) rfl rfl (r_pickT (congrArg Value.bool hg_223) rfl) ?_
                            refine lv (v := (.bool (decide (r_234 = 0)))) rfl rfl (r_move rfl) ?_
                            by_cases hg_238 : (decide (r_234 = 0)) = true
                            · rw [if_pos hg_238] at hm
                              refine lg (b := decide (r_234 = 0)) 101 rfl rfl rfl (by rw [hg_238]; rfl) ?_
                              refine l_lit (col := col_231) (r := (Rep.int .i64)) (xs := [0]) [(.int .i64 0)] 25 rfl Try.underlying22 el3_29 rfl rfl rfl rfl rfl rfl (by intro v hv; simp only [List.mem_cons, List.not_mem_nil, or_false] at hv; subst hv; rfl) (RowsH.ofF (Rows.consF (r := (Rep.int .i64)) (x := 0) (cs := [(.int .i64 0)]) (rd_int .i64 0) Rows.nil0)) ?_
                              intro a_239 w_240 col_241 hg_242 h_243
                              replace hst := hst.grow hg_242
                              refine lg (b := decide (r_234 = 0)) 101 rfl rfl rfl (by rw [hg_238]; rfl) ?_
                              obtain ⟨r_244, hr_245, hm⟩ := bind_some hm
                              refine lc rfl rfl (r_call2 Try.call45 rfl rfl) (c_order_Check (frC 25 col_241) _ a_239 1 [0] none 0 ([] : List Int) (h_243.toSlF (Froz.int .i64)) Sl.nil r_244 hr_245) ?_
                              rintro _ w_246 ⟨rfl, hg_247⟩
                              refine ⟨_, rfl, ?_⟩
                              replace hg_247 : Grow col_241 w_240 col_241 w_246 := .of_below hg_247
                              replace h_243 := h_243.gr hg_247
                              replace hst := hst.grow hg_247
                              refine lg (b := decide (r_234 = 0)) 101 rfl rfl rfl (by rw [hg_238]; rfl) ?_
                              refine lv (v := (.bool (decide (r_244 = 51)))) rfl rfl (r_eql r_244 51 rfl rfl) ?_
                              refine lv (v := (.bool (decide (r_244 = 51)))) rfl rfl (r_pickT (congrArg Value.bool hg_238) rfl) ?_
                              refine lv (v := (.bool (decide (r_244 = 51)))) rfl rfl (r_assign rfl) ?_
                              refine lnil ?_
                              exact ⟨col_241, (decide (r_244 = 51)), hm, hst, rfl, rfl⟩
                            · rw [if_neg hg_238] at hm
                              replace hg_238 := Bool.eq_false_iff.2 hg_238
                              refine lp (b := decide (r_234 = 0)) 101 rfl rfl rfl rfl (by rw [hg_238]; rfl) ?_
                              refine lp (b := decide (r_234 = 0)) 101 rfl rfl rfl rfl (by rw [hg_238]; rfl) ?_
                              refine lp (b := decide (r_234 = 0)) 101 rfl rfl rfl rfl (by rw [hg_238]; rfl) ?_
                              refine lv (v := (.bool false)) rfl rfl (r_pickF (congrArg Value.bool hg_238) rfl) ?_
                              refine lv (v := (.bool false)) rfl rfl (r_assign rfl) ?_
                              refine lnil ?_
                              exact ⟨col_231, false, hm, hst, rfl, rfl⟩
                          · rw [if_neg hg_223] at hm
                            replace hg_223 := Bool.eq_false_iff.2 hg_223
                            refine lp (b := decide (r_60.2 = 2)) 95 rfl rfl rfl rfl (by rw [hg_223]; rfl) ?_
                            refine lp (b := decide (r_60.2 = 2)) 95 rfl rfl rfl rfl (by rw [hg_223]; rfl) ?_
                            refine lp (b := decide (r_60.2 = 2)) 95 rfl rfl rfl rfl (by rw [hg_223]; rfl) ?_
                            refine lp (b := decide (r_60.2 = 2)) 95 rfl rfl rfl rfl (by rw [hg_223]; rfl) ?_
                            refine lv (v := (.bool false)) rfl rfl (r_pickF (congrArg Value.bool hg_223) rfl) ?_
                            refine lv (v := (.bool false)) rfl rfl (r_move rfl) ?_
                            refine lp (b := false) 101 rfl rfl rfl rfl rfl ?_
                            refine lp (b := false) 101 rfl rfl rfl rfl rfl ?_
                            refine lp (b := false) 101 rfl rfl rfl rfl rfl ?_
                            refine lv (v := (.bool false)) rfl rfl (r_pickF rfl rfl) ?_
                            refine lv (v := (.bool false)) rfl rfl (r_assign rfl) ?_
                            refine lnil ?_
                            exact ⟨col_205, false, hm, hst, rfl, rfl⟩
                        · rw [if_neg hg_222] at hm
                          replace hg_222 := Bool.eq_false_iff.2 hg_222
                          refine lp (b := decide (r_56.1 = 2)) 91 rfl rfl rfl rfl (by rw [hg_222]; rfl) ?_
                          refine lp (b := decide (r_56.1 = 2)) 91 rfl rfl rfl rfl (by rw [hg_222]; rfl) ?_
                          refine lv (v := (.bool false)) rfl rfl (r_pickF (congrArg Value.bool hg_222) rfl) ?_
                          refine lv (v := (.bool false)) rfl rfl (r_move rfl) ?_
                          refine lp (b := false) 95 rfl rfl rfl rfl rfl ?_
                          refine lp (b := false) 95 rfl rfl rfl rfl rfl ?_
                          refine lp (b := false) 95 rfl rfl rfl rfl rfl ?_
                          refine lp (b := false) 95 rfl rfl rfl rfl rfl ?_
                          refine lv (v := (.bool false)) rfl rfl (r_pickF rfl rfl) ?_
                          refine lv (v := (.bool false)) rfl rfl (r_move rfl) ?_
                          refine lp (b := false) 101 rfl rfl rfl rfl rfl ?_
                          refine lp (b := false) 101 rfl rfl rfl rfl rfl ?_
                          refine lp (b := false) 101 rfl rfl rfl rfl rfl ?_
                          refine lv (v := (.bool false)) rfl rfl (r_pickF rfl rfl) ?_
                          refine lv (v := (.bool false)) rfl rfl (r_assign rfl) ?_
                          refine lnil ?_
                          exact ⟨col_205, false, hm, hst, rfl, rfl⟩
                      · rw [if_neg hg_221] at hm
                        replace hg_221 := Bool.eq_false_iff.2 hg_221
                        refine lp (b := decide ((e_214.length : Int) = 3)) 87 rfl rfl rfl rfl (by rw [hg_221]; rfl) ?_
                        refine lp (b := decide ((e_214.length : Int) = 3)) 87 rfl rfl rfl rfl (by rw [hg_221]; rfl) ?_
                        refine lv (v := (.bool false)) rfl rfl (r_pickF (congrArg Value.bool hg_221) rfl) ?_
                        refine lv (v := (.bool false)) rfl rfl (r_move rfl) ?_
                        refine lp (b := false) 91 rfl rfl rfl rfl rfl ?_
                        refine lp (b := false) 91 rfl rfl rfl rfl rfl ?_
                        refine lv (v := (.bool false)) rfl rfl (r_pickF rfl rfl) ?_
                        refine lv (v := (.bool false)) rfl rfl (r_move rfl) ?_
                        refine lp (b := false) 95 rfl rfl rfl rfl rfl ?_
                        refine lp (b := false) 95 rfl rfl rfl rfl rfl ?_
                        refine lp (b := false) 95 rfl rfl rfl rfl rfl ?_
                        refine lp (b := false) 95 rfl rfl rfl rfl rfl ?_
                        refine lv (v := (.bool false)) rfl rfl (r_pickF rfl rfl) ?_
                        refine lv (v := (.bool false)) rfl rfl (r_move rfl) ?_
                        refine lp (b := false) 101 rfl rfl rfl rfl rfl ?_
                        refine lp (b := false) 101 rfl rfl rfl rfl rfl ?_
                        refine lp (b := false) 101 rfl rfl rfl rfl rfl ?_
                        refine lv (v := (.bool false)) rfl rfl (r_pickF rfl rfl) ?_
                        refine lv (v := (.bool false)) rfl rfl (r_assign rfl) ?_
                        refine lnil ?_
                        exact ⟨col_205, false, hm, hst, rfl, rfl⟩
                    · rw [if_neg hg_213] at hm
                      replace hg_213 := Bool.eq_false_iff.2 hg_213
                      refine lp (b := decide ((r_47.1.length : Int) = 5)) 80 rfl rfl rfl rfl (by rw [hg_213]; rfl) ?_
                      refine lp (b := decide ((r_47.1.length : Int) = 5)) 80 rfl rfl rfl rfl (by rw [hg_213]; rfl) ?_
                      refine lp (b := decide ((r_47.1.length : Int) = 5)) 80 rfl rfl rfl rfl (by rw [hg_213]; rfl) ?_
                      refine lp (b := decide ((r_47.1.length : Int) = 5)) 80 rfl rfl rfl rfl (by rw [hg_213]; rfl) ?_
                      refine lp (b := decide ((r_47.1.length : Int) = 5)) 80 rfl rfl rfl rfl (by rw [hg_213]; rfl) ?_
                      refine lv (v := (.bool false)) rfl rfl (r_pickF (congrArg Value.bool hg_213) rfl) ?_
                      refine lv (v := (.bool false)) rfl rfl (r_move rfl) ?_
                      refine lp (b := false) 87 rfl rfl rfl rfl rfl ?_
                      refine lp (b := false) 87 rfl rfl rfl rfl rfl ?_
                      refine lv (v := (.bool false)) rfl rfl (r_pickF rfl rfl) ?_
                      refine lv (v := (.bool false)) rfl rfl (r_move rfl) ?_
                      refine lp (b := false) 91 rfl rfl rfl rfl rfl ?_
                      refine lp (b := false) 91 rfl rfl rfl rfl rfl ?_
                      refine lv (v := (.bool false)) rfl rfl (r_pickF rfl rfl) ?_
                      refine lv (v := (.bool false)) rfl rfl (r_move rfl) ?_
                      refine lp (b := false) 95 rfl rfl rfl rfl rfl ?_
                      refine lp (b := false) 95 rfl rfl rfl rfl rfl ?_
                      refine lp (b := false) 95 rfl rfl rfl rfl rfl ?_
                      refine lp (b := false) 95 rfl rfl rfl rfl rfl ?_
                      refine lv (v := (.bool false)) rfl rfl (r_pickF rfl rfl) ?_
                      refine lv (v := (.bool false)) rfl rfl (r_move rfl) ?_
                      refine lp (b := false) 101 rfl rfl rfl rfl rfl ?_
                      refine lp (b := false) 101 rfl rfl rfl rfl rfl ?_
                      refine lp (b := false) 101 rfl rfl rfl rfl rfl ?_
                      refine lv (v := (.bool false)) rfl rfl (r_pickF rfl rfl) ?_
                      refine lv (v := (.bool false)) rfl rfl (r_assign rfl) ?_
                      refine lnil ?_
                      exact ⟨col_205, false, hm, hst, rfl, rfl⟩
                  · rw [if_neg hg_212] at hm
                    replace hg_212 := Bool.eq_false_iff.2 hg_212
                    refine lp (b := r_208) 75 rfl rfl rfl rfl (by rw [hg_212]; rfl) ?_
                    refine lp (b := r_208) 75 rfl rfl rfl rfl (by rw [hg_212]; rfl) ?_
                    refine lp (b := r_208) 75 rfl rfl rfl rfl (by rw [hg_212]; rfl) ?_
                    refine lv (v := (.bool false)) rfl rfl (r_pickF (congrArg Value.bool hg_212) rfl) ?_
                    refine lv (v := (.bool false)) rfl rfl (r_move rfl) ?_
                    refine lp (b := false) 80 rfl rfl rfl rfl rfl ?_
                    refine lp (b := false) 80 rfl rfl rfl rfl rfl ?_
                    refine lp (b := false) 80 rfl rfl rfl rfl rfl ?_
                    refine lp (b := false) 80 rfl rfl rfl rfl rfl ?_
                    refine lp (b := false) 80 rfl rfl rfl rfl rfl ?_
                    refine lv (v := (.bool false)) rfl rfl (r_pickF rfl rfl) ?_
                    refine lv (v := (.bool false)) rfl rfl (r_move rfl) ?_
                    refine lp (b := false) 87 rfl rfl rfl rfl rfl ?_
                    refine lp (b := false) 87 rfl rfl rfl rfl rfl ?_
                    refine lv (v := (.bool false)) rfl rfl (r_pickF rfl rfl) ?_
                    refine lv (v := (.bool false)) rfl rfl (r_move rfl) ?_
                    refine lp (b := false) 91 rfl rfl rfl rfl rfl ?_
                    refine lp (b := false) 91 rfl rfl rfl rfl rfl ?_
                    refine lv (v := (.bool false)) rfl rfl (r_pickF rfl rfl) ?_
                    refine lv (v := (.bool false)) rfl rfl (r_move rfl) ?_
                    refine lp (b := false) 95 rfl rfl rfl rfl rfl ?_
                    refine lp (b := false) 95 rfl rfl rfl rfl rfl ?_
                    refine lp (b := false) 95 rfl rfl rfl rfl rfl ?_
                    refine lp (b := false) 95 rfl rfl rfl rfl rfl ?_
                    refine lv (v := (.bool false)) rfl rfl (r_pickF rfl rfl) ?_
                    refine lv (v := (.bool false)) rfl rfl (r_move rfl) ?_
                    refine lp (b := false) 101 rfl rfl rfl rfl rfl ?_
                    refine lp (b := false) 101 rfl rfl rfl rfl rfl ?_
                    refine lp (b := false) 101 rfl rfl rfl rfl rfl ?_
                    refine lv (v := (.bool false)) rfl rfl (r_pickF rfl rfl) ?_
                    refine lv (v := (.bool false)) rfl rfl (r_assign rfl) ?_
                    refine lnil ?_
                    exact ⟨col_205, false, hm, hst, rfl, rfl⟩
                · rw [if_neg hg_202] at hm
                  replace hg_202 := Bool.eq_false_iff.2 hg_202
                  refine lp (b := r_198) 70 rfl rfl rfl rfl (by rw [hg_202]; rfl) ?_
                  refine lp (b := r_198) 70 rfl rfl rfl rfl (by rw [hg_202]; rfl) ?_
                  refine lp (b := r_198) 70 rfl rfl rfl rfl (by rw [hg_202]; rfl) ?_
                  refine lv (v := (.bool false)) rfl rfl (r_pickF (congrArg Value.bool hg_202) rfl) ?_
                  refine lv (v := (.bool false)) rfl rfl (r_move rfl) ?_
                  refine lp (b := false) 75 rfl rfl rfl rfl rfl ?_
                  refine lp (b := false) 75 rfl rfl rfl rfl rfl ?_
                  refine lp (b := false) 75 rfl rfl rfl rfl rfl ?_
                  refine lv (v := (.bool false)) rfl rfl (r_pickF rfl rfl) ?_
                  refine lv (v := (.bool false)) rfl rfl (r_move rfl) ?_
                  refine lp (b := false) 80 rfl rfl rfl rfl rfl ?_
                  refine lp (b := false) 80 rfl rfl rfl rfl rfl ?_
                  refine lp (b := false) 80 rfl rfl rfl rfl rfl ?_
                  refine lp (b := false) 80 rfl rfl rfl rfl rfl ?_
                  refine lp (b := false) 80 rfl rfl rfl rfl rfl ?_
                  refine lv (v := (.bool false)) rfl rfl (r_pickF rfl rfl) ?_
                  refine lv (v := (.bool false)) rfl rfl (r_move rfl) ?_
                  refine lp (b := false) 87 rfl rfl rfl rfl rfl ?_
                  refine lp (b := false) 87 rfl rfl rfl rfl rfl ?_
                  refine lv (v := (.bool false)) rfl rfl (r_pickF rfl rfl) ?_
                  refine lv (v := (.bool false)) rfl rfl (r_move rfl) ?_
                  refine lp (b := false) 91 rfl rfl rfl rfl rfl ?_
                  refine lp (b := false) 91 rfl rfl rfl rfl rfl ?_
                  refine lv (v := (.bool false)) rfl rfl (r_pickF rfl rfl) ?_
                  refine lv (v := (.bool false)) rfl rfl (r_move rfl) ?_
                  refine lp (b := false) 95 rfl rfl rfl rfl rfl ?_
                  refine lp (b := false) 95 rfl rfl rfl rfl rfl ?_
                  refine lp (b := false) 95 rfl rfl rfl rfl rfl ?_
                  refine lp (b := false) 95 rfl rfl rfl rfl rfl ?_
                  refine lv (v := (.bool false)) rfl rfl (r_pickF rfl rfl) ?_
                  refine lv (v := (.bool false)) rfl rfl (r_move rfl) ?_
                  refine lp (b := false) 101 rfl rfl rfl rfl rfl ?_
                  refine lp (b := false) 101 rfl rfl rfl rfl rfl ?_
                  refine lp (b := false) 101 rfl rfl rfl rfl rfl ?_
                  refine lv (v := (.bool false)) rfl rfl (r_pickF rfl rfl) ?_
                  refine lv (v := (.bool false)) rfl rfl (r_assign rfl) ?_
                  refine lnil ?_
                  exact ⟨col_195, false, hm, hst, rfl, rfl⟩
              · rw [if_neg hg_192] at hm
                replace hg_192 := Bool.eq_false_iff.2 hg_192
                refine lp (b := decide (r_56.2 = 0)) 65 rfl rfl rfl rfl (by rw [hg_192]; rfl) ?_
                refine lp (b := decide (r_56.2 = 0)) 65 rfl rfl rfl rfl (by rw [hg_192]; rfl) ?_
                refine lp (b := decide (r_56.2 = 0)) 65 rfl rfl rfl rfl (by rw [hg_192]; rfl) ?_
                refine lv (v := (.bool false)) rfl rfl (r_pickF (congrArg Value.bool hg_192) rfl) ?_
                refine lv (v := (.bool false)) rfl rfl (r_move rfl) ?_
                refine lp (b := false) 70 rfl rfl rfl rfl rfl ?_
                refine lp (b := false) 70 rfl rfl rfl rfl rfl ?_
                refine lp (b := false) 70 rfl rfl rfl rfl rfl ?_
                refine lv (v := (.bool false)) rfl rfl (r_pickF rfl rfl) ?_
                refine lv (v := (.bool false)) rfl rfl (r_move rfl) ?_
                refine lp (b := false) 75 rfl rfl rfl rfl rfl ?_
                refine lp (b := false) 75 rfl rfl rfl rfl rfl ?_
                refine lp (b := false) 75 rfl rfl rfl rfl rfl ?_
                refine lv (v := (.bool false)) rfl rfl (r_pickF rfl rfl) ?_
                refine lv (v := (.bool false)) rfl rfl (r_move rfl) ?_
                refine lp (b := false) 80 rfl rfl rfl rfl rfl ?_
                refine lp (b := false) 80 rfl rfl rfl rfl rfl ?_
                refine lp (b := false) 80 rfl rfl rfl rfl rfl ?_
                refine lp (b := false) 80 rfl rfl rfl rfl rfl ?_
                refine lp (b := false) 80 rfl rfl rfl rfl rfl ?_
                refine lv (v := (.bool false)) rfl rfl (r_pickF rfl rfl) ?_
                refine lv (v := (.bool false)) rfl rfl (r_move rfl) ?_
                refine lp (b := false) 87 rfl rfl rfl rfl rfl ?_
                refine lp (b := false) 87 rfl rfl rfl rfl rfl ?_
                refine lv (v := (.bool false)) rfl rfl (r_pickF rfl rfl) ?_
                refine lv (v := (.bool false)) rfl rfl (r_move rfl) ?_
                refine lp (b := false) 91 rfl rfl rfl rfl rfl ?_
                refine lp (b := false) 91 rfl rfl rfl rfl rfl ?_
                refine lv (v := (.bool false)) rfl rfl (r_pickF rfl rfl) ?_
                refine lv (v := (.bool false)) rfl rfl (r_move rfl) ?_
                refine lp (b := false) 95 rfl rfl rfl rfl rfl ?_
                refine lp (b := false) 95 rfl rfl rfl rfl rfl ?_
                refine lp (b := false) 95 rfl rfl rfl rfl rfl ?_
                refine lp (b := false) 95 rfl rfl rfl rfl rfl ?_
                refine lv (v := (.bool false)) rfl rfl (r_pickF rfl rfl) ?_
                refine lv (v := (.bool false)) rfl rfl (r_move rfl) ?_
                refine lp (b := false) 101 rfl rfl rfl rfl rfl ?_
                refine lp (b := false) 101 rfl rfl rfl rfl rfl ?_
                refine lp (b := false) 101 rfl rfl rfl rfl rfl ?_
                refine lv (v := (.bool false)) rfl rfl (r_pickF rfl rfl) ?_
                refine lv (v := (.bool false)) rfl rfl (r_assign rfl) ?_
                refine lnil ?_
                exact ⟨col_67, false, hm, hst, rfl, rfl⟩
            · rw [if_neg hg_191] at hm
              replace hg_191 := Bool.eq_false_iff.2 hg_191
              refine lp (b := decide (r_47.2 = 0)) 61 rfl rfl rfl rfl (by rw [hg_191]; rfl) ?_
              refine lp (b := decide (r_47.2 = 0)) 61 rfl rfl rfl rfl (by rw [hg_191]; rfl) ?_
              refine lv (v := (.bool false)) rfl rfl (r_pickF (congrArg Value.bool hg_191) rfl) ?_
              refine lv (v := (.bool false)) rfl rfl (r_move rfl) ?_
              refine lp (b := false) 65 rfl rfl rfl rfl rfl ?_
              refine lp (b := false) 65 rfl rfl rfl rfl rfl ?_
              refine lp (b := false) 65 rfl rfl rfl rfl rfl ?_
              refine lv (v := (.bool false)) rfl rfl (r_pickF rfl rfl) ?_
              refine lv (v := (.bool false)) rfl rfl (r_move rfl) ?_
              refine lp (b := false) 70 rfl rfl rfl rfl rfl ?_
              refine lp (b := false) 70 rfl rfl rfl rfl rfl ?_
              refine lp (b := false) 70 rfl rfl rfl rfl rfl ?_
              refine lv (v := (.bool false)) rfl rfl (r_pickF rfl rfl) ?_
              refine lv (v := (.bool false)) rfl rfl (r_move rfl) ?_
              refine lp (b := false) 75 rfl rfl rfl rfl rfl ?_
              refine lp (b := false) 75 rfl rfl rfl rfl rfl ?_
              refine lp (b := false) 75 rfl rfl rfl rfl rfl ?_
              refine lv (v := (.bool false)) rfl rfl (r_pickF rfl rfl) ?_
              refine lv (v := (.bool false)) rfl rfl (r_move rfl) ?_
              refine lp (b := false) 80 rfl rfl rfl rfl rfl ?_
              refine lp (b := false) 80 rfl rfl rfl rfl rfl ?_
              refine lp (b := false) 80 rfl rfl rfl rfl rfl ?_
              refine lp (b := false) 80 rfl rfl rfl rfl rfl ?_
              refine lp (b := false) 80 rfl rfl rfl rfl rfl ?_
              refine lv (v := (.bool false)) rfl rfl (r_pickF rfl rfl) ?_
              refine lv (v := (.bool false)) rfl rfl (r_move rfl) ?_
              refine lp (b := false) 87 rfl rfl rfl rfl rfl ?_
              refine lp (b := false) 87 rfl rfl rfl rfl rfl ?_
              refine lv (v := (.bool false)) rfl rfl (r_pickF rfl rfl) ?_
              refine lv (v := (.bool false)) rfl rfl (r_move rfl) ?_
              refine lp (b := false) 91 rfl rfl rfl rfl rfl ?_
              refine lp (b := false) 91 rfl rfl rfl rfl rfl ?_
              refine lv (v := (.bool false)) rfl rfl (r_pickF rfl rfl) ?_
              refine lv (v := (.bool false)) rfl rfl (r_move rfl) ?_
              refine lp (b := false) 95 rfl rfl rfl rfl rfl ?_
              refine lp (b := false) 95 rfl rfl rfl rfl rfl ?_
              refine lp (b := false) 95 rfl rfl rfl rfl rfl ?_
              refine lp (b := false) 95 rfl rfl rfl rfl rfl ?_
              refine lv (v := (.bool false)) rfl rfl (r_pickF rfl rfl) ?_
              refine lv (v := (.bool false)) rfl rfl (r_move rfl) ?_
              refine lp (b := false) 101 rfl rfl rfl rfl rfl ?_
              refine lp (b := false) 101 rfl rfl rfl rfl rfl ?_
              refine lp (b := false) 101 rfl rfl rfl rfl rfl ?_
              refine lv (v := (.bool false)) rfl rfl (r_pickF rfl rfl) ?_
              refine lv (v := (.bool false)) rfl rfl (r_assign rfl) ?_
              refine lnil ?_
              exact ⟨col_67, false, hm, hst, rfl, rfl⟩
          · rw [if_neg hg_190] at hm
            replace hg_190 := Bool.eq_false_iff.2 hg_190
            refine lp (b := decide (r_38.2 = 0)) 57 rfl rfl rfl rfl (by rw [hg_190]; rfl) ?_
            refine lp (b := decide (r_38.2 = 0)) 57 rfl rfl rfl rfl (by rw [hg_190]; rfl) ?_
            refine lv (v := (.bool false)) rfl rfl (r_pickF (congrArg Value.bool hg_190) rfl) ?_
            refine lv (v := (.bool false)) rfl rfl (r_move rfl) ?_
            refine lp (b := false) 61 rfl rfl rfl rfl rfl ?_
            refine lp (b := false) 61 rfl rfl rfl rfl rfl ?_
            refine lv (v := (.bool false)) rfl rfl (r_pickF rfl rfl) ?_
            refine lv (v := (.bool false)) rfl rfl (r_move rfl) ?_
            refine lp (b := false) 65 rfl rfl rfl rfl rfl ?_
            refine lp (b := false) 65 rfl rfl rfl rfl rfl ?_
            refine lp (b := false) 65 rfl rfl rfl rfl rfl ?_
            refine lv (v := (.bool false)) rfl rfl (r_pickF rfl rfl) ?_
            refine lv (v := (.bool false)) rfl rfl (r_move rfl) ?_
            refine lp (b := false) 70 rfl rfl rfl rfl rfl ?_
            refine lp (b := false) 70 rfl rfl rfl rfl rfl ?_
            refine lp (b := false) 70 rfl rfl rfl rfl rfl ?_
            refine lv (v := (.bool false)) rfl rfl (r_pickF rfl rfl) ?_
            refine lv (v := (.bool false)) rfl rfl (r_move rfl) ?_
            refine lp (b := false) 75 rfl rfl rfl rfl rfl ?_
            refine lp (b := false) 75 rfl rfl rfl rfl rfl ?_
            refine lp (b := false) 75 rfl rfl rfl rfl rfl ?_
            refine lv (v := (.bool false)) rfl rfl (r_pickF rfl rfl) ?_
            refine lv (v := (.bool false)) rfl rfl (r_move rfl) ?_
            refine lp (b := false) 80 rfl rfl rfl rfl rfl ?_
            refine lp (b := false) 80 rfl rfl rfl rfl rfl ?_
            refine lp (b := false) 80 rfl rfl rfl rfl rfl ?_
            refine lp (b := false) 80 rfl rfl rfl rfl rfl ?_
            refine lp (b := false) 80 rfl rfl rfl rfl rfl ?_
            refine lv (v := (.bool false)) rfl rfl (r_pickF rfl rfl) ?_
            refine lv (v := (.bool false)) rfl rfl (r_move rfl) ?_
            refine lp (b := false) 87 rfl rfl rfl rfl rfl ?_
            refine lp (b := false) 87 rfl rfl rfl rfl rfl ?_
            refine lv (v := (.bool false)) rfl rfl (r_pickF rfl rfl) ?_
            refine lv (v := (.bool false)) rfl rfl (r_move rfl) ?_
            refine lp (b := false) 91 rfl rfl rfl rfl rfl ?_
            refine lp (b := false) 91 rfl rfl rfl rfl rfl ?_
            refine lv (v := (.bool false)) rfl rfl (r_pickF rfl rfl) ?_
            refine lv (v := (.bool false)) rfl rfl (r_move rfl) ?_
            refine lp (b := false) 95 rfl rfl rfl rfl rfl ?_
            refine lp (b := false) 95 rfl rfl rfl rfl rfl ?_
            refine lp (b := false) 95 rfl rfl rfl rfl rfl ?_
            refine lp (b := false) 95 rfl rfl rfl rfl rfl ?_
            refine lv (v := (.bool false)) rfl rfl (r_pickF rfl rfl) ?_
            refine lv (v := (.bool false)) rfl rfl (r_move rfl) ?_
            refine lp (b := false) 101 rfl rfl rfl rfl rfl ?_
            refine lp (b := false) 101 rfl rfl rfl rfl rfl ?_
            refine lp (b := false) 101 rfl rfl rfl rfl rfl ?_
            refine lv (v := (.bool false)) rfl rfl (r_pickF rfl rfl) ?_
            refine lv (v := (.bool false)) rfl rfl (r_assign rfl) ?_
            refine lnil ?_
            exact ⟨col_67, false, hm, hst, rfl, rfl⟩
        · rw [if_neg hg_189] at hm
          replace hg_189 := Bool.eq_false_iff.2 hg_189
          refine lp (b := decide (r_24.2 = 0)) 53 rfl rfl rfl rfl (by rw [hg_189]; rfl) ?_
          refine lp (b := decide (r_24.2 = 0)) 53 rfl rfl rfl rfl (by rw [hg_189]; rfl) ?_
          refine lv (v := (.bool false)) rfl rfl (r_pickF (congrArg Value.bool hg_189) rfl) ?_
          refine lv (v := (.bool false)) rfl rfl (r_move rfl) ?_
          refine lp (b := false) 57 rfl rfl rfl rfl rfl ?_
          refine lp (b := false) 57 rfl rfl rfl rfl rfl ?_
          refine lv (v := (.bool false)) rfl rfl (r_pickF rfl rfl) ?_
          refine lv (v := (.bool false)) rfl rfl (r_move rfl) ?_
          refine lp (b := false) 61 rfl rfl rfl rfl rfl ?_
          refine lp (b := false) 61 rfl rfl rfl rfl rfl ?_
          refine lv (v := (.bool false)) rfl rfl (r_pickF rfl rfl) ?_
          refine lv (v := (.bool false)) rfl rfl (r_move rfl) ?_
          refine lp (b := false) 65 rfl rfl rfl rfl rfl ?_
          refine lp (b := false) 65 rfl rfl rfl rfl rfl ?_
          refine lp (b := false) 65 rfl rfl rfl rfl rfl ?_
          refine lv (v := (.bool false)) rfl rfl (r_pickF rfl rfl) ?_
          refine lv (v := (.bool false)) rfl rfl (r_move rfl) ?_
          refine lp (b := false) 70 rfl rfl rfl rfl rfl ?_
          refine lp (b := false) 70 rfl rfl rfl rfl rfl ?_
          refine lp (b := false) 70 rfl rfl rfl rfl rfl ?_
          refine lv (v := (.bool false)) rfl rfl (r_pickF rfl rfl) ?_
          refine lv (v := (.bool false)) rfl rfl (r_move rfl) ?_
          refine lp (b := false) 75 rfl rfl rfl rfl rfl ?_
          refine lp (b := false) 75 rfl rfl rfl rfl rfl ?_
          refine lp (b := false) 75 rfl rfl rfl rfl rfl ?_
          refine lv (v := (.bool false)) rfl rfl (r_pickF rfl rfl) ?_
          refine lv (v := (.bool false)) rfl rfl (r_move rfl) ?_
          refine lp (b := false) 80 rfl rfl rfl rfl rfl ?_
          refine lp (b := false) 80 rfl rfl rfl rfl rfl ?_
          refine lp (b := false) 80 rfl rfl rfl rfl rfl ?_
          refine lp (b := false) 80 rfl rfl rfl rfl rfl ?_
          refine lp (b := false) 80 rfl rfl rfl rfl rfl ?_
          refine lv (v := (.bool false)) rfl rfl (r_pickF rfl rfl) ?_
          refine lv (v := (.bool false)) rfl rfl (r_move rfl) ?_
          refine lp (b := false) 87 rfl rfl rfl rfl rfl ?_
          refine lp (b := false) 87 rfl rfl rfl rfl rfl ?_
          refine lv (v := (.bool false)) rfl rfl (r_pickF rfl rfl) ?_
          refine lv (v := (.bool false)) rfl rfl (r_move rfl) ?_
          refine lp (b := false) 91 rfl rfl rfl rfl rfl ?_
          refine lp (b := false) 91 rfl rfl rfl rfl rfl ?_
          refine lv (v := (.bool false)) rfl rfl (r_pickF rfl rfl) ?_
          refine lv (v := (.bool false)) rfl rfl (r_move rfl) ?_
          refine lp (b := false) 95 rfl rfl rfl rfl rfl ?_
          refine lp (b := false) 95 rfl rfl rfl rfl rfl ?_
          refine lp (b := false) 95 rfl rfl rfl rfl rfl ?_
          refine lp (b := false) 95 rfl rfl rfl rfl rfl ?_
          refine lv (v := (.bool false)) rfl rfl (r_pickF rfl rfl) ?_
          refine lv (v := (.bool false)) rfl rfl (r_move rfl) ?_
          refine lp (b := false) 101 rfl rfl rfl rfl rfl ?_
          refine lp (b := false) 101 rfl rfl rfl rfl rfl ?_
          refine lp (b := false) 101 rfl rfl rfl rfl rfl ?_
          refine lv (v := (.bool false)) rfl rfl (r_pickF rfl rfl) ?_
          refine lv (v := (.bool false)) rfl rfl (r_assign rfl) ?_
          refine lnil ?_
          exact ⟨col_67, false, hm, hst, rfl, rfl⟩
  | some t_15 =>
    rw [hx_16] at hm rh_9
    replace hm := optC_some hm
    obtain ⟨o_17, rfl, hG_18⟩ := optP_some rh_9
    refine lv (v := (.tuple #[(.pointer (some ⟨o_17.g, 0, none⟩)), rv_10, (.bool r_6.2.2)])) rfl rfl (r_move rfl) ?_
    refine lv (v := (.pointer (some ⟨o_17.g, 0, none⟩))) rfl rfl (r_extract rfl rfl) ?_
    refine lv (v := rv_10) rfl rfl (r_extract rfl rfl) ?_
    refine lv (v := (.bool r_6.2.2)) rfl rfl (r_extract rfl rfl) ?_
    refine lv (v := (.pointer (some ⟨o_17.g, 0, none⟩))) rfl rfl (r_assign rfl) ?_
    refine lv (v := rv_10) rfl rfl (r_assign rfl) ?_
    refine lv (v := (.bool r_6.2.2)) rfl rfl (r_assign rfl) ?_
    refine lnil ?_
    refine wseq ?_
    refine wseq ?_
    refine wregion ?_
    refine lv (v := (.bool r_6.2.2)) rfl rfl (r_move rfl) ?_
    refine lv (v := (.bool (!r_6.2.2))) rfl rfl (r_not r_6.2.2 rfl) ?_
    refine lnil ?_
    refine wcond (!r_6.2.2) rfl (fun hb => ?_) (fun hb => ?_)
    · rw [if_pos hb] at hm
      clear hb
      refine wseq ?_
      refine wregion ?_
      refine lv (v := (.bool false)) rfl rfl (r_assign rfl) ?_
      refine lnil ?_
      refine wret ?_
      cases hm
      exact ⟨rfl, rfl, hst.below⟩
    · rw [if_neg (by rw [hb]; decide)] at hm
      clear hb
      refine wskip ?_
      refine wseq ?_
      refine wregion ?_
      refine lv (v := (.pointer (some ⟨o_17.g, 0, none⟩))) rfl rfl (r_move rfl) ?_
      refine l_lit (col := col_14) (r := (Rep.int .i64)) (xs := [0, 1, 2, 3, 4]) [(.int .i64 0), (.int .i64 1), (.int .i64 2), (.int .i64 3), (.int .i64 4)] 26 rfl Try.underlying22 el3_29 rfl rfl rfl rfl rfl rfl (by intro v hv; simp only [List.mem_cons, List.not_mem_nil, or_false] at hv; rcases hv with rfl | rfl | rfl | rfl | rfl <;> rfl) (RowsH.ofF (Rows.consF (r := (Rep.int .i64)) (x := 0) (cs := [(.int .i64 0)]) (rd_int .i64 0) (Rows.consF (r := (Rep.int .i64)) (x := 1) (cs := [(.int .i64 1)]) (rd_int .i64 1) (Rows.consF (r := (Rep.int .i64)) (x := 2) (cs := [(.int .i64 2)]) (rd_int .i64 2) (Rows.consF (r := (Rep.int .i64)) (x := 3) (cs := [(.int .i64 3)]) (rd_int .i64 3) (Rows.consF (r := (Rep.int .i64)) (x := 4) (cs := [(.int .i64 4)]) (rd_int .i64 4) Rows.nil0)))))) ?_
      intro a_248 w_249 col_250 hg_251 h_252
      replace hG_18 := hG_18.gr hg_251
      replace hst := hst.grow hg_251
      obtain ⟨r_253, hr_254, hm⟩ := bind_some hm
      refine lc rfl rfl (r_call2 Try.call32 rfl rfl) (c_order_Fill N 27 (frC 26 col_250) _ 2 (by decide) o_17 t_15 a_248 5 [0, 1, 2, 3, 4] (hG_18.froz 26 (by decide)) (h_252.toSlF (Froz.int .i64)) r_253 hr_254) ?_
      rintro _ w_258 ⟨col_260, ra_255, rc_256, rfl, hg_259, rh_257⟩
      refine ⟨_, rfl, ?_⟩
      replace rh_257 := rh_257.thaw (flat_int .i64) hg_259 ((Fz.refl (col := col_250)).froz 26) (by decide)
      replace hg_259 := hg_259.thawR (col := col_250)
      generalize colR w_249.heap.size col_250 col_260 = col_261 at *
      replace hG_18 := hG_18.gr hg_259
      replace h_252 := h_252.gr hg_259
      replace hst := hst.grow hg_259
      refine lv (v := (.tuple #[(.slice ra_255 r_253.1.length rc_256), (.int .i64 r_253.2)])) rfl rfl (r_move rfl) ?_
      refine lv (v := (.slice ra_255 r_253.1.length rc_256)) rfl rfl (r_extract rfl rfl) ?_
      refine lv (v := (.int .i64 r_253.2)) rfl rfl (r_extract rfl rfl) ?_
      refine lv (v := (.slice ra_255 r_253.1.length rc_256)) rfl rfl (r_assign rfl) ?_
      refine lv (v := (.int .i64 r_253.2)) rfl rfl (r_assign rfl) ?_
      refine lnil ?_
      refine wseq ?_
      refine wregion ?_
      refine lv (v := (.pointer (some ⟨o_17.g, 0, none⟩))) rfl rfl (r_move rfl) ?_
      refine l_lit (col := col_261) (r := (Rep.int .i64)) (xs := [3, 1]) [(.int .i64 3), (.int .i64 1)] 28 rfl Try.underlying22 el3_29 rfl rfl rfl rfl rfl rfl (by intro v hv; simp only [List.mem_cons, List.not_mem_nil, or_false] at hv; rcases hv with rfl | rfl <;> rfl) (RowsH.ofF (Rows.consF (r := (Rep.int .i64)) (x := 3) (cs := [(.int .i64 3)]) (rd_int .i64 3) (Rows.consF (r := (Rep.int .i64)) (x := 1) (cs := [(.int .i64 1)]) (rd_int .i64 1) Rows.nil0))) ?_
      intro a_262 w_263 col_264 hg_265 h_266
      replace hG_18 := hG_18.gr hg_265
      replace rh_257 := rh_257.gr hg_265
      replace hst := hst.grow hg_265
      obtain ⟨r_267, hr_268, hm⟩ := bind_some hm
      refine lc rfl rfl (r_call2 Try.call33 rfl rfl) (c_order_Degree N 29 (frC 28 col_264) _ 2 (by decide) o_17 t_15 a_262 2 [3, 1] (hG_18.froz 28 (by decide)) (h_266.toSlF (Froz.int .i64)) r_267 hr_268) ?_
      rintro _ w_272 ⟨col_274, ra_269, rc_270, rfl, hg_273, rh_271⟩
      refine ⟨_, rfl, ?_⟩
      replace rh_271 := rh_271.thaw (flat_int .i64) hg_273 ((Fz.refl (col := col_264)).froz 28) (by decide)
      replace hg_273 := hg_273.thawR (col := col_264)
      generalize colR w_263.heap.size col_264 col_274 = col_275 at *
      replace hG_18 := hG_18.gr hg_273
      replace rh_257 := rh_257.gr hg_273
      replace h_266 := h_266.gr hg_273
      replace hst := hst.grow hg_273
      refine lv (v := (.tuple #[(.slice ra_269 r_267.1.length rc_270), (.int .i64 r_267.2)])) rfl rfl (r_move rfl) ?_
      refine lv (v := (.slice ra_269 r_267.1.length rc_270)) rfl rfl (r_extract rfl rfl) ?_
      refine lv (v := (.int .i64 r_267.2)) rfl rfl (r_extract rfl rfl) ?_
      refine lv (v := (.slice ra_269 r_267.1.length rc_270)) rfl rfl (r_assign rfl) ?_
      refine lv (v := (.int .i64 r_267.2)) rfl rfl (r_assign rfl) ?_
      refine lnil ?_
      refine wseq ?_
      refine wregion ?_
      refine lv (v := (.pointer (some ⟨o_17.g, 0, none⟩))) rfl rfl (r_move rfl) ?_
      refine lv (v := (.slice ra_255 r_253.1.length rc_256)) rfl rfl (r_move rfl) ?_
      obtain ⟨r_276, hr_277, hm⟩ := bind_some hm
      refine lc rfl rfl (r_call2 Try.call40 rfl rfl) (c_order_Cliques N 30 (frC 27 col_275) _ 2 (by decide) o_17 t_15 ra_255 rc_256 r_253.1 (hG_18.froz 27 (by decide)) (rh_257.toSlF (Froz.int .i64)) r_276 hr_277) ?_
      rintro _ w_281 ⟨col_283, ra_278, rc_279, rfl, hg_282, rh_280⟩
      refine ⟨_, rfl, ?_⟩
      replace rh_280 := rh_280.thaw (flat_row (flat_int .i64)) hg_282 ((Fz.refl (col := col_275)).froz 27) (by decide)
      replace hg_282 := hg_282.thawR (col := col_275)
      generalize colR w_272.heap.size col_275 col_283 = col_284 at *
      replace hG_18 := hG_18.gr hg_282
      replace rh_257 := rh_257.gr hg_282
      replace rh_271 := rh_271.gr hg_282
      replace hst := hst.grow hg_282
      refine lv (v := (.tuple #[(.slice ra_278 r_276.1.length rc_279), (.int .i64 r_276.2)])) rfl rfl (r_move rfl) ?_
      refine lv (v := (.slice ra_278 r_276.1.length rc_279)) rfl rfl (r_extract rfl rfl) ?_
      refine lv (v := (.int .i64 r_276.2)) rfl rfl (r_extract rfl rfl) ?_
      refine lv (v := (.slice ra_278 r_276.1.length rc_279)) rfl rfl (r_assign rfl) ?_
      refine lv (v := (.int .i64 r_276.2)) rfl rfl (r_assign rfl) ?_
      refine lnil ?_
      refine wseq ?_
      refine wregion ?_
      refine lv (v := (.pointer (some ⟨o_17.g, 0, none⟩))) rfl rfl (r_move rfl) ?_
      refine lv (v := (.slice ra_255 r_253.1.length rc_256)) rfl rfl (r_move rfl) ?_
      obtain ⟨r_285, hr_286, hm⟩ := bind_some hm
      refine lc rfl rfl (r_call2 Try.call42 rfl rfl) (c_order_Width N (frC 27 col_284) _ 2 (by decide) o_17 t_15 ra_255 rc_256 r_253.1 (hG_18.froz 27 (by decide)) (rh_257.toSlF (Froz.int .i64)) r_285 hr_286) ?_
      rintro _ w_287 ⟨rfl, hg_288⟩
      refine ⟨_, rfl, ?_⟩
      replace hg_288 : Grow col_284 w_281 col_284 w_287 := .of_below hg_288
      replace rh_257 := rh_257.gr hg_288
      replace rh_271 := rh_271.gr hg_288
      replace rh_280 := rh_280.gr hg_288
      replace hG_18 := hG_18.gr hg_288
      replace hst := hst.grow hg_288
      refine lv (v := (.tuple #[(.int .i64 r_285.1), (.int .i64 r_285.2)])) rfl rfl (r_move rfl) ?_
      refine lv (v := (.int .i64 r_285.1)) rfl rfl (r_extract rfl rfl) ?_
      refine lv (v := (.int .i64 r_285.2)) rfl rfl (r_extract rfl rfl) ?_
      refine lv (v := (.int .i64 r_285.1)) rfl rfl (r_assign rfl) ?_
      refine lv (v := (.int .i64 r_285.2)) rfl rfl (r_assign rfl) ?_
      refine lnil ?_
      refine wseq ?_
      refine wregion ?_
      obtain ⟨r_289, hr_290, hm⟩ := bind_some hm
      refine lc rfl rfl (r_call2 Try.call32 rfl rfl) (c_order_Fill_v0n N 31 col_284 _ none 0 ([] : List Int) Sl.nil r_289 hr_290) ?_
      rintro _ w_294 ⟨col_296, ra_291, rc_292, rfl, hg_295, rh_293⟩
      refine ⟨_, rfl, ?_⟩
      replace rh_257 := rh_257.gr hg_295
      replace rh_271 := rh_271.gr hg_295
      replace rh_280 := rh_280.gr hg_295
      replace hst := hst.grow hg_295
      refine lv (v := (.tuple #[(.slice ra_291 r_289.1.length rc_292), (.int .i64 r_289.2)])) rfl rfl (r_move rfl) ?_
      refine lv (v := (.slice ra_291 r_289.1.length rc_292)) rfl rfl (r_extract rfl rfl) ?_
      refine lv (v := (.int .i64 r_289.2)) rfl rfl (r_extract rfl rfl) ?_
      refine lv (v := (.slice ra_291 r_289.1.length rc_292)) rfl rfl (r_assign rfl) ?_
      refine lv (v := (.int .i64 r_289.2)) rfl rfl (r_assign rfl) ?_
      refine lnil ?_
      refine wseq ?_
      refine Wp.cut (fun f w_415 => ∃ (col_416 : Col) (v_417 : Bool), m_credencelaw18_awake_J2 v_417 = some r ∧ St w0 (col0 col) col_416 w_415 ∧ f 0 = (.bool v_417) ∧ f 1000000 = (enc [])) ?_ ?_
      · intro f w_415 hJ
        obtain ⟨col_416, v_417, hm, hst, hs0, hs1000000⟩ := hJ
        rw [m_credencelaw18_awake_J2.eq_1] at hm
        refine .ld (d := 0) (v := (.bool v_417)) hs0 ?_
        refine .ld (d := 1000000) (v := (enc [])) hs1000000 ?_
        clear hs0 hs1000000
        refine wret ?_
        cases hm
        exact ⟨rfl, rfl, hst.below⟩
      · refine wregion ?_
        refine lv (v := (.int .i64 r_253.2)) rfl rfl (r_move rfl) ?_
        refine lv (v := (.bool (decide (r_253.2 = 0)))) rfl rfl (r_eql r_253.2 0 rfl rfl) ?_
        refine lv (v := (.bool (decide (r_253.2 = 0)))) rfl rfl (r_move rfl) ?_
        by_cases hg_418 : (decide (r_253.2 = 0)) = true
        · rw [if_pos hg_418] at hm
          refine lg (b := decide (r_253.2 = 0)) 53 rfl rfl rfl (by rw [hg_418]; rfl) ?_
          refine lv (v := (.int .i64 r_267.2)) rfl rfl (r_move rfl) ?_
          refine lg (b := decide (r_253.2 = 0)) 53 rfl rfl rfl (by rw [hg_418]; rfl) ?_
          refine lv (v := (.bool (decide (r_267.2 = 0)))) rfl rfl (r_eql r_267.2 0 rfl rfl) ?_
          refine lv (v := (.bool (decide (r_267.2 = 0)))) rfl rfl (r_pickT (congrArg Value.bool hg_418) rfl) ?_
          refine lv (v := (.bool (decide (r_267.2 = 0)))) rfl rfl (r_move rfl) ?_
          by_cases hg_419 : (decide (r_267.2 = 0)) = true
          · rw [if_pos hg_419] at hm
            refine lg (b := decide (r_267.2 = 0)) 57 rfl rfl rfl (by rw [hg_419]; rfl) ?_
            refine lv (v := (.int .i64 r_276.2)) rfl rfl (r_move rfl) ?_
            refine lg (b := decide (r_267.2 = 0)) 57 rfl rfl rfl (by rw [hg_419]; rfl) ?_
            refine lv (v := (.bool (decide (r_276.2 = 0)))) rfl rfl (r_eql r_276.2 0 rfl rfl) ?_
            refine lv (v := (.bool (decide (r_276.2 = 0)))) rfl rfl (r_pickT (congrArg Value.bool hg_419) rfl) ?_
            refine lv (v := (.bool (decide (r_276.2 = 0)))) rfl rfl (r_move rfl) ?_
            by_cases hg_420 : (decide (r_276.2 = 0)) = true
            · rw [if_pos hg_420] at hm
              refine lg (b := decide (r_276.2 = 0)) 61 rfl rfl rfl (by rw [hg_420]; rfl) ?_
              refine lv (v := (.int .i64 r_285.2)) rfl rfl (r_move rfl) ?_
              refine lg (b := decide (r_276.2 = 0)) 61 rfl rfl rfl (by rw [hg_420]; rfl) ?_
              refine lv (v := (.bool (decide (r_285.2 = 0)))) rfl rfl (r_eql r_285.2 0 rfl rfl) ?_
              refine lv (v := (.bool (decide (r_285.2 = 0)))) rfl rfl (r_pickT (congrArg Value.bool hg_420) rfl) ?_
              refine lv (v := (.bool (decide (r_285.2 = 0)))) rfl rfl (r_move rfl) ?_
              by_cases hg_421 : (decide (r_285.2 = 0)) = true
              · rw [if_pos hg_421] at hm
                refine lg (b := decide (r_285.2 = 0)) 65 rfl rfl rfl (by rw [hg_421]; rfl) ?_
                refine lv (v := (.slice ra_255 r_253.1.length rc_256)) rfl rfl (r_move rfl) ?_
                refine lg (b := decide (r_285.2 = 0)) 65 rfl rfl rfl (by rw [hg_421]; rfl) ?_
                refine l_lit (col := col_296) (r := (Rep.int .i64)) (xs := [4, 0, 1, 2, 3]) [(.int .i64 4), (.int .i64 0), (.int .i64 1), (.int .i64 2), (.int .i64 3)] 42 rfl Try.underlying22 el3_29 rfl rfl rfl rfl rfl rfl (by intro v hv; simp only [List.mem_cons, List.not_mem_nil, or_false] at hv; rcases hv with rfl | rfl | rfl | rfl | rfl <;> rfl) (RowsH.ofF (Rows.consF (r := (Rep.int .i64)) (x := 4) (cs := [(.int .i64 4)]) (rd_int .i64 4) (Rows.consF (r := (Rep.int .i64)) (x := 0) (cs := [(.int .i64 0)]) (rd_int .i64 0) (Rows.consF (r := (Rep.int .i64)) (x := 1) (cs := [(.int .i64 1)]) (rd_int .i64 1) (Rows.consF (r := (Rep.int .i64)) (x := 2) (cs := [(.int .i64 2)]) (rd_int .i64 2) (Rows.consF (r := (Rep.int .i64)) (x := 3) (cs := [(.int .i64 3)]) (rd_int .i64 3) Rows.nil0)))))) ?_
                intro a_422 w_423 col_424 hg_425 h_426
                replace rh_271 := rh_271.gr hg_425
                replace rh_280 := rh_280.gr hg_425
                replace rh_257 := rh_257.gr hg_425
                replace hst := hst.grow hg_425
                refine lg (b := decide (r_285.2 = 0)) 65 rfl rfl rfl (by rw [hg_421]; rfl) ?_
                obtain ⟨r_427, hr_428, hm⟩ := bind_some hm
                refine lc rfl rfl (r_call2 Try.call36 rfl rfl) (c_credenceref15_Ints N (frC 42 (frC 27 col_424)) _ ra_255 rc_256 r_253.1 a_422 5 [4, 0, 1, 2, 3] ((rh_257.toSlF (Froz.int .i64)).froz 42) ((h_426.froz 27 (by decide)).toSlF (Froz.int .i64)) r_427 hr_428) ?_
                rintro _ w_429 ⟨rfl, hg_430⟩
                refine ⟨_, rfl, ?_⟩
                replace hg_430 : Grow col_424 w_423 col_424 w_429 := .of_below hg_430
                replace rh_271 := rh_271.gr hg_430
                replace rh_280 := rh_280.gr hg_430
                replace rh_257 := rh_257.gr hg_430
                replace h_426 := h_426.gr hg_430
                replace hst := hst.grow hg_430
                refine lv (v := (.bool r_427)) rfl rfl (r_pickT (congrArg Value.bool hg_421) rfl) ?_
                refine lv (v := (.bool r_427)) rfl rfl (r_move rfl) ?_
                by_cases hg_431 : r_427 = true
                · rw [if_pos hg_431] at hm
                  refine lg (b := r_427) 70 rfl rfl rfl (by rw [hg_431]; rfl) ?_
                  refine lv (v := (.slice ra_269 r_267.1.length rc_270)) rfl rfl (r_move rfl) ?_
                  refine lg (b := r_427) 70 rfl rfl rfl (by rw [hg_431]; rfl) ?_
                  refine l_lit (col := col_424) (r := (Rep.int .i64)) (xs := [1, 3]) [(.int .i64 1), (.int .i64 3)] 43 rfl Try.underlying22 el3_29 rfl rfl rfl rfl rfl rfl (by intro v hv; simp only [List.mem_cons, List.not_mem_nil, or_false] at hv; rcases hv with rfl | rfl <;> rfl) (RowsH.ofF (Rows.consF (r := (Rep.int .i64)) (x := 1) (cs := [(.int .i64 1)]) (rd_int .i64 1) (Rows.consF (r := (Rep.int .i64)) (x := 3) (cs := [(.int .i64 3)]) (rd_int .i64 3) Rows.nil0))) ?_
                  intro a_432 w_433 col_434 hg_435 h_436
                  replace rh_280 := rh_280.gr hg_435
                  replace rh_271 := rh_271.gr hg_435
                  replace hst := hst.grow hg_435
                  refine lg (b := r_427) 70 rfl rfl rfl (by rw [hg_431]; rfl) ?_
                  obtain ⟨r_437, hr_438, hm⟩ := bind_some hm
                  refine lc rfl rfl (r_call2 Try.call36 rfl rfl) (c_credenceref15_Ints N (frC 43 (frC 29 col_434)) _ ra_269 rc_270 r_267.1 a_432 2 [1, 3] ((rh_271.toSlF (Froz.int .i64)).froz 43) ((h_436.froz 29 (by decide)).toSlF (Froz.int .i64)) r_437 hr_438) ?_
                  rintro _ w_439 ⟨rfl, hg_440⟩
                  refine ⟨_, rfl, ?_⟩
                  replace hg_440 : Grow col_434 w_433 col_434 w_439 := .of_below hg_440
                  replace rh_280 := rh_280.gr hg_440
                  replace rh_271 := rh_271.gr hg_440
                  replace h_436 := h_436.gr hg_440
                  replace hst := hst.grow hg_440
                  refine lv (v := (.bool r_437)) rfl rfl (r_pickT (congrArg Value.bool hg_431) rfl) ?_
                  refine lv (v := (.bool r_437)) rfl rfl (r_move rfl) ?_
                  by_cases hg_441 : r_437 = true
                  · rw [if_pos hg_441] at hm
                    refine lg (b := r_437) 75 rfl rfl rfl (by rw [hg_441]; rfl) ?_
                    refine lv (v := (.slice ra_278 r_276.1.length rc_279)) rfl rfl (r_move rfl) ?_
                    refine lg (b := r_437) 75 rfl rfl rfl (by rw [hg_441]; rfl) ?_
                    refine lv (v := (.int .i64 (r_276.1.length : Int))) rfl rfl (r_len Try.underlying33 rfl) ?_
                    refine lg (b := r_437) 75 rfl rfl rfl (by rw [hg_441]; rfl) ?_
                    refine lv (v := (.bool (decide ((r_276.1.length : Int) = 5)))) rfl rfl (r_eql (r_276.1.length : Int) 5 rfl rfl) ?_
                    refine lv (v := (.bool (decide ((r_276.1.length : Int) = 5)))) rfl rfl (r_pickT (congrArg Value.bool hg_441) rfl) ?_
                    refine lv (v := (.bool (decide ((r_276.1.length : Int) = 5)))) rfl rfl (r_move rfl) ?_
                    by_cases hg_442 : (decide ((r_276.1.length : Int) = 5)) = true
                    · rw [if_pos hg_442] at hm
                      refine lg (b := decide ((r_276.1.length : Int) = 5)) 80 rfl rfl rfl (by rw [hg_442]; rfl) ?_
                      refine lv (v := (.slice ra_278 r_276.1.length rc_279)) rfl rfl (r_move rfl) ?_
                      refine lg (b := decide ((r_276.1.length : Int) = 5)) 80 rfl rfl rfl (by rw [hg_442]; rfl) ?_
                      obtain ⟨e_443, hj_444, hm⟩ := bind_some hm
                      refine lv (v := (sptr ra_278 (Int.toNat 1 * 1))) rfl rfl (r_idx Try.underlying33 Try.sizeOf22 rfl rfl (at?_some hj_444).1 (at?_some hj_444).2.1 (rh_280.addr hj_444)) ?_
                      refine lg (b := decide ((r_276.1.length : Int) = 5)) 80 rfl rfl rfl (by rw [hg_442]; rfl) ?_
                      obtain ⟨_, hr_445, hA_446⟩ := rh_280.atN hj_444
                      obtain ⟨a_447, cap_448, rfl, h_449⟩ := hr_445.row
                      refine lv (v := (.slice a_447 e_443.length cap_448)) rfl rfl (r_ld Try.isAgg22 rfl hA_446.one) ?_
                      refine lg (b := decide ((r_276.1.length : Int) = 5)) 80 rfl rfl rfl (by rw [hg_442]; rfl) ?_
                      refine lv (v := (.int .i64 (e_443.length : Int))) rfl rfl (r_len Try.underlying22 rfl) ?_
                      refine lg (b := decide ((r_276.1.length : Int) = 5)) 80 rfl rfl rfl (by rw [hg_442]; rfl) ?_
                      refine lv (v := (.bool (decide ((e_443.length : Int) = 3)))) rfl rfl (r_eql (e_443.length : Int) 3 rfl rfl) ?_
                      refine lv (v := (.bool (decide ((e_443.length : Int) = 3)))) rfl rfl (r_pickT (congrArg Value.bool hg_442) rfl) ?_
                      refine lv (v := (.bool (decide ((e_443.length : Int) = 3)))) rfl rfl (r_move rfl) ?_
                      by_cases hg_450 : (decide ((e_443.length : Int) = 3)) = true
                      · rw [if_pos hg_450] at hm
                        refine lg (b := decide ((e_443.length : Int) = 3)) 87 rfl rfl rfl (by rw [hg_450]; rfl) ?_
                        refine lv (v := (.int .i64 r_285.1)) rfl rfl (r_move rfl) ?_
                        refine lg (b := decide ((e_443.length : Int) = 3)) 87 rfl rfl rfl (by rw [hg_450]; rfl) ?_
                        refine lv (v := (.bool (decide (r_285.1 = 2)))) rfl rfl (r_eql r_285.1 2 rfl rfl) ?_
                        refine lv (v := (.bool (decide (r_285.1 = 2)))) rfl rfl (r_pickT (congrArg Value.bool hg_450) rfl) ?_
                        refine lv (v := (.bool (decide (r_285.1 = 2)))) rfl rfl (r_move rfl) ?_
                        by_cases hg_451 : (decide (r_285.1 = 2)) = true
                        · rw [if_pos hg_451] at hm
                          refine lg (b := decide (r_285.1 = 2)) 91 rfl rfl rfl (by rw [hg_451]; rfl) ?_
                          refine lv (v := (.int .i64 r_289.2)) rfl rfl (r_move rfl) ?_
                          refine lg (b := decide (r_285.1 = 2)) 91 rfl rfl rfl (by rw [hg_451]; rfl) ?_
                          refine lv (v := (.bool (decide (r_289.2 = 2)))) rfl rfl (r_eql r_289.2 2 rfl rfl) ?_
                          refine lv (v := (.bool (decide (r_289.2 = 2)))) rfl rfl (r_pickT (congrArg Value.bool hg_451) rfl) ?_
                          refine lv (v := (.bool (decide (r_289.2 = 2)))) rfl rfl (r_move rfl) ?_
                          by_cases hg_452 : (decide (r_289.2 = 2)) = true
                          · rw [if_pos hg_452] at hm
                            refine lg (b := decide (r_289.2 = 2)) 95 rfl rfl rfl (by rw [hg_452]; rfl) ?_
                            refine l_lit (col := col_434) (r := (Rep.int .i64)) (xs := [2, 0, 1]) [(.int .i64 2), (.int .i64 0), (.int .i64 1)] 44 rfl Try.underlying22 el3_29 rfl rfl rfl rfl rfl rfl (by intro v hv; simp only [List.mem_cons, List.not_mem_nil, or_false] at hv; rcases hv with rfl | rfl | rfl <;> rfl) (RowsH.ofF (Rows.consF (r := (Rep.int .i64)) (x := 2) (cs := [(.int .i64 2)]) (rd_int .i64 2) (Rows.consF (r := (Rep.int .i64)) (x := 0) (cs := [(.int .i64 0)]) (rd_int .i64 0) (Rows.consF (r := (Rep.int .i64)) (x := 1) (cs := [(.int .i64 1)]) (rd_int .i64 1) Rows.nil0)))) ?_
                            intro a_453 w_454 col_455 hg_456 h_457
                            replace hst := hst.grow hg_456
                            refine lg (b := decide (r_289.2 = 2)) 95 rfl rfl rfl (by rw [hg_452]; rfl) ?_
                            refine l_lit (col := col_455) (r := (Rep.int .i64)) (xs := [0, 1, 2]) [(.int .i64 0), (.int .i64 1), (.int .i64 2)] 45 rfl Try.underlying22 el3_29 rfl rfl rfl rfl rfl rfl (by intro v hv; simp only [List.mem_cons, List.not_mem_nil, or_false] at hv; rcases hv with rfl | rfl | rfl <;> rfl) (RowsH.ofF (Rows.consF (r := (Rep.int .i64)) (x := 0) (cs := [(.int .i64 0)]) (rd_int .i64 0) (Rows.consF (r := (Rep.int .i64)) (x := 1) (cs := [(.int .i64 1)]) (rd_int .i64 1) (Rows.consF (r := (Rep.int .i64)) (x := 2) (cs := [(.int .i64 2)]) (rd_int .i64 2) Rows.nil0)))) ?_
                            intro a_458 w_459 col_460 hg_461 h_462
                            replace h_457 := h_457.gr hg_461
                            replace hst := hst.grow hg_461
                            refine lg (b := decide (r_289.2 = 2)) 95 rfl rfl rfl (by rw [hg_452]; rfl) ?_
                            obtain ⟨r_463, hr_464, hm⟩ := bind_some hm
                            refine lc rfl rfl (r_call2 Try.call45 rfl rfl) (c_order_Check (frC 45 (frC 44 col_460)) _ a_453 3 [2, 0, 1] a_458 3 [0, 1, 2] ((h_457.toSlF (Froz.int .i64)).froz 45) ((h_462.froz 44 (by decide)).toSlF (Froz.int .i64)) r_463 hr_464) ?_
                            rintro _ w_465 ⟨rfl, hg_466⟩
                            refine ⟨_, rfl, ?_⟩
                            replace hg_466 : Grow col_460 w_459 col_460 w_465 := .of_below hg_466
                            replace h_457 := h_457.gr hg_466
                            replace h_462 := h_462.gr hg_466
                            replace hst := hst.grow hg_466
                            refine lg (b := decide (r_289.2 = 2)) 95 rfl rfl rfl (by rw [hg_452]; rfl) ?_
                            refine lv (v := (.bool (decide (r_463 = 0)))) rfl rfl (r_eql r_463 0 rfl rfl) ?_
                            refine lv (v := (.bool (decide (r_463 = 0)))) rfl rfl (r_pickT (congrArg Value.bool hg_452) rfl) ?_
                            refine lv (v := (.bool (decide (r_463 = 0)))) rfl rfl (r_move rfl) ?_
                            by_cases hg_467 : (decide (r_463 = 0)) = true
                            · rw [if_pos hg_467] at hm
                              refine lg (b := decide (r_463 = 0)) 101 rfl rfl rfl (by rw [hg_467]; rfl) ?_
                              refine l_lit (col := col_460) (r := (Rep.int .i64)) (xs := [0]) [(.int .i64 0)] 46 rfl Try.underlying22 el3_29 rfl rfl rfl rfl rfl rfl (by intro v hv; simp only [List.mem_cons, List.not_mem_nil, or_false] at hv; subst hv; rfl) (RowsH.ofF (Rows.consF (r := (Rep.int .i64)) (x := 0) (cs := [(.int .i64 0)]) (rd_int .i64 0) Rows.nil0)) ?_
                              intro a_468 w_469 col_470 hg_471 h_472
                              replace hst := hst.grow hg_471
                              refine lg (b := decide (r_463 = 0)) 101 rfl rfl rfl (by rw [hg_467]; rfl) ?_
                              obtain ⟨r_473, hr_474, hm⟩ := bind_some hm
                              refine lc rfl rfl (r_call2 Try.call45 rfl rfl) (c_order_Check (frC 46 col_470) _ a_468 1 [0] none 0 ([] : List Int) (h_472.toSlF (Froz.int .i64)) Sl.nil r_473 hr_474) ?_
                              rintro _ w_475 ⟨rfl, hg_476⟩
                              refine ⟨_, rfl, ?_⟩
                              replace hg_476 : Grow col_470 w_469 col_470 w_475 := .of_below hg_476
                              replace h_472 := h_472.gr hg_476
                              replace hst := hst.grow hg_476
                              refine lg (b := decide (r_463 = 0)) 101 rfl rfl rfl (by rw [hg_467]; rfl) ?_
                              refine lv (v := (.bool (decide (r_473 = 51)))) rfl rfl (r_eql r_473 51 rfl rfl) ?_
                              refine lv (v := (.bool (decide (r_473 = 51)))) rfl rfl (r_pickT (congrArg Value.bool hg_467) rfl) ?_
                              refine lv (v := (.bool (decide (r_473 = 51)))) rfl rfl (r_assign rfl) ?_
                              refine lnil ?_
                              exact ⟨col_470, (decide (r_473 = 51)), hm, hst, rfl, rfl⟩
                            · rw [if_neg hg_467] at hm
                              replace hg_467 := Bool.eq_false_iff.2 hg_467
                              refine lp (b := decide (r_463 = 0)) 101 rfl rfl rfl rfl (by rw [hg_467]; rfl) ?_
                              refine lp (b := decide (r_463 = 0)) 101 rfl rfl rfl rfl (by rw [hg_467]; rfl) ?_
                              refine lp (b := decide (r_463 = 0)) 101 rfl rfl rfl rfl (by rw [hg_467]; rfl) ?_
                              refine lv (v := (.bool false)) rfl rfl (r_pickF (congrArg Value.bool hg_467) rfl) ?_
                              refine lv (v := (.bool false)) rfl rfl (r_assign rfl) ?_
                              refine lnil ?_
                              exact ⟨col_460, false, hm, hst, rfl, rfl⟩
                          · rw [if_neg hg_452] at hm
                            replace hg_452 := Bool.eq_false_iff.2 hg_452
                            refine lp (b := decide (r_289.2 = 2)) 95 rfl rfl rfl rfl (by rw [hg_452]; rfl) ?_
                            refine lp (b := decide (r_289.2 = 2)) 95 rfl rfl rfl rfl (by rw [hg_452]; rfl) ?_
                            refine lp (b := decide (r_289.2 = 2)) 95 rfl rfl rfl rfl (by rw [hg_452]; rfl) ?_
                            refine lp (b := decide (r_289.2 = 2)) 95 rfl rfl rfl rfl (by rw [hg_452]; rfl) ?_
                            refine lv (v := (.bool false)) rfl rfl (r_pickF (congrArg Value.bool hg_452) rfl) ?_
                            refine lv (v := (.bool false)) rfl rfl (r_move rfl) ?_
                            refine lp (b := false) 101 rfl rfl rfl rfl rfl ?_
                            refine lp (b := false) 101 rfl rfl rfl rfl rfl ?_
                            refine lp (b := false) 101 rfl rfl rfl rfl rfl ?_
                            refine lv (v := (.bool false)) rfl rfl (r_pickF rfl rfl) ?_
                            refine lv (v := (.bool false)) rfl rfl (r_assign rfl) ?_
                            refine lnil ?_
                            exact ⟨col_434, false, hm, hst, rfl, rfl⟩
                        · rw [if_neg hg_451] at hm
                          replace hg_451 := Bool.eq_false_iff.2 hg_451
                          refine lp (b := decide (r_285.1 = 2)) 91 rfl rfl rfl rfl (by rw [hg_451]; rfl) ?_
                          refine lp (b := decide (r_285.1 = 2)) 91 rfl rfl rfl rfl (by rw [hg_451]; rfl) ?_
                          refine lv (v := (.bool false)) rfl rfl (r_pickF (congrArg Value.bool hg_451) rfl) ?_
                          refine lv (v := (.bool false)) rfl rfl (r_move rfl) ?_
                          refine lp (b := false) 95 rfl rfl rfl rfl rfl ?_
                          refine lp (b := false) 95 rfl rfl rfl rfl rfl ?_
                          refine lp (b := false) 95 rfl rfl rfl rfl rfl ?_
                          refine lp (b := false) 95 rfl rfl rfl rfl rfl ?_
                          refine lv (v := (.bool false)) rfl rfl (r_pickF rfl rfl) ?_
                          refine lv (v := (.bool false)) rfl rfl (r_move rfl) ?_
                          refine lp (b := false) 101 rfl rfl rfl rfl rfl ?_
                          refine lp (b := false) 101 rfl rfl rfl rfl rfl ?_
                          refine lp (b := false) 101 rfl rfl rfl rfl rfl ?_
                          refine lv (v := (.bool false)) rfl rfl (r_pickF rfl rfl) ?_
                          refine lv (v := (.bool false)) rfl rfl (r_assign rfl) ?_
                          refine lnil ?_
                          exact ⟨col_434, false, hm, hst, rfl, rfl⟩
                      · rw [if_neg hg_450] at hm
                        replace hg_450 := Bool.eq_false_iff.2 hg_450
                        refine lp (b := decide ((e_443.length : Int) = 3)) 87 rfl rfl rfl rfl (by rw [hg_450]; rfl) ?_
                        refine lp (b := decide ((e_443.length : Int) = 3)) 87 rfl rfl rfl rfl (by rw [hg_450]; rfl) ?_
                        refine lv (v := (.bool false)) rfl rfl (r_pickF (congrArg Value.bool hg_450) rfl) ?_
                        refine lv (v := (.bool false)) rfl rfl (r_move rfl) ?_
                        refine lp (b := false) 91 rfl rfl rfl rfl rfl ?_
                        refine lp (b := false) 91 rfl rfl rfl rfl rfl ?_
                        refine lv (v := (.bool false)) rfl rfl (r_pickF rfl rfl) ?_
                        refine lv (v := (.bool false)) rfl rfl (r_move rfl) ?_
                        refine lp (b := false) 95 rfl rfl rfl rfl rfl ?_
                        refine lp (b := false) 95 rfl rfl rfl rfl rfl ?_
                        refine lp (b := false) 95 rfl rfl rfl rfl rfl ?_
                        refine lp (b := false) 95 rfl rfl rfl rfl rfl ?_
                        refine lv (v := (.bool false)) rfl rfl (r_pickF rfl rfl) ?_
                        refine lv (v := (.bool false)) rfl rfl (r_move rfl) ?_
                        refine lp (b := false) 101 rfl rfl rfl rfl rfl ?_
                        refine lp (b := false) 101 rfl rfl rfl rfl rfl ?_
                        refine lp (b := false) 101 rfl rfl rfl rfl rfl ?_
                        refine lv (v := (.bool false)) rfl rfl (r_pickF rfl rfl) ?_
                        refine lv (v := (.bool false)) rfl rfl (r_assign rfl) ?_
                        refine lnil ?_
                        exact ⟨col_434, false, hm, hst, rfl, rfl⟩
                    · rw [if_neg hg_442] at hm
                      replace hg_442 := Bool.eq_false_iff.2 hg_442
                      refine lp (b := decide ((r_276.1.length : Int) = 5)) 80 rfl rfl rfl rfl (by rw [hg_442]; rfl) ?_
                      refine lp (b := decide ((r_276.1.length : Int) = 5)) 80 rfl rfl rfl rfl (by rw [hg_442]; rfl) ?_
                      refine lp (b := decide ((r_276.1.length : Int) = 5)) 80 rfl rfl rfl rfl (by rw [hg_442]; rfl) ?_
                      refine lp (b := decide ((r_276.1.length : Int) = 5)) 80 rfl rfl rfl rfl (by rw [hg_442]; rfl) ?_
                      refine lp (b := decide ((r_276.1.length : Int) = 5)) 80 rfl rfl rfl rfl (by rw [hg_442]; rfl) ?_
                      refine lv (v := (.bool false)) rfl rfl (r_pickF (congrArg Value.bool hg_442) rfl) ?_
                      refine lv (v := (.bool false)) rfl rfl (r_move rfl) ?_
                      refine lp (b := false) 87 rfl rfl rfl rfl rfl ?_
                      refine lp (b := false) 87 rfl rfl rfl rfl rfl ?_
                      refine lv (v := (.bool false)) rfl rfl (r_pickF rfl rfl) ?_
                      refine lv (v := (.bool false)) rfl rfl (r_move rfl) ?_
                      refine lp (b := false) 91 rfl rfl rfl rfl rfl ?_
                      refine lp (b := false) 91 rfl rfl rfl rfl rfl ?_
                      refine lv (v := (.bool false)) rfl rfl (r_pickF rfl rfl) ?_
                      refine lv (v := (.bool false)) rfl rfl (r_move rfl) ?_
                      refine lp (b := false) 95 rfl rfl rfl rfl rfl ?_
                      refine lp (b := false) 95 rfl rfl rfl rfl rfl ?_
                      refine lp (b := false) 95 rfl rfl rfl rfl rfl ?_
                      refine lp (b := false) 95 rfl rfl rfl rfl rfl ?_
                      refine lv (v := (.bool false)) rfl rfl (r_pickF rfl rfl) ?_
                      refine lv (v := (.bool false)) rfl rfl (r_move rfl) ?_
                      refine lp (b := false) 101 rfl rfl rfl rfl rfl ?_
                      refine lp (b := false) 101 rfl rfl rfl rfl rfl ?_
                      refine lp (b := false) 101 rfl rfl rfl rfl rfl ?_
                      refine lv (v := (.bool false)) rfl rfl (r_pickF rfl rfl) ?_
                      refine lv (v := (.bool false)) rfl rfl (r_assign rfl) ?_
                      refine lnil ?_
                      exact ⟨col_434, false, hm, hst, rfl, rfl⟩
                  · rw [if_neg hg_441] at hm
                    replace hg_441 := Bool.eq_false_iff.2 hg_441
                    refine lp (b := r_437) 75 rfl rfl rfl rfl (by rw [hg_441]; rfl) ?_
                    refine lp (b := r_437) 75 rfl rfl rfl rfl (by rw [hg_441]; rfl) ?_
                    refine lp (b := r_437) 75 rfl rfl rfl rfl (by rw [hg_441]; rfl) ?_
                    refine lv (v := (.bool false)) rfl rfl (r_pickF (congrArg Value.bool hg_441) rfl) ?_
                    refine lv (v := (.bool false)) rfl rfl (r_move rfl) ?_
                    refine lp (b := false) 80 rfl rfl rfl rfl rfl ?_
                    refine lp (b := false) 80 rfl rfl rfl rfl rfl ?_
                    refine lp (b := false) 80 rfl rfl rfl rfl rfl ?_
                    refine lp (b := false) 80 rfl rfl rfl rfl rfl ?_
                    refine lp (b := false) 80 rfl rfl rfl rfl rfl ?_
                    refine lv (v := (.bool false)) rfl rfl (r_pickF rfl rfl) ?_
                    refine lv (v := (.bool false)) rfl rfl (r_move rfl) ?_
                    refine lp (b := false) 87 rfl rfl rfl rfl rfl ?_
                    refine lp (b := false) 87 rfl rfl rfl rfl rfl ?_
                    refine lv (v := (.bool false)) rfl rfl (r_pickF rfl rfl) ?_
                    refine lv (v := (.bool false)) rfl rfl (r_move rfl) ?_
                    refine lp (b := false) 91 rfl rfl rfl rfl rfl ?_
                    refine lp (b := false) 91 rfl rfl rfl rfl rfl ?_
                    refine lv (v := (.bool false)) rfl rfl (r_pickF rfl rfl) ?_
                    refine lv (v := (.bool false)) rfl rfl (r_move rfl) ?_
                    refine lp (b := false) 95 rfl rfl rfl rfl rfl ?_
                    refine lp (b := false) 95 rfl rfl rfl rfl rfl ?_
                    refine lp (b := false) 95 rfl rfl rfl rfl rfl ?_
                    refine lp (b := false) 95 rfl rfl rfl rfl rfl ?_
                    refine lv (v := (.bool false)) rfl rfl (r_pickF rfl rfl) ?_
                    refine lv (v := (.bool false)) rfl rfl (r_move rfl) ?_
                    refine lp (b := false) 101 rfl rfl rfl rfl rfl ?_
                    refine lp (b := false) 101 rfl rfl rfl rfl rfl ?_
                    refine lp (b := false) 101 rfl rfl rfl rfl rfl ?_
                    refine lv (v := (.bool false)) rfl rfl (r_pickF rfl rfl) ?_
                    refine lv (v := (.bool false)) rfl rfl (r_assign rfl) ?_
                    refine lnil ?_
                    exact ⟨col_434, false, hm, hst, rfl, rfl⟩
                · rw [if_neg hg_431] at hm
                  replace hg_431 := Bool.eq_false_iff.2 hg_431
                  refine lp (b := r_427) 70 rfl rfl rfl rfl (by rw [hg_431]; rfl) ?_
                  refine lp (b := r_427) 70 rfl rfl rfl rfl (by rw [hg_431]; rfl) ?_
                  refine lp (b := r_427) 70 rfl rfl rfl rfl (by rw [hg_431]; rfl) ?_
                  refine lv (v := (.bool false)) rfl rfl (r_pickF (congrArg Value.bool hg_431) rfl) ?_
                  refine lv (v := (.bool false)) rfl rfl (r_move rfl) ?_
                  refine lp (b := false) 75 rfl rfl rfl rfl rfl ?_
                  refine lp (b := false) 75 rfl rfl rfl rfl rfl ?_
                  refine lp (b := false) 75 rfl rfl rfl rfl rfl ?_
                  refine lv (v := (.bool false)) rfl rfl (r_pickF rfl rfl) ?_
                  refine lv (v := (.bool false)) rfl rfl (r_move rfl) ?_
                  refine lp (b := false) 80 rfl rfl rfl rfl rfl ?_
                  refine lp (b := false) 80 rfl rfl rfl rfl rfl ?_
                  refine lp (b := false) 80 rfl rfl rfl rfl rfl ?_
                  refine lp (b := false) 80 rfl rfl rfl rfl rfl ?_
                  refine lp (b := false) 80 rfl rfl rfl rfl rfl ?_
                  refine lv (v := (.bool false)) rfl rfl (r_pickF rfl rfl) ?_
                  refine lv (v := (.bool false)) rfl rfl (r_move rfl) ?_
                  refine lp (b := false) 87 rfl rfl rfl rfl rfl ?_
                  refine lp (b := false) 87 rfl rfl rfl rfl rfl ?_
                  refine lv (v := (.bool false)) rfl rfl (r_pickF rfl rfl) ?_
                  refine lv (v := (.bool false)) rfl rfl (r_move rfl) ?_
                  refine lp (b := false) 91 rfl rfl rfl rfl rfl ?_
                  refine lp (b := false) 91 rfl rfl rfl rfl rfl ?_
                  refine lv (v := (.bool false)) rfl rfl (r_pickF rfl rfl) ?_
                  refine lv (v := (.bool false)) rfl rfl (r_move rfl) ?_
                  refine lp (b := false) 95 rfl rfl rfl rfl rfl ?_
                  refine lp (b := false) 95 rfl rfl rfl rfl rfl ?_
                  refine lp (b := false) 95 rfl rfl rfl rfl rfl ?_
                  refine lp (b := false) 95 rfl rfl rfl rfl rfl ?_
                  refine lv (v := (.bool false)) rfl rfl (r_pickF rfl rfl) ?_
                  refine lv (v := (.bool false)) rfl rfl (r_move rfl) ?_
                  refine lp (b := false) 101 rfl rfl rfl rfl rfl ?_
                  refine lp (b := false) 101 rfl rfl rfl rfl rfl ?_
                  refine lp (b := false) 101 rfl rfl rfl rfl rfl ?_
                  refine lv (v := (.bool false)) rfl rfl (r_pickF rfl rfl) ?_
                  refine lv (v := (.bool false)) rfl rfl (r_assign rfl) ?_
                  refine lnil ?_
                  exact ⟨col_424, false, hm, hst, rfl, rfl⟩
              · rw [if_neg hg_421] at hm
                replace hg_421 := Bool.eq_false_iff.2 hg_421
                refine lp (b := decide (r_285.2 = 0)) 65 rfl rfl rfl rfl (by rw [hg_421]; rfl) ?_
                refine lp (b := decide (r_285.2 = 0)) 65 rfl rfl rfl rfl (by rw [hg_421]; rfl) ?_
                refine lp (b := decide (r_285.2 = 0)) 65 rfl rfl rfl rfl (by rw [hg_421]; rfl) ?_
                refine lv (v := (.bool false)) rfl rfl (r_pickF (congrArg Value.bool hg_421) rfl) ?_
                refine lv (v := (.bool false)) rfl rfl (r_move rfl) ?_
                refine lp (b := false) 70 rfl rfl rfl rfl rfl ?_
                refine lp (b := false) 70 rfl rfl rfl rfl rfl ?_
                refine lp (b := false) 70 rfl rfl rfl rfl rfl ?_
                refine lv (v := (.bool false)) rfl rfl (r_pickF rfl rfl) ?_
                refine lv (v := (.bool false)) rfl rfl (r_move rfl) ?_
                refine lp (b := false) 75 rfl rfl rfl rfl rfl ?_
                refine lp (b := false) 75 rfl rfl rfl rfl rfl ?_
                refine lp (b := false) 75 rfl rfl rfl rfl rfl ?_
                refine lv (v := (.bool false)) rfl rfl (r_pickF rfl rfl) ?_
                refine lv (v := (.bool false)) rfl rfl (r_move rfl) ?_
                refine lp (b := false) 80 rfl rfl rfl rfl rfl ?_
                refine lp (b := false) 80 rfl rfl rfl rfl rfl ?_
                refine lp (b := false) 80 rfl rfl rfl rfl rfl ?_
                refine lp (b := false) 80 rfl rfl rfl rfl rfl ?_
                refine lp (b := false) 80 rfl rfl rfl rfl rfl ?_
                refine lv (v := (.bool false)) rfl rfl (r_pickF rfl rfl) ?_
                refine lv (v := (.bool false)) rfl rfl (r_move rfl) ?_
                refine lp (b := false) 87 rfl rfl rfl rfl rfl ?_
                refine lp (b := false) 87 rfl rfl rfl rfl rfl ?_
                refine lv (v := (.bool false)) rfl rfl (r_pickF rfl rfl) ?_
                refine lv (v := (.bool false)) rfl rfl (r_move rfl) ?_
                refine lp (b := false) 91 rfl rfl rfl rfl rfl ?_
                refine lp (b := false) 91 rfl rfl rfl rfl rfl ?_
                refine lv (v := (.bool false)) rfl rfl (r_pickF rfl rfl) ?_
                refine lv (v := (.bool false)) rfl rfl (r_move rfl) ?_
                refine lp (b := false) 95 rfl rfl rfl rfl rfl ?_
                refine lp (b := false) 95 rfl rfl rfl rfl rfl ?_
                refine lp (b := false) 95 rfl rfl rfl rfl rfl ?_
                refine lp (b := false) 95 rfl rfl rfl rfl rfl ?_
                refine lv (v := (.bool false)) rfl rfl (r_pickF rfl rfl) ?_
                refine lv (v := (.bool false)) rfl rfl (r_move rfl) ?_
                refine lp (b := false) 101 rfl rfl rfl rfl rfl ?_
                refine lp (b := false) 101 rfl rfl rfl rfl rfl ?_
                refine lp (b := false) 101 rfl rfl rfl rfl rfl ?_
                refine lv (v := (.bool false)) rfl rfl (r_pickF rfl rfl) ?_
                refine lv (v := (.bool false)) rfl rfl (r_assign rfl) ?_
                refine lnil ?_
                exact ⟨col_296, false, hm, hst, rfl, rfl⟩
            · rw [if_neg hg_420] at hm
              replace hg_420 := Bool.eq_false_iff.2 hg_420
              refine lp (b := decide (r_276.2 = 0)) 61 rfl rfl rfl rfl (by rw [hg_420]; rfl) ?_
              refine lp (b := decide (r_276.2 = 0)) 61 rfl rfl rfl rfl (by rw [hg_420]; rfl) ?_
              refine lv (v := (.bool false)) rfl rfl (r_pickF (congrArg Value.bool hg_420) rfl) ?_
              refine lv (v := (.bool false)) rfl rfl (r_move rfl) ?_
              refine lp (b := false) 65 rfl rfl rfl rfl rfl ?_
              refine lp (b := false) 65 rfl rfl rfl rfl rfl ?_
              refine lp (b := false) 65 rfl rfl rfl rfl rfl ?_
              refine lv (v := (.bool false)) rfl rfl (r_pickF rfl rfl) ?_
              refine lv (v := (.bool false)) rfl rfl (r_move rfl) ?_
              refine lp (b := false) 70 rfl rfl rfl rfl rfl ?_
              refine lp (b := false) 70 rfl rfl rfl rfl rfl ?_
              refine lp (b := false) 70 rfl rfl rfl rfl rfl ?_
              refine lv (v := (.bool false)) rfl rfl (r_pickF rfl rfl) ?_
              refine lv (v := (.bool false)) rfl rfl (r_move rfl) ?_
              refine lp (b := false) 75 rfl rfl rfl rfl rfl ?_
              refine lp (b := false) 75 rfl rfl rfl rfl rfl ?_
              refine lp (b := false) 75 rfl rfl rfl rfl rfl ?_
              refine lv (v := (.bool false)) rfl rfl (r_pickF rfl rfl) ?_
              refine lv (v := (.bool false)) rfl rfl (r_move rfl) ?_
              refine lp (b := false) 80 rfl rfl rfl rfl rfl ?_
              refine lp (b := false) 80 rfl rfl rfl rfl rfl ?_
              refine lp (b := false) 80 rfl rfl rfl rfl rfl ?_
              refine lp (b := false) 80 rfl rfl rfl rfl rfl ?_
              refine lp (b := false) 80 rfl rfl rfl rfl rfl ?_
              refine lv (v := (.bool false)) rfl rfl (r_pickF rfl rfl) ?_
              refine lv (v := (.bool false)) rfl rfl (r_move rfl) ?_
              refine lp (b := false) 87 rfl rfl rfl rfl rfl ?_
              refine lp (b := false) 87 rfl rfl rfl rfl rfl ?_
              refine lv (v := (.bool false)) rfl rfl (r_pickF rfl rfl) ?_
              refine lv (v := (.bool false)) rfl rfl (r_move rfl) ?_
              refine lp (b := false) 91 rfl rfl rfl rfl rfl ?_
              refine lp (b := false) 91 rfl rfl rfl rfl rfl ?_
              refine lv (v := (.bool false)) rfl rfl (r_pickF rfl rfl) ?_
              refine lv (v := (.bool false)) rfl rfl (r_move rfl) ?_
              refine lp (b := false) 95 rfl rfl rfl rfl rfl ?_
              refine lp (b := false) 95 rfl rfl rfl rfl rfl ?_
              refine lp (b := false) 95 rfl rfl rfl rfl rfl ?_
              refine lp (b := false) 95 rfl rfl rfl rfl rfl ?_
              refine lv (v := (.bool false)) rfl rfl (r_pickF rfl rfl) ?_
              refine lv (v := (.bool false)) rfl rfl (r_move rfl) ?_
              refine lp (b := false) 101 rfl rfl rfl rfl rfl ?_
              refine lp (b := false) 101 rfl rfl rfl rfl rfl ?_
              refine lp (b := false) 101 rfl rfl rfl rfl rfl ?_
              refine lv (v := (.bool false)) rfl rfl (r_pickF rfl rfl) ?_
              refine lv (v := (.bool false)) rfl rfl (r_assign rfl) ?_
              refine lnil ?_
              exact ⟨col_296, false, hm, hst, rfl, rfl⟩
          · rw [if_neg hg_419] at hm
            replace hg_419 := Bool.eq_false_iff.2 hg_419
            refine lp (b := decide (r_267.2 = 0)) 57 rfl rfl rfl rfl (by rw [hg_419]; rfl) ?_
            refine lp (b := decide (r_267.2 = 0)) 57 rfl rfl rfl rfl (by rw [hg_419]; rfl) ?_
            refine lv (v := (.bool false)) rfl rfl (r_pickF (congrArg Value.bool hg_419) rfl) ?_
            refine lv (v := (.bool false)) rfl rfl (r_move rfl) ?_
            refine lp (b := false) 61 rfl rfl rfl rfl rfl ?_
            refine lp (b := false) 61 rfl rfl rfl rfl rfl ?_
            refine lv (v := (.bool false)) rfl rfl (r_pickF rfl rfl) ?_
            refine lv (v := (.bool false)) rfl rfl (r_move rfl) ?_
            refine lp (b := false) 65 rfl rfl rfl rfl rfl ?_
            refine lp (b := false) 65 rfl rfl rfl rfl rfl ?_
            refine lp (b := false) 65 rfl rfl rfl rfl rfl ?_
            refine lv (v := (.bool false)) rfl rfl (r_pickF rfl rfl) ?_
            refine lv (v := (.bool false)) rfl rfl (r_move rfl) ?_
            refine lp (b := false) 70 rfl rfl rfl rfl rfl ?_
            refine lp (b := false) 70 rfl rfl rfl rfl rfl ?_
            refine lp (b := false) 70 rfl rfl rfl rfl rfl ?_
            refine lv (v := (.bool false)) rfl rfl (r_pickF rfl rfl) ?_
            refine lv (v := (.bool false)) rfl rfl (r_move rfl) ?_
            refine lp (b := false) 75 rfl rfl rfl rfl rfl ?_
            refine lp (b := false) 75 rfl rfl rfl rfl rfl ?_
            refine lp (b := false) 75 rfl rfl rfl rfl rfl ?_
            refine lv (v := (.bool false)) rfl rfl (r_pickF rfl rfl) ?_
            refine lv (v := (.bool false)) rfl rfl (r_move rfl) ?_
            refine lp (b := false) 80 rfl rfl rfl rfl rfl ?_
            refine lp (b := false) 80 rfl rfl rfl rfl rfl ?_
            refine lp (b := false) 80 rfl rfl rfl rfl rfl ?_
            refine lp (b := false) 80 rfl rfl rfl rfl rfl ?_
            refine lp (b := false) 80 rfl rfl rfl rfl rfl ?_
            refine lv (v := (.bool false)) rfl rfl (r_pickF rfl rfl) ?_
            refine lv (v := (.bool false)) rfl rfl (r_move rfl) ?_
            refine lp (b := false) 87 rfl rfl rfl rfl rfl ?_
            refine lp (b := false) 87 rfl rfl rfl rfl rfl ?_
            refine lv (v := (.bool false)) rfl rfl (r_pickF rfl rfl) ?_
            refine lv (v := (.bool false)) rfl rfl (r_move rfl) ?_
            refine lp (b := false) 91 rfl rfl rfl rfl rfl ?_
            refine lp (b := false) 91 rfl rfl rfl rfl rfl ?_
            refine lv (v := (.bool false)) rfl rfl (r_pickF rfl rfl) ?_
            refine lv (v := (.bool false)) rfl rfl (r_move rfl) ?_
            refine lp (b := false) 95 rfl rfl rfl rfl rfl ?_
            refine lp (b := false) 95 rfl rfl rfl rfl rfl ?_
            refine lp (b := false) 95 rfl rfl rfl rfl rfl ?_
            refine lp (b := false) 95 rfl rfl rfl rfl rfl ?_
            refine lv (v := (.bool false)) rfl rfl (r_pickF rfl rfl) ?_
            refine lv (v := (.bool false)) rfl rfl (r_move rfl) ?_
            refine lp (b := false) 101 rfl rfl rfl rfl rfl ?_
            refine lp (b := false) 101 rfl rfl rfl rfl rfl ?_
            refine lp (b := false) 101 rfl rfl rfl rfl rfl ?_
            refine lv (v := (.bool false)) rfl rfl (r_pickF rfl rfl) ?_
            refine lv (v := (.bool false)) rfl rfl (r_assign rfl) ?_
            refine lnil ?_
            exact ⟨col_296, false, hm, hst, rfl, rfl⟩
        · rw [if_neg hg_418] at hm
          replace hg_418 := Bool.eq_false_iff.2 hg_418
          refine lp (b := decide (r_253.2 = 0)) 53 rfl rfl rfl rfl (by rw [hg_418]; rfl) ?_
          refine lp (b := decide (r_253.2 = 0)) 53 rfl rfl rfl rfl (by rw [hg_418]; rfl) ?_
          refine lv (v := (.bool false)) rfl rfl (r_pickF (congrArg Value.bool hg_418) rfl) ?_
          refine lv (v := (.bool false)) rfl rfl (r_move rfl) ?_
          refine lp (b := false) 57 rfl rfl rfl rfl rfl ?_
          refine lp (b := false) 57 rfl rfl rfl rfl rfl ?_
          refine lv (v := (.bool false)) rfl rfl (r_pickF rfl rfl) ?_
          refine lv (v := (.bool false)) rfl rfl (r_move rfl) ?_
          refine lp (b := false) 61 rfl rfl rfl rfl rfl ?_
          refine lp (b := false) 61 rfl rfl rfl rfl rfl ?_
          refine lv (v := (.bool false)) rfl rfl (r_pickF rfl rfl) ?_
          refine lv (v := (.bool false)) rfl rfl (r_move rfl) ?_
          refine lp (b := false) 65 rfl rfl rfl rfl rfl ?_
          refine lp (b := false) 65 rfl rfl rfl rfl rfl ?_
          refine lp (b := false) 65 rfl rfl rfl rfl rfl ?_
          refine lv (v := (.bool false)) rfl rfl (r_pickF rfl rfl) ?_
          refine lv (v := (.bool false)) rfl rfl (r_move rfl) ?_
          refine lp (b := false) 70 rfl rfl rfl rfl rfl ?_
          refine lp (b := false) 70 rfl rfl rfl rfl rfl ?_
          refine lp (b := false) 70 rfl rfl rfl rfl rfl ?_
          refine lv (v := (.bool false)) rfl rfl (r_pickF rfl rfl) ?_
          refine lv (v := (.bool false)) rfl rfl (r_move rfl) ?_
          refine lp (b := false) 75 rfl rfl rfl rfl rfl ?_
          refine lp (b := false) 75 rfl rfl rfl rfl rfl ?_
          refine lp (b := false) 75 rfl rfl rfl rfl rfl ?_
          refine lv (v := (.bool false)) rfl rfl (r_pickF rfl rfl) ?_
          refine lv (v := (.bool false)) rfl rfl (r_move rfl) ?_
          refine lp (b := false) 80 rfl rfl rfl rfl rfl ?_
          refine lp (b := false) 80 rfl rfl rfl rfl rfl ?_
          refine lp (b := false) 80 rfl rfl rfl rfl rfl ?_
          refine lp (b := false) 80 rfl rfl rfl rfl rfl ?_
          refine lp (b := false) 80 rfl rfl rfl rfl rfl ?_
          refine lv (v := (.bool false)) rfl rfl (r_pickF rfl rfl) ?_
          refine lv (v := (.bool false)) rfl rfl (r_move rfl) ?_
          refine lp (b := false) 87 rfl rfl rfl rfl rfl ?_
          refine lp (b := false) 87 rfl rfl rfl rfl rfl ?_
          refine lv (v := (.bool false)) rfl rfl (r_pickF rfl rfl) ?_
          refine lv (v := (.bool false)) rfl rfl (r_move rfl) ?_
          refine lp (b := false) 91 rfl rfl rfl rfl rfl ?_
          refine lp (b := false) 91 rfl rfl rfl rfl rfl ?_
          refine lv (v := (.bool false)) rfl rfl (r_pickF rfl rfl) ?_
          refine lv (v := (.bool false)) rfl rfl (r_move rfl) ?_
          refine lp (b := false) 95 rfl rfl rfl rfl rfl ?_
          refine lp (b := false) 95 rfl rfl rfl rfl rfl ?_
          refine lp (b := false) 95 rfl rfl rfl rfl rfl ?_
          refine lp (b := false) 95 rfl rfl rfl rfl rfl ?_
          refine lv (v := (.bool false)) rfl rfl (r_pickF rfl rfl) ?_
          refine lv (v := (.bool false)) rfl rfl (r_move rfl) ?_
          refine lp (b := false) 101 rfl rfl rfl rfl rfl ?_
          refine lp (b := false) 101 rfl rfl rfl rfl rfl ?_
          refine lp (b := false) 101 rfl rfl rfl rfl rfl ?_
          refine lv (v := (.bool false)) rfl rfl (r_pickF rfl rfl) ?_
          refine lv (v := (.bool false)) rfl rfl (r_assign rfl) ?_
          refine lnil ?_
          exact ⟨col_296, false, hm, hst, rfl, rfl⟩

set_option maxRecDepth 100000 in
theorem val_credencelaw18_awake : m_credencelaw18_awake 3000000 = some true := by decide +kernel
def w_credencelaw18_awake : Option Bool := some true
theorem k_credencelaw18_awake (col : Col) (w0 : World) (r : Bool) (hm : w_credencelaw18_awake = some r) : Calls Try.prog 29 #[] w0 (fun e w' => e = .returned ((.bool r)) ∧ Below w0.heap.size w0 w') := by
  cases hm
  exact c_credencelaw18_awake 3000000 col w0 true val_credencelaw18_awake











variable {N : Nat}

theorem values_eq (l : List Int) : m_slices_Values_int_int l = some l := by
  unfold m_slices_Values_int_int m_slices_Values_int_int_1
  induction l with
  | nil => rfl
  | cons x l ih => rw [m_slices_Values_int_int_1_L1.eq_2, ih]; rfl
theorem appendSeq_L1 : ∀ (l s : List Int), s.length + l.length ≤ 1100000 → m_slices_AppendSeq_int_int_v0n_L1 l s = some (s ++ l)
  | [], s, _ => by rw [m_slices_AppendSeq_int_int_v0n_L1.eq_1, List.append_nil]
  | y :: l, s, h => by
    simp only [List.length_cons] at h
    rw [m_slices_AppendSeq_int_int_v0n_L1.eq_2, chk_pos (by simp only [List.length_singleton, maxLen]; omega), appendSeq_L1 l _ (by simp; omega), List.append_assoc]; rfl
theorem sorted_eq' (l : List Int) (h : l.length ≤ 1100000) : m_slices_Sorted_int l = some (isort l) := by
  unfold m_slices_Sorted_int m_slices_Collect_int m_slices_AppendSeq_int_int_v0n
  rw [appendSeq_L1 l [] (by simpa using h)]
  simp only [List.nil_append, Option.bind_some]
  unfold lib_sort
  rw [chk_pos (by omega)]; rfl
theorem isort_len (l : List Int) : (isort l).length = l.length := (isort_perm l).length_eq
theorem isort_congr {l m : List Int} (h : l.Perm m) : isort l = isort m := isort_eq ((isort_perm m).trans h.symm) (isort_rises m)
theorem isort_inj {l m : List Int} : isort l = isort m ↔ l.Perm m :=
  ⟨fun h => (isort_perm l).symm.trans (h ▸ isort_perm m), isort_congr⟩

theorem equal_L1 (m : List Int) : ∀ (l : List Int) (k : Nat), k + l.length = m.length → m_slices_Equal_int_int_L1 m l k = some (decide (l = m.drop k))
  | [], k, h => by
    rw [m_slices_Equal_int_int_L1.eq_1, List.drop_eq_nil_of_le (by simp at h; omega)]; rfl
  | x :: l, k, h => by
    simp only [List.length_cons] at h
    rw [m_slices_Equal_int_int_L1.eq_2, at?_lt (show k < m.length by omega)]
    simp only [Option.bind_some]
    rw [List.drop_eq_getElem_cons (show k < m.length by omega)]
    by_cases e : x = m[k]
    · rw [if_neg (by simp [e]), equal_L1 m l (k + 1) (by omega), ← e]
      exact congrArg some (decide_eq_decide.2 ⟨fun h => by rw [h], fun h => (List.cons.inj h).2⟩)
    · rw [if_pos (by simp [e])]
      exact congrArg some (decide_eq_false (fun h => e (List.cons.inj h).1)).symm
theorem equal_eq (l m : List Int) : m_slices_Equal_int_int l m = some (decide (l = m)) := by
  unfold m_slices_Equal_int_int
  by_cases h : l.length = m.length
  · rw [if_neg (by simp [h]), equal_L1 m l 0 (by omega), List.drop_zero]
  · rw [if_pos (by simp; omega)]
    congr 1
    symm; rw [decide_eq_false_iff_not]; intro e; exact h (by rw [e])

/-- Nothing falls away just if no two neighbours are one. -/
theorem compact_len_iff {l : List Int} (hs : l.Pairwise (· ≤ ·)) : (Go.Lib.compact l).length = l.length ↔ l.Nodup := by
  have key : (Go.Lib.compact l).length = l.length ↔ ∀ j, j < l.length → Go.Lib.keeps l.toArray j = true := by
    constructor
    · intro h j hj
      unfold Go.Lib.compact Go.Lib.compactUpTo at h
      rw [List.length_map] at h
      have h2 : ((List.range l.length).filter (Go.Lib.keeps l.toArray)).length = (List.range l.length).length := by rw [h]; simp
      exact (List.filter_eq_self.1 (List.filter_sublist.eq_of_length h2)) j (List.mem_range.2 hj)
    · intro h; rw [Go.Lib.compact_all l h]
  rw [key]
  have hk : ∀ j, j < l.length → (Go.Lib.keeps l.toArray j = true ↔ (j = 0 ∨ l[j]? ≠ l[j - 1]?)) := fun j hj => by
    unfold Go.Lib.keeps
    rw [decide_eq_true_iff]
    have h1 : j - 1 < l.length := by omega
    rw [getElem!_pos l.toArray j (by simpa using hj), getElem!_pos l.toArray (j - 1) (by simpa using h1), List.getElem?_eq_getElem hj, List.getElem?_eq_getElem h1]
    simp
  constructor
  · intro h
    rw [List.nodup_iff_pairwise_ne]
    rw [List.pairwise_iff_getElem] at hs ⊢
    intro i j hi hj hij e
    have hn := (hk j hj).1 (h j hj)
    rcases hn with hn | hn
    · omega
    · apply hn
      have h1 : j - 1 < l.length := by omega
      rw [List.getElem?_eq_getElem hj, List.getElem?_eq_getElem h1]
      congr 1
      have a1 := hs (j - 1) j h1 hj (by omega)
      by_cases h2 : i = j - 1
      · subst h2; exact e.symm
      · have a2 := hs i (j - 1) hi h1 (by omega)
        omega
  · intro h j hj
    rw [hk j hj]
    by_cases h0 : j = 0
    · exact .inl h0
    · refine .inr fun e => ?_
      have h1 : j - 1 < l.length := by omega
      rw [List.getElem?_eq_getElem hj, List.getElem?_eq_getElem h1] at e
      have := (List.getElem_inj h).1 (Option.some.inj e)
      omega

/-- What our Check says. -/
theorem check_eq (l m : List Int) (hl : l.length < 1048576) (hm : m.length < 1048576) : m_order_Check l m = some (if l.Perm m ∧ m.Nodup then 0 else 51) := by
  unfold m_order_Check
  rw [values_eq, values_eq]
  simp only [Option.bind_some]
  rw [sorted_eq' l (by omega), sorted_eq' m (by omega)]
  simp only [Option.bind_some]
  rw [equal_eq]
  simp only [Option.bind_some]
  by_cases h : isort l = isort m
  · have hp := isort_inj.1 h
    rw [if_neg (by simp [h])]
    unfold lib_compact m_order_Check_J1
    rw [chk_pos (by rw [isort_len]; omega)]
    simp only [Option.bind_some]
    have hn : (Go.Lib.compact (isort l)).length = (isort m).length ↔ m.Nodup := by
      rw [← h, compact_len_iff (isort_rises l), (isort_perm l).nodup_iff, hp.nodup_iff]
    by_cases hd : m.Nodup
    · rw [if_neg (by simp; have := hn.2 hd; omega), if_pos ⟨hp, hd⟩]
    · rw [if_pos (by
        simp only [Bool.not_eq_true', decide_eq_false_iff_not]
        intro e; exact hd (hn.1 (by omega))), if_neg (fun e => hd e.2)]
  · rw [if_pos (by simp [h])]
    unfold m_order_Check_J1
    rw [if_pos rfl, if_neg (fun e => h (isort_congr e.1))]

theorem ifc {a b : Prop} [Decidable a] [Decidable b] {x y : Int} (h : a ↔ b) : (if a then x else y) = if b then x else y := by
  by_cases ha : a
  · rw [if_pos ha, if_pos (h.1 ha)]
  · rw [if_neg ha, if_neg (fun e => ha (h.2 e))]


def m_graph_Graph_Chordal_J1 (v_31 : Int) (kk_L2 : (Int → Int → Option Bool)) (next_35 : Int) : Option Bool :=
  kk_L2 (IntKind.i64.wrap (v_31 + 1)) next_35

def m_graph_Graph_Chordal_J2 (N : Nat) (rest_21 : List (List Bool)) (v_23 : Int) (out_24 : List Bool) (kk_L1 : ((List (List Bool)) → Int → (List Bool) → Option Bool)) (v_31 : Int) (next_32 : Int) (kk_L2 : (Int → Int → Option Bool)) (v_45 : Bool) : Option Bool :=
  if v_45 = true then (if (decide (v_31 < 0)) = true then (some false) else ((at? out_24 v_31).bind fun e_46 => (some (out_24.set (Int.toNat v_31) true)).bind fun xs_53 => (m_graph_Graph_Remove N rest_21 v_31).bind fun r_54 => kk_L1 r_54.2.2 (IntKind.i64.wrap (v_23 + 1)) xs_53)) else (m_graph_Graph_Chordal_J1 v_31 kk_L2 next_32)

def m_graph_Graph_Chordal_L2 (N : Nat) (rest_21 : List (List Bool)) (v_23 : Int) (out_24 : List Bool) (kk_L1 : ((List (List Bool)) → Int → (List Bool) → Option Bool)) : Nat → Int → Int → Option Bool
  | 0, _, _ => none
  | n_28 + 1, v_31, next_32 => if (decide (v_31 < (rest_21.length : Int))) = true then ((at? out_24 v_31).bind fun e_66 => if (!e_66) = true then ((m_graph_Graph_Fill rest_21 v_31).bind fun r_69 => m_graph_Graph_Chordal_J2 N rest_21 v_23 out_24 kk_L1 v_31 next_32 (m_graph_Graph_Chordal_L2 N rest_21 v_23 out_24 kk_L1 n_28) (decide (r_69 = 0))) else (m_graph_Graph_Chordal_J2 N rest_21 v_23 out_24 kk_L1 v_31 next_32 (m_graph_Graph_Chordal_L2 N rest_21 v_23 out_24 kk_L1 n_28) false)) else (if (decide (next_32 < 0)) = true then (some false) else ((at? out_24 next_32).bind fun e_73 => (some (out_24.set (Int.toNat next_32) true)).bind fun xs_80 => (m_graph_Graph_Remove N rest_21 next_32).bind fun r_81 => kk_L1 r_81.2.2 (IntKind.i64.wrap (v_23 + 1)) xs_80))

def m_graph_Graph_Chordal_L1 (N : Nat) (p0_g : List (List Bool)) : Nat → (List (List Bool)) → Int → (List Bool) → Option Bool
  | 0, _, _, _ => none
  | n_18 + 1, rest_21, v_23, out_24 => if (decide (v_23 < (p0_g.length : Int))) = true then (m_graph_Graph_Chordal_L2 N rest_21 v_23 out_24 (m_graph_Graph_Chordal_L1 N p0_g n_18) N 0 (-1)) else (some true)

def m_graph_Graph_Chordal (N : Nat) (p0_g : List (List Bool)) : Option Bool :=
  chk (p0_g.length ≤ 1048576) ((m_graph_Graph_Len p0_g).bind fun r_8 => chk ((Int.toNat r_8) * 1 ≤ 281474976710656 ∧ (Int.toNat r_8) ≤ maxLen ∧ 0 ≤ r_8) (m_graph_Graph_Chordal_L1 N p0_g N p0_g 0 (List.replicate (Int.toNat r_8) (false : Bool))))

set_option maxRecDepth 100000 in
set_option maxHeartbeats 2000000 in
theorem c_graph_Graph_Chordal (N : Nat) (col : Col) (w0 : World) (qc0 : Nat) (hqqc0 : qc0 ≠ 0) (o0 : GObj) (p0_g : List (List Bool)) (h0 : GO 85 86 qc0 col w0 o0 p0_g) (r : Bool) (hm : m_graph_Graph_Chordal N p0_g = some r) :
    Calls Try.prog 14 #[(.pointer (some ⟨o0.g, 0, none⟩))] w0 (fun e w' => e = .returned ((.bool r)) ∧ Below w0.heap.size w0 w') := by
  refine calls_of1 2 (m := 76) (args := [(.pointer (some ⟨o0.g, 0, none⟩))]) Try.func14 rfl rfl rfl rfl rfl ?_
  rw [m_graph_Graph_Chordal.eq_1] at hm
  have hst := St.start col w0
  replace h0 := h0.start0 hqqc0
  refine wseq ?_
  refine wregion ?_
  refine lv (v := (.bool false)) rfl rfl (r_assign rfl) ?_
  refine lnil ?_
  obtain ⟨hb_1, hm⟩ := chk_some hm
  refine wseq ?_
  refine wregion ?_
  refine lv (v := (.pointer (some ⟨o0.g, 0, none⟩))) rfl rfl (r_move rfl) ?_
  refine lv (v := (.pointer (some ⟨o0.g, 0, none⟩))) rfl rfl (r_nilCheck rfl) ?_
  refine lv (v := (.pointer ((some (⟨o0.g, 0, none⟩ : Addr)).map (·.add 0)))) rfl rfl (r_fieldAddr (sz := 1) (off := 0) Try.underlying85 rfl Try.sizeOf83 (by decide) rfl rfl ⟨_, _, rfl⟩) ?_
  refine lv (v := (.slice o0.a p0_g.length o0.cap)) rfl rfl (r_ld Try.isAgg83 rfl (h0.box.atN.nth (q := 0) (v := (.slice o0.a p0_g.length o0.cap)) rfl)) ?_
  refine lv (v := (.int .i64 (p0_g.length : Int))) rfl rfl (r_len Try.underlying83 rfl) ?_
  refine l_make (col := (col0 col)) (w := w0) (r := Rep.mref) (n := p0_g.length) (x0 := none) 2 rfl Try.underlying83 Try.t86 rfl rfl rfl rfl rfl rfl rfl (show p0_g.length * 8 ≤ 281474976710656 by omega) (by simp only [maxLen]; omega) ⟨rfl, rfl⟩ ?_
  intro a_2 w_a col_a hg_a hR
  replace hst := hst.grow hg_a
  replace h0 := h0.gr hg_a
  refine lv (v := .agg #[.slice a_2 (List.replicate p0_g.length (none : Option Nat)).length p0_g.length]) rfl rfl (r_build (l := [_]) (qs := [(0, 1)]) Try.underlying85 Try.zeroValue85 ⟨rfl, Try.sizeOf83, trivial⟩ rfl) ?_
  refine l_box (col := col_a) (v := .agg #[.slice a_2 (List.replicate p0_g.length (none : Option Nat)).length p0_g.length]) 1 rfl rfl ?_
  intro g_3 w_b col_b hg_b hB
  replace hst := hst.grow hg_b
  replace h0 := h0.gr hg_b
  replace hR := hR.gr hg_b
  replace hB : Box 85 1 col_b w_b g_3 #[(.slice a_2 p0_g.length p0_g.length)] := by rw [List.length_replicate] at hB; exact hB
  refine lv (v := (.pointer (some ⟨g_3, 0, none⟩))) rfl rfl (r_assign rfl) ?_
  refine lnil ?_
  refine wseq ?_
  refine wseq ?_
  refine wregion ?_
  refine lv (v := (.pointer (some ⟨o0.g, 0, none⟩))) rfl rfl (r_move rfl) ?_
  refine lv (v := (.pointer (some ⟨o0.g, 0, none⟩))) rfl rfl (r_nilCheck rfl) ?_
  refine lv (v := (.pointer ((some (⟨o0.g, 0, none⟩ : Addr)).map (·.add 0)))) rfl rfl (r_fieldAddr (sz := 1) (off := 0) Try.underlying85 rfl Try.sizeOf83 (by decide) rfl rfl ⟨_, _, rfl⟩) ?_
  refine lv (v := (.slice o0.a p0_g.length o0.cap)) rfl rfl (r_ld Try.isAgg83 rfl (h0.box.atN.nth (q := 0) (v := (.slice o0.a p0_g.length o0.cap)) rfl)) ?_
  refine lv (v := (.int .i64 (p0_g.length : Int))) rfl rfl (r_len Try.underlying83 rfl) ?_
  refine lv (v := (.int .i64 0)) rfl rfl (r_move rfl) ?_
  refine lnil ?_
  refine wblock ?_
  refine wloop (fun n f w => ∃ (col' : Col) (k_5 : Nat) (bs_4 : List Nat), k_5 + n = p0_g.length ∧ bs_4.length = k_5 ∧ bs_4.Nodup ∧ St w0 (col0 col) col' w ∧ GO 85 86 999 col' w o0 p0_g ∧ Box 85 1 col' w g_3 #[(.slice a_2 p0_g.length p0_g.length)] ∧ Own Rep.mref 86 2 col' w a_2 p0_g.length (bs_4.map some ++ List.replicate n none) ∧ (∀ (i b : Nat) (row : List Bool), bs_4[i]? = some b → p0_g[i]? = some row → MapB 3 col' w b row) ∧ f 22 = (.int .i64 (k_5 : Int)) ∧ f 21 = (.int .i64 (p0_g.length : Int)) ∧ f 20 = (.slice o0.a p0_g.length o0.cap) ∧ f 3 = (.pointer (some ⟨g_3, 0, none⟩)) ∧ f 0 = (.pointer (some ⟨o0.g, 0, none⟩)) ∧ f 1000000 = (enc [])) p0_g.length ⟨col_b, 0, [], by omega, rfl, by simp, hst, h0, hB, hR, by simp, rfl, rfl, rfl, rfl, rfl, rfl⟩ ?_
  clear hst h0 hB hR
  intro n f w_l hI
  obtain ⟨col_l, k_5, bs_4, hk, hbl, hnd, hst, h0, hB, hR, hMs, hs22, hs21, hs20, hs3, hs0, hs1000000⟩ := hI
  refine .ld (d := 22) (v := (.int .i64 (k_5 : Int))) hs22 ?_
  refine .ld (d := 21) (v := (.int .i64 (p0_g.length : Int))) hs21 ?_
  refine .ld (d := 20) (v := (.slice o0.a p0_g.length o0.cap)) hs20 ?_
  refine .ld (d := 3) (v := (.pointer (some ⟨g_3, 0, none⟩))) hs3 ?_
  refine .ld (d := 0) (v := (.pointer (some ⟨o0.g, 0, none⟩))) hs0 ?_
  refine .ld (d := 1000000) (v := (enc [])) hs1000000 ?_
  clear hs22 hs21 hs20 hs3 hs0 hs1000000
  refine wseq ?_
  refine wregion ?_
  refine lv (v := (.bool (decide ((k_5 : Int) < (p0_g.length : Int))))) rfl rfl (r_lss (k_5 : Int) (p0_g.length : Int) rfl rfl) ?_
  refine lnil ?_
  refine wseq ?_
  cases n with
  | zero =>
    have hkb : decide ((k_5 : Int) < (p0_g.length : Int)) = false := decide_eq_false (by omega)
    refine wcondF (congrArg Value.bool hkb) ?_
    refine wexit (inB_hit ?_)
    have hk0 : k_5 = p0_g.length := by omega
    rw [List.replicate_zero, List.append_nil] at hR
    replace hst := hst.recol 2 1 (by decide) (by decide)
    replace h0 := h0.recol 2 1 (by decide)
    replace hB := hB.recol 2 1 (by decide)
    replace hR := hR.recolSelf 1 (by decide)
    replace hMs := fun i b row h1 h2 => (hMs i b row h1 h2).recol 2 1 (by decide)
    replace hst := hst.recol 3 1 (by decide) (by decide)
    replace h0 := h0.recol 3 1 (by decide)
    replace hB := hB.recol 3 1 (by decide)
    replace hR := hR.recol 3 1 (by decide)
    replace hMs := fun i b row h1 h2 => (hMs i b row h1 h2).recolSelf 1
    have hN_7 : GO 85 86 1 (rcC 3 1 (rcC 2 1 col_l)) w_l (GObj.mk g_3 a_2 p0_g.length bs_4) p0_g := ⟨hB, hR, hbl.trans hk0, hnd, h0.sq, hMs⟩
    clear hB hR hMs
    refine wseq ?_
    refine wregion ?_
    refine lv (v := (.pointer (some ⟨o0.g, 0, none⟩))) rfl rfl (r_move rfl) ?_
    obtain ⟨r_8, hr_9, hm⟩ := bind_some hm
    refine lc rfl rfl (r_call1 Try.call15 rfl) (c_graph_Graph_Len (rcC 3 1 (rcC 2 1 col_l)) _ 999 (by decide) o0 p0_g h0 r_8 hr_9) ?_
    rintro _ w_10 ⟨rfl, hg_11⟩
    refine ⟨_, rfl, ?_⟩
    replace hg_11 : Grow (rcC 3 1 (rcC 2 1 col_l)) w_l (rcC 3 1 (rcC 2 1 col_l)) w_10 := .of_below hg_11
    replace h0 := h0.gr hg_11
    replace hN_7 := hN_7.gr hg_11
    replace hst := hst.grow hg_11
    obtain ⟨hb_12, hm⟩ := chk_some hm
    refine l_make (col := (rcC 3 1 (rcC 2 1 col_l))) (w := w_10) (r := Rep.bool) (n := (Int.toNat r_8)) (x0 := false) 5 rfl Try.underlying26 Try.t4 rfl rfl rfl rfl rfl (congrArg (Value.int _) (Int.toNat_of_nonneg hb_12.2.2).symm) (congrArg (Value.int _) (Int.toNat_of_nonneg hb_12.2.2).symm) hb_12.1 hb_12.2.1 (rd_bool false) ?_
    intro a_13 w_14 col_15 hg_16 h_17
    replace h0 := h0.gr hg_16
    replace hN_7 := hN_7.gr hg_16
    replace hst := hst.grow hg_16
    refine lv (v := (.slice a_13 ((List.replicate (Int.toNat r_8) (false : Bool)).length) (Int.toNat r_8))) rfl rfl (r_assign rfl) ?_
    refine lnil ?_
    refine wseq ?_
    refine wseq ?_
    refine wregion ?_
    refine lv (v := (.pointer (some ⟨o0.g, 0, none⟩))) rfl rfl (r_move rfl) ?_
    refine lv (v := (.pointer (some ⟨o0.g, 0, none⟩))) rfl rfl (r_nilCheck rfl) ?_
    refine lv (v := (.pointer ((some (⟨o0.g, 0, none⟩ : Addr)).map (·.add 0)))) rfl rfl (r_fieldAddr (sz := 1) (off := 0) Try.underlying85 rfl Try.sizeOf83 (by decide) rfl rfl ⟨_, _, rfl⟩) ?_
    refine lv (v := (.slice o0.a p0_g.length o0.cap)) rfl rfl (r_ld Try.isAgg83 rfl ((h0.box.atN).nth (q := 0) (v := (.slice o0.a p0_g.length o0.cap)) rfl)) ?_
    refine lv (v := (.int .i64 (p0_g.length : Int))) rfl rfl (r_len Try.underlying83 rfl) ?_
    refine lv (v := (.int .i64 0)) rfl rfl (r_move rfl) ?_
    refine lnil ?_
    refine wblock ?_
    refine wloop (fun n f w_19 => ∃ (col_20 : Col) (rest_21 : List (List Bool)) (v_23 : Int) (a_25 : Option Addr) (cap_26 : Nat) (out_24 : List Bool) (n_18 : Nat), n_18 = n ∧ m_graph_Graph_Chordal_L1 N p0_g n_18 rest_21 v_23 out_24 = some r ∧ St w0 (col0 col) col_20 w_19 ∧ GO 85 86 1 col_20 w_19 (GObj.mk g_3 a_2 p0_g.length bs_4) rest_21 ∧ Own Rep.bool 4 5 col_20 w_19 a_25 cap_26 out_24 ∧ f 3 = (.pointer (some ⟨(GObj.mk g_3 a_2 p0_g.length bs_4).g, 0, none⟩)) ∧ f 43 = (.int .i64 (p0_g.length : Int)) ∧ f 44 = (.int .i64 v_23) ∧ f 6 = (.slice a_25 out_24.length cap_26) ∧ f 1000000 = (enc [])) N ⟨col_15, p0_g, 0, a_13, (Int.toNat r_8), (List.replicate (Int.toNat r_8) (false : Bool)), N, rfl, hm, hst, hN_7, h_17, rfl, rfl, rfl, rfl, rfl⟩ ?_
    clear hm; intro n f w_19 hI
    obtain ⟨col_20, rest_21, v_23, a_25, cap_26, out_24, n_18, hn, hm, hst, h_22, h_27, hs3, hs43, hs44, hs6, hs1000000⟩ := hI
    subst hn
    refine .ld (d := 3) (v := (.pointer (some ⟨(GObj.mk g_3 a_2 p0_g.length bs_4).g, 0, none⟩))) hs3 ?_
    refine .ld (d := 43) (v := (.int .i64 (p0_g.length : Int))) hs43 ?_
    refine .ld (d := 44) (v := (.int .i64 v_23)) hs44 ?_
    refine .ld (d := 6) (v := (.slice a_25 out_24.length cap_26)) hs6 ?_
    refine .ld (d := 1000000) (v := (enc [])) hs1000000 ?_
    clear hs3 hs43 hs44 hs6 hs1000000
    cases n_18 with
    | zero => rw [m_graph_Graph_Chordal_L1.eq_1] at hm; cases hm
    | succ n_18 =>
      rw [m_graph_Graph_Chordal_L1.eq_2] at hm
      refine wseq ?_
      refine wregion ?_
      refine lv (v := (.bool (decide (v_23 < (p0_g.length : Int))))) rfl rfl (r_lss v_23 (p0_g.length : Int) rfl rfl) ?_
      refine lnil ?_
      refine wseq ?_
      refine wcond (decide (v_23 < (p0_g.length : Int))) rfl (fun hb => ?_) (fun hb => ?_)
      · rw [if_pos hb] at hm
        clear hb
        refine wskip ?_
        refine wseq ?_
        refine wblock ?_
        refine wseq ?_
        refine wregion ?_
        refine lv (v := (.int .i64 (-1))) rfl rfl (r_assign rfl) ?_
        refine lnil ?_
        refine wseq ?_
        refine wseq ?_
        refine wregion ?_
        refine lv (v := (.pointer (some ⟨(GObj.mk g_3 a_2 p0_g.length bs_4).g, 0, none⟩))) rfl rfl (r_move rfl) ?_
        refine lv (v := (.pointer (some ⟨(GObj.mk g_3 a_2 p0_g.length bs_4).g, 0, none⟩))) rfl rfl (r_nilCheck rfl) ?_
        refine lv (v := (.pointer ((some (⟨(GObj.mk g_3 a_2 p0_g.length bs_4).g, 0, none⟩ : Addr)).map (·.add 0)))) rfl rfl (r_fieldAddr (sz := 1) (off := 0) Try.underlying85 rfl Try.sizeOf83 (by decide) rfl rfl ⟨_, _, rfl⟩) ?_
        refine lv (v := (.slice (GObj.mk g_3 a_2 p0_g.length bs_4).a rest_21.length (GObj.mk g_3 a_2 p0_g.length bs_4).cap)) rfl rfl (r_ld Try.isAgg83 rfl ((h_22.box.atN).nth (q := 0) (v := (.slice (GObj.mk g_3 a_2 p0_g.length bs_4).a rest_21.length (GObj.mk g_3 a_2 p0_g.length bs_4).cap)) rfl)) ?_
        refine lv (v := (.int .i64 (rest_21.length : Int))) rfl rfl (r_len Try.underlying83 rfl) ?_
        refine lv (v := (.int .i64 0)) rfl rfl (r_move rfl) ?_
        refine lnil ?_
        refine wblock ?_
        refine wloop (fun n f w_29 => ∃ (col_30 : Col) (v_31 : Int) (next_32 : Int) (n_28 : Nat), n_28 = n ∧ m_graph_Graph_Chordal_L2 N rest_21 v_23 out_24 (m_graph_Graph_Chordal_L1 N p0_g n_18) n_28 v_31 next_32 = some r ∧ St w0 (col0 col) col_30 w_29 ∧ GO 85 86 1 col_30 w_29 (GObj.mk g_3 a_2 p0_g.length bs_4) rest_21 ∧ Own Rep.bool 4 5 col_30 w_29 a_25 cap_26 out_24 ∧ f 3 = (.pointer (some ⟨(GObj.mk g_3 a_2 p0_g.length bs_4).g, 0, none⟩)) ∧ f 43 = (.int .i64 (p0_g.length : Int)) ∧ f 44 = (.int .i64 v_23) ∧ f 50 = (.int .i64 (rest_21.length : Int)) ∧ f 51 = (.int .i64 v_31) ∧ f 6 = (.slice a_25 out_24.length cap_26) ∧ f 7 = (.int .i64 next_32) ∧ f 1000000 = (enc [])) N ⟨col_20, 0, (-1), N, rfl, hm, hst, h_22, h_27, rfl, rfl, rfl, rfl, rfl, rfl, rfl, rfl⟩ ?_
        clear hm; intro n f w_29 hI
        obtain ⟨col_30, v_31, next_32, n_28, hn, hm, hst, h_22, h_27, hs3, hs43, hs44, hs50, hs51, hs6, hs7, hs1000000⟩ := hI
        subst hn
        refine .ld (d := 3) (v := (.pointer (some ⟨(GObj.mk g_3 a_2 p0_g.length bs_4).g, 0, none⟩))) hs3 ?_
        refine .ld (d := 43) (v := (.int .i64 (p0_g.length : Int))) hs43 ?_
        refine .ld (d := 44) (v := (.int .i64 v_23)) hs44 ?_
        refine .ld (d := 50) (v := (.int .i64 (rest_21.length : Int))) hs50 ?_
        refine .ld (d := 51) (v := (.int .i64 v_31)) hs51 ?_
        refine .ld (d := 6) (v := (.slice a_25 out_24.length cap_26)) hs6 ?_
        refine .ld (d := 7) (v := (.int .i64 next_32)) hs7 ?_
        refine .ld (d := 1000000) (v := (enc [])) hs1000000 ?_
        clear hs3 hs43 hs44 hs50 hs51 hs6 hs7 hs1000000
        cases n_28 with
        | zero => rw [m_graph_Graph_Chordal_L2.eq_1] at hm; cases hm
        | succ n_28 =>
          rw [m_graph_Graph_Chordal_L2.eq_2] at hm
          refine wseq ?_
          refine wregion ?_
          refine lv (v := (.bool (decide (v_31 < (rest_21.length : Int))))) rfl rfl (r_lss v_31 (rest_21.length : Int) rfl rfl) ?_
          refine lnil ?_
          refine wseq ?_
          refine wcond (decide (v_31 < (rest_21.length : Int))) rfl (fun hb => ?_) (fun hb => ?_)
          · rw [if_pos hb] at hm
            clear hb
            refine wskip ?_
            refine wseq ?_
            refine Wp.cut (fun f w_33 => ∃ (col_34 : Col) (next_35 : Int), m_graph_Graph_Chordal_J1 v_31 (m_graph_Graph_Chordal_L2 N rest_21 v_23 out_24 (m_graph_Graph_Chordal_L1 N p0_g n_18) n_28) next_35 = some r ∧ St w0 (col0 col) col_34 w_33 ∧ GO 85 86 1 col_34 w_33 (GObj.mk g_3 a_2 p0_g.length bs_4) rest_21 ∧ Own Rep.bool 4 5 col_34 w_33 a_25 cap_26 out_24 ∧ f 3 = (.pointer (some ⟨(GObj.mk g_3 a_2 p0_g.length bs_4).g, 0, none⟩)) ∧ f 43 = (.int .i64 (p0_g.length : Int)) ∧ f 44 = (.int .i64 v_23) ∧ f 50 = (.int .i64 (rest_21.length : Int)) ∧ f 51 = (.int .i64 v_31) ∧ f 6 = (.slice a_25 out_24.length cap_26) ∧ f 7 = (.int .i64 next_35) ∧ f 1000000 = (enc [])) ?_ ?_
            · intro f w_33 hJ
              obtain ⟨col_34, next_35, hm, hst, h_22, h_27, hs3, hs43, hs44, hs50, hs51, hs6, hs7, hs1000000⟩ := hJ
              rw [m_graph_Graph_Chordal_J1.eq_1] at hm
              refine .ld (d := 3) (v := (.pointer (some ⟨(GObj.mk g_3 a_2 p0_g.length bs_4).g, 0, none⟩))) hs3 ?_
              refine .ld (d := 43) (v := (.int .i64 (p0_g.length : Int))) hs43 ?_
              refine .ld (d := 44) (v := (.int .i64 v_23)) hs44 ?_
              refine .ld (d := 50) (v := (.int .i64 (rest_21.length : Int))) hs50 ?_
              refine .ld (d := 51) (v := (.int .i64 v_31)) hs51 ?_
              refine .ld (d := 6) (v := (.slice a_25 out_24.length cap_26)) hs6 ?_
              refine .ld (d := 7) (v := (.int .i64 next_35)) hs7 ?_
              refine .ld (d := 1000000) (v := (enc [])) hs1000000 ?_
              clear hs3 hs43 hs44 hs50 hs51 hs6 hs7 hs1000000
              refine wregion ?_
              refine lv (v := (.int .i64 (IntKind.i64.wrap (v_31 + 1)))) rfl rfl (r_add v_31 1 rfl rfl) ?_
              refine lv (v := (.int .i64 (IntKind.i64.wrap (v_31 + 1)))) rfl rfl (r_move rfl) ?_
              refine lnil ?_
              exact ⟨n_28, by omega, ⟨col_34, (IntKind.i64.wrap (v_31 + 1)), next_35, n_28, rfl, hm, hst, h_22, h_27, rfl, rfl, rfl, rfl, rfl, rfl, rfl, rfl⟩⟩
            · refine wblock ?_
              refine wseq ?_
              refine wregion ?_
              refine lv (v := (.int .i64 v_31)) rfl rfl (r_move rfl) ?_
              refine lv (v := (.int .i64 v_31)) rfl rfl (r_assign rfl) ?_
              refine lnil ?_
              refine wseq ?_
              refine Wp.cut (fun f w_43 => ∃ (col_44 : Col) (v_45 : Bool), m_graph_Graph_Chordal_J2 N rest_21 v_23 out_24 (m_graph_Graph_Chordal_L1 N p0_g n_18) v_31 next_32 (m_graph_Graph_Chordal_L2 N rest_21 v_23 out_24 (m_graph_Graph_Chordal_L1 N p0_g n_18) n_28) v_45 = some r ∧ St w0 (col0 col) col_44 w_43 ∧ GO 85 86 1 col_44 w_43 (GObj.mk g_3 a_2 p0_g.length bs_4) rest_21 ∧ Own Rep.bool 4 5 col_44 w_43 a_25 cap_26 out_24 ∧ f 3 = (.pointer (some ⟨(GObj.mk g_3 a_2 p0_g.length bs_4).g, 0, none⟩)) ∧ f 43 = (.int .i64 (p0_g.length : Int)) ∧ f 44 = (.int .i64 v_23) ∧ f 50 = (.int .i64 (rest_21.length : Int)) ∧ f 51 = (.int .i64 v_31) ∧ f 6 = (.slice a_25 out_24.length cap_26) ∧ f 64 = (.bool v_45) ∧ f 7 = (.int .i64 next_32) ∧ f 8 = (.int .i64 v_31) ∧ f 1000000 = (enc [])) ?_ ?_
              · intro f w_43 hJ
                obtain ⟨col_44, v_45, hm, hst, h_22, h_27, hs3, hs43, hs44, hs50, hs51, hs6, hs64, hs7, hs8, hs1000000⟩ := hJ
                rw [m_graph_Graph_Chordal_J2.eq_1] at hm
                refine .ld (d := 3) (v := (.pointer (some ⟨(GObj.mk g_3 a_2 p0_g.length bs_4).g, 0, none⟩))) hs3 ?_
                refine .ld (d := 43) (v := (.int .i64 (p0_g.length : Int))) hs43 ?_
                refine .ld (d := 44) (v := (.int .i64 v_23)) hs44 ?_
                refine .ld (d := 50) (v := (.int .i64 (rest_21.length : Int))) hs50 ?_
                refine .ld (d := 51) (v := (.int .i64 v_31)) hs51 ?_
                refine .ld (d := 6) (v := (.slice a_25 out_24.length cap_26)) hs6 ?_
                refine .ld (d := 64) (v := (.bool v_45)) hs64 ?_
                refine .ld (d := 7) (v := (.int .i64 next_32)) hs7 ?_
                refine .ld (d := 8) (v := (.int .i64 v_31)) hs8 ?_
                refine .ld (d := 1000000) (v := (enc [])) hs1000000 ?_
                clear hs3 hs43 hs44 hs50 hs51 hs6 hs64 hs7 hs8 hs1000000
                refine wcond (v_45) rfl (fun hb => ?_) (fun hb => ?_)
                · rw [if_pos hb] at hm
                  clear hb
                  refine wseq ?_
                  refine wregion ?_
                  refine lv (v := (.int .i64 v_31)) rfl rfl (r_move rfl) ?_
                  refine lv (v := (.int .i64 v_31)) rfl rfl (r_assign rfl) ?_
                  refine lnil ?_
                  refine wexit (inB_miss rfl (inB_hit ?_))
                  refine wseq ?_
                  refine wseq ?_
                  refine wregion ?_
                  refine lv (v := (.int .i64 v_31)) rfl rfl (r_move rfl) ?_
                  refine lv (v := (.bool (decide (v_31 < 0)))) rfl rfl (r_lss v_31 0 rfl rfl) ?_
                  refine lnil ?_
                  refine wcond (decide (v_31 < 0)) rfl (fun hb => ?_) (fun hb => ?_)
                  · rw [if_pos hb] at hm
                    clear hb
                    refine wseq ?_
                    refine wregion ?_
                    refine lv (v := (.bool false)) rfl rfl (r_assign rfl) ?_
                    refine lnil ?_
                    refine wret ?_
                    cases hm
                    exact ⟨rfl, rfl, hst.below⟩
                  · rw [if_neg (by rw [hb]; decide)] at hm
                    clear hb
                    refine wskip ?_
                    refine wseq ?_
                    refine wregion ?_
                    refine lv (v := (.slice a_25 out_24.length cap_26)) rfl rfl (r_move rfl) ?_
                    refine lv (v := (.int .i64 v_31)) rfl rfl (r_move rfl) ?_
                    obtain ⟨e_46, hj_47, hm⟩ := bind_some hm
                    refine lv (v := (sptr a_25 (Int.toNat v_31 * 1))) rfl rfl (r_idx Try.underlying26 Try.sizeOf4 rfl rfl (at?_some hj_47).1 (at?_some hj_47).2.1 (h_27.addr hj_47)) ?_
                    obtain ⟨xs_53, hz_52, hm⟩ := bind_some hm
                    have hz_52 : xs_53 = out_24.set (Int.toNat v_31) true := (Option.some.inj hz_52).symm
                    refine l_store (x1 := true) (v := (.bool true)) h_27 hj_47 rfl Try.sizeOf4 (rd_bool true) rfl rfl (by decide) ?_
                    intro w_48 hk_49 hs_50 h_51
                    rw [← hz_52] at h_51
                    replace h_22 := h_22.kp hk_49 (by decide) (by decide)
                    replace hst := hst.kp hk_49 hs_50 (by decide) (by decide)
                    refine .ld (d := 6) (v := (.slice a_25 xs_53.length cap_26)) (congrArg (fun n => Value.slice a_25 n cap_26) (show out_24.length = xs_53.length by rw [hz_52, List.length_set])) ?_
                    clear h_27
                    refine lnil ?_
                    refine wregion ?_
                    refine lv (v := (.pointer (some ⟨(GObj.mk g_3 a_2 p0_g.length bs_4).g, 0, none⟩))) rfl rfl (r_move rfl) ?_
                    refine lv (v := (.int .i64 v_31)) rfl rfl (r_move rfl) ?_
                    obtain ⟨r_54, hr_55, hm⟩ := bind_some hm
                    refine lc rfl rfl (r_call2 Try.call17 rfl rfl) (c_graph_Graph_Remove N 6 7 col_44 _ 1 rfl (GObj.mk g_3 a_2 p0_g.length bs_4) rest_21 v_31 h_22 r_54 hr_55) ?_
                    rintro _ w_63 ⟨col_65, ra_56, rc_57, ra_59, rc_60, rfl, hg_64, rh_58, rh_61, oh_62⟩
                    refine ⟨_, rfl, ?_⟩
                    replace h_51 := h_51.kpp hg_64 rfl rfl
                    replace hst := hst.kpp hg_64 rfl rfl
                    clear h_22
                    refine lnil ?_
                    refine wregion ?_
                    refine lv (v := (.int .i64 (IntKind.i64.wrap (v_23 + 1)))) rfl rfl (r_add v_23 1 rfl rfl) ?_
                    refine lv (v := (.int .i64 (IntKind.i64.wrap (v_23 + 1)))) rfl rfl (r_move rfl) ?_
                    refine lnil ?_
                    exact ⟨n_18, by omega, ⟨col_65, r_54.2.2, (IntKind.i64.wrap (v_23 + 1)), a_25, cap_26, xs_53, n_18, rfl, hm, hst, oh_62, h_51, rfl, rfl, rfl, rfl, rfl⟩⟩
                · rw [if_neg (by rw [hb]; decide)] at hm
                  clear hb
                  refine wskip ?_
                  exact ⟨col_44, next_32, hm, hst, h_22, h_27, rfl, rfl, rfl, rfl, rfl, rfl, rfl, rfl⟩
              · refine wregion ?_
                refine lv (v := (.slice a_25 out_24.length cap_26)) rfl rfl (r_move rfl) ?_
                refine lv (v := (.int .i64 v_31)) rfl rfl (r_move rfl) ?_
                obtain ⟨e_66, hj_67, hm⟩ := bind_some hm
                refine lv (v := (sptr a_25 (Int.toNat v_31 * 1))) rfl rfl (r_idx Try.underlying26 Try.sizeOf4 rfl rfl (at?_some hj_67).1 (at?_some hj_67).2.1 (h_27.addr hj_67)) ?_
                refine lv (v := (.bool e_66)) rfl rfl (r_ld Try.isAgg4 rfl (h_27.atBool hj_67)) ?_
                refine lv (v := (.bool (!e_66))) rfl rfl (r_not e_66 rfl) ?_
                refine lv (v := (.bool (!e_66))) rfl rfl (r_move rfl) ?_
                by_cases hg_68 : (!e_66) = true
                · rw [if_pos hg_68] at hm
                  refine lg (b := !e_66) 59 rfl rfl rfl (by rw [hg_68]; rfl) ?_
                  refine lv (v := (.pointer (some ⟨(GObj.mk g_3 a_2 p0_g.length bs_4).g, 0, none⟩))) rfl rfl (r_move rfl) ?_
                  refine lg (b := !e_66) 59 rfl rfl rfl (by rw [hg_68]; rfl) ?_
                  refine lv (v := (.int .i64 v_31)) rfl rfl (r_move rfl) ?_
                  refine lg (b := !e_66) 59 rfl rfl rfl (by rw [hg_68]; rfl) ?_
                  obtain ⟨r_69, hr_70, hm⟩ := bind_some hm
                  refine lc rfl rfl (r_call2 Try.call16 rfl rfl) (c_graph_Graph_Fill col_30 _ 1 (by decide) (GObj.mk g_3 a_2 p0_g.length bs_4) rest_21 v_31 h_22 r_69 hr_70) ?_
                  rintro _ w_71 ⟨rfl, hg_72⟩
                  refine ⟨_, rfl, ?_⟩
                  replace hg_72 : Grow col_30 w_29 col_30 w_71 := .of_below hg_72
                  replace h_22 := h_22.gr hg_72
                  replace h_27 := h_27.gr hg_72
                  replace hst := hst.grow hg_72
                  refine lg (b := !e_66) 59 rfl rfl rfl (by rw [hg_68]; rfl) ?_
                  refine lv (v := (.bool (decide (r_69 = 0)))) rfl rfl (r_eql r_69 0 rfl rfl) ?_
                  refine lv (v := (.bool (decide (r_69 = 0)))) rfl rfl (r_pickT (congrArg Value.bool hg_68) rfl) ?_
                  refine lnil ?_
                  exact ⟨col_30, (decide (r_69 = 0)), hm, hst, h_22, h_27, rfl, rfl, rfl, rfl, rfl, rfl, rfl, rfl, rfl, rfl⟩
                · rw [if_neg hg_68] at hm
                  replace hg_68 := Bool.eq_false_iff.2 hg_68
                  refine lp (b := !e_66) 59 rfl rfl rfl rfl (by rw [hg_68]; rfl) ?_
                  refine lp (b := !e_66) 59 rfl rfl rfl rfl (by rw [hg_68]; rfl) ?_
                  refine lp (b := !e_66) 59 rfl rfl rfl rfl (by rw [hg_68]; rfl) ?_
                  refine lp (b := !e_66) 59 rfl rfl rfl rfl (by rw [hg_68]; rfl) ?_
                  refine lv (v := (.bool false)) rfl rfl (r_pickF (congrArg Value.bool hg_68) rfl) ?_
                  refine lnil ?_
                  exact ⟨col_30, false, hm, hst, h_22, h_27, rfl, rfl, rfl, rfl, rfl, rfl, rfl, rfl, rfl, rfl⟩
          · rw [if_neg (by rw [hb]; decide)] at hm
            clear hb
            refine wexit (inB_hit ?_)
            refine wseq ?_
            refine wseq ?_
            refine wregion ?_
            refine lv (v := (.int .i64 next_32)) rfl rfl (r_move rfl) ?_
            refine lv (v := (.bool (decide (next_32 < 0)))) rfl rfl (r_lss next_32 0 rfl rfl) ?_
            refine lnil ?_
            refine wcond (decide (next_32 < 0)) rfl (fun hb => ?_) (fun hb => ?_)
            · rw [if_pos hb] at hm
              clear hb
              refine wseq ?_
              refine wregion ?_
              refine lv (v := (.bool false)) rfl rfl (r_assign rfl) ?_
              refine lnil ?_
              refine wret ?_
              cases hm
              exact ⟨rfl, rfl, hst.below⟩
            · rw [if_neg (by rw [hb]; decide)] at hm
              clear hb
              refine wskip ?_
              refine wseq ?_
              refine wregion ?_
              refine lv (v := (.slice a_25 out_24.length cap_26)) rfl rfl (r_move rfl) ?_
              refine lv (v := (.int .i64 next_32)) rfl rfl (r_move rfl) ?_
              obtain ⟨e_73, hj_74, hm⟩ := bind_some hm
              refine lv (v := (sptr a_25 (Int.toNat next_32 * 1))) rfl rfl (r_idx Try.underlying26 Try.sizeOf4 rfl rfl (at?_some hj_74).1 (at?_some hj_74).2.1 (h_27.addr hj_74)) ?_
              obtain ⟨xs_80, hz_79, hm⟩ := bind_some hm
              have hz_79 : xs_80 = out_24.set (Int.toNat next_32) true := (Option.some.inj hz_79).symm
              refine l_store (x1 := true) (v := (.bool true)) h_27 hj_74 rfl Try.sizeOf4 (rd_bool true) rfl rfl (by decide) ?_
              intro w_75 hk_76 hs_77 h_78
              rw [← hz_79] at h_78
              replace h_22 := h_22.kp hk_76 (by decide) (by decide)
              replace hst := hst.kp hk_76 hs_77 (by decide) (by decide)
              refine .ld (d := 6) (v := (.slice a_25 xs_80.length cap_26)) (congrArg (fun n => Value.slice a_25 n cap_26) (show out_24.length = xs_80.length by rw [hz_79, List.length_set])) ?_
              clear h_27
              refine lnil ?_
              refine wregion ?_
              refine lv (v := (.pointer (some ⟨(GObj.mk g_3 a_2 p0_g.length bs_4).g, 0, none⟩))) rfl rfl (r_move rfl) ?_
              refine lv (v := (.int .i64 next_32)) rfl rfl (r_move rfl) ?_
              obtain ⟨r_81, hr_82, hm⟩ := bind_some hm
              refine lc rfl rfl (r_call2 Try.call17 rfl rfl) (c_graph_Graph_Remove N 8 9 col_30 _ 1 rfl (GObj.mk g_3 a_2 p0_g.length bs_4) rest_21 next_32 h_22 r_81 hr_82) ?_
              rintro _ w_90 ⟨col_92, ra_83, rc_84, ra_86, rc_87, rfl, hg_91, rh_85, rh_88, oh_89⟩
              refine ⟨_, rfl, ?_⟩
              replace h_78 := h_78.kpp hg_91 rfl rfl
              replace hst := hst.kpp hg_91 rfl rfl
              clear h_22
              refine lnil ?_
              refine wregion ?_
              refine lv (v := (.int .i64 (IntKind.i64.wrap (v_23 + 1)))) rfl rfl (r_add v_23 1 rfl rfl) ?_
              refine lv (v := (.int .i64 (IntKind.i64.wrap (v_23 + 1)))) rfl rfl (r_move rfl) ?_
              refine lnil ?_
              exact ⟨n_18, by omega, ⟨col_92, r_81.2.2, (IntKind.i64.wrap (v_23 + 1)), a_25, cap_26, xs_80, n_18, rfl, hm, hst, oh_89, h_78, rfl, rfl, rfl, rfl, rfl⟩⟩
      · rw [if_neg (by rw [hb]; decide)] at hm
        clear hb
        refine wexit (inB_hit ?_)
        refine wseq ?_
        refine wregion ?_
        refine lv (v := (.bool true)) rfl rfl (r_assign rfl) ?_
        refine lnil ?_
        refine wret ?_
        cases hm
        exact ⟨rfl, rfl, hst.below⟩
  | succ n =>
    have hkb : decide ((k_5 : Int) < (p0_g.length : Int)) = true := decide_eq_true (by omega)
    refine wcondT (congrArg Value.bool hkb) ?_
    refine wskip ?_
    refine wseq ?_
    refine wblock ?_
    refine wseq ?_
    obtain ⟨row, hrow⟩ : ∃ row, p0_g[k_5]? = some row := ⟨_, List.getElem?_eq_getElem (by omega)⟩
    have hat_93 : at? p0_g (k_5 : Int) = some row := by rw [at?_nat]; exact hrow
    obtain ⟨b0, hb0, hM0, _⟩ := h0.blk hat_93
    refine wregion ?_
    refine lv (v := (.int .i64 (k_5 : Int))) rfl rfl (r_move rfl) ?_
    refine lv (v := (sptr o0.a (Int.toNat (k_5 : Int) * 1))) rfl rfl (r_idx Try.underlying83 Try.sizeOf86 rfl rfl (at?_some hat_93).1 (at?_some hat_93).2.1 (h0.addr hb0)) ?_
    refine lv (v := (.map (some b0))) rfl rfl (r_ld Try.isAgg86 rfl (h0.at1 hb0)) ?_
    refine lv (v := (.int .i64 (k_5 : Int))) rfl rfl (r_assign rfl) ?_
    refine lv (v := (.map (some b0))) rfl rfl (r_assign rfl) ?_
    refine lnil ?_
    refine wmix (col := col_l) [(0, 1), (1, 1), (2, 1), (3, 0), (4, 1), (5, 1), (6, 3), (7, 1), (8, 2)] (by kernel_rfl) (by kernel_rfl) ?_
    refine xu (v := (.pointer (some ⟨g_3, 0, none⟩))) rfl rfl (fun _ => r_move rfl) ?_
    refine xu (v := (.pointer (some ⟨g_3, 0, none⟩))) rfl rfl (fun _ => r_nilCheck rfl) ?_
    refine xu (v := (.pointer ((some (⟨g_3, 0, none⟩ : Addr)).map (·.add 0)))) rfl rfl (fun _ => r_fieldAddr (sz := 1) (off := 0) Try.underlying85 rfl Try.sizeOf83 (by decide) rfl rfl ⟨_, _, rfl⟩) ?_
    refine xv (v := (.slice a_2 p0_g.length p0_g.length)) rfl rfl (fun _ hC => r_ld Try.isAgg83 rfl ((hB.gr (Grow.of_below (col := col_l) hC.below)).atN.nth (q := 0) (v := (.slice a_2 p0_g.length p0_g.length)) rfl)) ?_
    refine xu (v := (.int .i64 (k_5 : Int))) rfl rfl (fun _ => r_move rfl) ?_
    refine xu (v := (.map (some b0))) rfl rfl (fun _ => r_move rfl) ?_
    refine xe rfl rfl ?_
    intro w_m hC0
    have hC : Grow col_l w_l col_l w_m := .of_below hC0.below
    replace hst := hst.grow hC
    replace h0 := h0.gr hC
    replace hB := hB.gr hC
    replace hR := hR.gr hC
    replace hMs := fun i b row h1 h2 => (hMs i b row h1 h2).gr hC
    replace hM0 := hM0.gr hC
    refine lc rfl rfl (r_call1 Try.call52 rfl) (c_clone 4 999 b0 row col_l _ hM0) ?_
    rintro _ w_n ⟨col_n, b1, rfl, hgn, hM⟩
    refine ⟨_, rfl, ?_⟩
    replace hst := hst.grow hgn
    replace h0 := h0.gr hgn
    replace hB := hB.gr hgn
    replace hR := hR.gr hgn
    replace hMs := fun i b row h1 h2 => (hMs i b row h1 h2).gr hgn
    clear hM0
    refine lnil ⟨fun w' => Grow col_n w_n col_n w', Grow.refl _ _, fun _ _ h => cls hC0 hgn h, ?_⟩
    have hat2 : at? (bs_4.map some ++ List.replicate (n + 1) none) (k_5 : Int) = some (none : Option Nat) := by
      rw [at?_nat, List.getElem?_append_right (by simp [hbl]), List.length_map, hbl, Nat.sub_self, List.replicate_succ]; rfl
    refine xu (v := (sptr a_2 (Int.toNat (k_5 : Int) * 1))) rfl rfl (fun _ => r_idx Try.underlying83 Try.sizeOf86 rfl rfl (by omega) (by omega) (hR.addr hat2)) ?_
    refine xe rfl rfl ?_
    intro w_o hC1
    have hC2 : Grow col_n w_n col_n w_o := .of_below hC1.below
    replace hst := hst.grow hC2
    replace h0 := h0.gr hC2
    replace hB := hB.gr hC2
    replace hR := hR.gr hC2
    replace hMs := fun i b row h1 h2 => (hMs i b row h1 h2).gr hC2
    replace hM := hM.gr hC2
    refine l_store (x1 := some b1) (v := .map (some b1)) hR hat2 rfl Try.sizeOf86 ⟨rfl, rfl⟩ rfl rfl (by decide) ?_
    intro w_p hkp hsp hR2
    replace hst := hst.kp hkp hsp (by decide) (by decide)
    replace h0 := h0.kp hkp (by decide) (by decide)
    replace hB := hB.kp hkp (by decide)
    replace hM := hM.kp hkp (by decide) (by decide)
    replace hMs := fun i b row h1 h2 => (hMs i b row h1 h2).kp hkp (by decide) (by decide)
    clear hR
    refine lnil ⟨fun w' => Grow col_n w_p col_n w', Grow.refl _ _, fun h => absurd h (by decide), ?_⟩
    refine xnil ?_
    intro w_q hC3
    replace hC3 : Grow col_n w_p col_n w_q := .of_below hC3.below
    replace hst := hst.grow hC3
    replace h0 := h0.gr hC3
    replace hB := hB.gr hC3
    replace hR2 := hR2.gr hC3
    replace hM := hM.gr hC3
    replace hMs := fun i b row h1 h2 => (hMs i b row h1 h2).gr hC3
    refine wregion ?_
    refine lv (v := (.int .i64 (IntKind.i64.wrap ((k_5 : Int) + 1)))) rfl rfl (r_add (k_5 : Int) 1 rfl rfl) ?_
    refine lv (v := (.int .i64 (IntKind.i64.wrap ((k_5 : Int) + 1)))) rfl rfl (r_move rfl) ?_
    refine lnil ?_
    have hnb : b1 ∉ bs_4 := fun hx => by
      obtain ⟨i, hi⟩ := List.getElem?_of_mem hx
      have hil := (List.getElem?_eq_some_iff.1 hi).1
      have h1 := (hMs i b1 _ hi (List.getElem?_eq_getElem (by omega))).1
      rw [hM.1] at h1; cases h1
    replace hst := hst.recol 4 3 (by decide) (by decide)
    replace h0 := h0.recol 4 3 (by decide)
    replace hB := hB.recol 4 3 (by decide)
    replace hR2 := hR2.recol 4 3 (by decide)
    replace hM := hM.recolSelf 3
    replace hMs := fun i b row h1 h2 => (hMs i b row h1 h2).recol 4 3 (by decide)
    have hset : (bs_4.map some ++ List.replicate (n + 1) none).set (Int.toNat (k_5 : Int)) (some b1) = (bs_4 ++ [b1]).map some ++ List.replicate n none := by
      rw [Int.toNat_natCast, List.set_append_right _ _ (by simp [hbl]), List.length_map, hbl, Nat.sub_self, List.replicate_succ]
      simp
    rw [hset] at hR2
    refine ⟨n, by omega, ⟨_, k_5 + 1, bs_4 ++ [b1], by omega, by simp [hbl], ?_, hst, h0, hB, hR2, ?_, ?_, rfl, rfl, rfl, rfl, rfl⟩⟩
    · rw [List.nodup_append]
      exact ⟨hnd, by simp, fun x hx y hy e => by simp only [List.mem_singleton] at hy; subst hy; subst e; exact hnb hx⟩
    · intro i b row1 h1 h2
      by_cases hi : i < bs_4.length
      · rw [List.getElem?_append_left hi] at h1; exact hMs i b row1 h1 h2
      · rw [List.getElem?_append_right (by omega)] at h1
        have hi2 : i = k_5 := by
          have := (List.getElem?_eq_some_iff.1 h1).1
          simp only [List.length_cons, List.length_nil] at this; omega
        subst hi2
        rw [hbl, Nat.sub_self] at h1
        cases h1
        rw [hrow] at h2; cases h2
        exact hM
    · exact congrArg (Value.int .i64) (wrap_succ (by simp only [maxLen]; omega))







structure Tab (n : Nat) (t : List (List Bool)) : Prop where
  len : t.length = n
  sq : ∀ r ∈ t, r.length = n
def row (t : List (List Bool)) (a : Int) : List Bool := (at? t a).getD []
/-- Is there an edge? -/
def ge (t : List (List Bool)) (a b : Int) : Bool := gat (row t a) b

section
variable {n : Nat} {t : List (List Bool)} {a b x y : Int} {r : List Bool}
theorem at?_none {α : Type} {xs : List α} {j : Int} (h : ¬ (0 ≤ j ∧ j < (xs.length : Int))) : at? xs j = none := by
  unfold at?; split
  · rename_i h0; exact List.getElem?_eq_none (by omega)
  · rfl
theorem Tab.at (h : Tab n t) (ha : 0 ≤ a ∧ a < (n : Int)) : at? t a = some (row t a) := by
  have : a.toNat < t.length := by rw [h.len]; omega
  unfold row at?
  rw [if_pos ha.1, List.getElem?_eq_getElem this]; rfl
theorem Tab.rowlen (h : Tab n t) (ha : 0 ≤ a ∧ a < (n : Int)) : (row t a).length = n := h.sq _ (List.mem_of_getElem? (at?_some (h.at ha)).2.2)
theorem row_out (h : Tab n t) (ha : ¬ (0 ≤ a ∧ a < (n : Int))) : row t a = [] := by
  unfold row; rw [at?_none (by rw [h.len]; exact ha)]; rfl
theorem gat_nil : gat [] b = false := by unfold gat; split <;> rfl
theorem Tab.range (h : Tab n t) (he : ge t a b = true) : (0 ≤ a ∧ a < (n : Int)) ∧ 0 ≤ b ∧ b < (n : Int) := by
  by_cases ha : 0 ≤ a ∧ a < (n : Int)
  · refine ⟨ha, ?_⟩
    have := gat_range (row := row t a) he
    rw [h.rowlen ha] at this; omega
  · unfold ge at he; rw [row_out h ha, gat_nil] at he; cases he
theorem Tab.set (h : Tab n t) (i : Nat) (hr : r.length = n) : Tab n (t.set i r) :=
  ⟨by rw [List.length_set]; exact h.len, fun s hs => by rcases List.mem_or_eq_of_mem_set hs with h1 | rfl; exact h.sq _ h1; exact hr⟩
theorem row_set (h : Tab n t) (ha : 0 ≤ a ∧ a < (n : Int)) : row (t.set a.toNat r) x = if x = a then r else row t x := by
  unfold row at?
  by_cases hx : 0 ≤ x
  · rw [if_pos hx, if_pos hx]
    by_cases he : x = a
    · subst he
      rw [if_pos rfl, List.getElem?_set_self (by rw [h.len]; omega)]; rfl
    · rw [if_neg he, List.getElem?_set_ne (by omega)]
  · rw [if_neg hx, if_neg hx, if_neg (by omega)]
theorem ge_set (h : Tab n t) (ha : 0 ≤ a ∧ a < (n : Int)) : ge (t.set a.toNat r) x y = if x = a then gat r y else ge t x y := by
  unfold ge; rw [row_set h ha]; split <;> rfl

/-! ### Join -/
def jn (n : Nat) (t : List (List Bool)) (a b : Int) : Bool := decide ((0 ≤ a ∧ a < (n : Int)) ∧ (0 ≤ b ∧ b < (n : Int)) ∧ a ≠ b) && !ge t a b
def setE (t : List (List Bool)) (a b : Int) : List (List Bool) := (t.set a.toNat (rset (row t a) b true)).set b.toNat (rset (row t b) a true)
def joinT (n : Nat) (t : List (List Bool)) (a b : Int) : List (List Bool) := if jn n t a b = true then setE t a b else t
theorem in_eq (h : Tab n t) : m_graph_Graph_in t a = some (decide (0 ≤ a ∧ a < (n : Int))) := by
  unfold m_graph_Graph_in m_graph_Graph_in_J1
  rw [h.len]
  by_cases h0 : 0 ≤ a
  · rw [if_pos (decide_eq_true h0)]; simp [h0]
  · rw [if_neg (by simpa using h0)]; simp [h0]
theorem Join_eq (h : Tab n t) : m_graph_Graph_Join t a b = some (jn n t a b, joinT n t a b) := by
  unfold m_graph_Graph_Join
  rw [in_eq h, in_eq h]
  simp only [Option.bind_some]
  by_cases ha : 0 ≤ a ∧ a < (n : Int)
  · rw [decide_eq_true ha, if_neg (by decide)]
    by_cases hb : 0 ≤ b ∧ b < (n : Int)
    · rw [decide_eq_true hb, if_neg (by decide)]
      by_cases hab : a = b
      · rw [if_pos (decide_eq_true hab)]
        unfold m_graph_Graph_Join_J1 joinT jn
        rw [if_pos rfl]; simp [hab]
      · rw [if_neg (by simpa using hab), h.at ha]
        simp only [Option.bind_some]
        unfold m_graph_Graph_Join_J1 joinT jn
        rw [decide_eq_true (⟨ha, hb, hab⟩ : (0 ≤ a ∧ a < (n : Int)) ∧ (0 ≤ b ∧ b < (n : Int)) ∧ a ≠ b), Bool.true_and]
        cases hg : gat (row t a) b
        · have hg' : ge t a b = false := hg
          rw [if_neg (by decide), h.at ha, h.at hb, hg']
          simp only [Option.bind_some]
          have h1 : Tab n (t.set a.toNat (rset (row t a) b true)) := h.set _ (by rw [rset_length, h.rowlen ha])
          rw [chk_pos (by rw [h.rowlen ha]; omega), h1.at hb]
          simp only [Option.bind_some]
          rw [row_set h ha, if_neg (Ne.symm hab), chk_pos (by rw [h.rowlen hb]; omega)]
          rfl
        · have hg' : ge t a b = true := hg
          rw [if_pos rfl, hg']; rfl
    · rw [decide_eq_false hb, if_pos (by decide)]
      unfold m_graph_Graph_Join_J1 joinT jn
      rw [if_pos rfl]; simp [hb]
  · rw [decide_eq_false ha, if_pos (by decide)]
    unfold m_graph_Graph_Join_J1 joinT jn
    rw [if_pos rfl]; simp [ha]
theorem Tab.setE (h : Tab n t) (ha : 0 ≤ a ∧ a < (n : Int)) (hb : 0 ≤ b ∧ b < (n : Int)) : Tab n (setE t a b) :=
  (h.set _ (by rw [rset_length, h.rowlen ha])).set _ (by rw [rset_length, h.rowlen hb])
theorem Tab.join (h : Tab n t) : Tab n (joinT n t a b) := by
  unfold joinT
  split
  · rename_i hj
    unfold jn at hj
    simp only [Bool.and_eq_true, decide_eq_true_eq] at hj
    exact h.setE hj.1.1 hj.1.2.1
  · exact h
theorem ge_setE (h : Tab n t) (ha : 0 ≤ a ∧ a < (n : Int)) (hb : 0 ≤ b ∧ b < (n : Int)) (hab : a ≠ b) : ge (setE t a b) x y = (ge t x y || decide (x = a ∧ y = b ∨ x = b ∧ y = a)) := by
  have h1 : Tab n (t.set a.toNat (rset (row t a) b true)) := h.set _ (by rw [rset_length, h.rowlen ha])
  unfold setE
  rw [ge_set h1 hb, ge_set h ha, gat_rset, gat_rset, h.rowlen ha, h.rowlen hb]
  by_cases hxb : x = b
  · subst hxb
    rw [if_pos rfl]
    by_cases hya : y = a
    · subst hya; rw [if_pos rfl]; simp; omega
    · rw [if_neg hya]; simp [hya, Ne.symm hab]; rfl
  · rw [if_neg hxb]
    by_cases hxa : x = a
    · subst hxa
      rw [if_pos rfl]
      by_cases hyb : y = b
      · subst hyb; rw [if_pos rfl]; simp; omega
      · rw [if_neg hyb]; simp [hyb, hxb]; rfl
    · rw [if_neg hxa]; simp [hxa, hxb]
end


section
variable {n : Nat} {t : List (List Bool)} {a b x y : Int} {r : List Bool}
def near (n : Nat) (t : List (List Bool)) (a : Int) : List Int := gkeys (row t a)
theorem near_mem : b ∈ near n t a ↔ ge t a b = true := gkeys_mem
theorem near_len (h : Tab n t) : (near n t a).length ≤ n := by
  unfold near
  refine Nat.le_trans gkeys_length_le ?_
  by_cases ha : 0 ≤ a ∧ a < (n : Int)
  · rw [h.rowlen ha]; exact Nat.le_refl _
  · rw [row_out h ha]; simp
theorem Near_eq (h : Tab n t) (hn : n ≤ 1024) : m_graph_Graph_Near t a = some (near n t a) := by
  unfold m_graph_Graph_Near
  rw [in_eq h]
  simp only [Option.bind_some]
  by_cases ha : 0 ≤ a ∧ a < (n : Int)
  · rw [decide_eq_true ha, if_neg (by decide), h.at ha]
    simp only [Option.bind_some]
    rw [chk_pos (by rw [h.rowlen ha]; omega)]; rfl
  · rw [decide_eq_false ha, if_pos (by decide)]
    unfold near; rw [row_out h ha]; rfl

/-- The pairs of a list's numbers, in order, that have no edge. -/
def wantL (t : List (List Bool)) : List Int → List (Int × Int)
  | [] => []
  | x :: l => (l.filter fun y => !ge t x y).map (fun y => (x, y)) ++ wantL t l
theorem wantL_mem : ∀ {l : List Int} {x y : Int}, l.Pairwise (· < ·) → ((x, y) ∈ wantL t l ↔ x ∈ l ∧ y ∈ l ∧ x < y ∧ ge t x y = false)
  | [], x, y, _ => by simp [wantL]
  | z :: l, x, y, h => by
    obtain ⟨h1, h2⟩ := List.pairwise_cons.1 h
    rw [wantL, List.mem_append, wantL_mem h2, List.mem_map]
    constructor
    · rintro (⟨u, hu, he⟩ | ⟨k1, k2, k3, k4⟩)
      · simp only [Prod.mk.injEq] at he
        obtain ⟨rfl, rfl⟩ := he
        rw [List.mem_filter] at hu
        exact ⟨by simp, by simp [hu.1], h1 _ hu.1, by simpa using hu.2⟩
      · exact ⟨by simp [k1], by simp [k2], k3, k4⟩
    · rintro ⟨k1, k2, k3, k4⟩
      rcases List.mem_cons.1 k1 with q1 | q1
      · rcases List.mem_cons.1 k2 with q2 | q2
        · omega
        · exact .inl ⟨y, List.mem_filter.2 ⟨q2, by rw [← q1, k4]; rfl⟩, by rw [q1]⟩
      · rcases List.mem_cons.1 k2 with q2 | q2
        · have := h1 _ q1; omega
        · exact .inr ⟨q1, q2, k3, k4⟩

theorem wanting_L2 (h : Tab n t) (k : Nat) (kk : Nat → List (Int × Int) → Option (List (Int × Int))) (x : Int) (hx : 0 ≤ x ∧ x < (n : Int)) : ∀ (l : List Int) (acc : List (Int × Int)), acc.length + l.length ≤ 1100000 →
    m_graph_Graph_wanting_L2 t k kk x l acc = kk (k + 1) (acc ++ (l.filter fun y => !ge t x y).map fun y => (x, y))
  | [], acc, _ => by rw [m_graph_Graph_wanting_L2.eq_1]; simp
  | y :: l, acc, hl => by
    rw [m_graph_Graph_wanting_L2.eq_2, h.at hx]
    simp only [Option.bind_some, List.length_cons] at hl ⊢
    cases hg : gat (row t x) y
    · have hg' : ge t x y = false := hg
      rw [if_pos (by decide), chk_pos (by simp only [List.length_nil, maxLen]; omega)]
      unfold m_graph_Graph_wanting_J1
      rw [wanting_L2 h k kk x hx l _ (by simp; omega), List.filter_cons, hg']
      simp
    · have hg' : ge t x y = true := hg
      rw [if_neg (by decide)]
      unfold m_graph_Graph_wanting_J1
      rw [wanting_L2 h k kk x hx l _ (by omega), List.filter_cons, hg']
      simp
theorem wanting_L1 (h : Tab n t) (hn : n ≤ 1024) (R : List Int) (hR : R.length ≤ n) (hr : ∀ x ∈ R, 0 ≤ x ∧ x < (n : Int)) : ∀ (l : List Int) (k : Nat) (acc : List (Int × Int)), R.drop k = l → k ≤ R.length → acc.length ≤ k * 1024 →
    m_graph_Graph_wanting_L1 t R l k acc = some (acc ++ wantL t l)
  | [], k, acc, _, _, _ => by rw [m_graph_Graph_wanting_L1.eq_1, wantL, List.append_nil]
  | x :: l, k, acc, hd, hk, ha => by
    have hlt : k < R.length := by
      rcases Nat.lt_or_ge k R.length with h1 | h1
      · exact h1
      · rw [List.drop_eq_nil_of_le h1] at hd; cases hd
    have hd2 : R.drop (k + 1) = l := by rw [← List.drop_drop, hd]; rfl
    rw [m_graph_Graph_wanting_L1.eq_2, wS (by omega), chk_pos (by omega), Int.toNat_natCast, hd2]
    have hll : l.length ≤ R.length := by rw [← hd2, List.length_drop]; omega
    rw [wanting_L2 h k _ x (hr x (List.mem_of_mem_drop (i := k) (by rw [hd]; simp))) l acc (by have : k * 1024 ≤ 1024 * 1024 := Nat.mul_le_mul_right _ (by omega); omega)]
    rw [wanting_L1 h hn R hR hr l (k + 1) _ hd2 (by omega), wantL, List.append_assoc]
    have := List.length_filter_le (fun y => !ge t x y) l
    rw [List.length_append, List.length_map]; omega
theorem near_range (h : Tab n t) : ∀ x ∈ near n t a, 0 ≤ x ∧ x < (n : Int) := fun x hx => (h.range (near_mem.1 hx)).2
theorem wanting_eq (h : Tab n t) (hn : n ≤ 1024) : m_graph_Graph_wanting t a = some (wantL t (near n t a)) := by
  unfold m_graph_Graph_wanting
  rw [Near_eq h hn]
  simp only [Option.bind_some]
  rw [wanting_L1 h hn _ (near_len h) (near_range h) _ 0 [] (by simp) (by omega) (by simp)]; simp
theorem Fill_eq (h : Tab n t) (hn : n ≤ 1024) : m_graph_Graph_Fill t a = some ((wantL t (near n t a)).length : Int) := by
  unfold m_graph_Graph_Fill; rw [wanting_eq h hn]; rfl

/-! ### a point taken out -/
def delN (t : List (List Bool)) (a : Int) (l : List Int) : List (List Bool) := l.foldl (fun t b => t.set b.toNat (rset (row t b) a false)) t
def joinAll (n : Nat) (t : List (List Bool)) (l : List (Int × Int)) : List (List Bool) := l.foldl (fun t p => joinT n t p.1 p.2) t
def removeT (n : Nat) (t : List (List Bool)) (a : Int) : List (List Bool) := joinAll n ((delN t a (near n t a)).set a.toNat (List.replicate n false)) (wantL t (near n t a))
theorem Tab.del : ∀ {l : List Int} {t : List (List Bool)}, Tab n t → (∀ x ∈ l, 0 ≤ x ∧ x < (n : Int)) → Tab n (delN t a l)
  | [], t, h, _ => h
  | b :: l, t, h, hl => by
    show Tab n (delN (t.set b.toNat (rset (row t b) a false)) a l)
    exact Tab.del (h.set _ (by rw [rset_length, h.rowlen (hl b (by simp))])) fun x hx => hl x (by simp [hx])
theorem Tab.joinAll : ∀ {l : List (Int × Int)} {t : List (List Bool)}, Tab n t → Tab n (joinAll n t l)
  | [], t, h => h
  | p :: l, t, h => Tab.joinAll (l := l) (h.join (a := p.1) (b := p.2))
theorem Tab.remove (h : Tab n t) (ha : 0 ≤ a ∧ a < (n : Int)) : Tab n (removeT n t a) := Tab.joinAll ((h.del (near_range h)).set _ (by simp))
theorem ge_del : ∀ {l : List Int} {t : List (List Bool)}, Tab n t → (∀ x ∈ l, 0 ≤ x ∧ x < (n : Int)) → ge (delN t a l) x y = (ge t x y && !(decide (y = a) && decide (x ∈ l)))
  | [], t, h, _ => by simp [delN]
  | b :: l, t, h, hl => by
    have hb := hl b (by simp)
    have h1 : Tab n (t.set b.toNat (rset (row t b) a false)) := h.set _ (by rw [rset_length, h.rowlen hb])
    show ge (delN (t.set b.toNat (rset (row t b) a false)) a l) x y = _
    rw [ge_del h1 fun x hx => hl x (by simp [hx]), ge_set h hb]
    by_cases hxb : x = b
    · subst hxb
      rw [if_pos rfl, gat_rset]
      by_cases hya : y = a
      · simp [hya]
      · rw [if_neg hya]; simp [hya]; rfl
    · rw [if_neg hxb]; simp [hxb]
theorem ge_joinAll : ∀ {l : List (Int × Int)} {t : List (List Bool)}, Tab n t → (∀ x y, ge t x y = ge t y x) → (∀ p ∈ l, (0 ≤ p.1 ∧ p.1 < (n : Int)) ∧ (0 ≤ p.2 ∧ p.2 < (n : Int)) ∧ p.1 ≠ p.2) →
    ∀ x y, ge (joinAll n t l) x y = (ge t x y || decide ((x, y) ∈ l ∨ (y, x) ∈ l))
  | [], t, h, _, _, x, y => by simp [joinAll]
  | p :: l, t, h, hs, hl, x, y => by
    obtain ⟨h1, h2, h3⟩ := hl p (by simp)
    have hge : ∀ x y, ge (joinT n t p.1 p.2) x y = (ge t x y || decide (x = p.1 ∧ y = p.2 ∨ x = p.2 ∧ y = p.1)) := fun x y => by
      unfold joinT
      by_cases hj : jn n t p.1 p.2 = true
      · rw [if_pos hj, ge_setE h h1 h2 h3]
      · rw [if_neg hj]
        have : ge t p.1 p.2 = true := by
          unfold jn at hj
          rw [decide_eq_true ⟨h1, h2, h3⟩] at hj
          simpa using hj
        cases hg : ge t x y
        · rw [Bool.false_or]
          symm
          rw [decide_eq_false_iff_not]
          rintro (⟨rfl, rfl⟩ | ⟨rfl, rfl⟩)
          · rw [this] at hg; cases hg
          · rw [hs, this] at hg; cases hg
        · simp
    show ge (joinAll n (joinT n t p.1 p.2) l) x y = _
    rw [ge_joinAll h.join (fun x y => by
      rw [hge, hge, hs x y]
      congr 1
      exact decide_eq_decide.2 ⟨fun h => h.elim (fun h => .inr ⟨h.2, h.1⟩) fun h => .inl ⟨h.2, h.1⟩, fun h => h.elim (fun h => .inr ⟨h.2, h.1⟩) fun h => .inl ⟨h.2, h.1⟩⟩) (fun q hq => hl q (by simp [hq])) x y, hge]
    rw [Bool.or_assoc]
    congr 1
    rw [← Bool.decide_or]
    refine decide_eq_decide.2 ?_
    simp only [List.mem_cons, Prod.ext_iff]
    constructor
    · rintro ((h | h) | h | h)
      · exact .inl (.inl h)
      · exact .inr (.inl ⟨h.2, h.1⟩)
      · exact .inl (.inr h)
      · exact .inr (.inr h)
    · rintro ((h | h) | h | h)
      · exact .inl (.inl h)
      · exact .inr (.inl h)
      · exact .inl (.inr ⟨h.2, h.1⟩)
      · exact .inr (.inr h)
end


/-- How many numbers of a list are below one. -/
def lb (xs : List Int) (a : Int) : Nat := (xs.filter fun x => decide (x < a)).length
theorem lb_le (xs : List Int) (a : Int) : lb xs a ≤ xs.length := List.length_filter_le _ _
theorem lb_lt {a : Int} : ∀ {xs : List Int}, xs.Pairwise (· < ·) → ∀ (h : Nat) (hl : h < xs.length), xs[h] < a ↔ h < lb xs a
  | [], _, h, hl => by cases hl
  | x :: xs, hp, h, hl => by
    obtain ⟨h1, h2⟩ := List.pairwise_cons.1 hp
    unfold lb
    rw [List.filter_cons]
    by_cases hx : x < a
    · rw [if_pos (by simpa using hx), List.length_cons]
      cases h with
      | zero => simp [hx]
      | succ h =>
        have := lb_lt (a := a) h2 h (by simpa using hl)
        unfold lb at this
        rw [List.getElem_cons_succ]; omega
    · rw [if_neg (by simpa using hx)]
      have hz : (xs.filter fun x => decide (x < a)) = [] := List.filter_eq_nil_iff.2 fun y hy => by have := h1 y hy; simp; omega
      rw [hz]
      cases h with
      | zero => simp; omega
      | succ h =>
        have hl3 : h < xs.length := by simpa using hl
        have := h1 xs[h] (List.getElem_mem hl3)
        simp only [List.getElem_cons_succ, List.length_nil]; omega
theorem less_eq (x y : Int) : m_cmp_Less_int x y = some (decide (x < y)) := by
  unfold m_cmp_Less_int m_cmp_isNaN_int m_cmp_Less_int_J1
  simp
theorem mid_eq {i j : Nat} (hj : i + j < 9223372036854775807) : IntKind.i64.wrap (ishr .u64 (IntKind.u64.wrap (IntKind.i64.wrap ((i : Int) + (j : Int)))) 1) = (((i + j) / 2 : Nat) : Int) := by
  have h0 : IntKind.i64.wrap ((i : Int) + (j : Int)) = (i : Int) + (j : Int) := w64 (by omega)
  rw [h0]
  have h1 : IntKind.u64.wrap ((i : Int) + (j : Int)) = (i : Int) + (j : Int) := by rw [IntKind.wrap_u64]; omega
  rw [h1]
  unfold ishr
  have h2 : (min (1 : Int).toNat IntKind.u64.bits) = 1 := by decide
  rw [h2]
  have h3 : ((i : Int) + (j : Int)).fdiv (2 ^ 1) = (((i + j) / 2 : Nat) : Int) := by
    rw [Int.fdiv_eq_ediv_of_nonneg _ (by decide)]; omega
  rw [h3, w64 (by omega)]
theorem search_L1 (N : Nat) (xs : List Int) (a : Int) (hp : xs.Pairwise (· < ·)) (hl : xs.length ≤ 1100000) : ∀ (f i j : Nat), i ≤ lb xs a → lb xs a ≤ j → j ≤ xs.length → j - i < f →
    m_slices_BinarySearch_int_int_L1 N xs a f (i : Int) (j : Int) = some ((lb xs a : Int), decide (a ∈ xs))
  | 0, i, j, _, _, _, h => by omega
  | f + 1, i, j, h1, h2, h3, h4 => by
    rw [m_slices_BinarySearch_int_int_L1.eq_2]
    by_cases hij : i < j
    · rw [if_pos (decide_eq_true (by omega)), mid_eq (by omega)]
      have hm : (i + j) / 2 < xs.length := by omega
      rw [at?_lt hm]
      simp only [Option.bind_some]
      rw [less_eq]
      simp only [Option.bind_some]
      by_cases hx : xs[(i + j) / 2] < a
      · rw [if_pos (decide_eq_true hx), wS (by omega)]
        have := (lb_lt hp _ hm).1 hx
        exact search_L1 N xs a hp hl f _ j (by omega) h2 h3 (by omega)
      · rw [if_neg (by simpa using hx)]
        have : ¬ (i + j) / 2 < lb xs a := fun h => hx ((lb_lt hp _ hm).2 h)
        exact search_L1 N xs a hp hl f i _ h1 (by omega) (by omega) (by omega)
    · have hi : i = lb xs a := by omega
      rw [if_neg (by simp; omega)]
      subst hi
      have hnot : ∀ y ∈ xs, y ∈ xs → y = a → lb xs a < xs.length ∧ xs[lb xs a]? = some a := fun y hy _ e => by
        subst e
        obtain ⟨k, hk, he⟩ := List.getElem_of_mem hy
        have k1 : ¬ k < lb xs y := fun h => by have := (lb_lt hp k hk).2 h; rw [he] at this; omega
        have k2 : ¬ lb xs y < k := fun h => by
          have h5 : lb xs y < xs.length := by omega
          have h6 := List.pairwise_iff_getElem.1 hp (lb xs y) k h5 hk h
          rw [he] at h6
          have := (lb_lt hp _ h5).1 h6; omega
        have : k = lb xs y := by omega
        subst this
        exact ⟨hk, by rw [List.getElem?_eq_getElem hk, he]⟩
      by_cases hlt : lb xs a < xs.length
      · rw [if_pos (decide_eq_true (by omega)), at?_lt hlt]
        simp only [Option.bind_some]
        by_cases he : xs[lb xs a] = a
        · rw [if_pos (decide_eq_true he)]
          unfold m_slices_BinarySearch_int_int_J1
          rw [decide_eq_true (show a ∈ xs by rw [← he]; exact List.getElem_mem _)]
        · rw [if_neg (by simpa using he)]
          unfold m_slices_isNaN_int m_slices_BinarySearch_int_int_J1
          have : a ∉ xs := fun hm => by
            have := (hnot a hm hm rfl).2
            rw [List.getElem?_eq_getElem hlt] at this
            exact he (by simpa using this)
          rw [decide_eq_false this]; simp
      · rw [if_neg (by simp; omega)]
        unfold m_slices_BinarySearch_int_int_J1
        have : a ∉ xs := fun hm => hlt (hnot a hm hm rfl).1
        rw [decide_eq_false this]
theorem search_eq (N : Nat) (xs : List Int) (a : Int) (hp : xs.Pairwise (· < ·)) (hl : xs.length ≤ 1100000) (hN : xs.length < N) : m_slices_BinarySearch_int_int N xs a = some ((lb xs a : Int), decide (a ∈ xs)) :=
  search_L1 N xs a hp hl N 0 xs.length (Nat.zero_le _) (lb_le _ _) (Nat.le_refl _) (by omega)

/-- A number put into a rising list. -/
def insS (a : Int) (xs : List Int) : List Int := xs.take (lb xs a) ++ [a] ++ xs.drop (lb xs a)
theorem insS_mem {a x : Int} {xs : List Int} : x ∈ insS a xs ↔ x = a ∨ x ∈ xs := by
  unfold insS
  have : x ∈ xs ↔ x ∈ xs.take (lb xs a) ∨ x ∈ xs.drop (lb xs a) := by rw [← List.mem_append, List.take_append_drop]
  rw [List.mem_append, List.mem_append, List.mem_singleton, this]
  constructor
  · rintro ((h | h) | h)
    · exact .inr (.inl h)
    · exact .inl h
    · exact .inr (.inr h)
  · rintro (h | h | h)
    · exact .inl (.inr h)
    · exact .inl (.inl h)
    · exact .inr h
theorem insS_len {a : Int} {xs : List Int} : (insS a xs).length = xs.length + 1 := by
  have := lb_le xs a
  unfold insS; simp only [List.length_append, List.length_take, List.length_drop, List.length_cons, List.length_nil]; omega
section
variable {n N : Nat} {t : List (List Bool)} {a : Int}
theorem Remove_L2 (R : List (Int × Int)) (rw_ : List Bool) (a : Int) (hlen : (gkeys rw_).length ≤ 1100000) (hl2 : (gkeys rw_).length < 1048576) (hN : (gkeys rw_).length < N) : ∀ (l : List (Int × Int)) (g : List (List Bool)), Tab n g →
    m_graph_Graph_Remove_L2 N a R rw_ l g = some (insS a (gkeys rw_), R, joinAll n g l)
  | [], g, _ => by
    rw [m_graph_Graph_Remove_L2.eq_1, search_eq N _ a gkeys_rises hlen hN]
    simp only [Option.bind_some]
    have := lb_le (gkeys rw_) a
    unfold lib_insert
    rw [chk_pos ⟨by omega, by omega, rfl, hl2⟩]
    rfl
  | p :: l, g, hg => by
    rw [m_graph_Graph_Remove_L2.eq_2, Join_eq hg]
    simp only [Option.bind_some]
    exact Remove_L2 R rw_ a hlen hl2 hN l _ hg.join
theorem Remove_L1 (R : List (Int × Int)) (rw_ : List Bool) (a : Int) (ha : 0 ≤ a ∧ a < (n : Int)) (hlen : (gkeys rw_).length ≤ 1100000) (hl2 : (gkeys rw_).length < 1048576) (hN : (gkeys rw_).length < N) : ∀ (l : List Int) (g : List (List Bool)), Tab n g → (∀ x ∈ l, 0 ≤ x ∧ x < (n : Int)) →
    m_graph_Graph_Remove_L1 N a R rw_ l g = some (insS a (gkeys rw_), R, joinAll n ((delN g a l).set a.toNat (List.replicate n false)) R)
  | [], g, hg, _ => by
    rw [m_graph_Graph_Remove_L1.eq_1, hg.at ha]
    simp only [Option.bind_some]
    rw [hg.rowlen ha]
    exact Remove_L2 R rw_ a hlen hl2 hN R _ (hg.set _ (by simp))
  | b :: l, g, hg, hl => by
    have hb := hl b (by simp)
    rw [m_graph_Graph_Remove_L1.eq_2, hg.at hb]
    simp only [Option.bind_some]
    exact Remove_L1 R rw_ a ha hlen hl2 hN l _ (hg.set _ (by rw [rset_length, hg.rowlen hb])) fun x hx => hl x (by simp [hx])
theorem Remove_eq (h : Tab n t) (hn : n ≤ 1024) (hN : 2048 < N) (ha : 0 ≤ a ∧ a < (n : Int)) : m_graph_Graph_Remove N t a = some (insS a (near n t a), wantL t (near n t a), removeT n t a) := by
  unfold m_graph_Graph_Remove
  rw [in_eq h]
  simp only [Option.bind_some]
  rw [decide_eq_true ha, if_neg (by decide), wanting_eq h hn, h.at ha]
  simp only [Option.bind_some]
  have hk : (gkeys (row t a)).length ≤ n := near_len (a := a) h
  rw [chk_pos (by rw [h.rowlen ha]; omega)]
  exact Remove_L1 _ _ a ha (by omega) (by omega) (by omega) _ _ h (near_range h)
end


/-- A table of edges: each both ways round, none from a point to itself. -/
structure Gr (n : Nat) (t : List (List Bool)) : Prop where
  tab : Tab n t
  sym : ∀ x y, ge t x y = ge t y x
  irr : ∀ x, ge t x x = false
section
variable {n N : Nat} {t : List (List Bool)} {a b : Int}
theorem Gr.none : Gr n (List.replicate n (List.replicate n false)) := by
  have hT : Tab n (List.replicate n (List.replicate n false)) := ⟨by simp, fun r hr => by rw [List.eq_of_mem_replicate hr]; simp⟩
  have h0 : ∀ x y, ge (List.replicate n (List.replicate n false)) x y = false := fun x y => by
    unfold ge row at?
    split
    · rw [List.getElem?_replicate]
      split
      · exact gat_replicate
      · exact gat_nil
    · exact gat_nil
  exact ⟨hT, fun x y => by rw [h0, h0], fun x => h0 x x⟩
theorem Gr.join (h : Gr n t) : Gr n (joinT n t a b) := by
  refine ⟨h.tab.join, ?_, ?_⟩ <;> unfold joinT
  · intro x y
    split
    · rename_i hj
      unfold jn at hj
      simp only [Bool.and_eq_true, decide_eq_true_eq] at hj
      rw [ge_setE h.tab hj.1.1 hj.1.2.1 hj.1.2.2, ge_setE h.tab hj.1.1 hj.1.2.1 hj.1.2.2, h.sym x y]
      congr 1
      exact decide_eq_decide.2 ⟨fun h => h.elim (fun h => .inr ⟨h.2, h.1⟩) fun h => .inl ⟨h.2, h.1⟩, fun h => h.elim (fun h => .inr ⟨h.2, h.1⟩) fun h => .inl ⟨h.2, h.1⟩⟩
    · exact h.sym x y
  · intro x
    split
    · rename_i hj
      unfold jn at hj
      simp only [Bool.and_eq_true, decide_eq_true_eq] at hj
      rw [ge_setE h.tab hj.1.1 hj.1.2.1 hj.1.2.2, h.irr x, Bool.false_or, decide_eq_false_iff_not]
      rintro (⟨rfl, h2⟩ | ⟨rfl, h2⟩)
      · exact hj.1.2.2 h2
      · exact hj.1.2.2 h2.symm
    · exact h.irr x
/-- A point that is not out, and joins nothing. -/
def ready (n : Nat) (t : List (List Bool)) (out : List Bool) (a : Nat) : Bool := !(out.getD a false) && (wantL t (near n t a)).isEmpty
/-- The first such point from n - m on. -/
def fnd (n : Nat) (t : List (List Bool)) (out : List Bool) : Nat → Option Nat
  | 0 => none
  | m + 1 => if ready n t out (n - (m + 1)) = true then some (n - (m + 1)) else fnd n t out m
theorem fnd_lt {out : List Bool} : ∀ {m k : Nat}, m ≤ n → fnd n t out m = some k → k < n ∧ n - m ≤ k ∧ ready n t out k = true
  | 0, k, _, h => by cases h
  | m + 1, k, hm, h => by
    unfold fnd at h
    split at h
    · rename_i hr
      cases h; exact ⟨by omega, by omega, hr⟩
    · have := fnd_lt (m := m) (by omega) h
      exact ⟨this.1, by omega, this.2.2⟩
theorem outAt {out : List Bool} {a : Nat} (ho : a < out.length) : at? out (a : Int) = some (out.getD a false) := by
  rw [at?_lt ho]; simp [List.getD, List.getElem?_eq_getElem ho]
theorem emp {l : List (Int × Int)} : decide ((l.length : Int) = 0) = l.isEmpty := by cases l <;> simp; omega
theorem Chordal_L2 (h : Tab n t) (hn : n ≤ 1024) (hN : 2048 < N) (v : Int) (out : List Bool) (ho : out.length = n) (kk : List (List Bool) → Int → List Bool → Option Bool) : ∀ (f m : Nat), m ≤ n → m < f →
    m_graph_Graph_Chordal_L2 N t v out kk f ((n - m : Nat) : Int) (-1) = match fnd n t out m with | none => some false | some k => kk (removeT n t k) (IntKind.i64.wrap (v + 1)) (out.set k true)
  | 0, m, _, hf => by omega
  | f + 1, 0, hm, hf => by
    rw [m_graph_Graph_Chordal_L2.eq_2, h.len, if_neg (by simp), if_pos (by decide)]; rfl
  | f + 1, m + 1, hm, hf => by
    have hlt : n - (m + 1) < n := by omega
    have hnext : ((n - (m + 1) + 1 : Nat) : Int) = ((n - m : Nat) : Int) := by congr 1; omega
    rw [m_graph_Graph_Chordal_L2.eq_2, h.len, if_pos (decide_eq_true (by omega)), outAt (by omega)]
    simp only [Option.bind_some]
    unfold fnd ready
    have IH := Chordal_L2 h hn hN v out ho kk f m (by omega) (by omega)
    cases hb : out.getD (n - (m + 1)) false
    · rw [if_pos (by decide), Fill_eq h hn]
      simp only [Option.bind_some]
      unfold m_graph_Graph_Chordal_J2 m_graph_Graph_Chordal_J1
      rw [emp]
      by_cases he : (wantL t (near n t ((n - (m + 1) : Nat) : Int))).isEmpty = true
      · rw [if_pos he, if_neg (by simp), outAt (by omega)]
        simp only [Option.bind_some]
        rw [Remove_eq h hn hN (by omega), he]
        rfl
      · rw [if_neg he, wS (by omega), hnext, IH]
        simp only [Bool.not_eq_true] at he
        rw [he]; rfl
    · rw [if_neg (by decide)]
      unfold m_graph_Graph_Chordal_J2 m_graph_Graph_Chordal_J1
      rw [if_neg (by decide), wS (by omega), hnext, IH]
      rfl
end



def m_graph_Graph_Has_J1 (v_13 : Bool) : Option Bool :=
  some v_13

def m_graph_Graph_Has (p0_g : List (List Bool)) (p1_a : Int) (p2_b : Int) : Option Bool :=
  (m_graph_Graph_in p0_g p1_a).bind fun r_14 => if r_14 = true then ((at? p0_g p1_a).bind fun row_19 => m_graph_Graph_Has_J1 (gat row_19 p2_b)) else (m_graph_Graph_Has_J1 false)

set_option maxRecDepth 100000 in
set_option maxHeartbeats 2000000 in
theorem c_graph_Graph_Has (col : Col) (w0 : World) (qc0 : Nat) (hqqc0 : qc0 ≠ 0) (o0 : GObj) (p0_g : List (List Bool)) (p1_a : Int) (p2_b : Int) (h0 : GO 85 86 qc0 col w0 o0 p0_g) (r : Bool) (hm : m_graph_Graph_Has p0_g p1_a p2_b = some r) :
    Calls Try.prog 24 #[(.pointer (some ⟨o0.g, 0, none⟩)), (.int .i64 p1_a), (.int .i64 p2_b)] w0 (fun e w' => e = .returned ((.bool r)) ∧ Below w0.heap.size w0 w') := by
  refine calls_of1 6 (m := 21) (args := [(.pointer (some ⟨o0.g, 0, none⟩)), (.int .i64 p1_a), (.int .i64 p2_b)]) Try.func24 rfl rfl rfl rfl rfl ?_
  rw [m_graph_Graph_Has.eq_1] at hm
  have hst := St.start col w0
  replace h0 := h0.start0 hqqc0
  refine wseq ?_
  refine wregion ?_
  refine lv (v := (.bool false)) rfl rfl (r_assign rfl) ?_
  refine lnil ?_
  refine wseq ?_
  refine Wp.cut (fun f w_11 => ∃ (col_12 : Col) (v_13 : Bool), m_graph_Graph_Has_J1 v_13 = some r ∧ St w0 (col0 col) col_12 w_11 ∧ f 6 = (.bool v_13) ∧ f 1000000 = (enc [])) ?_ ?_
  · intro f w_11 hJ
    obtain ⟨col_12, v_13, hm, hst, hs6, hs1000000⟩ := hJ
    rw [m_graph_Graph_Has_J1.eq_1] at hm
    refine .ld (d := 6) (v := (.bool v_13)) hs6 ?_
    refine .ld (d := 1000000) (v := (enc [])) hs1000000 ?_
    clear hs6 hs1000000
    refine wret ?_
    cases hm
    exact ⟨rfl, rfl, hst.below⟩
  · refine wregion ?_
    refine lv (v := (.pointer (some ⟨o0.g, 0, none⟩))) rfl rfl (r_move rfl) ?_
    refine lv (v := (.int .i64 p1_a)) rfl rfl (r_move rfl) ?_
    obtain ⟨r_14, hr_15, hm⟩ := bind_some hm
    refine lc rfl rfl (r_call2 Try.call54 rfl rfl) (c_graph_Graph_in (col0 col) _ 999 (by decide) o0 p0_g p1_a h0 r_14 hr_15) ?_
    rintro _ w_16 ⟨rfl, hg_17⟩
    refine ⟨_, rfl, ?_⟩
    replace hg_17 : Grow (col0 col) w0 (col0 col) w_16 := .of_below hg_17
    replace h0 := h0.gr hg_17
    replace hst := hst.grow hg_17
    refine lv (v := (.bool r_14)) rfl rfl (r_move rfl) ?_
    by_cases hg_18 : r_14 = true
    · rw [if_pos hg_18] at hm
      refine lg (b := r_14) 10 rfl rfl rfl (by rw [hg_18]; rfl) ?_
      refine lv (v := (.pointer (some ⟨o0.g, 0, none⟩))) rfl rfl (r_move rfl) ?_
      refine lg (b := r_14) 10 rfl rfl rfl (by rw [hg_18]; rfl) ?_
      refine lv (v := (.pointer (some ⟨o0.g, 0, none⟩))) rfl rfl (r_nilCheck rfl) ?_
      refine lg (b := r_14) 10 rfl rfl rfl (by rw [hg_18]; rfl) ?_
      refine lv (v := (.pointer ((some (⟨o0.g, 0, none⟩ : Addr)).map (·.add 0)))) rfl rfl (r_fieldAddr (sz := 1) (off := 0) Try.underlying85 rfl Try.sizeOf83 (by decide) rfl rfl ⟨_, _, rfl⟩) ?_
      refine lg (b := r_14) 10 rfl rfl rfl (by rw [hg_18]; rfl) ?_
      refine lv (v := (.slice o0.a p0_g.length o0.cap)) rfl rfl (r_ld Try.isAgg83 rfl ((h0.box.atN).nth (q := 0) (v := (.slice o0.a p0_g.length o0.cap)) rfl)) ?_
      refine lg (b := r_14) 10 rfl rfl rfl (by rw [hg_18]; rfl) ?_
      refine lv (v := (.int .i64 p1_a)) rfl rfl (r_move rfl) ?_
      refine lg (b := r_14) 10 rfl rfl rfl (by rw [hg_18]; rfl) ?_
      obtain ⟨row_19, hj_20, hm⟩ := bind_some hm
      obtain ⟨b_21, hb_22, _, hb_23⟩ := h0.blk hj_20
      refine lv (v := (sptr o0.a (Int.toNat p1_a * 1))) rfl rfl (r_idx Try.underlying83 Try.sizeOf86 rfl rfl (at?_some hj_20).1 (at?_some hj_20).2.1 (h0.addr hb_22)) ?_
      refine lg (b := r_14) 10 rfl rfl rfl (by rw [hg_18]; rfl) ?_
      refine lv (v := (.map (some b_21))) rfl rfl (r_ld Try.isAgg86 rfl (h0.at1 hb_22)) ?_
      refine lg (b := r_14) 10 rfl rfl rfl (by rw [hg_18]; rfl) ?_
      refine lv (v := (.int .i64 p2_b)) rfl rfl (r_move rfl) ?_
      refine lg (b := r_14) 10 rfl rfl rfl (by rw [hg_18]; rfl) ?_
      refine lv (v := (.bool (gat row_19 p2_b))) rfl rfl (r_glookup_g (h0.maps _ _ _ hb_23 (at?_some hj_20).2.2) Try.underlying86 Try.underlying3 Try.zeroValue4 rfl rfl) ?_
      refine lv (v := (.bool (gat row_19 p2_b))) rfl rfl (r_pickT (congrArg Value.bool hg_18) rfl) ?_
      refine lv (v := (.bool (gat row_19 p2_b))) rfl rfl (r_assign rfl) ?_
      refine lnil ?_
      exact ⟨(col0 col), (gat row_19 p2_b), hm, hst, rfl, rfl⟩
    · rw [if_neg hg_18] at hm
      replace hg_18 := Bool.eq_false_iff.2 hg_18
      refine lp (b := r_14) 10 rfl rfl rfl rfl (by rw [hg_18]; rfl) ?_
      refine lp (b := r_14) 10 rfl rfl rfl rfl (by rw [hg_18]; rfl) ?_
      refine lp (b := r_14) 10 rfl rfl rfl rfl (by rw [hg_18]; rfl) ?_
      refine lp (b := r_14) 10 rfl rfl rfl rfl (by rw [hg_18]; rfl) ?_
      refine lp (b := r_14) 10 rfl rfl rfl rfl (by rw [hg_18]; rfl) ?_
      refine lp (b := r_14) 10 rfl rfl rfl rfl (by rw [hg_18]; rfl) ?_
      refine lp (b := r_14) 10 rfl rfl rfl rfl (by rw [hg_18]; rfl) ?_
      refine lp (b := r_14) 10 rfl rfl rfl rfl (by rw [hg_18]; rfl) ?_
      refine lp (b := r_14) 10 rfl rfl rfl rfl (by rw [hg_18]; rfl) ?_
      refine lv (v := (.bool false)) rfl rfl (r_pickF (congrArg Value.bool hg_18) rfl) ?_
      refine lv (v := (.bool false)) rfl rfl (r_assign rfl) ?_
      refine lnil ?_
      exact ⟨(col0 col), false, hm, hst, rfl, rfl⟩




section
variable {n N : Nat} {t : List (List Bool)} {a b x y : Int}
theorem Has_eq (h : Tab n t) : m_graph_Graph_Has t a b = some (ge t a b) := by
  unfold m_graph_Graph_Has m_graph_Graph_Has_J1
  rw [in_eq h]
  simp only [Option.bind_some]
  by_cases ha : 0 ≤ a ∧ a < (n : Int)
  · rw [decide_eq_true ha, if_pos rfl, h.at ha]; rfl
  · rw [decide_eq_false ha, if_neg (by decide)]
    unfold ge; rw [row_out h ha, gat_nil]
/-- The edges, in order. -/
def edgesL (n : Nat) (t : List (List Bool)) : List (Int × Int) := (List.range n).flatMap fun a : Nat => ((near n t (a : Int)).filter fun b => decide ((a : Int) < b)).map fun b => ((a : Int), b)
theorem list_L2 (v : Int) (kk : Int → List (Int × Int) → Option (List (Int × Int))) : ∀ (l : List Int) (acc : List (Int × Int)), acc.length + l.length ≤ 1100000 →
    m_graph_Graph_list_L2 v kk l acc = kk (IntKind.i64.wrap (v + 1)) (acc ++ (l.filter fun b => decide (v < b)).map fun b => (v, b))
  | [], acc, _ => by rw [m_graph_Graph_list_L2.eq_1]; simp
  | x :: l, acc, hl => by
    rw [m_graph_Graph_list_L2.eq_2]
    simp only [List.length_cons] at hl
    unfold m_graph_Graph_list_J1
    by_cases hx : v < x
    · rw [if_pos (decide_eq_true hx), chk_pos (by simp only [List.length_cons, List.length_nil, maxLen]; omega), list_L2 v kk l _ (by simp; omega), List.filter_cons, if_pos (decide_eq_true hx)]
      simp
    · rw [if_neg (by simpa using hx), list_L2 v kk l _ (by omega), List.filter_cons, if_neg (by simpa using hx)]
theorem list_L1 (h : Tab n t) (hn : n ≤ 1024) : ∀ (f k : Nat) (acc : List (Int × Int)), k ≤ n → n - k < f → acc.length ≤ k * 1024 →
    m_graph_Graph_list_L1 N t f (k : Int) acc = some (acc ++ ((List.range n).drop k).flatMap fun a : Nat => ((near n t (a : Int)).filter fun b => decide ((a : Int) < b)).map fun b => ((a : Int), b))
  | 0, k, acc, _, hf, _ => by omega
  | f + 1, k, acc, hk, hf, ha => by
    rw [m_graph_Graph_list_L1.eq_2, h.len]
    by_cases hlt : k < n
    · rw [if_pos (decide_eq_true (by omega)), Near_eq h hn]
      simp only [Option.bind_some]
      have hnl := near_len (a := (k : Int)) h
      rw [list_L2 _ _ _ _ (by have : k * 1024 ≤ 1024 * 1024 := Nat.mul_le_mul_right _ (by omega); omega), wS (by omega)]
      have hfl := List.length_filter_le (fun b => decide ((k : Int) < b)) (near n t (k : Int))
      rw [list_L1 h hn f (k + 1) _ (by omega) (by omega) (by rw [List.length_append, List.length_map]; omega)]
      have hd : (List.range n).drop k = k :: (List.range n).drop (k + 1) := by
        rw [List.drop_eq_getElem_cons (by simpa using hlt)]; simp
      rw [hd, List.flatMap_cons, List.append_assoc]
    · rw [if_neg (by simp; omega), List.drop_eq_nil_of_le (by simp; omega)]; simp
theorem edges1 : ∀ l : List (Int × Int), m_graph_Graph_Edges_1_L1 l = some l
  | [] => by rw [m_graph_Graph_Edges_1_L1.eq_1]
  | x :: l => by rw [m_graph_Graph_Edges_1_L1.eq_2, edges1 l]; rfl
theorem list_eq (h : Tab n t) (hn : n ≤ 1024) (hN : 2048 < N) : m_graph_Graph_list N t = some (edgesL n t) := by
  unfold m_graph_Graph_list
  have := list_L1 (N := N) h hn N 0 [] (Nat.zero_le _) (by omega) (by simp)
  unfold edgesL
  simpa using this
theorem Edges_eq (h : Tab n t) (hn : n ≤ 1024) (hN : 2048 < N) : m_graph_Graph_Edges N t = some (edgesL n t) := by
  unfold m_graph_Graph_Edges m_graph_Graph_Edges_1
  rw [list_eq h hn hN]; exact edges1 _
theorem edgesL_mem (h : Tab n t) : (x, y) ∈ edgesL n t ↔ ge t x y = true ∧ x < y := by
  unfold edgesL
  rw [List.mem_flatMap]
  constructor
  · rintro ⟨a, ha, hm⟩
    obtain ⟨b, hb, he⟩ := List.mem_map.1 hm
    rw [List.mem_filter] at hb
    simp only [Prod.mk.injEq] at he
    obtain ⟨rfl, rfl⟩ := he
    exact ⟨near_mem.1 hb.1, by simpa using hb.2⟩
  · rintro ⟨h1, h2⟩
    obtain ⟨hx, hy⟩ := h.range h1
    refine ⟨x.toNat, List.mem_range.2 (by omega), List.mem_map.2 ⟨y, List.mem_filter.2 ⟨?_, ?_⟩, ?_⟩⟩
    · rw [show ((x.toNat : Nat) : Int) = x by omega]; exact near_mem.2 h1
    · rw [decide_eq_true_eq]; omega
    · rw [show ((x.toNat : Nat) : Int) = x by omega]
theorem want_mem : (x, y) ∈ wantL t (near n t a) ↔ ge t a x = true ∧ ge t a y = true ∧ x < y ∧ ge t x y = false := by
  rw [wantL_mem (l := near n t a) gkeys_rises, near_mem, near_mem]
theorem want_range (h : Gr n t) : ∀ p ∈ wantL t (near n t a), (0 ≤ p.1 ∧ p.1 < (n : Int)) ∧ (0 ≤ p.2 ∧ p.2 < (n : Int)) ∧ p.1 ≠ p.2 := fun p hp => by
  obtain ⟨x, y⟩ := p
  obtain ⟨h1, h2, h3, _⟩ := want_mem.1 hp
  have := (h.tab.range h1).2; have := (h.tab.range h2).2
  exact ⟨by assumption, by assumption, by show x ≠ y; omega⟩
/-- What is wanting, put in. -/
def put (t : List (List Bool)) (n : Nat) (a x y : Int) : Bool := ge t a x && ge t a y && !decide (x = y) && !ge t x y
theorem put_iff (h : Gr n t) : decide ((x, y) ∈ wantL t (near n t a) ∨ (y, x) ∈ wantL t (near n t a)) = put t n a x y := by
  unfold put
  rw [Bool.eq_iff_iff, decide_eq_true_eq, want_mem, want_mem, h.sym y x]
  simp only [Bool.and_eq_true, Bool.not_eq_true', decide_eq_false_iff_not]
  constructor
  · rintro (⟨h1, h2, h3, h4⟩ | ⟨h1, h2, h3, h4⟩)
    · exact ⟨⟨⟨h1, h2⟩, by omega⟩, h4⟩
    · exact ⟨⟨⟨h2, h1⟩, by omega⟩, h4⟩
  · rintro ⟨⟨⟨h1, h2⟩, h3⟩, h4⟩
    by_cases hxy : x < y
    · exact .inl ⟨h1, h2, hxy, h4⟩
    · exact .inr ⟨h2, h1, by omega, h4⟩
theorem ge_cut (h : Gr n t) (ha : 0 ≤ a ∧ a < (n : Int)) : ge ((delN t a (near n t a)).set a.toNat (List.replicate n false)) x y = (ge t x y && !decide (x = a) && !decide (y = a)) := by
  have h1 : Tab n (delN t a (near n t a)) := h.tab.del (near_range h.tab)
  rw [ge_set h1 ha]
  by_cases hx : x = a
  · rw [if_pos hx, gat_replicate]; simp [hx]
  · rw [if_neg hx, ge_del h.tab (near_range h.tab), decide_eq_false hx]
    by_cases hy : y = a
    · subst hy
      cases hg : ge t x y
      · simp
      · have : x ∈ near n t y := near_mem.2 (by rw [h.sym]; exact hg)
        simp [this]
    · simp [hy]
theorem Gr.cut (h : Gr n t) (ha : 0 ≤ a ∧ a < (n : Int)) : Gr n ((delN t a (near n t a)).set a.toNat (List.replicate n false)) := by
  refine ⟨(h.tab.del (near_range h.tab)).set _ (by simp), fun x y => ?_, fun x => ?_⟩
  · rw [ge_cut h ha, ge_cut h ha, h.sym x y, Bool.and_assoc, Bool.and_assoc, Bool.and_comm (!decide (x = a))]
  · rw [ge_cut h ha, h.irr x]; rfl
theorem Gr.joinAll : ∀ {l : List (Int × Int)} {t : List (List Bool)}, Gr n t → Gr n (joinAll n t l)
  | [], t, h => h
  | p :: l, t, h => Gr.joinAll (l := l) (h.join (a := p.1) (b := p.2))
theorem Gr.remove (h : Gr n t) (ha : 0 ≤ a ∧ a < (n : Int)) : Gr n (removeT n t a) := Gr.joinAll (h.cut ha)
theorem ge_remove (h : Gr n t) (ha : 0 ≤ a ∧ a < (n : Int)) : ge (removeT n t a) x y = ((ge t x y && !decide (x = a) && !decide (y = a)) || put t n a x y) := by
  unfold removeT
  rw [ge_joinAll (h.cut ha).tab (h.cut ha).sym (want_range h), ge_cut h ha, put_iff h]
def Peo (t : List (List Bool)) : List Int → Prop
  | [] => True
  | x :: l => (∀ y ∈ l, ∀ z ∈ l, y ≠ z → ge t x y = true → ge t x z = true → ge t y z = true) ∧ Peo t l
theorem Peo.first {t : List (List Bool)} : ∀ {l : List Int}, Peo t l → ∀ (p : Int → Bool), (∃ x ∈ l, p x = true) → ∃ x ∈ l, p x = true ∧ ∀ y ∈ l, ∀ z ∈ l, p y = true → p z = true → y ≠ x → z ≠ x → y ≠ z → ge t x y = true → ge t x z = true → ge t y z = true
  | [], _, p, h => by obtain ⟨_, h, _⟩ := h; cases h
  | v :: l, ⟨h1, h2⟩, p, h => by
    by_cases hv : p v = true
    · refine ⟨v, by simp, hv, fun y hy z hz _ _ hyx hzx hyz => h1 y ?_ z ?_ hyz⟩
      · rcases List.mem_cons.1 hy with e | e; exact absurd e hyx; exact e
      · rcases List.mem_cons.1 hz with e | e; exact absurd e hzx; exact e
    · obtain ⟨x, hx, hp⟩ := h
      rcases List.mem_cons.1 hx with rfl | hx
      · exact absurd hp hv
      · obtain ⟨x, h3, h4, h5⟩ := Peo.first h2 p ⟨x, hx, hp⟩
        refine ⟨x, by simp [h3], h4, fun y hy z hz py pz => ?_⟩
        rcases List.mem_cons.1 hy with rfl | hy
        · exact absurd py hv
        · rcases List.mem_cons.1 hz with rfl | hz
          · exact absurd pz hv
          · exact h5 y hy z hz py pz
def isOut (out : List Bool) (x : Int) : Bool := out.getD x.toNat false
end









inductive Conn (t : List (List Bool)) : Int → Int → Prop
  | refl (a : Int) : Conn t a a
  | on {a x b : Int} : Conn t a x → ge t x b = true → Conn t a b
section
variable {n N : Nat} {t : List (List Bool)} {a b c x y : Int}
theorem Conn.trans (h : Conn t a b) (k : Conn t b c) : Conn t a c := by
  induction k with
  | refl => exact h
  | on _ e ih => exact .on ih e
theorem Conn.symm (hg : Gr n t) (h : Conn t a b) : Conn t b a := by
  induction h with
  | refl => exact .refl _
  | on _ e ih => exact ((Conn.refl _).on (by rw [hg.sym]; exact e)).trans ih
theorem Conn.range (hg : Tab n t) (ha : 0 ≤ a ∧ a < (n : Int)) (h : Conn t a b) : 0 ≤ b ∧ b < (n : Int) := by
  induction h with
  | refl => exact ha
  | on _ e _ => exact (hg.range e).2
def pts (n : Nat) : List Int := (List.range n).map fun k : Nat => (k : Int)
theorem pts_mem : x ∈ pts n ↔ 0 ≤ x ∧ x < (n : Int) := by
  unfold pts
  rw [List.mem_map]
  constructor
  · rintro ⟨k, hk, rfl⟩; have := List.mem_range.1 hk; omega
  · exact fun h => ⟨x.toNat, List.mem_range.2 (by omega), by omega⟩
theorem pts_rises : (pts n).Pairwise (· < ·) := by
  unfold pts
  rw [List.pairwise_map]
  exact List.pairwise_lt_range.imp fun h => by omega
theorem pts_len : (pts n).length = n := by simp [pts]
open Classical in
/-- What hangs with a point. -/
noncomputable def hang (n : Nat) (t : List (List Bool)) (v : Int) : List Int := (pts n).filter fun x => decide (Conn t v x)
open Classical in
theorem ge_none : ge (List.replicate n (List.replicate n false)) x y = false := by
  unfold ge row at?
  split
  · rw [List.getElem?_replicate]
    split
    · exact gat_replicate
    · exact gat_nil
  · exact gat_nil
end


section
variable {n N : Nat} {t u : List (List Bool)} {a b x y : Int}
theorem tab_ext (h : Tab n t) (k : Tab n u) (e : ∀ x y, ge t x y = ge u x y) : t = u := by
  refine List.ext_getElem (by rw [h.len, k.len]) fun i h1 h2 => ?_
  refine gat_ext (by rw [h.sq _ (List.getElem_mem h1), k.sq _ (List.getElem_mem h2)]) fun j => ?_
  have := e (i : Int) j
  unfold ge row at this
  rwa [at?_lt h1, at?_lt h2] at this

theorem copied_L2 : ∀ (l : List (Int × Int)) (h : List (List Bool)), Tab n h → m_order_copied_L2 l h = some (some (joinAll n h l))
  | [], h, _ => by rw [m_order_copied_L2.eq_1]; rfl
  | p :: l, h, hh => by
    rw [m_order_copied_L2.eq_2, Join_eq hh]
    simp only [Option.bind_some]
    rw [copied_L2 l _ hh.join]; rfl
theorem copy_eq (h : Gr n t) : joinAll n (List.replicate n (List.replicate n false)) (edgesL n t) = t := by
  refine tab_ext (Gr.none (n := n)).joinAll.tab h.tab fun x y => ?_
  rw [ge_joinAll Gr.none.tab (fun x y => by rw [ge_none, ge_none]) (fun p hp => by
    obtain ⟨x, y⟩ := p
    have h1 := (edgesL_mem h.tab).1 hp
    have := h.tab.range h1.1
    exact ⟨this.1, this.2, by show x ≠ y; omega⟩), ge_none, Bool.false_or, Bool.eq_iff_iff, decide_eq_true_eq, edgesL_mem h.tab, edgesL_mem h.tab, h.sym y x]
  constructor
  · rintro (h1 | h1)
    · exact h1.1
    · exact h1.1
  · intro h1
    have hne : x ≠ y := fun e => by rw [e, h.irr] at h1; cases h1
    by_cases hxy : x < y
    · exact .inl ⟨h1, hxy⟩
    · exact .inr ⟨h1, by omega⟩
theorem copied_eq (h : Gr n t) (hn : n ≤ 1024) (hN : 2048 < N) : m_order_copied N t = some (some t) := by
  unfold m_order_copied m_graph_Graph_Len m_graph_New
  simp only [Option.bind_some]
  rw [h.tab.len, if_neg (by omega)]
  simp only [Option.bind_some, Int.toNat_natCast]
  unfold optC
  simp only []
  rw [Edges_eq h.tab hn hN]
  simp only [Option.bind_some]
  rw [copied_L2 _ _ Gr.none.tab, copy_eq h]

/-! ### why a list may not be -/
def wrongC (n : Nat) (l : List Int) : Int := if ∀ x ∈ l, 0 ≤ x ∧ x < (n : Int) then (if l.Nodup then 0 else 40) else 3
theorem wrong_L1 (h : Tab n t) (L : List Int) (hL : L.length < 1048576) : ∀ l : List Int, m_order_wrong_L1 t L l = some (if ∀ x ∈ l, 0 ≤ x ∧ x < (n : Int) then (if L.Nodup then 0 else 40) else 3)
  | [] => by
    rw [m_order_wrong_L1.eq_1, values_eq]
    simp only [Option.bind_some]
    rw [sorted_eq' L (by omega)]
    simp only [Option.bind_some]
    unfold lib_compact
    rw [chk_pos (by rw [isort_len]; omega)]
    simp only [Option.bind_some]
    have hn : (Go.Lib.compact (isort L)).length = L.length ↔ L.Nodup := by
      rw [← isort_len L, compact_len_iff (isort_rises L), (isort_perm L).nodup_iff]
    rw [if_pos (by simp : ∀ x ∈ ([] : List Int), 0 ≤ x ∧ x < (n : Int))]
    by_cases hd : L.Nodup
    · rw [if_neg (by simp; have := hn.2 hd; omega), if_pos hd]
    · rw [if_pos (by
        simp only [Bool.not_eq_true', decide_eq_false_iff_not]
        intro e; exact hd (hn.1 (by omega))), if_neg hd]
  | x :: l => by
    rw [m_order_wrong_L1.eq_2]
    unfold m_order_wrong_J1 m_graph_Graph_Len
    by_cases h0 : x < 0
    · rw [if_pos (decide_eq_true h0), if_pos rfl, if_neg (fun e => by have := (e x List.mem_cons_self).1; omega)]
    · rw [if_neg (by simpa using h0)]
      simp only [Option.bind_some]
      rw [h.len]
      by_cases h1 : (n : Int) ≤ x
      · rw [if_pos (decide_eq_true h1), if_neg (fun e => by have := (e x List.mem_cons_self).2; omega)]
      · rw [if_neg (by simpa using h1), wrong_L1 h L hL l]
        congr 1
        apply ifc
        constructor
        · intro hh y hy
          rcases List.mem_cons.1 hy with rfl | hy
          · omega
          · exact hh y hy
        · exact fun hh y hy => hh y (List.mem_cons_of_mem _ hy)
theorem wrong_eq (h : Tab n t) (L : List Int) (hL : L.length < 1048576) : m_order_wrong t L = some (wrongC n L) := wrong_L1 h L hL L
theorem wrong_zero {l : List Int} : wrongC n l = 0 ↔ (∀ x ∈ l, 0 ≤ x ∧ x < (n : Int)) ∧ l.Nodup := by
  unfold wrongC
  by_cases h1 : ∀ x ∈ l, 0 ≤ x ∧ x < (n : Int)
  · rw [if_pos h1]
    by_cases h2 : l.Nodup
    · rw [if_pos h2]; exact ⟨fun _ => ⟨h1, h2⟩, fun _ => rfl⟩
    · rw [if_neg h2]; exact ⟨fun e => by omega, fun e => absurd e.2 h2⟩
  · rw [if_neg h1]; exact ⟨fun e => by omega, fun e => absurd e.1 h1⟩
theorem short {l : List Int} (h : ∀ x ∈ l, 0 ≤ x ∧ x < (n : Int)) (hd : l.Nodup) : l.length ≤ n := by
  have := nodup_le hd (r := pts n) fun x hx => pts_mem.2 (h x hx)
  rwa [pts_len] at this

/-! ### cliques -/
/-- What an order of points takes out, one by one. -/
def clq (n : Nat) : List (List Bool) → List Int → List (List Int)
  | _, [] => []
  | t, a :: l => insS a (near n t a) :: clq n (removeT n t a) l
theorem clq_len : ∀ {l : List Int} {t : List (List Bool)}, (clq n t l).length = l.length
  | [], _ => rfl
  | a :: l, t => by simp only [clq, List.length_cons, clq_len]
theorem Cliques_L2 (hn : n ≤ 1024) (hN : 2048 < N) : ∀ (l : List Int) (t : List (List Bool)) (all : List (List Int)), Gr n t → (∀ x ∈ l, 0 ≤ x ∧ x < (n : Int)) → all.length + l.length ≤ 1048576 →
    m_order_Cliques_L2 N l t all = some (all ++ clq n t l, 0)
  | [], t, all, _, _, _ => by rw [m_order_Cliques_L2.eq_1]; simp [clq]
  | a :: l, t, all, h, hr, hl => by
    have ha := hr a List.mem_cons_self
    simp only [List.length_cons] at hl
    rw [m_order_Cliques_L2.eq_2, Remove_eq h.tab hn hN ha]
    simp only [Option.bind_some]
    rw [chk_pos (by simp only [List.length_singleton, maxLen]; omega), Cliques_L2 hn hN l _ _ (h.remove ha) (fun x hx => hr x (List.mem_cons_of_mem _ hx)) (by simp; omega), List.append_assoc]
    rfl
def clqs (n : Nat) (t : List (List Bool)) (l : List Int) : List (List Int) × Int := if wrongC n l = 0 then (clq n t l, 0) else ([], wrongC n l)
theorem Cliques_eq (h : Gr n t) (hn : n ≤ 1024) (hN : 2048 < N) (l : List Int) (hl : l.length < 1048576) : m_order_Cliques N t l = some (clqs n t l) := by
  unfold m_order_Cliques clqs
  rw [wrong_eq h.tab l hl]
  simp only [Option.bind_some]
  by_cases h0 : wrongC n l = 0
  · rw [if_neg (by simp [h0]), if_pos h0, copied_eq h hn hN]
    simp only [Option.bind_some]
    unfold optC
    simp only []
    rw [Cliques_L2 hn hN l t [] h (wrong_zero.1 h0).1 (by simp; omega)]
    simp
  · rw [if_pos (by simp [h0]), if_neg h0]
def most : List (List Int) → Nat → Nat
  | [], m => m
  | l :: ls, m => most ls (max m l.length)
theorem Width_L1 (r : List (List Int) × Int) : ∀ (l : List (List Int)) (m : Nat), m_order_Width_L1 r l (m : Int) = some (IntKind.i64.wrap ((most l m : Nat) - 1 : Int), r.2)
  | [], m => by rw [m_order_Width_L1.eq_1]; rfl
  | x :: l, m => by
    rw [m_order_Width_L1.eq_2, show (if (x.length : Int) > (m : Int) then (x.length : Int) else (m : Int)) = ((max m x.length : Nat) : Int) by split <;> omega]
    exact Width_L1 r l _
theorem Width_eq (h : Gr n t) (hn : n ≤ 1024) (hN : 2048 < N) (l : List Int) (hl : l.length < 1048576) : m_order_Width N t l = some (IntKind.i64.wrap ((most (clqs n t l).1 1 : Nat) - 1 : Int), (clqs n t l).2) := by
  unfold m_order_Width
  rw [Cliques_eq h hn hN l hl]
  simp only [Option.bind_some]
  exact Width_L1 _ _ 1

/-! ### what weighs least goes first -/
/-- An order by weight: what weighs least goes first, of those the least. -/
def OrdR (n : Nat) (wt : List (List Bool) → Int → Int) : List (List Bool) → List Int → List Int → Prop
  | _, left, [] => left = []
  | t, left, a :: r => a ∈ left ∧ (∀ b ∈ left, wt t a < wt t b ∨ wt t a = wt t b ∧ a ≤ b) ∧ OrdR n wt (removeT n t a) (left.filter fun x => decide (x ≠ a)) r
theorem OrdR.congr {wt : List (List Bool) → Int → Int} : ∀ {r : List Int} {t : List (List Bool)} {l m : List Int}, (∀ x, x ∈ l ↔ x ∈ m) → OrdR n wt t l r → OrdR n wt t m r
  | [], t, l, m, e, h => by
    have h : l = [] := h
    subst h
    show m = []
    exact List.eq_nil_iff_forall_not_mem.2 fun x hx => by have := (e x).2 hx; cases this
  | a :: r, t, l, m, e, ⟨h1, h2, h3⟩ => ⟨(e a).1 h1, fun b hb => h2 b ((e b).2 hb), h3.congr fun x => by rw [List.mem_filter, List.mem_filter, e x]⟩
theorem OrdR.perm {wt : List (List Bool) → Int → Int} : ∀ {r : List Int} {t : List (List Bool)} {l : List Int}, l.Nodup → OrdR n wt t l r → r.Nodup ∧ ∀ x, x ∈ r ↔ x ∈ l
  | [], t, l, _, h => by
    have h : l = [] := h
    subst h; exact ⟨List.nodup_nil, fun _ => Iff.rfl⟩
  | a :: r, t, l, hd, ⟨h1, _, h3⟩ => by
    have ih := h3.perm (hd.filter _)
    refine ⟨List.nodup_cons.2 ⟨fun hm => ?_, ih.1⟩, fun x => ?_⟩
    · have := (ih.2 a).1 hm
      rw [List.mem_filter] at this; simp at this
    · rw [List.mem_cons, ih.2 x, List.mem_filter]
      by_cases hx : x = a
      · subst hx; simp [h1]
      · simp [hx]

theorem at0 {x : Int} {l : List Int} : at? (x :: l) 0 = some x := by simp [at?]
theorem cutL {l : List Int} {k : Nat} (hk : k < l.length) : (l.take k ++ l.drop (k + 1)).length + 1 = l.length := by
  rw [List.length_append, List.length_take, List.length_drop]; omega
theorem cut_filter {l : List Int} (hn : l.Nodup) {k : Nat} (hk : k < l.length) : l.take k ++ l.drop (k + 1) = l.filter fun x => decide (x ≠ l[k]) := by
  induction l generalizing k with
  | nil => cases hk
  | cons x l ih =>
    obtain ⟨h1, h2⟩ := List.nodup_cons.1 hn
    cases k with
    | zero =>
      simp only [List.take_zero, List.nil_append, Nat.zero_add, List.drop_succ_cons, List.drop_zero, List.getElem_cons_zero]
      rw [List.filter_cons_of_neg (by simp), List.filter_eq_self.2 fun y hy => by
        simp only [decide_eq_true_eq]; exact fun e => h1 (e ▸ hy)]
    | succ k =>
      simp only [List.length_cons] at hk
      simp only [List.take_succ_cons, List.drop_succ_cons, List.cons_append, List.getElem_cons_succ]
      rw [ih h2 (by omega), List.filter_cons_of_pos (by simp only [decide_eq_true_eq]; exact fun e => h1 (e ▸ List.getElem_mem _))]

/-- The place of the first of what weighs least. -/
structure Fst (f : Int → Int) (l : List Int) (b : Nat) (m : Int) (k : Nat) : Prop where
  lt : b < l.length
  is : ∀ h : b < l.length, f l[b] = m
  le : ∀ i (h : i < l.length), i < k → m ≤ f l[i]
  st : ∀ i (h : i < l.length), i < b → m < f l[i]
theorem Fst.best {f : Int → Int} {l : List Int} {b : Nat} {m : Int} (h : Fst f l b m l.length) (hs : l.Pairwise (· ≤ ·)) : ∀ x ∈ l, f (l[b]'h.lt) < f x ∨ f (l[b]'h.lt) = f x ∧ l[b]'h.lt ≤ x := by
  intro x hx
  obtain ⟨i, hi, rfl⟩ := List.getElem_of_mem hx
  have h1 := h.is h.lt
  have h2 := h.le i hi hi
  by_cases hib : i < b
  · have := h.st i hi hib; left; omega
  · by_cases he : i = b
    · subst he; right; exact ⟨rfl, Int.le_refl _⟩
    · have := List.pairwise_iff_getElem.1 hs b i h.lt hi (by omega)
      omega
def wtF (n : Nat) (t : List (List Bool)) (a : Int) : Int := ((wantL t (near n t a)).length : Int)
def wtD (n : Nat) (t : List (List Bool)) (a : Int) : Int := ((near n t a).length : Int)

theorem byF_L3 (h : Gr n t) (hn : n ≤ 1024) (hN : 2048 < N) (left list : List Int) (hr : ∀ x ∈ left, 0 ≤ x ∧ x < (n : Int)) (hll : list.length + left.length ≤ 1048000) (kk : List Int → List Int → List (List Bool) → Option (List Int × Int)) :
    ∀ (l : List Int) (k b : Nat) (m : Int), left.drop (k + 1) = l → Fst (wtF n t) left b m (k + 1) →
      ∃ (b' : Nat) (hb : b' < left.length), Fst (wtF n t) left b' (wtF n t left[b']) left.length ∧ m_order_by_v2f16_L3 N left list kk l k (b : Int) m t = kk (left.take b' ++ left.drop (b' + 1)) (list ++ [left[b']]) (removeT n t left[b'])
  | [], k, b, m, hd, hF => by
    have hb := hF.lt
    have hk : left.length ≤ k + 1 := List.drop_eq_nil_iff.1 hd
    have hm := hF.is hb
    refine ⟨b, hb, ⟨hb, fun _ => rfl, fun i hi h1 => by rw [hm]; exact hF.le i hi (by omega), fun i hi h1 => by rw [hm]; exact hF.st i hi h1⟩, ?_⟩
    rw [m_order_by_v2f16_L3.eq_1, at?_lt hb]
    simp only [Option.bind_some]
    rw [chk_pos (by simp only [List.length_singleton, maxLen]; omega), Remove_eq h.tab hn hN (hr _ (List.getElem_mem hb))]
    simp only [Option.bind_some]
    rw [wS (by omega)]
    unfold lib_delete
    rw [chk_pos (by omega)]
    simp only [Option.bind_some, Int.toNat_natCast]
  | x :: l, k, b, m, hd, hF => by
    have hk : k + 1 < left.length := by
      by_cases hh : k + 1 < left.length
      · exact hh
      · rw [List.drop_eq_nil_of_le (by omega)] at hd; cases hd
    rw [List.drop_eq_getElem_cons hk] at hd
    obtain ⟨hx, hd⟩ := List.cons.inj hd
    rw [m_order_by_v2f16_L3.eq_2, Fill_eq h.tab hn]
    simp only [Option.bind_some]
    unfold m_order_by_v2f16_J1
    by_cases hlt : ((wantL t (near n t x)).length : Int) < m
    · rw [if_pos (decide_eq_true hlt), show IntKind.i64.wrap ((k : Int) + 1) = ((k + 1 : Nat) : Int) from wS (by omega)]
      refine byF_L3 h hn hN left list hr hll kk l (k + 1) (k + 1) _ hd ⟨hk, fun _ => by rw [hx]; rfl, fun i hi h1 => ?_, fun i hi h1 => ?_⟩
      · by_cases h2 : i = k + 1
        · subst h2; rw [hx]; exact Int.le_refl _
        · have := hF.le i hi (by omega); omega
      · have := hF.le i hi (by omega); omega
    · rw [if_neg (by simpa using hlt)]
      refine byF_L3 h hn hN left list hr hll kk l (k + 1) b m hd ⟨hF.lt, hF.is, fun i hi h1 => ?_, hF.st⟩
      by_cases h2 : i = k + 1
      · subst h2; rw [hx]; exact Int.not_lt.1 hlt
      · exact hF.le i hi (by omega)
theorem byF_L2 (hn : n ≤ 1024) (hN : 2048 < N) : ∀ (f : Nat) (left list : List Int) (t : List (List Bool)), Gr n t → left.Nodup → left.Pairwise (· ≤ ·) → (∀ x ∈ left, 0 ≤ x ∧ x < (n : Int)) → list.length + left.length ≤ 1048000 → left.length < f →
    ∃ r, OrdR n (wtF n) t left r ∧ m_order_by_v2f16_L2 N f left list t = some (list ++ r, 0)
  | 0, left, list, t, _, _, _, _, _, hf => by omega
  | f + 1, [], list, t, _, _, _, _, _, _ => ⟨[], rfl, by rw [m_order_by_v2f16_L2.eq_2, if_neg (by simp), List.append_nil]⟩
  | f + 1, x :: l, list, t, h, hd, hs, hr, hll, hf => by
    rw [m_order_by_v2f16_L2.eq_2, if_pos (by simp), at0]
    simp only [Option.bind_some]
    rw [Fill_eq h.tab hn]
    simp only [Option.bind_some]
    rw [chk_pos (by simp only [List.length_cons]; omega)]
    obtain ⟨b, hb, hF, e⟩ := byF_L3 h hn hN (x :: l) list hr hll (m_order_by_v2f16_L2 N f) _ 0 0 (wtF n t x) rfl ⟨by simp, fun _ => rfl, fun i hi h1 => by
      obtain rfl : i = 0 := by omega
      exact Int.le_refl _, fun i hi h1 => by omega⟩
    have hmem := List.getElem_mem hb
    have hcut := cut_filter hd hb
    rw [hcut] at e
    obtain ⟨r, h1, h2⟩ := byF_L2 hn hN f ((x :: l).filter fun y => decide (y ≠ (x :: l)[b])) (list ++ [(x :: l)[b]]) (removeT n t (x :: l)[b]) (h.remove (hr _ hmem)) (hd.filter _) (hs.filter _) (fun y hy => hr y (List.mem_filter.1 hy).1)
      (by rw [← hcut, List.length_append, List.length_singleton]; have := cutL hb; omega) (by rw [← hcut]; have := cutL hb; omega)
    refine ⟨(x :: l)[b] :: r, ⟨hmem, hF.best hs, h1⟩, ?_⟩
    refine Eq.trans e (h2.trans ?_)
    rw [List.append_assoc]; rfl
theorem byD_L4 (h : Gr n t) (hn : n ≤ 1024) (hN : 2048 < N) (left list : List Int) (hr : ∀ x ∈ left, 0 ≤ x ∧ x < (n : Int)) (hll : list.length + left.length ≤ 1048000) (kk : List Int → List Int → List (List Bool) → Option (List Int × Int)) :
    ∀ (l : List Int) (k b : Nat) (m : Int), left.drop (k + 1) = l → Fst (wtD n t) left b m (k + 1) →
      ∃ (b' : Nat) (hb : b' < left.length), Fst (wtD n t) left b' (wtD n t left[b']) left.length ∧ m_order_by_v2f72_L4 N left list kk l k (b : Int) m t = kk (left.take b' ++ left.drop (b' + 1)) (list ++ [left[b']]) (removeT n t left[b'])
  | [], k, b, m, hd, hF => by
    have hb := hF.lt
    have hk : left.length ≤ k + 1 := List.drop_eq_nil_iff.1 hd
    have hm := hF.is hb
    refine ⟨b, hb, ⟨hb, fun _ => rfl, fun i hi h1 => by rw [hm]; exact hF.le i hi (by omega), fun i hi h1 => by rw [hm]; exact hF.st i hi h1⟩, ?_⟩
    rw [m_order_by_v2f72_L4.eq_1, at?_lt hb]
    simp only [Option.bind_some]
    rw [chk_pos (by simp only [List.length_singleton, maxLen]; omega), Remove_eq h.tab hn hN (hr _ (List.getElem_mem hb))]
    simp only [Option.bind_some]
    rw [wS (by omega)]
    unfold lib_delete
    rw [chk_pos (by omega)]
    simp only [Option.bind_some, Int.toNat_natCast]
  | x :: l, k, b, m, hd, hF => by
    have hk : k + 1 < left.length := by
      by_cases hh : k + 1 < left.length
      · exact hh
      · rw [List.drop_eq_nil_of_le (by omega)] at hd; cases hd
    rw [List.drop_eq_getElem_cons hk] at hd
    obtain ⟨hx, hd⟩ := List.cons.inj hd
    rw [m_order_by_v2f72_L4.eq_2]
    unfold m_order_Degree_1
    rw [Near_eq h.tab hn]
    simp only [Option.bind_some]
    unfold m_order_by_v2f72_J2
    by_cases hlt : ((near n t x).length : Int) < m
    · rw [if_pos (decide_eq_true hlt), show IntKind.i64.wrap ((k : Int) + 1) = ((k + 1 : Nat) : Int) from wS (by omega)]
      refine byD_L4 h hn hN left list hr hll kk l (k + 1) (k + 1) _ hd ⟨hk, fun _ => by rw [hx]; rfl, fun i hi h1 => ?_, fun i hi h1 => ?_⟩
      · by_cases h2 : i = k + 1
        · subst h2; rw [hx]; exact Int.le_refl _
        · have := hF.le i hi (by omega); omega
      · have := hF.le i hi (by omega); omega
    · rw [if_neg (by simpa using hlt)]
      refine byD_L4 h hn hN left list hr hll kk l (k + 1) b m hd ⟨hF.lt, hF.is, fun i hi h1 => ?_, hF.st⟩
      by_cases h2 : i = k + 1
      · subst h2; rw [hx]; exact Int.not_lt.1 hlt
      · exact hF.le i hi (by omega)
theorem byD_L3 (hn : n ≤ 1024) (hN : 2048 < N) : ∀ (f : Nat) (left list : List Int) (t : List (List Bool)), Gr n t → left.Nodup → left.Pairwise (· ≤ ·) → (∀ x ∈ left, 0 ≤ x ∧ x < (n : Int)) → list.length + left.length ≤ 1048000 → left.length < f →
    ∃ r, OrdR n (wtD n) t left r ∧ m_order_by_v2f72_L3 N f left list t = some (list ++ r, 0)
  | 0, left, list, t, _, _, _, _, _, hf => by omega
  | f + 1, [], list, t, _, _, _, _, _, _ => ⟨[], rfl, by rw [m_order_by_v2f72_L3.eq_2, if_neg (by simp), List.append_nil]⟩
  | f + 1, x :: l, list, t, h, hd, hs, hr, hll, hf => by
    rw [m_order_by_v2f72_L3.eq_2, if_pos (by simp), at0]
    simp only [Option.bind_some]
    unfold m_order_Degree_1
    rw [Near_eq h.tab hn]
    simp only [Option.bind_some]
    rw [chk_pos (by simp only [List.length_cons]; omega)]
    obtain ⟨b, hb, hF, e⟩ := byD_L4 h hn hN (x :: l) list hr hll (m_order_by_v2f72_L3 N f) _ 0 0 (wtD n t x) rfl ⟨by simp, fun _ => rfl, fun i hi h1 => by
      obtain rfl : i = 0 := by omega
      exact Int.le_refl _, fun i hi h1 => by omega⟩
    have hmem := List.getElem_mem hb
    have hcut := cut_filter hd hb
    rw [hcut] at e
    obtain ⟨r, h1, h2⟩ := byD_L3 hn hN f ((x :: l).filter fun y => decide (y ≠ (x :: l)[b])) (list ++ [(x :: l)[b]]) (removeT n t (x :: l)[b]) (h.remove (hr _ hmem)) (hd.filter _) (hs.filter _) (fun y hy => hr y (List.mem_filter.1 hy).1)
      (by rw [← hcut, List.length_append, List.length_singleton]; have := cutL hb; omega) (by rw [← hcut]; have := cutL hb; omega)
    refine ⟨(x :: l)[b] :: r, ⟨hmem, hF.best hs, h1⟩, ?_⟩
    refine Eq.trans e (h2.trans ?_)
    rw [List.append_assoc]; rfl
/-- What both orders answer. -/
def Ordered (n : Nat) (wt : List (List Bool) → Int → Int) (t : List (List Bool)) (l : List Int) (r : List Int × Int) : Prop := if wrongC n l = 0 then r.2 = 0 ∧ OrdR n wt t l r.1 else r = ([], wrongC n l)
theorem Fill_ordered (h : Gr n t) (hn : n ≤ 1024) (hN : 2048 < N) (l : List Int) (hl : l.length < 1048576) : ∃ r, Ordered n (wtF n) t l r ∧ m_order_Fill N t l = some r := by
  unfold m_order_Fill m_order_by_v2f16 Ordered
  rw [wrong_eq h.tab l hl]
  simp only [Option.bind_some]
  by_cases h0 : wrongC n l = 0
  · obtain ⟨hr, hd⟩ := wrong_zero.1 h0
    have hs := short hr hd
    simp only [if_pos h0]
    rw [if_neg (by simp [h0]), copied_eq h hn hN]
    simp only [Option.bind_some]
    unfold optC
    simp only []
    rw [values_eq]
    simp only [Option.bind_some]
    rw [sorted_eq' l (by omega)]
    simp only [Option.bind_some]
    have hp := isort_perm l
    obtain ⟨r, h1, h2⟩ := byF_L2 hn hN N (isort l) [] t h (hp.nodup_iff.2 hd) (isort_rises l) (fun x hx => hr x (hp.mem_iff.1 hx)) (by rw [isort_len]; simp; omega) (by rw [isort_len]; omega)
    rw [h2]
    exact ⟨(r, 0), ⟨rfl, h1.congr fun x => hp.mem_iff⟩, rfl⟩
  · simp only [if_neg h0]
    rw [if_pos (by simp [h0])]
    exact ⟨_, rfl, rfl⟩
theorem Degree_ordered (h : Gr n t) (hn : n ≤ 1024) (hN : 2048 < N) (l : List Int) (hl : l.length < 1048576) : ∃ r, Ordered n (wtD n) t l r ∧ m_order_Degree N t l = some r := by
  unfold m_order_Degree m_order_by_v2f72 Ordered
  rw [wrong_eq h.tab l hl]
  simp only [Option.bind_some]
  by_cases h0 : wrongC n l = 0
  · obtain ⟨hr, hd⟩ := wrong_zero.1 h0
    have hs := short hr hd
    simp only [if_pos h0]
    rw [if_neg (by simp [h0]), copied_eq h hn hN]
    simp only [Option.bind_some]
    unfold optC
    simp only []
    rw [values_eq]
    simp only [Option.bind_some]
    rw [sorted_eq' l (by omega)]
    simp only [Option.bind_some]
    have hp := isort_perm l
    obtain ⟨r, h1, h2⟩ := byD_L3 hn hN N (isort l) [] t h (hp.nodup_iff.2 hd) (isort_rises l) (fun x hx => hr x (hp.mem_iff.1 hx)) (by rw [isort_len]; simp; omega) (by rw [isort_len]; omega)
    rw [h2]
    exact ⟨(r, 0), ⟨rfl, h1.congr fun x => hp.mem_iff⟩, rfl⟩
  · simp only [if_neg h0]
    rw [if_pos (by simp [h0])]
    exact ⟨_, rfl, rfl⟩
end


section
variable {n N : Nat} {t u : List (List Bool)} {a b x y : Int}
theorem pick18_eq {i : Int} {n : Nat} (hn : 0 < n ∧ n ≤ 1048576) : ∃ k : Nat, k < n ∧ m_credencelaw18_pick i (n : Int) = some (k : Int) := by
  unfold m_credencelaw18_pick
  rw [chk_pos (by omega)]
  have h1 := Int.tmod_lt_of_pos i (show (0 : Int) < n by omega)
  have h2 : -(n : Int) < Int.tmod i n := by
    have := Int.lt_tmod_of_pos i (show (0 : Int) < n by omega); omega
  unfold m_credencelaw18_pick_J1
  by_cases h : Int.tmod i n < 0
  · rw [if_pos (decide_eq_true h), w64 (by omega)]
    exact ⟨(Int.tmod i n + n).toNat, by omega, by congr 1; omega⟩
  · rw [if_neg (by simpa using h)]
    exact ⟨(Int.tmod i n).toNat, by omega, by congr 1; omega⟩
theorem point_eq (h : Tab n t) : m_credenceref15_Graph_point t a = some (decide (0 ≤ a ∧ a < (n : Int))) := by
  unfold m_credenceref15_Graph_point m_credenceref15_Graph_point_J1
  rw [h.len]
  by_cases h0 : 0 ≤ a
  · rw [if_pos (decide_eq_true h0)]; congr 1; exact decide_eq_decide.2 ⟨fun h => ⟨h0, h⟩, fun h => h.2⟩
  · rw [if_neg (by simpa using h0)]; congr 1; exact (decide_eq_false fun h => h0 h.1).symm
theorem Tab.cell (h : Tab n t) (ha : 0 ≤ a ∧ a < (n : Int)) (hb : 0 ≤ b ∧ b < (n : Int)) : at? (row t a) b = some (ge t a b) := by
  have hl := h.rowlen ha
  unfold ge gat at?
  rw [if_pos hb.1, if_pos hb.1, List.getElem?_eq_getElem (by omega)]; rfl
theorem at?_set_ne {α : Type} {l : List α} {r : α} (h : a ≠ b) (ha : 0 ≤ a) : at? (l.set a.toNat r) b = at? l b := by
  unfold at?
  by_cases hb : 0 ≤ b
  · rw [if_pos hb, if_pos hb, List.getElem?_set_ne (by omega)]
  · rw [if_neg hb, if_neg hb]
theorem refJoin_eq (h : Tab n t) : m_credenceref15_Graph_Join t a b = some (jn n t a b, joinT n t a b) := by
  unfold m_credenceref15_Graph_Join
  rw [point_eq h, point_eq h]
  simp only [Option.bind_some]
  have no : jn n t a b = false → m_credenceref15_Graph_Join_J1 t a b true = some (jn n t a b, joinT n t a b) := fun e => by
    unfold m_credenceref15_Graph_Join_J1 joinT
    rw [e]; rfl
  by_cases ha : 0 ≤ a ∧ a < (n : Int)
  · rw [if_neg (by simp [ha])]
    by_cases hb : 0 ≤ b ∧ b < (n : Int)
    · rw [if_neg (by simp [hb])]
      by_cases hab : a = b
      · rw [if_pos (decide_eq_true hab), no]
        unfold jn; simp [hab]
      · rw [if_neg (by simpa using hab), h.at ha]
        simp only [Option.bind_some]
        rw [h.cell ha hb]
        simp only [Option.bind_some]
        have hj : jn n t a b = !ge t a b := by unfold jn; rw [decide_eq_true ⟨ha, hb, hab⟩, Bool.true_and]
        cases hg : ge t a b
        · unfold m_credenceref15_Graph_Join_J1
          rw [if_neg (by decide), h.at ha]
          simp only [Option.bind_some]
          rw [h.cell ha hb]
          simp only [Option.bind_some]
          rw [at?_set_ne hab ha.1, h.at hb]
          simp only [Option.bind_some]
          rw [h.cell hb ha]
          simp only [Option.bind_some]
          unfold joinT setE rset
          rw [hj, hg, if_pos (show (!false) = true from rfl), if_pos hb.1, if_pos ha.1]; rfl
        · exact no (by rw [hj, hg]; rfl)
    · rw [if_pos (by rw [decide_eq_false hb]; rfl), no]
      unfold jn; rw [decide_eq_false (fun e => hb e.2.1)]; rfl
  · rw [if_pos (by rw [decide_eq_false ha]; rfl), no]
    unfold jn; rw [decide_eq_false (fun e => ha e.1)]; rfl
theorem refNew_L1 (hn : n ≤ 1024) : ∀ (f i : Nat), i ≤ n → n - i < f → m_credenceref15_New_L1 N (n : Int) f (List.replicate i (List.replicate n false)) (i : Int) = some (some (List.replicate n (List.replicate n false)), 0)
  | 0, i, _, hf => by omega
  | f + 1, i, hi, hf => by
    rw [m_credenceref15_New_L1.eq_2]
    by_cases h : i < n
    · rw [if_pos (decide_eq_true (by omega)), chk_pos (by simp only [maxLen]; omega), chk_pos (by simp only [List.length_replicate, List.length_singleton, maxLen]; omega), wS (by omega), Int.toNat_natCast,
        show List.replicate i (List.replicate n false) ++ [List.replicate n false] = List.replicate (i + 1) (List.replicate n false) by rw [List.replicate_succ']]
      exact refNew_L1 hn f (i + 1) (by omega) (by omega)
    · obtain rfl : i = n := by omega
      rw [if_neg (by simp)]
theorem refNew_eq (hn : n ≤ 1024) (hN : 2048 < N) : m_credenceref15_New N (n : Int) = some (some (List.replicate n (List.replicate n false)), 0) := by
  unfold m_credenceref15_New m_credenceref15_New_J1
  rw [if_neg (by simp), if_neg (by simp; omega)]
  exact refNew_L1 hn N 0 (by omega) (by omega)
theorem drawn18_L (d : Int) (pairs : List Int) (hp : pairs.length ≤ 9223372036854775000) (n : Nat) (hn : n ≤ 14) : ∀ (f i : Nat) (t : List (List Bool)), Gr n t → i ≤ pairs.length + 1 → pairs.length + 1 - i < f →
    ∃ t', Gr n t' ∧ m_credencelaw18_drawn_L2 N (d, pairs) (n : Int) f (i : Int) t t = some (some t', some t', true)
  | 0, i, t, _, _, h => by omega
  | f + 1, i, t, hg, hi, hf => by
    rw [m_credencelaw18_drawn_L2.eq_2, wS (by omega)]
    unfold m_credencelaw18_drawn_J6
    by_cases h1 : i + 1 < pairs.length
    · rw [if_pos (decide_eq_true (by show ((i + 1 : Nat) : Int) < (pairs.length : Int); omega))]
      by_cases h0 : 0 < n
      · rw [if_pos (decide_eq_true (by omega))]
        show ∃ t', Gr n t' ∧ ((at? pairs (i : Int)).bind fun e_119 => _) = _
        rw [at?_lt (by omega)]
        simp only [Option.bind_some]
        rw [wS (by omega), at?_lt h1]
        simp only [Option.bind_some]
        obtain ⟨k, hk, e1⟩ := pick18_eq (i := pairs[i]) ⟨h0, by omega⟩
        obtain ⟨l, hl, e2⟩ := pick18_eq (i := pairs[i + 1]) ⟨h0, by omega⟩
        rw [e1, e2]
        simp only [Option.bind_some]
        rw [Join_eq hg.tab, refJoin_eq hg.tab]
        simp only [Option.bind_some]
        rw [show IntKind.i64.wrap ((i : Int) + 2) = ((i + 2 : Nat) : Int) by rw [w64 (by omega)]; rfl]
        exact drawn18_L d pairs hp n hn f (i + 2) _ hg.join (by omega) (by omega)
      · rw [if_neg (by simp; omega)]
        exact ⟨t, hg, rfl⟩
    · rw [if_neg (by simp; omega), if_neg (by decide)]
      exact ⟨t, hg, rfl⟩
theorem drawn18_eq (pairs : List Int) (hp : pairs.length ≤ 9223372036854775000) (hN : pairs.length + 3000 < N) (d : Int) (hd : ¬ d < 0) : ∃ n t, n ≤ 14 ∧ Gr n t ∧ m_credencelaw18_drawn N (d, pairs) = some (some t, some t, true) := by
  obtain ⟨n, hn, e⟩ := pick18_eq (i := d) (n := 15) (by omega)
  unfold m_credencelaw18_drawn
  rw [if_neg (by simpa using hd), show (15 : Int) = ((15 : Nat) : Int) from rfl]
  show ∃ n t, n ≤ 14 ∧ Gr n t ∧ ((m_credencelaw18_pick d ((15 : Nat) : Int)).bind fun r_6 => _) = _
  rw [e]
  simp only [Option.bind_some]
  unfold m_graph_New
  rw [if_neg (by omega)]
  simp only [Option.bind_some, Int.toNat_natCast]
  obtain ⟨t', h1, h2⟩ := drawn18_L (N := N) d pairs hp n (by omega) N 0 _ Gr.none (Nat.zero_le _) (by omega)
  refine ⟨n, t', by omega, h1, ?_⟩
  unfold optC
  simp only []
  rw [refNew_eq (by omega) (by omega)]
  simp only [Option.bind_some]
  rw [if_neg (by decide)]
  unfold m_credencelaw18_drawn_J5
  rw [if_neg (by decide)]
  exact h2
end


section
variable {n N : Nat} {t u : List (List Bool)} {a b x y : Int}
theorem clq_own : ∀ {l : List Int} {t : List (List Bool)} (i : Nat) (h : i < l.length) (h2 : i < (clq n t l).length), l[i] ∈ (clq n t l)[i]
  | a :: l, t, 0, _, _ => insS_mem.2 (.inl rfl)
  | a :: l, t, i + 1, h, h2 => by
    simp only [clq, List.getElem_cons_succ]
    exact clq_own i _ _
theorem clq_cover : ∀ {l : List Int} {t : List (List Bool)}, Gr n t → (∀ z ∈ l, 0 ≤ z ∧ z < (n : Int)) → x ∈ l → y ∈ l → ge t x y = true → ∃ c ∈ clq n t l, x ∈ c ∧ y ∈ c
  | a :: l, t, h, hr, hx, hy, he => by
    by_cases hxa : x = a
    · subst hxa
      exact ⟨_, List.mem_cons_self, insS_mem.2 (.inl rfl), insS_mem.2 (.inr (near_mem.2 he))⟩
    · by_cases hya : y = a
      · subst hya
        exact ⟨_, List.mem_cons_self, insS_mem.2 (.inr (near_mem.2 (by rw [h.sym]; exact he))), insS_mem.2 (.inl rfl)⟩
      · have ha := hr a List.mem_cons_self
        obtain ⟨c, h1, h2⟩ := clq_cover (l := l) (h.remove ha) (fun z hz => hr z (List.mem_cons_of_mem _ hz)) ((List.mem_cons.1 hx).resolve_left hxa) ((List.mem_cons.1 hy).resolve_left hya) (by
          rw [ge_remove h ha, he]; simp [hxa, hya])
        exact ⟨c, List.mem_cons_of_mem _ h1, h2⟩
theorem clq_short : ∀ {l : List Int} {t : List (List Bool)}, Gr n t → (∀ z ∈ l, 0 ≤ z ∧ z < (n : Int)) → ∀ c ∈ clq n t l, c.length ≤ n + 1
  | a :: l, t, h, hr, c, hc => by
    rcases List.mem_cons.1 hc with rfl | hc
    · rw [insS_len]; have := near_len (a := a) h.tab; omega
    · exact clq_short (h.remove (hr a List.mem_cons_self)) (fun z hz => hr z (List.mem_cons_of_mem _ hz)) c hc

/-! ### chordal -/
theorem put_false (h : Gr n t) (hw : wantL t (near n t a) = []) : put t n a x y = false := by
  rw [← put_iff h, hw]; simp
theorem near_all (h : Gr n t) (hw : wantL t (near n t a) = []) (hx : ge t a x = true) (hy : ge t a y = true) (hxy : x ≠ y) : ge t x y = true := by
  have := put_false (x := x) (y := y) h hw
  unfold put at this
  rw [hx, hy, decide_eq_false hxy] at this
  simpa using this
theorem Peo.cut (h : Gr n t) (ha : 0 ≤ a ∧ a < (n : Int)) (hw : wantL t (near n t a) = []) : ∀ {l : List Int}, Peo t l → Peo (removeT n t a) l
  | [], _ => trivial
  | v :: l, ⟨h1, h2⟩ => by
    refine ⟨fun y hy z hz hyz e1 e2 => ?_, h2.cut h ha hw⟩
    rw [ge_remove h ha, put_false h hw, Bool.or_false] at e1 e2 ⊢
    simp only [Bool.and_eq_true, Bool.not_eq_true', decide_eq_false_iff_not] at e1 e2 ⊢
    exact ⟨⟨h1 y hy z hz hyz e1.1.1 e2.1.1, e1.2⟩, e2.2⟩
theorem Peo.uncut (h : Gr n t) (ha : 0 ≤ a ∧ a < (n : Int)) (hw : wantL t (near n t a) = []) : ∀ {l : List Int}, a ∉ l → Peo (removeT n t a) l → Peo t l
  | [], _, _ => trivial
  | v :: l, hm, ⟨h1, h2⟩ => by
    rw [List.mem_cons, not_or] at hm
    refine ⟨fun y hy z hz hyz e1 e2 => ?_, h2.uncut h ha hw hm.2⟩
    have hy2 : y ≠ a := fun e => hm.2 (e ▸ hy)
    have hz2 : z ≠ a := fun e => hm.2 (e ▸ hz)
    have := h1 y hy z hz hyz (by rw [ge_remove h ha, e1]; simp [hy2, Ne.symm hm.1]) (by rw [ge_remove h ha, e2]; simp [hz2, Ne.symm hm.1])
    rw [ge_remove h ha, put_false h hw] at this
    simp only [Bool.or_false, Bool.and_eq_true] at this
    exact this.1.1
/-- Each clique that the order takes out is one of the graph. -/
theorem fill_cliques (l : List Int) : ∀ {r : List Int} {t : List (List Bool)} {left : List Int}, Gr n t → (∀ z ∈ left, 0 ≤ z ∧ z < (n : Int)) → (∀ x y, ge t x y = true → y ∈ left) → (∀ z ∈ left, z ∈ l) → Peo t l → OrdR n (wtF n) t left r →
    ∀ c ∈ clq n t r, ∀ p ∈ c, ∀ q ∈ c, p ≠ q → ge t p q = true
  | [], t, left, _, _, _, _, _, _, c, hc, _, _, _, _, _ => by cases hc
  | a :: r, t, left, h, hr, hin, hsub, hp, ⟨h1, h2, h3⟩, c, hc, p, hpc, q, hqc, hpq => by
    have ha := hr a h1
    have hw : wantL t (near n t a) = [] := by
      obtain ⟨x, hx, hpx, hall⟩ := hp.first (fun x => decide (x ∈ left)) ⟨a, hsub a h1, by simpa using h1⟩
      have hxl : x ∈ left := by simpa using hpx
      have h0 : wantL t (near n t x) = [] := by
        refine List.eq_nil_iff_forall_not_mem.2 fun yz hyz => ?_
        obtain ⟨y, z⟩ := yz
        obtain ⟨k1, k2, k3, k4⟩ := want_mem.1 hyz
        have hy := hin _ _ k1
        have hz := hin _ _ k2
        rw [hall y (hsub y hy) z (hsub z hz) (by simpa using hy) (by simpa using hz) (fun e => by rw [e, h.irr] at k1; cases k1) (fun e => by rw [e, h.irr] at k2; cases k2) (by omega) k1 k2] at k4
        cases k4
      have h4 : wtF n t x = 0 := by unfold wtF; rw [h0]; rfl
      have h5 : (0 : Int) ≤ wtF n t a := by unfold wtF; omega
      have h6 : wtF n t a = 0 := by have := h2 x hxl; omega
      unfold wtF at h6
      exact List.length_eq_zero_iff.1 (by omega)
    rcases List.mem_cons.1 hc with rfl | hc
    · rcases insS_mem.1 hpc with rfl | hpn
      · rcases insS_mem.1 hqc with rfl | hqn
        · exact absurd rfl hpq
        · exact near_mem.1 hqn
      · rcases insS_mem.1 hqc with rfl | hqn
        · rw [h.sym]; exact near_mem.1 hpn
        · exact near_all h hw (near_mem.1 hpn) (near_mem.1 hqn) hpq
    · have := fill_cliques l (r := r) (h.remove ha) (fun z hz => hr z (List.mem_filter.1 hz).1) (fun x y he => by
        rw [ge_remove h ha, put_false h hw, Bool.or_false] at he
        simp only [Bool.and_eq_true, Bool.not_eq_true', decide_eq_false_iff_not] at he
        exact List.mem_filter.2 ⟨hin x y he.1.1, by simpa using he.2⟩) (fun z hz => hsub z (List.mem_filter.1 hz).1) (hp.cut h ha hw) h3 c hc p hpc q hqc hpq
      rw [ge_remove h ha, put_false h hw] at this
      simp only [Bool.or_false, Bool.and_eq_true] at this
      exact this.1.1
theorem Chordal_back (hn : n ≤ 1024) (hN : 2048 < N) (p0 : List (List Bool)) (hp0 : p0.length = n) :
    ∀ (j v : Nat) (rest : List (List Bool)) (out : List Bool), Gr n rest → out.length = n → v + j = n → out.count false = j →
    ∀ f, j < f → m_graph_Graph_Chordal_L1 N p0 f rest (v : Int) out = some true → ∃ l, (∀ x ∈ l, (0 ≤ x ∧ x < (n : Int)) ∧ isOut out x = false) ∧ (∀ k : Nat, k < n → out.getD k false = false → (k : Int) ∈ l) ∧ Peo rest l
  | 0, v, rest, out, hr, ho, hv, hc, f, hf, hm => by
    refine ⟨[], by simp, fun k hk he => ?_, trivial⟩
    have hkl : k < out.length := by omega
    rw [List.getD, List.getElem?_eq_getElem hkl] at he
    have : false ∈ out := he ▸ List.getElem_mem hkl
    have := List.count_pos_iff.2 this
    omega
  | j + 1, v, rest, out, hr, ho, hv, hc, f, hf, hm => by
    obtain ⟨f, rfl⟩ : ∃ g, f = g + 1 := ⟨f - 1, by omega⟩
    have hL := Chordal_L2 hr.tab hn hN (v : Int) out ho (m_graph_Graph_Chordal_L1 N p0 f) N n (Nat.le_refl _) (by omega)
    rw [Nat.sub_self] at hL
    rw [m_graph_Graph_Chordal_L1.eq_2, hp0, if_pos (decide_eq_true (by omega))] at hm
    replace hm := hL.symm.trans hm
    cases hfd : fnd n rest out n with
    | none => rw [hfd] at hm; cases hm
    | some k =>
      rw [hfd] at hm
      obtain ⟨hk, _, hrd⟩ := fnd_lt (Nat.le_refl _) hfd
      unfold ready at hrd
      simp only [Bool.and_eq_true, Bool.not_eq_true', List.isEmpty_iff] at hrd
      replace hm : m_graph_Graph_Chordal_L1 N p0 f (removeT n rest k) (IntKind.i64.wrap ((v : Int) + 1)) (out.set k true) = some true := hm
      rw [wS (by omega)] at hm
      have hkl : k < out.length := by omega
      have hka : (0 : Int) ≤ (k : Int) ∧ (k : Int) < (n : Int) := by omega
      obtain ⟨l, h1, h2, h3⟩ := Chordal_back hn hN p0 hp0 j (v + 1) _ _ (hr.remove hka) (by rw [List.length_set]; exact ho) (by omega) (by
        have hv2 : out[k] = false := by have := hrd.1; rwa [List.getD, List.getElem?_eq_getElem hkl] at this
        rw [List.count_set hkl, hv2, hc]; simp) f (by omega) hm
      have hio : ∀ z : Int, 0 ≤ z → isOut (out.set k true) z = (isOut out z || decide (z = (k : Int))) := fun z hz => by
        unfold isOut
        by_cases hzk : z = (k : Int)
        · subst hzk
          rw [Int.toNat_natCast, List.getD, List.getElem?_set_self (by omega)]; simp
        · rw [List.getD, List.getElem?_set_ne (by omega), ← List.getD, decide_eq_false hzk, Bool.or_false]
      have hkm : (k : Int) ∉ l := fun hm => by
        have := (h1 _ hm).2
        rw [hio _ (by omega)] at this; simp at this
      refine ⟨(k : Int) :: l, fun x hx => ?_, fun m hm he => ?_, fun y hy z hz hyz e1 e2 => near_all hr hrd.2 e1 e2 hyz, h3.uncut hr hka hrd.2 hkm⟩
      · rcases List.mem_cons.1 hx with rfl | hx
        · exact ⟨hka, by unfold isOut; rw [Int.toNat_natCast]; exact hrd.1⟩
        · have := h1 x hx
          refine ⟨this.1, ?_⟩
          have h4 := this.2
          rw [hio _ this.1.1, Bool.or_eq_false_iff] at h4
          exact h4.1
      · by_cases hmk : m = k
        · subst hmk; exact List.mem_cons_self
        · refine List.mem_cons_of_mem _ (h2 m hm ?_)
          have := hio (m : Int) (by omega)
          unfold isOut at this
          rw [Int.toNat_natCast] at this
          rw [this, he, decide_eq_false (by omega)]; rfl
theorem Chordal_Peo (h : Gr n t) (hn : n ≤ 1024) (hN : 2048 < N) (hc : m_graph_Graph_Chordal N t = some true) : ∃ l, (∀ k : Nat, k < n → (k : Int) ∈ l) ∧ Peo t l := by
  unfold m_graph_Graph_Chordal m_graph_Graph_Len at hc
  simp only [Option.bind_some] at hc
  rw [h.tab.len, chk_pos (by omega), chk_pos (by simp only [maxLen]; omega), Int.toNat_natCast] at hc
  obtain ⟨l, _, h2, h3⟩ := Chordal_back hn hN t h.tab.len n 0 t _ h (by simp) (by omega) (by simp) N (by omega) hc
  refine ⟨l, fun k hk => h2 k hk ?_, h3⟩
  rw [List.getD, List.getElem?_replicate]; split <;> rfl
theorem Chordal_some (h : Gr n t) (hn : n ≤ 1024) (hN : 2048 < N) : ∃ c, m_graph_Graph_Chordal N t = some c := by
  unfold m_graph_Graph_Chordal m_graph_Graph_Len
  simp only [Option.bind_some]
  rw [h.tab.len, chk_pos (by omega), chk_pos (by simp only [maxLen]; omega), Int.toNat_natCast]
  have key : ∀ (j v : Nat) (rest : List (List Bool)) (out : List Bool), Gr n rest → out.length = n → v + j = n → ∀ f, j < f → ∃ c, m_graph_Graph_Chordal_L1 N t f rest (v : Int) out = some c := by
    intro j
    induction j with
    | zero =>
      intro v rest out hr ho hv f hf
      obtain ⟨f, rfl⟩ : ∃ g, f = g + 1 := ⟨f - 1, by omega⟩
      rw [m_graph_Graph_Chordal_L1.eq_2, h.tab.len, if_neg (by simp; omega)]
      exact ⟨_, rfl⟩
    | succ j ih =>
      intro v rest out hr ho hv f hf
      obtain ⟨f, rfl⟩ : ∃ g, f = g + 1 := ⟨f - 1, by omega⟩
      have hL := Chordal_L2 hr.tab hn hN (v : Int) out ho (m_graph_Graph_Chordal_L1 N t f) N n (Nat.le_refl _) (by omega)
      rw [Nat.sub_self] at hL
      rw [m_graph_Graph_Chordal_L1.eq_2, h.tab.len, if_pos (decide_eq_true (by omega))]
      rw [show (0 : Int) = ((0 : Nat) : Int) from rfl, hL]
      cases hfd : fnd n rest out n with
      | none => exact ⟨_, rfl⟩
      | some k =>
        obtain ⟨hk, _, hrd⟩ := fnd_lt (Nat.le_refl _) hfd
        show ∃ c, m_graph_Graph_Chordal_L1 N t f _ (IntKind.i64.wrap ((v : Int) + 1)) _ = some c
        rw [wS (by omega)]
        exact ih (v + 1) _ _ (hr.remove (by omega)) (by rw [List.length_set]; exact ho) (by omega) f (by omega)
  exact key n 0 t _ h (by simp) (by omega) N (by omega)
end


set_option maxRecDepth 100000 in
theorem el3_47 : ElemOk Try.prog 3 1 8 := ⟨Try.t3, _, rfl, rfl, rfl, rfl, rfl⟩

def m_credencelaw18_all_L1 (N : Nat) (p0_g : List (List Bool)) : Nat → (List Int) → Int → Option (List Int)
  | 0, _, _ => none
  | n_1 + 1, l_4, i_8 => (m_graph_Graph_Len p0_g).bind fun r_9 => if (decide (i_8 < r_9)) = true then (chk ((l_4.length + [i_8].length) * 8 ≤ 140737488355328 ∧ l_4.length + [i_8].length ≤ maxLen) ((m_credencelaw18_all_L1 N p0_g n_1) (l_4 ++ [i_8]) (IntKind.i64.wrap (i_8 + 1)))) else (some l_4)

def m_credencelaw18_all (N : Nat) (p0_g : List (List Bool)) : Option (List Int) :=
  m_credencelaw18_all_L1 N p0_g N ([] : List Int) 0

set_option maxRecDepth 100000 in
set_option maxHeartbeats 2000000 in
theorem c_credencelaw18_all (N : Nat) (c1 : Nat) (col : Col) (w0 : World) (qc0 : Nat) (hqqc0 : qc0 ≠ 0) (o0 : GObj) (p0_g : List (List Bool)) (h0 : GO 85 86 qc0 col w0 o0 p0_g) (r : (List Int)) (hm : m_credencelaw18_all N p0_g = some r) :
    Calls Try.prog 47 #[(.pointer (some ⟨o0.g, 0, none⟩))] w0 (fun e w' => ∃ (col' : Col) (ra1 : Option Addr) (rc2 : Nat), e = .returned ((.slice ra1 r.length rc2)) ∧ Grow col w0 col' w' ∧ Own (Rep.int .i64) 3 c1 col' w' ra1 rc2 r) := by
  refine calls_of1 2 (m := 16) (args := [(.pointer (some ⟨o0.g, 0, none⟩))]) Try.func47 rfl rfl rfl rfl rfl ?_
  rw [m_credencelaw18_all.eq_1] at hm
  have hst := St.start col w0
  replace h0 := h0.start0 hqqc0
  refine wseq ?_
  refine wregion ?_
  refine lv (v := (.slice none (([] : List Int).length) 0)) rfl rfl (r_assign rfl) ?_
  refine lnil ?_
  refine wseq ?_
  refine wregion ?_
  refine lv (v := (.slice none (([] : List Int).length) 0)) rfl rfl (r_assign rfl) ?_
  refine lnil ?_
  refine wseq ?_
  refine wseq ?_
  refine wregion ?_
  refine lv (v := (.int .i64 0)) rfl rfl (r_assign rfl) ?_
  refine lnil ?_
  refine wblock ?_
  refine wloop (fun n f w_2 => ∃ (col_3 : Col) (a_5 : Option Addr) (cap_6 : Nat) (l_4 : List Int) (i_8 : Int) (n_1 : Nat), n_1 = n ∧ m_credencelaw18_all_L1 N p0_g n_1 l_4 i_8 = some r ∧ St w0 (col0 col) col_3 w_2 ∧ GO 85 86 999 col_3 w_2 o0 p0_g ∧ Own (Rep.int .i64) 3 1 col_3 w_2 a_5 cap_6 l_4 ∧ f 0 = (.pointer (some ⟨o0.g, 0, none⟩)) ∧ f 3 = (.slice a_5 l_4.length cap_6) ∧ f 4 = (.int .i64 i_8) ∧ f 1000000 = (enc [])) N ⟨(col0 col), none, 0, ([] : List Int), 0, N, rfl, hm, hst, h0, Own.nil, rfl, rfl, rfl, rfl⟩ ?_
  clear hm; intro n f w_2 hI
  obtain ⟨col_3, a_5, cap_6, l_4, i_8, n_1, hn, hm, hst, h0, h_7, hs0, hs3, hs4, hs1000000⟩ := hI
  subst hn
  refine .ld (d := 0) (v := (.pointer (some ⟨o0.g, 0, none⟩))) hs0 ?_
  refine .ld (d := 3) (v := (.slice a_5 l_4.length cap_6)) hs3 ?_
  refine .ld (d := 4) (v := (.int .i64 i_8)) hs4 ?_
  refine .ld (d := 1000000) (v := (enc [])) hs1000000 ?_
  clear hs0 hs3 hs4 hs1000000
  cases n_1 with
  | zero => rw [m_credencelaw18_all_L1.eq_1] at hm; cases hm
  | succ n_1 =>
    rw [m_credencelaw18_all_L1.eq_2] at hm
    refine wseq ?_
    refine wseq ?_
    refine wregion ?_
    refine lv (v := (.int .i64 i_8)) rfl rfl (r_move rfl) ?_
    refine lv (v := (.pointer (some ⟨o0.g, 0, none⟩))) rfl rfl (r_move rfl) ?_
    obtain ⟨r_9, hr_10, hm⟩ := bind_some hm
    refine lc rfl rfl (r_call1 Try.call15 rfl) (c_graph_Graph_Len col_3 _ 999 (by decide) o0 p0_g h0 r_9 hr_10) ?_
    rintro _ w_11 ⟨rfl, hg_12⟩
    refine ⟨_, rfl, ?_⟩
    replace hg_12 : Grow col_3 w_2 col_3 w_11 := .of_below hg_12
    replace h0 := h0.gr hg_12
    replace h_7 := h_7.gr hg_12
    replace hst := hst.grow hg_12
    refine lv (v := (.bool (decide (i_8 < r_9)))) rfl rfl (r_lss i_8 r_9 rfl rfl) ?_
    refine lnil ?_
    refine wcond (decide (i_8 < r_9)) rfl (fun hb => ?_) (fun hb => ?_)
    · rw [if_pos hb] at hm
      clear hb
      refine wskip ?_
      refine wseq ?_
      refine wblock ?_
      refine wregion ?_
      refine lv (v := (.slice a_5 l_4.length cap_6)) rfl rfl (r_move rfl) ?_
      refine lv (v := (.int .i64 i_8)) rfl rfl (r_move rfl) ?_
      refine l_lit (col := col_3) (r := (Rep.int .i64)) (xs := [i_8]) [(.int .i64 i_8)] 2 rfl Try.underlying22 el3_47 rfl rfl rfl rfl rfl rfl (by intro v hv; simp only [List.mem_cons, List.not_mem_nil, or_false] at hv; subst hv; rfl) (RowsH.ofF (Rows.consF (r := (Rep.int .i64)) (x := i_8) (cs := [(.int .i64 i_8)]) (rd_int .i64 i_8) Rows.nil0)) ?_
      intro a_13 w_14 col_15 hg_16 h_17
      replace h0 := h0.gr hg_16
      replace h_7 := h_7.gr hg_16
      replace hst := hst.grow hg_16
      obtain ⟨hb_18, hm⟩ := chk_some hm
      refine l_appendM (col := col_15) (w := w_14) (r := (Rep.int .i64)) (c := 1) (c2 := 1) (xs := l_4) (ys := [i_8]) h_7 (h_17.srcN (NB.int (k := .i64))) rfl Try.underlying22 el3_47 rfl rfl rfl hb_18.1 hb_18.2 (by decide) ?_
      intro a_19 cap_20 w_21 col_22 hk_23 h_24
      replace h0 := h0.kpp hk_23 rfl rfl
      replace h_17 := h_17.kpp hk_23 rfl rfl
      replace hst := hst.kpp hk_23 rfl rfl
      clear h_7
      refine lv (v := (.slice a_19 ((l_4 ++ [i_8]).length) cap_20)) rfl rfl (r_assign rfl) ?_
      refine lnil ?_
      refine wregion ?_
      refine lv (v := (.int .i64 i_8)) rfl rfl (r_move rfl) ?_
      refine lv (v := (.int .i64 (IntKind.i64.wrap (i_8 + 1)))) rfl rfl (r_add i_8 1 rfl rfl) ?_
      refine lv (v := (.int .i64 (IntKind.i64.wrap (i_8 + 1)))) rfl rfl (r_assign rfl) ?_
      refine lnil ?_
      exact ⟨n_1, by omega, ⟨col_22, a_19, cap_20, (l_4 ++ [i_8]), (IntKind.i64.wrap (i_8 + 1)), n_1, rfl, hm, hst, h0, h_24, rfl, rfl, rfl, rfl⟩⟩
    · rw [if_neg (by rw [hb]; decide)] at hm
      clear hb
      refine wexit (inB_hit ?_)
      refine wseq ?_
      refine wregion ?_
      refine lv (v := (.slice a_5 l_4.length cap_6)) rfl rfl (r_move rfl) ?_
      refine lv (v := (.slice a_5 l_4.length cap_6)) rfl rfl (r_assign rfl) ?_
      refine lnil ?_
      refine wret ?_
      cases hm
      exact ⟨rfl, colF w0.heap.size col col_3 (fun n => bif Nat.beq n 1 then c1 else 0), a_5, cap_6, rfl, hst.fin (fun n => bif Nat.beq n 1 then c1 else 0), hst.finOwn (g := (fun n => bif Nat.beq n 1 then c1 else 0)) rfl h_7 (by decide) (by decide) rfl⟩




def m_credencelaw18_listed_J1 (i_4 : Int) (kk_L1 : (Int → Option Bool)) : Option Bool :=
  kk_L1 (IntKind.i64.wrap (i_4 + 1))

def m_credencelaw18_listed_J2 (k_10 : Int) (kk_L2 : (Int → Bool → Bool → Option Bool)) (one_43 : Bool) (two_44 : Bool) : Option Bool :=
  kk_L2 (IntKind.i64.wrap (k_10 + 1)) one_43 two_44

def m_credencelaw18_listed_J3 (p0_l : (List (List Int))) (p2_b : Int) (i_4 : Int) (k_10 : Int) (two_12 : Bool) (kk_L2 : (Int → Bool → Bool → Option Bool)) (one_55 : Bool) : Option Bool :=
  if two_12 = true then (m_credencelaw18_listed_J2 k_10 kk_L2 one_55 true) else ((at? p0_l i_4).bind fun e_57 => (at? e_57 k_10).bind fun e_64 => m_credencelaw18_listed_J2 k_10 kk_L2 one_55 (decide (e_64 = p2_b)))

def m_credencelaw18_listed_J4 (i_4 : Int) (kk_L1 : (Int → Option Bool)) (v_78 : Bool) : Option Bool :=
  if v_78 = true then (some true) else (m_credencelaw18_listed_J1 i_4 kk_L1)

def m_credencelaw18_listed_L2 (N : Nat) (p0_l : (List (List Int))) (p1_a : Int) (p2_b : Int) (i_4 : Int) (kk_L1 : (Int → Option Bool)) : Nat → Int → Bool → Bool → Option Bool
  | 0, _, _, _ => none
  | n_7 + 1, k_10, one_11, two_12 => (at? p0_l i_4).bind fun e_13 => if (decide (k_10 < (e_13.length : Int))) = true then (if one_11 = true then (m_credencelaw18_listed_J3 p0_l p2_b i_4 k_10 two_12 (m_credencelaw18_listed_L2 N p0_l p1_a p2_b i_4 kk_L1 n_7) true) else ((at? e_13 k_10).bind fun e_72 => m_credencelaw18_listed_J3 p0_l p2_b i_4 k_10 two_12 (m_credencelaw18_listed_L2 N p0_l p1_a p2_b i_4 kk_L1 n_7) (decide (e_72 = p1_a)))) else (if one_11 = true then (m_credencelaw18_listed_J4 i_4 kk_L1 two_12) else (m_credencelaw18_listed_J4 i_4 kk_L1 false))

def m_credencelaw18_listed_L1 (N : Nat) (p0_l : (List (List Int))) (p1_a : Int) (p2_b : Int) : Nat → Int → Option Bool
  | 0, _ => none
  | n_1 + 1, i_4 => if (decide (i_4 < (p0_l.length : Int))) = true then (m_credencelaw18_listed_L2 N p0_l p1_a p2_b i_4 (m_credencelaw18_listed_L1 N p0_l p1_a p2_b n_1) N 0 false false) else (some false)

def m_credencelaw18_listed (N : Nat) (p0_l : (List (List Int))) (p1_a : Int) (p2_b : Int) : Option Bool :=
  m_credencelaw18_listed_L1 N p0_l p1_a p2_b N 0

set_option maxRecDepth 100000 in
set_option maxHeartbeats 2000000 in
theorem c_credencelaw18_listed (N : Nat) (col : Col) (w0 : World) (a0 : Option Addr) (cap0 : Nat) (p0_l : (List (List Int))) (p1_a : Int) (p2_b : Int) (h0 : Sl (Rep.slice (Rep.int .i64)) col w0 a0 cap0 p0_l) (r : Bool) (hm : m_credencelaw18_listed N p0_l p1_a p2_b = some r) :
    Calls Try.prog 49 #[(.slice a0 p0_l.length cap0), (.int .i64 p1_a), (.int .i64 p2_b)] w0 (fun e w' => e = .returned ((.bool r)) ∧ Below w0.heap.size w0 w') := by
  refine calls_of1 6 (m := 54) (args := [(.slice a0 p0_l.length cap0), (.int .i64 p1_a), (.int .i64 p2_b)]) Try.func49 rfl rfl rfl rfl rfl ?_
  rw [m_credencelaw18_listed.eq_1] at hm
  have hst := St.start col w0
  replace h0 := h0.keep (Stay.start col w0)
  refine wseq ?_
  refine wregion ?_
  refine lv (v := (.bool false)) rfl rfl (r_assign rfl) ?_
  refine lnil ?_
  refine wseq ?_
  refine wseq ?_
  refine wregion ?_
  refine lv (v := (.int .i64 0)) rfl rfl (r_assign rfl) ?_
  refine lnil ?_
  refine wblock ?_
  refine wloop (fun n f w_2 => ∃ (col_3 : Col) (i_4 : Int) (n_1 : Nat), n_1 = n ∧ m_credencelaw18_listed_L1 N p0_l p1_a p2_b n_1 i_4 = some r ∧ St w0 (col0 col) col_3 w_2 ∧ Sl (Rep.slice (Rep.int .i64)) col_3 w_2 a0 cap0 p0_l ∧ f 0 = (.slice a0 p0_l.length cap0) ∧ f 1 = (.int .i64 p1_a) ∧ f 2 = (.int .i64 p2_b) ∧ f 7 = (.int .i64 i_4) ∧ f 1000000 = (enc [])) N ⟨(col0 col), 0, N, rfl, hm, hst, h0, rfl, rfl, rfl, rfl, rfl⟩ ?_
  clear hm; intro n f w_2 hI
  obtain ⟨col_3, i_4, n_1, hn, hm, hst, h0, hs0, hs1, hs2, hs7, hs1000000⟩ := hI
  subst hn
  refine .ld (d := 0) (v := (.slice a0 p0_l.length cap0)) hs0 ?_
  refine .ld (d := 1) (v := (.int .i64 p1_a)) hs1 ?_
  refine .ld (d := 2) (v := (.int .i64 p2_b)) hs2 ?_
  refine .ld (d := 7) (v := (.int .i64 i_4)) hs7 ?_
  refine .ld (d := 1000000) (v := (enc [])) hs1000000 ?_
  clear hs0 hs1 hs2 hs7 hs1000000
  cases n_1 with
  | zero => rw [m_credencelaw18_listed_L1.eq_1] at hm; cases hm
  | succ n_1 =>
    rw [m_credencelaw18_listed_L1.eq_2] at hm
    refine wseq ?_
    refine wseq ?_
    refine wregion ?_
    refine lv (v := (.int .i64 i_4)) rfl rfl (r_move rfl) ?_
    refine lv (v := (.slice a0 p0_l.length cap0)) rfl rfl (r_move rfl) ?_
    refine lv (v := (.int .i64 (p0_l.length : Int))) rfl rfl (r_len Try.underlying33 rfl) ?_
    refine lv (v := (.bool (decide (i_4 < (p0_l.length : Int))))) rfl rfl (r_lss i_4 (p0_l.length : Int) rfl rfl) ?_
    refine lnil ?_
    refine wcond (decide (i_4 < (p0_l.length : Int))) rfl (fun hb => ?_) (fun hb => ?_)
    · rw [if_pos hb] at hm
      clear hb
      refine wskip ?_
      refine wseq ?_
      refine Wp.cut (fun f w_5 => ∃ (col_6 : Col), m_credencelaw18_listed_J1 i_4 (m_credencelaw18_listed_L1 N p0_l p1_a p2_b n_1)  = some r ∧ St w0 (col0 col) col_6 w_5 ∧ Sl (Rep.slice (Rep.int .i64)) col_6 w_5 a0 cap0 p0_l ∧ f 0 = (.slice a0 p0_l.length cap0) ∧ f 1 = (.int .i64 p1_a) ∧ f 2 = (.int .i64 p2_b) ∧ f 7 = (.int .i64 i_4) ∧ f 1000000 = (enc [])) ?_ ?_
      · intro f w_5 hJ
        obtain ⟨col_6, hm, hst, h0, hs0, hs1, hs2, hs7, hs1000000⟩ := hJ
        rw [m_credencelaw18_listed_J1.eq_1] at hm
        refine .ld (d := 0) (v := (.slice a0 p0_l.length cap0)) hs0 ?_
        refine .ld (d := 1) (v := (.int .i64 p1_a)) hs1 ?_
        refine .ld (d := 2) (v := (.int .i64 p2_b)) hs2 ?_
        refine .ld (d := 7) (v := (.int .i64 i_4)) hs7 ?_
        refine .ld (d := 1000000) (v := (enc [])) hs1000000 ?_
        clear hs0 hs1 hs2 hs7 hs1000000
        refine wregion ?_
        refine lv (v := (.int .i64 i_4)) rfl rfl (r_move rfl) ?_
        refine lv (v := (.int .i64 (IntKind.i64.wrap (i_4 + 1)))) rfl rfl (r_add i_4 1 rfl rfl) ?_
        refine lv (v := (.int .i64 (IntKind.i64.wrap (i_4 + 1)))) rfl rfl (r_assign rfl) ?_
        refine lnil ?_
        exact ⟨n_1, by omega, ⟨col_6, (IntKind.i64.wrap (i_4 + 1)), n_1, rfl, hm, hst, h0, rfl, rfl, rfl, rfl, rfl⟩⟩
      · refine wblock ?_
        refine wseq ?_
        refine wregion ?_
        refine lv (v := (.bool false)) rfl rfl (r_assign rfl) ?_
        refine lnil ?_
        refine wseq ?_
        refine wregion ?_
        refine lv (v := (.bool false)) rfl rfl (r_assign rfl) ?_
        refine lnil ?_
        refine wseq ?_
        refine wseq ?_
        refine wregion ?_
        refine lv (v := (.int .i64 0)) rfl rfl (r_assign rfl) ?_
        refine lnil ?_
        refine wblock ?_
        refine wloop (fun n f w_8 => ∃ (col_9 : Col) (k_10 : Int) (one_11 : Bool) (two_12 : Bool) (n_7 : Nat), n_7 = n ∧ m_credencelaw18_listed_L2 N p0_l p1_a p2_b i_4 (m_credencelaw18_listed_L1 N p0_l p1_a p2_b n_1) n_7 k_10 one_11 two_12 = some r ∧ St w0 (col0 col) col_9 w_8 ∧ Sl (Rep.slice (Rep.int .i64)) col_9 w_8 a0 cap0 p0_l ∧ f 0 = (.slice a0 p0_l.length cap0) ∧ f 1 = (.int .i64 p1_a) ∧ f 10 = (.int .i64 k_10) ∧ f 2 = (.int .i64 p2_b) ∧ f 7 = (.int .i64 i_4) ∧ f 8 = (.bool one_11) ∧ f 9 = (.bool two_12) ∧ f 1000000 = (enc [])) N ⟨col_3, 0, false, false, N, rfl, hm, hst, h0, rfl, rfl, rfl, rfl, rfl, rfl, rfl, rfl⟩ ?_
        clear hm; intro n f w_8 hI
        obtain ⟨col_9, k_10, one_11, two_12, n_7, hn, hm, hst, h0, hs0, hs1, hs10, hs2, hs7, hs8, hs9, hs1000000⟩ := hI
        subst hn
        refine .ld (d := 0) (v := (.slice a0 p0_l.length cap0)) hs0 ?_
        refine .ld (d := 1) (v := (.int .i64 p1_a)) hs1 ?_
        refine .ld (d := 10) (v := (.int .i64 k_10)) hs10 ?_
        refine .ld (d := 2) (v := (.int .i64 p2_b)) hs2 ?_
        refine .ld (d := 7) (v := (.int .i64 i_4)) hs7 ?_
        refine .ld (d := 8) (v := (.bool one_11)) hs8 ?_
        refine .ld (d := 9) (v := (.bool two_12)) hs9 ?_
        refine .ld (d := 1000000) (v := (enc [])) hs1000000 ?_
        clear hs0 hs1 hs10 hs2 hs7 hs8 hs9 hs1000000
        cases n_7 with
        | zero => rw [m_credencelaw18_listed_L2.eq_1] at hm; cases hm
        | succ n_7 =>
          rw [m_credencelaw18_listed_L2.eq_2] at hm
          refine wseq ?_
          refine wseq ?_
          refine wregion ?_
          refine lv (v := (.int .i64 k_10)) rfl rfl (r_move rfl) ?_
          refine lv (v := (.slice a0 p0_l.length cap0)) rfl rfl (r_move rfl) ?_
          refine lv (v := (.int .i64 i_4)) rfl rfl (r_move rfl) ?_
          obtain ⟨e_13, hj_14, hm⟩ := bind_some hm
          refine lv (v := (sptr a0 (Int.toNat i_4 * 1))) rfl rfl (r_idx Try.underlying33 Try.sizeOf22 rfl rfl (at?_some hj_14).1 (at?_some hj_14).2.1 (h0.addr hj_14)) ?_
          obtain ⟨_, hr_15, hA_16⟩ := h0.atN hj_14
          obtain ⟨⟨a_17, cap_18, rfl, h_19⟩, _⟩ := hr_15
          refine lv (v := (.slice a_17 e_13.length cap_18)) rfl rfl (r_ld Try.isAgg22 rfl hA_16.one) ?_
          refine lv (v := (.int .i64 (e_13.length : Int))) rfl rfl (r_len Try.underlying22 rfl) ?_
          refine lv (v := (.bool (decide (k_10 < (e_13.length : Int))))) rfl rfl (r_lss k_10 (e_13.length : Int) rfl rfl) ?_
          refine lnil ?_
          refine wcond (decide (k_10 < (e_13.length : Int))) rfl (fun hb => ?_) (fun hb => ?_)
          · rw [if_pos hb] at hm
            clear hb
            refine wskip ?_
            refine wseq ?_
            refine Wp.cut (fun f w_41 => ∃ (col_42 : Col) (one_43 : Bool) (two_44 : Bool), m_credencelaw18_listed_J2 k_10 (m_credencelaw18_listed_L2 N p0_l p1_a p2_b i_4 (m_credencelaw18_listed_L1 N p0_l p1_a p2_b n_1) n_7) one_43 two_44 = some r ∧ St w0 (col0 col) col_42 w_41 ∧ Sl (Rep.slice (Rep.int .i64)) col_42 w_41 a0 cap0 p0_l ∧ f 0 = (.slice a0 p0_l.length cap0) ∧ f 1 = (.int .i64 p1_a) ∧ f 10 = (.int .i64 k_10) ∧ f 2 = (.int .i64 p2_b) ∧ f 7 = (.int .i64 i_4) ∧ f 8 = (.bool one_43) ∧ f 9 = (.bool two_44) ∧ f 1000000 = (enc [])) ?_ ?_
            · intro f w_41 hJ
              obtain ⟨col_42, one_43, two_44, hm, hst, h0, hs0, hs1, hs10, hs2, hs7, hs8, hs9, hs1000000⟩ := hJ
              rw [m_credencelaw18_listed_J2.eq_1] at hm
              refine .ld (d := 0) (v := (.slice a0 p0_l.length cap0)) hs0 ?_
              refine .ld (d := 1) (v := (.int .i64 p1_a)) hs1 ?_
              refine .ld (d := 10) (v := (.int .i64 k_10)) hs10 ?_
              refine .ld (d := 2) (v := (.int .i64 p2_b)) hs2 ?_
              refine .ld (d := 7) (v := (.int .i64 i_4)) hs7 ?_
              refine .ld (d := 8) (v := (.bool one_43)) hs8 ?_
              refine .ld (d := 9) (v := (.bool two_44)) hs9 ?_
              refine .ld (d := 1000000) (v := (enc [])) hs1000000 ?_
              clear hs0 hs1 hs10 hs2 hs7 hs8 hs9 hs1000000
              refine wregion ?_
              refine lv (v := (.int .i64 k_10)) rfl rfl (r_move rfl) ?_
              refine lv (v := (.int .i64 (IntKind.i64.wrap (k_10 + 1)))) rfl rfl (r_add k_10 1 rfl rfl) ?_
              refine lv (v := (.int .i64 (IntKind.i64.wrap (k_10 + 1)))) rfl rfl (r_assign rfl) ?_
              refine lnil ?_
              exact ⟨n_7, by omega, ⟨col_42, (IntKind.i64.wrap (k_10 + 1)), one_43, two_44, n_7, rfl, hm, hst, h0, rfl, rfl, rfl, rfl, rfl, rfl, rfl, rfl⟩⟩
            · refine wblock ?_
              refine wseq ?_
              refine Wp.cut (fun f w_53 => ∃ (col_54 : Col) (one_55 : Bool), m_credencelaw18_listed_J3 p0_l p2_b i_4 k_10 two_12 (m_credencelaw18_listed_L2 N p0_l p1_a p2_b i_4 (m_credencelaw18_listed_L1 N p0_l p1_a p2_b n_1) n_7) one_55 = some r ∧ St w0 (col0 col) col_54 w_53 ∧ Sl (Rep.slice (Rep.int .i64)) col_54 w_53 a0 cap0 p0_l ∧ f 0 = (.slice a0 p0_l.length cap0) ∧ f 1 = (.int .i64 p1_a) ∧ f 10 = (.int .i64 k_10) ∧ f 2 = (.int .i64 p2_b) ∧ f 7 = (.int .i64 i_4) ∧ f 8 = (.bool one_55) ∧ f 9 = (.bool two_12) ∧ f 1000000 = (enc [])) ?_ ?_
              · intro f w_53 hJ
                obtain ⟨col_54, one_55, hm, hst, h0, hs0, hs1, hs10, hs2, hs7, hs8, hs9, hs1000000⟩ := hJ
                rw [m_credencelaw18_listed_J3.eq_1] at hm
                refine .ld (d := 0) (v := (.slice a0 p0_l.length cap0)) hs0 ?_
                refine .ld (d := 1) (v := (.int .i64 p1_a)) hs1 ?_
                refine .ld (d := 10) (v := (.int .i64 k_10)) hs10 ?_
                refine .ld (d := 2) (v := (.int .i64 p2_b)) hs2 ?_
                refine .ld (d := 7) (v := (.int .i64 i_4)) hs7 ?_
                refine .ld (d := 8) (v := (.bool one_55)) hs8 ?_
                refine .ld (d := 9) (v := (.bool two_12)) hs9 ?_
                refine .ld (d := 1000000) (v := (enc [])) hs1000000 ?_
                clear hs0 hs1 hs10 hs2 hs7 hs8 hs9 hs1000000
                refine wregion ?_
                refine lv (v := (.bool two_12)) rfl rfl (r_move rfl) ?_
                refine lv (v := (.bool two_12)) rfl rfl (r_move rfl) ?_
                by_cases hg_56 : two_12 = true
                · rw [if_pos hg_56] at hm
                  refine lp (b := two_12) 39 rfl rfl rfl rfl (by rw [hg_56]; rfl) ?_
                  refine lp (b := two_12) 39 rfl rfl rfl rfl (by rw [hg_56]; rfl) ?_
                  refine lp (b := two_12) 39 rfl rfl rfl rfl (by rw [hg_56]; rfl) ?_
                  refine lp (b := two_12) 39 rfl rfl rfl rfl (by rw [hg_56]; rfl) ?_
                  refine lp (b := two_12) 39 rfl rfl rfl rfl (by rw [hg_56]; rfl) ?_
                  refine lp (b := two_12) 39 rfl rfl rfl rfl (by rw [hg_56]; rfl) ?_
                  refine lp (b := two_12) 39 rfl rfl rfl rfl (by rw [hg_56]; rfl) ?_
                  refine lp (b := two_12) 39 rfl rfl rfl rfl (by rw [hg_56]; rfl) ?_
                  refine lp (b := two_12) 39 rfl rfl rfl rfl (by rw [hg_56]; rfl) ?_
                  refine lv (v := (.bool true)) rfl rfl (r_pickT (congrArg Value.bool hg_56) rfl) ?_
                  refine lv (v := (.bool true)) rfl rfl (r_assign rfl) ?_
                  refine lnil ?_
                  exact ⟨col_54, one_55, true, hm, hst, h0, rfl, rfl, rfl, rfl, rfl, rfl, rfl, rfl⟩
                · rw [if_neg hg_56] at hm
                  replace hg_56 := Bool.eq_false_iff.2 hg_56
                  refine lg (b := two_12) 39 rfl rfl rfl (by rw [hg_56]; rfl) ?_
                  refine lv (v := (.slice a0 p0_l.length cap0)) rfl rfl (r_move rfl) ?_
                  refine lg (b := two_12) 39 rfl rfl rfl (by rw [hg_56]; rfl) ?_
                  refine lv (v := (.int .i64 i_4)) rfl rfl (r_move rfl) ?_
                  refine lg (b := two_12) 39 rfl rfl rfl (by rw [hg_56]; rfl) ?_
                  obtain ⟨e_57, hj_58, hm⟩ := bind_some hm
                  refine lv (v := (sptr a0 (Int.toNat i_4 * 1))) rfl rfl (r_idx Try.underlying33 Try.sizeOf22 rfl rfl (at?_some hj_58).1 (at?_some hj_58).2.1 (h0.addr hj_58)) ?_
                  refine lg (b := two_12) 39 rfl rfl rfl (by rw [hg_56]; rfl) ?_
                  obtain ⟨_, hr_59, hA_60⟩ := h0.atN hj_58
                  obtain ⟨⟨a_61, cap_62, rfl, h_63⟩, _⟩ := hr_59
                  refine lv (v := (.slice a_61 e_57.length cap_62)) rfl rfl (r_ld Try.isAgg22 rfl hA_60.one) ?_
                  refine lg (b := two_12) 39 rfl rfl rfl (by rw [hg_56]; rfl) ?_
                  refine lv (v := (.int .i64 k_10)) rfl rfl (r_move rfl) ?_
                  refine lg (b := two_12) 39 rfl rfl rfl (by rw [hg_56]; rfl) ?_
                  obtain ⟨e_64, hj_65, hm⟩ := bind_some hm
                  refine lv (v := (sptr a_61 (Int.toNat k_10 * 1))) rfl rfl (r_idx Try.underlying22 Try.sizeOf3 rfl rfl (at?_some hj_65).1 (at?_some hj_65).2.1 (h_63.addr hj_65)) ?_
                  refine lg (b := two_12) 39 rfl rfl rfl (by rw [hg_56]; rfl) ?_
                  refine lv (v := (.int .i64 e_64)) rfl rfl (r_ld Try.isAgg3 rfl (h_63.atInt hj_65)) ?_
                  refine lg (b := two_12) 39 rfl rfl rfl (by rw [hg_56]; rfl) ?_
                  refine lv (v := (.int .i64 p2_b)) rfl rfl (r_move rfl) ?_
                  refine lg (b := two_12) 39 rfl rfl rfl (by rw [hg_56]; rfl) ?_
                  refine lv (v := (.bool (decide (e_64 = p2_b)))) rfl rfl (r_eql e_64 p2_b rfl rfl) ?_
                  refine lv (v := (.bool (decide (e_64 = p2_b)))) rfl rfl (r_pickF (congrArg Value.bool hg_56) rfl) ?_
                  refine lv (v := (.bool (decide (e_64 = p2_b)))) rfl rfl (r_assign rfl) ?_
                  refine lnil ?_
                  exact ⟨col_54, one_55, (decide (e_64 = p2_b)), hm, hst, h0, rfl, rfl, rfl, rfl, rfl, rfl, rfl, rfl⟩
              · refine wregion ?_
                refine lv (v := (.bool one_11)) rfl rfl (r_move rfl) ?_
                refine lv (v := (.bool one_11)) rfl rfl (r_move rfl) ?_
                by_cases hg_66 : one_11 = true
                · rw [if_pos hg_66] at hm
                  refine lp (b := one_11) 27 rfl rfl rfl rfl (by rw [hg_66]; rfl) ?_
                  refine lp (b := one_11) 27 rfl rfl rfl rfl (by rw [hg_66]; rfl) ?_
                  refine lp (b := one_11) 27 rfl rfl rfl rfl (by rw [hg_66]; rfl) ?_
                  refine lp (b := one_11) 27 rfl rfl rfl rfl (by rw [hg_66]; rfl) ?_
                  refine lp (b := one_11) 27 rfl rfl rfl rfl (by rw [hg_66]; rfl) ?_
                  refine lp (b := one_11) 27 rfl rfl rfl rfl (by rw [hg_66]; rfl) ?_
                  refine lp (b := one_11) 27 rfl rfl rfl rfl (by rw [hg_66]; rfl) ?_
                  refine lp (b := one_11) 27 rfl rfl rfl rfl (by rw [hg_66]; rfl) ?_
                  refine lp (b := one_11) 27 rfl rfl rfl rfl (by rw [hg_66]; rfl) ?_
                  refine lv (v := (.bool true)) rfl rfl (r_pickT (congrArg Value.bool hg_66) rfl) ?_
                  refine lv (v := (.bool true)) rfl rfl (r_assign rfl) ?_
                  refine lnil ?_
                  exact ⟨col_9, true, hm, hst, h0, rfl, rfl, rfl, rfl, rfl, rfl, rfl, rfl⟩
                · rw [if_neg hg_66] at hm
                  replace hg_66 := Bool.eq_false_iff.2 hg_66
                  refine lg (b := one_11) 27 rfl rfl rfl (by rw [hg_66]; rfl) ?_
                  refine lv (v := (.slice a0 p0_l.length cap0)) rfl rfl (r_move rfl) ?_
                  refine lg (b := one_11) 27 rfl rfl rfl (by rw [hg_66]; rfl) ?_
                  refine lv (v := (.int .i64 i_4)) rfl rfl (r_move rfl) ?_
                  refine lg (b := one_11) 27 rfl rfl rfl (by rw [hg_66]; rfl) ?_
                  refine lv (v := (sptr a0 (Int.toNat i_4 * 1))) rfl rfl (r_idx Try.underlying33 Try.sizeOf22 rfl rfl (at?_some hj_14).1 (at?_some hj_14).2.1 (h0.addr hj_14)) ?_
                  refine lg (b := one_11) 27 rfl rfl rfl (by rw [hg_66]; rfl) ?_
                  obtain ⟨_, hr_67, hA_68⟩ := h0.atN hj_14
                  obtain ⟨⟨a_69, cap_70, rfl, h_71⟩, _⟩ := hr_67
                  refine lv (v := (.slice a_69 e_13.length cap_70)) rfl rfl (r_ld Try.isAgg22 rfl hA_68.one) ?_
                  refine lg (b := one_11) 27 rfl rfl rfl (by rw [hg_66]; rfl) ?_
                  refine lv (v := (.int .i64 k_10)) rfl rfl (r_move rfl) ?_
                  refine lg (b := one_11) 27 rfl rfl rfl (by rw [hg_66]; rfl) ?_
                  obtain ⟨e_72, hj_73, hm⟩ := bind_some hm
                  refine lv (v := (sptr a_69 (Int.toNat k_10 * 1))) rfl rfl (r_idx Try.underlying22 Try.sizeOf3 rfl rfl (at?_some hj_73).1 (at?_some hj_73).2.1 (h_71.addr hj_73)) ?_
                  refine lg (b := one_11) 27 rfl rfl rfl (by rw [hg_66]; rfl) ?_
                  refine lv (v := (.int .i64 e_72)) rfl rfl (r_ld Try.isAgg3 rfl (h_71.atInt hj_73)) ?_
                  refine lg (b := one_11) 27 rfl rfl rfl (by rw [hg_66]; rfl) ?_
                  refine lv (v := (.int .i64 p1_a)) rfl rfl (r_move rfl) ?_
                  refine lg (b := one_11) 27 rfl rfl rfl (by rw [hg_66]; rfl) ?_
                  refine lv (v := (.bool (decide (e_72 = p1_a)))) rfl rfl (r_eql e_72 p1_a rfl rfl) ?_
                  refine lv (v := (.bool (decide (e_72 = p1_a)))) rfl rfl (r_pickF (congrArg Value.bool hg_66) rfl) ?_
                  refine lv (v := (.bool (decide (e_72 = p1_a)))) rfl rfl (r_assign rfl) ?_
                  refine lnil ?_
                  exact ⟨col_9, (decide (e_72 = p1_a)), hm, hst, h0, rfl, rfl, rfl, rfl, rfl, rfl, rfl, rfl⟩
          · rw [if_neg (by rw [hb]; decide)] at hm
            clear hb
            refine wexit (inB_hit ?_)
            refine wseq ?_
            refine Wp.cut (fun f w_76 => ∃ (col_77 : Col) (v_78 : Bool), m_credencelaw18_listed_J4 i_4 (m_credencelaw18_listed_L1 N p0_l p1_a p2_b n_1) v_78 = some r ∧ St w0 (col0 col) col_77 w_76 ∧ Sl (Rep.slice (Rep.int .i64)) col_77 w_76 a0 cap0 p0_l ∧ f 0 = (.slice a0 p0_l.length cap0) ∧ f 1 = (.int .i64 p1_a) ∧ f 2 = (.int .i64 p2_b) ∧ f 53 = (.bool v_78) ∧ f 7 = (.int .i64 i_4) ∧ f 1000000 = (enc [])) ?_ ?_
            · intro f w_76 hJ
              obtain ⟨col_77, v_78, hm, hst, h0, hs0, hs1, hs2, hs53, hs7, hs1000000⟩ := hJ
              rw [m_credencelaw18_listed_J4.eq_1] at hm
              refine .ld (d := 0) (v := (.slice a0 p0_l.length cap0)) hs0 ?_
              refine .ld (d := 1) (v := (.int .i64 p1_a)) hs1 ?_
              refine .ld (d := 2) (v := (.int .i64 p2_b)) hs2 ?_
              refine .ld (d := 53) (v := (.bool v_78)) hs53 ?_
              refine .ld (d := 7) (v := (.int .i64 i_4)) hs7 ?_
              refine .ld (d := 1000000) (v := (enc [])) hs1000000 ?_
              clear hs0 hs1 hs2 hs53 hs7 hs1000000
              refine wcond (v_78) rfl (fun hb => ?_) (fun hb => ?_)
              · rw [if_pos hb] at hm
                clear hb
                refine wseq ?_
                refine wregion ?_
                refine lv (v := (.bool true)) rfl rfl (r_assign rfl) ?_
                refine lnil ?_
                refine wret ?_
                cases hm
                exact ⟨rfl, rfl, hst.below⟩
              · rw [if_neg (by rw [hb]; decide)] at hm
                clear hb
                refine wskip ?_
                exact ⟨col_77, hm, hst, h0, rfl, rfl, rfl, rfl, rfl⟩
            · refine wregion ?_
              refine lv (v := (.bool one_11)) rfl rfl (r_move rfl) ?_
              refine lv (v := (.bool one_11)) rfl rfl (r_move rfl) ?_
              by_cases hg_79 : one_11 = true
              · rw [if_pos hg_79] at hm
                refine lg (b := one_11) 51 rfl rfl rfl (by rw [hg_79]; rfl) ?_
                refine lv (v := (.bool two_12)) rfl rfl (r_move rfl) ?_
                refine lv (v := (.bool two_12)) rfl rfl (r_pickT (congrArg Value.bool hg_79) rfl) ?_
                refine lnil ?_
                exact ⟨col_9, two_12, hm, hst, h0, rfl, rfl, rfl, rfl, rfl, rfl⟩
              · rw [if_neg hg_79] at hm
                replace hg_79 := Bool.eq_false_iff.2 hg_79
                refine lp (b := one_11) 51 rfl rfl rfl rfl (by rw [hg_79]; rfl) ?_
                refine lv (v := (.bool false)) rfl rfl (r_pickF (congrArg Value.bool hg_79) rfl) ?_
                refine lnil ?_
                exact ⟨col_9, false, hm, hst, h0, rfl, rfl, rfl, rfl, rfl, rfl⟩
    · rw [if_neg (by rw [hb]; decide)] at hm
      clear hb
      refine wexit (inB_hit ?_)
      refine wseq ?_
      refine wregion ?_
      refine lv (v := (.bool false)) rfl rfl (r_assign rfl) ?_
      refine lnil ?_
      refine wret ?_
      cases hm
      exact ⟨rfl, rfl, hst.below⟩


end Go.Proofs.Ytgkofjmeopbkbaa
