/-
  What functions of the program compute, as plain Lean functions (m_..), and proofs that they compute it (c_..). Printed by a program of the author; no conditions.
-/
import Derived.Test.YtgkofjmeopbkbaaOrderCliquesBFloat
import Derived.Test.YtgkofjmeopbkbaaProg
import Derived.Test.YtgkofjmeopbkbaaOrderCliquesBBfs
import Derived.Test.YtgkofjmeopbkbaaOrderCliquesBCompact
import Derived.Test.YtgkofjmeopbkbaaOrderCliquesBCopy
import Derived.Test.YtgkofjmeopbkbaaOrderCliquesBGraph
import Derived.Test.YtgkofjmeopbkbaaOrderCliquesBKeys
import Derived.Test.YtgkofjmeopbkbaaOrderCliquesBLibSort
import Derived.Test.YtgkofjmeopbkbaaOrderCliquesF2
set_option linter.unusedVariables false
namespace Go.Proofs.Ytgkofjmeopbkbaa
open Go Go.RowKit


set_option maxRecDepth 100000 in
theorem el3_29 : ElemOk Try.prog 3 1 8 := ⟨Try.t3, _, rfl, rfl, rfl, rfl, rfl⟩

def m_l18_awake_J1 (v_188 : Bool) : Option Bool :=
  some v_188

def m_l18_awake_J2 (v_417 : Bool) : Option Bool :=
  some v_417

def m_l18_awake (N : Nat)  : Option Bool :=
  (m_l18_drawn N (5, [0, 1, 1, 2, 2, 3, 0, 3, 3, 4])).bind fun r_6 => optC (r_6.1) (if (!r_6.2.2) = true then (some false) else ((m_order_Fill_v0n [0, 1, 2, 3, 4]).bind fun r_24 => (m_order_Degree_v0n [3, 1]).bind fun r_38 => (m_order_Cliques_v0n r_24.1).bind fun r_47 => (m_order_Width_v0n r_24.1).bind fun r_56 => (m_order_Fill_v0n ([] : List Int)).bind fun r_60 => if (decide (r_24.2 = 0)) = true then (if (decide (r_38.2 = 0)) = true then (if (decide (r_47.2 = 0)) = true then (if (decide (r_56.2 = 0)) = true then ((m_r15_Ints N r_24.1 [4, 0, 1, 2, 3]).bind fun r_198 => if r_198 = true then ((m_r15_Ints N r_38.1 [1, 3]).bind fun r_208 => if r_208 = true then (if (decide ((r_47.1.length : Int) = 5)) = true then ((at? r_47.1 1).bind fun e_214 => if (decide ((e_214.length : Int) = 3)) = true then (if (decide (r_56.1 = 2)) = true then (if (decide (r_60.2 = 2)) = true then ((m_order_Check [2, 0, 1] [0, 1, 2]).bind fun r_234 => if (decide (r_234 = 0)) = true then ((m_order_Check [0] ([] : List Int)).bind fun r_244 => m_l18_awake_J1 (decide (r_244 = 51))) else (m_l18_awake_J1 false)) else (m_l18_awake_J1 false)) else (m_l18_awake_J1 false)) else (m_l18_awake_J1 false)) else (m_l18_awake_J1 false)) else (m_l18_awake_J1 false)) else (m_l18_awake_J1 false)) else (m_l18_awake_J1 false)) else (m_l18_awake_J1 false)) else (m_l18_awake_J1 false)) else (m_l18_awake_J1 false))) (fun t_15 => if (!r_6.2.2) = true then (some false) else ((m_order_Fill N t_15 [0, 1, 2, 3, 4]).bind fun r_253 => (m_order_Degree N t_15 [3, 1]).bind fun r_267 => (m_order_Cliques N t_15 r_253.1).bind fun r_276 => (m_order_Width N t_15 r_253.1).bind fun r_285 => (m_order_Fill_v0n ([] : List Int)).bind fun r_289 => if (decide (r_253.2 = 0)) = true then (if (decide (r_267.2 = 0)) = true then (if (decide (r_276.2 = 0)) = true then (if (decide (r_285.2 = 0)) = true then ((m_r15_Ints N r_253.1 [4, 0, 1, 2, 3]).bind fun r_427 => if r_427 = true then ((m_r15_Ints N r_267.1 [1, 3]).bind fun r_437 => if r_437 = true then (if (decide ((r_276.1.length : Int) = 5)) = true then ((at? r_276.1 1).bind fun e_443 => if (decide ((e_443.length : Int) = 3)) = true then (if (decide (r_285.1 = 2)) = true then (if (decide (r_289.2 = 2)) = true then ((m_order_Check [2, 0, 1] [0, 1, 2]).bind fun r_463 => if (decide (r_463 = 0)) = true then ((m_order_Check [0] ([] : List Int)).bind fun r_473 => m_l18_awake_J2 (decide (r_473 = 51))) else (m_l18_awake_J2 false)) else (m_l18_awake_J2 false)) else (m_l18_awake_J2 false)) else (m_l18_awake_J2 false)) else (m_l18_awake_J2 false)) else (m_l18_awake_J2 false)) else (m_l18_awake_J2 false)) else (m_l18_awake_J2 false)) else (m_l18_awake_J2 false)) else (m_l18_awake_J2 false)) else (m_l18_awake_J2 false)))

set_option maxRecDepth 100000 in
set_option maxHeartbeats 2000000 in
theorem c_l18_awake (N : Nat) (col : Col) (w0 : World)  (r : Bool) (hm : m_l18_awake N = some r) :
    Calls Try.prog 29 #[] w0 (fun e w' => e = .returned ((.bool r)) ∧ Below w0.heap.size w0 w') := by
  refine calls_of1 0 (m := 106) (args := []) Try.func29 rfl rfl rfl rfl rfl ?_
  rw [m_l18_awake.eq_1] at hm
  have hst := St.start col w0
  refine wseq ?_
  refine wregion ?_
  refine lv (v := (.bool false)) rfl rfl (r_assign rfl) ?_
  refine lnil ?_
  refine wseq ?_
  refine wregion ?_
  refine l_lit (col := (col0 col)) (r := (Rep.int .i64)) (xs := [0, 1, 1, 2, 2, 3, 0, 3, 3, 4]) [(.int .i64 0), (.int .i64 1), (.int .i64 1), (.int .i64 2), (.int .i64 2), (.int .i64 3), (.int .i64 0), (.int .i64 3), (.int .i64 3), (.int .i64 4)] 1 rfl Try.underlying22 el3_29 rfl rfl rfl rfl rfl rfl (by intro v hv; simp only [List.mem_cons, List.not_mem_nil, or_false] at hv; rcases hv with rfl | rfl | rfl | rfl | rfl | rfl | rfl | rfl | rfl | rfl <;> rfl) (RowsH.ofF (Rows.consF (r := (Rep.int .i64)) (x := 0) (cs := [(.int .i64 0)]) (rd_int .i64 0) (Rows.consF (r := (Rep.int .i64)) (x := 1) (cs := [(.int .i64 1)]) (rd_int .i64 1) (Rows.consF (r := (Rep.int .i64)) (x := 1) (cs := [(.int .i64 1)]) (rd_int .i64 1) (Rows.consF (r := (Rep.int .i64)) (x := 2) (cs := [(.int .i64 2)]) (rd_int .i64 2) (Rows.consF (r := (Rep.int .i64)) (x := 2) (cs := [(.int .i64 2)]) (rd_int .i64 2) (Rows.consF (r := (Rep.int .i64)) (x := 3) (cs := [(.int .i64 3)]) (rd_int .i64 3) (Rows.consF (r := (Rep.int .i64)) (x := 0) (cs := [(.int .i64 0)]) (rd_int .i64 0) (Rows.consF (r := (Rep.int .i64)) (x := 3) (cs := [(.int .i64 3)]) (rd_int .i64 3) (Rows.consF (r := (Rep.int .i64)) (x := 3) (cs := [(.int .i64 3)]) (rd_int .i64 3) (Rows.consF (r := (Rep.int .i64)) (x := 4) (cs := [(.int .i64 4)]) (rd_int .i64 4) Rows.nil0))))))))))) ?_
  intro a_1 w_2 col_3 hg_4 h_5
  replace hst := hst.grow hg_4
  refine lv (v := (.agg #[(.int .i64 5), (.slice a_1 ([0, 1, 1, 2, 2, 3, 0, 3, 3, 4].length) 10)])) rfl rfl (r_build (l := [_, _]) (qs := [(0, 1), (1, 1)]) Try.underlying59 Try.zeroValue59 ⟨rfl, Try.sizeOf3, rfl, Try.sizeOf22, trivial⟩ rfl) ?_
  replace h_5 := (h_5).toSlF (Froz.int .i64)
  replace hst := hst.froz 1 (by decide) (by decide)
  obtain ⟨r_6, hr_7, hm⟩ := bind_some hm
  refine lc rfl rfl (r_call1 Try.call30 rfl) (c_l18_drawn N 2 3 4 (frC 1 col_3) _ a_1 10 (5, [0, 1, 1, 2, 2, 3, 0, 3, 3, 4]) h_5 r_6 hr_7) ?_
  rintro _ w_12 ⟨col_14, rv_8, rv_10, rfl, hg_13, rh_9, rh_11⟩
  refine ⟨_, rfl, ?_⟩
  replace h_5 := h_5.gr hg_13
  replace hst := hst.grow hg_13
  cases hx_16 : r_6.1 with
  | none =>
    rw [hx_16] at hm rh_9
    replace hm := optC_none hm
    obtain rfl := optP_none rh_9
    clear rh_9
    refine lv (v := (.tuple #[(.pointer none), rv_10, (.bool r_6.2.2)])) rfl rfl (r_move rfl) ?_
    refine lv (v := (.pointer none)) rfl rfl (r_extract rfl rfl) ?_
    refine lv (v := rv_10) rfl rfl (r_extract rfl rfl) ?_
    refine lv (v := (.bool r_6.2.2)) rfl rfl (r_extract rfl rfl) ?_
    refine lv (v := (.pointer none)) rfl rfl (r_assign rfl) ?_
    refine lv (v := rv_10) rfl rfl (r_assign rfl) ?_
    refine lv (v := (.bool r_6.2.2)) rfl rfl (r_assign rfl) ?_
    refine lnil ?_
    refine wseq ?_
    refine wseq ?_
    refine wregion ?_
    refine lv (v := (.bool r_6.2.2)) rfl rfl (r_move rfl) ?_
    refine lv (v := (.bool (!r_6.2.2))) rfl rfl (r_not r_6.2.2 rfl) ?_
    refine lnil ?_
    refine wcond (!r_6.2.2) rfl (fun hb => ?_) (fun hb => ?_)
    · rw [if_pos hb] at hm
      clear hb
      refine wseq ?_
      refine wregion ?_
      refine lv (v := (.bool false)) rfl rfl (r_assign rfl) ?_
      refine lnil ?_
      refine wret ?_
      cases hm
      exact ⟨rfl, rfl, hst.below⟩
    · rw [if_neg (by rw [hb]; decide)] at hm
      clear hb
      refine wskip ?_
      refine wseq ?_
      refine wregion ?_
      refine lv (v := (.pointer none)) rfl rfl (r_move rfl) ?_
      refine l_lit (col := col_14) (r := (Rep.int .i64)) (xs := [0, 1, 2, 3, 4]) [(.int .i64 0), (.int .i64 1), (.int .i64 2), (.int .i64 3), (.int .i64 4)] 5 rfl Try.underlying22 el3_29 rfl rfl rfl rfl rfl rfl (by intro v hv; simp only [List.mem_cons, List.not_mem_nil, or_false] at hv; rcases hv with rfl | rfl | rfl | rfl | rfl <;> rfl) (RowsH.ofF (Rows.consF (r := (Rep.int .i64)) (x := 0) (cs := [(.int .i64 0)]) (rd_int .i64 0) (Rows.consF (r := (Rep.int .i64)) (x := 1) (cs := [(.int .i64 1)]) (rd_int .i64 1) (Rows.consF (r := (Rep.int .i64)) (x := 2) (cs := [(.int .i64 2)]) (rd_int .i64 2) (Rows.consF (r := (Rep.int .i64)) (x := 3) (cs := [(.int .i64 3)]) (rd_int .i64 3) (Rows.consF (r := (Rep.int .i64)) (x := 4) (cs := [(.int .i64 4)]) (rd_int .i64 4) Rows.nil0)))))) ?_
      intro a_19 w_20 col_21 hg_22 h_23
      replace hst := hst.grow hg_22
      obtain ⟨r_24, hr_25, hm⟩ := bind_some hm
      refine lc rfl rfl (r_call2 Try.call32 rfl rfl) (c_order_Fill_v0n 6 (frC 5 col_21) _ a_19 5 [0, 1, 2, 3, 4] (h_23.toSlF (Froz.int .i64)) r_24 hr_25) ?_
      rintro _ w_29 ⟨col_31, ra_26, rc_27, rfl, hg_30, rh_28⟩
      refine ⟨_, rfl, ?_⟩
      replace rh_28 := rh_28.thaw (flat_int .i64) hg_30 ((Fz.refl (col := col_21)).froz 5) (by decide)
      replace hg_30 := hg_30.thawR (col := col_21)
      generalize colR w_20.heap.size col_21 col_31 = col_32 at *
      replace h_23 := h_23.gr hg_30
      replace hst := hst.grow hg_30
      refine lv (v := (.tuple #[(.slice ra_26 r_24.1.length rc_27), (.int .i64 r_24.2)])) rfl rfl (r_move rfl) ?_
      refine lv (v := (.slice ra_26 r_24.1.length rc_27)) rfl rfl (r_extract rfl rfl) ?_
      refine lv (v := (.int .i64 r_24.2)) rfl rfl (r_extract rfl rfl) ?_
      refine lv (v := (.slice ra_26 r_24.1.length rc_27)) rfl rfl (r_assign rfl) ?_
      refine lv (v := (.int .i64 r_24.2)) rfl rfl (r_assign rfl) ?_
      refine lnil ?_
      refine wseq ?_
      refine wregion ?_
      refine lv (v := (.pointer none)) rfl rfl (r_move rfl) ?_
      refine l_lit (col := col_32) (r := (Rep.int .i64)) (xs := [3, 1]) [(.int .i64 3), (.int .i64 1)] 7 rfl Try.underlying22 el3_29 rfl rfl rfl rfl rfl rfl (by intro v hv; simp only [List.mem_cons, List.not_mem_nil, or_false] at hv; rcases hv with rfl | rfl <;> rfl) (RowsH.ofF (Rows.consF (r := (Rep.int .i64)) (x := 3) (cs := [(.int .i64 3)]) (rd_int .i64 3) (Rows.consF (r := (Rep.int .i64)) (x := 1) (cs := [(.int .i64 1)]) (rd_int .i64 1) Rows.nil0))) ?_
      intro a_33 w_34 col_35 hg_36 h_37
      replace rh_28 := rh_28.gr hg_36
      replace hst := hst.grow hg_36
      obtain ⟨r_38, hr_39, hm⟩ := bind_some hm
      refine lc rfl rfl (r_call2 Try.call33 rfl rfl) (c_order_Degree_v0n 8 (frC 7 col_35) _ a_33 2 [3, 1] (h_37.toSlF (Froz.int .i64)) r_38 hr_39) ?_
      rintro _ w_43 ⟨col_45, ra_40, rc_41, rfl, hg_44, rh_42⟩
      refine ⟨_, rfl, ?_⟩
      replace rh_42 := rh_42.thaw (flat_int .i64) hg_44 ((Fz.refl (col := col_35)).froz 7) (by decide)
      replace hg_44 := hg_44.thawR (col := col_35)
      generalize colR w_34.heap.size col_35 col_45 = col_46 at *
      replace rh_28 := rh_28.gr hg_44
      replace h_37 := h_37.gr hg_44
      replace hst := hst.grow hg_44
      refine lv (v := (.tuple #[(.slice ra_40 r_38.1.length rc_41), (.int .i64 r_38.2)])) rfl rfl (r_move rfl) ?_
      refine lv (v := (.slice ra_40 r_38.1.length rc_41)) rfl rfl (r_extract rfl rfl) ?_
      refine lv (v := (.int .i64 r_38.2)) rfl rfl (r_extract rfl rfl) ?_
      refine lv (v := (.slice ra_40 r_38.1.length rc_41)) rfl rfl (r_assign rfl) ?_
      refine lv (v := (.int .i64 r_38.2)) rfl rfl (r_assign rfl) ?_
      refine lnil ?_
      refine wseq ?_
      refine wregion ?_
      refine lv (v := (.pointer none)) rfl rfl (r_move rfl) ?_
      refine lv (v := (.slice ra_26 r_24.1.length rc_27)) rfl rfl (r_move rfl) ?_
      obtain ⟨r_47, hr_48, hm⟩ := bind_some hm
      refine lc rfl rfl (r_call2 Try.call40 rfl rfl) (c_order_Cliques_v0n 9 (frC 6 col_46) _ ra_26 rc_27 r_24.1 (rh_28.toSlF (Froz.int .i64)) r_47 hr_48) ?_
      rintro _ w_52 ⟨col_54, ra_49, rc_50, rfl, hg_53, rh_51⟩
      refine ⟨_, rfl, ?_⟩
      replace rh_51 := rh_51.thaw (flat_row (flat_int .i64)) hg_53 ((Fz.refl (col := col_46)).froz 6) (by decide)
      replace hg_53 := hg_53.thawR (col := col_46)
      generalize colR w_43.heap.size col_46 col_54 = col_55 at *
      replace rh_28 := rh_28.gr hg_53
      replace rh_42 := rh_42.gr hg_53
      replace hst := hst.grow hg_53
      refine lv (v := (.tuple #[(.slice ra_49 r_47.1.length rc_50), (.int .i64 r_47.2)])) rfl rfl (r_move rfl) ?_
      refine lv (v := (.slice ra_49 r_47.1.length rc_50)) rfl rfl (r_extract rfl rfl) ?_
      refine lv (v := (.int .i64 r_47.2)) rfl rfl (r_extract rfl rfl) ?_
      refine lv (v := (.slice ra_49 r_47.1.length rc_50)) rfl rfl (r_assign rfl) ?_
      refine lv (v := (.int .i64 r_47.2)) rfl rfl (r_assign rfl) ?_
      refine lnil ?_
      refine wseq ?_
      refine wregion ?_
      refine lv (v := (.pointer none)) rfl rfl (r_move rfl) ?_
      refine lv (v := (.slice ra_26 r_24.1.length rc_27)) rfl rfl (r_move rfl) ?_
      obtain ⟨r_56, hr_57, hm⟩ := bind_some hm
      refine lc rfl rfl (r_call2 Try.call42 rfl rfl) (c_order_Width_v0n (frC 6 col_55) _ ra_26 rc_27 r_24.1 (rh_28.toSlF (Froz.int .i64)) r_56 hr_57) ?_
      rintro _ w_58 ⟨rfl, hg_59⟩
      refine ⟨_, rfl, ?_⟩
      replace hg_59 : Grow col_55 w_52 col_55 w_58 := .of_below hg_59
      replace rh_28 := rh_28.gr hg_59
      replace rh_42 := rh_42.gr hg_59
      replace rh_51 := rh_51.gr hg_59
      replace hst := hst.grow hg_59
      refine lv (v := (.tuple #[(.int .i64 r_56.1), (.int .i64 r_56.2)])) rfl rfl (r_move rfl) ?_
      refine lv (v := (.int .i64 r_56.1)) rfl rfl (r_extract rfl rfl) ?_
      refine lv (v := (.int .i64 r_56.2)) rfl rfl (r_extract rfl rfl) ?_
      refine lv (v := (.int .i64 r_56.1)) rfl rfl (r_assign rfl) ?_
      refine lv (v := (.int .i64 r_56.2)) rfl rfl (r_assign rfl) ?_
      refine lnil ?_
      refine wseq ?_
      refine wregion ?_
      obtain ⟨r_60, hr_61, hm⟩ := bind_some hm
      refine lc rfl rfl (r_call2 Try.call32 rfl rfl) (c_order_Fill_v0n 10 col_55 _ none 0 ([] : List Int) Sl.nil r_60 hr_61) ?_
      rintro _ w_65 ⟨col_67, ra_62, rc_63, rfl, hg_66, rh_64⟩
      refine ⟨_, rfl, ?_⟩
      replace rh_28 := rh_28.gr hg_66
      replace rh_42 := rh_42.gr hg_66
      replace rh_51 := rh_51.gr hg_66
      replace hst := hst.grow hg_66
      refine lv (v := (.tuple #[(.slice ra_62 r_60.1.length rc_63), (.int .i64 r_60.2)])) rfl rfl (r_move rfl) ?_
      refine lv (v := (.slice ra_62 r_60.1.length rc_63)) rfl rfl (r_extract rfl rfl) ?_
      refine lv (v := (.int .i64 r_60.2)) rfl rfl (r_extract rfl rfl) ?_
      refine lv (v := (.slice ra_62 r_60.1.length rc_63)) rfl rfl (r_assign rfl) ?_
      refine lv (v := (.int .i64 r_60.2)) rfl rfl (r_assign rfl) ?_
      refine lnil ?_
      refine wseq ?_
      refine Wp.cut (fun f w_186 => ∃ (col_187 : Col) (v_188 : Bool), m_l18_awake_J1 v_188 = some r ∧ St w0 (col0 col) col_187 w_186 ∧ f 0 = (.bool v_188) ∧ f 1000000 = (enc [])) ?_ ?_
      · intro f w_186 hJ
        obtain ⟨col_187, v_188, hm, hst, hs0, hs1000000⟩ := hJ
        rw [m_l18_awake_J1.eq_1] at hm
        refine .ld (d := 0) (v := (.bool v_188)) hs0 ?_
        refine .ld (d := 1000000) (v := (enc [])) hs1000000 ?_
        clear hs0 hs1000000
        refine wret ?_
        cases hm
        exact ⟨rfl, rfl, hst.below⟩
      · refine wregion ?_
        refine lv (v := (.int .i64 r_24.2)) rfl rfl (r_move rfl) ?_
        refine lv (v := (.bool (decide (r_24.2 = 0)))) rfl rfl (r_eql r_24.2 0 rfl rfl) ?_
        refine lv (v := (.bool (decide (r_24.2 = 0)))) rfl rfl (r_move rfl) ?_
        by_cases hg_189 : (decide (r_24.2 = 0)) = true
        · rw [if_pos hg_189] at hm
          refine lg (b := decide (r_24.2 = 0)) 53 rfl rfl rfl (by rw [hg_189]; rfl) ?_
          refine lv (v := (.int .i64 r_38.2)) rfl rfl (r_move rfl) ?_
          refine lg (b := decide (r_24.2 = 0)) 53 rfl rfl rfl (by rw [hg_189]; rfl) ?_
          refine lv (v := (.bool (decide (r_38.2 = 0)))) rfl rfl (r_eql r_38.2 0 rfl rfl) ?_
          refine lv (v := (.bool (decide (r_38.2 = 0)))) rfl rfl (r_pickT (congrArg Value.bool hg_189) rfl) ?_
          refine lv (v := (.bool (decide (r_38.2 = 0)))) rfl rfl (r_move rfl) ?_
          by_cases hg_190 : (decide (r_38.2 = 0)) = true
          · rw [if_pos hg_190] at hm
            refine lg (b := decide (r_38.2 = 0)) 57 rfl rfl rfl (by rw [hg_190]; rfl) ?_
            refine lv (v := (.int .i64 r_47.2)) rfl rfl (r_move rfl) ?_
            refine lg (b := decide (r_38.2 = 0)) 57 rfl rfl rfl (by rw [hg_190]; rfl) ?_
            refine lv (v := (.bool (decide (r_47.2 = 0)))) rfl rfl (r_eql r_47.2 0 rfl rfl) ?_
            refine lv (v := (.bool (decide (r_47.2 = 0)))) rfl rfl (r_pickT (congrArg Value.bool hg_190) rfl) ?_
            refine lv (v := (.bool (decide (r_47.2 = 0)))) rfl rfl (r_move rfl) ?_
            by_cases hg_191 : (decide (r_47.2 = 0)) = true
            · rw [if_pos hg_191] at hm
              refine lg (b := decide (r_47.2 = 0)) 61 rfl rfl rfl (by rw [hg_191]; rfl) ?_
              refine lv (v := (.int .i64 r_56.2)) rfl rfl (r_move rfl) ?_
              refine lg (b := decide (r_47.2 = 0)) 61 rfl rfl rfl (by rw [hg_191]; rfl) ?_
              refine lv (v := (.bool (decide (r_56.2 = 0)))) rfl rfl (r_eql r_56.2 0 rfl rfl) ?_
              refine lv (v := (.bool (decide (r_56.2 = 0)))) rfl rfl (r_pickT (congrArg Value.bool hg_191) rfl) ?_
              refine lv (v := (.bool (decide (r_56.2 = 0)))) rfl rfl (r_move rfl) ?_
              by_cases hg_192 : (decide (r_56.2 = 0)) = true
              · rw [if_pos hg_192] at hm
                refine lg (b := decide (r_56.2 = 0)) 65 rfl rfl rfl (by rw [hg_192]; rfl) ?_
                refine lv (v := (.slice ra_26 r_24.1.length rc_27)) rfl rfl (r_move rfl) ?_
                refine lg (b := decide (r_56.2 = 0)) 65 rfl rfl rfl (by rw [hg_192]; rfl) ?_
                refine l_lit (col := col_67) (r := (Rep.int .i64)) (xs := [4, 0, 1, 2, 3]) [(.int .i64 4), (.int .i64 0), (.int .i64 1), (.int .i64 2), (.int .i64 3)] 21 rfl Try.underlying22 el3_29 rfl rfl rfl rfl rfl rfl (by intro v hv; simp only [List.mem_cons, List.not_mem_nil, or_false] at hv; rcases hv with rfl | rfl | rfl | rfl | rfl <;> rfl) (RowsH.ofF (Rows.consF (r := (Rep.int .i64)) (x := 4) (cs := [(.int .i64 4)]) (rd_int .i64 4) (Rows.consF (r := (Rep.int .i64)) (x := 0) (cs := [(.int .i64 0)]) (rd_int .i64 0) (Rows.consF (r := (Rep.int .i64)) (x := 1) (cs := [(.int .i64 1)]) (rd_int .i64 1) (Rows.consF (r := (Rep.int .i64)) (x := 2) (cs := [(.int .i64 2)]) (rd_int .i64 2) (Rows.consF (r := (Rep.int .i64)) (x := 3) (cs := [(.int .i64 3)]) (rd_int .i64 3) Rows.nil0)))))) ?_
                intro a_193 w_194 col_195 hg_196 h_197
                replace rh_42 := rh_42.gr hg_196
                replace rh_51 := rh_51.gr hg_196
                replace rh_28 := rh_28.gr hg_196
                replace hst := hst.grow hg_196
                refine lg (b := decide (r_56.2 = 0)) 65 rfl rfl rfl (by rw [hg_192]; rfl) ?_
                obtain ⟨r_198, hr_199, hm⟩ := bind_some hm
                refine lc rfl rfl (r_call2 Try.call36 rfl rfl) (c_r15_Ints N (frC 21 (frC 6 col_195)) _ ra_26 rc_27 r_24.1 a_193 5 [4, 0, 1, 2, 3] ((rh_28.toSlF (Froz.int .i64)).froz 21) ((h_197.froz 6 (by decide)).toSlF (Froz.int .i64)) r_198 hr_199) ?_
                rintro _ w_200 ⟨rfl, hg_201⟩
                refine ⟨_, rfl, ?_⟩
                replace hg_201 : Grow col_195 w_194 col_195 w_200 := .of_below hg_201
                replace rh_42 := rh_42.gr hg_201
                replace rh_51 := rh_51.gr hg_201
                replace rh_28 := rh_28.gr hg_201
                replace h_197 := h_197.gr hg_201
                replace hst := hst.grow hg_201
                refine lv (v := (.bool r_198)) rfl rfl (r_pickT (congrArg Value.bool hg_192) rfl) ?_
                refine lv (v := (.bool r_198)) rfl rfl (r_move rfl) ?_
                by_cases hg_202 : r_198 = true
                · rw [if_pos hg_202] at hm
                  refine lg (b := r_198) 70 rfl rfl rfl (by rw [hg_202]; rfl) ?_
                  refine lv (v := (.slice ra_40 r_38.1.length rc_41)) rfl rfl (r_move rfl) ?_
                  refine lg (b := r_198) 70 rfl rfl rfl (by rw [hg_202]; rfl) ?_
                  refine l_lit (col := col_195) (r := (Rep.int .i64)) (xs := [1, 3]) [(.int .i64 1), (.int .i64 3)] 22 rfl Try.underlying22 el3_29 rfl rfl rfl rfl rfl rfl (by intro v hv; simp only [List.mem_cons, List.not_mem_nil, or_false] at hv; rcases hv with rfl | rfl <;> rfl) (RowsH.ofF (Rows.consF (r := (Rep.int .i64)) (x := 1) (cs := [(.int .i64 1)]) (rd_int .i64 1) (Rows.consF (r := (Rep.int .i64)) (x := 3) (cs := [(.int .i64 3)]) (rd_int .i64 3) Rows.nil0))) ?_
                  intro a_203 w_204 col_205 hg_206 h_207
                  replace rh_51 := rh_51.gr hg_206
                  replace rh_42 := rh_42.gr hg_206
                  replace hst := hst.grow hg_206
                  refine lg (b := r_198) 70 rfl rfl rfl (by rw [hg_202]; rfl) ?_
                  obtain ⟨r_208, hr_209, hm⟩ := bind_some hm
                  refine lc rfl rfl (r_call2 Try.call36 rfl rfl) (c_r15_Ints N (frC 22 (frC 8 col_205)) _ ra_40 rc_41 r_38.1 a_203 2 [1, 3] ((rh_42.toSlF (Froz.int .i64)).froz 22) ((h_207.froz 8 (by decide)).toSlF (Froz.int .i64)) r_208 hr_209) ?_
                  rintro _ w_210 ⟨rfl, hg_211⟩
                  refine ⟨_, rfl, ?_⟩
                  replace hg_211 : Grow col_205 w_204 col_205 w_210 := .of_below hg_211
                  replace rh_51 := rh_51.gr hg_211
                  replace rh_42 := rh_42.gr hg_211
                  replace h_207 := h_207.gr hg_211
                  replace hst := hst.grow hg_211
                  refine lv (v := (.bool r_208)) rfl rfl (r_pickT (congrArg Value.bool hg_202) rfl) ?_
                  refine lv (v := (.bool r_208)) rfl rfl (r_move rfl) ?_
                  by_cases hg_212 : r_208 = true
                  · rw [if_pos hg_212] at hm
                    refine lg (b := r_208) 75 rfl rfl rfl (by rw [hg_212]; rfl) ?_
                    refine lv (v := (.slice ra_49 r_47.1.length rc_50)) rfl rfl (r_move rfl) ?_
                    refine lg (b := r_208) 75 rfl rfl rfl (by rw [hg_212]; rfl) ?_
                    refine lv (v := (.int .i64 (r_47.1.length : Int))) rfl rfl (r_len Try.underlying33 rfl) ?_
                    refine lg (b := r_208) 75 rfl rfl rfl (by rw [hg_212]; rfl) ?_
                    refine lv (v := (.bool (decide ((r_47.1.length : Int) = 5)))) rfl rfl (r_eql (r_47.1.length : Int) 5 rfl rfl) ?_
                    refine lv (v := (.bool (decide ((r_47.1.length : Int) = 5)))) rfl rfl (r_pickT (congrArg Value.bool hg_212) rfl) ?_
                    refine lv (v := (.bool (decide ((r_47.1.length : Int) = 5)))) rfl rfl (r_move rfl) ?_
                    by_cases hg_213 : (decide ((r_47.1.length : Int) = 5)) = true
                    · rw [if_pos hg_213] at hm
                      refine lg (b := decide ((r_47.1.length : Int) = 5)) 80 rfl rfl rfl (by rw [hg_213]; rfl) ?_
                      refine lv (v := (.slice ra_49 r_47.1.length rc_50)) rfl rfl (r_move rfl) ?_
                      refine lg (b := decide ((r_47.1.length : Int) = 5)) 80 rfl rfl rfl (by rw [hg_213]; rfl) ?_
                      obtain ⟨e_214, hj_215, hm⟩ := bind_some hm
                      refine lv (v := (sptr ra_49 (Int.toNat 1 * 1))) rfl rfl (r_idx Try.underlying33 Try.sizeOf22 rfl rfl (at?_some hj_215).1 (at?_some hj_215).2.1 (rh_51.addr hj_215)) ?_
                      refine lg (b := decide ((r_47.1.length : Int) = 5)) 80 rfl rfl rfl (by rw [hg_213]; rfl) ?_
                      obtain ⟨_, hr_216, hA_217⟩ := rh_51.atN hj_215
                      obtain ⟨a_218, cap_219, rfl, h_220⟩ := hr_216.row
                      refine lv (v := (.slice a_218 e_214.length cap_219)) rfl rfl (r_ld Try.isAgg22 rfl hA_217.one) ?_
                      refine lg (b := decide ((r_47.1.length : Int) = 5)) 80 rfl rfl rfl (by rw [hg_213]; rfl) ?_
                      refine lv (v := (.int .i64 (e_214.length : Int))) rfl rfl (r_len Try.underlying22 rfl) ?_
                      refine lg (b := decide ((r_47.1.length : Int) = 5)) 80 rfl rfl rfl (by rw [hg_213]; rfl) ?_
                      refine lv (v := (.bool (decide ((e_214.length : Int) = 3)))) rfl rfl (r_eql (e_214.length : Int) 3 rfl rfl) ?_
                      refine lv (v := (.bool (decide ((e_214.length : Int) = 3)))) rfl rfl (r_pickT (congrArg Value.bool hg_213) rfl) ?_
                      refine lv (v := (.bool (decide ((e_214.length : Int) = 3)))) rfl rfl (r_move rfl) ?_
                      by_cases hg_221 : (decide ((e_214.length : Int) = 3)) = true
                      · rw [if_pos hg_221] at hm
                        refine lg (b := decide ((e_214.length : Int) = 3)) 87 rfl rfl rfl (by rw [hg_221]; rfl) ?_
                        refine lv (v := (.int .i64 r_56.1)) rfl rfl (r_move rfl) ?_
                        refine lg (b := decide ((e_214.length : Int) = 3)) 87 rfl rfl rfl (by rw [hg_221]; rfl) ?_
                        refine lv (v := (.bool (decide (r_56.1 = 2)))) rfl rfl (r_eql r_56.1 2 rfl rfl) ?_
                        refine lv (v := (.bool (decide (r_56.1 = 2)))) rfl rfl (r_pickT (congrArg Value.bool hg_221) rfl) ?_
                        refine lv (v := (.bool (decide (r_56.1 = 2)))) rfl rfl (r_move rfl) ?_
                        by_cases hg_222 : (decide (r_56.1 = 2)) = true
                        · rw [if_pos hg_222] at hm
                          refine lg (b := decide (r_56.1 = 2)) 91 rfl rfl rfl (by rw [hg_222]; rfl) ?_
                          refine lv (v := (.int .i64 r_60.2)) rfl rfl (r_move rfl) ?_
                          refine lg (b := decide (r_56.1 = 2)) 91 rfl rfl rfl (by rw [hg_222]; rfl) ?_
                          refine lv (v := (.bool (decide (r_60.2 = 2)))) rfl rfl (r_eql r_60.2 2 rfl rfl) ?_
                          refine lv (v := (.bool (decide (r_60.2 = 2)))) rfl rfl (r_pickT (congrArg Value.bool hg_222) rfl) ?_
                          refine lv (v := (.bool (decide (r_60.2 = 2)))) rfl rfl (r_move rfl) ?_
                          by_cases hg_223 : (decide (r_60.2 = 2)) = true
                          · rw [if_pos hg_223] at hm
                            refine lg (b := decide (r_60.2 = 2)) 95 rfl rfl rfl (by rw [hg_223]; rfl) ?_
                            refine l_lit (col := col_205) (r := (Rep.int .i64)) (xs := [2, 0, 1]) [(.int .i64 2), (.int .i64 0), (.int .i64 1)] 23 rfl Try.underlying22 el3_29 rfl rfl rfl rfl rfl rfl (by intro v hv; simp only [List.mem_cons, List.not_mem_nil, or_false] at hv; rcases hv with rfl | rfl | rfl <;> rfl) (RowsH.ofF (Rows.consF (r := (Rep.int .i64)) (x := 2) (cs := [(.int .i64 2)]) (rd_int .i64 2) (Rows.consF (r := (Rep.int .i64)) (x := 0) (cs := [(.int .i64 0)]) (rd_int .i64 0) (Rows.consF (r := (Rep.int .i64)) (x := 1) (cs := [(.int .i64 1)]) (rd_int .i64 1) Rows.nil0)))) ?_
                            intro a_224 w_225 col_226 hg_227 h_228
                            replace hst := hst.grow hg_227
                            refine lg (b := decide (r_60.2 = 2)) 95 rfl rfl rfl (by rw [hg_223]; rfl) ?_
                            refine l_lit (col := col_226) (r := (Rep.int .i64)) (xs := [0, 1, 2]) [(.int .i64 0), (.int .i64 1), (.int .i64 2)] 24 rfl Try.underlying22 el3_29 rfl rfl rfl rfl rfl rfl (by intro v hv; simp only [List.mem_cons, List.not_mem_nil, or_false] at hv; rcases hv with rfl | rfl | rfl <;> rfl) (RowsH.ofF (Rows.consF (r := (Rep.int .i64)) (x := 0) (cs := [(.int .i64 0)]) (rd_int .i64 0) (Rows.consF (r := (Rep.int .i64)) (x := 1) (cs := [(.int .i64 1)]) (rd_int .i64 1) (Rows.consF (r := (Rep.int .i64)) (x := 2) (cs := [(.int .i64 2)]) (rd_int .i64 2) Rows.nil0)))) ?_
                            intro a_229 w_230 col_231 hg_232 h_233
                            replace h_228 := h_228.gr hg_232
                            replace hst := hst.grow hg_232
                            refine lg (b := decide (r_60.2 = 2)) 95 rfl rfl rfl (by rw [hg_223]; rfl) ?_
                            obtain ⟨r_234, hr_235, hm⟩ := bind_some hm
                            refine lc rfl rfl (r_call2 Try.call45 rfl rfl) (c_order_Check (frC 24 (frC 23 col_231)) _ a_224 3 [2, 0, 1] a_229 3 [0, 1, 2] ((h_228.toSlF (Froz.int .i64)).froz 24) ((h_233.froz 23 (by decide)).toSlF (Froz.int .i64)) r_234 hr_235) ?_
                            rintro _ w_236 ⟨rfl, hg_237⟩
                            refine ⟨_, rfl, ?_⟩
                            replace hg_237 : Grow col_231 w_230 col_231 w_236 := .of_below hg_237
                            replace h_228 := h_228.gr hg_237
                            replace h_233 := h_233.gr hg_237
                            replace hst := hst.grow hg_237
                            refine lg (b := decide (r_60.2 = 2)) 95 rfl rfl rfl (by rw [hg_223]; rfl) ?_
                            refine lv (v := (.bool (decide (r_234 = 0)))) rfl rfl (r_eql r_234 0 rfl rfl) ?_
                            refine lv (v := (.bool (decide (r_234 = 0)))) rfl rfl (r_pickT (congrArg Value.bool hg_223) rfl) ?_
                            refine lv (v := (.bool (decide (r_234 = 0)))) rfl rfl (r_move rfl) ?_
                            by_cases hg_238 : (decide (r_234 = 0)) = true
                            · rw [if_pos hg_238] at hm
                              refine lg (b := decide (r_234 = 0)) 101 rfl rfl rfl (by rw [hg_238]; rfl) ?_
                              refine l_lit (col := col_231) (r := (Rep.int .i64)) (xs := [0]) [(.int .i64 0)] 25 rfl Try.underlying22 el3_29 rfl rfl rfl rfl rfl rfl (by intro v hv; simp only [List.mem_cons, List.not_mem_nil, or_false] at hv; subst hv; rfl) (RowsH.ofF (Rows.consF (r := (Rep.int .i64)) (x := 0) (cs := [(.int .i64 0)]) (rd_int .i64 0) Rows.nil0)) ?_
                              intro a_239 w_240 col_241 hg_242 h_243
                              replace hst := hst.grow hg_242
                              refine lg (b := decide (r_234 = 0)) 101 rfl rfl rfl (by rw [hg_238]; rfl) ?_
                              obtain ⟨r_244, hr_245, hm⟩ := bind_some hm
                              refine lc rfl rfl (r_call2 Try.call45 rfl rfl) (c_order_Check (frC 25 col_241) _ a_239 1 [0] none 0 ([] : List Int) (h_243.toSlF (Froz.int .i64)) Sl.nil r_244 hr_245) ?_
                              rintro _ w_246 ⟨rfl, hg_247⟩
                              refine ⟨_, rfl, ?_⟩
                              replace hg_247 : Grow col_241 w_240 col_241 w_246 := .of_below hg_247
                              replace h_243 := h_243.gr hg_247
                              replace hst := hst.grow hg_247
                              refine lg (b := decide (r_234 = 0)) 101 rfl rfl rfl (by rw [hg_238]; rfl) ?_
                              refine lv (v := (.bool (decide (r_244 = 51)))) rfl rfl (r_eql r_244 51 rfl rfl) ?_
                              refine lv (v := (.bool (decide (r_244 = 51)))) rfl rfl (r_pickT (congrArg Value.bool hg_238) rfl) ?_
                              refine lv (v := (.bool (decide (r_244 = 51)))) rfl rfl (r_assign rfl) ?_
                              refine lnil ?_
                              exact ⟨col_241, (decide (r_244 = 51)), hm, hst, rfl, rfl⟩
                            · rw [if_neg hg_238] at hm
                              replace hg_238 := Bool.eq_false_iff.2 hg_238
                              refine lp (b := decide (r_234 = 0)) 101 rfl rfl rfl rfl (by rw [hg_238]; rfl) ?_
                              refine lp (b := decide (r_234 = 0)) 101 rfl rfl rfl rfl (by rw [hg_238]; rfl) ?_
                              refine lp (b := decide (r_234 = 0)) 101 rfl rfl rfl rfl (by rw [hg_238]; rfl) ?_
                              refine lv (v := (.bool false)) rfl rfl (r_pickF (congrArg Value.bool hg_238) rfl) ?_
                              refine lv (v := (.bool false)) rfl rfl (r_assign rfl) ?_
                              refine lnil ?_
                              exact ⟨col_231, false, hm, hst, rfl, rfl⟩
                          · rw [if_neg hg_223] at hm
                            replace hg_223 := Bool.eq_false_iff.2 hg_223
                            refine lp (b := decide (r_60.2 = 2)) 95 rfl rfl rfl rfl (by rw [hg_223]; rfl) ?_
                            refine lp (b := decide (r_60.2 = 2)) 95 rfl rfl rfl rfl (by rw [hg_223]; rfl) ?_
                            refine lp (b := decide (r_60.2 = 2)) 95 rfl rfl rfl rfl (by rw [hg_223]; rfl) ?_
                            refine lp (b := decide (r_60.2 = 2)) 95 rfl rfl rfl rfl (by rw [hg_223]; rfl) ?_
                            refine lv (v := (.bool false)) rfl rfl (r_pickF (congrArg Value.bool hg_223) rfl) ?_
                            refine lv (v := (.bool false)) rfl rfl (r_move rfl) ?_
                            refine lp (b := false) 101 rfl rfl rfl rfl rfl ?_
                            refine lp (b := false) 101 rfl rfl rfl rfl rfl ?_
                            refine lp (b := false) 101 rfl rfl rfl rfl rfl ?_
                            refine lv (v := (.bool false)) rfl rfl (r_pickF rfl rfl) ?_
                            refine lv (v := (.bool false)) rfl rfl (r_assign rfl) ?_
                            refine lnil ?_
                            exact ⟨col_205, false, hm, hst, rfl, rfl⟩
                        · rw [if_neg hg_222] at hm
                          replace hg_222 := Bool.eq_false_iff.2 hg_222
                          refine lp (b := decide (r_56.1 = 2)) 91 rfl rfl rfl rfl (by rw [hg_222]; rfl) ?_
                          refine lp (b := decide (r_56.1 = 2)) 91 rfl rfl rfl rfl (by rw [hg_222]; rfl) ?_
                          refine lv (v := (.bool false)) rfl rfl (r_pickF (congrArg Value.bool hg_222) rfl) ?_
                          refine lv (v := (.bool false)) rfl rfl (r_move rfl) ?_
                          refine lp (b := false) 95 rfl rfl rfl rfl rfl ?_
                          refine lp (b := false) 95 rfl rfl rfl rfl rfl ?_
                          refine lp (b := false) 95 rfl rfl rfl rfl rfl ?_
                          refine lp (b := false) 95 rfl rfl rfl rfl rfl ?_
                          refine lv (v := (.bool false)) rfl rfl (r_pickF rfl rfl) ?_
                          refine lv (v := (.bool false)) rfl rfl (r_move rfl) ?_
                          refine lp (b := false) 101 rfl rfl rfl rfl rfl ?_
                          refine lp (b := false) 101 rfl rfl rfl rfl rfl ?_
                          refine lp (b := false) 101 rfl rfl rfl rfl rfl ?_
                          refine lv (v := (.bool false)) rfl rfl (r_pickF rfl rfl) ?_
                          refine lv (v := (.bool false)) rfl rfl (r_assign rfl) ?_
                          refine lnil ?_
                          exact ⟨col_205, false, hm, hst, rfl, rfl⟩
                      · rw [if_neg hg_221] at hm
                        replace hg_221 := Bool.eq_false_iff.2 hg_221
                        refine lp (b := decide ((e_214.length : Int) = 3)) 87 rfl rfl rfl rfl (by rw [hg_221]; rfl) ?_
                        refine lp (b := decide ((e_214.length : Int) = 3)) 87 rfl rfl rfl rfl (by rw [hg_221]; rfl) ?_
                        refine lv (v := (.bool false)) rfl rfl (r_pickF (congrArg Value.bool hg_221) rfl) ?_
                        refine lv (v := (.bool false)) rfl rfl (r_move rfl) ?_
                        refine lp (b := false) 91 rfl rfl rfl rfl rfl ?_
                        refine lp (b := false) 91 rfl rfl rfl rfl rfl ?_
                        refine lv (v := (.bool false)) rfl rfl (r_pickF rfl rfl) ?_
                        refine lv (v := (.bool false)) rfl rfl (r_move rfl) ?_
                        refine lp (b := false) 95 rfl rfl rfl rfl rfl ?_
                        refine lp (b := false) 95 rfl rfl rfl rfl rfl ?_
                        refine lp (b := false) 95 rfl rfl rfl rfl rfl ?_
                        refine lp (b := false) 95 rfl rfl rfl rfl rfl ?_
                        refine lv (v := (.bool false)) rfl rfl (r_pickF rfl rfl) ?_
                        refine lv (v := (.bool false)) rfl rfl (r_move rfl) ?_
                        refine lp (b := false) 101 rfl rfl rfl rfl rfl ?_
                        refine lp (b := false) 101 rfl rfl rfl rfl rfl ?_
                        refine lp (b := false) 101 rfl rfl rfl rfl rfl ?_
                        refine lv (v := (.bool false)) rfl rfl (r_pickF rfl rfl) ?_
                        refine lv (v := (.bool false)) rfl rfl (r_assign rfl) ?_
                        refine lnil ?_
                        exact ⟨col_205, false, hm, hst, rfl, rfl⟩
                    · rw [if_neg hg_213] at hm
                      replace hg_213 := Bool.eq_false_iff.2 hg_213
                      refine lp (b := decide ((r_47.1.length : Int) = 5)) 80 rfl rfl rfl rfl (by rw [hg_213]; rfl) ?_
                      refine lp (b := decide ((r_47.1.length : Int) = 5)) 80 rfl rfl rfl rfl (by rw [hg_213]; rfl) ?_
                      refine lp (b := decide ((r_47.1.length : Int) = 5)) 80 rfl rfl rfl rfl (by rw [hg_213]; rfl) ?_
                      refine lp (b := decide ((r_47.1.length : Int) = 5)) 80 rfl rfl rfl rfl (by rw [hg_213]; rfl) ?_
                      refine lp (b := decide ((r_47.1.length : Int) = 5)) 80 rfl rfl rfl rfl (by rw [hg_213]; rfl) ?_
                      refine lv (v := (.bool false)) rfl rfl (r_pickF (congrArg Value.bool hg_213) rfl) ?_
                      refine lv (v := (.bool false)) rfl rfl (r_move rfl) ?_
                      refine lp (b := false) 87 rfl rfl rfl rfl rfl ?_
                      refine lp (b := false) 87 rfl rfl rfl rfl rfl ?_
                      refine lv (v := (.bool false)) rfl rfl (r_pickF rfl rfl) ?_
                      refine lv (v := (.bool false)) rfl rfl (r_move rfl) ?_
                      refine lp (b := false) 91 rfl rfl rfl rfl rfl ?_
                      refine lp (b := false) 91 rfl rfl rfl rfl rfl ?_
                      refine lv (v := (.bool false)) rfl rfl (r_pickF rfl rfl) ?_
                      refine lv (v := (.bool false)) rfl rfl (r_move rfl) ?_
                      refine lp (b := false) 95 rfl rfl rfl rfl rfl ?_
                      refine lp (b := false) 95 rfl rfl rfl rfl rfl ?_
                      refine lp (b := false) 95 rfl rfl rfl rfl rfl ?_
                      refine lp (b := false) 95 rfl rfl rfl rfl rfl ?_
                      refine lv (v := (.bool false)) rfl rfl (r_pickF rfl rfl) ?_
                      refine lv (v := (.bool false)) rfl rfl (r_move rfl) ?_
                      refine lp (b := false) 101 rfl rfl rfl rfl rfl ?_
                      refine lp (b := false) 101 rfl rfl rfl rfl rfl ?_
                      refine lp (b := false) 101 rfl rfl rfl rfl rfl ?_
                      refine lv (v := (.bool false)) rfl rfl (r_pickF rfl rfl) ?_
                      refine lv (v := (.bool false)) rfl rfl (r_assign rfl) ?_
                      refine lnil ?_
                      exact ⟨col_205, false, hm, hst, rfl, rfl⟩
                  · rw [if_neg hg_212] at hm
                    replace hg_212 := Bool.eq_false_iff.2 hg_212
                    refine lp (b := r_208) 75 rfl rfl rfl rfl (by rw [hg_212]; rfl) ?_
                    refine lp (b := r_208) 75 rfl rfl rfl rfl (by rw [hg_212]; rfl) ?_
                    refine lp (b := r_208) 75 rfl rfl rfl rfl (by rw [hg_212]; rfl) ?_
                    refine lv (v := (.bool false)) rfl rfl (r_pickF (congrArg Value.bool hg_212) rfl) ?_
                    refine lv (v := (.bool false)) rfl rfl (r_move rfl) ?_
                    refine lp (b := false) 80 rfl rfl rfl rfl rfl ?_
                    refine lp (b := false) 80 rfl rfl rfl rfl rfl ?_
                    refine lp (b := false) 80 rfl rfl rfl rfl rfl ?_
                    refine lp (b := false) 80 rfl rfl rfl rfl rfl ?_
                    refine lp (b := false) 80 rfl rfl rfl rfl rfl ?_
                    refine lv (v := (.bool false)) rfl rfl (r_pickF rfl rfl) ?_
                    refine lv (v := (.bool false)) rfl rfl (r_move rfl) ?_
                    refine lp (b := false) 87 rfl rfl rfl rfl rfl ?_
                    refine lp (b := false) 87 rfl rfl rfl rfl rfl ?_
                    refine lv (v := (.bool false)) rfl rfl (r_pickF rfl rfl) ?_
                    refine lv (v := (.bool false)) rfl rfl (r_move rfl) ?_
                    refine lp (b := false) 91 rfl rfl rfl rfl rfl ?_
                    refine lp (b := false) 91 rfl rfl rfl rfl rfl ?_
                    refine lv (v := (.bool false)) rfl rfl (r_pickF rfl rfl) ?_
                    refine lv (v := (.bool false)) rfl rfl (r_move rfl) ?_
                    refine lp (b := false) 95 rfl rfl rfl rfl rfl ?_
                    refine lp (b := false) 95 rfl rfl rfl rfl rfl ?_
                    refine lp (b := false) 95 rfl rfl rfl rfl rfl ?_
                    refine lp (b := false) 95 rfl rfl rfl rfl rfl ?_
                    refine lv (v := (.bool false)) rfl rfl (r_pickF rfl rfl) ?_
                    refine lv (v := (.bool false)) rfl rfl (r_move rfl) ?_
                    refine lp (b := false) 101 rfl rfl rfl rfl rfl ?_
                    refine lp (b := false) 101 rfl rfl rfl rfl rfl ?_
                    refine lp (b := false) 101 rfl rfl rfl rfl rfl ?_
                    refine lv (v := (.bool false)) rfl rfl (r_pickF rfl rfl) ?_
                    refine lv (v := (.bool false)) rfl rfl (r_assign rfl) ?_
                    refine lnil ?_
                    exact ⟨col_205, false, hm, hst, rfl, rfl⟩
                · rw [if_neg hg_202] at hm
                  replace hg_202 := Bool.eq_false_iff.2 hg_202
                  refine lp (b := r_198) 70 rfl rfl rfl rfl (by rw [hg_202]; rfl) ?_
                  refine lp (b := r_198) 70 rfl rfl rfl rfl (by rw [hg_202]; rfl) ?_
                  refine lp (b := r_198) 70 rfl rfl rfl rfl (by rw [hg_202]; rfl) ?_
                  refine lv (v := (.bool false)) rfl rfl (r_pickF (congrArg Value.bool hg_202) rfl) ?_
                  refine lv (v := (.bool false)) rfl rfl (r_move rfl) ?_
                  refine lp (b := false) 75 rfl rfl rfl rfl rfl ?_
                  refine lp (b := false) 75 rfl rfl rfl rfl rfl ?_
                  refine lp (b := false) 75 rfl rfl rfl rfl rfl ?_
                  refine lv (v := (.bool false)) rfl rfl (r_pickF rfl rfl) ?_
                  refine lv (v := (.bool false)) rfl rfl (r_move rfl) ?_
                  refine lp (b := false) 80 rfl rfl rfl rfl rfl ?_
                  refine lp (b := false) 80 rfl rfl rfl rfl rfl ?_
                  refine lp (b := false) 80 rfl rfl rfl rfl rfl ?_
                  refine lp (b := false) 80 rfl rfl rfl rfl rfl ?_
                  refine lp (b := false) 80 rfl rfl rfl rfl rfl ?_
                  refine lv (v := (.bool false)) rfl rfl (r_pickF rfl rfl) ?_
                  refine lv (v := (.bool false)) rfl rfl (r_move rfl) ?_
                  refine lp (b := false) 87 rfl rfl rfl rfl rfl ?_
                  refine lp (b := false) 87 rfl rfl rfl rfl rfl ?_
                  refine lv (v := (.bool false)) rfl rfl (r_pickF rfl rfl) ?_
                  refine lv (v := (.bool false)) rfl rfl (r_move rfl) ?_
                  refine lp (b := false) 91 rfl rfl rfl rfl rfl ?_
                  refine lp (b := false) 91 rfl rfl rfl rfl rfl ?_
                  refine lv (v := (.bool false)) rfl rfl (r_pickF rfl rfl) ?_
                  refine lv (v := (.bool false)) rfl rfl (r_move rfl) ?_
                  refine lp (b := false) 95 rfl rfl rfl rfl rfl ?_
                  refine lp (b := false) 95 rfl rfl rfl rfl rfl ?_
                  refine lp (b := false) 95 rfl rfl rfl rfl rfl ?_
                  refine lp (b := false) 95 rfl rfl rfl rfl rfl ?_
                  refine lv (v := (.bool false)) rfl rfl (r_pickF rfl rfl) ?_
                  refine lv (v := (.bool false)) rfl rfl (r_move rfl) ?_
                  refine lp (b := false) 101 rfl rfl rfl rfl rfl ?_
                  refine lp (b := false) 101 rfl rfl rfl rfl rfl ?_
                  refine lp (b := false) 101 rfl rfl rfl rfl rfl ?_
                  refine lv (v := (.bool false)) rfl rfl (r_pickF rfl rfl) ?_
                  refine lv (v := (.bool false)) rfl rfl (r_assign rfl) ?_
                  refine lnil ?_
                  exact ⟨col_195, false, hm, hst, rfl, rfl⟩
              · rw [if_neg hg_192] at hm
                replace hg_192 := Bool.eq_false_iff.2 hg_192
                refine lp (b := decide (r_56.2 = 0)) 65 rfl rfl rfl rfl (by rw [hg_192]; rfl) ?_
                refine lp (b := decide (r_56.2 = 0)) 65 rfl rfl rfl rfl (by rw [hg_192]; rfl) ?_
                refine lp (b := decide (r_56.2 = 0)) 65 rfl rfl rfl rfl (by rw [hg_192]; rfl) ?_
                refine lv (v := (.bool false)) rfl rfl (r_pickF (congrArg Value.bool hg_192) rfl) ?_
                refine lv (v := (.bool false)) rfl rfl (r_move rfl) ?_
                refine lp (b := false) 70 rfl rfl rfl rfl rfl ?_
                refine lp (b := false) 70 rfl rfl rfl rfl rfl ?_
                refine lp (b := false) 70 rfl rfl rfl rfl rfl ?_
                refine lv (v := (.bool false)) rfl rfl (r_pickF rfl rfl) ?_
                refine lv (v := (.bool false)) rfl rfl (r_move rfl) ?_
                refine lp (b := false) 75 rfl rfl rfl rfl rfl ?_
                refine lp (b := false) 75 rfl rfl rfl rfl rfl ?_
                refine lp (b := false) 75 rfl rfl rfl rfl rfl ?_
                refine lv (v := (.bool false)) rfl rfl (r_pickF rfl rfl) ?_
                refine lv (v := (.bool false)) rfl rfl (r_move rfl) ?_
                refine lp (b := false) 80 rfl rfl rfl rfl rfl ?_
                refine lp (b := false) 80 rfl rfl rfl rfl rfl ?_
                refine lp (b := false) 80 rfl rfl rfl rfl rfl ?_
                refine lp (b := false) 80 rfl rfl rfl rfl rfl ?_
                refine lp (b := false) 80 rfl rfl rfl rfl rfl ?_
                refine lv (v := (.bool false)) rfl rfl (r_pickF rfl rfl) ?_
                refine lv (v := (.bool false)) rfl rfl (r_move rfl) ?_
                refine lp (b := false) 87 rfl rfl rfl rfl rfl ?_
                refine lp (b := false) 87 rfl rfl rfl rfl rfl ?_
                refine lv (v := (.bool false)) rfl rfl (r_pickF rfl rfl) ?_
                refine lv (v := (.bool false)) rfl rfl (r_move rfl) ?_
                refine lp (b := false) 91 rfl rfl rfl rfl rfl ?_
                refine lp (b := false) 91 rfl rfl rfl rfl rfl ?_
                refine lv (v := (.bool false)) rfl rfl (r_pickF rfl rfl) ?_
                refine lv (v := (.bool false)) rfl rfl (r_move rfl) ?_
                refine lp (b := false) 95 rfl rfl rfl rfl rfl ?_
                refine lp (b := false) 95 rfl rfl rfl rfl rfl ?_
                refine lp (b := false) 95 rfl rfl rfl rfl rfl ?_
                refine lp (b := false) 95 rfl rfl rfl rfl rfl ?_
                refine lv (v := (.bool false)) rfl rfl (r_pickF rfl rfl) ?_
                refine lv (v := (.bool false)) rfl rfl (r_move rfl) ?_
                refine lp (b := false) 101 rfl rfl rfl rfl rfl ?_
                refine lp (b := false) 101 rfl rfl rfl rfl rfl ?_
                refine lp (b := false) 101 rfl rfl rfl rfl rfl ?_
                refine lv (v := (.bool false)) rfl rfl (r_pickF rfl rfl) ?_
                refine lv (v := (.bool false)) rfl rfl (r_assign rfl) ?_
                refine lnil ?_
                exact ⟨col_67, false, hm, hst, rfl, rfl⟩
            · rw [if_neg hg_191] at hm
              replace hg_191 := Bool.eq_false_iff.2 hg_191
              refine lp (b := decide (r_47.2 = 0)) 61 rfl rfl rfl rfl (by rw [hg_191]; rfl) ?_
              refine lp (b := decide (r_47.2 = 0)) 61 rfl rfl rfl rfl (by rw [hg_191]; rfl) ?_
              refine lv (v := (.bool false)) rfl rfl (r_pickF (congrArg Value.bool hg_191) rfl) ?_
              refine lv (v := (.bool false)) rfl rfl (r_move rfl) ?_
              refine lp (b := false) 65 rfl rfl rfl rfl rfl ?_
              refine lp (b := false) 65 rfl rfl rfl rfl rfl ?_
              refine lp (b := false) 65 rfl rfl rfl rfl rfl ?_
              refine lv (v := (.bool false)) rfl rfl (r_pickF rfl rfl) ?_
              refine lv (v := (.bool false)) rfl rfl (r_move rfl) ?_
              refine lp (b := false) 70 rfl rfl rfl rfl rfl ?_
              refine lp (b := false) 70 rfl rfl rfl rfl rfl ?_
              refine lp (b := false) 70 rfl rfl rfl rfl rfl ?_
              refine lv (v := (.bool false)) rfl rfl (r_pickF rfl rfl) ?_
              refine lv (v := (.bool false)) rfl rfl (r_move rfl) ?_
              refine lp (b := false) 75 rfl rfl rfl rfl rfl ?_
              refine lp (b := false) 75 rfl rfl rfl rfl rfl ?_
              refine lp (b := false) 75 rfl rfl rfl rfl rfl ?_
              refine lv (v := (.bool false)) rfl rfl (r_pickF rfl rfl) ?_
              refine lv (v := (.bool false)) rfl rfl (r_move rfl) ?_
              refine lp (b := false) 80 rfl rfl rfl rfl rfl ?_
              refine lp (b := false) 80 rfl rfl rfl rfl rfl ?_
              refine lp (b := false) 80 rfl rfl rfl rfl rfl ?_
              refine lp (b := false) 80 rfl rfl rfl rfl rfl ?_
              refine lp (b := false) 80 rfl rfl rfl rfl rfl ?_
              refine lv (v := (.bool false)) rfl rfl (r_pickF rfl rfl) ?_
              refine lv (v := (.bool false)) rfl rfl (r_move rfl) ?_
              refine lp (b := false) 87 rfl rfl rfl rfl rfl ?_
              refine lp (b := false) 87 rfl rfl rfl rfl rfl ?_
              refine lv (v := (.bool false)) rfl rfl (r_pickF rfl rfl) ?_
              refine lv (v := (.bool false)) rfl rfl (r_move rfl) ?_
              refine lp (b := false) 91 rfl rfl rfl rfl rfl ?_
              refine lp (b := false) 91 rfl rfl rfl rfl rfl ?_
              refine lv (v := (.bool false)) rfl rfl (r_pickF rfl rfl) ?_
              refine lv (v := (.bool false)) rfl rfl (r_move rfl) ?_
              refine lp (b := false) 95 rfl rfl rfl rfl rfl ?_
              refine lp (b := false) 95 rfl rfl rfl rfl rfl ?_
              refine lp (b := false) 95 rfl rfl rfl rfl rfl ?_
              refine lp (b := false) 95 rfl rfl rfl rfl rfl ?_
              refine lv (v := (.bool false)) rfl rfl (r_pickF rfl rfl) ?_
              refine lv (v := (.bool false)) rfl rfl (r_move rfl) ?_
              refine lp (b := false) 101 rfl rfl rfl rfl rfl ?_
              refine lp (b := false) 101 rfl rfl rfl rfl rfl ?_
              refine lp (b := false) 101 rfl rfl rfl rfl rfl ?_
              refine lv (v := (.bool false)) rfl rfl (r_pickF rfl rfl) ?_
              refine lv (v := (.bool false)) rfl rfl (r_assign rfl) ?_
              refine lnil ?_
              exact ⟨col_67, false, hm, hst, rfl, rfl⟩
          · rw [if_neg hg_190] at hm
            replace hg_190 := Bool.eq_false_iff.2 hg_190
            refine lp (b := decide (r_38.2 = 0)) 57 rfl rfl rfl rfl (by rw [hg_190]; rfl) ?_
            refine lp (b := decide (r_38.2 = 0)) 57 rfl rfl rfl rfl (by rw [hg_190]; rfl) ?_
            refine lv (v := (.bool false)) rfl rfl (r_pickF (congrArg Value.bool hg_190) rfl) ?_
            refine lv (v := (.bool false)) rfl rfl (r_move rfl) ?_
            refine lp (b := false) 61 rfl rfl rfl rfl rfl ?_
            refine lp (b := false) 61 rfl rfl rfl rfl rfl ?_
            refine lv (v := (.bool false)) rfl rfl (r_pickF rfl rfl) ?_
            refine lv (v := (.bool false)) rfl rfl (r_move rfl) ?_
            refine lp (b := false) 65 rfl rfl rfl rfl rfl ?_
            refine lp (b := false) 65 rfl rfl rfl rfl rfl ?_
            refine lp (b := false) 65 rfl rfl rfl rfl rfl ?_
            refine lv (v := (.bool false)) rfl rfl (r_pickF rfl rfl) ?_
            refine lv (v := (.bool false)) rfl rfl (r_move rfl) ?_
            refine lp (b := false) 70 rfl rfl rfl rfl rfl ?_
            refine lp (b := false) 70 rfl rfl rfl rfl rfl ?_
            refine lp (b := false) 70 rfl rfl rfl rfl rfl ?_
            refine lv (v := (.bool false)) rfl rfl (r_pickF rfl rfl) ?_
            refine lv (v := (.bool false)) rfl rfl (r_move rfl) ?_
            refine lp (b := false) 75 rfl rfl rfl rfl rfl ?_
            refine lp (b := false) 75 rfl rfl rfl rfl rfl ?_
            refine lp (b := false) 75 rfl rfl rfl rfl rfl ?_
            refine lv (v := (.bool false)) rfl rfl (r_pickF rfl rfl) ?_
            refine lv (v := (.bool false)) rfl rfl (r_move rfl) ?_
            refine lp (b := false) 80 rfl rfl rfl rfl rfl ?_
            refine lp (b := false) 80 rfl rfl rfl rfl rfl ?_
            refine lp (b := false) 80 rfl rfl rfl rfl rfl ?_
            refine lp (b := false) 80 rfl rfl rfl rfl rfl ?_
            refine lp (b := false) 80 rfl rfl rfl rfl rfl ?_
            refine lv (v := (.bool false)) rfl rfl (r_pickF rfl rfl) ?_
            refine lv (v := (.bool false)) rfl rfl (r_move rfl) ?_
            refine lp (b := false) 87 rfl rfl rfl rfl rfl ?_
            refine lp (b := false) 87 rfl rfl rfl rfl rfl ?_
            refine lv (v := (.bool false)) rfl rfl (r_pickF rfl rfl) ?_
            refine lv (v := (.bool false)) rfl rfl (r_move rfl) ?_
            refine lp (b := false) 91 rfl rfl rfl rfl rfl ?_
            refine lp (b := false) 91 rfl rfl rfl rfl rfl ?_
            refine lv (v := (.bool false)) rfl rfl (r_pickF rfl rfl) ?_
            refine lv (v := (.bool false)) rfl rfl (r_move rfl) ?_
            refine lp (b := false) 95 rfl rfl rfl rfl rfl ?_
            refine lp (b := false) 95 rfl rfl rfl rfl rfl ?_
            refine lp (b := false) 95 rfl rfl rfl rfl rfl ?_
            refine lp (b := false) 95 rfl rfl rfl rfl rfl ?_
            refine lv (v := (.bool false)) rfl rfl (r_pickF rfl rfl) ?_
            refine lv (v := (.bool false)) rfl rfl (r_move rfl) ?_
            refine lp (b := false) 101 rfl rfl rfl rfl rfl ?_
            refine lp (b := false) 101 rfl rfl rfl rfl rfl ?_
            refine lp (b := false) 101 rfl rfl rfl rfl rfl ?_
            refine lv (v := (.bool false)) rfl rfl (r_pickF rfl rfl) ?_
            refine lv (v := (.bool false)) rfl rfl (r_assign rfl) ?_
            refine lnil ?_
            exact ⟨col_67, false, hm, hst, rfl, rfl⟩
        · rw [if_neg hg_189] at hm
          replace hg_189 := Bool.eq_false_iff.2 hg_189
          refine lp (b := decide (r_24.2 = 0)) 53 rfl rfl rfl rfl (by rw [hg_189]; rfl) ?_
          refine lp (b := decide (r_24.2 = 0)) 53 rfl rfl rfl rfl (by rw [hg_189]; rfl) ?_
          refine lv (v := (.bool false)) rfl rfl (r_pickF (congrArg Value.bool hg_189) rfl) ?_
          refine lv (v := (.bool false)) rfl rfl (r_move rfl) ?_
          refine lp (b := false) 57 rfl rfl rfl rfl rfl ?_
          refine lp (b := false) 57 rfl rfl rfl rfl rfl ?_
          refine lv (v := (.bool false)) rfl rfl (r_pickF rfl rfl) ?_
          refine lv (v := (.bool false)) rfl rfl (r_move rfl) ?_
          refine lp (b := false) 61 rfl rfl rfl rfl rfl ?_
          refine lp (b := false) 61 rfl rfl rfl rfl rfl ?_
          refine lv (v := (.bool false)) rfl rfl (r_pickF rfl rfl) ?_
          refine lv (v := (.bool false)) rfl rfl (r_move rfl) ?_
          refine lp (b := false) 65 rfl rfl rfl rfl rfl ?_
          refine lp (b := false) 65 rfl rfl rfl rfl rfl ?_
          refine lp (b := false) 65 rfl rfl rfl rfl rfl ?_
          refine lv (v := (.bool false)) rfl rfl (r_pickF rfl rfl) ?_
          refine lv (v := (.bool false)) rfl rfl (r_move rfl) ?_
          refine lp (b := false) 70 rfl rfl rfl rfl rfl ?_
          refine lp (b := false) 70 rfl rfl rfl rfl rfl ?_
          refine lp (b := false) 70 rfl rfl rfl rfl rfl ?_
          refine lv (v := (.bool false)) rfl rfl (r_pickF rfl rfl) ?_
          refine lv (v := (.bool false)) rfl rfl (r_move rfl) ?_
          refine lp (b := false) 75 rfl rfl rfl rfl rfl ?_
          refine lp (b := false) 75 rfl rfl rfl rfl rfl ?_
          refine lp (b := false) 75 rfl rfl rfl rfl rfl ?_
          refine lv (v := (.bool false)) rfl rfl (r_pickF rfl rfl) ?_
          refine lv (v := (.bool false)) rfl rfl (r_move rfl) ?_
          refine lp (b := false) 80 rfl rfl rfl rfl rfl ?_
          refine lp (b := false) 80 rfl rfl rfl rfl rfl ?_
          refine lp (b := false) 80 rfl rfl rfl rfl rfl ?_
          refine lp (b := false) 80 rfl rfl rfl rfl rfl ?_
          refine lp (b := false) 80 rfl rfl rfl rfl rfl ?_
          refine lv (v := (.bool false)) rfl rfl (r_pickF rfl rfl) ?_
          refine lv (v := (.bool false)) rfl rfl (r_move rfl) ?_
          refine lp (b := false) 87 rfl rfl rfl rfl rfl ?_
          refine lp (b := false) 87 rfl rfl rfl rfl rfl ?_
          refine lv (v := (.bool false)) rfl rfl (r_pickF rfl rfl) ?_
          refine lv (v := (.bool false)) rfl rfl (r_move rfl) ?_
          refine lp (b := false) 91 rfl rfl rfl rfl rfl ?_
          refine lp (b := false) 91 rfl rfl rfl rfl rfl ?_
          refine lv (v := (.bool false)) rfl rfl (r_pickF rfl rfl) ?_
          refine lv (v := (.bool false)) rfl rfl (r_move rfl) ?_
          refine lp (b := false) 95 rfl rfl rfl rfl rfl ?_
          refine lp (b := false) 95 rfl rfl rfl rfl rfl ?_
          refine lp (b := false) 95 rfl rfl rfl rfl rfl ?_
          refine lp (b := false) 95 rfl rfl rfl rfl rfl ?_
          refine lv (v := (.bool false)) rfl rfl (r_pickF rfl rfl) ?_
          refine lv (v := (.bool false)) rfl rfl (r_move rfl) ?_
          refine lp (b := false) 101 rfl rfl rfl rfl rfl ?_
          refine lp (b := false) 101 rfl rfl rfl rfl rfl ?_
          refine lp (b := false) 101 rfl rfl rfl rfl rfl ?_
          refine lv (v := (.bool false)) rfl rfl (r_pickF rfl rfl) ?_
          refine lv (v := (.bool false)) rfl rfl (r_assign rfl) ?_
          refine lnil ?_
          exact ⟨col_67, false, hm, hst, rfl, rfl⟩
  | some t_15 =>
    rw [hx_16] at hm rh_9
    replace hm := optC_some hm
    obtain ⟨o_17, rfl, hG_18⟩ := optP_some rh_9
    refine lv (v := (.tuple #[(.pointer (some ⟨o_17.g, 0, none⟩)), rv_10, (.bool r_6.2.2)])) rfl rfl (r_move rfl) ?_
    refine lv (v := (.pointer (some ⟨o_17.g, 0, none⟩))) rfl rfl (r_extract rfl rfl) ?_
    refine lv (v := rv_10) rfl rfl (r_extract rfl rfl) ?_
    refine lv (v := (.bool r_6.2.2)) rfl rfl (r_extract rfl rfl) ?_
    refine lv (v := (.pointer (some ⟨o_17.g, 0, none⟩))) rfl rfl (r_assign rfl) ?_
    refine lv (v := rv_10) rfl rfl (r_assign rfl) ?_
    refine lv (v := (.bool r_6.2.2)) rfl rfl (r_assign rfl) ?_
    refine lnil ?_
    refine wseq ?_
    refine wseq ?_
    refine wregion ?_
    refine lv (v := (.bool r_6.2.2)) rfl rfl (r_move rfl) ?_
    refine lv (v := (.bool (!r_6.2.2))) rfl rfl (r_not r_6.2.2 rfl) ?_
    refine lnil ?_
    refine wcond (!r_6.2.2) rfl (fun hb => ?_) (fun hb => ?_)
    · rw [if_pos hb] at hm
      clear hb
      refine wseq ?_
      refine wregion ?_
      refine lv (v := (.bool false)) rfl rfl (r_assign rfl) ?_
      refine lnil ?_
      refine wret ?_
      cases hm
      exact ⟨rfl, rfl, hst.below⟩
    · rw [if_neg (by rw [hb]; decide)] at hm
      clear hb
      refine wskip ?_
      refine wseq ?_
      refine wregion ?_
      refine lv (v := (.pointer (some ⟨o_17.g, 0, none⟩))) rfl rfl (r_move rfl) ?_
      refine l_lit (col := col_14) (r := (Rep.int .i64)) (xs := [0, 1, 2, 3, 4]) [(.int .i64 0), (.int .i64 1), (.int .i64 2), (.int .i64 3), (.int .i64 4)] 26 rfl Try.underlying22 el3_29 rfl rfl rfl rfl rfl rfl (by intro v hv; simp only [List.mem_cons, List.not_mem_nil, or_false] at hv; rcases hv with rfl | rfl | rfl | rfl | rfl <;> rfl) (RowsH.ofF (Rows.consF (r := (Rep.int .i64)) (x := 0) (cs := [(.int .i64 0)]) (rd_int .i64 0) (Rows.consF (r := (Rep.int .i64)) (x := 1) (cs := [(.int .i64 1)]) (rd_int .i64 1) (Rows.consF (r := (Rep.int .i64)) (x := 2) (cs := [(.int .i64 2)]) (rd_int .i64 2) (Rows.consF (r := (Rep.int .i64)) (x := 3) (cs := [(.int .i64 3)]) (rd_int .i64 3) (Rows.consF (r := (Rep.int .i64)) (x := 4) (cs := [(.int .i64 4)]) (rd_int .i64 4) Rows.nil0)))))) ?_
      intro a_248 w_249 col_250 hg_251 h_252
      replace hG_18 := hG_18.gr hg_251
      replace hst := hst.grow hg_251
      obtain ⟨r_253, hr_254, hm⟩ := bind_some hm
      refine lc rfl rfl (r_call2 Try.call32 rfl rfl) (c_order_Fill N 27 (frC 26 col_250) _ 2 (by decide) o_17 t_15 a_248 5 [0, 1, 2, 3, 4] (hG_18.froz 26 (by decide)) (h_252.toSlF (Froz.int .i64)) r_253 hr_254) ?_
      rintro _ w_258 ⟨col_260, ra_255, rc_256, rfl, hg_259, rh_257⟩
      refine ⟨_, rfl, ?_⟩
      replace rh_257 := rh_257.thaw (flat_int .i64) hg_259 ((Fz.refl (col := col_250)).froz 26) (by decide)
      replace hg_259 := hg_259.thawR (col := col_250)
      generalize colR w_249.heap.size col_250 col_260 = col_261 at *
      replace hG_18 := hG_18.gr hg_259
      replace h_252 := h_252.gr hg_259
      replace hst := hst.grow hg_259
      refine lv (v := (.tuple #[(.slice ra_255 r_253.1.length rc_256), (.int .i64 r_253.2)])) rfl rfl (r_move rfl) ?_
      refine lv (v := (.slice ra_255 r_253.1.length rc_256)) rfl rfl (r_extract rfl rfl) ?_
      refine lv (v := (.int .i64 r_253.2)) rfl rfl (r_extract rfl rfl) ?_
      refine lv (v := (.slice ra_255 r_253.1.length rc_256)) rfl rfl (r_assign rfl) ?_
      refine lv (v := (.int .i64 r_253.2)) rfl rfl (r_assign rfl) ?_
      refine lnil ?_
      refine wseq ?_
      refine wregion ?_
      refine lv (v := (.pointer (some ⟨o_17.g, 0, none⟩))) rfl rfl (r_move rfl) ?_
      refine l_lit (col := col_261) (r := (Rep.int .i64)) (xs := [3, 1]) [(.int .i64 3), (.int .i64 1)] 28 rfl Try.underlying22 el3_29 rfl rfl rfl rfl rfl rfl (by intro v hv; simp only [List.mem_cons, List.not_mem_nil, or_false] at hv; rcases hv with rfl | rfl <;> rfl) (RowsH.ofF (Rows.consF (r := (Rep.int .i64)) (x := 3) (cs := [(.int .i64 3)]) (rd_int .i64 3) (Rows.consF (r := (Rep.int .i64)) (x := 1) (cs := [(.int .i64 1)]) (rd_int .i64 1) Rows.nil0))) ?_
      intro a_262 w_263 col_264 hg_265 h_266
      replace hG_18 := hG_18.gr hg_265
      replace rh_257 := rh_257.gr hg_265
      replace hst := hst.grow hg_265
      obtain ⟨r_267, hr_268, hm⟩ := bind_some hm
      refine lc rfl rfl (r_call2 Try.call33 rfl rfl) (c_order_Degree N 29 (frC 28 col_264) _ 2 (by decide) o_17 t_15 a_262 2 [3, 1] (hG_18.froz 28 (by decide)) (h_266.toSlF (Froz.int .i64)) r_267 hr_268) ?_
      rintro _ w_272 ⟨col_274, ra_269, rc_270, rfl, hg_273, rh_271⟩
      refine ⟨_, rfl, ?_⟩
      replace rh_271 := rh_271.thaw (flat_int .i64) hg_273 ((Fz.refl (col := col_264)).froz 28) (by decide)
      replace hg_273 := hg_273.thawR (col := col_264)
      generalize colR w_263.heap.size col_264 col_274 = col_275 at *
      replace hG_18 := hG_18.gr hg_273
      replace rh_257 := rh_257.gr hg_273
      replace h_266 := h_266.gr hg_273
      replace hst := hst.grow hg_273
      refine lv (v := (.tuple #[(.slice ra_269 r_267.1.length rc_270), (.int .i64 r_267.2)])) rfl rfl (r_move rfl) ?_
      refine lv (v := (.slice ra_269 r_267.1.length rc_270)) rfl rfl (r_extract rfl rfl) ?_
      refine lv (v := (.int .i64 r_267.2)) rfl rfl (r_extract rfl rfl) ?_
      refine lv (v := (.slice ra_269 r_267.1.length rc_270)) rfl rfl (r_assign rfl) ?_
      refine lv (v := (.int .i64 r_267.2)) rfl rfl (r_assign rfl) ?_
      refine lnil ?_
      refine wseq ?_
      refine wregion ?_
      refine lv (v := (.pointer (some ⟨o_17.g, 0, none⟩))) rfl rfl (r_move rfl) ?_
      refine lv (v := (.slice ra_255 r_253.1.length rc_256)) rfl rfl (r_move rfl) ?_
      obtain ⟨r_276, hr_277, hm⟩ := bind_some hm
      refine lc rfl rfl (r_call2 Try.call40 rfl rfl) (c_order_Cliques N 30 (frC 27 col_275) _ 2 (by decide) o_17 t_15 ra_255 rc_256 r_253.1 (hG_18.froz 27 (by decide)) (rh_257.toSlF (Froz.int .i64)) r_276 hr_277) ?_
      rintro _ w_281 ⟨col_283, ra_278, rc_279, rfl, hg_282, rh_280⟩
      refine ⟨_, rfl, ?_⟩
      replace rh_280 := rh_280.thaw (flat_row (flat_int .i64)) hg_282 ((Fz.refl (col := col_275)).froz 27) (by decide)
      replace hg_282 := hg_282.thawR (col := col_275)
      generalize colR w_272.heap.size col_275 col_283 = col_284 at *
      replace hG_18 := hG_18.gr hg_282
      replace rh_257 := rh_257.gr hg_282
      replace rh_271 := rh_271.gr hg_282
      replace hst := hst.grow hg_282
      refine lv (v := (.tuple #[(.slice ra_278 r_276.1.length rc_279), (.int .i64 r_276.2)])) rfl rfl (r_move rfl) ?_
      refine lv (v := (.slice ra_278 r_276.1.length rc_279)) rfl rfl (r_extract rfl rfl) ?_
      refine lv (v := (.int .i64 r_276.2)) rfl rfl (r_extract rfl rfl) ?_
      refine lv (v := (.slice ra_278 r_276.1.length rc_279)) rfl rfl (r_assign rfl) ?_
      refine lv (v := (.int .i64 r_276.2)) rfl rfl (r_assign rfl) ?_
      refine lnil ?_
      refine wseq ?_
      refine wregion ?_
      refine lv (v := (.pointer (some ⟨o_17.g, 0, none⟩))) rfl rfl (r_move rfl) ?_
      refine lv (v := (.slice ra_255 r_253.1.length rc_256)) rfl rfl (r_move rfl) ?_
      obtain ⟨r_285, hr_286, hm⟩ := bind_some hm
      refine lc rfl rfl (r_call2 Try.call42 rfl rfl) (c_order_Width N (frC 27 col_284) _ 2 (by decide) o_17 t_15 ra_255 rc_256 r_253.1 (hG_18.froz 27 (by decide)) (rh_257.toSlF (Froz.int .i64)) r_285 hr_286) ?_
      rintro _ w_287 ⟨rfl, hg_288⟩
      refine ⟨_, rfl, ?_⟩
      replace hg_288 : Grow col_284 w_281 col_284 w_287 := .of_below hg_288
      replace rh_257 := rh_257.gr hg_288
      replace rh_271 := rh_271.gr hg_288
      replace rh_280 := rh_280.gr hg_288
      replace hG_18 := hG_18.gr hg_288
      replace hst := hst.grow hg_288
      refine lv (v := (.tuple #[(.int .i64 r_285.1), (.int .i64 r_285.2)])) rfl rfl (r_move rfl) ?_
      refine lv (v := (.int .i64 r_285.1)) rfl rfl (r_extract rfl rfl) ?_
      refine lv (v := (.int .i64 r_285.2)) rfl rfl (r_extract rfl rfl) ?_
      refine lv (v := (.int .i64 r_285.1)) rfl rfl (r_assign rfl) ?_
      refine lv (v := (.int .i64 r_285.2)) rfl rfl (r_assign rfl) ?_
      refine lnil ?_
      refine wseq ?_
      refine wregion ?_
      obtain ⟨r_289, hr_290, hm⟩ := bind_some hm
      refine lc rfl rfl (r_call2 Try.call32 rfl rfl) (c_order_Fill_v0n 31 col_284 _ none 0 ([] : List Int) Sl.nil r_289 hr_290) ?_
      rintro _ w_294 ⟨col_296, ra_291, rc_292, rfl, hg_295, rh_293⟩
      refine ⟨_, rfl, ?_⟩
      replace rh_257 := rh_257.gr hg_295
      replace rh_271 := rh_271.gr hg_295
      replace rh_280 := rh_280.gr hg_295
      replace hst := hst.grow hg_295
      refine lv (v := (.tuple #[(.slice ra_291 r_289.1.length rc_292), (.int .i64 r_289.2)])) rfl rfl (r_move rfl) ?_
      refine lv (v := (.slice ra_291 r_289.1.length rc_292)) rfl rfl (r_extract rfl rfl) ?_
      refine lv (v := (.int .i64 r_289.2)) rfl rfl (r_extract rfl rfl) ?_
      refine lv (v := (.slice ra_291 r_289.1.length rc_292)) rfl rfl (r_assign rfl) ?_
      refine lv (v := (.int .i64 r_289.2)) rfl rfl (r_assign rfl) ?_
      refine lnil ?_
      refine wseq ?_
      refine Wp.cut (fun f w_415 => ∃ (col_416 : Col) (v_417 : Bool), m_l18_awake_J2 v_417 = some r ∧ St w0 (col0 col) col_416 w_415 ∧ f 0 = (.bool v_417) ∧ f 1000000 = (enc [])) ?_ ?_
      · intro f w_415 hJ
        obtain ⟨col_416, v_417, hm, hst, hs0, hs1000000⟩ := hJ
        rw [m_l18_awake_J2.eq_1] at hm
        refine .ld (d := 0) (v := (.bool v_417)) hs0 ?_
        refine .ld (d := 1000000) (v := (enc [])) hs1000000 ?_
        clear hs0 hs1000000
        refine wret ?_
        cases hm
        exact ⟨rfl, rfl, hst.below⟩
      · refine wregion ?_
        refine lv (v := (.int .i64 r_253.2)) rfl rfl (r_move rfl) ?_
        refine lv (v := (.bool (decide (r_253.2 = 0)))) rfl rfl (r_eql r_253.2 0 rfl rfl) ?_
        refine lv (v := (.bool (decide (r_253.2 = 0)))) rfl rfl (r_move rfl) ?_
        by_cases hg_418 : (decide (r_253.2 = 0)) = true
        · rw [if_pos hg_418] at hm
          refine lg (b := decide (r_253.2 = 0)) 53 rfl rfl rfl (by rw [hg_418]; rfl) ?_
          refine lv (v := (.int .i64 r_267.2)) rfl rfl (r_move rfl) ?_
          refine lg (b := decide (r_253.2 = 0)) 53 rfl rfl rfl (by rw [hg_418]; rfl) ?_
          refine lv (v := (.bool (decide (r_267.2 = 0)))) rfl rfl (r_eql r_267.2 0 rfl rfl) ?_
          refine lv (v := (.bool (decide (r_267.2 = 0)))) rfl rfl (r_pickT (congrArg Value.bool hg_418) rfl) ?_
          refine lv (v := (.bool (decide (r_267.2 = 0)))) rfl rfl (r_move rfl) ?_
          by_cases hg_419 : (decide (r_267.2 = 0)) = true
          · rw [if_pos hg_419] at hm
            refine lg (b := decide (r_267.2 = 0)) 57 rfl rfl rfl (by rw [hg_419]; rfl) ?_
            refine lv (v := (.int .i64 r_276.2)) rfl rfl (r_move rfl) ?_
            refine lg (b := decide (r_267.2 = 0)) 57 rfl rfl rfl (by rw [hg_419]; rfl) ?_
            refine lv (v := (.bool (decide (r_276.2 = 0)))) rfl rfl (r_eql r_276.2 0 rfl rfl) ?_
            refine lv (v := (.bool (decide (r_276.2 = 0)))) rfl rfl (r_pickT (congrArg Value.bool hg_419) rfl) ?_
            refine lv (v := (.bool (decide (r_276.2 = 0)))) rfl rfl (r_move rfl) ?_
            by_cases hg_420 : (decide (r_276.2 = 0)) = true
            · rw [if_pos hg_420] at hm
              refine lg (b := decide (r_276.2 = 0)) 61 rfl rfl rfl (by rw [hg_420]; rfl) ?_
              refine lv (v := (.int .i64 r_285.2)) rfl rfl (r_move rfl) ?_
              refine lg (b := decide (r_276.2 = 0)) 61 rfl rfl rfl (by rw [hg_420]; rfl) ?_
              refine lv (v := (.bool (decide (r_285.2 = 0)))) rfl rfl (r_eql r_285.2 0 rfl rfl) ?_
              refine lv (v := (.bool (decide (r_285.2 = 0)))) rfl rfl (r_pickT (congrArg Value.bool hg_420) rfl) ?_
              refine lv (v := (.bool (decide (r_285.2 = 0)))) rfl rfl (r_move rfl) ?_
              by_cases hg_421 : (decide (r_285.2 = 0)) = true
              · rw [if_pos hg_421] at hm
                refine lg (b := decide (r_285.2 = 0)) 65 rfl rfl rfl (by rw [hg_421]; rfl) ?_
                refine lv (v := (.slice ra_255 r_253.1.length rc_256)) rfl rfl (r_move rfl) ?_
                refine lg (b := decide (r_285.2 = 0)) 65 rfl rfl rfl (by rw [hg_421]; rfl) ?_
                refine l_lit (col := col_296) (r := (Rep.int .i64)) (xs := [4, 0, 1, 2, 3]) [(.int .i64 4), (.int .i64 0), (.int .i64 1), (.int .i64 2), (.int .i64 3)] 42 rfl Try.underlying22 el3_29 rfl rfl rfl rfl rfl rfl (by intro v hv; simp only [List.mem_cons, List.not_mem_nil, or_false] at hv; rcases hv with rfl | rfl | rfl | rfl | rfl <;> rfl) (RowsH.ofF (Rows.consF (r := (Rep.int .i64)) (x := 4) (cs := [(.int .i64 4)]) (rd_int .i64 4) (Rows.consF (r := (Rep.int .i64)) (x := 0) (cs := [(.int .i64 0)]) (rd_int .i64 0) (Rows.consF (r := (Rep.int .i64)) (x := 1) (cs := [(.int .i64 1)]) (rd_int .i64 1) (Rows.consF (r := (Rep.int .i64)) (x := 2) (cs := [(.int .i64 2)]) (rd_int .i64 2) (Rows.consF (r := (Rep.int .i64)) (x := 3) (cs := [(.int .i64 3)]) (rd_int .i64 3) Rows.nil0)))))) ?_
                intro a_422 w_423 col_424 hg_425 h_426
                replace rh_271 := rh_271.gr hg_425
                replace rh_280 := rh_280.gr hg_425
                replace rh_257 := rh_257.gr hg_425
                replace hst := hst.grow hg_425
                refine lg (b := decide (r_285.2 = 0)) 65 rfl rfl rfl (by rw [hg_421]; rfl) ?_
                obtain ⟨r_427, hr_428, hm⟩ := bind_some hm
                refine lc rfl rfl (r_call2 Try.call36 rfl rfl) (c_r15_Ints N (frC 42 (frC 27 col_424)) _ ra_255 rc_256 r_253.1 a_422 5 [4, 0, 1, 2, 3] ((rh_257.toSlF (Froz.int .i64)).froz 42) ((h_426.froz 27 (by decide)).toSlF (Froz.int .i64)) r_427 hr_428) ?_
                rintro _ w_429 ⟨rfl, hg_430⟩
                refine ⟨_, rfl, ?_⟩
                replace hg_430 : Grow col_424 w_423 col_424 w_429 := .of_below hg_430
                replace rh_271 := rh_271.gr hg_430
                replace rh_280 := rh_280.gr hg_430
                replace rh_257 := rh_257.gr hg_430
                replace h_426 := h_426.gr hg_430
                replace hst := hst.grow hg_430
                refine lv (v := (.bool r_427)) rfl rfl (r_pickT (congrArg Value.bool hg_421) rfl) ?_
                refine lv (v := (.bool r_427)) rfl rfl (r_move rfl) ?_
                by_cases hg_431 : r_427 = true
                · rw [if_pos hg_431] at hm
                  refine lg (b := r_427) 70 rfl rfl rfl (by rw [hg_431]; rfl) ?_
                  refine lv (v := (.slice ra_269 r_267.1.length rc_270)) rfl rfl (r_move rfl) ?_
                  refine lg (b := r_427) 70 rfl rfl rfl (by rw [hg_431]; rfl) ?_
                  refine l_lit (col := col_424) (r := (Rep.int .i64)) (xs := [1, 3]) [(.int .i64 1), (.int .i64 3)] 43 rfl Try.underlying22 el3_29 rfl rfl rfl rfl rfl rfl (by intro v hv; simp only [List.mem_cons, List.not_mem_nil, or_false] at hv; rcases hv with rfl | rfl <;> rfl) (RowsH.ofF (Rows.consF (r := (Rep.int .i64)) (x := 1) (cs := [(.int .i64 1)]) (rd_int .i64 1) (Rows.consF (r := (Rep.int .i64)) (x := 3) (cs := [(.int .i64 3)]) (rd_int .i64 3) Rows.nil0))) ?_
                  intro a_432 w_433 col_434 hg_435 h_436
                  replace rh_280 := rh_280.gr hg_435
                  replace rh_271 := rh_271.gr hg_435
                  replace hst := hst.grow hg_435
                  refine lg (b := r_427) 70 rfl rfl rfl (by rw [hg_431]; rfl) ?_
                  obtain ⟨r_437, hr_438, hm⟩ := bind_some hm
                  refine lc rfl rfl (r_call2 Try.call36 rfl rfl) (c_r15_Ints N (frC 43 (frC 29 col_434)) _ ra_269 rc_270 r_267.1 a_432 2 [1, 3] ((rh_271.toSlF (Froz.int .i64)).froz 43) ((h_436.froz 29 (by decide)).toSlF (Froz.int .i64)) r_437 hr_438) ?_
                  rintro _ w_439 ⟨rfl, hg_440⟩
                  refine ⟨_, rfl, ?_⟩
                  replace hg_440 : Grow col_434 w_433 col_434 w_439 := .of_below hg_440
                  replace rh_280 := rh_280.gr hg_440
                  replace rh_271 := rh_271.gr hg_440
                  replace h_436 := h_436.gr hg_440
                  replace hst := hst.grow hg_440
                  refine lv (v := (.bool r_437)) rfl rfl (r_pickT (congrArg Value.bool hg_431) rfl) ?_
                  refine lv (v := (.bool r_437)) rfl rfl (r_move rfl) ?_
                  by_cases hg_441 : r_437 = true
                  · rw [if_pos hg_441] at hm
                    refine lg (b := r_437) 75 rfl rfl rfl (by rw [hg_441]; rfl) ?_
                    refine lv (v := (.slice ra_278 r_276.1.length rc_279)) rfl rfl (r_move rfl) ?_
                    refine lg (b := r_437) 75 rfl rfl rfl (by rw [hg_441]; rfl) ?_
                    refine lv (v := (.int .i64 (r_276.1.length : Int))) rfl rfl (r_len Try.underlying33 rfl) ?_
                    refine lg (b := r_437) 75 rfl rfl rfl (by rw [hg_441]; rfl) ?_
                    refine lv (v := (.bool (decide ((r_276.1.length : Int) = 5)))) rfl rfl (r_eql (r_276.1.length : Int) 5 rfl rfl) ?_
                    refine lv (v := (.bool (decide ((r_276.1.length : Int) = 5)))) rfl rfl (r_pickT (congrArg Value.bool hg_441) rfl) ?_
                    refine lv (v := (.bool (decide ((r_276.1.length : Int) = 5)))) rfl rfl (r_move rfl) ?_
                    by_cases hg_442 : (decide ((r_276.1.length : Int) = 5)) = true
                    · rw [if_pos hg_442] at hm
                      refine lg (b := decide ((r_276.1.length : Int) = 5)) 80 rfl rfl rfl (by rw [hg_442]; rfl) ?_
                      refine lv (v := (.slice ra_278 r_276.1.length rc_279)) rfl rfl (r_move rfl) ?_
                      refine lg (b := decide ((r_276.1.length : Int) = 5)) 80 rfl rfl rfl (by rw [hg_442]; rfl) ?_
                      obtain ⟨e_443, hj_444, hm⟩ := bind_some hm
                      refine lv (v := (sptr ra_278 (Int.toNat 1 * 1))) rfl rfl (r_idx Try.underlying33 Try.sizeOf22 rfl rfl (at?_some hj_444).1 (at?_some hj_444).2.1 (rh_280.addr hj_444)) ?_
                      refine lg (b := decide ((r_276.1.length : Int) = 5)) 80 rfl rfl rfl (by rw [hg_442]; rfl) ?_
                      obtain ⟨_, hr_445, hA_446⟩ := rh_280.atN hj_444
                      obtain ⟨a_447, cap_448, rfl, h_449⟩ := hr_445.row
                      refine lv (v := (.slice a_447 e_443.length cap_448)) rfl rfl (r_ld Try.isAgg22 rfl hA_446.one) ?_
                      refine lg (b := decide ((r_276.1.length : Int) = 5)) 80 rfl rfl rfl (by rw [hg_442]; rfl) ?_
                      refine lv (v := (.int .i64 (e_443.length : Int))) rfl rfl (r_len Try.underlying22 rfl) ?_
                      refine lg (b := decide ((r_276.1.length : Int) = 5)) 80 rfl rfl rfl (by rw [hg_442]; rfl) ?_
                      refine lv (v := (.bool (decide ((e_443.length : Int) = 3)))) rfl rfl (r_eql (e_443.length : Int) 3 rfl rfl) ?_
                      refine lv (v := (.bool (decide ((e_443.length : Int) = 3)))) rfl rfl (r_pickT (congrArg Value.bool hg_442) rfl) ?_
                      refine lv (v := (.bool (decide ((e_443.length : Int) = 3)))) rfl rfl (r_move rfl) ?_
                      by_cases hg_450 : (decide ((e_443.length : Int) = 3)) = true
                      · rw [if_pos hg_450] at hm
                        refine lg (b := decide ((e_443.length : Int) = 3)) 87 rfl rfl rfl (by rw [hg_450]; rfl) ?_
                        refine lv (v := (.int .i64 r_285.1)) rfl rfl (r_move rfl) ?_
                        refine lg (b := decide ((e_443.length : Int) = 3)) 87 rfl rfl rfl (by rw [hg_450]; rfl) ?_
                        refine lv (v := (.bool (decide (r_285.1 = 2)))) rfl rfl (r_eql r_285.1 2 rfl rfl) ?_
                        refine lv (v := (.bool (decide (r_285.1 = 2)))) rfl rfl (r_pickT (congrArg Value.bool hg_450) rfl) ?_
                        refine lv (v := (.bool (decide (r_285.1 = 2)))) rfl rfl (r_move rfl) ?_
                        by_cases hg_451 : (decide (r_285.1 = 2)) = true
                        · rw [if_pos hg_451] at hm
                          refine lg (b := decide (r_285.1 = 2)) 91 rfl rfl rfl (by rw [hg_451]; rfl) ?_
                          refine lv (v := (.int .i64 r_289.2)) rfl rfl (r_move rfl) ?_
                          refine lg (b := decide (r_285.1 = 2)) 91 rfl rfl rfl (by rw [hg_451]; rfl) ?_
                          refine lv (v := (.bool (decide (r_289.2 = 2)))) rfl rfl (r_eql r_289.2 2 rfl rfl) ?_
                          refine lv (v := (.bool (decide (r_289.2 = 2)))) rfl rfl (r_pickT (congrArg Value.bool hg_451) rfl) ?_
                          refine lv (v := (.bool (decide (r_289.2 = 2)))) rfl rfl (r_move rfl) ?_
                          by_cases hg_452 : (decide (r_289.2 = 2)) = true
                          · rw [if_pos hg_452] at hm
                            refine lg (b := decide (r_289.2 = 2)) 95 rfl rfl rfl (by rw [hg_452]; rfl) ?_
                            refine l_lit (col := col_434) (r := (Rep.int .i64)) (xs := [2, 0, 1]) [(.int .i64 2), (.int .i64 0), (.int .i64 1)] 44 rfl Try.underlying22 el3_29 rfl rfl rfl rfl rfl rfl (by intro v hv; simp only [List.mem_cons, List.not_mem_nil, or_false] at hv; rcases hv with rfl | rfl | rfl <;> rfl) (RowsH.ofF (Rows.consF (r := (Rep.int .i64)) (x := 2) (cs := [(.int .i64 2)]) (rd_int .i64 2) (Rows.consF (r := (Rep.int .i64)) (x := 0) (cs := [(.int .i64 0)]) (rd_int .i64 0) (Rows.consF (r := (Rep.int .i64)) (x := 1) (cs := [(.int .i64 1)]) (rd_int .i64 1) Rows.nil0)))) ?_
                            intro a_453 w_454 col_455 hg_456 h_457
                            replace hst := hst.grow hg_456
                            refine lg (b := decide (r_289.2 = 2)) 95 rfl rfl rfl (by rw [hg_452]; rfl) ?_
                            refine l_lit (col := col_455) (r := (Rep.int .i64)) (xs := [0, 1, 2]) [(.int .i64 0), (.int .i64 1), (.int .i64 2)] 45 rfl Try.underlying22 el3_29 rfl rfl rfl rfl rfl rfl (by intro v hv; simp only [List.mem_cons, List.not_mem_nil, or_false] at hv; rcases hv with rfl | rfl | rfl <;> rfl) (RowsH.ofF (Rows.consF (r := (Rep.int .i64)) (x := 0) (cs := [(.int .i64 0)]) (rd_int .i64 0) (Rows.consF (r := (Rep.int .i64)) (x := 1) (cs := [(.int .i64 1)]) (rd_int .i64 1) (Rows.consF (r := (Rep.int .i64)) (x := 2) (cs := [(.int .i64 2)]) (rd_int .i64 2) Rows.nil0)))) ?_
                            intro a_458 w_459 col_460 hg_461 h_462
                            replace h_457 := h_457.gr hg_461
                            replace hst := hst.grow hg_461
                            refine lg (b := decide (r_289.2 = 2)) 95 rfl rfl rfl (by rw [hg_452]; rfl) ?_
                            obtain ⟨r_463, hr_464, hm⟩ := bind_some hm
                            refine lc rfl rfl (r_call2 Try.call45 rfl rfl) (c_order_Check (frC 45 (frC 44 col_460)) _ a_453 3 [2, 0, 1] a_458 3 [0, 1, 2] ((h_457.toSlF (Froz.int .i64)).froz 45) ((h_462.froz 44 (by decide)).toSlF (Froz.int .i64)) r_463 hr_464) ?_
                            rintro _ w_465 ⟨rfl, hg_466⟩
                            refine ⟨_, rfl, ?_⟩
                            replace hg_466 : Grow col_460 w_459 col_460 w_465 := .of_below hg_466
                            replace h_457 := h_457.gr hg_466
                            replace h_462 := h_462.gr hg_466
                            replace hst := hst.grow hg_466
                            refine lg (b := decide (r_289.2 = 2)) 95 rfl rfl rfl (by rw [hg_452]; rfl) ?_
                            refine lv (v := (.bool (decide (r_463 = 0)))) rfl rfl (r_eql r_463 0 rfl rfl) ?_
                            refine lv (v := (.bool (decide (r_463 = 0)))) rfl rfl (r_pickT (congrArg Value.bool hg_452) rfl) ?_
                            refine lv (v := (.bool (decide (r_463 = 0)))) rfl rfl (r_move rfl) ?_
                            by_cases hg_467 : (decide (r_463 = 0)) = true
                            · rw [if_pos hg_467] at hm
                              refine lg (b := decide (r_463 = 0)) 101 rfl rfl rfl (by rw [hg_467]; rfl) ?_
                              refine l_lit (col := col_460) (r := (Rep.int .i64)) (xs := [0]) [(.int .i64 0)] 46 rfl Try.underlying22 el3_29 rfl rfl rfl rfl rfl rfl (by intro v hv; simp only [List.mem_cons, List.not_mem_nil, or_false] at hv; subst hv; rfl) (RowsH.ofF (Rows.consF (r := (Rep.int .i64)) (x := 0) (cs := [(.int .i64 0)]) (rd_int .i64 0) Rows.nil0)) ?_
                              intro a_468 w_469 col_470 hg_471 h_472
                              replace hst := hst.grow hg_471
                              refine lg (b := decide (r_463 = 0)) 101 rfl rfl rfl (by rw [hg_467]; rfl) ?_
                              obtain ⟨r_473, hr_474, hm⟩ := bind_some hm
                              refine lc rfl rfl (r_call2 Try.call45 rfl rfl) (c_order_Check (frC 46 col_470) _ a_468 1 [0] none 0 ([] : List Int) (h_472.toSlF (Froz.int .i64)) Sl.nil r_473 hr_474) ?_
                              rintro _ w_475 ⟨rfl, hg_476⟩
                              refine ⟨_, rfl, ?_⟩
                              replace hg_476 : Grow col_470 w_469 col_470 w_475 := .of_below hg_476
                              replace h_472 := h_472.gr hg_476
                              replace hst := hst.grow hg_476
                              refine lg (b := decide (r_463 = 0)) 101 rfl rfl rfl (by rw [hg_467]; rfl) ?_
                              refine lv (v := (.bool (decide (r_473 = 51)))) rfl rfl (r_eql r_473 51 rfl rfl) ?_
                              refine lv (v := (.bool (decide (r_473 = 51)))) rfl rfl (r_pickT (congrArg Value.bool hg_467) rfl) ?_
                              refine lv (v := (.bool (decide (r_473 = 51)))) rfl rfl (r_assign rfl) ?_
                              refine lnil ?_
                              exact ⟨col_470, (decide (r_473 = 51)), hm, hst, rfl, rfl⟩
                            · rw [if_neg hg_467] at hm
                              replace hg_467 := Bool.eq_false_iff.2 hg_467
                              refine lp (b := decide (r_463 = 0)) 101 rfl rfl rfl rfl (by rw [hg_467]; rfl) ?_
                              refine lp (b := decide (r_463 = 0)) 101 rfl rfl rfl rfl (by rw [hg_467]; rfl) ?_
                              refine lp (b := decide (r_463 = 0)) 101 rfl rfl rfl rfl (by rw [hg_467]; rfl) ?_
                              refine lv (v := (.bool false)) rfl rfl (r_pickF (congrArg Value.bool hg_467) rfl) ?_
                              refine lv (v := (.bool false)) rfl rfl (r_assign rfl) ?_
                              refine lnil ?_
                              exact ⟨col_460, false, hm, hst, rfl, rfl⟩
                          · rw [if_neg hg_452] at hm
                            replace hg_452 := Bool.eq_false_iff.2 hg_452
                            refine lp (b := decide (r_289.2 = 2)) 95 rfl rfl rfl rfl (by rw [hg_452]; rfl) ?_
                            refine lp (b := decide (r_289.2 = 2)) 95 rfl rfl rfl rfl (by rw [hg_452]; rfl) ?_
                            refine lp (b := decide (r_289.2 = 2)) 95 rfl rfl rfl rfl (by rw [hg_452]; rfl) ?_
                            refine lp (b := decide (r_289.2 = 2)) 95 rfl rfl rfl rfl (by rw [hg_452]; rfl) ?_
                            refine lv (v := (.bool false)) rfl rfl (r_pickF (congrArg Value.bool hg_452) rfl) ?_
                            refine lv (v := (.bool false)) rfl rfl (r_move rfl) ?_
                            refine lp (b := false) 101 rfl rfl rfl rfl rfl ?_
                            refine lp (b := false) 101 rfl rfl rfl rfl rfl ?_
                            refine lp (b := false) 101 rfl rfl rfl rfl rfl ?_
                            refine lv (v := (.bool false)) rfl rfl (r_pickF rfl rfl) ?_
                            refine lv (v := (.bool false)) rfl rfl (r_assign rfl) ?_
                            refine lnil ?_
                            exact ⟨col_434, false, hm, hst, rfl, rfl⟩
                        · rw [if_neg hg_451] at hm
                          replace hg_451 := Bool.eq_false_iff.2 hg_451
                          refine lp (b := decide (r_285.1 = 2)) 91 rfl rfl rfl rfl (by rw [hg_451]; rfl) ?_
                          refine lp (b := decide (r_285.1 = 2)) 91 rfl rfl rfl rfl (by rw [hg_451]; rfl) ?_
                          refine lv (v := (.bool false)) rfl rfl (r_pickF (congrArg Value.bool hg_451) rfl) ?_
                          refine lv (v := (.bool false)) rfl rfl (r_move rfl) ?_
                          refine lp (b := false) 95 rfl rfl rfl rfl rfl ?_
                          refine lp (b := false) 95 rfl rfl rfl rfl rfl ?_
                          refine lp (b := false) 95 rfl rfl rfl rfl rfl ?_
                          refine lp (b := false) 95 rfl rfl rfl rfl rfl ?_
                          refine lv (v := (.bool false)) rfl rfl (r_pickF rfl rfl) ?_
                          refine lv (v := (.bool false)) rfl rfl (r_move rfl) ?_
                          refine lp (b := false) 101 rfl rfl rfl rfl rfl ?_
                          refine lp (b := false) 101 rfl rfl rfl rfl rfl ?_
                          refine lp (b := false) 101 rfl rfl rfl rfl rfl ?_
                          refine lv (v := (.bool false)) rfl rfl (r_pickF rfl rfl) ?_
                          refine lv (v := (.bool false)) rfl rfl (r_assign rfl) ?_
                          refine lnil ?_
                          exact ⟨col_434, false, hm, hst, rfl, rfl⟩
                      · rw [if_neg hg_450] at hm
                        replace hg_450 := Bool.eq_false_iff.2 hg_450
                        refine lp (b := decide ((e_443.length : Int) = 3)) 87 rfl rfl rfl rfl (by rw [hg_450]; rfl) ?_
                        refine lp (b := decide ((e_443.length : Int) = 3)) 87 rfl rfl rfl rfl (by rw [hg_450]; rfl) ?_
                        refine lv (v := (.bool false)) rfl rfl (r_pickF (congrArg Value.bool hg_450) rfl) ?_
                        refine lv (v := (.bool false)) rfl rfl (r_move rfl) ?_
                        refine lp (b := false) 91 rfl rfl rfl rfl rfl ?_
                        refine lp (b := false) 91 rfl rfl rfl rfl rfl ?_
                        refine lv (v := (.bool false)) rfl rfl (r_pickF rfl rfl) ?_
                        refine lv (v := (.bool false)) rfl rfl (r_move rfl) ?_
                        refine lp (b := false) 95 rfl rfl rfl rfl rfl ?_
                        refine lp (b := false) 95 rfl rfl rfl rfl rfl ?_
                        refine lp (b := false) 95 rfl rfl rfl rfl rfl ?_
                        refine lp (b := false) 95 rfl rfl rfl rfl rfl ?_
                        refine lv (v := (.bool false)) rfl rfl (r_pickF rfl rfl) ?_
                        refine lv (v := (.bool false)) rfl rfl (r_move rfl) ?_
                        refine lp (b := false) 101 rfl rfl rfl rfl rfl ?_
                        refine lp (b := false) 101 rfl rfl rfl rfl rfl ?_
                        refine lp (b := false) 101 rfl rfl rfl rfl rfl ?_
                        refine lv (v := (.bool false)) rfl rfl (r_pickF rfl rfl) ?_
                        refine lv (v := (.bool false)) rfl rfl (r_assign rfl) ?_
                        refine lnil ?_
                        exact ⟨col_434, false, hm, hst, rfl, rfl⟩
                    · rw [if_neg hg_442] at hm
                      replace hg_442 := Bool.eq_false_iff.2 hg_442
                      refine lp (b := decide ((r_276.1.length : Int) = 5)) 80 rfl rfl rfl rfl (by rw [hg_442]; rfl) ?_
                      refine lp (b := decide ((r_276.1.length : Int) = 5)) 80 rfl rfl rfl rfl (by rw [hg_442]; rfl) ?_
                      refine lp (b := decide ((r_276.1.length : Int) = 5)) 80 rfl rfl rfl rfl (by rw [hg_442]; rfl) ?_
                      refine lp (b := decide ((r_276.1.length : Int) = 5)) 80 rfl rfl rfl rfl (by rw [hg_442]; rfl) ?_
                      refine lp (b := decide ((r_276.1.length : Int) = 5)) 80 rfl rfl rfl rfl (by rw [hg_442]; rfl) ?_
                      refine lv (v := (.bool false)) rfl rfl (r_pickF (congrArg Value.bool hg_442) rfl) ?_
                      refine lv (v := (.bool false)) rfl rfl (r_move rfl) ?_
                      refine lp (b := false) 87 rfl rfl rfl rfl rfl ?_
                      refine lp (b := false) 87 rfl rfl rfl rfl rfl ?_
                      refine lv (v := (.bool false)) rfl rfl (r_pickF rfl rfl) ?_
                      refine lv (v := (.bool false)) rfl rfl (r_move rfl) ?_
                      refine lp (b := false) 91 rfl rfl rfl rfl rfl ?_
                      refine lp (b := false) 91 rfl rfl rfl rfl rfl ?_
                      refine lv (v := (.bool false)) rfl rfl (r_pickF rfl rfl) ?_
                      refine lv (v := (.bool false)) rfl rfl (r_move rfl) ?_
                      refine lp (b := false) 95 rfl rfl rfl rfl rfl ?_
                      refine lp (b := false) 95 rfl rfl rfl rfl rfl ?_
                      refine lp (b := false) 95 rfl rfl rfl rfl rfl ?_
                      refine lp (b := false) 95 rfl rfl rfl rfl rfl ?_
                      refine lv (v := (.bool false)) rfl rfl (r_pickF rfl rfl) ?_
                      refine lv (v := (.bool false)) rfl rfl (r_move rfl) ?_
                      refine lp (b := false) 101 rfl rfl rfl rfl rfl ?_
                      refine lp (b := false) 101 rfl rfl rfl rfl rfl ?_
                      refine lp (b := false) 101 rfl rfl rfl rfl rfl ?_
                      refine lv (v := (.bool false)) rfl rfl (r_pickF rfl rfl) ?_
                      refine lv (v := (.bool false)) rfl rfl (r_assign rfl) ?_
                      refine lnil ?_
                      exact ⟨col_434, false, hm, hst, rfl, rfl⟩
                  · rw [if_neg hg_441] at hm
                    replace hg_441 := Bool.eq_false_iff.2 hg_441
                    refine lp (b := r_437) 75 rfl rfl rfl rfl (by rw [hg_441]; rfl) ?_
                    refine lp (b := r_437) 75 rfl rfl rfl rfl (by rw [hg_441]; rfl) ?_
                    refine lp (b := r_437) 75 rfl rfl rfl rfl (by rw [hg_441]; rfl) ?_
                    refine lv (v := (.bool false)) rfl rfl (r_pickF (congrArg Value.bool hg_441) rfl) ?_
                    refine lv (v := (.bool false)) rfl rfl (r_move rfl) ?_
                    refine lp (b := false) 80 rfl rfl rfl rfl rfl ?_
                    refine lp (b := false) 80 rfl rfl rfl rfl rfl ?_
                    refine lp (b := false) 80 rfl rfl rfl rfl rfl ?_
                    refine lp (b := false) 80 rfl rfl rfl rfl rfl ?_
                    refine lp (b := false) 80 rfl rfl rfl rfl rfl ?_
                    refine lv (v := (.bool false)) rfl rfl (r_pickF rfl rfl) ?_
                    refine lv (v := (.bool false)) rfl rfl (r_move rfl) ?_
                    refine lp (b := false) 87 rfl rfl rfl rfl rfl ?_
                    refine lp (b := false) 87 rfl rfl rfl rfl rfl ?_
                    refine lv (v := (.bool false)) rfl rfl (r_pickF rfl rfl) ?_
                    refine lv (v := (.bool false)) rfl rfl (r_move rfl) ?_
                    refine lp (b := false) 91 rfl rfl rfl rfl rfl ?_
                    refine lp (b := false) 91 rfl rfl rfl rfl rfl ?_
                    refine lv (v := (.bool false)) rfl rfl (r_pickF rfl rfl) ?_
                    refine lv (v := (.bool false)) rfl rfl (r_move rfl) ?_
                    refine lp (b := false) 95 rfl rfl rfl rfl rfl ?_
                    refine lp (b := false) 95 rfl rfl rfl rfl rfl ?_
                    refine lp (b := false) 95 rfl rfl rfl rfl rfl ?_
                    refine lp (b := false) 95 rfl rfl rfl rfl rfl ?_
                    refine lv (v := (.bool false)) rfl rfl (r_pickF rfl rfl) ?_
                    refine lv (v := (.bool false)) rfl rfl (r_move rfl) ?_
                    refine lp (b := false) 101 rfl rfl rfl rfl rfl ?_
                    refine lp (b := false) 101 rfl rfl rfl rfl rfl ?_
                    refine lp (b := false) 101 rfl rfl rfl rfl rfl ?_
                    refine lv (v := (.bool false)) rfl rfl (r_pickF rfl rfl) ?_
                    refine lv (v := (.bool false)) rfl rfl (r_assign rfl) ?_
                    refine lnil ?_
                    exact ⟨col_434, false, hm, hst, rfl, rfl⟩
                · rw [if_neg hg_431] at hm
                  replace hg_431 := Bool.eq_false_iff.2 hg_431
                  refine lp (b := r_427) 70 rfl rfl rfl rfl (by rw [hg_431]; rfl) ?_
                  refine lp (b := r_427) 70 rfl rfl rfl rfl (by rw [hg_431]; rfl) ?_
                  refine lp (b := r_427) 70 rfl rfl rfl rfl (by rw [hg_431]; rfl) ?_
                  refine lv (v := (.bool false)) rfl rfl (r_pickF (congrArg Value.bool hg_431) rfl) ?_
                  refine lv (v := (.bool false)) rfl rfl (r_move rfl) ?_
                  refine lp (b := false) 75 rfl rfl rfl rfl rfl ?_
                  refine lp (b := false) 75 rfl rfl rfl rfl rfl ?_
                  refine lp (b := false) 75 rfl rfl rfl rfl rfl ?_
                  refine lv (v := (.bool false)) rfl rfl (r_pickF rfl rfl) ?_
                  refine lv (v := (.bool false)) rfl rfl (r_move rfl) ?_
                  refine lp (b := false) 80 rfl rfl rfl rfl rfl ?_
                  refine lp (b := false) 80 rfl rfl rfl rfl rfl ?_
                  refine lp (b := false) 80 rfl rfl rfl rfl rfl ?_
                  refine lp (b := false) 80 rfl rfl rfl rfl rfl ?_
                  refine lp (b := false) 80 rfl rfl rfl rfl rfl ?_
                  refine lv (v := (.bool false)) rfl rfl (r_pickF rfl rfl) ?_
                  refine lv (v := (.bool false)) rfl rfl (r_move rfl) ?_
                  refine lp (b := false) 87 rfl rfl rfl rfl rfl ?_
                  refine lp (b := false) 87 rfl rfl rfl rfl rfl ?_
                  refine lv (v := (.bool false)) rfl rfl (r_pickF rfl rfl) ?_
                  refine lv (v := (.bool false)) rfl rfl (r_move rfl) ?_
                  refine lp (b := false) 91 rfl rfl rfl rfl rfl ?_
                  refine lp (b := false) 91 rfl rfl rfl rfl rfl ?_
                  refine lv (v := (.bool false)) rfl rfl (r_pickF rfl rfl) ?_
                  refine lv (v := (.bool false)) rfl rfl (r_move rfl) ?_
                  refine lp (b := false) 95 rfl rfl rfl rfl rfl ?_
                  refine lp (b := false) 95 rfl rfl rfl rfl rfl ?_
                  refine lp (b := false) 95 rfl rfl rfl rfl rfl ?_
                  refine lp (b := false) 95 rfl rfl rfl rfl rfl ?_
                  refine lv (v := (.bool false)) rfl rfl (r_pickF rfl rfl) ?_
                  refine lv (v := (.bool false)) rfl rfl (r_move rfl) ?_
                  refine lp (b := false) 101 rfl rfl rfl rfl rfl ?_
                  refine lp (b := false) 101 rfl rfl rfl rfl rfl ?_
                  refine lp (b := false) 101 rfl rfl rfl rfl rfl ?_
                  refine lv (v := (.bool false)) rfl rfl (r_pickF rfl rfl) ?_
                  refine lv (v := (.bool false)) rfl rfl (r_assign rfl) ?_
                  refine lnil ?_
                  exact ⟨col_424, false, hm, hst, rfl, rfl⟩
              · rw [if_neg hg_421] at hm
                replace hg_421 := Bool.eq_false_iff.2 hg_421
                refine lp (b := decide (r_285.2 = 0)) 65 rfl rfl rfl rfl (by rw [hg_421]; rfl) ?_
                refine lp (b := decide (r_285.2 = 0)) 65 rfl rfl rfl rfl (by rw [hg_421]; rfl) ?_
                refine lp (b := decide (r_285.2 = 0)) 65 rfl rfl rfl rfl (by rw [hg_421]; rfl) ?_
                refine lv (v := (.bool false)) rfl rfl (r_pickF (congrArg Value.bool hg_421) rfl) ?_
                refine lv (v := (.bool false)) rfl rfl (r_move rfl) ?_
                refine lp (b := false) 70 rfl rfl rfl rfl rfl ?_
                refine lp (b := false) 70 rfl rfl rfl rfl rfl ?_
                refine lp (b := false) 70 rfl rfl rfl rfl rfl ?_
                refine lv (v := (.bool false)) rfl rfl (r_pickF rfl rfl) ?_
                refine lv (v := (.bool false)) rfl rfl (r_move rfl) ?_
                refine lp (b := false) 75 rfl rfl rfl rfl rfl ?_
                refine lp (b := false) 75 rfl rfl rfl rfl rfl ?_
                refine lp (b := false) 75 rfl rfl rfl rfl rfl ?_
                refine lv (v := (.bool false)) rfl rfl (r_pickF rfl rfl) ?_
                refine lv (v := (.bool false)) rfl rfl (r_move rfl) ?_
                refine lp (b := false) 80 rfl rfl rfl rfl rfl ?_
                refine lp (b := false) 80 rfl rfl rfl rfl rfl ?_
                refine lp (b := false) 80 rfl rfl rfl rfl rfl ?_
                refine lp (b := false) 80 rfl rfl rfl rfl rfl ?_
                refine lp (b := false) 80 rfl rfl rfl rfl rfl ?_
                refine lv (v := (.bool false)) rfl rfl (r_pickF rfl rfl) ?_
                refine lv (v := (.bool false)) rfl rfl (r_move rfl) ?_
                refine lp (b := false) 87 rfl rfl rfl rfl rfl ?_
                refine lp (b := false) 87 rfl rfl rfl rfl rfl ?_
                refine lv (v := (.bool false)) rfl rfl (r_pickF rfl rfl) ?_
                refine lv (v := (.bool false)) rfl rfl (r_move rfl) ?_
                refine lp (b := false) 91 rfl rfl rfl rfl rfl ?_
                refine lp (b := false) 91 rfl rfl rfl rfl rfl ?_
                refine lv (v := (.bool false)) rfl rfl (r_pickF rfl rfl) ?_
                refine lv (v := (.bool false)) rfl rfl (r_move rfl) ?_
                refine lp (b := false) 95 rfl rfl rfl rfl rfl ?_
                refine lp (b := false) 95 rfl rfl rfl rfl rfl ?_
                refine lp (b := false) 95 rfl rfl rfl rfl rfl ?_
                refine lp (b := false) 95 rfl rfl rfl rfl rfl ?_
                refine lv (v := (.bool false)) rfl rfl (r_pickF rfl rfl) ?_
                refine lv (v := (.bool false)) rfl rfl (r_move rfl) ?_
                refine lp (b := false) 101 rfl rfl rfl rfl rfl ?_
                refine lp (b := false) 101 rfl rfl rfl rfl rfl ?_
                refine lp (b := false) 101 rfl rfl rfl rfl rfl ?_
                refine lv (v := (.bool false)) rfl rfl (r_pickF rfl rfl) ?_
                refine lv (v := (.bool false)) rfl rfl (r_assign rfl) ?_
                refine lnil ?_
                exact ⟨col_296, false, hm, hst, rfl, rfl⟩
            · rw [if_neg hg_420] at hm
              replace hg_420 := Bool.eq_false_iff.2 hg_420
              refine lp (b := decide (r_276.2 = 0)) 61 rfl rfl rfl rfl (by rw [hg_420]; rfl) ?_
              refine lp (b := decide (r_276.2 = 0)) 61 rfl rfl rfl rfl (by rw [hg_420]; rfl) ?_
              refine lv (v := (.bool false)) rfl rfl (r_pickF (congrArg Value.bool hg_420) rfl) ?_
              refine lv (v := (.bool false)) rfl rfl (r_move rfl) ?_
              refine lp (b := false) 65 rfl rfl rfl rfl rfl ?_
              refine lp (b := false) 65 rfl rfl rfl rfl rfl ?_
              refine lp (b := false) 65 rfl rfl rfl rfl rfl ?_
              refine lv (v := (.bool false)) rfl rfl (r_pickF rfl rfl) ?_
              refine lv (v := (.bool false)) rfl rfl (r_move rfl) ?_
              refine lp (b := false) 70 rfl rfl rfl rfl rfl ?_
              refine lp (b := false) 70 rfl rfl rfl rfl rfl ?_
              refine lp (b := false) 70 rfl rfl rfl rfl rfl ?_
              refine lv (v := (.bool false)) rfl rfl (r_pickF rfl rfl) ?_
              refine lv (v := (.bool false)) rfl rfl (r_move rfl) ?_
              refine lp (b := false) 75 rfl rfl rfl rfl rfl ?_
              refine lp (b := false) 75 rfl rfl rfl rfl rfl ?_
              refine lp (b := false) 75 rfl rfl rfl rfl rfl ?_
              refine lv (v := (.bool false)) rfl rfl (r_pickF rfl rfl) ?_
              refine lv (v := (.bool false)) rfl rfl (r_move rfl) ?_
              refine lp (b := false) 80 rfl rfl rfl rfl rfl ?_
              refine lp (b := false) 80 rfl rfl rfl rfl rfl ?_
              refine lp (b := false) 80 rfl rfl rfl rfl rfl ?_
              refine lp (b := false) 80 rfl rfl rfl rfl rfl ?_
              refine lp (b := false) 80 rfl rfl rfl rfl rfl ?_
              refine lv (v := (.bool false)) rfl rfl (r_pickF rfl rfl) ?_
              refine lv (v := (.bool false)) rfl rfl (r_move rfl) ?_
              refine lp (b := false) 87 rfl rfl rfl rfl rfl ?_
              refine lp (b := false) 87 rfl rfl rfl rfl rfl ?_
              refine lv (v := (.bool false)) rfl rfl (r_pickF rfl rfl) ?_
              refine lv (v := (.bool false)) rfl rfl (r_move rfl) ?_
              refine lp (b := false) 91 rfl rfl rfl rfl rfl ?_
              refine lp (b := false) 91 rfl rfl rfl rfl rfl ?_
              refine lv (v := (.bool false)) rfl rfl (r_pickF rfl rfl) ?_
              refine lv (v := (.bool false)) rfl rfl (r_move rfl) ?_
              refine lp (b := false) 95 rfl rfl rfl rfl rfl ?_
              refine lp (b := false) 95 rfl rfl rfl rfl rfl ?_
              refine lp (b := false) 95 rfl rfl rfl rfl rfl ?_
              refine lp (b := false) 95 rfl rfl rfl rfl rfl ?_
              refine lv (v := (.bool false)) rfl rfl (r_pickF rfl rfl) ?_
              refine lv (v := (.bool false)) rfl rfl (r_move rfl) ?_
              refine lp (b := false) 101 rfl rfl rfl rfl rfl ?_
              refine lp (b := false) 101 rfl rfl rfl rfl rfl ?_
              refine lp (b := false) 101 rfl rfl rfl rfl rfl ?_
              refine lv (v := (.bool false)) rfl rfl (r_pickF rfl rfl) ?_
              refine lv (v := (.bool false)) rfl rfl (r_assign rfl) ?_
              refine lnil ?_
              exact ⟨col_296, false, hm, hst, rfl, rfl⟩
          · rw [if_neg hg_419] at hm
            replace hg_419 := Bool.eq_false_iff.2 hg_419
            refine lp (b := decide (r_267.2 = 0)) 57 rfl rfl rfl rfl (by rw [hg_419]; rfl) ?_
            refine lp (b := decide (r_267.2 = 0)) 57 rfl rfl rfl rfl (by rw [hg_419]; rfl) ?_
            refine lv (v := (.bool false)) rfl rfl (r_pickF (congrArg Value.bool hg_419) rfl) ?_
            refine lv (v := (.bool false)) rfl rfl (r_move rfl) ?_
            refine lp (b := false) 61 rfl rfl rfl rfl rfl ?_
            refine lp (b := false) 61 rfl rfl rfl rfl rfl ?_
            refine lv (v := (.bool false)) rfl rfl (r_pickF rfl rfl) ?_
            refine lv (v := (.bool false)) rfl rfl (r_move rfl) ?_
            refine lp (b := false) 65 rfl rfl rfl rfl rfl ?_
            refine lp (b := false) 65 rfl rfl rfl rfl rfl ?_
            refine lp (b := false) 65 rfl rfl rfl rfl rfl ?_
            refine lv (v := (.bool false)) rfl rfl (r_pickF rfl rfl) ?_
            refine lv (v := (.bool false)) rfl rfl (r_move rfl) ?_
            refine lp (b := false) 70 rfl rfl rfl rfl rfl ?_
            refine lp (b := false) 70 rfl rfl rfl rfl rfl ?_
            refine lp (b := false) 70 rfl rfl rfl rfl rfl ?_
            refine lv (v := (.bool false)) rfl rfl (r_pickF rfl rfl) ?_
            refine lv (v := (.bool false)) rfl rfl (r_move rfl) ?_
            refine lp (b := false) 75 rfl rfl rfl rfl rfl ?_
            refine lp (b := false) 75 rfl rfl rfl rfl rfl ?_
            refine lp (b := false) 75 rfl rfl rfl rfl rfl ?_
            refine lv (v := (.bool false)) rfl rfl (r_pickF rfl rfl) ?_
            refine lv (v := (.bool false)) rfl rfl (r_move rfl) ?_
            refine lp (b := false) 80 rfl rfl rfl rfl rfl ?_
            refine lp (b := false) 80 rfl rfl rfl rfl rfl ?_
            refine lp (b := false) 80 rfl rfl rfl rfl rfl ?_
            refine lp (b := false) 80 rfl rfl rfl rfl rfl ?_
            refine lp (b := false) 80 rfl rfl rfl rfl rfl ?_
            refine lv (v := (.bool false)) rfl rfl (r_pickF rfl rfl) ?_
            refine lv (v := (.bool false)) rfl rfl (r_move rfl) ?_
            refine lp (b := false) 87 rfl rfl rfl rfl rfl ?_
            refine lp (b := false) 87 rfl rfl rfl rfl rfl ?_
            refine lv (v := (.bool false)) rfl rfl (r_pickF rfl rfl) ?_
            refine lv (v := (.bool false)) rfl rfl (r_move rfl) ?_
            refine lp (b := false) 91 rfl rfl rfl rfl rfl ?_
            refine lp (b := false) 91 rfl rfl rfl rfl rfl ?_
            refine lv (v := (.bool false)) rfl rfl (r_pickF rfl rfl) ?_
            refine lv (v := (.bool false)) rfl rfl (r_move rfl) ?_
            refine lp (b := false) 95 rfl rfl rfl rfl rfl ?_
            refine lp (b := false) 95 rfl rfl rfl rfl rfl ?_
            refine lp (b := false) 95 rfl rfl rfl rfl rfl ?_
            refine lp (b := false) 95 rfl rfl rfl rfl rfl ?_
            refine lv (v := (.bool false)) rfl rfl (r_pickF rfl rfl) ?_
            refine lv (v := (.bool false)) rfl rfl (r_move rfl) ?_
            refine lp (b := false) 101 rfl rfl rfl rfl rfl ?_
            refine lp (b := false) 101 rfl rfl rfl rfl rfl ?_
            refine lp (b := false) 101 rfl rfl rfl rfl rfl ?_
            refine lv (v := (.bool false)) rfl rfl (r_pickF rfl rfl) ?_
            refine lv (v := (.bool false)) rfl rfl (r_assign rfl) ?_
            refine lnil ?_
            exact ⟨col_296, false, hm, hst, rfl, rfl⟩
        · rw [if_neg hg_418] at hm
          replace hg_418 := Bool.eq_false_iff.2 hg_418
          refine lp (b := decide (r_253.2 = 0)) 53 rfl rfl rfl rfl (by rw [hg_418]; rfl) ?_
          refine lp (b := decide (r_253.2 = 0)) 53 rfl rfl rfl rfl (by rw [hg_418]; rfl) ?_
          refine lv (v := (.bool false)) rfl rfl (r_pickF (congrArg Value.bool hg_418) rfl) ?_
          refine lv (v := (.bool false)) rfl rfl (r_move rfl) ?_
          refine lp (b := false) 57 rfl rfl rfl rfl rfl ?_
          refine lp (b := false) 57 rfl rfl rfl rfl rfl ?_
          refine lv (v := (.bool false)) rfl rfl (r_pickF rfl rfl) ?_
          refine lv (v := (.bool false)) rfl rfl (r_move rfl) ?_
          refine lp (b := false) 61 rfl rfl rfl rfl rfl ?_
          refine lp (b := false) 61 rfl rfl rfl rfl rfl ?_
          refine lv (v := (.bool false)) rfl rfl (r_pickF rfl rfl) ?_
          refine lv (v := (.bool false)) rfl rfl (r_move rfl) ?_
          refine lp (b := false) 65 rfl rfl rfl rfl rfl ?_
          refine lp (b := false) 65 rfl rfl rfl rfl rfl ?_
          refine lp (b := false) 65 rfl rfl rfl rfl rfl ?_
          refine lv (v := (.bool false)) rfl rfl (r_pickF rfl rfl) ?_
          refine lv (v := (.bool false)) rfl rfl (r_move rfl) ?_
          refine lp (b := false) 70 rfl rfl rfl rfl rfl ?_
          refine lp (b := false) 70 rfl rfl rfl rfl rfl ?_
          refine lp (b := false) 70 rfl rfl rfl rfl rfl ?_
          refine lv (v := (.bool false)) rfl rfl (r_pickF rfl rfl) ?_
          refine lv (v := (.bool false)) rfl rfl (r_move rfl) ?_
          refine lp (b := false) 75 rfl rfl rfl rfl rfl ?_
          refine lp (b := false) 75 rfl rfl rfl rfl rfl ?_
          refine lp (b := false) 75 rfl rfl rfl rfl rfl ?_
          refine lv (v := (.bool false)) rfl rfl (r_pickF rfl rfl) ?_
          refine lv (v := (.bool false)) rfl rfl (r_move rfl) ?_
          refine lp (b := false) 80 rfl rfl rfl rfl rfl ?_
          refine lp (b := false) 80 rfl rfl rfl rfl rfl ?_
          refine lp (b := false) 80 rfl rfl rfl rfl rfl ?_
          refine lp (b := false) 80 rfl rfl rfl rfl rfl ?_
          refine lp (b := false) 80 rfl rfl rfl rfl rfl ?_
          refine lv (v := (.bool false)) rfl rfl (r_pickF rfl rfl) ?_
          refine lv (v := (.bool false)) rfl rfl (r_move rfl) ?_
          refine lp (b := false) 87 rfl rfl rfl rfl rfl ?_
          refine lp (b := false) 87 rfl rfl rfl rfl rfl ?_
          refine lv (v := (.bool false)) rfl rfl (r_pickF rfl rfl) ?_
          refine lv (v := (.bool false)) rfl rfl (r_move rfl) ?_
          refine lp (b := false) 91 rfl rfl rfl rfl rfl ?_
          refine lp (b := false) 91 rfl rfl rfl rfl rfl ?_
          refine lv (v := (.bool false)) rfl rfl (r_pickF rfl rfl) ?_
          refine lv (v := (.bool false)) rfl rfl (r_move rfl) ?_
          refine lp (b := false) 95 rfl rfl rfl rfl rfl ?_
          refine lp (b := false) 95 rfl rfl rfl rfl rfl ?_
          refine lp (b := false) 95 rfl rfl rfl rfl rfl ?_
          refine lp (b := false) 95 rfl rfl rfl rfl rfl ?_
          refine lv (v := (.bool false)) rfl rfl (r_pickF rfl rfl) ?_
          refine lv (v := (.bool false)) rfl rfl (r_move rfl) ?_
          refine lp (b := false) 101 rfl rfl rfl rfl rfl ?_
          refine lp (b := false) 101 rfl rfl rfl rfl rfl ?_
          refine lp (b := false) 101 rfl rfl rfl rfl rfl ?_
          refine lv (v := (.bool false)) rfl rfl (r_pickF rfl rfl) ?_
          refine lv (v := (.bool false)) rfl rfl (r_assign rfl) ?_
          refine lnil ?_
          exact ⟨col_296, false, hm, hst, rfl, rfl⟩

set_option maxRecDepth 100000 in
theorem val_l18_awake : m_l18_awake 3000000 = some true := by decide +kernel
def w_l18_awake : Option Bool := some true
theorem k_l18_awake (col : Col) (w0 : World) (r : Bool) (hm : w_l18_awake = some r) : Calls Try.prog 29 #[] w0 (fun e w' => e = .returned ((.bool r)) ∧ Below w0.heap.size w0 w') := by
  cases hm
  exact c_l18_awake 3000000 col w0 true val_l18_awake



set_option maxRecDepth 100000 in
theorem el3_31 : ElemOk Try.prog 3 1 8 := ⟨Try.t3, _, rfl, rfl, rfl, rfl, rfl⟩

def m_l18_ints_L1 (N : Nat) (p0_l : (List Int)) : Nat → (List Int) → Int → Option (Nat × (List Int))
  | 0, _, _ => none
  | n_8 + 1, m_11, i_15 => if (decide (i_15 < 9)) = true then (chk ((m_11.length + [IntKind.i64.wrap ((-70) - i_15)].length) * 8 ≤ 140737488355328 ∧ m_11.length + [IntKind.i64.wrap ((-70) - i_15)].length ≤ maxLen) ((m_l18_ints_L1 N p0_l n_8) (m_11 ++ [IntKind.i64.wrap ((-70) - i_15)]) (IntKind.i64.wrap (i_15 + 1)))) else (chk ((0 : Int) ≤ (p0_l.length : Int) ∧ (p0_l.length : Int) ≤ (m_11.length : Int)) (some ((Int.toNat (p0_l.length : Int)), m_11)))

def m_l18_ints (N : Nat) (p0_l : (List Int)) : Option (Nat × (List Int)) :=
  chk ((([] : List Int).length + p0_l.length) * 8 ≤ 140737488355328 ∧ ([] : List Int).length + p0_l.length ≤ maxLen) (m_l18_ints_L1 N p0_l N (([] : List Int) ++ p0_l) 0)

set_option maxRecDepth 100000 in
set_option maxHeartbeats 2000000 in
theorem c_l18_ints (N : Nat) (c1 : Nat) (col : Col) (w0 : World) (a0 : Option Addr) (cap0 : Nat) (p0_l : (List Int)) (h0 : Sl (Rep.int .i64) col w0 a0 cap0 p0_l) (r : (Nat × (List Int))) (hm : m_l18_ints N p0_l = some r) :
    Calls Try.prog 31 #[(.slice a0 p0_l.length cap0)] w0 (fun e w' => ∃ (col' : Col) (ra1 : Option Addr) (rc2 : Nat), e = .returned ((.slice ra1 ((r.2.take r.1).length) rc2)) ∧ Grow col w0 col' w' ∧ Own (Rep.int .i64) 3 c1 col' w' ra1 rc2 r.2) := by
  refine calls_of1 2 (m := 21) (args := [(.slice a0 p0_l.length cap0)]) Try.func31 rfl rfl rfl rfl rfl ?_
  rw [m_l18_ints.eq_1] at hm
  have hst := St.start col w0
  replace h0 := h0.keep (Stay.start col w0)
  refine wseq ?_
  refine wregion ?_
  refine lv (v := (.slice none (([] : List Int).length) 0)) rfl rfl (r_assign rfl) ?_
  refine lnil ?_
  refine wseq ?_
  refine wregion ?_
  refine lv (v := (.slice none (([] : List Int).length) 0)) rfl rfl (r_assign rfl) ?_
  refine lnil ?_
  refine wseq ?_
  refine wregion ?_
  refine lv (v := (.slice none (([] : List Int).length) 0)) rfl rfl (r_move rfl) ?_
  refine lv (v := (.slice a0 p0_l.length cap0)) rfl rfl (r_move rfl) ?_
  obtain ⟨hb_1, hm⟩ := chk_some hm
  refine l_appendM (col := (col0 col)) (w := w0) (r := (Rep.int .i64)) (c := 1) (c2 := 1) (xs := ([] : List Int)) (ys := p0_l) Own.nil h0.srcC rfl Try.underlying22 el3_31 rfl rfl rfl hb_1.1 hb_1.2 (by decide) ?_
  intro a_2 cap_3 w_4 col_5 hk_6 h_7
  replace h0 := h0.kpp hk_6 rfl
  replace hst := hst.kpp hk_6 rfl rfl
  refine lv (v := (.slice a_2 ((([] : List Int) ++ p0_l).length) cap_3)) rfl rfl (r_assign rfl) ?_
  refine lnil ?_
  refine wseq ?_
  refine wseq ?_
  refine wregion ?_
  refine lv (v := (.int .i64 0)) rfl rfl (r_assign rfl) ?_
  refine lnil ?_
  refine wblock ?_
  refine wloop (fun n f w_9 => ∃ (col_10 : Col) (a_12 : Option Addr) (cap_13 : Nat) (m_11 : List Int) (i_15 : Int) (n_8 : Nat), n_8 = n ∧ m_l18_ints_L1 N p0_l n_8 m_11 i_15 = some r ∧ St w0 (col0 col) col_10 w_9 ∧ Sl (Rep.int .i64) col_10 w_9 a0 cap0 p0_l ∧ Own (Rep.int .i64) 3 1 col_10 w_9 a_12 cap_13 m_11 ∧ f 0 = (.slice a0 p0_l.length cap0) ∧ f 3 = (.slice a_12 m_11.length cap_13) ∧ f 4 = (.int .i64 i_15) ∧ f 1000000 = (enc [])) N ⟨col_5, a_2, cap_3, (([] : List Int) ++ p0_l), 0, N, rfl, hm, hst, h0, h_7, rfl, rfl, rfl, rfl⟩ ?_
  clear hm; intro n f w_9 hI
  obtain ⟨col_10, a_12, cap_13, m_11, i_15, n_8, hn, hm, hst, h0, h_14, hs0, hs3, hs4, hs1000000⟩ := hI
  subst hn
  refine .ld (d := 0) (v := (.slice a0 p0_l.length cap0)) hs0 ?_
  refine .ld (d := 3) (v := (.slice a_12 m_11.length cap_13)) hs3 ?_
  refine .ld (d := 4) (v := (.int .i64 i_15)) hs4 ?_
  refine .ld (d := 1000000) (v := (enc [])) hs1000000 ?_
  clear hs0 hs3 hs4 hs1000000
  cases n_8 with
  | zero => rw [m_l18_ints_L1.eq_1] at hm; cases hm
  | succ n_8 =>
    rw [m_l18_ints_L1.eq_2] at hm
    refine wseq ?_
    refine wseq ?_
    refine wregion ?_
    refine lv (v := (.int .i64 i_15)) rfl rfl (r_move rfl) ?_
    refine lv (v := (.bool (decide (i_15 < 9)))) rfl rfl (r_lss i_15 9 rfl rfl) ?_
    refine lnil ?_
    refine wcond (decide (i_15 < 9)) rfl (fun hb => ?_) (fun hb => ?_)
    · rw [if_pos hb] at hm
      clear hb
      refine wskip ?_
      refine wseq ?_
      refine wblock ?_
      refine wregion ?_
      refine lv (v := (.slice a_12 m_11.length cap_13)) rfl rfl (r_move rfl) ?_
      refine lv (v := (.int .i64 i_15)) rfl rfl (r_move rfl) ?_
      refine lv (v := (.int .i64 (IntKind.i64.wrap ((-70) - i_15)))) rfl rfl (r_sub (-70) i_15 rfl rfl) ?_
      refine l_lit (col := col_10) (r := (Rep.int .i64)) (xs := [IntKind.i64.wrap ((-70) - i_15)]) [(.int .i64 (IntKind.i64.wrap ((-70) - i_15)))] 2 rfl Try.underlying22 el3_31 rfl rfl rfl rfl rfl rfl (by intro v hv; simp only [List.mem_cons, List.not_mem_nil, or_false] at hv; subst hv; rfl) (RowsH.ofF (Rows.consF (r := (Rep.int .i64)) (x := IntKind.i64.wrap ((-70) - i_15)) (cs := [(.int .i64 (IntKind.i64.wrap ((-70) - i_15)))]) (rd_int .i64 (IntKind.i64.wrap ((-70) - i_15))) Rows.nil0)) ?_
      intro a_16 w_17 col_18 hg_19 h_20
      replace h0 := h0.gr hg_19
      replace h_14 := h_14.gr hg_19
      replace hst := hst.grow hg_19
      obtain ⟨hb_21, hm⟩ := chk_some hm
      refine l_appendM (col := col_18) (w := w_17) (r := (Rep.int .i64)) (c := 1) (c2 := 1) (xs := m_11) (ys := [IntKind.i64.wrap ((-70) - i_15)]) h_14 (h_20.srcN (NB.int (k := .i64))) rfl Try.underlying22 el3_31 rfl rfl rfl hb_21.1 hb_21.2 (by decide) ?_
      intro a_22 cap_23 w_24 col_25 hk_26 h_27
      replace h0 := h0.kpp hk_26 rfl
      replace h_20 := h_20.kpp hk_26 rfl rfl
      replace hst := hst.kpp hk_26 rfl rfl
      clear h_14
      refine lv (v := (.slice a_22 ((m_11 ++ [IntKind.i64.wrap ((-70) - i_15)]).length) cap_23)) rfl rfl (r_assign rfl) ?_
      refine lnil ?_
      refine wregion ?_
      refine lv (v := (.int .i64 i_15)) rfl rfl (r_move rfl) ?_
      refine lv (v := (.int .i64 (IntKind.i64.wrap (i_15 + 1)))) rfl rfl (r_add i_15 1 rfl rfl) ?_
      refine lv (v := (.int .i64 (IntKind.i64.wrap (i_15 + 1)))) rfl rfl (r_assign rfl) ?_
      refine lnil ?_
      exact ⟨n_8, by omega, ⟨col_25, a_22, cap_23, (m_11 ++ [IntKind.i64.wrap ((-70) - i_15)]), (IntKind.i64.wrap (i_15 + 1)), n_8, rfl, hm, hst, h0, h_27, rfl, rfl, rfl, rfl⟩⟩
    · rw [if_neg (by rw [hb]; decide)] at hm
      clear hb
      refine wexit (inB_hit ?_)
      refine wseq ?_
      refine wregion ?_
      refine lv (v := (.slice a_12 m_11.length cap_13)) rfl rfl (r_move rfl) ?_
      refine lv (v := (.slice a0 p0_l.length cap0)) rfl rfl (r_move rfl) ?_
      refine lv (v := (.int .i64 (p0_l.length : Int))) rfl rfl (r_len Try.underlying22 rfl) ?_
      obtain ⟨hb_28, hm⟩ := chk_some hm
      refine lv (v := .slice a_12 (Int.toNat (p0_l.length : Int)) cap_13) rfl rfl (r_sliceH Try.underlying22 Try.sizeOf3 rfl rfl hb_28.1 (by have := h_14.lecap; have := hb_28.2; omega)) ?_
      refine .ld (d := 20) (v := (.slice a_12 ((m_11.take (Int.toNat (p0_l.length : Int))).length) cap_13)) (congrArg (fun n => Value.slice a_12 n cap_13) (List.length_take_of_le (show (Int.toNat (p0_l.length : Int)) ≤ m_11.length by have := hb_28.2; omega)).symm) ?_
      refine lv (v := (.slice a_12 ((m_11.take (Int.toNat (p0_l.length : Int))).length) cap_13)) rfl rfl (r_assign rfl) ?_
      refine lnil ?_
      refine wret ?_
      cases hm
      exact ⟨rfl, colF w0.heap.size col col_10 (fun n => bif Nat.beq n 1 then c1 else 0), a_12, cap_13, rfl, hst.fin (fun n => bif Nat.beq n 1 then c1 else 0), hst.finOwn (g := (fun n => bif Nat.beq n 1 then c1 else 0)) rfl h_14 (by decide) (by decide) rfl⟩




def m_r18_times_J1 (i_5 : Int) (kk_L1 : (Int → Int → Option Int)) (n_8 : Int) : Option Int :=
  kk_L1 n_8 (IntKind.i64.wrap (i_5 + 1))

def m_r18_times_L1 (N : Nat) (p0_l : (List Int)) (p1_x : Int) : Nat → Int → Int → Option Int
  | 0, _, _ => none
  | n_1 + 1, n_4, i_5 => if (decide (i_5 < (p0_l.length : Int))) = true then ((at? p0_l i_5).bind fun e_9 => if (decide (e_9 = p1_x)) = true then (m_r18_times_J1 i_5 (m_r18_times_L1 N p0_l p1_x n_1) (IntKind.i64.wrap (n_4 + 1))) else (m_r18_times_J1 i_5 (m_r18_times_L1 N p0_l p1_x n_1) n_4)) else (some n_4)

def m_r18_times (N : Nat) (p0_l : (List Int)) (p1_x : Int) : Option Int :=
  m_r18_times_L1 N p0_l p1_x N 0 0

set_option maxRecDepth 100000 in
set_option maxHeartbeats 2000000 in
theorem c_r18_times (N : Nat) (col : Col) (w0 : World) (a0 : Option Addr) (cap0 : Nat) (p0_l : (List Int)) (p1_x : Int) (h0 : Sl (Rep.int .i64) col w0 a0 cap0 p0_l) (r : Int) (hm : m_r18_times N p0_l p1_x = some r) :
    Calls Try.prog 83 #[(.slice a0 p0_l.length cap0), (.int .i64 p1_x)] w0 (fun e w' => e = .returned ((.int .i64 r)) ∧ Below w0.heap.size w0 w') := by
  refine calls_of1 4 (m := 22) (args := [(.slice a0 p0_l.length cap0), (.int .i64 p1_x)]) Try.func83 rfl rfl rfl rfl rfl ?_
  rw [m_r18_times.eq_1] at hm
  have hst := St.start col w0
  replace h0 := h0.keep (Stay.start col w0)
  refine wseq ?_
  refine wregion ?_
  refine lv (v := (.int .i64 0)) rfl rfl (r_assign rfl) ?_
  refine lnil ?_
  refine wseq ?_
  refine wregion ?_
  refine lv (v := (.int .i64 0)) rfl rfl (r_assign rfl) ?_
  refine lnil ?_
  refine wseq ?_
  refine wseq ?_
  refine wregion ?_
  refine lv (v := (.int .i64 0)) rfl rfl (r_assign rfl) ?_
  refine lnil ?_
  refine wblock ?_
  refine wloop (fun n f w_2 => ∃ (col_3 : Col) (n_4 : Int) (i_5 : Int) (n_1 : Nat), n_1 = n ∧ m_r18_times_L1 N p0_l p1_x n_1 n_4 i_5 = some r ∧ St w0 (col0 col) col_3 w_2 ∧ Sl (Rep.int .i64) col_3 w_2 a0 cap0 p0_l ∧ f 0 = (.slice a0 p0_l.length cap0) ∧ f 1 = (.int .i64 p1_x) ∧ f 5 = (.int .i64 n_4) ∧ f 6 = (.int .i64 i_5) ∧ f 1000000 = (enc [])) N ⟨(col0 col), 0, 0, N, rfl, hm, hst, h0, rfl, rfl, rfl, rfl, rfl⟩ ?_
  clear hm; intro n f w_2 hI
  obtain ⟨col_3, n_4, i_5, n_1, hn, hm, hst, h0, hs0, hs1, hs5, hs6, hs1000000⟩ := hI
  subst hn
  refine .ld (d := 0) (v := (.slice a0 p0_l.length cap0)) hs0 ?_
  refine .ld (d := 1) (v := (.int .i64 p1_x)) hs1 ?_
  refine .ld (d := 5) (v := (.int .i64 n_4)) hs5 ?_
  refine .ld (d := 6) (v := (.int .i64 i_5)) hs6 ?_
  refine .ld (d := 1000000) (v := (enc [])) hs1000000 ?_
  clear hs0 hs1 hs5 hs6 hs1000000
  cases n_1 with
  | zero => rw [m_r18_times_L1.eq_1] at hm; cases hm
  | succ n_1 =>
    rw [m_r18_times_L1.eq_2] at hm
    refine wseq ?_
    refine wseq ?_
    refine wregion ?_
    refine lv (v := (.int .i64 i_5)) rfl rfl (r_move rfl) ?_
    refine lv (v := (.slice a0 p0_l.length cap0)) rfl rfl (r_move rfl) ?_
    refine lv (v := (.int .i64 (p0_l.length : Int))) rfl rfl (r_len Try.underlying22 rfl) ?_
    refine lv (v := (.bool (decide (i_5 < (p0_l.length : Int))))) rfl rfl (r_lss i_5 (p0_l.length : Int) rfl rfl) ?_
    refine lnil ?_
    refine wcond (decide (i_5 < (p0_l.length : Int))) rfl (fun hb => ?_) (fun hb => ?_)
    · rw [if_pos hb] at hm
      clear hb
      refine wskip ?_
      refine wseq ?_
      refine Wp.cut (fun f w_6 => ∃ (col_7 : Col) (n_8 : Int), m_r18_times_J1 i_5 (m_r18_times_L1 N p0_l p1_x n_1) n_8 = some r ∧ St w0 (col0 col) col_7 w_6 ∧ Sl (Rep.int .i64) col_7 w_6 a0 cap0 p0_l ∧ f 0 = (.slice a0 p0_l.length cap0) ∧ f 1 = (.int .i64 p1_x) ∧ f 5 = (.int .i64 n_8) ∧ f 6 = (.int .i64 i_5) ∧ f 1000000 = (enc [])) ?_ ?_
      · intro f w_6 hJ
        obtain ⟨col_7, n_8, hm, hst, h0, hs0, hs1, hs5, hs6, hs1000000⟩ := hJ
        rw [m_r18_times_J1.eq_1] at hm
        refine .ld (d := 0) (v := (.slice a0 p0_l.length cap0)) hs0 ?_
        refine .ld (d := 1) (v := (.int .i64 p1_x)) hs1 ?_
        refine .ld (d := 5) (v := (.int .i64 n_8)) hs5 ?_
        refine .ld (d := 6) (v := (.int .i64 i_5)) hs6 ?_
        refine .ld (d := 1000000) (v := (enc [])) hs1000000 ?_
        clear hs0 hs1 hs5 hs6 hs1000000
        refine wregion ?_
        refine lv (v := (.int .i64 i_5)) rfl rfl (r_move rfl) ?_
        refine lv (v := (.int .i64 (IntKind.i64.wrap (i_5 + 1)))) rfl rfl (r_add i_5 1 rfl rfl) ?_
        refine lv (v := (.int .i64 (IntKind.i64.wrap (i_5 + 1)))) rfl rfl (r_assign rfl) ?_
        refine lnil ?_
        exact ⟨n_1, by omega, ⟨col_7, n_8, (IntKind.i64.wrap (i_5 + 1)), n_1, rfl, hm, hst, h0, rfl, rfl, rfl, rfl, rfl⟩⟩
      · refine wblock ?_
        refine wseq ?_
        refine wregion ?_
        refine lv (v := (.slice a0 p0_l.length cap0)) rfl rfl (r_move rfl) ?_
        refine lv (v := (.int .i64 i_5)) rfl rfl (r_move rfl) ?_
        obtain ⟨e_9, hj_10, hm⟩ := bind_some hm
        refine lv (v := (sptr a0 (Int.toNat i_5 * 1))) rfl rfl (r_idx Try.underlying22 Try.sizeOf3 rfl rfl (at?_some hj_10).1 (at?_some hj_10).2.1 (h0.addr hj_10)) ?_
        refine lv (v := (.int .i64 e_9)) rfl rfl (r_ld Try.isAgg3 rfl (h0.atInt hj_10)) ?_
        refine lv (v := (.int .i64 p1_x)) rfl rfl (r_move rfl) ?_
        refine lv (v := (.bool (decide (e_9 = p1_x)))) rfl rfl (r_eql e_9 p1_x rfl rfl) ?_
        refine lnil ?_
        refine wcond (decide (e_9 = p1_x)) rfl (fun hb => ?_) (fun hb => ?_)
        · rw [if_pos hb] at hm
          clear hb
          refine wregion ?_
          refine lv (v := (.int .i64 n_4)) rfl rfl (r_move rfl) ?_
          refine lv (v := (.int .i64 (IntKind.i64.wrap (n_4 + 1)))) rfl rfl (r_add n_4 1 rfl rfl) ?_
          refine lv (v := (.int .i64 (IntKind.i64.wrap (n_4 + 1)))) rfl rfl (r_assign rfl) ?_
          refine lnil ?_
          exact ⟨col_3, (IntKind.i64.wrap (n_4 + 1)), hm, hst, h0, rfl, rfl, rfl, rfl, rfl⟩
        · rw [if_neg (by rw [hb]; decide)] at hm
          clear hb
          refine wskip ?_
          exact ⟨col_3, n_4, hm, hst, h0, rfl, rfl, rfl, rfl, rfl⟩
    · rw [if_neg (by rw [hb]; decide)] at hm
      clear hb
      refine wexit (inB_hit ?_)
      refine wseq ?_
      refine wregion ?_
      refine lv (v := (.int .i64 n_4)) rfl rfl (r_move rfl) ?_
      refine lv (v := (.int .i64 n_4)) rfl rfl (r_assign rfl) ?_
      refine lnil ?_
      refine wret ?_
      cases hm
      exact ⟨rfl, rfl, hst.below⟩






def m_l18_kept_J1 (i_5 : Int) (kk_L1 : (Int → Option Bool)) : Option Bool :=
  kk_L1 (IntKind.i64.wrap (i_5 + 1))

def m_l18_kept_J2 (i_5 : Int) (kk_L1 : (Int → Option Bool)) (v_40 : Bool) : Option Bool :=
  if v_40 = true then (some false) else (m_l18_kept_J1 i_5 kk_L1)

def m_l18_kept_L1 (N : Nat) (n0 : Nat) (p0_m : (List Int)) (p1_l : (List Int)) : Nat → Int → Option Bool
  | 0, _ => none
  | n_2 + 1, i_5 => if (decide (i_5 < ((p0_m.take (Int.toNat (IntKind.i64.wrap ((p1_l.length : Int) + 9)))).length : Int))) = true then (if (decide (i_5 < (p1_l.length : Int))) = true then ((at? (p0_m.take (Int.toNat (IntKind.i64.wrap ((p1_l.length : Int) + 9)))) i_5).bind fun e_42 => (at? p1_l i_5).bind fun e_44 => if (!decide (e_42 = e_44)) = true then (m_l18_kept_J2 i_5 (m_l18_kept_L1 N n0 p0_m p1_l n_2) true) else (if (decide ((p1_l.length : Int) ≤ i_5)) = true then (m_l18_kept_J2 i_5 (m_l18_kept_L1 N n0 p0_m p1_l n_2) (!decide (e_42 = (IntKind.i64.wrap ((-70) - (IntKind.i64.wrap (i_5 - (p1_l.length : Int)))))))) else (m_l18_kept_J2 i_5 (m_l18_kept_L1 N n0 p0_m p1_l n_2) false))) else (if (decide ((p1_l.length : Int) ≤ i_5)) = true then ((at? (p0_m.take (Int.toNat (IntKind.i64.wrap ((p1_l.length : Int) + 9)))) i_5).bind fun e_52 => m_l18_kept_J2 i_5 (m_l18_kept_L1 N n0 p0_m p1_l n_2) (!decide (e_52 = (IntKind.i64.wrap ((-70) - (IntKind.i64.wrap (i_5 - (p1_l.length : Int)))))))) else (m_l18_kept_J2 i_5 (m_l18_kept_L1 N n0 p0_m p1_l n_2) false))) else (some (decide (((p0_m.take n0).length : Int) = (p1_l.length : Int))))

def m_l18_kept (N : Nat) (n0 : Nat) (p0_m : (List Int)) (p1_l : (List Int)) : Option Bool :=
  chk ((0 : Int) ≤ (IntKind.i64.wrap ((p1_l.length : Int) + 9)) ∧ (IntKind.i64.wrap ((p1_l.length : Int) + 9)) ≤ (p0_m.length : Int)) (m_l18_kept_L1 N n0 p0_m p1_l N 0)

set_option maxRecDepth 100000 in
set_option maxHeartbeats 2000000 in
theorem c_l18_kept (N : Nat) (col : Col) (w0 : World) (a0 : Option Addr) (cap0 : Nat) (n0 : Nat) (p0_m : (List Int)) (a1 : Option Addr) (cap1 : Nat) (p1_l : (List Int)) (h0 : Sl (Rep.int .i64) col w0 a0 cap0 p0_m) (h1 : Sl (Rep.int .i64) col w0 a1 cap1 p1_l) (r : Bool) (hm : m_l18_kept N n0 p0_m p1_l = some r) :
    Calls Try.prog 38 #[(.slice a0 ((p0_m.take n0).length) cap0), (.slice a1 p1_l.length cap1)] w0 (fun e w' => e = .returned ((.bool r)) ∧ Below w0.heap.size w0 w') := by
  refine calls_of1 4 (m := 56) (args := [(.slice a0 ((p0_m.take n0).length) cap0), (.slice a1 p1_l.length cap1)]) Try.func38 rfl rfl rfl rfl rfl ?_
  rw [m_l18_kept.eq_1] at hm
  have hst := St.start col w0
  replace h0 := h0.keep (Stay.start col w0)
  replace h1 := h1.keep (Stay.start col w0)
  refine wseq ?_
  refine wregion ?_
  refine lv (v := (.bool false)) rfl rfl (r_assign rfl) ?_
  refine lnil ?_
  refine wseq ?_
  refine wregion ?_
  refine lv (v := (.slice a0 ((p0_m.take n0).length) cap0)) rfl rfl (r_move rfl) ?_
  refine lv (v := (.slice a1 p1_l.length cap1)) rfl rfl (r_move rfl) ?_
  refine lv (v := (.int .i64 (p1_l.length : Int))) rfl rfl (r_len Try.underlying22 rfl) ?_
  refine lv (v := (.int .i64 (IntKind.i64.wrap ((p1_l.length : Int) + 9)))) rfl rfl (r_add (p1_l.length : Int) 9 rfl rfl) ?_
  obtain ⟨hb_1, hm⟩ := chk_some hm
  refine lv (v := .slice a0 (Int.toNat (IntKind.i64.wrap ((p1_l.length : Int) + 9))) cap0) rfl rfl (r_sliceH Try.underlying22 Try.sizeOf3 rfl rfl hb_1.1 (by have := h0.1.2; have := hb_1.2; omega)) ?_
  refine .ld (d := 11) (v := (.slice a0 ((p0_m.take (Int.toNat (IntKind.i64.wrap ((p1_l.length : Int) + 9)))).length) cap0)) (congrArg (fun n => Value.slice a0 n cap0) (List.length_take_of_le (show (Int.toNat (IntKind.i64.wrap ((p1_l.length : Int) + 9))) ≤ p0_m.length by have := hb_1.2; omega)).symm) ?_
  refine lv (v := (.slice a0 ((p0_m.take (Int.toNat (IntKind.i64.wrap ((p1_l.length : Int) + 9)))).length) cap0)) rfl rfl (r_assign rfl) ?_
  refine lnil ?_
  refine wseq ?_
  refine wseq ?_
  refine wregion ?_
  refine lv (v := (.int .i64 0)) rfl rfl (r_assign rfl) ?_
  refine lnil ?_
  refine wblock ?_
  refine wloop (fun n f w_3 => ∃ (col_4 : Col) (i_5 : Int) (n_2 : Nat), n_2 = n ∧ m_l18_kept_L1 N n0 p0_m p1_l n_2 i_5 = some r ∧ St w0 (col0 col) col_4 w_3 ∧ Sl (Rep.int .i64) col_4 w_3 a0 cap0 p0_m ∧ Sl (Rep.int .i64) col_4 w_3 a1 cap1 p1_l ∧ f 0 = (.slice a0 ((p0_m.take n0).length) cap0) ∧ f 1 = (.slice a1 p1_l.length cap1) ∧ f 5 = (.slice a0 ((p0_m.take (Int.toNat (IntKind.i64.wrap ((p1_l.length : Int) + 9)))).length) cap0) ∧ f 6 = (.int .i64 i_5) ∧ f 1000000 = (enc [])) N ⟨(col0 col), 0, N, rfl, hm, hst, h0, h1, rfl, rfl, rfl, rfl, rfl⟩ ?_
  clear hm; intro n f w_3 hI
  obtain ⟨col_4, i_5, n_2, hn, hm, hst, h0, h1, hs0, hs1, hs5, hs6, hs1000000⟩ := hI
  subst hn
  refine .ld (d := 0) (v := (.slice a0 ((p0_m.take n0).length) cap0)) hs0 ?_
  refine .ld (d := 1) (v := (.slice a1 p1_l.length cap1)) hs1 ?_
  refine .ld (d := 5) (v := (.slice a0 ((p0_m.take (Int.toNat (IntKind.i64.wrap ((p1_l.length : Int) + 9)))).length) cap0)) hs5 ?_
  refine .ld (d := 6) (v := (.int .i64 i_5)) hs6 ?_
  refine .ld (d := 1000000) (v := (enc [])) hs1000000 ?_
  clear hs0 hs1 hs5 hs6 hs1000000
  cases n_2 with
  | zero => rw [m_l18_kept_L1.eq_1] at hm; cases hm
  | succ n_2 =>
    rw [m_l18_kept_L1.eq_2] at hm
    refine wseq ?_
    refine wseq ?_
    refine wregion ?_
    refine lv (v := (.int .i64 i_5)) rfl rfl (r_move rfl) ?_
    refine lv (v := (.slice a0 ((p0_m.take (Int.toNat (IntKind.i64.wrap ((p1_l.length : Int) + 9)))).length) cap0)) rfl rfl (r_move rfl) ?_
    refine lv (v := (.int .i64 ((p0_m.take (Int.toNat (IntKind.i64.wrap ((p1_l.length : Int) + 9)))).length : Int))) rfl rfl (r_len Try.underlying22 rfl) ?_
    refine lv (v := (.bool (decide (i_5 < ((p0_m.take (Int.toNat (IntKind.i64.wrap ((p1_l.length : Int) + 9)))).length : Int))))) rfl rfl (r_lss i_5 ((p0_m.take (Int.toNat (IntKind.i64.wrap ((p1_l.length : Int) + 9)))).length : Int) rfl rfl) ?_
    refine lnil ?_
    refine wcond (decide (i_5 < ((p0_m.take (Int.toNat (IntKind.i64.wrap ((p1_l.length : Int) + 9)))).length : Int))) rfl (fun hb => ?_) (fun hb => ?_)
    · rw [if_pos hb] at hm
      clear hb
      refine wskip ?_
      refine wseq ?_
      refine Wp.cut (fun f w_6 => ∃ (col_7 : Col), m_l18_kept_J1 i_5 (m_l18_kept_L1 N n0 p0_m p1_l n_2)  = some r ∧ St w0 (col0 col) col_7 w_6 ∧ Sl (Rep.int .i64) col_7 w_6 a0 cap0 p0_m ∧ Sl (Rep.int .i64) col_7 w_6 a1 cap1 p1_l ∧ f 0 = (.slice a0 ((p0_m.take n0).length) cap0) ∧ f 1 = (.slice a1 p1_l.length cap1) ∧ f 5 = (.slice a0 ((p0_m.take (Int.toNat (IntKind.i64.wrap ((p1_l.length : Int) + 9)))).length) cap0) ∧ f 6 = (.int .i64 i_5) ∧ f 1000000 = (enc [])) ?_ ?_
      · intro f w_6 hJ
        obtain ⟨col_7, hm, hst, h0, h1, hs0, hs1, hs5, hs6, hs1000000⟩ := hJ
        rw [m_l18_kept_J1.eq_1] at hm
        refine .ld (d := 0) (v := (.slice a0 ((p0_m.take n0).length) cap0)) hs0 ?_
        refine .ld (d := 1) (v := (.slice a1 p1_l.length cap1)) hs1 ?_
        refine .ld (d := 5) (v := (.slice a0 ((p0_m.take (Int.toNat (IntKind.i64.wrap ((p1_l.length : Int) + 9)))).length) cap0)) hs5 ?_
        refine .ld (d := 6) (v := (.int .i64 i_5)) hs6 ?_
        refine .ld (d := 1000000) (v := (enc [])) hs1000000 ?_
        clear hs0 hs1 hs5 hs6 hs1000000
        refine wregion ?_
        refine lv (v := (.int .i64 i_5)) rfl rfl (r_move rfl) ?_
        refine lv (v := (.int .i64 (IntKind.i64.wrap (i_5 + 1)))) rfl rfl (r_add i_5 1 rfl rfl) ?_
        refine lv (v := (.int .i64 (IntKind.i64.wrap (i_5 + 1)))) rfl rfl (r_assign rfl) ?_
        refine lnil ?_
        exact ⟨n_2, by omega, ⟨col_7, (IntKind.i64.wrap (i_5 + 1)), n_2, rfl, hm, hst, h0, h1, rfl, rfl, rfl, rfl, rfl⟩⟩
      · refine wblock ?_
        refine wseq ?_
        refine Wp.cut (fun f w_38 => ∃ (col_39 : Col) (v_40 : Bool), m_l18_kept_J2 i_5 (m_l18_kept_L1 N n0 p0_m p1_l n_2) v_40 = some r ∧ St w0 (col0 col) col_39 w_38 ∧ Sl (Rep.int .i64) col_39 w_38 a0 cap0 p0_m ∧ Sl (Rep.int .i64) col_39 w_38 a1 cap1 p1_l ∧ f 0 = (.slice a0 ((p0_m.take n0).length) cap0) ∧ f 1 = (.slice a1 p1_l.length cap1) ∧ f 5 = (.slice a0 ((p0_m.take (Int.toNat (IntKind.i64.wrap ((p1_l.length : Int) + 9)))).length) cap0) ∧ f 50 = (.bool v_40) ∧ f 6 = (.int .i64 i_5) ∧ f 1000000 = (enc [])) ?_ ?_
        · intro f w_38 hJ
          obtain ⟨col_39, v_40, hm, hst, h0, h1, hs0, hs1, hs5, hs50, hs6, hs1000000⟩ := hJ
          rw [m_l18_kept_J2.eq_1] at hm
          refine .ld (d := 0) (v := (.slice a0 ((p0_m.take n0).length) cap0)) hs0 ?_
          refine .ld (d := 1) (v := (.slice a1 p1_l.length cap1)) hs1 ?_
          refine .ld (d := 5) (v := (.slice a0 ((p0_m.take (Int.toNat (IntKind.i64.wrap ((p1_l.length : Int) + 9)))).length) cap0)) hs5 ?_
          refine .ld (d := 50) (v := (.bool v_40)) hs50 ?_
          refine .ld (d := 6) (v := (.int .i64 i_5)) hs6 ?_
          refine .ld (d := 1000000) (v := (enc [])) hs1000000 ?_
          clear hs0 hs1 hs5 hs50 hs6 hs1000000
          refine wcond (v_40) rfl (fun hb => ?_) (fun hb => ?_)
          · rw [if_pos hb] at hm
            clear hb
            refine wseq ?_
            refine wregion ?_
            refine lv (v := (.bool false)) rfl rfl (r_assign rfl) ?_
            refine lnil ?_
            refine wret ?_
            cases hm
            exact ⟨rfl, rfl, hst.below⟩
          · rw [if_neg (by rw [hb]; decide)] at hm
            clear hb
            refine wskip ?_
            exact ⟨col_39, hm, hst, h0, h1, rfl, rfl, rfl, rfl, rfl⟩
        · refine wquiet (col := col_4) (by kernel_rfl) (by kernel_rfl) ?_
          refine qv (v := (.int .i64 i_5)) rfl (fun _ hC => r_move rfl) ?_
          refine qv (v := (.slice a1 p1_l.length cap1)) rfl (fun _ hC => r_move rfl) ?_
          refine qv (v := (.int .i64 (p1_l.length : Int))) rfl (fun _ hC => r_len Try.underlying22 rfl) ?_
          refine qv (v := (.bool (decide (i_5 < (p1_l.length : Int))))) rfl (fun _ hC => r_lss i_5 (p1_l.length : Int) rfl rfl) ?_
          refine qv (v := (.bool (decide (i_5 < (p1_l.length : Int))))) rfl (fun _ hC => r_move rfl) ?_
          by_cases hg_41 : (decide (i_5 < (p1_l.length : Int))) = true
          · rw [if_pos hg_41] at hm
            refine qg (b := decide (i_5 < (p1_l.length : Int))) 22 rfl rfl rfl (by rw [hg_41]; rfl) ?_
            refine qv (v := (.slice a0 ((p0_m.take (Int.toNat (IntKind.i64.wrap ((p1_l.length : Int) + 9)))).length) cap0)) rfl (fun _ hC => r_move rfl) ?_
            refine qg (b := decide (i_5 < (p1_l.length : Int))) 22 rfl rfl rfl (by rw [hg_41]; rfl) ?_
            refine qv (v := (.int .i64 i_5)) rfl (fun _ hC => r_move rfl) ?_
            refine qg (b := decide (i_5 < (p1_l.length : Int))) 22 rfl rfl rfl (by rw [hg_41]; rfl) ?_
            obtain ⟨e_42, hj_43, hm⟩ := bind_some hm
            refine qv (v := (sptr a0 (Int.toNat i_5 * 1))) rfl (fun _ hC => r_idx Try.underlying22 Try.sizeOf3 rfl rfl (at?_some hj_43).1 (at?_some hj_43).2.1 ((h0.take (Int.toNat (IntKind.i64.wrap ((p1_l.length : Int) + 9)))).addr hj_43)) ?_
            refine qg (b := decide (i_5 < (p1_l.length : Int))) 22 rfl rfl rfl (by rw [hg_41]; rfl) ?_
            refine qv (v := (.int .i64 e_42)) rfl (fun _ hC => r_ld Try.isAgg3 rfl (((h0.take (Int.toNat (IntKind.i64.wrap ((p1_l.length : Int) + 9)))).gr (Grow.of_below (col := col_4) hC.below)).atInt hj_43)) ?_
            refine qg (b := decide (i_5 < (p1_l.length : Int))) 22 rfl rfl rfl (by rw [hg_41]; rfl) ?_
            refine qv (v := (.slice a1 p1_l.length cap1)) rfl (fun _ hC => r_move rfl) ?_
            refine qg (b := decide (i_5 < (p1_l.length : Int))) 22 rfl rfl rfl (by rw [hg_41]; rfl) ?_
            refine qv (v := (.int .i64 i_5)) rfl (fun _ hC => r_move rfl) ?_
            refine qg (b := decide (i_5 < (p1_l.length : Int))) 22 rfl rfl rfl (by rw [hg_41]; rfl) ?_
            obtain ⟨e_44, hj_45, hm⟩ := bind_some hm
            refine qv (v := (sptr a1 (Int.toNat i_5 * 1))) rfl (fun _ hC => r_idx Try.underlying22 Try.sizeOf3 rfl rfl (at?_some hj_45).1 (at?_some hj_45).2.1 (h1.addr hj_45)) ?_
            refine qg (b := decide (i_5 < (p1_l.length : Int))) 22 rfl rfl rfl (by rw [hg_41]; rfl) ?_
            refine qv (v := (.int .i64 e_44)) rfl (fun _ hC => r_ld Try.isAgg3 rfl ((h1.gr (Grow.of_below (col := col_4) hC.below)).atInt hj_45)) ?_
            refine qg (b := decide (i_5 < (p1_l.length : Int))) 22 rfl rfl rfl (by rw [hg_41]; rfl) ?_
            refine qv (v := (.bool (!decide (e_42 = e_44)))) rfl (fun _ hC => r_neq e_42 e_44 rfl rfl) ?_
            refine qv (v := (.bool (!decide (e_42 = e_44)))) rfl (fun _ hC => r_pickT (congrArg Value.bool hg_41) rfl) ?_
            refine qv (v := (.bool (!decide (e_42 = e_44)))) rfl (fun _ hC => r_move rfl) ?_
            by_cases hg_46 : (!decide (e_42 = e_44)) = true
            · rw [if_pos hg_46] at hm
              refine qp (b := !decide (e_42 = e_44)) 33 rfl rfl rfl rfl (by rw [hg_46]; rfl) ?_
              refine qp (b := !decide (e_42 = e_44)) 33 rfl rfl rfl rfl (by rw [hg_46]; rfl) ?_
              refine qp (b := !decide (e_42 = e_44)) 33 rfl rfl rfl rfl (by rw [hg_46]; rfl) ?_
              refine qp (b := !decide (e_42 = e_44)) 33 rfl rfl rfl rfl (by rw [hg_46]; rfl) ?_
              refine qp (b := !decide (e_42 = e_44)) 33 rfl rfl rfl rfl (by rw [hg_46]; rfl) ?_
              refine qpU 38 rfl rfl rfl rfl ?_
              refine qpU 38 rfl rfl rfl rfl ?_
              refine qpU 38 rfl rfl rfl rfl ?_
              refine qpU 38 rfl rfl rfl rfl ?_
              refine qpU 38 rfl rfl rfl rfl ?_
              refine qpU 38 rfl rfl rfl rfl ?_
              refine qpU 38 rfl rfl rfl rfl ?_
              refine qpU 38 rfl rfl rfl rfl ?_
              refine qpU 38 rfl rfl rfl rfl ?_
              refine qpU 38 rfl rfl rfl rfl ?_
              refine qp (b := !decide (e_42 = e_44)) 33 rfl rfl rfl rfl (by rw [hg_46]; rfl) ?_
              refine qv (v := (.bool true)) rfl (fun _ hC => r_pickT (congrArg Value.bool hg_46) rfl) ?_
              refine qnil ?_
              intro w_47 hC
              replace hC : Grow col_4 w_3 col_4 w_47 := .of_below hC.below
              replace h0 := h0.gr hC
              replace h1 := h1.gr hC
              replace hst := hst.grow hC
              exact ⟨col_4, true, hm, hst, h0, h1, rfl, rfl, rfl, rfl, rfl, rfl⟩
            · rw [if_neg hg_46] at hm
              replace hg_46 := Bool.eq_false_iff.2 hg_46
              refine qg (b := !decide (e_42 = e_44)) 33 rfl rfl rfl (by rw [hg_46]; rfl) ?_
              refine qv (v := (.int .i64 i_5)) rfl (fun _ hC => r_move rfl) ?_
              refine qg (b := !decide (e_42 = e_44)) 33 rfl rfl rfl (by rw [hg_46]; rfl) ?_
              refine qv (v := (.slice a1 p1_l.length cap1)) rfl (fun _ hC => r_move rfl) ?_
              refine qg (b := !decide (e_42 = e_44)) 33 rfl rfl rfl (by rw [hg_46]; rfl) ?_
              refine qv (v := (.int .i64 (p1_l.length : Int))) rfl (fun _ hC => r_len Try.underlying22 rfl) ?_
              refine qg (b := !decide (e_42 = e_44)) 33 rfl rfl rfl (by rw [hg_46]; rfl) ?_
              refine qv (v := (.bool (decide ((p1_l.length : Int) ≤ i_5)))) rfl (fun _ hC => r_geq i_5 (p1_l.length : Int) rfl rfl) ?_
              refine qg (b := !decide (e_42 = e_44)) 33 rfl rfl rfl (by rw [hg_46]; rfl) ?_
              refine qv (v := (.bool (decide ((p1_l.length : Int) ≤ i_5)))) rfl (fun _ hC => r_move rfl) ?_
              by_cases hg_48 : (decide ((p1_l.length : Int) ≤ i_5)) = true
              · rw [if_pos hg_48] at hm
                refine qg (b := decide ((p1_l.length : Int) ≤ i_5)) 38 rfl rfl rfl (by rw [hg_48]; rfl) ?_
                refine qv (v := (.slice a0 ((p0_m.take (Int.toNat (IntKind.i64.wrap ((p1_l.length : Int) + 9)))).length) cap0)) rfl (fun _ hC => r_move rfl) ?_
                refine qg (b := decide ((p1_l.length : Int) ≤ i_5)) 38 rfl rfl rfl (by rw [hg_48]; rfl) ?_
                refine qv (v := (.int .i64 i_5)) rfl (fun _ hC => r_move rfl) ?_
                refine qg (b := decide ((p1_l.length : Int) ≤ i_5)) 38 rfl rfl rfl (by rw [hg_48]; rfl) ?_
                refine qv (v := (sptr a0 (Int.toNat i_5 * 1))) rfl (fun _ hC => r_idx Try.underlying22 Try.sizeOf3 rfl rfl (at?_some hj_43).1 (at?_some hj_43).2.1 ((h0.take (Int.toNat (IntKind.i64.wrap ((p1_l.length : Int) + 9)))).addr hj_43)) ?_
                refine qg (b := decide ((p1_l.length : Int) ≤ i_5)) 38 rfl rfl rfl (by rw [hg_48]; rfl) ?_
                refine qv (v := (.int .i64 e_42)) rfl (fun _ hC => r_ld Try.isAgg3 rfl (((h0.take (Int.toNat (IntKind.i64.wrap ((p1_l.length : Int) + 9)))).gr (Grow.of_below (col := col_4) hC.below)).atInt hj_43)) ?_
                refine qg (b := decide ((p1_l.length : Int) ≤ i_5)) 38 rfl rfl rfl (by rw [hg_48]; rfl) ?_
                refine qv (v := (.int .i64 i_5)) rfl (fun _ hC => r_move rfl) ?_
                refine qg (b := decide ((p1_l.length : Int) ≤ i_5)) 38 rfl rfl rfl (by rw [hg_48]; rfl) ?_
                refine qv (v := (.slice a1 p1_l.length cap1)) rfl (fun _ hC => r_move rfl) ?_
                refine qg (b := decide ((p1_l.length : Int) ≤ i_5)) 38 rfl rfl rfl (by rw [hg_48]; rfl) ?_
                refine qv (v := (.int .i64 (p1_l.length : Int))) rfl (fun _ hC => r_len Try.underlying22 rfl) ?_
                refine qg (b := decide ((p1_l.length : Int) ≤ i_5)) 38 rfl rfl rfl (by rw [hg_48]; rfl) ?_
                refine qv (v := (.int .i64 (IntKind.i64.wrap (i_5 - (p1_l.length : Int))))) rfl (fun _ hC => r_sub i_5 (p1_l.length : Int) rfl rfl) ?_
                refine qg (b := decide ((p1_l.length : Int) ≤ i_5)) 38 rfl rfl rfl (by rw [hg_48]; rfl) ?_
                refine qv (v := (.int .i64 (IntKind.i64.wrap ((-70) - (IntKind.i64.wrap (i_5 - (p1_l.length : Int))))))) rfl (fun _ hC => r_sub (-70) (IntKind.i64.wrap (i_5 - (p1_l.length : Int))) rfl rfl) ?_
                refine qg (b := decide ((p1_l.length : Int) ≤ i_5)) 38 rfl rfl rfl (by rw [hg_48]; rfl) ?_
                refine qv (v := (.bool (!decide (e_42 = (IntKind.i64.wrap ((-70) - (IntKind.i64.wrap (i_5 - (p1_l.length : Int))))))))) rfl (fun _ hC => r_neq e_42 (IntKind.i64.wrap ((-70) - (IntKind.i64.wrap (i_5 - (p1_l.length : Int))))) rfl rfl) ?_
                refine qg (b := !decide (e_42 = e_44)) 33 rfl rfl rfl (by rw [hg_46]; rfl) ?_
                refine qv (v := (.bool (!decide (e_42 = (IntKind.i64.wrap ((-70) - (IntKind.i64.wrap (i_5 - (p1_l.length : Int))))))))) rfl (fun _ hC => r_pickT (congrArg Value.bool hg_48) rfl) ?_
                refine qv (v := (.bool (!decide (e_42 = (IntKind.i64.wrap ((-70) - (IntKind.i64.wrap (i_5 - (p1_l.length : Int))))))))) rfl (fun _ hC => r_pickF (congrArg Value.bool hg_46) rfl) ?_
                refine qnil ?_
                intro w_49 hC
                replace hC : Grow col_4 w_3 col_4 w_49 := .of_below hC.below
                replace h0 := h0.gr hC
                replace h1 := h1.gr hC
                replace hst := hst.grow hC
                exact ⟨col_4, (!decide (e_42 = (IntKind.i64.wrap ((-70) - (IntKind.i64.wrap (i_5 - (p1_l.length : Int))))))), hm, hst, h0, h1, rfl, rfl, rfl, rfl, rfl, rfl⟩
              · rw [if_neg hg_48] at hm
                replace hg_48 := Bool.eq_false_iff.2 hg_48
                refine qp (b := decide ((p1_l.length : Int) ≤ i_5)) 38 rfl rfl rfl rfl (by rw [hg_48]; rfl) ?_
                refine qp (b := decide ((p1_l.length : Int) ≤ i_5)) 38 rfl rfl rfl rfl (by rw [hg_48]; rfl) ?_
                refine qp (b := decide ((p1_l.length : Int) ≤ i_5)) 38 rfl rfl rfl rfl (by rw [hg_48]; rfl) ?_
                refine qp (b := decide ((p1_l.length : Int) ≤ i_5)) 38 rfl rfl rfl rfl (by rw [hg_48]; rfl) ?_
                refine qp (b := decide ((p1_l.length : Int) ≤ i_5)) 38 rfl rfl rfl rfl (by rw [hg_48]; rfl) ?_
                refine qp (b := decide ((p1_l.length : Int) ≤ i_5)) 38 rfl rfl rfl rfl (by rw [hg_48]; rfl) ?_
                refine qp (b := decide ((p1_l.length : Int) ≤ i_5)) 38 rfl rfl rfl rfl (by rw [hg_48]; rfl) ?_
                refine qp (b := decide ((p1_l.length : Int) ≤ i_5)) 38 rfl rfl rfl rfl (by rw [hg_48]; rfl) ?_
                refine qp (b := decide ((p1_l.length : Int) ≤ i_5)) 38 rfl rfl rfl rfl (by rw [hg_48]; rfl) ?_
                refine qp (b := decide ((p1_l.length : Int) ≤ i_5)) 38 rfl rfl rfl rfl (by rw [hg_48]; rfl) ?_
                refine qg (b := !decide (e_42 = e_44)) 33 rfl rfl rfl (by rw [hg_46]; rfl) ?_
                refine qv (v := (.bool false)) rfl (fun _ hC => r_pickF (congrArg Value.bool hg_48) rfl) ?_
                refine qv (v := (.bool false)) rfl (fun _ hC => r_pickF (congrArg Value.bool hg_46) rfl) ?_
                refine qnil ?_
                intro w_50 hC
                replace hC : Grow col_4 w_3 col_4 w_50 := .of_below hC.below
                replace h0 := h0.gr hC
                replace h1 := h1.gr hC
                replace hst := hst.grow hC
                exact ⟨col_4, false, hm, hst, h0, h1, rfl, rfl, rfl, rfl, rfl, rfl⟩
          · rw [if_neg hg_41] at hm
            replace hg_41 := Bool.eq_false_iff.2 hg_41
            refine qp (b := decide (i_5 < (p1_l.length : Int))) 22 rfl rfl rfl rfl (by rw [hg_41]; rfl) ?_
            refine qp (b := decide (i_5 < (p1_l.length : Int))) 22 rfl rfl rfl rfl (by rw [hg_41]; rfl) ?_
            refine qp (b := decide (i_5 < (p1_l.length : Int))) 22 rfl rfl rfl rfl (by rw [hg_41]; rfl) ?_
            refine qp (b := decide (i_5 < (p1_l.length : Int))) 22 rfl rfl rfl rfl (by rw [hg_41]; rfl) ?_
            refine qp (b := decide (i_5 < (p1_l.length : Int))) 22 rfl rfl rfl rfl (by rw [hg_41]; rfl) ?_
            refine qp (b := decide (i_5 < (p1_l.length : Int))) 22 rfl rfl rfl rfl (by rw [hg_41]; rfl) ?_
            refine qp (b := decide (i_5 < (p1_l.length : Int))) 22 rfl rfl rfl rfl (by rw [hg_41]; rfl) ?_
            refine qp (b := decide (i_5 < (p1_l.length : Int))) 22 rfl rfl rfl rfl (by rw [hg_41]; rfl) ?_
            refine qp (b := decide (i_5 < (p1_l.length : Int))) 22 rfl rfl rfl rfl (by rw [hg_41]; rfl) ?_
            refine qv (v := (.bool false)) rfl (fun _ hC => r_pickF (congrArg Value.bool hg_41) rfl) ?_
            refine qv (v := (.bool false)) rfl (fun _ hC => r_move rfl) ?_
            refine qg (b := false) 33 rfl rfl rfl rfl ?_
            refine qv (v := (.int .i64 i_5)) rfl (fun _ hC => r_move rfl) ?_
            refine qg (b := false) 33 rfl rfl rfl rfl ?_
            refine qv (v := (.slice a1 p1_l.length cap1)) rfl (fun _ hC => r_move rfl) ?_
            refine qg (b := false) 33 rfl rfl rfl rfl ?_
            refine qv (v := (.int .i64 (p1_l.length : Int))) rfl (fun _ hC => r_len Try.underlying22 rfl) ?_
            refine qg (b := false) 33 rfl rfl rfl rfl ?_
            refine qv (v := (.bool (decide ((p1_l.length : Int) ≤ i_5)))) rfl (fun _ hC => r_geq i_5 (p1_l.length : Int) rfl rfl) ?_
            refine qg (b := false) 33 rfl rfl rfl rfl ?_
            refine qv (v := (.bool (decide ((p1_l.length : Int) ≤ i_5)))) rfl (fun _ hC => r_move rfl) ?_
            by_cases hg_51 : (decide ((p1_l.length : Int) ≤ i_5)) = true
            · rw [if_pos hg_51] at hm
              refine qg (b := decide ((p1_l.length : Int) ≤ i_5)) 38 rfl rfl rfl (by rw [hg_51]; rfl) ?_
              refine qv (v := (.slice a0 ((p0_m.take (Int.toNat (IntKind.i64.wrap ((p1_l.length : Int) + 9)))).length) cap0)) rfl (fun _ hC => r_move rfl) ?_
              refine qg (b := decide ((p1_l.length : Int) ≤ i_5)) 38 rfl rfl rfl (by rw [hg_51]; rfl) ?_
              refine qv (v := (.int .i64 i_5)) rfl (fun _ hC => r_move rfl) ?_
              refine qg (b := decide ((p1_l.length : Int) ≤ i_5)) 38 rfl rfl rfl (by rw [hg_51]; rfl) ?_
              obtain ⟨e_52, hj_53, hm⟩ := bind_some hm
              refine qv (v := (sptr a0 (Int.toNat i_5 * 1))) rfl (fun _ hC => r_idx Try.underlying22 Try.sizeOf3 rfl rfl (at?_some hj_53).1 (at?_some hj_53).2.1 ((h0.take (Int.toNat (IntKind.i64.wrap ((p1_l.length : Int) + 9)))).addr hj_53)) ?_
              refine qg (b := decide ((p1_l.length : Int) ≤ i_5)) 38 rfl rfl rfl (by rw [hg_51]; rfl) ?_
              refine qv (v := (.int .i64 e_52)) rfl (fun _ hC => r_ld Try.isAgg3 rfl (((h0.take (Int.toNat (IntKind.i64.wrap ((p1_l.length : Int) + 9)))).gr (Grow.of_below (col := col_4) hC.below)).atInt hj_53)) ?_
              refine qg (b := decide ((p1_l.length : Int) ≤ i_5)) 38 rfl rfl rfl (by rw [hg_51]; rfl) ?_
              refine qv (v := (.int .i64 i_5)) rfl (fun _ hC => r_move rfl) ?_
              refine qg (b := decide ((p1_l.length : Int) ≤ i_5)) 38 rfl rfl rfl (by rw [hg_51]; rfl) ?_
              refine qv (v := (.slice a1 p1_l.length cap1)) rfl (fun _ hC => r_move rfl) ?_
              refine qg (b := decide ((p1_l.length : Int) ≤ i_5)) 38 rfl rfl rfl (by rw [hg_51]; rfl) ?_
              refine qv (v := (.int .i64 (p1_l.length : Int))) rfl (fun _ hC => r_len Try.underlying22 rfl) ?_
              refine qg (b := decide ((p1_l.length : Int) ≤ i_5)) 38 rfl rfl rfl (by rw [hg_51]; rfl) ?_
              refine qv (v := (.int .i64 (IntKind.i64.wrap (i_5 - (p1_l.length : Int))))) rfl (fun _ hC => r_sub i_5 (p1_l.length : Int) rfl rfl) ?_
              refine qg (b := decide ((p1_l.length : Int) ≤ i_5)) 38 rfl rfl rfl (by rw [hg_51]; rfl) ?_
              refine qv (v := (.int .i64 (IntKind.i64.wrap ((-70) - (IntKind.i64.wrap (i_5 - (p1_l.length : Int))))))) rfl (fun _ hC => r_sub (-70) (IntKind.i64.wrap (i_5 - (p1_l.length : Int))) rfl rfl) ?_
              refine qg (b := decide ((p1_l.length : Int) ≤ i_5)) 38 rfl rfl rfl (by rw [hg_51]; rfl) ?_
              refine qv (v := (.bool (!decide (e_52 = (IntKind.i64.wrap ((-70) - (IntKind.i64.wrap (i_5 - (p1_l.length : Int))))))))) rfl (fun _ hC => r_neq e_52 (IntKind.i64.wrap ((-70) - (IntKind.i64.wrap (i_5 - (p1_l.length : Int))))) rfl rfl) ?_
              refine qg (b := false) 33 rfl rfl rfl rfl ?_
              refine qv (v := (.bool (!decide (e_52 = (IntKind.i64.wrap ((-70) - (IntKind.i64.wrap (i_5 - (p1_l.length : Int))))))))) rfl (fun _ hC => r_pickT (congrArg Value.bool hg_51) rfl) ?_
              refine qv (v := (.bool (!decide (e_52 = (IntKind.i64.wrap ((-70) - (IntKind.i64.wrap (i_5 - (p1_l.length : Int))))))))) rfl (fun _ hC => r_pickF rfl rfl) ?_
              refine qnil ?_
              intro w_54 hC
              replace hC : Grow col_4 w_3 col_4 w_54 := .of_below hC.below
              replace h0 := h0.gr hC
              replace h1 := h1.gr hC
              replace hst := hst.grow hC
              exact ⟨col_4, (!decide (e_52 = (IntKind.i64.wrap ((-70) - (IntKind.i64.wrap (i_5 - (p1_l.length : Int))))))), hm, hst, h0, h1, rfl, rfl, rfl, rfl, rfl, rfl⟩
            · rw [if_neg hg_51] at hm
              replace hg_51 := Bool.eq_false_iff.2 hg_51
              refine qp (b := decide ((p1_l.length : Int) ≤ i_5)) 38 rfl rfl rfl rfl (by rw [hg_51]; rfl) ?_
              refine qp (b := decide ((p1_l.length : Int) ≤ i_5)) 38 rfl rfl rfl rfl (by rw [hg_51]; rfl) ?_
              refine qp (b := decide ((p1_l.length : Int) ≤ i_5)) 38 rfl rfl rfl rfl (by rw [hg_51]; rfl) ?_
              refine qp (b := decide ((p1_l.length : Int) ≤ i_5)) 38 rfl rfl rfl rfl (by rw [hg_51]; rfl) ?_
              refine qp (b := decide ((p1_l.length : Int) ≤ i_5)) 38 rfl rfl rfl rfl (by rw [hg_51]; rfl) ?_
              refine qp (b := decide ((p1_l.length : Int) ≤ i_5)) 38 rfl rfl rfl rfl (by rw [hg_51]; rfl) ?_
              refine qp (b := decide ((p1_l.length : Int) ≤ i_5)) 38 rfl rfl rfl rfl (by rw [hg_51]; rfl) ?_
              refine qp (b := decide ((p1_l.length : Int) ≤ i_5)) 38 rfl rfl rfl rfl (by rw [hg_51]; rfl) ?_
              refine qp (b := decide ((p1_l.length : Int) ≤ i_5)) 38 rfl rfl rfl rfl (by rw [hg_51]; rfl) ?_
              refine qp (b := decide ((p1_l.length : Int) ≤ i_5)) 38 rfl rfl rfl rfl (by rw [hg_51]; rfl) ?_
              refine qg (b := false) 33 rfl rfl rfl rfl ?_
              refine qv (v := (.bool false)) rfl (fun _ hC => r_pickF (congrArg Value.bool hg_51) rfl) ?_
              refine qv (v := (.bool false)) rfl (fun _ hC => r_pickF rfl rfl) ?_
              refine qnil ?_
              intro w_55 hC
              replace hC : Grow col_4 w_3 col_4 w_55 := .of_below hC.below
              replace h0 := h0.gr hC
              replace h1 := h1.gr hC
              replace hst := hst.grow hC
              exact ⟨col_4, false, hm, hst, h0, h1, rfl, rfl, rfl, rfl, rfl, rfl⟩
    · rw [if_neg (by rw [hb]; decide)] at hm
      clear hb
      refine wexit (inB_hit ?_)
      refine wseq ?_
      refine wregion ?_
      refine lv (v := (.slice a0 ((p0_m.take n0).length) cap0)) rfl rfl (r_move rfl) ?_
      refine lv (v := (.int .i64 ((p0_m.take n0).length : Int))) rfl rfl (r_len Try.underlying22 rfl) ?_
      refine lv (v := (.slice a1 p1_l.length cap1)) rfl rfl (r_move rfl) ?_
      refine lv (v := (.int .i64 (p1_l.length : Int))) rfl rfl (r_len Try.underlying22 rfl) ?_
      refine lv (v := (.bool (decide (((p0_m.take n0).length : Int) = (p1_l.length : Int))))) rfl rfl (r_eql ((p0_m.take n0).length : Int) (p1_l.length : Int) rfl rfl) ?_
      refine lv (v := (.bool (decide (((p0_m.take n0).length : Int) = (p1_l.length : Int))))) rfl rfl (r_assign rfl) ?_
      refine lnil ?_
      refine wret ?_
      cases hm
      exact ⟨rfl, rfl, hst.below⟩




variable {N : Nat}

theorem values_eq (l : List Int) : m_slices_Values_int_int l = some l := by
  unfold m_slices_Values_int_int m_slices_Values_int_int_1
  induction l with
  | nil => rfl
  | cons x l ih => rw [m_slices_Values_int_int_1_L1.eq_2, ih]; rfl
theorem appendSeq_L1 : ∀ (l s : List Int), s.length + l.length ≤ 17592186044000 → m_slices_AppendSeq_int_int_v0n_L1 l s = some (s ++ l)
  | [], s, _ => by rw [m_slices_AppendSeq_int_int_v0n_L1.eq_1, List.append_nil]
  | y :: l, s, h => by
    simp only [List.length_cons] at h
    rw [m_slices_AppendSeq_int_int_v0n_L1.eq_2, chk_pos (by simp only [List.length_singleton, maxLen]; omega), appendSeq_L1 l _ (by simp; omega), List.append_assoc]; rfl
theorem sorted_eq' (l : List Int) (h : l.length ≤ 17592186044000) : m_slices_Sorted_int l = some (isort l) := by
  unfold m_slices_Sorted_int m_slices_Collect_int m_slices_AppendSeq_int_int_v0n
  rw [appendSeq_L1 l [] (by simpa using h)]
  simp only [List.nil_append, Option.bind_some]
  unfold lib_sort
  rw [chk_pos (by omega)]; rfl
theorem isort_len (l : List Int) : (isort l).length = l.length := (isort_perm l).length_eq
/-- Nothing falls away just if no two neighbours are one. -/
theorem compact_len_iff {l : List Int} (hs : l.Pairwise (· ≤ ·)) : (Go.Lib.compact l).length = l.length ↔ l.Nodup := by
  have key : (Go.Lib.compact l).length = l.length ↔ ∀ j, j < l.length → Go.Lib.keeps l.toArray j = true := by
    constructor
    · intro h j hj
      unfold Go.Lib.compact Go.Lib.compactUpTo at h
      rw [List.length_map] at h
      have h2 : ((List.range l.length).filter (Go.Lib.keeps l.toArray)).length = (List.range l.length).length := by rw [h]; simp
      exact (List.filter_eq_self.1 (List.filter_sublist.eq_of_length h2)) j (List.mem_range.2 hj)
    · intro h; rw [Go.Lib.compact_all l h]
  rw [key]
  have hk : ∀ j, j < l.length → (Go.Lib.keeps l.toArray j = true ↔ (j = 0 ∨ l[j]? ≠ l[j - 1]?)) := fun j hj => by
    unfold Go.Lib.keeps
    rw [decide_eq_true_iff]
    have h1 : j - 1 < l.length := by omega
    rw [getElem!_pos l.toArray j (by simpa using hj), getElem!_pos l.toArray (j - 1) (by simpa using h1), List.getElem?_eq_getElem hj, List.getElem?_eq_getElem h1]
    simp
  constructor
  · intro h
    rw [List.nodup_iff_pairwise_ne]
    rw [List.pairwise_iff_getElem] at hs ⊢
    intro i j hi hj hij e
    have hn := (hk j hj).1 (h j hj)
    rcases hn with hn | hn
    · omega
    · apply hn
      have h1 : j - 1 < l.length := by omega
      rw [List.getElem?_eq_getElem hj, List.getElem?_eq_getElem h1]
      congr 1
      have a1 := hs (j - 1) j h1 hj (by omega)
      by_cases h2 : i = j - 1
      · subst h2; exact e.symm
      · have a2 := hs i (j - 1) hi h1 (by omega)
        omega
  · intro h j hj
    rw [hk j hj]
    by_cases h0 : j = 0
    · exact .inl h0
    · refine .inr fun e => ?_
      have h1 : j - 1 < l.length := by omega
      rw [List.getElem?_eq_getElem hj, List.getElem?_eq_getElem h1] at e
      have := (List.getElem_inj h).1 (Option.some.inj e)
      omega

theorem times_L1 (l : List Int) (x : Int) (hl : l.length < 17592186044000) : ∀ (f i n : Nat), i ≤ l.length → l.length - i < f → n ≤ i →
    m_r18_times_L1 N l x f (n : Int) (i : Int) = some (((n + (l.drop i).count x : Nat)) : Int) := by
  intro f
  induction f with
  | zero => intro i n _ h; omega
  | succ f ih =>
    intro i n hi hf hn
    rw [m_r18_times_L1.eq_2]
    by_cases h : i < l.length
    · rw [if_pos (decide_eq_true (by omega)), at?_lt h]
      simp only [Option.bind_some, m_r18_times_J1]
      rw [List.drop_eq_getElem_cons h, List.count_cons]
      by_cases e : l[i] = x
      · rw [if_pos (decide_eq_true e), wS (by omega), wS (by omega), ih (i + 1) (n + 1) (by omega) (by omega) (by omega)]
        congr 2
        simp [e]; omega
      · rw [if_neg (by simp [e]), wS (by omega), ih (i + 1) n (by omega) (by omega) (by omega)]
        congr 2
        simp [e]
    · rw [if_neg (by simp; omega), List.drop_eq_nil_of_le (by omega)]
      simp
theorem times_eq (l : List Int) (x : Int) (hl : l.length < 17592186044000) (hN : l.length < N) : m_r18_times N l x = some ((l.count x : Nat) : Int) := by
  have := times_L1 (N := N) l x hl N 0 0 (by omega) (by omega) (Nat.le_refl _)
  simpa [m_r18_times] using this

theorem ifc {a b : Prop} [Decidable a] [Decidable b] {x y : Int} (h : a ↔ b) : (if a then x else y) = if b then x else y := by
  by_cases ha : a
  · rw [if_pos ha, if_pos (h.1 ha)]
  · rw [if_neg ha, if_neg (fun e => ha (h.2 e))]
/-- A list with marked room behind. -/
def marks9 (j : Nat) : List Int := (List.range j).map fun k : Nat => -70 - (k : Int)
theorem ints_L1 (l : List Int) (hl : l.length < 17592186044000) : ∀ (f j : Nat), j ≤ 9 → 9 - j < f → m_l18_ints_L1 N l f (l ++ marks9 j) (j : Int) = some (l.length, l ++ marks9 9) := by
  intro f
  induction f with
  | zero => intro j _ h; omega
  | succ f ih =>
    intro j hj hf
    have hml : ∀ j, (marks9 j).length = j := fun j => by simp [marks9]
    rw [m_l18_ints_L1.eq_2]
    by_cases h : j < 9
    · have e : IntKind.i64.wrap ((-70) - (j : Int)) = -70 - (j : Int) := w64 (by omega)
      rw [if_pos (decide_eq_true (by omega)), chk_pos (by simp only [List.length_append, hml, List.length_singleton, maxLen]; omega), wS (by omega), e]
      rw [show l ++ marks9 j ++ [-70 - (j : Int)] = l ++ marks9 (j + 1) by simp [marks9, List.range_succ]]
      exact ih (j + 1) (by omega) (by omega)
    · obtain rfl : j = 9 := by omega
      rw [if_neg (by simp), chk_pos (by simp only [List.length_append, hml]; omega)]
      simp
theorem ints_eq (l : List Int) (hl : l.length < 17592186044000) (hN : 20 < N) : m_l18_ints N l = some (l.length, l ++ marks9 9) := by
  unfold m_l18_ints
  rw [chk_pos (by simp only [List.length_nil, maxLen]; omega), List.nil_append]
  have := ints_L1 (N := N) l hl N 0 (by omega) (by omega)
  simpa [marks9] using this
theorem kept_L1 (l : List Int) (hl : l.length < 17592186044000) : ∀ (f i : Nat), i ≤ l.length + 9 → l.length + 9 - i < f →
    m_l18_kept_L1 N l.length (l ++ marks9 9) l f (i : Int) = some true := by
  intro f
  have hml : (marks9 9).length = 9 := rfl
  have e9 : Int.toNat (IntKind.i64.wrap ((l.length : Int) + 9)) = l.length + 9 := by rw [w64 (by omega)]; omega
  have et : (l ++ marks9 9).take (l.length + 9) = l ++ marks9 9 := List.take_of_length_le (by rw [List.length_append, hml]; omega)
  induction f with
  | zero => intro i _ h; omega
  | succ f ih =>
    intro i hi hf
    rw [m_l18_kept_L1.eq_2, e9, et]
    have hlen : (l ++ marks9 9).length = l.length + 9 := by rw [List.length_append, hml]
    by_cases h : i < l.length + 9
    · rw [if_pos (decide_eq_true (by rw [hlen]; omega))]
      by_cases h1 : i < l.length
      · rw [if_pos (decide_eq_true (by omega)), at?_lt (show i < (l ++ marks9 9).length by omega), at?_lt h1]
        simp only [Option.bind_some]
        rw [List.getElem_append_left h1, if_neg (by simp), if_neg (by simp; omega)]
        simp only [m_l18_kept_J2, m_l18_kept_J1]
        rw [if_neg (by decide), wS (by omega)]
        exact ih (i + 1) (by omega) (by omega)
      · rw [if_neg (by simp; omega), if_pos (decide_eq_true (by omega)), at?_lt (show i < (l ++ marks9 9).length by omega)]
        simp only [Option.bind_some]
        rw [List.getElem_append_right (by omega)]
        have e : (marks9 9)[i - l.length]'(by rw [hml]; omega) = IntKind.i64.wrap ((-70) - IntKind.i64.wrap ((i : Int) - (l.length : Int))) := by
          rw [w64 (x := (i : Int) - (l.length : Int)) (by omega), w64 (by omega)]
          simp only [marks9, List.getElem_map, List.getElem_range]
          omega
        rw [e]
        simp only [m_l18_kept_J2, m_l18_kept_J1]
        rw [if_neg (by simp), wS (by omega)]
        exact ih (i + 1) (by omega) (by omega)
    · rw [if_neg (by rw [hlen]; simp; omega)]
      simp
theorem kept_eq (l : List Int) (hl : l.length < 17592186044000) (hN : 17592186045000 < N) : m_l18_kept N l.length (l ++ marks9 9) l = some true := by
  unfold m_l18_kept
  rw [chk_pos (by rw [w64 (by omega)]; simp [marks9]; omega)]
  exact kept_L1 l hl N 0 (by omega) (by omega)








structure Tab (n : Nat) (t : List (List Bool)) : Prop where
  len : t.length = n
  sq : ∀ r ∈ t, r.length = n
def row (t : List (List Bool)) (a : Int) : List Bool := (at? t a).getD []
/-- Is there an edge? -/
def ge (t : List (List Bool)) (a b : Int) : Bool := gat (row t a) b

section
variable {n : Nat} {t : List (List Bool)} {a b x y : Int} {r : List Bool}
theorem at?_none {α : Type} {xs : List α} {j : Int} (h : ¬ (0 ≤ j ∧ j < (xs.length : Int))) : at? xs j = none := by
  unfold at?; split
  · rename_i h0; exact List.getElem?_eq_none (by omega)
  · rfl
theorem Tab.at (h : Tab n t) (ha : 0 ≤ a ∧ a < (n : Int)) : at? t a = some (row t a) := by
  have : a.toNat < t.length := by rw [h.len]; omega
  unfold row at?
  rw [if_pos ha.1, List.getElem?_eq_getElem this]; rfl
theorem Tab.rowlen (h : Tab n t) (ha : 0 ≤ a ∧ a < (n : Int)) : (row t a).length = n := h.sq _ (List.mem_of_getElem? (at?_some (h.at ha)).2.2)
theorem row_out (h : Tab n t) (ha : ¬ (0 ≤ a ∧ a < (n : Int))) : row t a = [] := by
  unfold row; rw [at?_none (by rw [h.len]; exact ha)]; rfl
theorem gat_nil : gat [] b = false := by unfold gat; split <;> rfl
theorem Tab.range (h : Tab n t) (he : ge t a b = true) : (0 ≤ a ∧ a < (n : Int)) ∧ 0 ≤ b ∧ b < (n : Int) := by
  by_cases ha : 0 ≤ a ∧ a < (n : Int)
  · refine ⟨ha, ?_⟩
    have := gat_range (row := row t a) he
    rw [h.rowlen ha] at this; omega
  · unfold ge at he; rw [row_out h ha, gat_nil] at he; cases he
theorem Tab.set (h : Tab n t) (i : Nat) (hr : r.length = n) : Tab n (t.set i r) :=
  ⟨by rw [List.length_set]; exact h.len, fun s hs => by rcases List.mem_or_eq_of_mem_set hs with h1 | rfl; exact h.sq _ h1; exact hr⟩
theorem row_set (h : Tab n t) (ha : 0 ≤ a ∧ a < (n : Int)) : row (t.set a.toNat r) x = if x = a then r else row t x := by
  unfold row at?
  by_cases hx : 0 ≤ x
  · rw [if_pos hx, if_pos hx]
    by_cases he : x = a
    · subst he
      rw [if_pos rfl, List.getElem?_set_self (by rw [h.len]; omega)]; rfl
    · rw [if_neg he, List.getElem?_set_ne (by omega)]
  · rw [if_neg hx, if_neg hx, if_neg (by omega)]
theorem ge_set (h : Tab n t) (ha : 0 ≤ a ∧ a < (n : Int)) : ge (t.set a.toNat r) x y = if x = a then gat r y else ge t x y := by
  unfold ge; rw [row_set h ha]; split <;> rfl

/-! ### Join -/
def jn (n : Nat) (t : List (List Bool)) (a b : Int) : Bool := decide ((0 ≤ a ∧ a < (n : Int)) ∧ (0 ≤ b ∧ b < (n : Int)) ∧ a ≠ b) && !ge t a b
def setE (t : List (List Bool)) (a b : Int) : List (List Bool) := (t.set a.toNat (rset (row t a) b true)).set b.toNat (rset (row t b) a true)
def joinT (n : Nat) (t : List (List Bool)) (a b : Int) : List (List Bool) := if jn n t a b = true then setE t a b else t
theorem in_eq (h : Tab n t) : m_graph_Graph_in t a = some (decide (0 ≤ a ∧ a < (n : Int))) := by
  unfold m_graph_Graph_in m_graph_Graph_in_J1
  rw [h.len]
  by_cases h0 : 0 ≤ a
  · rw [if_pos (decide_eq_true h0)]; simp [h0]
  · rw [if_neg (by simpa using h0)]; simp [h0]
theorem Join_eq (h : Tab n t) : m_graph_Graph_Join t a b = some (jn n t a b, joinT n t a b) := by
  unfold m_graph_Graph_Join
  rw [in_eq h, in_eq h]
  simp only [Option.bind_some]
  by_cases ha : 0 ≤ a ∧ a < (n : Int)
  · rw [decide_eq_true ha, if_neg (by decide)]
    by_cases hb : 0 ≤ b ∧ b < (n : Int)
    · rw [decide_eq_true hb, if_neg (by decide)]
      by_cases hab : a = b
      · rw [if_pos (decide_eq_true hab)]
        unfold m_graph_Graph_Join_J1 joinT jn
        rw [if_pos rfl]; simp [hab]
      · rw [if_neg (by simpa using hab), h.at ha]
        simp only [Option.bind_some]
        unfold m_graph_Graph_Join_J1 joinT jn
        rw [decide_eq_true (⟨ha, hb, hab⟩ : (0 ≤ a ∧ a < (n : Int)) ∧ (0 ≤ b ∧ b < (n : Int)) ∧ a ≠ b), Bool.true_and]
        cases hg : gat (row t a) b
        · have hg' : ge t a b = false := hg
          rw [if_neg (by decide), h.at ha, h.at hb, hg']
          simp only [Option.bind_some]
          have h1 : Tab n (t.set a.toNat (rset (row t a) b true)) := h.set _ (by rw [rset_length, h.rowlen ha])
          rw [chk_pos (by rw [h.rowlen ha]; omega), h1.at hb]
          simp only [Option.bind_some]
          rw [row_set h ha, if_neg (Ne.symm hab), chk_pos (by rw [h.rowlen hb]; omega)]
          rfl
        · have hg' : ge t a b = true := hg
          rw [if_pos rfl, hg']; rfl
    · rw [decide_eq_false hb, if_pos (by decide)]
      unfold m_graph_Graph_Join_J1 joinT jn
      rw [if_pos rfl]; simp [hb]
  · rw [decide_eq_false ha, if_pos (by decide)]
    unfold m_graph_Graph_Join_J1 joinT jn
    rw [if_pos rfl]; simp [ha]
theorem Tab.setE (h : Tab n t) (ha : 0 ≤ a ∧ a < (n : Int)) (hb : 0 ≤ b ∧ b < (n : Int)) : Tab n (setE t a b) :=
  (h.set _ (by rw [rset_length, h.rowlen ha])).set _ (by rw [rset_length, h.rowlen hb])
theorem Tab.join (h : Tab n t) : Tab n (joinT n t a b) := by
  unfold joinT
  split
  · rename_i hj
    unfold jn at hj
    simp only [Bool.and_eq_true, decide_eq_true_eq] at hj
    exact h.setE hj.1.1 hj.1.2.1
  · exact h
theorem ge_setE (h : Tab n t) (ha : 0 ≤ a ∧ a < (n : Int)) (hb : 0 ≤ b ∧ b < (n : Int)) (hab : a ≠ b) : ge (setE t a b) x y = (ge t x y || decide (x = a ∧ y = b ∨ x = b ∧ y = a)) := by
  have h1 : Tab n (t.set a.toNat (rset (row t a) b true)) := h.set _ (by rw [rset_length, h.rowlen ha])
  unfold setE
  rw [ge_set h1 hb, ge_set h ha, gat_rset, gat_rset, h.rowlen ha, h.rowlen hb]
  by_cases hxb : x = b
  · subst hxb
    rw [if_pos rfl]
    by_cases hya : y = a
    · subst hya; rw [if_pos rfl]; simp; omega
    · rw [if_neg hya]; simp [hya, Ne.symm hab]; rfl
  · rw [if_neg hxb]
    by_cases hxa : x = a
    · subst hxa
      rw [if_pos rfl]
      by_cases hyb : y = b
      · subst hyb; rw [if_pos rfl]; simp; omega
      · rw [if_neg hyb]; simp [hyb, hxb]; rfl
    · rw [if_neg hxa]; simp [hxa, hxb]
end


section
variable {n : Nat} {t : List (List Bool)} {a b x y : Int} {r : List Bool}
def near (n : Nat) (t : List (List Bool)) (a : Int) : List Int := gkeys (row t a)
theorem near_mem : b ∈ near n t a ↔ ge t a b = true := gkeys_mem
theorem near_len (h : Tab n t) : (near n t a).length ≤ n := by
  unfold near
  refine Nat.le_trans gkeys_length_le ?_
  by_cases ha : 0 ≤ a ∧ a < (n : Int)
  · rw [h.rowlen ha]; exact Nat.le_refl _
  · rw [row_out h ha]; simp
theorem Near_eq (h : Tab n t) (hn : n ≤ 1024) : m_graph_Graph_Near t a = some (near n t a) := by
  unfold m_graph_Graph_Near
  rw [in_eq h]
  simp only [Option.bind_some]
  by_cases ha : 0 ≤ a ∧ a < (n : Int)
  · rw [decide_eq_true ha, if_neg (by decide), h.at ha]
    simp only [Option.bind_some]
    rw [chk_pos (by rw [h.rowlen ha]; omega)]; rfl
  · rw [decide_eq_false ha, if_pos (by decide)]
    unfold near; rw [row_out h ha]; rfl

/-- The pairs of a list's numbers, in order, that have no edge. -/
def wantL (t : List (List Bool)) : List Int → List (Int × Int)
  | [] => []
  | x :: l => (l.filter fun y => !ge t x y).map (fun y => (x, y)) ++ wantL t l
theorem wantL_len : ∀ l : List Int, (wantL t l).length ≤ l.length * l.length
  | [] => by simp [wantL]
  | x :: l => by
    have h1 := wantL_len l
    have h2 := List.length_filter_le (fun y => !ge t x y) l
    rw [wantL, List.length_append, List.length_map, List.length_cons]
    have : (l.length + 1) * (l.length + 1) = l.length * l.length + l.length + l.length + 1 := by
      rw [Nat.add_mul, Nat.mul_add]; omega
    omega
theorem wantL_mem : ∀ {l : List Int} {x y : Int}, l.Pairwise (· < ·) → ((x, y) ∈ wantL t l ↔ x ∈ l ∧ y ∈ l ∧ x < y ∧ ge t x y = false)
  | [], x, y, _ => by simp [wantL]
  | z :: l, x, y, h => by
    obtain ⟨h1, h2⟩ := List.pairwise_cons.1 h
    rw [wantL, List.mem_append, wantL_mem h2, List.mem_map]
    constructor
    · rintro (⟨u, hu, he⟩ | ⟨k1, k2, k3, k4⟩)
      · simp only [Prod.mk.injEq] at he
        obtain ⟨rfl, rfl⟩ := he
        rw [List.mem_filter] at hu
        exact ⟨by simp, by simp [hu.1], h1 _ hu.1, by simpa using hu.2⟩
      · exact ⟨by simp [k1], by simp [k2], k3, k4⟩
    · rintro ⟨k1, k2, k3, k4⟩
      rcases List.mem_cons.1 k1 with q1 | q1
      · rcases List.mem_cons.1 k2 with q2 | q2
        · omega
        · exact .inl ⟨y, List.mem_filter.2 ⟨q2, by rw [← q1, k4]; rfl⟩, by rw [q1]⟩
      · rcases List.mem_cons.1 k2 with q2 | q2
        · have := h1 _ q1; omega
        · exact .inr ⟨q1, q2, k3, k4⟩

theorem wanting_L2 (h : Tab n t) (k : Nat) (kk : Nat → List (Int × Int) → Option (List (Int × Int))) (x : Int) (hx : 0 ≤ x ∧ x < (n : Int)) : ∀ (l : List Int) (acc : List (Int × Int)), acc.length + l.length ≤ 1100000 →
    m_graph_Graph_wanting_L2 t k kk x l acc = kk (k + 1) (acc ++ (l.filter fun y => !ge t x y).map fun y => (x, y))
  | [], acc, _ => by rw [m_graph_Graph_wanting_L2.eq_1]; simp
  | y :: l, acc, hl => by
    rw [m_graph_Graph_wanting_L2.eq_2, h.at hx]
    simp only [Option.bind_some, List.length_cons] at hl ⊢
    cases hg : gat (row t x) y
    · have hg' : ge t x y = false := hg
      rw [if_pos (by decide), chk_pos (by simp only [List.length_nil, maxLen]; omega)]
      unfold m_graph_Graph_wanting_J1
      rw [wanting_L2 h k kk x hx l _ (by simp; omega), List.filter_cons, hg']
      simp
    · have hg' : ge t x y = true := hg
      rw [if_neg (by decide)]
      unfold m_graph_Graph_wanting_J1
      rw [wanting_L2 h k kk x hx l _ (by omega), List.filter_cons, hg']
      simp
theorem wanting_L1 (h : Tab n t) (hn : n ≤ 1024) (R : List Int) (hR : R.length ≤ n) (hr : ∀ x ∈ R, 0 ≤ x ∧ x < (n : Int)) : ∀ (l : List Int) (k : Nat) (acc : List (Int × Int)), R.drop k = l → k ≤ R.length → acc.length ≤ k * 1024 →
    m_graph_Graph_wanting_L1 t R l k acc = some (acc ++ wantL t l)
  | [], k, acc, _, _, _ => by rw [m_graph_Graph_wanting_L1.eq_1, wantL, List.append_nil]
  | x :: l, k, acc, hd, hk, ha => by
    have hlt : k < R.length := by
      rcases Nat.lt_or_ge k R.length with h1 | h1
      · exact h1
      · rw [List.drop_eq_nil_of_le h1] at hd; cases hd
    have hd2 : R.drop (k + 1) = l := by rw [← List.drop_drop, hd]; rfl
    rw [m_graph_Graph_wanting_L1.eq_2, wS (by omega), chk_pos (by omega), Int.toNat_natCast, hd2]
    have hll : l.length ≤ R.length := by rw [← hd2, List.length_drop]; omega
    rw [wanting_L2 h k _ x (hr x (List.mem_of_mem_drop (i := k) (by rw [hd]; simp))) l acc (by have : k * 1024 ≤ 1024 * 1024 := Nat.mul_le_mul_right _ (by omega); omega)]
    rw [wanting_L1 h hn R hR hr l (k + 1) _ hd2 (by omega), wantL, List.append_assoc]
    have := List.length_filter_le (fun y => !ge t x y) l
    rw [List.length_append, List.length_map]; omega
theorem near_range (h : Tab n t) : ∀ x ∈ near n t a, 0 ≤ x ∧ x < (n : Int) := fun x hx => (h.range (near_mem.1 hx)).2
theorem wanting_eq (h : Tab n t) (hn : n ≤ 1024) : m_graph_Graph_wanting t a = some (wantL t (near n t a)) := by
  unfold m_graph_Graph_wanting
  rw [Near_eq h hn]
  simp only [Option.bind_some]
  rw [wanting_L1 h hn _ (near_len h) (near_range h) _ 0 [] (by simp) (by omega) (by simp)]; simp
def delN (t : List (List Bool)) (a : Int) (l : List Int) : List (List Bool) := l.foldl (fun t b => t.set b.toNat (rset (row t b) a false)) t
def joinAll (n : Nat) (t : List (List Bool)) (l : List (Int × Int)) : List (List Bool) := l.foldl (fun t p => joinT n t p.1 p.2) t
def removeT (n : Nat) (t : List (List Bool)) (a : Int) : List (List Bool) := joinAll n ((delN t a (near n t a)).set a.toNat (List.replicate n false)) (wantL t (near n t a))
theorem Tab.del : ∀ {l : List Int} {t : List (List Bool)}, Tab n t → (∀ x ∈ l, 0 ≤ x ∧ x < (n : Int)) → Tab n (delN t a l)
  | [], t, h, _ => h
  | b :: l, t, h, hl => by
    show Tab n (delN (t.set b.toNat (rset (row t b) a false)) a l)
    exact Tab.del (h.set _ (by rw [rset_length, h.rowlen (hl b (by simp))])) fun x hx => hl x (by simp [hx])
theorem Tab.joinAll : ∀ {l : List (Int × Int)} {t : List (List Bool)}, Tab n t → Tab n (joinAll n t l)
  | [], t, h => h
  | p :: l, t, h => Tab.joinAll (l := l) (h.join (a := p.1) (b := p.2))
theorem Tab.remove (h : Tab n t) (ha : 0 ≤ a ∧ a < (n : Int)) : Tab n (removeT n t a) := Tab.joinAll ((h.del (near_range h)).set _ (by simp))
theorem ge_del : ∀ {l : List Int} {t : List (List Bool)}, Tab n t → (∀ x ∈ l, 0 ≤ x ∧ x < (n : Int)) → ge (delN t a l) x y = (ge t x y && !(decide (y = a) && decide (x ∈ l)))
  | [], t, h, _ => by simp [delN]
  | b :: l, t, h, hl => by
    have hb := hl b (by simp)
    have h1 : Tab n (t.set b.toNat (rset (row t b) a false)) := h.set _ (by rw [rset_length, h.rowlen hb])
    show ge (delN (t.set b.toNat (rset (row t b) a false)) a l) x y = _
    rw [ge_del h1 fun x hx => hl x (by simp [hx]), ge_set h hb]
    by_cases hxb : x = b
    · subst hxb
      rw [if_pos rfl, gat_rset]
      by_cases hya : y = a
      · simp [hya]
      · rw [if_neg hya]; simp [hya]; rfl
    · rw [if_neg hxb]; simp [hxb]
theorem ge_joinAll : ∀ {l : List (Int × Int)} {t : List (List Bool)}, Tab n t → (∀ x y, ge t x y = ge t y x) → (∀ p ∈ l, (0 ≤ p.1 ∧ p.1 < (n : Int)) ∧ (0 ≤ p.2 ∧ p.2 < (n : Int)) ∧ p.1 ≠ p.2) →
    ∀ x y, ge (joinAll n t l) x y = (ge t x y || decide ((x, y) ∈ l ∨ (y, x) ∈ l))
  | [], t, h, _, _, x, y => by simp [joinAll]
  | p :: l, t, h, hs, hl, x, y => by
    obtain ⟨h1, h2, h3⟩ := hl p (by simp)
    have hge : ∀ x y, ge (joinT n t p.1 p.2) x y = (ge t x y || decide (x = p.1 ∧ y = p.2 ∨ x = p.2 ∧ y = p.1)) := fun x y => by
      unfold joinT
      by_cases hj : jn n t p.1 p.2 = true
      · rw [if_pos hj, ge_setE h h1 h2 h3]
      · rw [if_neg hj]
        have : ge t p.1 p.2 = true := by
          unfold jn at hj
          rw [decide_eq_true ⟨h1, h2, h3⟩] at hj
          simpa using hj
        cases hg : ge t x y
        · rw [Bool.false_or]
          symm
          rw [decide_eq_false_iff_not]
          rintro (⟨rfl, rfl⟩ | ⟨rfl, rfl⟩)
          · rw [this] at hg; cases hg
          · rw [hs, this] at hg; cases hg
        · simp
    show ge (joinAll n (joinT n t p.1 p.2) l) x y = _
    rw [ge_joinAll h.join (fun x y => by
      rw [hge, hge, hs x y]
      congr 1
      exact decide_eq_decide.2 ⟨fun h => h.elim (fun h => .inr ⟨h.2, h.1⟩) fun h => .inl ⟨h.2, h.1⟩, fun h => h.elim (fun h => .inr ⟨h.2, h.1⟩) fun h => .inl ⟨h.2, h.1⟩⟩) (fun q hq => hl q (by simp [hq])) x y, hge]
    rw [Bool.or_assoc]
    congr 1
    rw [← Bool.decide_or]
    refine decide_eq_decide.2 ?_
    simp only [List.mem_cons, Prod.ext_iff]
    constructor
    · rintro ((h | h) | h | h)
      · exact .inl (.inl h)
      · exact .inr (.inl ⟨h.2, h.1⟩)
      · exact .inl (.inr h)
      · exact .inr (.inr h)
    · rintro ((h | h) | h | h)
      · exact .inl (.inl h)
      · exact .inr (.inl h)
      · exact .inl (.inr ⟨h.2, h.1⟩)
      · exact .inr (.inr h)
end


/-- How many numbers of a list are below one. -/
def lb (xs : List Int) (a : Int) : Nat := (xs.filter fun x => decide (x < a)).length
theorem lb_le (xs : List Int) (a : Int) : lb xs a ≤ xs.length := List.length_filter_le _ _
theorem lb_lt {a : Int} : ∀ {xs : List Int}, xs.Pairwise (· < ·) → ∀ (h : Nat) (hl : h < xs.length), xs[h] < a ↔ h < lb xs a
  | [], _, h, hl => by cases hl
  | x :: xs, hp, h, hl => by
    obtain ⟨h1, h2⟩ := List.pairwise_cons.1 hp
    unfold lb
    rw [List.filter_cons]
    by_cases hx : x < a
    · rw [if_pos (by simpa using hx), List.length_cons]
      cases h with
      | zero => simp [hx]
      | succ h =>
        have := lb_lt (a := a) h2 h (by simpa using hl)
        unfold lb at this
        rw [List.getElem_cons_succ]; omega
    · rw [if_neg (by simpa using hx)]
      have hz : (xs.filter fun x => decide (x < a)) = [] := List.filter_eq_nil_iff.2 fun y hy => by have := h1 y hy; simp; omega
      rw [hz]
      cases h with
      | zero => simp; omega
      | succ h =>
        have hl3 : h < xs.length := by simpa using hl
        have := h1 xs[h] (List.getElem_mem hl3)
        simp only [List.getElem_cons_succ, List.length_nil]; omega
theorem less_eq (x y : Int) : m_cmp_Less_int x y = some (decide (x < y)) := by
  unfold m_cmp_Less_int m_cmp_isNaN_int m_cmp_Less_int_J1
  simp
theorem mid_eq {i j : Nat} (hj : i + j < 9223372036854775807) : IntKind.i64.wrap (ishr .u64 (IntKind.u64.wrap (IntKind.i64.wrap ((i : Int) + (j : Int)))) 1) = (((i + j) / 2 : Nat) : Int) := by
  have h0 : IntKind.i64.wrap ((i : Int) + (j : Int)) = (i : Int) + (j : Int) := w64 (by omega)
  rw [h0]
  have h1 : IntKind.u64.wrap ((i : Int) + (j : Int)) = (i : Int) + (j : Int) := by rw [IntKind.wrap_u64]; omega
  rw [h1]
  unfold ishr
  have h2 : (min (1 : Int).toNat IntKind.u64.bits) = 1 := by decide
  rw [h2]
  have h3 : ((i : Int) + (j : Int)).fdiv (2 ^ 1) = (((i + j) / 2 : Nat) : Int) := by
    rw [Int.fdiv_eq_ediv_of_nonneg _ (by decide)]; omega
  rw [h3, w64 (by omega)]
theorem search_L1 (N : Nat) (xs : List Int) (a : Int) (hp : xs.Pairwise (· < ·)) (hl : xs.length ≤ 1100000) : ∀ (f i j : Nat), i ≤ lb xs a → lb xs a ≤ j → j ≤ xs.length → j - i < f →
    m_slices_BinarySearch_int_int_L1 N xs a f (i : Int) (j : Int) = some ((lb xs a : Int), decide (a ∈ xs))
  | 0, i, j, _, _, _, h => by omega
  | f + 1, i, j, h1, h2, h3, h4 => by
    rw [m_slices_BinarySearch_int_int_L1.eq_2]
    by_cases hij : i < j
    · rw [if_pos (decide_eq_true (by omega)), mid_eq (by omega)]
      have hm : (i + j) / 2 < xs.length := by omega
      rw [at?_lt hm]
      simp only [Option.bind_some]
      rw [less_eq]
      simp only [Option.bind_some]
      by_cases hx : xs[(i + j) / 2] < a
      · rw [if_pos (decide_eq_true hx), wS (by omega)]
        have := (lb_lt hp _ hm).1 hx
        exact search_L1 N xs a hp hl f _ j (by omega) h2 h3 (by omega)
      · rw [if_neg (by simpa using hx)]
        have : ¬ (i + j) / 2 < lb xs a := fun h => hx ((lb_lt hp _ hm).2 h)
        exact search_L1 N xs a hp hl f i _ h1 (by omega) (by omega) (by omega)
    · have hi : i = lb xs a := by omega
      rw [if_neg (by simp; omega)]
      subst hi
      have hnot : ∀ y ∈ xs, y ∈ xs → y = a → lb xs a < xs.length ∧ xs[lb xs a]? = some a := fun y hy _ e => by
        subst e
        obtain ⟨k, hk, he⟩ := List.getElem_of_mem hy
        have k1 : ¬ k < lb xs y := fun h => by have := (lb_lt hp k hk).2 h; rw [he] at this; omega
        have k2 : ¬ lb xs y < k := fun h => by
          have h5 : lb xs y < xs.length := by omega
          have h6 := List.pairwise_iff_getElem.1 hp (lb xs y) k h5 hk h
          rw [he] at h6
          have := (lb_lt hp _ h5).1 h6; omega
        have : k = lb xs y := by omega
        subst this
        exact ⟨hk, by rw [List.getElem?_eq_getElem hk, he]⟩
      by_cases hlt : lb xs a < xs.length
      · rw [if_pos (decide_eq_true (by omega)), at?_lt hlt]
        simp only [Option.bind_some]
        by_cases he : xs[lb xs a] = a
        · rw [if_pos (decide_eq_true he)]
          unfold m_slices_BinarySearch_int_int_J1
          rw [decide_eq_true (show a ∈ xs by rw [← he]; exact List.getElem_mem _)]
        · rw [if_neg (by simpa using he)]
          unfold m_slices_isNaN_int m_slices_BinarySearch_int_int_J1
          have : a ∉ xs := fun hm => by
            have := (hnot a hm hm rfl).2
            rw [List.getElem?_eq_getElem hlt] at this
            exact he (by simpa using this)
          rw [decide_eq_false this]; simp
      · rw [if_neg (by simp; omega)]
        unfold m_slices_BinarySearch_int_int_J1
        have : a ∉ xs := fun hm => hlt (hnot a hm hm rfl).1
        rw [decide_eq_false this]
theorem search_eq (N : Nat) (xs : List Int) (a : Int) (hp : xs.Pairwise (· < ·)) (hl : xs.length ≤ 1100000) (hN : xs.length < N) : m_slices_BinarySearch_int_int N xs a = some ((lb xs a : Int), decide (a ∈ xs)) :=
  search_L1 N xs a hp hl N 0 xs.length (Nat.zero_le _) (lb_le _ _) (Nat.le_refl _) (by omega)

/-- A number put into a rising list. -/
def insS (a : Int) (xs : List Int) : List Int := xs.take (lb xs a) ++ [a] ++ xs.drop (lb xs a)
theorem insS_mem {a x : Int} {xs : List Int} : x ∈ insS a xs ↔ x = a ∨ x ∈ xs := by
  unfold insS
  have : x ∈ xs ↔ x ∈ xs.take (lb xs a) ∨ x ∈ xs.drop (lb xs a) := by rw [← List.mem_append, List.take_append_drop]
  rw [List.mem_append, List.mem_append, List.mem_singleton, this]
  constructor
  · rintro ((h | h) | h)
    · exact .inr (.inl h)
    · exact .inl h
    · exact .inr (.inr h)
  · rintro (h | h | h)
    · exact .inl (.inr h)
    · exact .inl (.inl h)
    · exact .inr h
theorem insS_len {a : Int} {xs : List Int} : (insS a xs).length = xs.length + 1 := by
  have := lb_le xs a
  unfold insS; simp only [List.length_append, List.length_take, List.length_drop, List.length_cons, List.length_nil]; omega
section
variable {n N : Nat} {t : List (List Bool)} {a : Int}
theorem Remove_L2 (R : List (Int × Int)) (rw_ : List Bool) (a : Int) (hlen : (gkeys rw_).length ≤ 1100000) (hl2 : (gkeys rw_).length < 1048576) (hN : (gkeys rw_).length < N) : ∀ (l : List (Int × Int)) (g : List (List Bool)), Tab n g →
    m_graph_Graph_Remove_L2 N a R rw_ l g = some (insS a (gkeys rw_), R, joinAll n g l)
  | [], g, _ => by
    rw [m_graph_Graph_Remove_L2.eq_1, search_eq N _ a gkeys_rises hlen hN]
    simp only [Option.bind_some]
    have := lb_le (gkeys rw_) a
    unfold lib_insert
    rw [chk_pos ⟨by omega, by omega, rfl, hl2⟩]
    rfl
  | p :: l, g, hg => by
    rw [m_graph_Graph_Remove_L2.eq_2, Join_eq hg]
    simp only [Option.bind_some]
    exact Remove_L2 R rw_ a hlen hl2 hN l _ hg.join
theorem Remove_L1 (R : List (Int × Int)) (rw_ : List Bool) (a : Int) (ha : 0 ≤ a ∧ a < (n : Int)) (hlen : (gkeys rw_).length ≤ 1100000) (hl2 : (gkeys rw_).length < 1048576) (hN : (gkeys rw_).length < N) : ∀ (l : List Int) (g : List (List Bool)), Tab n g → (∀ x ∈ l, 0 ≤ x ∧ x < (n : Int)) →
    m_graph_Graph_Remove_L1 N a R rw_ l g = some (insS a (gkeys rw_), R, joinAll n ((delN g a l).set a.toNat (List.replicate n false)) R)
  | [], g, hg, _ => by
    rw [m_graph_Graph_Remove_L1.eq_1, hg.at ha]
    simp only [Option.bind_some]
    rw [hg.rowlen ha]
    exact Remove_L2 R rw_ a hlen hl2 hN R _ (hg.set _ (by simp))
  | b :: l, g, hg, hl => by
    have hb := hl b (by simp)
    rw [m_graph_Graph_Remove_L1.eq_2, hg.at hb]
    simp only [Option.bind_some]
    exact Remove_L1 R rw_ a ha hlen hl2 hN l _ (hg.set _ (by rw [rset_length, hg.rowlen hb])) fun x hx => hl x (by simp [hx])
theorem Remove_eq (h : Tab n t) (hn : n ≤ 1024) (hN : 2048 < N) (ha : 0 ≤ a ∧ a < (n : Int)) : m_graph_Graph_Remove N t a = some (insS a (near n t a), wantL t (near n t a), removeT n t a) := by
  unfold m_graph_Graph_Remove
  rw [in_eq h]
  simp only [Option.bind_some]
  rw [decide_eq_true ha, if_neg (by decide), wanting_eq h hn, h.at ha]
  simp only [Option.bind_some]
  have hk : (gkeys (row t a)).length ≤ n := near_len (a := a) h
  rw [chk_pos (by rw [h.rowlen ha]; omega)]
  exact Remove_L1 _ _ a ha (by omega) (by omega) (by omega) _ _ h (near_range h)
end


/-- A table of edges: each both ways round, none from a point to itself. -/
structure Gr (n : Nat) (t : List (List Bool)) : Prop where
  tab : Tab n t
  sym : ∀ x y, ge t x y = ge t y x
  irr : ∀ x, ge t x x = false
section
variable {n N : Nat} {t : List (List Bool)} {a b : Int}
theorem Gr.none : Gr n (List.replicate n (List.replicate n false)) := by
  have hT : Tab n (List.replicate n (List.replicate n false)) := ⟨by simp, fun r hr => by rw [List.eq_of_mem_replicate hr]; simp⟩
  have h0 : ∀ x y, ge (List.replicate n (List.replicate n false)) x y = false := fun x y => by
    unfold ge row at?
    split
    · rw [List.getElem?_replicate]
      split
      · exact gat_replicate
      · exact gat_nil
    · exact gat_nil
  exact ⟨hT, fun x y => by rw [h0, h0], fun x => h0 x x⟩
theorem Gr.join (h : Gr n t) : Gr n (joinT n t a b) := by
  refine ⟨h.tab.join, ?_, ?_⟩ <;> unfold joinT
  · intro x y
    split
    · rename_i hj
      unfold jn at hj
      simp only [Bool.and_eq_true, decide_eq_true_eq] at hj
      rw [ge_setE h.tab hj.1.1 hj.1.2.1 hj.1.2.2, ge_setE h.tab hj.1.1 hj.1.2.1 hj.1.2.2, h.sym x y]
      congr 1
      exact decide_eq_decide.2 ⟨fun h => h.elim (fun h => .inr ⟨h.2, h.1⟩) fun h => .inl ⟨h.2, h.1⟩, fun h => h.elim (fun h => .inr ⟨h.2, h.1⟩) fun h => .inl ⟨h.2, h.1⟩⟩
    · exact h.sym x y
  · intro x
    split
    · rename_i hj
      unfold jn at hj
      simp only [Bool.and_eq_true, decide_eq_true_eq] at hj
      rw [ge_setE h.tab hj.1.1 hj.1.2.1 hj.1.2.2, h.irr x, Bool.false_or, decide_eq_false_iff_not]
      rintro (⟨rfl, h2⟩ | ⟨rfl, h2⟩)
      · exact hj.1.2.2 h2
      · exact hj.1.2.2 h2.symm
    · exact h.irr x
/-- A point that is not out, and joins nothing. -/
def ready (n : Nat) (t : List (List Bool)) (out : List Bool) (a : Nat) : Bool := !(out.getD a false) && (wantL t (near n t a)).isEmpty
end





section
variable {n N : Nat} {t : List (List Bool)} {a b x y : Int}
/-- The edges, in order. -/
def edgesL (n : Nat) (t : List (List Bool)) : List (Int × Int) := (List.range n).flatMap fun a : Nat => ((near n t (a : Int)).filter fun b => decide ((a : Int) < b)).map fun b => ((a : Int), b)
theorem list_L2 (v : Int) (kk : Int → List (Int × Int) → Option (List (Int × Int))) : ∀ (l : List Int) (acc : List (Int × Int)), acc.length + l.length ≤ 1100000 →
    m_graph_Graph_list_L2 v kk l acc = kk (IntKind.i64.wrap (v + 1)) (acc ++ (l.filter fun b => decide (v < b)).map fun b => (v, b))
  | [], acc, _ => by rw [m_graph_Graph_list_L2.eq_1]; simp
  | x :: l, acc, hl => by
    rw [m_graph_Graph_list_L2.eq_2]
    simp only [List.length_cons] at hl
    unfold m_graph_Graph_list_J1
    by_cases hx : v < x
    · rw [if_pos (decide_eq_true hx), chk_pos (by simp only [List.length_cons, List.length_nil, maxLen]; omega), list_L2 v kk l _ (by simp; omega), List.filter_cons, if_pos (decide_eq_true hx)]
      simp
    · rw [if_neg (by simpa using hx), list_L2 v kk l _ (by omega), List.filter_cons, if_neg (by simpa using hx)]
theorem list_L1 (h : Tab n t) (hn : n ≤ 1024) : ∀ (f k : Nat) (acc : List (Int × Int)), k ≤ n → n - k < f → acc.length ≤ k * 1024 →
    m_graph_Graph_list_L1 N t f (k : Int) acc = some (acc ++ ((List.range n).drop k).flatMap fun a : Nat => ((near n t (a : Int)).filter fun b => decide ((a : Int) < b)).map fun b => ((a : Int), b))
  | 0, k, acc, _, hf, _ => by omega
  | f + 1, k, acc, hk, hf, ha => by
    rw [m_graph_Graph_list_L1.eq_2, h.len]
    by_cases hlt : k < n
    · rw [if_pos (decide_eq_true (by omega)), Near_eq h hn]
      simp only [Option.bind_some]
      have hnl := near_len (a := (k : Int)) h
      rw [list_L2 _ _ _ _ (by have : k * 1024 ≤ 1024 * 1024 := Nat.mul_le_mul_right _ (by omega); omega), wS (by omega)]
      have hfl := List.length_filter_le (fun b => decide ((k : Int) < b)) (near n t (k : Int))
      rw [list_L1 h hn f (k + 1) _ (by omega) (by omega) (by rw [List.length_append, List.length_map]; omega)]
      have hd : (List.range n).drop k = k :: (List.range n).drop (k + 1) := by
        rw [List.drop_eq_getElem_cons (by simpa using hlt)]; simp
      rw [hd, List.flatMap_cons, List.append_assoc]
    · rw [if_neg (by simp; omega), List.drop_eq_nil_of_le (by simp; omega)]; simp
theorem edges1 : ∀ l : List (Int × Int), m_graph_Graph_Edges_1_L1 l = some l
  | [] => by rw [m_graph_Graph_Edges_1_L1.eq_1]
  | x :: l => by rw [m_graph_Graph_Edges_1_L1.eq_2, edges1 l]; rfl
theorem list_eq (h : Tab n t) (hn : n ≤ 1024) (hN : 2048 < N) : m_graph_Graph_list N t = some (edgesL n t) := by
  unfold m_graph_Graph_list
  have := list_L1 (N := N) h hn N 0 [] (Nat.zero_le _) (by omega) (by simp)
  unfold edgesL
  simpa using this
theorem Edges_eq (h : Tab n t) (hn : n ≤ 1024) (hN : 2048 < N) : m_graph_Graph_Edges N t = some (edgesL n t) := by
  unfold m_graph_Graph_Edges m_graph_Graph_Edges_1
  rw [list_eq h hn hN]; exact edges1 _
theorem edgesL_mem (h : Tab n t) : (x, y) ∈ edgesL n t ↔ ge t x y = true ∧ x < y := by
  unfold edgesL
  rw [List.mem_flatMap]
  constructor
  · rintro ⟨a, ha, hm⟩
    obtain ⟨b, hb, he⟩ := List.mem_map.1 hm
    rw [List.mem_filter] at hb
    simp only [Prod.mk.injEq] at he
    obtain ⟨rfl, rfl⟩ := he
    exact ⟨near_mem.1 hb.1, by simpa using hb.2⟩
  · rintro ⟨h1, h2⟩
    obtain ⟨hx, hy⟩ := h.range h1
    refine ⟨x.toNat, List.mem_range.2 (by omega), List.mem_map.2 ⟨y, List.mem_filter.2 ⟨?_, ?_⟩, ?_⟩⟩
    · rw [show ((x.toNat : Nat) : Int) = x by omega]; exact near_mem.2 h1
    · rw [decide_eq_true_eq]; omega
    · rw [show ((x.toNat : Nat) : Int) = x by omega]
theorem want_mem : (x, y) ∈ wantL t (near n t a) ↔ ge t a x = true ∧ ge t a y = true ∧ x < y ∧ ge t x y = false := by
  rw [wantL_mem (l := near n t a) gkeys_rises, near_mem, near_mem]
theorem want_range (h : Gr n t) : ∀ p ∈ wantL t (near n t a), (0 ≤ p.1 ∧ p.1 < (n : Int)) ∧ (0 ≤ p.2 ∧ p.2 < (n : Int)) ∧ p.1 ≠ p.2 := fun p hp => by
  obtain ⟨x, y⟩ := p
  obtain ⟨h1, h2, h3, _⟩ := want_mem.1 hp
  have := (h.tab.range h1).2; have := (h.tab.range h2).2
  exact ⟨by assumption, by assumption, by show x ≠ y; omega⟩
/-- What is wanting, put in. -/
def put (t : List (List Bool)) (n : Nat) (a x y : Int) : Bool := ge t a x && ge t a y && !decide (x = y) && !ge t x y
theorem put_iff (h : Gr n t) : decide ((x, y) ∈ wantL t (near n t a) ∨ (y, x) ∈ wantL t (near n t a)) = put t n a x y := by
  unfold put
  rw [Bool.eq_iff_iff, decide_eq_true_eq, want_mem, want_mem, h.sym y x]
  simp only [Bool.and_eq_true, Bool.not_eq_true', decide_eq_false_iff_not]
  constructor
  · rintro (⟨h1, h2, h3, h4⟩ | ⟨h1, h2, h3, h4⟩)
    · exact ⟨⟨⟨h1, h2⟩, by omega⟩, h4⟩
    · exact ⟨⟨⟨h2, h1⟩, by omega⟩, h4⟩
  · rintro ⟨⟨⟨h1, h2⟩, h3⟩, h4⟩
    by_cases hxy : x < y
    · exact .inl ⟨h1, h2, hxy, h4⟩
    · exact .inr ⟨h2, h1, by omega, h4⟩
theorem ge_cut (h : Gr n t) (ha : 0 ≤ a ∧ a < (n : Int)) : ge ((delN t a (near n t a)).set a.toNat (List.replicate n false)) x y = (ge t x y && !decide (x = a) && !decide (y = a)) := by
  have h1 : Tab n (delN t a (near n t a)) := h.tab.del (near_range h.tab)
  rw [ge_set h1 ha]
  by_cases hx : x = a
  · rw [if_pos hx, gat_replicate]; simp [hx]
  · rw [if_neg hx, ge_del h.tab (near_range h.tab), decide_eq_false hx]
    by_cases hy : y = a
    · subst hy
      cases hg : ge t x y
      · simp
      · have : x ∈ near n t y := near_mem.2 (by rw [h.sym]; exact hg)
        simp [this]
    · simp [hy]
theorem Gr.cut (h : Gr n t) (ha : 0 ≤ a ∧ a < (n : Int)) : Gr n ((delN t a (near n t a)).set a.toNat (List.replicate n false)) := by
  refine ⟨(h.tab.del (near_range h.tab)).set _ (by simp), fun x y => ?_, fun x => ?_⟩
  · rw [ge_cut h ha, ge_cut h ha, h.sym x y, Bool.and_assoc, Bool.and_assoc, Bool.and_comm (!decide (x = a))]
  · rw [ge_cut h ha, h.irr x]; rfl
theorem Gr.joinAll : ∀ {l : List (Int × Int)} {t : List (List Bool)}, Gr n t → Gr n (joinAll n t l)
  | [], t, h => h
  | p :: l, t, h => Gr.joinAll (l := l) (h.join (a := p.1) (b := p.2))
theorem Gr.remove (h : Gr n t) (ha : 0 ≤ a ∧ a < (n : Int)) : Gr n (removeT n t a) := Gr.joinAll (h.cut ha)
theorem ge_remove (h : Gr n t) (ha : 0 ≤ a ∧ a < (n : Int)) : ge (removeT n t a) x y = ((ge t x y && !decide (x = a) && !decide (y = a)) || put t n a x y) := by
  unfold removeT
  rw [ge_joinAll (h.cut ha).tab (h.cut ha).sym (want_range h), ge_cut h ha, put_iff h]
theorem ge_joinPut {u : List (List Bool)} (h : Gr n t) (hu : Gr n u) : ge (joinAll n u (wantL t (near n t a))) x y = (ge u x y || put t n a x y) := by
  rw [ge_joinAll hu.tab hu.sym (want_range h), put_iff h]

/-! ### an order in which the points may be taken out -/
def Peo (t : List (List Bool)) : List Int → Prop
  | [] => True
  | x :: l => (∀ y ∈ l, ∀ z ∈ l, y ≠ z → ge t x y = true → ge t x z = true → ge t y z = true) ∧ Peo t l
theorem Peo.first {t : List (List Bool)} : ∀ {l : List Int}, Peo t l → ∀ (p : Int → Bool), (∃ x ∈ l, p x = true) → ∃ x ∈ l, p x = true ∧ ∀ y ∈ l, ∀ z ∈ l, p y = true → p z = true → y ≠ x → z ≠ x → y ≠ z → ge t x y = true → ge t x z = true → ge t y z = true
  | [], _, p, h => by obtain ⟨_, h, _⟩ := h; cases h
  | v :: l, ⟨h1, h2⟩, p, h => by
    by_cases hv : p v = true
    · refine ⟨v, by simp, hv, fun y hy z hz _ _ hyx hzx hyz => h1 y ?_ z ?_ hyz⟩
      · rcases List.mem_cons.1 hy with e | e; exact absurd e hyx; exact e
      · rcases List.mem_cons.1 hz with e | e; exact absurd e hzx; exact e
    · obtain ⟨x, hx, hp⟩ := h
      rcases List.mem_cons.1 hx with rfl | hx
      · exact absurd hp hv
      · obtain ⟨x, h3, h4, h5⟩ := Peo.first h2 p ⟨x, hx, hp⟩
        refine ⟨x, by simp [h3], h4, fun y hy z hz py pz => ?_⟩
        rcases List.mem_cons.1 hy with rfl | hy
        · exact absurd py hv
        · rcases List.mem_cons.1 hz with rfl | hz
          · exact absurd pz hv
          · exact h5 y hy z hz py pz
end









inductive Conn (t : List (List Bool)) : Int → Int → Prop
  | refl (a : Int) : Conn t a a
  | on {a x b : Int} : Conn t a x → ge t x b = true → Conn t a b
section
variable {n N : Nat} {t : List (List Bool)} {a b c x y : Int}
theorem Conn.trans (h : Conn t a b) (k : Conn t b c) : Conn t a c := by
  induction k with
  | refl => exact h
  | on _ e ih => exact .on ih e
theorem Conn.symm (hg : Gr n t) (h : Conn t a b) : Conn t b a := by
  induction h with
  | refl => exact .refl _
  | on _ e ih => exact ((Conn.refl _).on (by rw [hg.sym]; exact e)).trans ih
theorem Conn.range (hg : Tab n t) (ha : 0 ≤ a ∧ a < (n : Int)) (h : Conn t a b) : 0 ≤ b ∧ b < (n : Int) := by
  induction h with
  | refl => exact ha
  | on _ e _ => exact (hg.range e).2
theorem Conn.alone (ha : ∀ x, ge t a x = false) (h : Conn t a b) : b = a := by
  induction h with
  | refl => rfl
  | on _ e ih => rw [ih, ha] at e; cases e
def pts (n : Nat) : List Int := (List.range n).map fun k : Nat => (k : Int)
theorem pts_mem : x ∈ pts n ↔ 0 ≤ x ∧ x < (n : Int) := by
  unfold pts
  rw [List.mem_map]
  constructor
  · rintro ⟨k, hk, rfl⟩; have := List.mem_range.1 hk; omega
  · exact fun h => ⟨x.toNat, List.mem_range.2 (by omega), by omega⟩
theorem pts_rises : (pts n).Pairwise (· < ·) := by
  unfold pts
  rw [List.pairwise_map]
  exact List.pairwise_lt_range.imp fun h => by omega
theorem pts_len : (pts n).length = n := by simp [pts]
open Classical in
/-- What hangs with a point. -/
noncomputable def hang (n : Nat) (t : List (List Bool)) (v : Int) : List Int := (pts n).filter fun x => decide (Conn t v x)
open Classical in
theorem same_sorted {l m : List Int} (hl : l.Pairwise (· < ·)) (hm : m.Nodup) (h : ∀ x, x ∈ l ↔ x ∈ m) : isort m = l :=
  isort_eq ((List.perm_ext_iff_of_nodup (hl.imp fun h => by omega) hm).2 h) (hl.imp fun h => by omega)
def inP (P : List Int) (p : Int × Int) : Bool := decide (p.1 ∈ P) && decide (p.2 ∈ P)
def amongT (n : Nat) (t : List (List Bool)) (P : List Int) : List (List Bool) := joinAll n (List.replicate n (List.replicate n false)) ((edgesL n t).filter (inP P))
theorem Gr.among (P : List Int) : Gr n (amongT n t P) := Gr.none.joinAll
theorem ge_none : ge (List.replicate n (List.replicate n false)) x y = false := by
  unfold ge row at?
  split
  · rw [List.getElem?_replicate]
    split
    · exact gat_replicate
    · exact gat_nil
  · exact gat_nil
end


section
variable {n N : Nat} {t u : List (List Bool)} {a b x y : Int}
theorem tab_ext (h : Tab n t) (k : Tab n u) (e : ∀ x y, ge t x y = ge u x y) : t = u := by
  refine List.ext_getElem (by rw [h.len, k.len]) fun i h1 h2 => ?_
  refine gat_ext (by rw [h.sq _ (List.getElem_mem h1), k.sq _ (List.getElem_mem h2)]) fun j => ?_
  have := e (i : Int) j
  unfold ge row at this
  rwa [at?_lt h1, at?_lt h2] at this

theorem copied_L2 : ∀ (l : List (Int × Int)) (h : List (List Bool)), Tab n h → m_order_copied_L2 l h = some (some (joinAll n h l))
  | [], h, _ => by rw [m_order_copied_L2.eq_1]; rfl
  | p :: l, h, hh => by
    rw [m_order_copied_L2.eq_2, Join_eq hh]
    simp only [Option.bind_some]
    rw [copied_L2 l _ hh.join]; rfl
theorem copy_eq (h : Gr n t) : joinAll n (List.replicate n (List.replicate n false)) (edgesL n t) = t := by
  refine tab_ext (Gr.none (n := n)).joinAll.tab h.tab fun x y => ?_
  rw [ge_joinAll Gr.none.tab (fun x y => by rw [ge_none, ge_none]) (fun p hp => by
    obtain ⟨x, y⟩ := p
    have h1 := (edgesL_mem h.tab).1 hp
    have := h.tab.range h1.1
    exact ⟨this.1, this.2, by show x ≠ y; omega⟩), ge_none, Bool.false_or, Bool.eq_iff_iff, decide_eq_true_eq, edgesL_mem h.tab, edgesL_mem h.tab, h.sym y x]
  constructor
  · rintro (h1 | h1)
    · exact h1.1
    · exact h1.1
  · intro h1
    have hne : x ≠ y := fun e => by rw [e, h.irr] at h1; cases h1
    by_cases hxy : x < y
    · exact .inl ⟨h1, hxy⟩
    · exact .inr ⟨h1, by omega⟩
theorem copied_eq (h : Gr n t) (hn : n ≤ 1024) (hN : 2048 < N) : m_order_copied N t = some (some t) := by
  unfold m_order_copied m_graph_Graph_Len m_graph_New
  simp only [Option.bind_some]
  rw [h.tab.len, if_neg (by omega)]
  simp only [Option.bind_some, Int.toNat_natCast]
  unfold optC
  simp only []
  rw [Edges_eq h.tab hn hN]
  simp only [Option.bind_some]
  rw [copied_L2 _ _ Gr.none.tab, copy_eq h]

/-! ### why a list may not be -/
def wrongC (n : Nat) (l : List Int) : Int := if ∀ x ∈ l, 0 ≤ x ∧ x < (n : Int) then (if l.Nodup then 0 else 40) else 3
theorem wrong_L1 (h : Tab n t) (L : List Int) (hL : L.length < 17592186044000) : ∀ l : List Int, m_order_wrong_L1 t L l = some (if ∀ x ∈ l, 0 ≤ x ∧ x < (n : Int) then (if L.Nodup then 0 else 40) else 3)
  | [] => by
    rw [m_order_wrong_L1.eq_1, values_eq]
    simp only [Option.bind_some]
    rw [sorted_eq' L (by omega)]
    simp only [Option.bind_some]
    unfold lib_compact
    rw [chk_pos (by rw [isort_len]; omega)]
    simp only [Option.bind_some]
    have hn : (Go.Lib.compact (isort L)).length = L.length ↔ L.Nodup := by
      rw [← isort_len L, compact_len_iff (isort_rises L), (isort_perm L).nodup_iff]
    rw [if_pos (by simp : ∀ x ∈ ([] : List Int), 0 ≤ x ∧ x < (n : Int))]
    by_cases hd : L.Nodup
    · rw [if_neg (by simp; have := hn.2 hd; omega), if_pos hd]
    · rw [if_pos (by
        simp only [Bool.not_eq_true', decide_eq_false_iff_not]
        intro e; exact hd (hn.1 (by omega))), if_neg hd]
  | x :: l => by
    rw [m_order_wrong_L1.eq_2]
    unfold m_order_wrong_J1 m_graph_Graph_Len
    by_cases h0 : x < 0
    · rw [if_pos (decide_eq_true h0), if_pos rfl, if_neg (fun e => by have := (e x List.mem_cons_self).1; omega)]
    · rw [if_neg (by simpa using h0)]
      simp only [Option.bind_some]
      rw [h.len]
      by_cases h1 : (n : Int) ≤ x
      · rw [if_pos (decide_eq_true h1), if_neg (fun e => by have := (e x List.mem_cons_self).2; omega)]
      · rw [if_neg (by simpa using h1), wrong_L1 h L hL l]
        congr 1
        apply ifc
        constructor
        · intro hh y hy
          rcases List.mem_cons.1 hy with rfl | hy
          · omega
          · exact hh y hy
        · exact fun hh y hy => hh y (List.mem_cons_of_mem _ hy)
theorem wrong_eq (h : Tab n t) (L : List Int) (hL : L.length < 17592186044000) : m_order_wrong t L = some (wrongC n L) := wrong_L1 h L hL L
theorem wrong_zero {l : List Int} : wrongC n l = 0 ↔ (∀ x ∈ l, 0 ≤ x ∧ x < (n : Int)) ∧ l.Nodup := by
  unfold wrongC
  by_cases h1 : ∀ x ∈ l, 0 ≤ x ∧ x < (n : Int)
  · rw [if_pos h1]
    by_cases h2 : l.Nodup
    · rw [if_pos h2]; exact ⟨fun _ => ⟨h1, h2⟩, fun _ => rfl⟩
    · rw [if_neg h2]; exact ⟨fun e => by omega, fun e => absurd e.2 h2⟩
  · rw [if_neg h1]; exact ⟨fun e => by omega, fun e => absurd e.1 h1⟩
theorem short {l : List Int} (h : ∀ x ∈ l, 0 ≤ x ∧ x < (n : Int)) (hd : l.Nodup) : l.length ≤ n := by
  have := nodup_le hd (r := pts n) fun x hx => pts_mem.2 (h x hx)
  rwa [pts_len] at this

/-! ### cliques -/
/-- What an order of points takes out, one by one. -/
def clq (n : Nat) : List (List Bool) → List Int → List (List Int)
  | _, [] => []
  | t, a :: l => insS a (near n t a) :: clq n (removeT n t a) l
theorem clq_len : ∀ {l : List Int} {t : List (List Bool)}, (clq n t l).length = l.length
  | [], _ => rfl
  | a :: l, t => by simp only [clq, List.length_cons, clq_len]
theorem Cliques_L2 (hn : n ≤ 1024) (hN : 2048 < N) : ∀ (l : List Int) (t : List (List Bool)) (all : List (List Int)), Gr n t → (∀ x ∈ l, 0 ≤ x ∧ x < (n : Int)) → all.length + l.length ≤ 1048576 →
    m_order_Cliques_L2 N l t all = some (all ++ clq n t l, 0)
  | [], t, all, _, _, _ => by rw [m_order_Cliques_L2.eq_1]; simp [clq]
  | a :: l, t, all, h, hr, hl => by
    have ha := hr a List.mem_cons_self
    simp only [List.length_cons] at hl
    rw [m_order_Cliques_L2.eq_2, Remove_eq h.tab hn hN ha]
    simp only [Option.bind_some]
    rw [chk_pos (by simp only [List.length_singleton, maxLen]; omega), Cliques_L2 hn hN l _ _ (h.remove ha) (fun x hx => hr x (List.mem_cons_of_mem _ hx)) (by simp; omega), List.append_assoc]
    rfl
def clqs (n : Nat) (t : List (List Bool)) (l : List Int) : List (List Int) × Int := if wrongC n l = 0 then (clq n t l, 0) else ([], wrongC n l)
theorem Cliques_eq (h : Gr n t) (hn : n ≤ 1024) (hN : 2048 < N) (l : List Int) (hl : l.length < 17592186044000) : m_order_Cliques N t l = some (clqs n t l) := by
  unfold m_order_Cliques clqs
  rw [wrong_eq h.tab l hl]
  simp only [Option.bind_some]
  by_cases h0 : wrongC n l = 0
  · rw [if_neg (by simp [h0]), if_pos h0, copied_eq h hn hN]
    simp only [Option.bind_some]
    unfold optC
    simp only []
    have hsh := short (wrong_zero.1 h0).1 (wrong_zero.1 h0).2
    rw [Cliques_L2 hn hN l t [] h (wrong_zero.1 h0).1 (by simp; omega)]
    simp
  · rw [if_pos (by simp [h0]), if_neg h0]
def most : List (List Int) → Nat → Nat
  | [], m => m
  | l :: ls, m => most ls (max m l.length)
theorem Width_L1 (r : List (List Int) × Int) : ∀ (l : List (List Int)) (m : Nat), m_order_Width_L1 r l (m : Int) = some (IntKind.i64.wrap ((most l m : Nat) - 1 : Int), r.2)
  | [], m => by rw [m_order_Width_L1.eq_1]; rfl
  | x :: l, m => by
    rw [m_order_Width_L1.eq_2, show (if (x.length : Int) > (m : Int) then (x.length : Int) else (m : Int)) = ((max m x.length : Nat) : Int) by split <;> omega]
    exact Width_L1 r l _
theorem Width_eq (h : Gr n t) (hn : n ≤ 1024) (hN : 2048 < N) (l : List Int) (hl : l.length < 17592186044000) : m_order_Width N t l = some (IntKind.i64.wrap ((most (clqs n t l).1 1 : Nat) - 1 : Int), (clqs n t l).2) := by
  unfold m_order_Width
  rw [Cliques_eq h hn hN l hl]
  simp only [Option.bind_some]
  exact Width_L1 _ _ 1

/-! ### what weighs least goes first -/
/-- An order by weight: what weighs least goes first, of those the least. -/
def OrdR (n : Nat) (wt : List (List Bool) → Int → Int) : List (List Bool) → List Int → List Int → Prop
  | _, left, [] => left = []
  | t, left, a :: r => a ∈ left ∧ (∀ b ∈ left, wt t a < wt t b ∨ wt t a = wt t b ∧ a ≤ b) ∧ OrdR n wt (removeT n t a) (left.filter fun x => decide (x ≠ a)) r
theorem OrdR.congr {wt : List (List Bool) → Int → Int} : ∀ {r : List Int} {t : List (List Bool)} {l m : List Int}, (∀ x, x ∈ l ↔ x ∈ m) → OrdR n wt t l r → OrdR n wt t m r
  | [], t, l, m, e, h => by
    have h : l = [] := h
    subst h
    show m = []
    exact List.eq_nil_iff_forall_not_mem.2 fun x hx => by have := (e x).2 hx; cases this
  | a :: r, t, l, m, e, ⟨h1, h2, h3⟩ => ⟨(e a).1 h1, fun b hb => h2 b ((e b).2 hb), h3.congr fun x => by rw [List.mem_filter, List.mem_filter, e x]⟩
theorem OrdR.perm {wt : List (List Bool) → Int → Int} : ∀ {r : List Int} {t : List (List Bool)} {l : List Int}, l.Nodup → OrdR n wt t l r → r.Nodup ∧ ∀ x, x ∈ r ↔ x ∈ l
  | [], t, l, _, h => by
    have h : l = [] := h
    subst h; exact ⟨List.nodup_nil, fun _ => Iff.rfl⟩
  | a :: r, t, l, hd, ⟨h1, _, h3⟩ => by
    have ih := h3.perm (hd.filter _)
    refine ⟨List.nodup_cons.2 ⟨fun hm => ?_, ih.1⟩, fun x => ?_⟩
    · have := (ih.2 a).1 hm
      rw [List.mem_filter] at this; simp at this
    · rw [List.mem_cons, ih.2 x, List.mem_filter]
      by_cases hx : x = a
      · subst hx; simp [h1]
      · simp [hx]

/-- What both orders answer. -/
def Ordered (n : Nat) (wt : List (List Bool) → Int → Int) (t : List (List Bool)) (l : List Int) (r : List Int × Int) : Prop := if wrongC n l = 0 then r.2 = 0 ∧ OrdR n wt t l r.1 else r = ([], wrongC n l)
end


section
variable {n N : Nat} {t u : List (List Bool)} {a b x y : Int}
theorem pick18_eq {i : Int} {n : Nat} (hn : 0 < n ∧ n ≤ 1048576) : ∃ k : Nat, k < n ∧ m_l18_pick i (n : Int) = some (k : Int) := by
  unfold m_l18_pick
  rw [chk_pos (by omega)]
  have h1 := Int.tmod_lt_of_pos i (show (0 : Int) < n by omega)
  have h2 : -(n : Int) < Int.tmod i n := by
    have := Int.lt_tmod_of_pos i (show (0 : Int) < n by omega); omega
  unfold m_l18_pick_J1
  by_cases h : Int.tmod i n < 0
  · rw [if_pos (decide_eq_true h), w64 (by omega)]
    exact ⟨(Int.tmod i n + n).toNat, by omega, by congr 1; omega⟩
  · rw [if_neg (by simpa using h)]
    exact ⟨(Int.tmod i n).toNat, by omega, by congr 1; omega⟩
theorem point_eq (h : Tab n t) : m_r15_Graph_point t a = some (decide (0 ≤ a ∧ a < (n : Int))) := by
  unfold m_r15_Graph_point m_r15_Graph_point_J1
  rw [h.len]
  by_cases h0 : 0 ≤ a
  · rw [if_pos (decide_eq_true h0)]; congr 1; exact decide_eq_decide.2 ⟨fun h => ⟨h0, h⟩, fun h => h.2⟩
  · rw [if_neg (by simpa using h0)]; congr 1; exact (decide_eq_false fun h => h0 h.1).symm
theorem Tab.cell (h : Tab n t) (ha : 0 ≤ a ∧ a < (n : Int)) (hb : 0 ≤ b ∧ b < (n : Int)) : at? (row t a) b = some (ge t a b) := by
  have hl := h.rowlen ha
  unfold ge gat at?
  rw [if_pos hb.1, if_pos hb.1, List.getElem?_eq_getElem (by omega)]; rfl
theorem at?_set_ne {α : Type} {l : List α} {r : α} (h : a ≠ b) (ha : 0 ≤ a) : at? (l.set a.toNat r) b = at? l b := by
  unfold at?
  by_cases hb : 0 ≤ b
  · rw [if_pos hb, if_pos hb, List.getElem?_set_ne (by omega)]
  · rw [if_neg hb, if_neg hb]
theorem refJoin_eq (h : Tab n t) : m_r15_Graph_Join t a b = some (jn n t a b, joinT n t a b) := by
  unfold m_r15_Graph_Join
  rw [point_eq h, point_eq h]
  simp only [Option.bind_some]
  have no : jn n t a b = false → m_r15_Graph_Join_J1 t a b true = some (jn n t a b, joinT n t a b) := fun e => by
    unfold m_r15_Graph_Join_J1 joinT
    rw [e]; rfl
  by_cases ha : 0 ≤ a ∧ a < (n : Int)
  · rw [if_neg (by simp [ha])]
    by_cases hb : 0 ≤ b ∧ b < (n : Int)
    · rw [if_neg (by simp [hb])]
      by_cases hab : a = b
      · rw [if_pos (decide_eq_true hab), no]
        unfold jn; simp [hab]
      · rw [if_neg (by simpa using hab), h.at ha]
        simp only [Option.bind_some]
        rw [h.cell ha hb]
        simp only [Option.bind_some]
        have hj : jn n t a b = !ge t a b := by unfold jn; rw [decide_eq_true ⟨ha, hb, hab⟩, Bool.true_and]
        cases hg : ge t a b
        · unfold m_r15_Graph_Join_J1
          rw [if_neg (by decide), h.at ha]
          simp only [Option.bind_some]
          rw [h.cell ha hb]
          simp only [Option.bind_some]
          rw [at?_set_ne hab ha.1, h.at hb]
          simp only [Option.bind_some]
          rw [h.cell hb ha]
          simp only [Option.bind_some]
          unfold joinT setE rset
          rw [hj, hg, if_pos (show (!false) = true from rfl), if_pos hb.1, if_pos ha.1]; rfl
        · exact no (by rw [hj, hg]; rfl)
    · rw [if_pos (by rw [decide_eq_false hb]; rfl), no]
      unfold jn; rw [decide_eq_false (fun e => hb e.2.1)]; rfl
  · rw [if_pos (by rw [decide_eq_false ha]; rfl), no]
    unfold jn; rw [decide_eq_false (fun e => ha e.1)]; rfl
theorem refNew_L1 (hn : n ≤ 1024) : ∀ (f i : Nat), i ≤ n → n - i < f → m_r15_New_L1 N (n : Int) f (List.replicate i (List.replicate n false)) (i : Int) = some (some (List.replicate n (List.replicate n false)), 0)
  | 0, i, _, hf => by omega
  | f + 1, i, hi, hf => by
    rw [m_r15_New_L1.eq_2]
    by_cases h : i < n
    · rw [if_pos (decide_eq_true (by omega)), chk_pos (by simp only [maxLen]; omega), chk_pos (by simp only [List.length_replicate, List.length_singleton, maxLen]; omega), wS (by omega), Int.toNat_natCast,
        show List.replicate i (List.replicate n false) ++ [List.replicate n false] = List.replicate (i + 1) (List.replicate n false) by rw [List.replicate_succ']]
      exact refNew_L1 hn f (i + 1) (by omega) (by omega)
    · obtain rfl : i = n := by omega
      rw [if_neg (by simp)]
theorem refNew_eq (hn : n ≤ 1024) (hN : 2048 < N) : m_r15_New N (n : Int) = some (some (List.replicate n (List.replicate n false)), 0) := by
  unfold m_r15_New m_r15_New_J1
  rw [if_neg (by simp), if_neg (by simp; omega)]
  exact refNew_L1 hn N 0 (by omega) (by omega)
theorem drawn18_L (d : Int) (pairs : List Int) (hp : pairs.length ≤ 9223372036854775000) (n : Nat) (hn : n ≤ 14) : ∀ (f i : Nat) (t : List (List Bool)), Gr n t → i ≤ pairs.length + 1 → pairs.length + 1 - i < f →
    ∃ t', Gr n t' ∧ m_l18_drawn_L2 N (d, pairs) (n : Int) f (i : Int) t t = some (some t', some t', true)
  | 0, i, t, _, _, h => by omega
  | f + 1, i, t, hg, hi, hf => by
    rw [m_l18_drawn_L2.eq_2, wS (by omega)]
    unfold m_l18_drawn_J6
    by_cases h1 : i + 1 < pairs.length
    · rw [if_pos (decide_eq_true (by show ((i + 1 : Nat) : Int) < (pairs.length : Int); omega))]
      by_cases h0 : 0 < n
      · rw [if_pos (decide_eq_true (by omega))]
        show ∃ t', Gr n t' ∧ ((at? pairs (i : Int)).bind fun e_119 => _) = _
        rw [at?_lt (by omega)]
        simp only [Option.bind_some]
        rw [wS (by omega), at?_lt h1]
        simp only [Option.bind_some]
        obtain ⟨k, hk, e1⟩ := pick18_eq (i := pairs[i]) ⟨h0, by omega⟩
        obtain ⟨l, hl, e2⟩ := pick18_eq (i := pairs[i + 1]) ⟨h0, by omega⟩
        rw [e1, e2]
        simp only [Option.bind_some]
        rw [Join_eq hg.tab, refJoin_eq hg.tab]
        simp only [Option.bind_some]
        rw [show IntKind.i64.wrap ((i : Int) + 2) = ((i + 2 : Nat) : Int) by rw [w64 (by omega)]; rfl]
        exact drawn18_L d pairs hp n hn f (i + 2) _ hg.join (by omega) (by omega)
      · rw [if_neg (by simp; omega)]
        exact ⟨t, hg, rfl⟩
    · rw [if_neg (by simp; omega), if_neg (by decide)]
      exact ⟨t, hg, rfl⟩
theorem drawn18_eq (pairs : List Int) (hp : pairs.length ≤ 9223372036854775000) (hN : pairs.length + 3000 < N) (d : Int) (hd : ¬ d < 0) : ∃ n t, n ≤ 14 ∧ Gr n t ∧ m_l18_drawn N (d, pairs) = some (some t, some t, true) := by
  obtain ⟨n, hn, e⟩ := pick18_eq (i := d) (n := 15) (by omega)
  unfold m_l18_drawn
  rw [if_neg (by simpa using hd), show (15 : Int) = ((15 : Nat) : Int) from rfl]
  show ∃ n t, n ≤ 14 ∧ Gr n t ∧ ((m_l18_pick d ((15 : Nat) : Int)).bind fun r_6 => _) = _
  rw [e]
  simp only [Option.bind_some]
  unfold m_graph_New
  rw [if_neg (by omega)]
  simp only [Option.bind_some, Int.toNat_natCast]
  obtain ⟨t', h1, h2⟩ := drawn18_L (N := N) d pairs hp n (by omega) N 0 _ Gr.none (Nat.zero_le _) (by omega)
  refine ⟨n, t', by omega, h1, ?_⟩
  unfold optC
  simp only []
  rw [refNew_eq (by omega) (by omega)]
  simp only [Option.bind_some]
  rw [if_neg (by decide)]
  unfold m_l18_drawn_J5
  rw [if_neg (by decide)]
  exact h2
end



def m_r15_Graph_Len (p0_g : ((List (List Bool)))) : Option Int :=
  some (p0_g.length : Int)

set_option maxRecDepth 100000 in
set_option maxHeartbeats 2000000 in
theorem c_r15_Graph_Len (col : Col) (w0 : World) (qc0 : Nat) (qc0_1 : Nat) (hqqc0 : qc0 ≠ 0) (hqqc0_1 : qc0_1 ≠ 0) (g0 : Nat) (p0_g : ((List (List Bool)))) (a0_2 : Option Addr) (cap0_2 : Nat) (h0_2 : Own (Rep.row 4 Rep.bool) 26 qc0_1 col w0 a0_2 cap0_2 p0_g) (hb0 : Box 102 qc0 col w0 g0 #[(.slice a0_2 p0_g.length cap0_2)]) (r : Int) (hm : m_r15_Graph_Len p0_g = some r) :
    Calls Try.prog 19 #[(.pointer (some ⟨g0, 0, none⟩))] w0 (fun e w' => e = .returned ((.int .i64 r)) ∧ Below w0.heap.size w0 w') := by
  refine calls_of1 2 (m := 8) (args := [(.pointer (some ⟨g0, 0, none⟩))]) Try.func19 rfl rfl rfl rfl rfl ?_
  rw [m_r15_Graph_Len.eq_1] at hm
  have hst := St.start col w0
  replace hb0 := hb0.start0 hqqc0
  replace h0_2 := h0_2.start0 hqqc0_1
  refine wseq ?_
  refine wregion ?_
  refine lv (v := (.int .i64 0)) rfl rfl (r_assign rfl) ?_
  refine lnil ?_
  refine wseq ?_
  refine wregion ?_
  refine lv (v := (.pointer (some ⟨g0, 0, none⟩))) rfl rfl (r_move rfl) ?_
  refine lv (v := (.pointer (some ⟨g0, 0, none⟩))) rfl rfl (r_nilCheck rfl) ?_
  refine lv (v := (.pointer ((some (⟨g0, 0, none⟩ : Addr)).map (·.add 0)))) rfl rfl (r_fieldAddr (sz := 1) (off := 0) Try.underlying102 rfl Try.sizeOf100 (by decide) rfl rfl ⟨_, _, rfl⟩) ?_
  refine lv (v := (.slice a0_2 p0_g.length cap0_2)) rfl rfl (r_ld Try.isAgg100 rfl ((hb0.atN).nth (q := 0) (v := (.slice a0_2 p0_g.length cap0_2)) rfl)) ?_
  refine lv (v := (.int .i64 (p0_g.length : Int))) rfl rfl (r_len Try.underlying100 rfl) ?_
  refine lv (v := (.int .i64 (p0_g.length : Int))) rfl rfl (r_assign rfl) ?_
  refine lnil ?_
  refine wret ?_
  cases hm
  exact ⟨rfl, rfl, hst.below⟩




def m_r18_listed_J1 (i_4 : Int) (kk_L1 : (Int → Option Int)) (v_21 : Bool) : Option Int :=
  if v_21 = true then (some 3) else (kk_L1 (IntKind.i64.wrap (i_4 + 1)))

def m_r18_listed_L2 (N : Nat) (p1_l : (List Int)) : Nat → Int → Option Int
  | 0, _ => none
  | n_29 + 1, i_32 => if (decide (i_32 < (p1_l.length : Int))) = true then ((at? p1_l i_32).bind fun e_33 => (m_r18_times N p1_l e_33).bind fun r_35 => if (decide (1 < r_35)) = true then (some 40) else ((m_r18_listed_L2 N p1_l n_29) (IntKind.i64.wrap (i_32 + 1)))) else (some 0)

def m_r18_listed_L1 (N : Nat) (p0_g : ((List (List Bool)))) (p1_l : (List Int)) : Nat → Int → Option Int
  | 0, _ => none
  | n_1 + 1, i_4 => if (decide (i_4 < (p1_l.length : Int))) = true then ((at? p1_l i_4).bind fun e_22 => if (decide (e_22 < 0)) = true then (m_r18_listed_J1 i_4 (m_r18_listed_L1 N p0_g p1_l n_1) true) else ((m_r15_Graph_Len p0_g).bind fun r_26 => m_r18_listed_J1 i_4 (m_r18_listed_L1 N p0_g p1_l n_1) (decide (r_26 ≤ e_22)))) else (m_r18_listed_L2 N p1_l N 0)

def m_r18_listed (N : Nat) (p0_g : ((List (List Bool)))) (p1_l : (List Int)) : Option Int :=
  m_r18_listed_L1 N p0_g p1_l N 0

set_option maxRecDepth 100000 in
set_option maxHeartbeats 2000000 in
theorem c_r18_listed (N : Nat) (col : Col) (w0 : World) (qc0 : Nat) (qc0_1 : Nat) (hqqc0 : qc0 ≠ 0) (hqqc0_1 : qc0_1 ≠ 0) (g0 : Nat) (p0_g : ((List (List Bool)))) (a0_2 : Option Addr) (cap0_2 : Nat) (a1 : Option Addr) (cap1 : Nat) (p1_l : (List Int)) (h0_2 : Own (Rep.row 4 Rep.bool) 26 qc0_1 col w0 a0_2 cap0_2 p0_g) (hb0 : Box 102 qc0 col w0 g0 #[(.slice a0_2 p0_g.length cap0_2)]) (h1 : Sl (Rep.int .i64) col w0 a1 cap1 p1_l) (r : Int) (hm : m_r18_listed N p0_g p1_l = some r) :
    Calls Try.prog 77 #[(.pointer (some ⟨g0, 0, none⟩)), (.slice a1 p1_l.length cap1)] w0 (fun e w' => e = .returned ((.int .i64 r)) ∧ Below w0.heap.size w0 w') := by
  refine calls_of1 4 (m := 42) (args := [(.pointer (some ⟨g0, 0, none⟩)), (.slice a1 p1_l.length cap1)]) Try.func77 rfl rfl rfl rfl rfl ?_
  rw [m_r18_listed.eq_1] at hm
  have hst := St.start col w0
  replace hb0 := hb0.start0 hqqc0
  replace h0_2 := h0_2.start0 hqqc0_1
  replace h1 := h1.keep (Stay.start col w0)
  refine wseq ?_
  refine wregion ?_
  refine lv (v := (.int .i64 0)) rfl rfl (r_assign rfl) ?_
  refine lnil ?_
  refine wseq ?_
  refine wseq ?_
  refine wregion ?_
  refine lv (v := (.pointer (some ⟨g0, 0, none⟩))) rfl rfl (r_move rfl) ?_
  refine lv (v := (.bool false)) rfl rfl (r_eqlP1 ⟨_, Try.underlying40⟩ rfl rfl) ?_
  refine lnil ?_
  refine wcondF rfl ?_
  refine wskip ?_
  refine wseq ?_
  refine wseq ?_
  refine wregion ?_
  refine lv (v := (.int .i64 0)) rfl rfl (r_assign rfl) ?_
  refine lnil ?_
  refine wblock ?_
  refine wloop (fun n f w_2 => ∃ (col_3 : Col) (i_4 : Int) (n_1 : Nat), n_1 = n ∧ m_r18_listed_L1 N p0_g p1_l n_1 i_4 = some r ∧ St w0 (col0 col) col_3 w_2 ∧ Own (Rep.row 4 Rep.bool) 26 999 col_3 w_2 a0_2 cap0_2 p0_g ∧ Box 102 999 col_3 w_2 g0 #[(.slice a0_2 p0_g.length cap0_2)] ∧ Sl (Rep.int .i64) col_3 w_2 a1 cap1 p1_l ∧ f 0 = (.pointer (some ⟨g0, 0, none⟩)) ∧ f 1 = (.slice a1 p1_l.length cap1) ∧ f 5 = (.int .i64 i_4) ∧ f 1000000 = (enc [])) N ⟨(col0 col), 0, N, rfl, hm, hst, h0_2, hb0, h1, rfl, rfl, rfl, rfl⟩ ?_
  clear hm; intro n f w_2 hI
  obtain ⟨col_3, i_4, n_1, hn, hm, hst, h0_2, hb0, h1, hs0, hs1, hs5, hs1000000⟩ := hI
  subst hn
  refine .ld (d := 0) (v := (.pointer (some ⟨g0, 0, none⟩))) hs0 ?_
  refine .ld (d := 1) (v := (.slice a1 p1_l.length cap1)) hs1 ?_
  refine .ld (d := 5) (v := (.int .i64 i_4)) hs5 ?_
  refine .ld (d := 1000000) (v := (enc [])) hs1000000 ?_
  clear hs0 hs1 hs5 hs1000000
  cases n_1 with
  | zero => rw [m_r18_listed_L1.eq_1] at hm; cases hm
  | succ n_1 =>
    rw [m_r18_listed_L1.eq_2] at hm
    refine wseq ?_
    refine wseq ?_
    refine wregion ?_
    refine lv (v := (.int .i64 i_4)) rfl rfl (r_move rfl) ?_
    refine lv (v := (.slice a1 p1_l.length cap1)) rfl rfl (r_move rfl) ?_
    refine lv (v := (.int .i64 (p1_l.length : Int))) rfl rfl (r_len Try.underlying22 rfl) ?_
    refine lv (v := (.bool (decide (i_4 < (p1_l.length : Int))))) rfl rfl (r_lss i_4 (p1_l.length : Int) rfl rfl) ?_
    refine lnil ?_
    refine wcond (decide (i_4 < (p1_l.length : Int))) rfl (fun hb => ?_) (fun hb => ?_)
    · rw [if_pos hb] at hm
      clear hb
      refine wskip ?_
      refine wseq ?_
      refine wblock ?_
      refine wseq ?_
      refine Wp.cut (fun f w_19 => ∃ (col_20 : Col) (v_21 : Bool), m_r18_listed_J1 i_4 (m_r18_listed_L1 N p0_g p1_l n_1) v_21 = some r ∧ St w0 (col0 col) col_20 w_19 ∧ Own (Rep.row 4 Rep.bool) 26 999 col_20 w_19 a0_2 cap0_2 p0_g ∧ Box 102 999 col_20 w_19 g0 #[(.slice a0_2 p0_g.length cap0_2)] ∧ Sl (Rep.int .i64) col_20 w_19 a1 cap1 p1_l ∧ f 0 = (.pointer (some ⟨g0, 0, none⟩)) ∧ f 1 = (.slice a1 p1_l.length cap1) ∧ f 28 = (.bool v_21) ∧ f 5 = (.int .i64 i_4) ∧ f 1000000 = (enc [])) ?_ ?_
      · intro f w_19 hJ
        obtain ⟨col_20, v_21, hm, hst, h0_2, hb0, h1, hs0, hs1, hs28, hs5, hs1000000⟩ := hJ
        rw [m_r18_listed_J1.eq_1] at hm
        refine .ld (d := 0) (v := (.pointer (some ⟨g0, 0, none⟩))) hs0 ?_
        refine .ld (d := 1) (v := (.slice a1 p1_l.length cap1)) hs1 ?_
        refine .ld (d := 28) (v := (.bool v_21)) hs28 ?_
        refine .ld (d := 5) (v := (.int .i64 i_4)) hs5 ?_
        refine .ld (d := 1000000) (v := (enc [])) hs1000000 ?_
        clear hs0 hs1 hs28 hs5 hs1000000
        refine wcond (v_21) rfl (fun hb => ?_) (fun hb => ?_)
        · rw [if_pos hb] at hm
          clear hb
          refine wseq ?_
          refine wregion ?_
          refine lv (v := (.int .i64 3)) rfl rfl (r_assign rfl) ?_
          refine lnil ?_
          refine wret ?_
          cases hm
          exact ⟨rfl, rfl, hst.below⟩
        · rw [if_neg (by rw [hb]; decide)] at hm
          clear hb
          refine wskip ?_
          refine wregion ?_
          refine lv (v := (.int .i64 i_4)) rfl rfl (r_move rfl) ?_
          refine lv (v := (.int .i64 (IntKind.i64.wrap (i_4 + 1)))) rfl rfl (r_add i_4 1 rfl rfl) ?_
          refine lv (v := (.int .i64 (IntKind.i64.wrap (i_4 + 1)))) rfl rfl (r_assign rfl) ?_
          refine lnil ?_
          exact ⟨n_1, by omega, ⟨col_20, (IntKind.i64.wrap (i_4 + 1)), n_1, rfl, hm, hst, h0_2, hb0, h1, rfl, rfl, rfl, rfl⟩⟩
      · refine wquiet (col := col_3) (by kernel_rfl) (by kernel_rfl) ?_
        refine qv (v := (.slice a1 p1_l.length cap1)) rfl (fun _ hC => r_move rfl) ?_
        refine qv (v := (.int .i64 i_4)) rfl (fun _ hC => r_move rfl) ?_
        obtain ⟨e_22, hj_23, hm⟩ := bind_some hm
        refine qv (v := (sptr a1 (Int.toNat i_4 * 1))) rfl (fun _ hC => r_idx Try.underlying22 Try.sizeOf3 rfl rfl (at?_some hj_23).1 (at?_some hj_23).2.1 (h1.addr hj_23)) ?_
        refine qv (v := (.int .i64 e_22)) rfl (fun _ hC => r_ld Try.isAgg3 rfl ((h1.gr (Grow.of_below (col := col_3) hC.below)).atInt hj_23)) ?_
        refine qv (v := (.bool (decide (e_22 < 0)))) rfl (fun _ hC => r_lss e_22 0 rfl rfl) ?_
        refine qv (v := (.bool (decide (e_22 < 0)))) rfl (fun _ hC => r_move rfl) ?_
        by_cases hg_24 : (decide (e_22 < 0)) = true
        · rw [if_pos hg_24] at hm
          refine qp (b := decide (e_22 < 0)) 20 rfl rfl rfl rfl (by rw [hg_24]; rfl) ?_
          refine qp (b := decide (e_22 < 0)) 20 rfl rfl rfl rfl (by rw [hg_24]; rfl) ?_
          refine qp (b := decide (e_22 < 0)) 20 rfl rfl rfl rfl (by rw [hg_24]; rfl) ?_
          refine qp (b := decide (e_22 < 0)) 20 rfl rfl rfl rfl (by rw [hg_24]; rfl) ?_
          refine qp (b := decide (e_22 < 0)) 20 rfl rfl rfl rfl (by rw [hg_24]; rfl) ?_
          refine qp (b := decide (e_22 < 0)) 20 rfl rfl rfl rfl (by rw [hg_24]; rfl) ?_
          refine qp (b := decide (e_22 < 0)) 20 rfl rfl rfl rfl (by rw [hg_24]; rfl) ?_
          refine qv (v := (.bool true)) rfl (fun _ hC => r_pickT (congrArg Value.bool hg_24) rfl) ?_
          refine qnil ?_
          intro w_25 hC
          replace hC : Grow col_3 w_2 col_3 w_25 := .of_below hC.below
          replace h0_2 := h0_2.gr hC
          replace h1 := h1.gr hC
          replace hb0 := hb0.gr hC
          replace hst := hst.grow hC
          exact ⟨col_3, true, hm, hst, h0_2, hb0, h1, rfl, rfl, rfl, rfl, rfl⟩
        · rw [if_neg hg_24] at hm
          replace hg_24 := Bool.eq_false_iff.2 hg_24
          refine qg (b := decide (e_22 < 0)) 20 rfl rfl rfl (by rw [hg_24]; rfl) ?_
          refine qv (v := (.slice a1 p1_l.length cap1)) rfl (fun _ hC => r_move rfl) ?_
          refine qg (b := decide (e_22 < 0)) 20 rfl rfl rfl (by rw [hg_24]; rfl) ?_
          refine qv (v := (.int .i64 i_4)) rfl (fun _ hC => r_move rfl) ?_
          refine qg (b := decide (e_22 < 0)) 20 rfl rfl rfl (by rw [hg_24]; rfl) ?_
          refine qv (v := (sptr a1 (Int.toNat i_4 * 1))) rfl (fun _ hC => r_idx Try.underlying22 Try.sizeOf3 rfl rfl (at?_some hj_23).1 (at?_some hj_23).2.1 (h1.addr hj_23)) ?_
          refine qg (b := decide (e_22 < 0)) 20 rfl rfl rfl (by rw [hg_24]; rfl) ?_
          refine qv (v := (.int .i64 e_22)) rfl (fun _ hC => r_ld Try.isAgg3 rfl ((h1.gr (Grow.of_below (col := col_3) hC.below)).atInt hj_23)) ?_
          refine qg (b := decide (e_22 < 0)) 20 rfl rfl rfl (by rw [hg_24]; rfl) ?_
          refine qv (v := (.pointer (some ⟨g0, 0, none⟩))) rfl (fun _ hC => r_move rfl) ?_
          refine qg (b := decide (e_22 < 0)) 20 rfl rfl rfl (by rw [hg_24]; rfl) ?_
          obtain ⟨r_26, hr_27, hm⟩ := bind_some hm
          refine qc (v := (.int .i64 r_26)) rfl (fun _ hC => ⟨_, _, r_call1 Try.call19 rfl, (c_r15_Graph_Len col_3 _ 999 999 (by decide) (by decide) g0 p0_g a0_2 cap0_2 (h0_2.gr (Grow.of_below (col := col_3) hC.below)) (hb0.gr (Grow.of_below (col := col_3) hC.below)) r_26 hr_27).mono fun _ _ h => ⟨h.1, hC.trans (.of_below h.2)⟩⟩) ?_
          refine qg (b := decide (e_22 < 0)) 20 rfl rfl rfl (by rw [hg_24]; rfl) ?_
          refine qv (v := (.bool (decide (r_26 ≤ e_22)))) rfl (fun _ hC => r_geq e_22 r_26 rfl rfl) ?_
          refine qv (v := (.bool (decide (r_26 ≤ e_22)))) rfl (fun _ hC => r_pickF (congrArg Value.bool hg_24) rfl) ?_
          refine qnil ?_
          intro w_28 hC
          replace hC : Grow col_3 w_2 col_3 w_28 := .of_below hC.below
          replace h0_2 := h0_2.gr hC
          replace h1 := h1.gr hC
          replace hb0 := hb0.gr hC
          replace hst := hst.grow hC
          exact ⟨col_3, (decide (r_26 ≤ e_22)), hm, hst, h0_2, hb0, h1, rfl, rfl, rfl, rfl, rfl⟩
    · rw [if_neg (by rw [hb]; decide)] at hm
      clear hb
      refine wexit (inB_hit ?_)
      refine wseq ?_
      refine wseq ?_
      refine wregion ?_
      refine lv (v := (.int .i64 0)) rfl rfl (r_assign rfl) ?_
      refine lnil ?_
      refine wblock ?_
      refine wloop (fun n f w_30 => ∃ (col_31 : Col) (i_32 : Int) (n_29 : Nat), n_29 = n ∧ m_r18_listed_L2 N p1_l n_29 i_32 = some r ∧ St w0 (col0 col) col_31 w_30 ∧ Sl (Rep.int .i64) col_31 w_30 a1 cap1 p1_l ∧ Own (Rep.row 4 Rep.bool) 26 999 col_31 w_30 a0_2 cap0_2 p0_g ∧ Box 102 999 col_31 w_30 g0 #[(.slice a0_2 p0_g.length cap0_2)] ∧ f 1 = (.slice a1 p1_l.length cap1) ∧ f 6 = (.int .i64 i_32) ∧ f 1000000 = (enc [])) N ⟨col_3, 0, N, rfl, hm, hst, h1, h0_2, hb0, rfl, rfl, rfl⟩ ?_
      clear hm; intro n f w_30 hI
      obtain ⟨col_31, i_32, n_29, hn, hm, hst, h1, h0_2, hb0, hs1, hs6, hs1000000⟩ := hI
      subst hn
      refine .ld (d := 1) (v := (.slice a1 p1_l.length cap1)) hs1 ?_
      refine .ld (d := 6) (v := (.int .i64 i_32)) hs6 ?_
      refine .ld (d := 1000000) (v := (enc [])) hs1000000 ?_
      clear hs1 hs6 hs1000000
      cases n_29 with
      | zero => rw [m_r18_listed_L2.eq_1] at hm; cases hm
      | succ n_29 =>
        rw [m_r18_listed_L2.eq_2] at hm
        refine wseq ?_
        refine wseq ?_
        refine wregion ?_
        refine lv (v := (.int .i64 i_32)) rfl rfl (r_move rfl) ?_
        refine lv (v := (.slice a1 p1_l.length cap1)) rfl rfl (r_move rfl) ?_
        refine lv (v := (.int .i64 (p1_l.length : Int))) rfl rfl (r_len Try.underlying22 rfl) ?_
        refine lv (v := (.bool (decide (i_32 < (p1_l.length : Int))))) rfl rfl (r_lss i_32 (p1_l.length : Int) rfl rfl) ?_
        refine lnil ?_
        refine wcond (decide (i_32 < (p1_l.length : Int))) rfl (fun hb => ?_) (fun hb => ?_)
        · rw [if_pos hb] at hm
          clear hb
          refine wskip ?_
          refine wseq ?_
          refine wblock ?_
          refine wseq ?_
          refine wregion ?_
          refine lv (v := (.slice a1 p1_l.length cap1)) rfl rfl (r_move rfl) ?_
          refine lv (v := (.slice a1 p1_l.length cap1)) rfl rfl (r_move rfl) ?_
          refine lv (v := (.int .i64 i_32)) rfl rfl (r_move rfl) ?_
          obtain ⟨e_33, hj_34, hm⟩ := bind_some hm
          refine lv (v := (sptr a1 (Int.toNat i_32 * 1))) rfl rfl (r_idx Try.underlying22 Try.sizeOf3 rfl rfl (at?_some hj_34).1 (at?_some hj_34).2.1 (h1.addr hj_34)) ?_
          refine lv (v := (.int .i64 e_33)) rfl rfl (r_ld Try.isAgg3 rfl (h1.atInt hj_34)) ?_
          obtain ⟨r_35, hr_36, hm⟩ := bind_some hm
          refine lc rfl rfl (r_call2 Try.call83 rfl rfl) (c_r18_times N col_31 _ a1 cap1 p1_l e_33 h1 r_35 hr_36) ?_
          rintro _ w_37 ⟨rfl, hg_38⟩
          refine ⟨_, rfl, ?_⟩
          replace hg_38 : Grow col_31 w_30 col_31 w_37 := .of_below hg_38
          replace h1 := h1.gr hg_38
          replace h0_2 := h0_2.gr hg_38
          replace hb0 := hb0.gr hg_38
          replace hst := hst.grow hg_38
          refine lv (v := (.bool (decide (1 < r_35)))) rfl rfl (r_gtr r_35 1 rfl rfl) ?_
          refine lnil ?_
          refine wcond (decide (1 < r_35)) rfl (fun hb => ?_) (fun hb => ?_)
          · rw [if_pos hb] at hm
            clear hb
            refine wseq ?_
            refine wregion ?_
            refine lv (v := (.int .i64 40)) rfl rfl (r_assign rfl) ?_
            refine lnil ?_
            refine wret ?_
            cases hm
            exact ⟨rfl, rfl, hst.below⟩
          · rw [if_neg (by rw [hb]; decide)] at hm
            clear hb
            refine wskip ?_
            refine wregion ?_
            refine lv (v := (.int .i64 i_32)) rfl rfl (r_move rfl) ?_
            refine lv (v := (.int .i64 (IntKind.i64.wrap (i_32 + 1)))) rfl rfl (r_add i_32 1 rfl rfl) ?_
            refine lv (v := (.int .i64 (IntKind.i64.wrap (i_32 + 1)))) rfl rfl (r_assign rfl) ?_
            refine lnil ?_
            exact ⟨n_29, by omega, ⟨col_31, (IntKind.i64.wrap (i_32 + 1)), n_29, rfl, hm, hst, h1, h0_2, hb0, rfl, rfl, rfl⟩⟩
        · rw [if_neg (by rw [hb]; decide)] at hm
          clear hb
          refine wexit (inB_hit ?_)
          refine wseq ?_
          refine wregion ?_
          refine lv (v := (.int .i64 0)) rfl rfl (r_assign rfl) ?_
          refine lnil ?_
          refine wret ?_
          cases hm
          exact ⟨rfl, rfl, hst.below⟩




def m_r15_Graph_Twin_L1 (N : Nat) (p0_g : ((List (List Bool)))) : Nat → Int → Option (Option ((List (List Bool))))
  | 0, _ => none
  | n_15 + 1, a_18 => if (decide (a_18 < (p0_g.length : Int))) = true then none else (some none)

def m_r15_Graph_Twin_L2 (N : Nat) (p0_g : ((List (List Bool)))) : Nat → (List (List Bool)) → Int → Option (Option ((List (List Bool))))
  | 0, _, _ => none
  | n_19 + 1, v_22, a_26 => if (decide (a_26 < (p0_g.length : Int))) = true then ((at? v_22 a_26).bind fun e_27 => (at? p0_g a_26).bind fun e_36 => (some (e_36.take e_27.length ++ e_27.drop e_36.length)).bind fun xs_49 => (m_r15_Graph_Twin_L2 N p0_g n_19) (v_22.set (Int.toNat a_26) xs_49) (IntKind.i64.wrap (a_26 + 1))) else (some (some v_22))

def m_r15_Graph_Twin (N : Nat) (p0_g : ((List (List Bool)))) : Option (Option ((List (List Bool)))) :=
  (m_r15_New N (p0_g.length : Int)).bind fun r_1 => optC (r_1.1) (m_r15_Graph_Twin_L1 N p0_g N 0) (fun t_8 => m_r15_Graph_Twin_L2 N p0_g N t_8 0)

set_option maxRecDepth 100000 in
set_option maxHeartbeats 2000000 in
theorem c_r15_Graph_Twin (N : Nat) (c1 : Nat) (c2 : Nat) (col : Col) (w0 : World) (qc0 : Nat) (qc0_1 : Nat) (hqqc0 : qc0 ≠ 0) (hqqc0_1 : qc0_1 ≠ 0) (g0 : Nat) (p0_g : ((List (List Bool)))) (a0_2 : Option Addr) (cap0_2 : Nat) (h0_2 : Own (Rep.row 4 Rep.bool) 26 qc0_1 col w0 a0_2 cap0_2 p0_g) (hb0 : Box 102 qc0 col w0 g0 #[(.slice a0_2 p0_g.length cap0_2)]) (r : (Option ((List (List Bool))))) (hm : m_r15_Graph_Twin N p0_g = some r) :
    Calls Try.prog 78 #[(.pointer (some ⟨g0, 0, none⟩))] w0 (fun e w' => ∃ (col' : Col) (rv1 : Value), e = .returned (rv1) ∧ Grow col w0 col' w' ∧ optP rv1 r (fun (d : ((List (List Bool)))) => ∃ (g9 : Nat) (a9 : Option Addr) (cap9 : Nat), rv1 = .pointer (some ⟨g9, 0, none⟩) ∧ Box 102 c1 col' w' g9 #[(.slice a9 d.length cap9)] ∧ Own (Rep.row 4 Rep.bool) 26 c2 col' w' a9 cap9 d)) := by
  refine calls_of1 2 (m := 40) (args := [(.pointer (some ⟨g0, 0, none⟩))]) Try.func78 rfl rfl rfl rfl rfl ?_
  rw [m_r15_Graph_Twin.eq_1] at hm
  have hst := St.start col w0
  replace hb0 := hb0.start0 hqqc0
  replace h0_2 := h0_2.start0 hqqc0_1
  refine wseq ?_
  refine wregion ?_
  refine lv (v := (.pointer none)) rfl rfl (r_assign rfl) ?_
  refine lnil ?_
  refine wseq ?_
  refine wregion ?_
  refine lv (v := (.pointer (some ⟨g0, 0, none⟩))) rfl rfl (r_move rfl) ?_
  refine lv (v := (.pointer (some ⟨g0, 0, none⟩))) rfl rfl (r_nilCheck rfl) ?_
  refine lv (v := (.pointer ((some (⟨g0, 0, none⟩ : Addr)).map (·.add 0)))) rfl rfl (r_fieldAddr (sz := 1) (off := 0) Try.underlying102 rfl Try.sizeOf100 (by decide) rfl rfl ⟨_, _, rfl⟩) ?_
  refine lv (v := (.slice a0_2 p0_g.length cap0_2)) rfl rfl (r_ld Try.isAgg100 rfl ((hb0.atN).nth (q := 0) (v := (.slice a0_2 p0_g.length cap0_2)) rfl)) ?_
  refine lv (v := (.int .i64 (p0_g.length : Int))) rfl rfl (r_len Try.underlying100 rfl) ?_
  obtain ⟨r_1, hr_2, hm⟩ := bind_some hm
  refine lc rfl rfl (r_call1 Try.call66 rfl) (c_r15_New N 1 2 (col0 col) _ (p0_g.length : Int) r_1 hr_2) ?_
  rintro _ w_5 ⟨col_7, rv_3, rfl, hg_6, rh_4⟩
  refine ⟨_, rfl, ?_⟩
  replace h0_2 := h0_2.gr hg_6
  replace hb0 := hb0.gr hg_6
  replace hst := hst.grow hg_6
  cases hx_9 : r_1.1 with
  | none =>
    rw [hx_9] at hm rh_4
    replace hm := optC_none hm
    obtain rfl := optP_none rh_4
    clear rh_4
    refine lv (v := (.tuple #[(.pointer none), (.int .i64 r_1.2)])) rfl rfl (r_move rfl) ?_
    refine lv (v := (.pointer none)) rfl rfl (r_extract rfl rfl) ?_
    refine lv (v := (.int .i64 r_1.2)) rfl rfl (r_extract rfl rfl) ?_
    refine lv (v := (.pointer none)) rfl rfl (r_assign rfl) ?_
    refine lv (v := (.int .i64 r_1.2)) rfl rfl (r_assign rfl) ?_
    refine lnil ?_
    refine wseq ?_
    refine wseq ?_
    refine wregion ?_
    refine lv (v := (.int .i64 0)) rfl rfl (r_assign rfl) ?_
    refine lnil ?_
    refine wblock ?_
    refine wloop (fun n f w_16 => ∃ (col_17 : Col) (a_18 : Int) (n_15 : Nat), n_15 = n ∧ m_r15_Graph_Twin_L1 N p0_g n_15 a_18 = some r ∧ St w0 (col0 col) col_17 w_16 ∧ Own (Rep.row 4 Rep.bool) 26 999 col_17 w_16 a0_2 cap0_2 p0_g ∧ Box 102 999 col_17 w_16 g0 #[(.slice a0_2 p0_g.length cap0_2)] ∧ f 0 = (.pointer (some ⟨g0, 0, none⟩)) ∧ f 3 = (.pointer none) ∧ f 5 = (.int .i64 a_18) ∧ f 1000000 = (enc [])) N ⟨col_7, 0, N, rfl, hm, hst, h0_2, hb0, rfl, rfl, rfl, rfl⟩ ?_
    clear hm; intro n f w_16 hI
    obtain ⟨col_17, a_18, n_15, hn, hm, hst, h0_2, hb0, hs0, hs3, hs5, hs1000000⟩ := hI
    subst hn
    refine .ld (d := 0) (v := (.pointer (some ⟨g0, 0, none⟩))) hs0 ?_
    refine .ld (d := 3) (v := (.pointer none)) hs3 ?_
    refine .ld (d := 5) (v := (.int .i64 a_18)) hs5 ?_
    refine .ld (d := 1000000) (v := (enc [])) hs1000000 ?_
    clear hs0 hs3 hs5 hs1000000
    cases n_15 with
    | zero => rw [m_r15_Graph_Twin_L1.eq_1] at hm; cases hm
    | succ n_15 =>
      rw [m_r15_Graph_Twin_L1.eq_2] at hm
      refine wseq ?_
      refine wseq ?_
      refine wregion ?_
      refine lv (v := (.int .i64 a_18)) rfl rfl (r_move rfl) ?_
      refine lv (v := (.pointer (some ⟨g0, 0, none⟩))) rfl rfl (r_move rfl) ?_
      refine lv (v := (.pointer (some ⟨g0, 0, none⟩))) rfl rfl (r_nilCheck rfl) ?_
      refine lv (v := (.pointer ((some (⟨g0, 0, none⟩ : Addr)).map (·.add 0)))) rfl rfl (r_fieldAddr (sz := 1) (off := 0) Try.underlying102 rfl Try.sizeOf100 (by decide) rfl rfl ⟨_, _, rfl⟩) ?_
      refine lv (v := (.slice a0_2 p0_g.length cap0_2)) rfl rfl (r_ld Try.isAgg100 rfl ((hb0.atN).nth (q := 0) (v := (.slice a0_2 p0_g.length cap0_2)) rfl)) ?_
      refine lv (v := (.int .i64 (p0_g.length : Int))) rfl rfl (r_len Try.underlying100 rfl) ?_
      refine lv (v := (.bool (decide (a_18 < (p0_g.length : Int))))) rfl rfl (r_lss a_18 (p0_g.length : Int) rfl rfl) ?_
      refine lnil ?_
      refine wcond (decide (a_18 < (p0_g.length : Int))) rfl (fun hb => ?_) (fun hb => ?_)
      · rw [if_pos hb] at hm
        clear hb
        refine wskip ?_
        refine wseq ?_
        refine wblock ?_
        refine wmix (col := col_17) [(0, 1), (1, 1), (2, 1), (3, 0), (4, 1), (5, 1), (6, 0), (7, 1), (8, 1), (9, 1), (10, 0), (11, 1), (12, 1), (13, 0), (14, 2)] (by kernel_rfl) (by kernel_rfl) ?_
        refine xu (v := (.pointer none)) rfl rfl (fun _ => r_move rfl) ?_
        cases hm
      · rw [if_neg (by rw [hb]; decide)] at hm
        clear hb
        refine wexit (inB_hit ?_)
        refine wseq ?_
        refine wregion ?_
        refine lv (v := (.pointer none)) rfl rfl (r_move rfl) ?_
        refine lv (v := (.pointer none)) rfl rfl (r_assign rfl) ?_
        refine lnil ?_
        refine wret ?_
        cases hm
        exact ⟨rfl, colF w0.heap.size col col_17 (fun n => 0), (.pointer none), rfl, hst.fin (fun n => 0), optP_no⟩
  | some t_8 =>
    rw [hx_9] at hm rh_4
    replace hm := optC_some hm
    obtain ⟨g_10, a_12, cap_13, rfl, hB_11, hO_14⟩ := optP_some rh_4
    refine lv (v := (.tuple #[(.pointer (some ⟨g_10, 0, none⟩)), (.int .i64 r_1.2)])) rfl rfl (r_move rfl) ?_
    refine lv (v := (.pointer (some ⟨g_10, 0, none⟩))) rfl rfl (r_extract rfl rfl) ?_
    refine lv (v := (.int .i64 r_1.2)) rfl rfl (r_extract rfl rfl) ?_
    refine lv (v := (.pointer (some ⟨g_10, 0, none⟩))) rfl rfl (r_assign rfl) ?_
    refine lv (v := (.int .i64 r_1.2)) rfl rfl (r_assign rfl) ?_
    refine lnil ?_
    refine wseq ?_
    refine wseq ?_
    refine wregion ?_
    refine lv (v := (.int .i64 0)) rfl rfl (r_assign rfl) ?_
    refine lnil ?_
    refine wblock ?_
    refine wloop (fun n f w_20 => ∃ (col_21 : Col) (a_23 : Option Addr) (cap_24 : Nat) (v_22 : List (List Bool)) (a_26 : Int) (n_19 : Nat), n_19 = n ∧ m_r15_Graph_Twin_L2 N p0_g n_19 v_22 a_26 = some r ∧ St w0 (col0 col) col_21 w_20 ∧ Own (Rep.row 4 Rep.bool) 26 999 col_21 w_20 a0_2 cap0_2 p0_g ∧ Box 102 999 col_21 w_20 g0 #[(.slice a0_2 p0_g.length cap0_2)] ∧ Own (Rep.row 4 Rep.bool) 26 2 col_21 w_20 a_23 cap_24 v_22 ∧ Box 102 1 col_21 w_20 g_10 #[(.slice a_23 v_22.length cap_24)] ∧ f 0 = (.pointer (some ⟨g0, 0, none⟩)) ∧ f 3 = (.pointer (some ⟨g_10, 0, none⟩)) ∧ f 5 = (.int .i64 a_26) ∧ f 1000000 = (enc [])) N ⟨col_7, a_12, cap_13, t_8, 0, N, rfl, hm, hst, h0_2, hb0, hO_14, hB_11, rfl, rfl, rfl, rfl⟩ ?_
    clear hm; intro n f w_20 hI
    obtain ⟨col_21, a_23, cap_24, v_22, a_26, n_19, hn, hm, hst, h0_2, hb0, h_25, hB_11, hs0, hs3, hs5, hs1000000⟩ := hI
    subst hn
    refine .ld (d := 0) (v := (.pointer (some ⟨g0, 0, none⟩))) hs0 ?_
    refine .ld (d := 3) (v := (.pointer (some ⟨g_10, 0, none⟩))) hs3 ?_
    refine .ld (d := 5) (v := (.int .i64 a_26)) hs5 ?_
    refine .ld (d := 1000000) (v := (enc [])) hs1000000 ?_
    clear hs0 hs3 hs5 hs1000000
    cases n_19 with
    | zero => rw [m_r15_Graph_Twin_L2.eq_1] at hm; cases hm
    | succ n_19 =>
      rw [m_r15_Graph_Twin_L2.eq_2] at hm
      refine wseq ?_
      refine wseq ?_
      refine wregion ?_
      refine lv (v := (.int .i64 a_26)) rfl rfl (r_move rfl) ?_
      refine lv (v := (.pointer (some ⟨g0, 0, none⟩))) rfl rfl (r_move rfl) ?_
      refine lv (v := (.pointer (some ⟨g0, 0, none⟩))) rfl rfl (r_nilCheck rfl) ?_
      refine lv (v := (.pointer ((some (⟨g0, 0, none⟩ : Addr)).map (·.add 0)))) rfl rfl (r_fieldAddr (sz := 1) (off := 0) Try.underlying102 rfl Try.sizeOf100 (by decide) rfl rfl ⟨_, _, rfl⟩) ?_
      refine lv (v := (.slice a0_2 p0_g.length cap0_2)) rfl rfl (r_ld Try.isAgg100 rfl ((hb0.atN).nth (q := 0) (v := (.slice a0_2 p0_g.length cap0_2)) rfl)) ?_
      refine lv (v := (.int .i64 (p0_g.length : Int))) rfl rfl (r_len Try.underlying100 rfl) ?_
      refine lv (v := (.bool (decide (a_26 < (p0_g.length : Int))))) rfl rfl (r_lss a_26 (p0_g.length : Int) rfl rfl) ?_
      refine lnil ?_
      refine wcond (decide (a_26 < (p0_g.length : Int))) rfl (fun hb => ?_) (fun hb => ?_)
      · rw [if_pos hb] at hm
        clear hb
        refine wskip ?_
        refine wseq ?_
        refine wblock ?_
        refine wmix (col := col_21) [(0, 1), (1, 1), (2, 1), (3, 0), (4, 1), (5, 1), (6, 0), (7, 1), (8, 1), (9, 1), (10, 0), (11, 1), (12, 1), (13, 0), (14, 2)] (by kernel_rfl) (by kernel_rfl) ?_
        refine xu (v := (.pointer (some ⟨g_10, 0, none⟩))) rfl rfl (fun _ => r_move rfl) ?_
        refine xu (v := (.pointer (some ⟨g_10, 0, none⟩))) rfl rfl (fun _ => r_nilCheck rfl) ?_
        refine xu (v := (.pointer ((some (⟨g_10, 0, none⟩ : Addr)).map (·.add 0)))) rfl rfl (fun _ => r_fieldAddr (sz := 1) (off := 0) Try.underlying102 rfl Try.sizeOf100 (by decide) rfl rfl ⟨_, _, rfl⟩) ?_
        refine xv (v := (.slice a_23 v_22.length cap_24)) rfl rfl (fun _ hC => r_ld Try.isAgg100 rfl (((hB_11.atN).nth (q := 0) (v := (.slice a_23 v_22.length cap_24)) rfl).gr (Grow.of_below (col := col_21) hC.below))) ?_
        refine xu (v := (.int .i64 a_26)) rfl rfl (fun _ => r_move rfl) ?_
        obtain ⟨e_27, hj_28, hm⟩ := bind_some hm
        refine xu (v := (sptr a_23 (Int.toNat a_26 * 1))) rfl rfl (fun _ => r_idx Try.underlying100 Try.sizeOf26 rfl rfl (at?_some hj_28).1 (at?_some hj_28).2.1 (h_25.addr hj_28)) ?_
        obtain ⟨_, col_32, hk_30, hH_31, hs_29⟩ := h_25.open_ 3 (by decide) hj_28
        replace h0_2 := h0_2.kpp hk_30 rfl rfl
        replace hb0 := hb0.kpp hk_30 rfl
        replace hB_11 := hB_11.kpp hk_30 rfl
        replace hst := hst.kpp hk_30 rfl rfl
        obtain ⟨a_33, cap_34, rfl, h_35⟩ := hs_29.row
        clear h_25
        replace hH_31 : Hole (Rep.row 4 Rep.bool) 26 2 col_32 w_20 a_23 cap_24 v_22 (Int.toNat a_26) [(.slice a_33 e_27.length cap_34)] := hH_31
        refine xv (v := (.slice a_33 e_27.length cap_34)) rfl rfl (fun _ hC => r_ld Try.isAgg26 rfl (hH_31.atN.one.gr (Grow.of_below (col := col_32) hC.below))) ?_
        refine xu (v := (.pointer (some ⟨g0, 0, none⟩))) rfl rfl (fun _ => r_move rfl) ?_
        refine xu (v := (.pointer (some ⟨g0, 0, none⟩))) rfl rfl (fun _ => r_nilCheck rfl) ?_
        refine xu (v := (.pointer ((some (⟨g0, 0, none⟩ : Addr)).map (·.add 0)))) rfl rfl (fun _ => r_fieldAddr (sz := 1) (off := 0) Try.underlying102 rfl Try.sizeOf100 (by decide) rfl rfl ⟨_, _, rfl⟩) ?_
        refine xv (v := (.slice a0_2 p0_g.length cap0_2)) rfl rfl (fun _ hC => r_ld Try.isAgg100 rfl (((hb0.atN).nth (q := 0) (v := (.slice a0_2 p0_g.length cap0_2)) rfl).gr (Grow.of_below (col := col_32) hC.below))) ?_
        refine xu (v := (.int .i64 a_26)) rfl rfl (fun _ => r_move rfl) ?_
        obtain ⟨e_36, hj_37, hm⟩ := bind_some hm
        refine xu (v := (sptr a0_2 (Int.toNat a_26 * 1))) rfl rfl (fun _ => r_idx Try.underlying100 Try.sizeOf26 rfl rfl (at?_some hj_37).1 (at?_some hj_37).2.1 (h0_2.addr hj_37)) ?_
        obtain ⟨_, hr_38, hA_39⟩ := h0_2.atN hj_37
        obtain ⟨a_40, cap_41, rfl, h_42⟩ := hr_38.row
        refine xv (v := (.slice a_40 e_36.length cap_41)) rfl rfl (fun _ hC => r_ld Try.isAgg26 rfl (hA_39.one.gr (Grow.of_below (col := col_32) hC.below))) ?_
        refine xe rfl rfl ?_
        intro w_43 hC0
        have hC : Grow col_32 w_20 col_32 w_43 := .of_below hC0.below
        replace h0_2 := h0_2.gr hC
        replace hH_31 := hH_31.gr hC
        replace h_35 := h_35.gr hC
        replace h_42 := h_42.gr hC
        replace hb0 := hb0.gr hC
        replace hB_11 := hB_11.gr hC
        replace hst := hst.grow hC
        obtain ⟨xs_49, hz_48, hm⟩ := bind_some hm
        have hz_48 : xs_49 = e_36.take e_27.length ++ e_27.drop e_36.length := (Option.some.inj hz_48).symm
        refine l_copyB h_35 h_42 rfl Try.underlying26 rfl rfl rfl ?_
        intro w_44 hk_45 hs_46 h_47
        rw [← hz_48] at h_47
        replace h0_2 := h0_2.kp hk_45 (by decide) (by decide)
        replace hH_31 := hH_31.kp hk_45 (by decide) (by decide)
        replace h_42 := h_42.kp hk_45 (by decide) (by decide)
        replace hb0 := hb0.kp hk_45 (by decide)
        replace hB_11 := hB_11.kp hk_45 (by decide)
        replace hst := hst.kp hk_45 hs_46 (by decide) (by decide)
        refine .ld (d := 30) (v := (.slice a_33 xs_49.length cap_34)) (congrArg (fun n => Value.slice a_33 n cap_34) (show e_27.length = xs_49.length by rw [hz_48, List.length_append, List.length_take, List.length_drop]; omega)) ?_
        replace hB_11 : Box 102 1 col_32 w_44 g_10 #[(.slice a_23 v_22.length cap_24)] := by rw []; exact hB_11
        replace hH_31 : Hole (Rep.row 4 Rep.bool) 26 2 col_32 w_44 a_23 cap_24 v_22 (Int.toNat a_26) [(.slice a_33 xs_49.length cap_34)] := by rw [← (show e_27.length = xs_49.length by rw [hz_48, List.length_append, List.length_take, List.length_drop]; omega)]; exact hH_31
        clear h_35
        refine lnil ⟨fun w' => Grow col_32 w_44 col_32 w', Grow.refl _ _, fun h => absurd h (by decide), ?_⟩
        have h_50 := hH_31.close h_47.has (by decide) (by decide)
        replace h0_2 := h0_2.recol 3 2 (by decide)
        replace hb0 := hb0.recol 3 2 (by decide)
        replace hB_11 := hB_11.recol 3 2 (by decide)
        replace hst := hst.recol 3 2 (by decide) (by decide)
        clear hH_31
        replace hB_11 : Box 102 1 (rcC 3 2 col_32) w_44 g_10 #[(.slice a_23 ((v_22.set (Int.toNat a_26) xs_49).length) cap_24)] := by rw [← (show v_22.length = (v_22.set (Int.toNat a_26) xs_49).length by simp only [List.length_set])]; exact hB_11
        refine xnil ?_
        intro w_51 hC
        replace hC : Grow (rcC 3 2 col_32) w_44 (rcC 3 2 col_32) w_51 := .of_below hC.below
        replace h0_2 := h0_2.gr hC
        replace h_50 := h_50.gr hC
        replace hb0 := hb0.gr hC
        replace hB_11 := hB_11.gr hC
        replace hst := hst.grow hC
        refine wregion ?_
        refine lv (v := (.int .i64 a_26)) rfl rfl (r_move rfl) ?_
        refine lv (v := (.int .i64 (IntKind.i64.wrap (a_26 + 1)))) rfl rfl (r_add a_26 1 rfl rfl) ?_
        refine lv (v := (.int .i64 (IntKind.i64.wrap (a_26 + 1)))) rfl rfl (r_assign rfl) ?_
        refine lnil ?_
        exact ⟨n_19, by omega, ⟨(rcC 3 2 col_32), a_23, cap_24, (v_22.set (Int.toNat a_26) xs_49), (IntKind.i64.wrap (a_26 + 1)), n_19, rfl, hm, hst, h0_2, hb0, h_50, hB_11, rfl, rfl, rfl, rfl⟩⟩
      · rw [if_neg (by rw [hb]; decide)] at hm
        clear hb
        refine wexit (inB_hit ?_)
        refine wseq ?_
        refine wregion ?_
        refine lv (v := (.pointer (some ⟨g_10, 0, none⟩))) rfl rfl (r_move rfl) ?_
        refine lv (v := (.pointer (some ⟨g_10, 0, none⟩))) rfl rfl (r_assign rfl) ?_
        refine lnil ?_
        refine wret ?_
        cases hm
        exact ⟨rfl, colF w0.heap.size col col_21 (fun n => bif Nat.beq n 1 then c1 else bif Nat.beq n 2 then c2 else 0), (.pointer (some ⟨g_10, 0, none⟩)), rfl, hst.fin (fun n => bif Nat.beq n 1 then c1 else bif Nat.beq n 2 then c2 else 0), optP_of ⟨g_10, a_23, cap_24, rfl, hst.finBox (G := (fun n => bif Nat.beq n 1 then c1 else bif Nat.beq n 2 then c2 else 0)) hB_11 (by decide) (by decide) rfl, hst.finOwn (g := (fun n => bif Nat.beq n 1 then c1 else bif Nat.beq n 2 then c2 else 0)) rfl h_25 (by decide) (by decide) rfl⟩⟩




def m_r15_Graph_Has_J1 (v_22 : Bool) : Option Bool :=
  some v_22

def m_r15_Graph_Has (p0_g : ((List (List Bool)))) (p1_a : Int) (p2_b : Int) : Option Bool :=
  (m_r15_Graph_point p0_g p1_a).bind fun r_1 => (m_r15_Graph_point p0_g p2_b).bind fun r_5 => if r_1 = true then (if r_5 = true then ((at? p0_g p1_a).bind fun e_25 => (at? e_25 p2_b).bind fun e_32 => m_r15_Graph_Has_J1 e_32) else (m_r15_Graph_Has_J1 false)) else (m_r15_Graph_Has_J1 false)

set_option maxRecDepth 100000 in
set_option maxHeartbeats 2000000 in
theorem c_r15_Graph_Has (col : Col) (w0 : World) (qc0 : Nat) (qc0_1 : Nat) (hqqc0 : qc0 ≠ 0) (hqqc0_1 : qc0_1 ≠ 0) (g0 : Nat) (p0_g : ((List (List Bool)))) (a0_2 : Option Addr) (cap0_2 : Nat) (p1_a : Int) (p2_b : Int) (h0_2 : Own (Rep.row 4 Rep.bool) 26 qc0_1 col w0 a0_2 cap0_2 p0_g) (hb0 : Box 102 qc0 col w0 g0 #[(.slice a0_2 p0_g.length cap0_2)]) (r : Bool) (hm : m_r15_Graph_Has p0_g p1_a p2_b = some r) :
    Calls Try.prog 96 #[(.pointer (some ⟨g0, 0, none⟩)), (.int .i64 p1_a), (.int .i64 p2_b)] w0 (fun e w' => e = .returned ((.bool r)) ∧ Below w0.heap.size w0 w') := by
  refine calls_of1 6 (m := 31) (args := [(.pointer (some ⟨g0, 0, none⟩)), (.int .i64 p1_a), (.int .i64 p2_b)]) Try.func96 rfl rfl rfl rfl rfl ?_
  rw [m_r15_Graph_Has.eq_1] at hm
  have hst := St.start col w0
  replace hb0 := hb0.start0 hqqc0
  replace h0_2 := h0_2.start0 hqqc0_1
  refine wseq ?_
  refine wregion ?_
  refine lv (v := (.bool false)) rfl rfl (r_assign rfl) ?_
  refine lnil ?_
  refine wseq ?_
  refine wregion ?_
  refine lv (v := (.pointer (some ⟨g0, 0, none⟩))) rfl rfl (r_move rfl) ?_
  refine lv (v := (.int .i64 p1_a)) rfl rfl (r_move rfl) ?_
  obtain ⟨r_1, hr_2, hm⟩ := bind_some hm
  refine lc rfl rfl (r_call2 Try.call94 rfl rfl) (c_r15_Graph_point (col0 col) _ 999 999 (by decide) (by decide) g0 p0_g a0_2 cap0_2 p1_a h0_2 hb0 r_1 hr_2) ?_
  rintro _ w_3 ⟨rfl, hg_4⟩
  refine ⟨_, rfl, ?_⟩
  replace hg_4 : Grow (col0 col) w0 (col0 col) w_3 := .of_below hg_4
  replace h0_2 := h0_2.gr hg_4
  replace hb0 := hb0.gr hg_4
  replace hst := hst.grow hg_4
  refine lv (v := (.bool r_1)) rfl rfl (r_assign rfl) ?_
  refine lnil ?_
  refine wseq ?_
  refine wregion ?_
  refine lv (v := (.pointer (some ⟨g0, 0, none⟩))) rfl rfl (r_move rfl) ?_
  refine lv (v := (.int .i64 p2_b)) rfl rfl (r_move rfl) ?_
  obtain ⟨r_5, hr_6, hm⟩ := bind_some hm
  refine lc rfl rfl (r_call2 Try.call94 rfl rfl) (c_r15_Graph_point (col0 col) _ 999 999 (by decide) (by decide) g0 p0_g a0_2 cap0_2 p2_b h0_2 hb0 r_5 hr_6) ?_
  rintro _ w_7 ⟨rfl, hg_8⟩
  refine ⟨_, rfl, ?_⟩
  replace hg_8 : Grow (col0 col) w_3 (col0 col) w_7 := .of_below hg_8
  replace h0_2 := h0_2.gr hg_8
  replace hb0 := hb0.gr hg_8
  replace hst := hst.grow hg_8
  refine lv (v := (.bool r_5)) rfl rfl (r_assign rfl) ?_
  refine lnil ?_
  refine wseq ?_
  refine Wp.cut (fun f w_20 => ∃ (col_21 : Col) (v_22 : Bool), m_r15_Graph_Has_J1 v_22 = some r ∧ St w0 (col0 col) col_21 w_20 ∧ Own (Rep.row 4 Rep.bool) 26 999 col_21 w_20 a0_2 cap0_2 p0_g ∧ Box 102 999 col_21 w_20 g0 #[(.slice a0_2 p0_g.length cap0_2)] ∧ f 6 = (.bool v_22) ∧ f 1000000 = (enc [])) ?_ ?_
  · intro f w_20 hJ
    obtain ⟨col_21, v_22, hm, hst, h0_2, hb0, hs6, hs1000000⟩ := hJ
    rw [m_r15_Graph_Has_J1.eq_1] at hm
    refine .ld (d := 6) (v := (.bool v_22)) hs6 ?_
    refine .ld (d := 1000000) (v := (enc [])) hs1000000 ?_
    clear hs6 hs1000000
    refine wret ?_
    cases hm
    exact ⟨rfl, rfl, hst.below⟩
  · refine wregion ?_
    refine lv (v := (.bool r_1)) rfl rfl (r_move rfl) ?_
    refine lv (v := (.bool r_1)) rfl rfl (r_move rfl) ?_
    by_cases hg_23 : r_1 = true
    · rw [if_pos hg_23] at hm
      refine lg (b := r_1) 16 rfl rfl rfl (by rw [hg_23]; rfl) ?_
      refine lv (v := (.bool r_5)) rfl rfl (r_move rfl) ?_
      refine lv (v := (.bool r_5)) rfl rfl (r_pickT (congrArg Value.bool hg_23) rfl) ?_
      refine lv (v := (.bool r_5)) rfl rfl (r_move rfl) ?_
      by_cases hg_24 : r_5 = true
      · rw [if_pos hg_24] at hm
        refine lg (b := r_5) 19 rfl rfl rfl (by rw [hg_24]; rfl) ?_
        refine lv (v := (.pointer (some ⟨g0, 0, none⟩))) rfl rfl (r_move rfl) ?_
        refine lg (b := r_5) 19 rfl rfl rfl (by rw [hg_24]; rfl) ?_
        refine lv (v := (.pointer (some ⟨g0, 0, none⟩))) rfl rfl (r_nilCheck rfl) ?_
        refine lg (b := r_5) 19 rfl rfl rfl (by rw [hg_24]; rfl) ?_
        refine lv (v := (.pointer ((some (⟨g0, 0, none⟩ : Addr)).map (·.add 0)))) rfl rfl (r_fieldAddr (sz := 1) (off := 0) Try.underlying102 rfl Try.sizeOf100 (by decide) rfl rfl ⟨_, _, rfl⟩) ?_
        refine lg (b := r_5) 19 rfl rfl rfl (by rw [hg_24]; rfl) ?_
        refine lv (v := (.slice a0_2 p0_g.length cap0_2)) rfl rfl (r_ld Try.isAgg100 rfl ((hb0.atN).nth (q := 0) (v := (.slice a0_2 p0_g.length cap0_2)) rfl)) ?_
        refine lg (b := r_5) 19 rfl rfl rfl (by rw [hg_24]; rfl) ?_
        refine lv (v := (.int .i64 p1_a)) rfl rfl (r_move rfl) ?_
        refine lg (b := r_5) 19 rfl rfl rfl (by rw [hg_24]; rfl) ?_
        obtain ⟨e_25, hj_26, hm⟩ := bind_some hm
        refine lv (v := (sptr a0_2 (Int.toNat p1_a * 1))) rfl rfl (r_idx Try.underlying100 Try.sizeOf26 rfl rfl (at?_some hj_26).1 (at?_some hj_26).2.1 (h0_2.addr hj_26)) ?_
        refine lg (b := r_5) 19 rfl rfl rfl (by rw [hg_24]; rfl) ?_
        obtain ⟨_, hr_27, hA_28⟩ := h0_2.atN hj_26
        obtain ⟨a_29, cap_30, rfl, h_31⟩ := hr_27.row
        refine lv (v := (.slice a_29 e_25.length cap_30)) rfl rfl (r_ld Try.isAgg26 rfl hA_28.one) ?_
        refine lg (b := r_5) 19 rfl rfl rfl (by rw [hg_24]; rfl) ?_
        refine lv (v := (.int .i64 p2_b)) rfl rfl (r_move rfl) ?_
        refine lg (b := r_5) 19 rfl rfl rfl (by rw [hg_24]; rfl) ?_
        obtain ⟨e_32, hj_33, hm⟩ := bind_some hm
        refine lv (v := (sptr a_29 (Int.toNat p2_b * 1))) rfl rfl (r_idx Try.underlying26 Try.sizeOf4 rfl rfl (at?_some hj_33).1 (at?_some hj_33).2.1 (h_31.addr hj_33)) ?_
        refine lg (b := r_5) 19 rfl rfl rfl (by rw [hg_24]; rfl) ?_
        refine lv (v := (.bool e_32)) rfl rfl (r_ld Try.isAgg4 rfl (h_31.atBool hj_33)) ?_
        refine lv (v := (.bool e_32)) rfl rfl (r_pickT (congrArg Value.bool hg_24) rfl) ?_
        refine lv (v := (.bool e_32)) rfl rfl (r_assign rfl) ?_
        refine lnil ?_
        exact ⟨(col0 col), e_32, hm, hst, h0_2, hb0, rfl, rfl⟩
      · rw [if_neg hg_24] at hm
        replace hg_24 := Bool.eq_false_iff.2 hg_24
        refine lp (b := r_5) 19 rfl rfl rfl rfl (by rw [hg_24]; rfl) ?_
        refine lp (b := r_5) 19 rfl rfl rfl rfl (by rw [hg_24]; rfl) ?_
        refine lp (b := r_5) 19 rfl rfl rfl rfl (by rw [hg_24]; rfl) ?_
        refine lp (b := r_5) 19 rfl rfl rfl rfl (by rw [hg_24]; rfl) ?_
        refine lp (b := r_5) 19 rfl rfl rfl rfl (by rw [hg_24]; rfl) ?_
        refine lp (b := r_5) 19 rfl rfl rfl rfl (by rw [hg_24]; rfl) ?_
        refine lp (b := r_5) 19 rfl rfl rfl rfl (by rw [hg_24]; rfl) ?_
        refine lp (b := r_5) 19 rfl rfl rfl rfl (by rw [hg_24]; rfl) ?_
        refine lp (b := r_5) 19 rfl rfl rfl rfl (by rw [hg_24]; rfl) ?_
        refine lp (b := r_5) 19 rfl rfl rfl rfl (by rw [hg_24]; rfl) ?_
        refine lv (v := (.bool false)) rfl rfl (r_pickF (congrArg Value.bool hg_24) rfl) ?_
        refine lv (v := (.bool false)) rfl rfl (r_assign rfl) ?_
        refine lnil ?_
        exact ⟨(col0 col), false, hm, hst, h0_2, hb0, rfl, rfl⟩
    · rw [if_neg hg_23] at hm
      replace hg_23 := Bool.eq_false_iff.2 hg_23
      refine lp (b := r_1) 16 rfl rfl rfl rfl (by rw [hg_23]; rfl) ?_
      refine lv (v := (.bool false)) rfl rfl (r_pickF (congrArg Value.bool hg_23) rfl) ?_
      refine lv (v := (.bool false)) rfl rfl (r_move rfl) ?_
      refine lp (b := false) 19 rfl rfl rfl rfl rfl ?_
      refine lp (b := false) 19 rfl rfl rfl rfl rfl ?_
      refine lp (b := false) 19 rfl rfl rfl rfl rfl ?_
      refine lp (b := false) 19 rfl rfl rfl rfl rfl ?_
      refine lp (b := false) 19 rfl rfl rfl rfl rfl ?_
      refine lp (b := false) 19 rfl rfl rfl rfl rfl ?_
      refine lp (b := false) 19 rfl rfl rfl rfl rfl ?_
      refine lp (b := false) 19 rfl rfl rfl rfl rfl ?_
      refine lp (b := false) 19 rfl rfl rfl rfl rfl ?_
      refine lp (b := false) 19 rfl rfl rfl rfl rfl ?_
      refine lv (v := (.bool false)) rfl rfl (r_pickF rfl rfl) ?_
      refine lv (v := (.bool false)) rfl rfl (r_assign rfl) ?_
      refine lnil ?_
      exact ⟨(col0 col), false, hm, hst, h0_2, hb0, rfl, rfl⟩



set_option maxRecDepth 100000 in
theorem el3_74 : ElemOk Try.prog 3 1 8 := ⟨Try.t3, _, rfl, rfl, rfl, rfl, rfl⟩

def m_r15_Graph_Near_J1 (b_8 : Int) (kk_L1 : ((List Int) → Int → Option (List Int))) (l_11 : List Int) : Option (List Int) :=
  kk_L1 l_11 (IntKind.i64.wrap (b_8 + 1))

def m_r15_Graph_Near_L1 (N : Nat) (p0_g : ((List (List Bool)))) (p1_a : Int) : Nat → (List Int) → Int → Option (List Int)
  | 0, _, _ => none
  | n_1 + 1, l_4, b_8 => if (decide (b_8 < (p0_g.length : Int))) = true then ((m_r15_Graph_Has p0_g p1_a b_8).bind fun r_15 => if r_15 = true then (chk ((l_4.length + [b_8].length) * 8 ≤ 140737488355328 ∧ l_4.length + [b_8].length ≤ maxLen) (m_r15_Graph_Near_J1 b_8 (m_r15_Graph_Near_L1 N p0_g p1_a n_1) (l_4 ++ [b_8]))) else (m_r15_Graph_Near_J1 b_8 (m_r15_Graph_Near_L1 N p0_g p1_a n_1) l_4)) else (some l_4)

def m_r15_Graph_Near (N : Nat) (p0_g : ((List (List Bool)))) (p1_a : Int) : Option (List Int) :=
  m_r15_Graph_Near_L1 N p0_g p1_a N ([] : List Int) 0

set_option maxRecDepth 100000 in
set_option maxHeartbeats 2000000 in
theorem c_r15_Graph_Near (N : Nat) (c1 : Nat) (col : Col) (w0 : World) (qc0 : Nat) (qc0_1 : Nat) (hqqc0 : qc0 ≠ 0) (hqqc0_1 : qc0_1 ≠ 0) (g0 : Nat) (p0_g : ((List (List Bool)))) (a0_2 : Option Addr) (cap0_2 : Nat) (p1_a : Int) (h0_2 : Own (Rep.row 4 Rep.bool) 26 qc0_1 col w0 a0_2 cap0_2 p0_g) (hb0 : Box 102 qc0 col w0 g0 #[(.slice a0_2 p0_g.length cap0_2)]) (r : (List Int)) (hm : m_r15_Graph_Near N p0_g p1_a = some r) :
    Calls Try.prog 74 #[(.pointer (some ⟨g0, 0, none⟩)), (.int .i64 p1_a)] w0 (fun e w' => ∃ (col' : Col) (ra1 : Option Addr) (rc2 : Nat), e = .returned ((.slice ra1 r.length rc2)) ∧ Grow col w0 col' w' ∧ Own (Rep.int .i64) 3 c1 col' w' ra1 rc2 r) := by
  refine calls_of1 4 (m := 27) (args := [(.pointer (some ⟨g0, 0, none⟩)), (.int .i64 p1_a)]) Try.func74 rfl rfl rfl rfl rfl ?_
  rw [m_r15_Graph_Near.eq_1] at hm
  have hst := St.start col w0
  replace hb0 := hb0.start0 hqqc0
  replace h0_2 := h0_2.start0 hqqc0_1
  refine wseq ?_
  refine wregion ?_
  refine lv (v := (.slice none (([] : List Int).length) 0)) rfl rfl (r_assign rfl) ?_
  refine lnil ?_
  refine wseq ?_
  refine wregion ?_
  refine lv (v := (.slice none (([] : List Int).length) 0)) rfl rfl (r_assign rfl) ?_
  refine lnil ?_
  refine wseq ?_
  refine wseq ?_
  refine wregion ?_
  refine lv (v := (.int .i64 0)) rfl rfl (r_assign rfl) ?_
  refine lnil ?_
  refine wblock ?_
  refine wloop (fun n f w_2 => ∃ (col_3 : Col) (a_5 : Option Addr) (cap_6 : Nat) (l_4 : List Int) (b_8 : Int) (n_1 : Nat), n_1 = n ∧ m_r15_Graph_Near_L1 N p0_g p1_a n_1 l_4 b_8 = some r ∧ St w0 (col0 col) col_3 w_2 ∧ Own (Rep.row 4 Rep.bool) 26 999 col_3 w_2 a0_2 cap0_2 p0_g ∧ Box 102 999 col_3 w_2 g0 #[(.slice a0_2 p0_g.length cap0_2)] ∧ Own (Rep.int .i64) 3 1 col_3 w_2 a_5 cap_6 l_4 ∧ f 0 = (.pointer (some ⟨g0, 0, none⟩)) ∧ f 1 = (.int .i64 p1_a) ∧ f 5 = (.slice a_5 l_4.length cap_6) ∧ f 6 = (.int .i64 b_8) ∧ f 1000000 = (enc [])) N ⟨(col0 col), none, 0, ([] : List Int), 0, N, rfl, hm, hst, h0_2, hb0, Own.nil, rfl, rfl, rfl, rfl, rfl⟩ ?_
  clear hm; intro n f w_2 hI
  obtain ⟨col_3, a_5, cap_6, l_4, b_8, n_1, hn, hm, hst, h0_2, hb0, h_7, hs0, hs1, hs5, hs6, hs1000000⟩ := hI
  subst hn
  refine .ld (d := 0) (v := (.pointer (some ⟨g0, 0, none⟩))) hs0 ?_
  refine .ld (d := 1) (v := (.int .i64 p1_a)) hs1 ?_
  refine .ld (d := 5) (v := (.slice a_5 l_4.length cap_6)) hs5 ?_
  refine .ld (d := 6) (v := (.int .i64 b_8)) hs6 ?_
  refine .ld (d := 1000000) (v := (enc [])) hs1000000 ?_
  clear hs0 hs1 hs5 hs6 hs1000000
  cases n_1 with
  | zero => rw [m_r15_Graph_Near_L1.eq_1] at hm; cases hm
  | succ n_1 =>
    rw [m_r15_Graph_Near_L1.eq_2] at hm
    refine wseq ?_
    refine wseq ?_
    refine wregion ?_
    refine lv (v := (.int .i64 b_8)) rfl rfl (r_move rfl) ?_
    refine lv (v := (.pointer (some ⟨g0, 0, none⟩))) rfl rfl (r_move rfl) ?_
    refine lv (v := (.pointer (some ⟨g0, 0, none⟩))) rfl rfl (r_nilCheck rfl) ?_
    refine lv (v := (.pointer ((some (⟨g0, 0, none⟩ : Addr)).map (·.add 0)))) rfl rfl (r_fieldAddr (sz := 1) (off := 0) Try.underlying102 rfl Try.sizeOf100 (by decide) rfl rfl ⟨_, _, rfl⟩) ?_
    refine lv (v := (.slice a0_2 p0_g.length cap0_2)) rfl rfl (r_ld Try.isAgg100 rfl ((hb0.atN).nth (q := 0) (v := (.slice a0_2 p0_g.length cap0_2)) rfl)) ?_
    refine lv (v := (.int .i64 (p0_g.length : Int))) rfl rfl (r_len Try.underlying100 rfl) ?_
    refine lv (v := (.bool (decide (b_8 < (p0_g.length : Int))))) rfl rfl (r_lss b_8 (p0_g.length : Int) rfl rfl) ?_
    refine lnil ?_
    refine wcond (decide (b_8 < (p0_g.length : Int))) rfl (fun hb => ?_) (fun hb => ?_)
    · rw [if_pos hb] at hm
      clear hb
      refine wskip ?_
      refine wseq ?_
      refine Wp.cut (fun f w_9 => ∃ (col_10 : Col) (a_12 : Option Addr) (cap_13 : Nat) (l_11 : List Int), m_r15_Graph_Near_J1 b_8 (m_r15_Graph_Near_L1 N p0_g p1_a n_1) l_11 = some r ∧ St w0 (col0 col) col_10 w_9 ∧ Own (Rep.row 4 Rep.bool) 26 999 col_10 w_9 a0_2 cap0_2 p0_g ∧ Box 102 999 col_10 w_9 g0 #[(.slice a0_2 p0_g.length cap0_2)] ∧ Own (Rep.int .i64) 3 1 col_10 w_9 a_12 cap_13 l_11 ∧ f 0 = (.pointer (some ⟨g0, 0, none⟩)) ∧ f 1 = (.int .i64 p1_a) ∧ f 5 = (.slice a_12 l_11.length cap_13) ∧ f 6 = (.int .i64 b_8) ∧ f 1000000 = (enc [])) ?_ ?_
      · intro f w_9 hJ
        obtain ⟨col_10, a_12, cap_13, l_11, hm, hst, h0_2, hb0, h_14, hs0, hs1, hs5, hs6, hs1000000⟩ := hJ
        rw [m_r15_Graph_Near_J1.eq_1] at hm
        refine .ld (d := 0) (v := (.pointer (some ⟨g0, 0, none⟩))) hs0 ?_
        refine .ld (d := 1) (v := (.int .i64 p1_a)) hs1 ?_
        refine .ld (d := 5) (v := (.slice a_12 l_11.length cap_13)) hs5 ?_
        refine .ld (d := 6) (v := (.int .i64 b_8)) hs6 ?_
        refine .ld (d := 1000000) (v := (enc [])) hs1000000 ?_
        clear hs0 hs1 hs5 hs6 hs1000000
        refine wregion ?_
        refine lv (v := (.int .i64 b_8)) rfl rfl (r_move rfl) ?_
        refine lv (v := (.int .i64 (IntKind.i64.wrap (b_8 + 1)))) rfl rfl (r_add b_8 1 rfl rfl) ?_
        refine lv (v := (.int .i64 (IntKind.i64.wrap (b_8 + 1)))) rfl rfl (r_assign rfl) ?_
        refine lnil ?_
        exact ⟨n_1, by omega, ⟨col_10, a_12, cap_13, l_11, (IntKind.i64.wrap (b_8 + 1)), n_1, rfl, hm, hst, h0_2, hb0, h_14, rfl, rfl, rfl, rfl, rfl⟩⟩
      · refine wblock ?_
        refine wseq ?_
        refine wregion ?_
        refine lv (v := (.pointer (some ⟨g0, 0, none⟩))) rfl rfl (r_move rfl) ?_
        refine lv (v := (.int .i64 p1_a)) rfl rfl (r_move rfl) ?_
        refine lv (v := (.int .i64 b_8)) rfl rfl (r_move rfl) ?_
        obtain ⟨r_15, hr_16, hm⟩ := bind_some hm
        refine lc rfl rfl (r_call3 Try.call96 rfl rfl rfl) (c_r15_Graph_Has col_3 _ 999 999 (by decide) (by decide) g0 p0_g a0_2 cap0_2 p1_a b_8 h0_2 hb0 r_15 hr_16) ?_
        rintro _ w_17 ⟨rfl, hg_18⟩
        refine ⟨_, rfl, ?_⟩
        replace hg_18 : Grow col_3 w_2 col_3 w_17 := .of_below hg_18
        replace h0_2 := h0_2.gr hg_18
        replace h_7 := h_7.gr hg_18
        replace hb0 := hb0.gr hg_18
        replace hst := hst.grow hg_18
        refine lv (v := (.bool r_15)) rfl rfl (r_assign rfl) ?_
        refine lnil ?_
        refine wseq ?_
        refine wregion ?_
        refine lv (v := (.bool r_15)) rfl rfl (r_move rfl) ?_
        refine lnil ?_
        refine wcond (r_15) rfl (fun hb => ?_) (fun hb => ?_)
        · rw [if_pos hb] at hm
          clear hb
          refine wregion ?_
          refine lv (v := (.slice a_5 l_4.length cap_6)) rfl rfl (r_move rfl) ?_
          refine lv (v := (.int .i64 b_8)) rfl rfl (r_move rfl) ?_
          refine l_lit (col := col_3) (r := (Rep.int .i64)) (xs := [b_8]) [(.int .i64 b_8)] 2 rfl Try.underlying22 el3_74 rfl rfl rfl rfl rfl rfl (by intro v hv; simp only [List.mem_cons, List.not_mem_nil, or_false] at hv; subst hv; rfl) (RowsH.ofF (Rows.consF (r := (Rep.int .i64)) (x := b_8) (cs := [(.int .i64 b_8)]) (rd_int .i64 b_8) Rows.nil0)) ?_
          intro a_19 w_20 col_21 hg_22 h_23
          replace h0_2 := h0_2.gr hg_22
          replace h_7 := h_7.gr hg_22
          replace hb0 := hb0.gr hg_22
          replace hst := hst.grow hg_22
          obtain ⟨hb_24, hm⟩ := chk_some hm
          refine l_appendM (col := col_21) (w := w_20) (r := (Rep.int .i64)) (c := 1) (c2 := 1) (xs := l_4) (ys := [b_8]) h_7 (h_23.srcN (NB.int (k := .i64))) rfl Try.underlying22 el3_74 rfl rfl rfl hb_24.1 hb_24.2 (by decide) ?_
          intro a_25 cap_26 w_27 col_28 hk_29 h_30
          replace h0_2 := h0_2.kpp hk_29 rfl rfl
          replace h_23 := h_23.kpp hk_29 rfl rfl
          replace hb0 := hb0.kpp hk_29 rfl
          replace hst := hst.kpp hk_29 rfl rfl
          clear h_7
          refine lv (v := (.slice a_25 ((l_4 ++ [b_8]).length) cap_26)) rfl rfl (r_assign rfl) ?_
          refine lnil ?_
          exact ⟨col_28, a_25, cap_26, (l_4 ++ [b_8]), hm, hst, h0_2, hb0, h_30, rfl, rfl, rfl, rfl, rfl⟩
        · rw [if_neg (by rw [hb]; decide)] at hm
          clear hb
          refine wskip ?_
          exact ⟨col_3, a_5, cap_6, l_4, hm, hst, h0_2, hb0, h_7, rfl, rfl, rfl, rfl, rfl⟩
    · rw [if_neg (by rw [hb]; decide)] at hm
      clear hb
      refine wexit (inB_hit ?_)
      refine wseq ?_
      refine wregion ?_
      refine lv (v := (.slice a_5 l_4.length cap_6)) rfl rfl (r_move rfl) ?_
      refine lv (v := (.slice a_5 l_4.length cap_6)) rfl rfl (r_assign rfl) ?_
      refine lnil ?_
      refine wret ?_
      cases hm
      exact ⟨rfl, colF w0.heap.size col col_3 (fun n => bif Nat.beq n 1 then c1 else 0), a_5, cap_6, rfl, hst.fin (fun n => bif Nat.beq n 1 then c1 else 0), hst.finOwn (g := (fun n => bif Nat.beq n 1 then c1 else 0)) rfl h_7 (by decide) (by decide) rfl⟩


end Go.Proofs.Ytgkofjmeopbkbaa
