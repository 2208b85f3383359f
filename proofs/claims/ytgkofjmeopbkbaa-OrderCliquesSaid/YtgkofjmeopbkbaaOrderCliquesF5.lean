/-
  What functions of the program compute, as plain Lean functions (m_..), and proofs that they compute it (c_..). Printed by a program of the author; no conditions.
-/
import Derived.Test.YtgkofjmeopbkbaaOrderCliquesBFloat
import Derived.Test.YtgkofjmeopbkbaaProg
import Derived.Test.YtgkofjmeopbkbaaOrderCliquesBGraph
import Derived.Test.YtgkofjmeopbkbaaOrderCliquesBHalf
import Derived.Test.YtgkofjmeopbkbaaOrderCliquesF4
set_option linter.unusedVariables false
namespace Go.Proofs.Ytgkofjmeopbkbaa
open Go Go.RowKit



def m_l18_OrderCliques_J2 (v_120 : Bool) : Option Bool :=
  some v_120

def m_l18_OrderCliques_J1 (N : Nat) (p1_list : (List Int)) (v_34 : Bool) : Option Bool :=
  if v_34 = true then (some false) else ((m_l18_ints N p1_list).bind fun r_35 => (m_order_Cliques_v0n (r_35.2.take r_35.1)).bind fun r_43 => (m_r18_Cliques_v0n p1_list).bind fun r_52 => (m_order_Width_v0n (r_35.2.take r_35.1)).bind fun r_60 => (m_r18_Width_v0n N p1_list).bind fun r_64 => if (decide (r_43.2 = r_52.2)) = true then (if (decide (r_60.2 = r_64.2)) = true then (if (decide (r_60.1 = r_64.1)) = true then ((m_r15_Lists N r_43.1 r_52.1).bind fun r_124 => if r_124 = true then ((m_r15_Apart N (r_43.1.map fun x => (x, false))).bind fun r_129 => if r_129.1 = true then ((m_l18_kept N r_35.1 r_35.2 p1_list).bind fun r_137 => if r_137 = true then ((m_l18_unchanged_v0n_v1n).bind fun r_142 => m_l18_OrderCliques_J2 r_142) else (m_l18_OrderCliques_J2 false)) else (m_l18_OrderCliques_J2 false)) else (m_l18_OrderCliques_J2 false)) else (m_l18_OrderCliques_J2 false)) else (m_l18_OrderCliques_J2 false)) else (m_l18_OrderCliques_J2 false))

def m_l18_OrderCliques_J4 (v_244 : Bool) : Option Bool :=
  some v_244

def m_l18_OrderCliques_J3 (N : Nat) (p1_list : (List Int)) (t_19 : List (List Bool)) (t_147 : ((List (List Bool)))) (v_158 : Bool) : Option Bool :=
  if v_158 = true then (some false) else ((m_l18_ints N p1_list).bind fun r_159 => (m_order_Cliques N t_19 (r_159.2.take r_159.1)).bind fun r_167 => (m_r18_Cliques N t_147 p1_list).bind fun r_176 => (m_order_Width N t_19 (r_159.2.take r_159.1)).bind fun r_184 => (m_r18_Width N t_147 p1_list).bind fun r_188 => if (decide (r_167.2 = r_176.2)) = true then (if (decide (r_184.2 = r_188.2)) = true then (if (decide (r_184.1 = r_188.1)) = true then ((m_r15_Lists N r_167.1 r_176.1).bind fun r_248 => if r_248 = true then ((m_r15_Apart N (r_167.1.map fun x => (x, false))).bind fun r_253 => if r_253.1 = true then ((m_l18_kept N r_159.1 r_159.2 p1_list).bind fun r_261 => if r_261 = true then ((m_l18_unchanged N t_19 t_147).bind fun r_266 => m_l18_OrderCliques_J4 r_266) else (m_l18_OrderCliques_J4 false)) else (m_l18_OrderCliques_J4 false)) else (m_l18_OrderCliques_J4 false)) else (m_l18_OrderCliques_J4 false)) else (m_l18_OrderCliques_J4 false)) else (m_l18_OrderCliques_J4 false))

def m_l18_OrderCliques (N : Nat) (p0_d : (Int × (List Int))) (p1_list : (List Int)) : Option Bool :=
  (w_l18_awake).bind fun r_6 => (m_l18_drawn N (p0_d.1, p0_d.2)).bind fun r_10 => optC (r_10.1) (optC (r_10.2.1) (if (!r_6) = true then (m_l18_OrderCliques_J1 N p1_list true) else (m_l18_OrderCliques_J1 N p1_list (!r_10.2.2))) (fun t_23 => none)) (fun t_19 => optC (r_10.2.1) (none) (fun t_147 => if (!r_6) = true then (m_l18_OrderCliques_J3 N p1_list t_19 t_147 true) else (m_l18_OrderCliques_J3 N p1_list t_19 t_147 (!r_10.2.2))))

set_option maxRecDepth 100000 in
set_option maxHeartbeats 2000000 in
theorem c_l18_OrderCliques (N : Nat) (col : Col) (w0 : World) (a0_0 : Option Addr) (cap0_0 : Nat) (p0_d : (Int × (List Int))) (a1 : Option Addr) (cap1 : Nat) (p1_list : (List Int)) (h0_0 : Sl (Rep.int .i64) col w0 a0_0 cap0_0 p0_d.2) (h1 : Sl (Rep.int .i64) col w0 a1 cap1 p1_list) (r : Bool) (hm : m_l18_OrderCliques N p0_d p1_list = some r) :
    Calls Try.prog 9 #[(.agg #[(.int .i64 p0_d.1), (.slice a0_0 p0_d.2.length cap0_0)]), (.slice a1 p1_list.length cap1)] w0 (fun e w' => e = .returned ((.bool r)) ∧ Below w0.heap.size w0 w') := by
  refine calls_of1 4 (m := 89) (args := [(.agg #[(.int .i64 p0_d.1), (.slice a0_0 p0_d.2.length cap0_0)]), (.slice a1 p1_list.length cap1)]) Try.func9 rfl rfl rfl rfl rfl ?_
  rw [m_l18_OrderCliques.eq_1] at hm
  have hst := St.start col w0
  replace h0_0 := h0_0.keep (Stay.start col w0)
  replace h1 := h1.keep (Stay.start col w0)
  refine wseq ?_
  refine wregion ?_
  refine l_box (col := (col0 col)) (v := (.agg #[(.int .i64 p0_d.1), (.slice a0_0 p0_d.2.length cap0_0)])) 1 rfl rfl ?_
  intro g_1 w_2 col_3 hg_4 hb_5
  replace h0_0 := h0_0.gr hg_4
  replace h1 := h1.gr hg_4
  replace hst := hst.grow hg_4
  replace hb_5 : Box 59 1 col_3 w_2 g_1 #[(.int .i64 p0_d.1), (.slice a0_0 p0_d.2.length cap0_0)] := hb_5
  refine lv (v := (.bool false)) rfl rfl (r_assign rfl) ?_
  refine lnil ?_
  refine wseq ?_
  refine wregion ?_
  obtain ⟨r_6, hr_7, hm⟩ := bind_some hm
  refine lc rfl rfl (r_call0 Try.call29 ) (k_l18_awake col_3 _ r_6 hr_7) ?_
  rintro _ w_8 ⟨rfl, hg_9⟩
  refine ⟨_, rfl, ?_⟩
  replace hg_9 : Grow col_3 w_2 col_3 w_8 := .of_below hg_9
  replace h1 := h1.gr hg_9
  replace h0_0 := h0_0.gr hg_9
  replace hb_5 := hb_5.gr hg_9
  replace hst := hst.grow hg_9
  refine lv (v := (.bool r_6)) rfl rfl (r_assign rfl) ?_
  refine lnil ?_
  refine wseq ?_
  refine wregion ?_
  refine lv (v := (.agg #[(.int .i64 p0_d.1), (.slice a0_0 p0_d.2.length cap0_0)])) rfl rfl (r_ldN Try.isAgg59 Try.sizeOf59 rfl rfl hb_5.atN) ?_
  obtain ⟨r_10, hr_11, hm⟩ := bind_some hm
  refine lc rfl rfl (r_call1 Try.call30 rfl) (c_l18_drawn N 2 3 4 col_3 _ a0_0 cap0_0 (p0_d.1, p0_d.2) h0_0 r_10 hr_11) ?_
  rintro _ w_16 ⟨col_18, rv_12, rv_14, rfl, hg_17, rh_13, rh_15⟩
  refine ⟨_, rfl, ?_⟩
  replace h1 := h1.gr hg_17
  replace h0_0 := h0_0.gr hg_17
  replace hst := hst.grow hg_17
  cases hx_20 : r_10.1 with
  | none =>
    rw [hx_20] at hm rh_13
    replace hm := optC_none hm
    obtain rfl := optP_none rh_13
    clear rh_13
    cases hx_24 : r_10.2.1 with
    | none =>
      rw [hx_24] at hm rh_15
      replace hm := optC_none hm
      obtain rfl := optP_none rh_15
      clear rh_15
      refine lv (v := (.tuple #[(.pointer none), (.pointer none), (.bool r_10.2.2)])) rfl rfl (r_move rfl) ?_
      refine lv (v := (.pointer none)) rfl rfl (r_extract rfl rfl) ?_
      refine lv (v := (.pointer none)) rfl rfl (r_extract rfl rfl) ?_
      refine lv (v := (.bool r_10.2.2)) rfl rfl (r_extract rfl rfl) ?_
      refine lv (v := (.pointer none)) rfl rfl (r_assign rfl) ?_
      refine lv (v := (.pointer none)) rfl rfl (r_assign rfl) ?_
      refine lv (v := (.bool r_10.2.2)) rfl rfl (r_assign rfl) ?_
      refine lnil ?_
      refine wseq ?_
      refine wseq ?_
      refine Wp.cut (fun f w_32 => ∃ (col_33 : Col) (v_34 : Bool), m_l18_OrderCliques_J1 N p1_list v_34 = some r ∧ St w0 (col0 col) col_33 w_32 ∧ Sl (Rep.int .i64) col_33 w_32 a1 cap1 p1_list ∧ f 1 = (.slice a1 p1_list.length cap1) ∧ f 30 = (.bool v_34) ∧ f 6 = (.pointer none) ∧ f 7 = (.pointer none) ∧ f 1000000 = (enc [])) ?_ ?_
      · intro f w_32 hJ
        obtain ⟨col_33, v_34, hm, hst, h1, hs1, hs30, hs6, hs7, hs1000000⟩ := hJ
        rw [m_l18_OrderCliques_J1.eq_1] at hm
        refine .ld (d := 1) (v := (.slice a1 p1_list.length cap1)) hs1 ?_
        refine .ld (d := 30) (v := (.bool v_34)) hs30 ?_
        refine .ld (d := 6) (v := (.pointer none)) hs6 ?_
        refine .ld (d := 7) (v := (.pointer none)) hs7 ?_
        refine .ld (d := 1000000) (v := (enc [])) hs1000000 ?_
        clear hs1 hs30 hs6 hs7 hs1000000
        refine wcond (v_34) rfl (fun hb => ?_) (fun hb => ?_)
        · rw [if_pos hb] at hm
          clear hb
          refine wseq ?_
          refine wregion ?_
          refine lv (v := (.bool false)) rfl rfl (r_assign rfl) ?_
          refine lnil ?_
          refine wret ?_
          cases hm
          exact ⟨rfl, rfl, hst.below⟩
        · rw [if_neg (by rw [hb]; decide)] at hm
          clear hb
          refine wskip ?_
          refine wseq ?_
          refine wregion ?_
          refine lv (v := (.slice a1 p1_list.length cap1)) rfl rfl (r_move rfl) ?_
          obtain ⟨r_35, hr_36, hm⟩ := bind_some hm
          refine lc rfl rfl (r_call1 Try.call31 rfl) (c_l18_ints N 5 col_33 _ a1 cap1 p1_list h1 r_35 hr_36) ?_
          rintro _ w_40 ⟨col_42, ra_37, rc_38, rfl, hg_41, rh_39⟩
          refine ⟨_, rfl, ?_⟩
          replace h1 := h1.gr hg_41
          replace hst := hst.grow hg_41
          refine lv (v := (.slice ra_37 ((r_35.2.take r_35.1).length) rc_38)) rfl rfl (r_assign rfl) ?_
          refine lnil ?_
          refine wseq ?_
          refine wregion ?_
          refine lv (v := (.pointer none)) rfl rfl (r_move rfl) ?_
          refine lv (v := (.slice ra_37 ((r_35.2.take r_35.1).length) rc_38)) rfl rfl (r_move rfl) ?_
          obtain ⟨r_43, hr_44, hm⟩ := bind_some hm
          refine lc rfl rfl (r_call2 Try.call40 rfl rfl) (c_order_Cliques_v0n 6 (frC 5 col_42) _ ra_37 rc_38 (r_35.2.take r_35.1) ((rh_39.take r_35.1).toSlF (Froz.int .i64)) r_43 hr_44) ?_
          rintro _ w_48 ⟨col_50, ra_45, rc_46, rfl, hg_49, rh_47⟩
          refine ⟨_, rfl, ?_⟩
          replace rh_47 := rh_47.thaw (flat_row (flat_int .i64)) hg_49 ((Fz.refl (col := col_42)).froz 5) (by decide)
          replace hg_49 := hg_49.thawR (col := col_42)
          generalize colR w_40.heap.size col_42 col_50 = col_51 at *
          replace h1 := h1.gr hg_49
          replace rh_39 := rh_39.gr hg_49
          replace hst := hst.grow hg_49
          refine lv (v := (.tuple #[(.slice ra_45 r_43.1.length rc_46), (.int .i64 r_43.2)])) rfl rfl (r_move rfl) ?_
          refine lv (v := (.slice ra_45 r_43.1.length rc_46)) rfl rfl (r_extract rfl rfl) ?_
          refine lv (v := (.int .i64 r_43.2)) rfl rfl (r_extract rfl rfl) ?_
          refine lv (v := (.slice ra_45 r_43.1.length rc_46)) rfl rfl (r_assign rfl) ?_
          refine lv (v := (.int .i64 r_43.2)) rfl rfl (r_assign rfl) ?_
          refine lnil ?_
          refine wseq ?_
          refine wregion ?_
          refine lv (v := (.pointer none)) rfl rfl (r_move rfl) ?_
          refine lv (v := (.slice a1 p1_list.length cap1)) rfl rfl (r_move rfl) ?_
          obtain ⟨r_52, hr_53, hm⟩ := bind_some hm
          refine lc rfl rfl (r_call2 Try.call41 rfl rfl) (c_r18_Cliques_v0n 7 col_51 _ a1 cap1 p1_list h1 r_52 hr_53) ?_
          rintro _ w_57 ⟨col_59, ra_54, rc_55, rfl, hg_58, rh_56⟩
          refine ⟨_, rfl, ?_⟩
          replace h1 := h1.gr hg_58
          replace rh_39 := rh_39.gr hg_58
          replace rh_47 := rh_47.gr hg_58
          replace hst := hst.grow hg_58
          refine lv (v := (.tuple #[(.slice ra_54 r_52.1.length rc_55), (.int .i64 r_52.2)])) rfl rfl (r_move rfl) ?_
          refine lv (v := (.slice ra_54 r_52.1.length rc_55)) rfl rfl (r_extract rfl rfl) ?_
          refine lv (v := (.int .i64 r_52.2)) rfl rfl (r_extract rfl rfl) ?_
          refine lv (v := (.slice ra_54 r_52.1.length rc_55)) rfl rfl (r_assign rfl) ?_
          refine lv (v := (.int .i64 r_52.2)) rfl rfl (r_assign rfl) ?_
          refine lnil ?_
          refine wseq ?_
          refine wregion ?_
          refine lv (v := (.pointer none)) rfl rfl (r_move rfl) ?_
          refine lv (v := (.slice ra_37 ((r_35.2.take r_35.1).length) rc_38)) rfl rfl (r_move rfl) ?_
          obtain ⟨r_60, hr_61, hm⟩ := bind_some hm
          refine lc rfl rfl (r_call2 Try.call42 rfl rfl) (c_order_Width_v0n (frC 5 col_59) _ ra_37 rc_38 (r_35.2.take r_35.1) ((rh_39.take r_35.1).toSlF (Froz.int .i64)) r_60 hr_61) ?_
          rintro _ w_62 ⟨rfl, hg_63⟩
          refine ⟨_, rfl, ?_⟩
          replace hg_63 : Grow col_59 w_57 col_59 w_62 := .of_below hg_63
          replace h1 := h1.gr hg_63
          replace rh_39 := rh_39.gr hg_63
          replace rh_47 := rh_47.gr hg_63
          replace rh_56 := rh_56.gr hg_63
          replace hst := hst.grow hg_63
          refine lv (v := (.tuple #[(.int .i64 r_60.1), (.int .i64 r_60.2)])) rfl rfl (r_move rfl) ?_
          refine lv (v := (.int .i64 r_60.1)) rfl rfl (r_extract rfl rfl) ?_
          refine lv (v := (.int .i64 r_60.2)) rfl rfl (r_extract rfl rfl) ?_
          refine lv (v := (.int .i64 r_60.1)) rfl rfl (r_assign rfl) ?_
          refine lv (v := (.int .i64 r_60.2)) rfl rfl (r_assign rfl) ?_
          refine lnil ?_
          refine wseq ?_
          refine wregion ?_
          refine lv (v := (.pointer none)) rfl rfl (r_move rfl) ?_
          refine lv (v := (.slice a1 p1_list.length cap1)) rfl rfl (r_move rfl) ?_
          obtain ⟨r_64, hr_65, hm⟩ := bind_some hm
          refine lc rfl rfl (r_call2 Try.call43 rfl rfl) (c_r18_Width_v0n N col_59 _ a1 cap1 p1_list h1 r_64 hr_65) ?_
          rintro _ w_66 ⟨rfl, hg_67⟩
          refine ⟨_, rfl, ?_⟩
          replace hg_67 : Grow col_59 w_62 col_59 w_66 := .of_below hg_67
          replace h1 := h1.gr hg_67
          replace rh_39 := rh_39.gr hg_67
          replace rh_47 := rh_47.gr hg_67
          replace rh_56 := rh_56.gr hg_67
          replace hst := hst.grow hg_67
          refine lv (v := (.tuple #[(.int .i64 r_64.1), (.int .i64 r_64.2)])) rfl rfl (r_move rfl) ?_
          refine lv (v := (.int .i64 r_64.1)) rfl rfl (r_extract rfl rfl) ?_
          refine lv (v := (.int .i64 r_64.2)) rfl rfl (r_extract rfl rfl) ?_
          refine lv (v := (.int .i64 r_64.1)) rfl rfl (r_assign rfl) ?_
          refine lv (v := (.int .i64 r_64.2)) rfl rfl (r_assign rfl) ?_
          refine lnil ?_
          refine wseq ?_
          refine Wp.cut (fun f w_118 => ∃ (col_119 : Col) (v_120 : Bool), m_l18_OrderCliques_J2 v_120 = some r ∧ St w0 (col0 col) col_119 w_118 ∧ f 4 = (.bool v_120) ∧ f 1000000 = (enc [])) ?_ ?_
          · intro f w_118 hJ
            obtain ⟨col_119, v_120, hm, hst, hs4, hs1000000⟩ := hJ
            rw [m_l18_OrderCliques_J2.eq_1] at hm
            refine .ld (d := 4) (v := (.bool v_120)) hs4 ?_
            refine .ld (d := 1000000) (v := (enc [])) hs1000000 ?_
            clear hs4 hs1000000
            refine wret ?_
            cases hm
            exact ⟨rfl, rfl, hst.below⟩
          · refine wregion ?_
            refine lv (v := (.int .i64 r_43.2)) rfl rfl (r_move rfl) ?_
            refine lv (v := (.int .i64 r_52.2)) rfl rfl (r_move rfl) ?_
            refine lv (v := (.bool (decide (r_43.2 = r_52.2)))) rfl rfl (r_eql r_43.2 r_52.2 rfl rfl) ?_
            refine lv (v := (.bool (decide (r_43.2 = r_52.2)))) rfl rfl (r_move rfl) ?_
            by_cases hg_121 : (decide (r_43.2 = r_52.2)) = true
            · rw [if_pos hg_121] at hm
              refine lg (b := decide (r_43.2 = r_52.2)) 60 rfl rfl rfl (by rw [hg_121]; rfl) ?_
              refine lv (v := (.int .i64 r_60.2)) rfl rfl (r_move rfl) ?_
              refine lg (b := decide (r_43.2 = r_52.2)) 60 rfl rfl rfl (by rw [hg_121]; rfl) ?_
              refine lv (v := (.int .i64 r_64.2)) rfl rfl (r_move rfl) ?_
              refine lg (b := decide (r_43.2 = r_52.2)) 60 rfl rfl rfl (by rw [hg_121]; rfl) ?_
              refine lv (v := (.bool (decide (r_60.2 = r_64.2)))) rfl rfl (r_eql r_60.2 r_64.2 rfl rfl) ?_
              refine lv (v := (.bool (decide (r_60.2 = r_64.2)))) rfl rfl (r_pickT (congrArg Value.bool hg_121) rfl) ?_
              refine lv (v := (.bool (decide (r_60.2 = r_64.2)))) rfl rfl (r_move rfl) ?_
              by_cases hg_122 : (decide (r_60.2 = r_64.2)) = true
              · rw [if_pos hg_122] at hm
                refine lg (b := decide (r_60.2 = r_64.2)) 65 rfl rfl rfl (by rw [hg_122]; rfl) ?_
                refine lv (v := (.int .i64 r_60.1)) rfl rfl (r_move rfl) ?_
                refine lg (b := decide (r_60.2 = r_64.2)) 65 rfl rfl rfl (by rw [hg_122]; rfl) ?_
                refine lv (v := (.int .i64 r_64.1)) rfl rfl (r_move rfl) ?_
                refine lg (b := decide (r_60.2 = r_64.2)) 65 rfl rfl rfl (by rw [hg_122]; rfl) ?_
                refine lv (v := (.bool (decide (r_60.1 = r_64.1)))) rfl rfl (r_eql r_60.1 r_64.1 rfl rfl) ?_
                refine lv (v := (.bool (decide (r_60.1 = r_64.1)))) rfl rfl (r_pickT (congrArg Value.bool hg_122) rfl) ?_
                refine lv (v := (.bool (decide (r_60.1 = r_64.1)))) rfl rfl (r_move rfl) ?_
                by_cases hg_123 : (decide (r_60.1 = r_64.1)) = true
                · rw [if_pos hg_123] at hm
                  refine lg (b := decide (r_60.1 = r_64.1)) 70 rfl rfl rfl (by rw [hg_123]; rfl) ?_
                  refine lv (v := (.slice ra_45 r_43.1.length rc_46)) rfl rfl (r_move rfl) ?_
                  refine lg (b := decide (r_60.1 = r_64.1)) 70 rfl rfl rfl (by rw [hg_123]; rfl) ?_
                  refine lv (v := (.slice ra_54 r_52.1.length rc_55)) rfl rfl (r_move rfl) ?_
                  refine lg (b := decide (r_60.1 = r_64.1)) 70 rfl rfl rfl (by rw [hg_123]; rfl) ?_
                  obtain ⟨r_124, hr_125, hm⟩ := bind_some hm
                  refine lc rfl rfl (r_call2 Try.call44 rfl rfl) (c_r15_Lists N (frC 7 (frC 6 col_59)) _ ra_45 rc_46 r_43.1 ra_54 rc_55 r_52.1 ((rh_47.toSlF (Froz.row (Froz.int .i64))).froz 7) ((rh_56.froz 6 (by decide)).toSlF (Froz.row (Froz.int .i64))) r_124 hr_125) ?_
                  rintro _ w_126 ⟨rfl, hg_127⟩
                  refine ⟨_, rfl, ?_⟩
                  replace hg_127 : Grow col_59 w_66 col_59 w_126 := .of_below hg_127
                  replace h1 := h1.gr hg_127
                  replace rh_39 := rh_39.gr hg_127
                  replace rh_47 := rh_47.gr hg_127
                  replace rh_56 := rh_56.gr hg_127
                  replace hst := hst.grow hg_127
                  refine lv (v := (.bool r_124)) rfl rfl (r_pickT (congrArg Value.bool hg_123) rfl) ?_
                  refine lv (v := (.bool r_124)) rfl rfl (r_move rfl) ?_
                  by_cases hg_128 : r_124 = true
                  · rw [if_pos hg_128] at hm
                    refine lg (b := r_124) 75 rfl rfl rfl (by rw [hg_128]; rfl) ?_
                    refine lv (v := (.slice ra_45 r_43.1.length rc_46)) rfl rfl (r_move rfl) ?_
                    refine lg (b := r_124) 75 rfl rfl rfl (by rw [hg_128]; rfl) ?_
                    obtain ⟨r_129, hr_130, hm⟩ := bind_some hm
                    refine lc rfl rfl (r_call1 Try.call37 (congrArg (fun n => Value.slice ra_45 n rc_46) (List.length_map ..).symm)) (c_r15_Apart N col_59 _ 6 rfl ra_45 rc_46 (r_43.1.map fun x => (x, false)) (rh_47).half r_129 hr_130) ?_
                    rintro _ w_133 ⟨col_135, rfl, hg_134, oh_131, ohl_132⟩
                    refine ⟨_, rfl, ?_⟩
                    replace h1 := h1.kpp hg_134 rfl
                    replace rh_39 := rh_39.kpp hg_134 rfl rfl
                    replace hst := hst.kpp hg_134 rfl rfl
                    clear rh_47
                    refine lv (v := (.bool r_129.1)) rfl rfl (r_pickT (congrArg Value.bool hg_128) rfl) ?_
                    refine lv (v := (.bool r_129.1)) rfl rfl (r_move rfl) ?_
                    by_cases hg_136 : r_129.1 = true
                    · rw [if_pos hg_136] at hm
                      refine lg (b := r_129.1) 79 rfl rfl rfl (by rw [hg_136]; rfl) ?_
                      refine lv (v := (.slice ra_37 ((r_35.2.take r_35.1).length) rc_38)) rfl rfl (r_move rfl) ?_
                      refine lg (b := r_129.1) 79 rfl rfl rfl (by rw [hg_136]; rfl) ?_
                      refine lv (v := (.slice a1 p1_list.length cap1)) rfl rfl (r_move rfl) ?_
                      refine lg (b := r_129.1) 79 rfl rfl rfl (by rw [hg_136]; rfl) ?_
                      obtain ⟨r_137, hr_138, hm⟩ := bind_some hm
                      refine lc rfl rfl (r_call2 Try.call38 rfl rfl) (c_l18_kept N (frC 5 col_135) _ ra_37 rc_38 r_35.1 r_35.2 a1 cap1 p1_list (rh_39.toSlF (Froz.int .i64)) (h1.froz 5) r_137 hr_138) ?_
                      rintro _ w_139 ⟨rfl, hg_140⟩
                      refine ⟨_, rfl, ?_⟩
                      replace hg_140 : Grow col_135 w_133 col_135 w_139 := .of_below hg_140
                      replace rh_39 := rh_39.gr hg_140
                      replace h1 := h1.gr hg_140
                      replace hst := hst.grow hg_140
                      refine lv (v := (.bool r_137)) rfl rfl (r_pickT (congrArg Value.bool hg_136) rfl) ?_
                      refine lv (v := (.bool r_137)) rfl rfl (r_move rfl) ?_
                      by_cases hg_141 : r_137 = true
                      · rw [if_pos hg_141] at hm
                        refine lg (b := r_137) 84 rfl rfl rfl (by rw [hg_141]; rfl) ?_
                        refine lv (v := (.pointer none)) rfl rfl (r_move rfl) ?_
                        refine lg (b := r_137) 84 rfl rfl rfl (by rw [hg_141]; rfl) ?_
                        refine lv (v := (.pointer none)) rfl rfl (r_move rfl) ?_
                        refine lg (b := r_137) 84 rfl rfl rfl (by rw [hg_141]; rfl) ?_
                        obtain ⟨r_142, hr_143, hm⟩ := bind_some hm
                        refine lc rfl rfl (r_call2 Try.call39 rfl rfl) (c_l18_unchanged_v0n_v1n col_135 _ r_142 hr_143) ?_
                        rintro _ w_144 ⟨rfl, hg_145⟩
                        refine ⟨_, rfl, ?_⟩
                        replace hg_145 : Grow col_135 w_139 col_135 w_144 := .of_below hg_145
                        replace hst := hst.grow hg_145
                        refine lv (v := (.bool r_142)) rfl rfl (r_pickT (congrArg Value.bool hg_141) rfl) ?_
                        refine lv (v := (.bool r_142)) rfl rfl (r_assign rfl) ?_
                        refine lnil ?_
                        exact ⟨col_135, r_142, hm, hst, rfl, rfl⟩
                      · rw [if_neg hg_141] at hm
                        replace hg_141 := Bool.eq_false_iff.2 hg_141
                        refine lp (b := r_137) 84 rfl rfl rfl rfl (by rw [hg_141]; rfl) ?_
                        refine lp (b := r_137) 84 rfl rfl rfl rfl (by rw [hg_141]; rfl) ?_
                        refine lp (b := r_137) 84 rfl rfl rfl rfl (by rw [hg_141]; rfl) ?_
                        refine lv (v := (.bool false)) rfl rfl (r_pickF (congrArg Value.bool hg_141) rfl) ?_
                        refine lv (v := (.bool false)) rfl rfl (r_assign rfl) ?_
                        refine lnil ?_
                        exact ⟨col_135, false, hm, hst, rfl, rfl⟩
                    · rw [if_neg hg_136] at hm
                      replace hg_136 := Bool.eq_false_iff.2 hg_136
                      refine lp (b := r_129.1) 79 rfl rfl rfl rfl (by rw [hg_136]; rfl) ?_
                      refine lp (b := r_129.1) 79 rfl rfl rfl rfl (by rw [hg_136]; rfl) ?_
                      refine lp (b := r_129.1) 79 rfl rfl rfl rfl (by rw [hg_136]; rfl) ?_
                      refine lv (v := (.bool false)) rfl rfl (r_pickF (congrArg Value.bool hg_136) rfl) ?_
                      refine lv (v := (.bool false)) rfl rfl (r_move rfl) ?_
                      refine lp (b := false) 84 rfl rfl rfl rfl rfl ?_
                      refine lp (b := false) 84 rfl rfl rfl rfl rfl ?_
                      refine lp (b := false) 84 rfl rfl rfl rfl rfl ?_
                      refine lv (v := (.bool false)) rfl rfl (r_pickF rfl rfl) ?_
                      refine lv (v := (.bool false)) rfl rfl (r_assign rfl) ?_
                      refine lnil ?_
                      exact ⟨col_135, false, hm, hst, rfl, rfl⟩
                  · rw [if_neg hg_128] at hm
                    replace hg_128 := Bool.eq_false_iff.2 hg_128
                    refine lp (b := r_124) 75 rfl rfl rfl rfl (by rw [hg_128]; rfl) ?_
                    refine lp (b := r_124) 75 rfl rfl rfl rfl (by rw [hg_128]; rfl) ?_
                    refine lv (v := (.bool false)) rfl rfl (r_pickF (congrArg Value.bool hg_128) rfl) ?_
                    refine lv (v := (.bool false)) rfl rfl (r_move rfl) ?_
                    refine lp (b := false) 79 rfl rfl rfl rfl rfl ?_
                    refine lp (b := false) 79 rfl rfl rfl rfl rfl ?_
                    refine lp (b := false) 79 rfl rfl rfl rfl rfl ?_
                    refine lv (v := (.bool false)) rfl rfl (r_pickF rfl rfl) ?_
                    refine lv (v := (.bool false)) rfl rfl (r_move rfl) ?_
                    refine lp (b := false) 84 rfl rfl rfl rfl rfl ?_
                    refine lp (b := false) 84 rfl rfl rfl rfl rfl ?_
                    refine lp (b := false) 84 rfl rfl rfl rfl rfl ?_
                    refine lv (v := (.bool false)) rfl rfl (r_pickF rfl rfl) ?_
                    refine lv (v := (.bool false)) rfl rfl (r_assign rfl) ?_
                    refine lnil ?_
                    exact ⟨col_59, false, hm, hst, rfl, rfl⟩
                · rw [if_neg hg_123] at hm
                  replace hg_123 := Bool.eq_false_iff.2 hg_123
                  refine lp (b := decide (r_60.1 = r_64.1)) 70 rfl rfl rfl rfl (by rw [hg_123]; rfl) ?_
                  refine lp (b := decide (r_60.1 = r_64.1)) 70 rfl rfl rfl rfl (by rw [hg_123]; rfl) ?_
                  refine lp (b := decide (r_60.1 = r_64.1)) 70 rfl rfl rfl rfl (by rw [hg_123]; rfl) ?_
                  refine lv (v := (.bool false)) rfl rfl (r_pickF (congrArg Value.bool hg_123) rfl) ?_
                  refine lv (v := (.bool false)) rfl rfl (r_move rfl) ?_
                  refine lp (b := false) 75 rfl rfl rfl rfl rfl ?_
                  refine lp (b := false) 75 rfl rfl rfl rfl rfl ?_
                  refine lv (v := (.bool false)) rfl rfl (r_pickF rfl rfl) ?_
                  refine lv (v := (.bool false)) rfl rfl (r_move rfl) ?_
                  refine lp (b := false) 79 rfl rfl rfl rfl rfl ?_
                  refine lp (b := false) 79 rfl rfl rfl rfl rfl ?_
                  refine lp (b := false) 79 rfl rfl rfl rfl rfl ?_
                  refine lv (v := (.bool false)) rfl rfl (r_pickF rfl rfl) ?_
                  refine lv (v := (.bool false)) rfl rfl (r_move rfl) ?_
                  refine lp (b := false) 84 rfl rfl rfl rfl rfl ?_
                  refine lp (b := false) 84 rfl rfl rfl rfl rfl ?_
                  refine lp (b := false) 84 rfl rfl rfl rfl rfl ?_
                  refine lv (v := (.bool false)) rfl rfl (r_pickF rfl rfl) ?_
                  refine lv (v := (.bool false)) rfl rfl (r_assign rfl) ?_
                  refine lnil ?_
                  exact ⟨col_59, false, hm, hst, rfl, rfl⟩
              · rw [if_neg hg_122] at hm
                replace hg_122 := Bool.eq_false_iff.2 hg_122
                refine lp (b := decide (r_60.2 = r_64.2)) 65 rfl rfl rfl rfl (by rw [hg_122]; rfl) ?_
                refine lp (b := decide (r_60.2 = r_64.2)) 65 rfl rfl rfl rfl (by rw [hg_122]; rfl) ?_
                refine lp (b := decide (r_60.2 = r_64.2)) 65 rfl rfl rfl rfl (by rw [hg_122]; rfl) ?_
                refine lv (v := (.bool false)) rfl rfl (r_pickF (congrArg Value.bool hg_122) rfl) ?_
                refine lv (v := (.bool false)) rfl rfl (r_move rfl) ?_
                refine lp (b := false) 70 rfl rfl rfl rfl rfl ?_
                refine lp (b := false) 70 rfl rfl rfl rfl rfl ?_
                refine lp (b := false) 70 rfl rfl rfl rfl rfl ?_
                refine lv (v := (.bool false)) rfl rfl (r_pickF rfl rfl) ?_
                refine lv (v := (.bool false)) rfl rfl (r_move rfl) ?_
                refine lp (b := false) 75 rfl rfl rfl rfl rfl ?_
                refine lp (b := false) 75 rfl rfl rfl rfl rfl ?_
                refine lv (v := (.bool false)) rfl rfl (r_pickF rfl rfl) ?_
                refine lv (v := (.bool false)) rfl rfl (r_move rfl) ?_
                refine lp (b := false) 79 rfl rfl rfl rfl rfl ?_
                refine lp (b := false) 79 rfl rfl rfl rfl rfl ?_
                refine lp (b := false) 79 rfl rfl rfl rfl rfl ?_
                refine lv (v := (.bool false)) rfl rfl (r_pickF rfl rfl) ?_
                refine lv (v := (.bool false)) rfl rfl (r_move rfl) ?_
                refine lp (b := false) 84 rfl rfl rfl rfl rfl ?_
                refine lp (b := false) 84 rfl rfl rfl rfl rfl ?_
                refine lp (b := false) 84 rfl rfl rfl rfl rfl ?_
                refine lv (v := (.bool false)) rfl rfl (r_pickF rfl rfl) ?_
                refine lv (v := (.bool false)) rfl rfl (r_assign rfl) ?_
                refine lnil ?_
                exact ⟨col_59, false, hm, hst, rfl, rfl⟩
            · rw [if_neg hg_121] at hm
              replace hg_121 := Bool.eq_false_iff.2 hg_121
              refine lp (b := decide (r_43.2 = r_52.2)) 60 rfl rfl rfl rfl (by rw [hg_121]; rfl) ?_
              refine lp (b := decide (r_43.2 = r_52.2)) 60 rfl rfl rfl rfl (by rw [hg_121]; rfl) ?_
              refine lp (b := decide (r_43.2 = r_52.2)) 60 rfl rfl rfl rfl (by rw [hg_121]; rfl) ?_
              refine lv (v := (.bool false)) rfl rfl (r_pickF (congrArg Value.bool hg_121) rfl) ?_
              refine lv (v := (.bool false)) rfl rfl (r_move rfl) ?_
              refine lp (b := false) 65 rfl rfl rfl rfl rfl ?_
              refine lp (b := false) 65 rfl rfl rfl rfl rfl ?_
              refine lp (b := false) 65 rfl rfl rfl rfl rfl ?_
              refine lv (v := (.bool false)) rfl rfl (r_pickF rfl rfl) ?_
              refine lv (v := (.bool false)) rfl rfl (r_move rfl) ?_
              refine lp (b := false) 70 rfl rfl rfl rfl rfl ?_
              refine lp (b := false) 70 rfl rfl rfl rfl rfl ?_
              refine lp (b := false) 70 rfl rfl rfl rfl rfl ?_
              refine lv (v := (.bool false)) rfl rfl (r_pickF rfl rfl) ?_
              refine lv (v := (.bool false)) rfl rfl (r_move rfl) ?_
              refine lp (b := false) 75 rfl rfl rfl rfl rfl ?_
              refine lp (b := false) 75 rfl rfl rfl rfl rfl ?_
              refine lv (v := (.bool false)) rfl rfl (r_pickF rfl rfl) ?_
              refine lv (v := (.bool false)) rfl rfl (r_move rfl) ?_
              refine lp (b := false) 79 rfl rfl rfl rfl rfl ?_
              refine lp (b := false) 79 rfl rfl rfl rfl rfl ?_
              refine lp (b := false) 79 rfl rfl rfl rfl rfl ?_
              refine lv (v := (.bool false)) rfl rfl (r_pickF rfl rfl) ?_
              refine lv (v := (.bool false)) rfl rfl (r_move rfl) ?_
              refine lp (b := false) 84 rfl rfl rfl rfl rfl ?_
              refine lp (b := false) 84 rfl rfl rfl rfl rfl ?_
              refine lp (b := false) 84 rfl rfl rfl rfl rfl ?_
              refine lv (v := (.bool false)) rfl rfl (r_pickF rfl rfl) ?_
              refine lv (v := (.bool false)) rfl rfl (r_assign rfl) ?_
              refine lnil ?_
              exact ⟨col_59, false, hm, hst, rfl, rfl⟩
      · refine wregion ?_
        refine lv (v := (.bool r_6)) rfl rfl (r_move rfl) ?_
        refine lv (v := (.bool (!r_6))) rfl rfl (r_not r_6 rfl) ?_
        refine lv (v := (.bool (!r_6))) rfl rfl (r_move rfl) ?_
        by_cases hg_146 : (!r_6) = true
        · rw [if_pos hg_146] at hm
          refine lp (b := !r_6) 27 rfl rfl rfl rfl (by rw [hg_146]; rfl) ?_
          refine lp (b := !r_6) 27 rfl rfl rfl rfl (by rw [hg_146]; rfl) ?_
          refine lv (v := (.bool true)) rfl rfl (r_pickT (congrArg Value.bool hg_146) rfl) ?_
          refine lnil ?_
          exact ⟨col_18, true, hm, hst, h1, rfl, rfl, rfl, rfl, rfl⟩
        · rw [if_neg hg_146] at hm
          replace hg_146 := Bool.eq_false_iff.2 hg_146
          refine lg (b := !r_6) 27 rfl rfl rfl (by rw [hg_146]; rfl) ?_
          refine lv (v := (.bool r_10.2.2)) rfl rfl (r_move rfl) ?_
          refine lg (b := !r_6) 27 rfl rfl rfl (by rw [hg_146]; rfl) ?_
          refine lv (v := (.bool (!r_10.2.2))) rfl rfl (r_not r_10.2.2 rfl) ?_
          refine lv (v := (.bool (!r_10.2.2))) rfl rfl (r_pickF (congrArg Value.bool hg_146) rfl) ?_
          refine lnil ?_
          exact ⟨col_18, (!r_10.2.2), hm, hst, h1, rfl, rfl, rfl, rfl, rfl⟩
    | some t_23 =>
      rw [hx_24] at hm rh_15
      replace hm := optC_some hm
      obtain ⟨g_25, a_27, cap_28, rfl, hB_26, hO_29⟩ := optP_some rh_15
      cases hm
  | some t_19 =>
    rw [hx_20] at hm rh_13
    replace hm := optC_some hm
    obtain ⟨o_21, rfl, hG_22⟩ := optP_some rh_13
    cases hx_148 : r_10.2.1 with
    | none =>
      rw [hx_148] at hm rh_15
      replace hm := optC_none hm
      obtain rfl := optP_none rh_15
      clear rh_15
      cases hm
    | some t_147 =>
      rw [hx_148] at hm rh_15
      replace hm := optC_some hm
      obtain ⟨g_149, a_151, cap_152, rfl, hB_150, hO_153⟩ := optP_some rh_15
      refine lv (v := (.tuple #[(.pointer (some ⟨o_21.g, 0, none⟩)), (.pointer (some ⟨g_149, 0, none⟩)), (.bool r_10.2.2)])) rfl rfl (r_move rfl) ?_
      refine lv (v := (.pointer (some ⟨o_21.g, 0, none⟩))) rfl rfl (r_extract rfl rfl) ?_
      refine lv (v := (.pointer (some ⟨g_149, 0, none⟩))) rfl rfl (r_extract rfl rfl) ?_
      refine lv (v := (.bool r_10.2.2)) rfl rfl (r_extract rfl rfl) ?_
      refine lv (v := (.pointer (some ⟨o_21.g, 0, none⟩))) rfl rfl (r_assign rfl) ?_
      refine lv (v := (.pointer (some ⟨g_149, 0, none⟩))) rfl rfl (r_assign rfl) ?_
      refine lv (v := (.bool r_10.2.2)) rfl rfl (r_assign rfl) ?_
      refine lnil ?_
      refine wseq ?_
      refine wseq ?_
      refine Wp.cut (fun f w_156 => ∃ (col_157 : Col) (v_158 : Bool), m_l18_OrderCliques_J3 N p1_list t_19 t_147 v_158 = some r ∧ St w0 (col0 col) col_157 w_156 ∧ Sl (Rep.int .i64) col_157 w_156 a1 cap1 p1_list ∧ GO 85 86 2 col_157 w_156 o_21 t_19 ∧ Own (Rep.row 4 Rep.bool) 26 4 col_157 w_156 a_151 cap_152 t_147 ∧ Box 102 3 col_157 w_156 g_149 #[(.slice a_151 t_147.length cap_152)] ∧ f 1 = (.slice a1 p1_list.length cap1) ∧ f 30 = (.bool v_158) ∧ f 6 = (.pointer (some ⟨o_21.g, 0, none⟩)) ∧ f 7 = (.pointer (some ⟨g_149, 0, none⟩)) ∧ f 1000000 = (enc [])) ?_ ?_
      · intro f w_156 hJ
        obtain ⟨col_157, v_158, hm, hst, h1, hG_22, hO_153, hB_150, hs1, hs30, hs6, hs7, hs1000000⟩ := hJ
        rw [m_l18_OrderCliques_J3.eq_1] at hm
        refine .ld (d := 1) (v := (.slice a1 p1_list.length cap1)) hs1 ?_
        refine .ld (d := 30) (v := (.bool v_158)) hs30 ?_
        refine .ld (d := 6) (v := (.pointer (some ⟨o_21.g, 0, none⟩))) hs6 ?_
        refine .ld (d := 7) (v := (.pointer (some ⟨g_149, 0, none⟩))) hs7 ?_
        refine .ld (d := 1000000) (v := (enc [])) hs1000000 ?_
        clear hs1 hs30 hs6 hs7 hs1000000
        refine wcond (v_158) rfl (fun hb => ?_) (fun hb => ?_)
        · rw [if_pos hb] at hm
          clear hb
          refine wseq ?_
          refine wregion ?_
          refine lv (v := (.bool false)) rfl rfl (r_assign rfl) ?_
          refine lnil ?_
          refine wret ?_
          cases hm
          exact ⟨rfl, rfl, hst.below⟩
        · rw [if_neg (by rw [hb]; decide)] at hm
          clear hb
          refine wskip ?_
          refine wseq ?_
          refine wregion ?_
          refine lv (v := (.slice a1 p1_list.length cap1)) rfl rfl (r_move rfl) ?_
          obtain ⟨r_159, hr_160, hm⟩ := bind_some hm
          refine lc rfl rfl (r_call1 Try.call31 rfl) (c_l18_ints N 8 col_157 _ a1 cap1 p1_list h1 r_159 hr_160) ?_
          rintro _ w_164 ⟨col_166, ra_161, rc_162, rfl, hg_165, rh_163⟩
          refine ⟨_, rfl, ?_⟩
          replace h1 := h1.gr hg_165
          replace hG_22 := hG_22.gr hg_165
          replace hO_153 := hO_153.gr hg_165
          replace hB_150 := hB_150.gr hg_165
          replace hst := hst.grow hg_165
          refine lv (v := (.slice ra_161 ((r_159.2.take r_159.1).length) rc_162)) rfl rfl (r_assign rfl) ?_
          refine lnil ?_
          refine wseq ?_
          refine wregion ?_
          refine lv (v := (.pointer (some ⟨o_21.g, 0, none⟩))) rfl rfl (r_move rfl) ?_
          refine lv (v := (.slice ra_161 ((r_159.2.take r_159.1).length) rc_162)) rfl rfl (r_move rfl) ?_
          obtain ⟨r_167, hr_168, hm⟩ := bind_some hm
          refine lc rfl rfl (r_call2 Try.call40 rfl rfl) (c_order_Cliques N 9 (frC 8 col_166) _ 2 (by decide) o_21 t_19 ra_161 rc_162 (r_159.2.take r_159.1) (hG_22.froz 8 (by decide)) ((rh_163.take r_159.1).toSlF (Froz.int .i64)) r_167 hr_168) ?_
          rintro _ w_172 ⟨col_174, ra_169, rc_170, rfl, hg_173, rh_171⟩
          refine ⟨_, rfl, ?_⟩
          replace rh_171 := rh_171.thaw (flat_row (flat_int .i64)) hg_173 ((Fz.refl (col := col_166)).froz 8) (by decide)
          replace hg_173 := hg_173.thawR (col := col_166)
          generalize colR w_164.heap.size col_166 col_174 = col_175 at *
          replace h1 := h1.gr hg_173
          replace hG_22 := hG_22.gr hg_173
          replace hO_153 := hO_153.gr hg_173
          replace rh_163 := rh_163.gr hg_173
          replace hB_150 := hB_150.gr hg_173
          replace hst := hst.grow hg_173
          refine lv (v := (.tuple #[(.slice ra_169 r_167.1.length rc_170), (.int .i64 r_167.2)])) rfl rfl (r_move rfl) ?_
          refine lv (v := (.slice ra_169 r_167.1.length rc_170)) rfl rfl (r_extract rfl rfl) ?_
          refine lv (v := (.int .i64 r_167.2)) rfl rfl (r_extract rfl rfl) ?_
          refine lv (v := (.slice ra_169 r_167.1.length rc_170)) rfl rfl (r_assign rfl) ?_
          refine lv (v := (.int .i64 r_167.2)) rfl rfl (r_assign rfl) ?_
          refine lnil ?_
          refine wseq ?_
          refine wregion ?_
          refine lv (v := (.pointer (some ⟨g_149, 0, none⟩))) rfl rfl (r_move rfl) ?_
          refine lv (v := (.slice a1 p1_list.length cap1)) rfl rfl (r_move rfl) ?_
          obtain ⟨r_176, hr_177, hm⟩ := bind_some hm
          refine lc rfl rfl (r_call2 Try.call41 rfl rfl) (c_r18_Cliques N 10 col_175 _ 3 4 (by decide) (by decide) g_149 t_147 a_151 cap_152 a1 cap1 p1_list hO_153 hB_150 h1 r_176 hr_177) ?_
          rintro _ w_181 ⟨col_183, ra_178, rc_179, rfl, hg_182, rh_180⟩
          refine ⟨_, rfl, ?_⟩
          replace h1 := h1.gr hg_182
          replace hG_22 := hG_22.gr hg_182
          replace hO_153 := hO_153.gr hg_182
          replace rh_163 := rh_163.gr hg_182
          replace rh_171 := rh_171.gr hg_182
          replace hB_150 := hB_150.gr hg_182
          replace hst := hst.grow hg_182
          refine lv (v := (.tuple #[(.slice ra_178 r_176.1.length rc_179), (.int .i64 r_176.2)])) rfl rfl (r_move rfl) ?_
          refine lv (v := (.slice ra_178 r_176.1.length rc_179)) rfl rfl (r_extract rfl rfl) ?_
          refine lv (v := (.int .i64 r_176.2)) rfl rfl (r_extract rfl rfl) ?_
          refine lv (v := (.slice ra_178 r_176.1.length rc_179)) rfl rfl (r_assign rfl) ?_
          refine lv (v := (.int .i64 r_176.2)) rfl rfl (r_assign rfl) ?_
          refine lnil ?_
          refine wseq ?_
          refine wregion ?_
          refine lv (v := (.pointer (some ⟨o_21.g, 0, none⟩))) rfl rfl (r_move rfl) ?_
          refine lv (v := (.slice ra_161 ((r_159.2.take r_159.1).length) rc_162)) rfl rfl (r_move rfl) ?_
          obtain ⟨r_184, hr_185, hm⟩ := bind_some hm
          refine lc rfl rfl (r_call2 Try.call42 rfl rfl) (c_order_Width N (frC 8 col_183) _ 2 (by decide) o_21 t_19 ra_161 rc_162 (r_159.2.take r_159.1) (hG_22.froz 8 (by decide)) ((rh_163.take r_159.1).toSlF (Froz.int .i64)) r_184 hr_185) ?_
          rintro _ w_186 ⟨rfl, hg_187⟩
          refine ⟨_, rfl, ?_⟩
          replace hg_187 : Grow col_183 w_181 col_183 w_186 := .of_below hg_187
          replace h1 := h1.gr hg_187
          replace hG_22 := hG_22.gr hg_187
          replace hO_153 := hO_153.gr hg_187
          replace rh_163 := rh_163.gr hg_187
          replace rh_171 := rh_171.gr hg_187
          replace rh_180 := rh_180.gr hg_187
          replace hB_150 := hB_150.gr hg_187
          replace hst := hst.grow hg_187
          refine lv (v := (.tuple #[(.int .i64 r_184.1), (.int .i64 r_184.2)])) rfl rfl (r_move rfl) ?_
          refine lv (v := (.int .i64 r_184.1)) rfl rfl (r_extract rfl rfl) ?_
          refine lv (v := (.int .i64 r_184.2)) rfl rfl (r_extract rfl rfl) ?_
          refine lv (v := (.int .i64 r_184.1)) rfl rfl (r_assign rfl) ?_
          refine lv (v := (.int .i64 r_184.2)) rfl rfl (r_assign rfl) ?_
          refine lnil ?_
          refine wseq ?_
          refine wregion ?_
          refine lv (v := (.pointer (some ⟨g_149, 0, none⟩))) rfl rfl (r_move rfl) ?_
          refine lv (v := (.slice a1 p1_list.length cap1)) rfl rfl (r_move rfl) ?_
          obtain ⟨r_188, hr_189, hm⟩ := bind_some hm
          refine lc rfl rfl (r_call2 Try.call43 rfl rfl) (c_r18_Width N col_183 _ 3 4 (by decide) (by decide) g_149 t_147 a_151 cap_152 a1 cap1 p1_list hO_153 hB_150 h1 r_188 hr_189) ?_
          rintro _ w_190 ⟨rfl, hg_191⟩
          refine ⟨_, rfl, ?_⟩
          replace hg_191 : Grow col_183 w_186 col_183 w_190 := .of_below hg_191
          replace h1 := h1.gr hg_191
          replace hG_22 := hG_22.gr hg_191
          replace hO_153 := hO_153.gr hg_191
          replace rh_163 := rh_163.gr hg_191
          replace rh_171 := rh_171.gr hg_191
          replace rh_180 := rh_180.gr hg_191
          replace hB_150 := hB_150.gr hg_191
          replace hst := hst.grow hg_191
          refine lv (v := (.tuple #[(.int .i64 r_188.1), (.int .i64 r_188.2)])) rfl rfl (r_move rfl) ?_
          refine lv (v := (.int .i64 r_188.1)) rfl rfl (r_extract rfl rfl) ?_
          refine lv (v := (.int .i64 r_188.2)) rfl rfl (r_extract rfl rfl) ?_
          refine lv (v := (.int .i64 r_188.1)) rfl rfl (r_assign rfl) ?_
          refine lv (v := (.int .i64 r_188.2)) rfl rfl (r_assign rfl) ?_
          refine lnil ?_
          refine wseq ?_
          refine Wp.cut (fun f w_242 => ∃ (col_243 : Col) (v_244 : Bool), m_l18_OrderCliques_J4 v_244 = some r ∧ St w0 (col0 col) col_243 w_242 ∧ f 4 = (.bool v_244) ∧ f 1000000 = (enc [])) ?_ ?_
          · intro f w_242 hJ
            obtain ⟨col_243, v_244, hm, hst, hs4, hs1000000⟩ := hJ
            rw [m_l18_OrderCliques_J4.eq_1] at hm
            refine .ld (d := 4) (v := (.bool v_244)) hs4 ?_
            refine .ld (d := 1000000) (v := (enc [])) hs1000000 ?_
            clear hs4 hs1000000
            refine wret ?_
            cases hm
            exact ⟨rfl, rfl, hst.below⟩
          · refine wregion ?_
            refine lv (v := (.int .i64 r_167.2)) rfl rfl (r_move rfl) ?_
            refine lv (v := (.int .i64 r_176.2)) rfl rfl (r_move rfl) ?_
            refine lv (v := (.bool (decide (r_167.2 = r_176.2)))) rfl rfl (r_eql r_167.2 r_176.2 rfl rfl) ?_
            refine lv (v := (.bool (decide (r_167.2 = r_176.2)))) rfl rfl (r_move rfl) ?_
            by_cases hg_245 : (decide (r_167.2 = r_176.2)) = true
            · rw [if_pos hg_245] at hm
              refine lg (b := decide (r_167.2 = r_176.2)) 60 rfl rfl rfl (by rw [hg_245]; rfl) ?_
              refine lv (v := (.int .i64 r_184.2)) rfl rfl (r_move rfl) ?_
              refine lg (b := decide (r_167.2 = r_176.2)) 60 rfl rfl rfl (by rw [hg_245]; rfl) ?_
              refine lv (v := (.int .i64 r_188.2)) rfl rfl (r_move rfl) ?_
              refine lg (b := decide (r_167.2 = r_176.2)) 60 rfl rfl rfl (by rw [hg_245]; rfl) ?_
              refine lv (v := (.bool (decide (r_184.2 = r_188.2)))) rfl rfl (r_eql r_184.2 r_188.2 rfl rfl) ?_
              refine lv (v := (.bool (decide (r_184.2 = r_188.2)))) rfl rfl (r_pickT (congrArg Value.bool hg_245) rfl) ?_
              refine lv (v := (.bool (decide (r_184.2 = r_188.2)))) rfl rfl (r_move rfl) ?_
              by_cases hg_246 : (decide (r_184.2 = r_188.2)) = true
              · rw [if_pos hg_246] at hm
                refine lg (b := decide (r_184.2 = r_188.2)) 65 rfl rfl rfl (by rw [hg_246]; rfl) ?_
                refine lv (v := (.int .i64 r_184.1)) rfl rfl (r_move rfl) ?_
                refine lg (b := decide (r_184.2 = r_188.2)) 65 rfl rfl rfl (by rw [hg_246]; rfl) ?_
                refine lv (v := (.int .i64 r_188.1)) rfl rfl (r_move rfl) ?_
                refine lg (b := decide (r_184.2 = r_188.2)) 65 rfl rfl rfl (by rw [hg_246]; rfl) ?_
                refine lv (v := (.bool (decide (r_184.1 = r_188.1)))) rfl rfl (r_eql r_184.1 r_188.1 rfl rfl) ?_
                refine lv (v := (.bool (decide (r_184.1 = r_188.1)))) rfl rfl (r_pickT (congrArg Value.bool hg_246) rfl) ?_
                refine lv (v := (.bool (decide (r_184.1 = r_188.1)))) rfl rfl (r_move rfl) ?_
                by_cases hg_247 : (decide (r_184.1 = r_188.1)) = true
                · rw [if_pos hg_247] at hm
                  refine lg (b := decide (r_184.1 = r_188.1)) 70 rfl rfl rfl (by rw [hg_247]; rfl) ?_
                  refine lv (v := (.slice ra_169 r_167.1.length rc_170)) rfl rfl (r_move rfl) ?_
                  refine lg (b := decide (r_184.1 = r_188.1)) 70 rfl rfl rfl (by rw [hg_247]; rfl) ?_
                  refine lv (v := (.slice ra_178 r_176.1.length rc_179)) rfl rfl (r_move rfl) ?_
                  refine lg (b := decide (r_184.1 = r_188.1)) 70 rfl rfl rfl (by rw [hg_247]; rfl) ?_
                  obtain ⟨r_248, hr_249, hm⟩ := bind_some hm
                  refine lc rfl rfl (r_call2 Try.call44 rfl rfl) (c_r15_Lists N (frC 10 (frC 9 col_183)) _ ra_169 rc_170 r_167.1 ra_178 rc_179 r_176.1 ((rh_171.toSlF (Froz.row (Froz.int .i64))).froz 10) ((rh_180.froz 9 (by decide)).toSlF (Froz.row (Froz.int .i64))) r_248 hr_249) ?_
                  rintro _ w_250 ⟨rfl, hg_251⟩
                  refine ⟨_, rfl, ?_⟩
                  replace hg_251 : Grow col_183 w_190 col_183 w_250 := .of_below hg_251
                  replace h1 := h1.gr hg_251
                  replace hG_22 := hG_22.gr hg_251
                  replace hO_153 := hO_153.gr hg_251
                  replace rh_163 := rh_163.gr hg_251
                  replace rh_171 := rh_171.gr hg_251
                  replace rh_180 := rh_180.gr hg_251
                  replace hB_150 := hB_150.gr hg_251
                  replace hst := hst.grow hg_251
                  refine lv (v := (.bool r_248)) rfl rfl (r_pickT (congrArg Value.bool hg_247) rfl) ?_
                  refine lv (v := (.bool r_248)) rfl rfl (r_move rfl) ?_
                  by_cases hg_252 : r_248 = true
                  · rw [if_pos hg_252] at hm
                    refine lg (b := r_248) 75 rfl rfl rfl (by rw [hg_252]; rfl) ?_
                    refine lv (v := (.slice ra_169 r_167.1.length rc_170)) rfl rfl (r_move rfl) ?_
                    refine lg (b := r_248) 75 rfl rfl rfl (by rw [hg_252]; rfl) ?_
                    obtain ⟨r_253, hr_254, hm⟩ := bind_some hm
                    refine lc rfl rfl (r_call1 Try.call37 (congrArg (fun n => Value.slice ra_169 n rc_170) (List.length_map ..).symm)) (c_r15_Apart N col_183 _ 9 rfl ra_169 rc_170 (r_167.1.map fun x => (x, false)) (rh_171).half r_253 hr_254) ?_
                    rintro _ w_257 ⟨col_259, rfl, hg_258, oh_255, ohl_256⟩
                    refine ⟨_, rfl, ?_⟩
                    replace h1 := h1.kpp hg_258 rfl
                    replace hG_22 := hG_22.kpp hg_258 rfl rfl
                    replace hO_153 := hO_153.kpp hg_258 rfl rfl
                    replace rh_163 := rh_163.kpp hg_258 rfl rfl
                    replace hB_150 := hB_150.kpp hg_258 rfl
                    replace hst := hst.kpp hg_258 rfl rfl
                    clear rh_171
                    refine lv (v := (.bool r_253.1)) rfl rfl (r_pickT (congrArg Value.bool hg_252) rfl) ?_
                    refine lv (v := (.bool r_253.1)) rfl rfl (r_move rfl) ?_
                    by_cases hg_260 : r_253.1 = true
                    · rw [if_pos hg_260] at hm
                      refine lg (b := r_253.1) 79 rfl rfl rfl (by rw [hg_260]; rfl) ?_
                      refine lv (v := (.slice ra_161 ((r_159.2.take r_159.1).length) rc_162)) rfl rfl (r_move rfl) ?_
                      refine lg (b := r_253.1) 79 rfl rfl rfl (by rw [hg_260]; rfl) ?_
                      refine lv (v := (.slice a1 p1_list.length cap1)) rfl rfl (r_move rfl) ?_
                      refine lg (b := r_253.1) 79 rfl rfl rfl (by rw [hg_260]; rfl) ?_
                      obtain ⟨r_261, hr_262, hm⟩ := bind_some hm
                      refine lc rfl rfl (r_call2 Try.call38 rfl rfl) (c_l18_kept N (frC 8 col_259) _ ra_161 rc_162 r_159.1 r_159.2 a1 cap1 p1_list (rh_163.toSlF (Froz.int .i64)) (h1.froz 8) r_261 hr_262) ?_
                      rintro _ w_263 ⟨rfl, hg_264⟩
                      refine ⟨_, rfl, ?_⟩
                      replace hg_264 : Grow col_259 w_257 col_259 w_263 := .of_below hg_264
                      replace hG_22 := hG_22.gr hg_264
                      replace hO_153 := hO_153.gr hg_264
                      replace rh_163 := rh_163.gr hg_264
                      replace h1 := h1.gr hg_264
                      replace hB_150 := hB_150.gr hg_264
                      replace hst := hst.grow hg_264
                      refine lv (v := (.bool r_261)) rfl rfl (r_pickT (congrArg Value.bool hg_260) rfl) ?_
                      refine lv (v := (.bool r_261)) rfl rfl (r_move rfl) ?_
                      by_cases hg_265 : r_261 = true
                      · rw [if_pos hg_265] at hm
                        refine lg (b := r_261) 84 rfl rfl rfl (by rw [hg_265]; rfl) ?_
                        refine lv (v := (.pointer (some ⟨o_21.g, 0, none⟩))) rfl rfl (r_move rfl) ?_
                        refine lg (b := r_261) 84 rfl rfl rfl (by rw [hg_265]; rfl) ?_
                        refine lv (v := (.pointer (some ⟨g_149, 0, none⟩))) rfl rfl (r_move rfl) ?_
                        refine lg (b := r_261) 84 rfl rfl rfl (by rw [hg_265]; rfl) ?_
                        obtain ⟨r_266, hr_267, hm⟩ := bind_some hm
                        refine lc rfl rfl (r_call2 Try.call39 rfl rfl) (c_l18_unchanged N col_259 _ 2 3 4 (by decide) (by decide) (by decide) o_21 t_19 g_149 t_147 a_151 cap_152 hG_22 hO_153 hB_150 r_266 hr_267) ?_
                        rintro _ w_268 ⟨rfl, hg_269⟩
                        refine ⟨_, rfl, ?_⟩
                        replace hg_269 : Grow col_259 w_263 col_259 w_268 := .of_below hg_269
                        replace hG_22 := hG_22.gr hg_269
                        replace hO_153 := hO_153.gr hg_269
                        replace hB_150 := hB_150.gr hg_269
                        replace hst := hst.grow hg_269
                        refine lv (v := (.bool r_266)) rfl rfl (r_pickT (congrArg Value.bool hg_265) rfl) ?_
                        refine lv (v := (.bool r_266)) rfl rfl (r_assign rfl) ?_
                        refine lnil ?_
                        exact ⟨col_259, r_266, hm, hst, rfl, rfl⟩
                      · rw [if_neg hg_265] at hm
                        replace hg_265 := Bool.eq_false_iff.2 hg_265
                        refine lp (b := r_261) 84 rfl rfl rfl rfl (by rw [hg_265]; rfl) ?_
                        refine lp (b := r_261) 84 rfl rfl rfl rfl (by rw [hg_265]; rfl) ?_
                        refine lp (b := r_261) 84 rfl rfl rfl rfl (by rw [hg_265]; rfl) ?_
                        refine lv (v := (.bool false)) rfl rfl (r_pickF (congrArg Value.bool hg_265) rfl) ?_
                        refine lv (v := (.bool false)) rfl rfl (r_assign rfl) ?_
                        refine lnil ?_
                        exact ⟨col_259, false, hm, hst, rfl, rfl⟩
                    · rw [if_neg hg_260] at hm
                      replace hg_260 := Bool.eq_false_iff.2 hg_260
                      refine lp (b := r_253.1) 79 rfl rfl rfl rfl (by rw [hg_260]; rfl) ?_
                      refine lp (b := r_253.1) 79 rfl rfl rfl rfl (by rw [hg_260]; rfl) ?_
                      refine lp (b := r_253.1) 79 rfl rfl rfl rfl (by rw [hg_260]; rfl) ?_
                      refine lv (v := (.bool false)) rfl rfl (r_pickF (congrArg Value.bool hg_260) rfl) ?_
                      refine lv (v := (.bool false)) rfl rfl (r_move rfl) ?_
                      refine lp (b := false) 84 rfl rfl rfl rfl rfl ?_
                      refine lp (b := false) 84 rfl rfl rfl rfl rfl ?_
                      refine lp (b := false) 84 rfl rfl rfl rfl rfl ?_
                      refine lv (v := (.bool false)) rfl rfl (r_pickF rfl rfl) ?_
                      refine lv (v := (.bool false)) rfl rfl (r_assign rfl) ?_
                      refine lnil ?_
                      exact ⟨col_259, false, hm, hst, rfl, rfl⟩
                  · rw [if_neg hg_252] at hm
                    replace hg_252 := Bool.eq_false_iff.2 hg_252
                    refine lp (b := r_248) 75 rfl rfl rfl rfl (by rw [hg_252]; rfl) ?_
                    refine lp (b := r_248) 75 rfl rfl rfl rfl (by rw [hg_252]; rfl) ?_
                    refine lv (v := (.bool false)) rfl rfl (r_pickF (congrArg Value.bool hg_252) rfl) ?_
                    refine lv (v := (.bool false)) rfl rfl (r_move rfl) ?_
                    refine lp (b := false) 79 rfl rfl rfl rfl rfl ?_
                    refine lp (b := false) 79 rfl rfl rfl rfl rfl ?_
                    refine lp (b := false) 79 rfl rfl rfl rfl rfl ?_
                    refine lv (v := (.bool false)) rfl rfl (r_pickF rfl rfl) ?_
                    refine lv (v := (.bool false)) rfl rfl (r_move rfl) ?_
                    refine lp (b := false) 84 rfl rfl rfl rfl rfl ?_
                    refine lp (b := false) 84 rfl rfl rfl rfl rfl ?_
                    refine lp (b := false) 84 rfl rfl rfl rfl rfl ?_
                    refine lv (v := (.bool false)) rfl rfl (r_pickF rfl rfl) ?_
                    refine lv (v := (.bool false)) rfl rfl (r_assign rfl) ?_
                    refine lnil ?_
                    exact ⟨col_183, false, hm, hst, rfl, rfl⟩
                · rw [if_neg hg_247] at hm
                  replace hg_247 := Bool.eq_false_iff.2 hg_247
                  refine lp (b := decide (r_184.1 = r_188.1)) 70 rfl rfl rfl rfl (by rw [hg_247]; rfl) ?_
                  refine lp (b := decide (r_184.1 = r_188.1)) 70 rfl rfl rfl rfl (by rw [hg_247]; rfl) ?_
                  refine lp (b := decide (r_184.1 = r_188.1)) 70 rfl rfl rfl rfl (by rw [hg_247]; rfl) ?_
                  refine lv (v := (.bool false)) rfl rfl (r_pickF (congrArg Value.bool hg_247) rfl) ?_
                  refine lv (v := (.bool false)) rfl rfl (r_move rfl) ?_
                  refine lp (b := false) 75 rfl rfl rfl rfl rfl ?_
                  refine lp (b := false) 75 rfl rfl rfl rfl rfl ?_
                  refine lv (v := (.bool false)) rfl rfl (r_pickF rfl rfl) ?_
                  refine lv (v := (.bool false)) rfl rfl (r_move rfl) ?_
                  refine lp (b := false) 79 rfl rfl rfl rfl rfl ?_
                  refine lp (b := false) 79 rfl rfl rfl rfl rfl ?_
                  refine lp (b := false) 79 rfl rfl rfl rfl rfl ?_
                  refine lv (v := (.bool false)) rfl rfl (r_pickF rfl rfl) ?_
                  refine lv (v := (.bool false)) rfl rfl (r_move rfl) ?_
                  refine lp (b := false) 84 rfl rfl rfl rfl rfl ?_
                  refine lp (b := false) 84 rfl rfl rfl rfl rfl ?_
                  refine lp (b := false) 84 rfl rfl rfl rfl rfl ?_
                  refine lv (v := (.bool false)) rfl rfl (r_pickF rfl rfl) ?_
                  refine lv (v := (.bool false)) rfl rfl (r_assign rfl) ?_
                  refine lnil ?_
                  exact ⟨col_183, false, hm, hst, rfl, rfl⟩
              · rw [if_neg hg_246] at hm
                replace hg_246 := Bool.eq_false_iff.2 hg_246
                refine lp (b := decide (r_184.2 = r_188.2)) 65 rfl rfl rfl rfl (by rw [hg_246]; rfl) ?_
                refine lp (b := decide (r_184.2 = r_188.2)) 65 rfl rfl rfl rfl (by rw [hg_246]; rfl) ?_
                refine lp (b := decide (r_184.2 = r_188.2)) 65 rfl rfl rfl rfl (by rw [hg_246]; rfl) ?_
                refine lv (v := (.bool false)) rfl rfl (r_pickF (congrArg Value.bool hg_246) rfl) ?_
                refine lv (v := (.bool false)) rfl rfl (r_move rfl) ?_
                refine lp (b := false) 70 rfl rfl rfl rfl rfl ?_
                refine lp (b := false) 70 rfl rfl rfl rfl rfl ?_
                refine lp (b := false) 70 rfl rfl rfl rfl rfl ?_
                refine lv (v := (.bool false)) rfl rfl (r_pickF rfl rfl) ?_
                refine lv (v := (.bool false)) rfl rfl (r_move rfl) ?_
                refine lp (b := false) 75 rfl rfl rfl rfl rfl ?_
                refine lp (b := false) 75 rfl rfl rfl rfl rfl ?_
                refine lv (v := (.bool false)) rfl rfl (r_pickF rfl rfl) ?_
                refine lv (v := (.bool false)) rfl rfl (r_move rfl) ?_
                refine lp (b := false) 79 rfl rfl rfl rfl rfl ?_
                refine lp (b := false) 79 rfl rfl rfl rfl rfl ?_
                refine lp (b := false) 79 rfl rfl rfl rfl rfl ?_
                refine lv (v := (.bool false)) rfl rfl (r_pickF rfl rfl) ?_
                refine lv (v := (.bool false)) rfl rfl (r_move rfl) ?_
                refine lp (b := false) 84 rfl rfl rfl rfl rfl ?_
                refine lp (b := false) 84 rfl rfl rfl rfl rfl ?_
                refine lp (b := false) 84 rfl rfl rfl rfl rfl ?_
                refine lv (v := (.bool false)) rfl rfl (r_pickF rfl rfl) ?_
                refine lv (v := (.bool false)) rfl rfl (r_assign rfl) ?_
                refine lnil ?_
                exact ⟨col_183, false, hm, hst, rfl, rfl⟩
            · rw [if_neg hg_245] at hm
              replace hg_245 := Bool.eq_false_iff.2 hg_245
              refine lp (b := decide (r_167.2 = r_176.2)) 60 rfl rfl rfl rfl (by rw [hg_245]; rfl) ?_
              refine lp (b := decide (r_167.2 = r_176.2)) 60 rfl rfl rfl rfl (by rw [hg_245]; rfl) ?_
              refine lp (b := decide (r_167.2 = r_176.2)) 60 rfl rfl rfl rfl (by rw [hg_245]; rfl) ?_
              refine lv (v := (.bool false)) rfl rfl (r_pickF (congrArg Value.bool hg_245) rfl) ?_
              refine lv (v := (.bool false)) rfl rfl (r_move rfl) ?_
              refine lp (b := false) 65 rfl rfl rfl rfl rfl ?_
              refine lp (b := false) 65 rfl rfl rfl rfl rfl ?_
              refine lp (b := false) 65 rfl rfl rfl rfl rfl ?_
              refine lv (v := (.bool false)) rfl rfl (r_pickF rfl rfl) ?_
              refine lv (v := (.bool false)) rfl rfl (r_move rfl) ?_
              refine lp (b := false) 70 rfl rfl rfl rfl rfl ?_
              refine lp (b := false) 70 rfl rfl rfl rfl rfl ?_
              refine lp (b := false) 70 rfl rfl rfl rfl rfl ?_
              refine lv (v := (.bool false)) rfl rfl (r_pickF rfl rfl) ?_
              refine lv (v := (.bool false)) rfl rfl (r_move rfl) ?_
              refine lp (b := false) 75 rfl rfl rfl rfl rfl ?_
              refine lp (b := false) 75 rfl rfl rfl rfl rfl ?_
              refine lv (v := (.bool false)) rfl rfl (r_pickF rfl rfl) ?_
              refine lv (v := (.bool false)) rfl rfl (r_move rfl) ?_
              refine lp (b := false) 79 rfl rfl rfl rfl rfl ?_
              refine lp (b := false) 79 rfl rfl rfl rfl rfl ?_
              refine lp (b := false) 79 rfl rfl rfl rfl rfl ?_
              refine lv (v := (.bool false)) rfl rfl (r_pickF rfl rfl) ?_
              refine lv (v := (.bool false)) rfl rfl (r_move rfl) ?_
              refine lp (b := false) 84 rfl rfl rfl rfl rfl ?_
              refine lp (b := false) 84 rfl rfl rfl rfl rfl ?_
              refine lp (b := false) 84 rfl rfl rfl rfl rfl ?_
              refine lv (v := (.bool false)) rfl rfl (r_pickF rfl rfl) ?_
              refine lv (v := (.bool false)) rfl rfl (r_assign rfl) ?_
              refine lnil ?_
              exact ⟨col_183, false, hm, hst, rfl, rfl⟩
      · refine wregion ?_
        refine lv (v := (.bool r_6)) rfl rfl (r_move rfl) ?_
        refine lv (v := (.bool (!r_6))) rfl rfl (r_not r_6 rfl) ?_
        refine lv (v := (.bool (!r_6))) rfl rfl (r_move rfl) ?_
        by_cases hg_270 : (!r_6) = true
        · rw [if_pos hg_270] at hm
          refine lp (b := !r_6) 27 rfl rfl rfl rfl (by rw [hg_270]; rfl) ?_
          refine lp (b := !r_6) 27 rfl rfl rfl rfl (by rw [hg_270]; rfl) ?_
          refine lv (v := (.bool true)) rfl rfl (r_pickT (congrArg Value.bool hg_270) rfl) ?_
          refine lnil ?_
          exact ⟨col_18, true, hm, hst, h1, hG_22, hO_153, hB_150, rfl, rfl, rfl, rfl, rfl⟩
        · rw [if_neg hg_270] at hm
          replace hg_270 := Bool.eq_false_iff.2 hg_270
          refine lg (b := !r_6) 27 rfl rfl rfl (by rw [hg_270]; rfl) ?_
          refine lv (v := (.bool r_10.2.2)) rfl rfl (r_move rfl) ?_
          refine lg (b := !r_6) 27 rfl rfl rfl (by rw [hg_270]; rfl) ?_
          refine lv (v := (.bool (!r_10.2.2))) rfl rfl (r_not r_10.2.2 rfl) ?_
          refine lv (v := (.bool (!r_10.2.2))) rfl rfl (r_pickF (congrArg Value.bool hg_270) rfl) ?_
          refine lnil ?_
          exact ⟨col_18, (!r_10.2.2), hm, hst, h1, hG_22, hO_153, hB_150, rfl, rfl, rfl, rfl, rfl⟩



section
variable {n N : Nat} {t u : List (List Bool)} {a b x y : Int}
theorem ints15_L1 (l : List Int) (hl : l.length ≤ 1048576) : ∀ (f i : Nat), i ≤ l.length → l.length - i < f → m_r15_Ints_L1 N l l f (i : Int) = some true
  | 0, i, _, hf => by omega
  | f + 1, i, hi, hf => by
    rw [m_r15_Ints_L1.eq_2]
    by_cases hlt : i < l.length
    · rw [if_pos (decide_eq_true (by omega)), at?_lt hlt]
      simp only [Option.bind_some]
      rw [if_neg (by simp), wS (by omega)]
      exact ints15_L1 l hl f (i + 1) (by omega) (by omega)
    · rw [if_neg (by simp; omega)]
theorem ints15_eq (l : List Int) (hl : l.length ≤ 1048576) (hN : 1048576 < N) : m_r15_Ints N l l = some true := by
  unfold m_r15_Ints
  rw [if_neg (by simp)]
  exact ints15_L1 l hl N 0 (by omega) (by omega)
theorem lists15_L1 (l : List (List Int)) (hl : l.length ≤ 1048576) (hc : ∀ c ∈ l, c.length ≤ 1048576) (hN : 1048576 < N) : ∀ (f i : Nat), i ≤ l.length → l.length - i < f → m_r15_Lists_L1 N l l f (i : Int) = some true
  | 0, i, _, hf => by omega
  | f + 1, i, hi, hf => by
    rw [m_r15_Lists_L1.eq_2]
    by_cases hlt : i < l.length
    · rw [if_pos (decide_eq_true (by omega)), at?_lt hlt]
      simp only [Option.bind_some]
      rw [ints15_eq _ (hc _ (List.getElem_mem hlt)) hN]
      simp only [Option.bind_some]
      rw [if_neg (by simp), wS (by omega)]
      exact lists15_L1 l hl hc hN f (i + 1) (by omega) (by omega)
    · rw [if_neg (by simp; omega)]
theorem lists15_eq (l : List (List Int)) (hl : l.length ≤ 1048576) (hc : ∀ c ∈ l, c.length ≤ 1048576) (hN : 1048576 < N) : m_r15_Lists N l l = some true := by
  unfold m_r15_Lists
  rw [if_neg (by simp)]
  exact lists15_L1 l hl hc hN N 0 (by omega) (by omega)
theorem unchanged_L1 (h : Tab n t) (hn : n ≤ 1024) (hN : 1048576 < N) : ∀ (f i : Nat), i ≤ n → n - i < f → m_l18_unchanged_L1 N t t f (i : Int) = some true
  | 0, i, _, hf => by omega
  | f + 1, i, hi, hf => by
    rw [m_l18_unchanged_L1.eq_2]
    unfold m_r15_Graph_Len m_graph_Graph_Len
    simp only [Option.bind_some]
    rw [h.len]
    by_cases hlt : i < n
    · have hnl := near_len (a := (i : Int)) h
      rw [if_pos (decide_eq_true (by omega)), Near_eq h hn, refNear_eq h hn (by omega)]
      simp only [Option.bind_some]
      rw [ints15_eq _ (by omega) hN]
      simp only [Option.bind_some]
      rw [if_neg (by simp), wS (by omega)]
      exact unchanged_L1 h hn hN f (i + 1) (by omega) (by omega)
    · rw [if_neg (by simp; omega)]
      simp
theorem unchanged_eq (h : Tab n t) (hn : n ≤ 1024) (hN : 1048576 < N) : m_l18_unchanged N t t = some true := unchanged_L1 h hn hN N 0 (by omega) (by omega)
theorem clq_short18 : ∀ {l : List Int} {t : List (List Bool)}, Gr n t → (∀ z ∈ l, 0 ≤ z ∧ z < (n : Int)) → ∀ c ∈ clq n t l, c.length ≤ n + 1
  | a :: l, t, h, hr, c, hc => by
    rcases List.mem_cons.1 hc with rfl | hc
    · rw [insS_len]; have := near_len (a := a) h.tab; omega
    · exact clq_short18 (h.remove (hr a List.mem_cons_self)) (fun z hz => hr z (List.mem_cons_of_mem _ hz)) c hc
theorem Ordered.short {wt : List (List Bool) → Int → Int} {l : List Int} {r : List Int × Int} (h : Ordered n wt t l r) : r.1.length ≤ n := by
  unfold Ordered at h
  by_cases h0 : wrongC n l = 0
  · rw [if_pos h0] at h
    obtain ⟨hr, hd⟩ := wrong_zero.1 h0
    have hp := h.2.perm hd
    exact Go.Proofs.Ytgkofjmeopbkbaa.short (fun x hx => hr x ((hp.2 x).1 hx)) hp.1
  · rw [if_neg h0] at h
    rw [h]; simp
theorem cliques_v0n (l : List Int) : m_order_Cliques_v0n l = some ([], 2) := rfl
theorem refCliques_v0n (l : List Int) : m_r18_Cliques_v0n l = some ([], 2) := rfl
theorem width_v0n (l : List Int) : m_order_Width_v0n l = some (0, 2) := rfl
theorem refWidth_v0n (l : List Int) (hN : 0 < N) : m_r18_Width_v0n N l = some (0, 2) := by
  unfold m_r18_Width_v0n
  rw [refCliques_v0n]
  simp only [Option.bind_some]
  obtain ⟨N, rfl⟩ : ∃ m, N = m + 1 := ⟨N - 1, by omega⟩
  rfl

theorem OrderCliques_true (d : Int) (pairs l : List Int) (hp : pairs.length ≤ 9223372036854775000) (hl : l.length < 17592186044000) (hN : 100000000000000 ≤ N) (hN2 : pairs.length + 3000 < N) : m_l18_OrderCliques N (d, pairs) l = some true := by
  unfold m_l18_OrderCliques w_l18_awake
  simp only [Option.bind_some]
  by_cases hd : d < 0
  · have e : m_l18_drawn N (d, pairs) = some (none, none, true) := by
      unfold m_l18_drawn; rw [if_pos (by simpa using hd)]
    obtain ⟨l', ea⟩ := Apart_true (N := N) [] (by simp) (by simp) (by omega)
    rw [e]
    simp only [Option.bind_some]
    unfold optC
    simp only []
    rw [if_neg (by decide)]
    unfold m_l18_OrderCliques_J1
    rw [if_neg (by decide), ints_eq l hl (by omega)]
    simp only [Option.bind_some]
    rw [cliques_v0n, width_v0n, refCliques_v0n, refWidth_v0n _ (by omega)]
    simp only [Option.bind_some, decide_true, if_true]
    rw [lists15_eq [] (by simp) (by simp) (by omega)]
    simp only [Option.bind_some, if_true]
    rw [ea]
    simp only [Option.bind_some, if_true]
    rw [kept_eq l hl (by omega)]
    rfl
  · obtain ⟨n, t, hn, h, e⟩ := drawn18_eq pairs hp hN2 d hd
    rw [e]
    simp only [Option.bind_some]
    unfold optC
    simp only []
    rw [if_neg (by decide)]
    unfold m_l18_OrderCliques_J3
    rw [if_neg (by decide), ints_eq l hl (by omega)]
    simp only [Option.bind_some, List.take_left]
    have hcl := clqs_len (n := n) (t := t) l
    have hcs : ∀ c ∈ (clqs n t l).1, c.length ≤ n + 1 := fun c hc => by
      unfold clqs at hc
      by_cases h0 : wrongC n l = 0
      · rw [if_pos h0] at hc
        have := clq_short18 h (wrong_zero.1 h0).1 c hc
        exact this
      · rw [if_neg h0] at hc; cases hc
    obtain ⟨l', ea⟩ := Apart_true (N := N) (clqs n t l).1 (by omega) (fun c hc => by have := hcs c hc; omega) (by omega)
    rw [Cliques_eq h (by omega) (by omega) l hl, refCliques_eq h (by omega) (by omega) l hl (by omega), Width_eq h (by omega) (by omega) l hl, refWidth_eq h (by omega) (by omega) l hl (by omega)]
    simp only [Option.bind_some, decide_true, if_true]
    rw [lists15_eq _ (by omega) (fun c hc => by have := hcs c hc; omega) (by omega)]
    simp only [Option.bind_some, if_true]
    rw [ea]
    simp only [Option.bind_some, if_true]
    rw [kept_eq l hl (by omega)]
    simp only [Option.bind_some, if_true]
    rw [unchanged_eq h.tab (by omega) (by omega)]
    rfl
end

end Go.Proofs.Ytgkofjmeopbkbaa
