/-
  What functions of the program compute, as plain Lean functions (m_..), and proofs that they compute it (c_..). Printed by a program of the author; no conditions.
-/
import Derived.Test.YtjnkbkbllcfoaaaTwo
import Derived.Test.YtjnkbkbllcfoaaaProg
import Derived.Test.YtjnkbkbllcfoaaaRadixAllF1
set_option linter.unusedVariables false
namespace Go.Proofs.Ytjnkbkbllcfoaaa
open Go Go.RowKit


theorem el3_4 : ElemOk Try.prog 3 1 8 := ⟨Try.t3, _, rfl, rfl, rfl, rfl, rfl⟩
theorem el22_4 : ElemOk Try.prog 22 1 24 := ⟨Try.t22, _, rfl, rfl, rfl, rfl, rfl⟩

def m_credencelaw10_walked_int_J3 (v_109 : Bool) : Option Bool :=
  some v_109

def m_credencelaw10_walked_int_J4 (v_131 : Bool) : Option Bool :=
  some v_131

def m_credencelaw10_walked_int_L2_X2 (r_36 : (Int × Int)) (k_102 : Int) (v_103 : Bool) : Option Bool :=
  if (decide (r_36.2 = 0)) = true then (m_credencelaw10_walked_int_J4 true) else (m_credencelaw10_walked_int_J4 (decide (k_102 = 0)))

def m_credencelaw10_walked_int_L2_Xret (k_102 : Int) (v_103 : Bool) : Option Bool :=
  some v_103

def m_credencelaw10_walked_int_J5 (k_102 : Int) (v_103 : Bool) (kk_L2 : (Int → Bool → Option Bool)) (v_170 : Bool) : Option Bool :=
  if v_170 = true then (m_credencelaw10_walked_int_L2_Xret  k_102 false) else (kk_L2 (IntKind.i64.wrap (k_102 + 1)) v_103)

def m_credencelaw10_walked_int_L2 (N : Nat) (r_19 : (List Int)) (r_36 : (Int × Int)) : List (Int × (List Int)) → Int → Bool → Option Bool
  | [], k_102, v_103 => if (decide (r_36.2 = 0)) = true then (m_credencelaw10_walked_int_J3 true) else (m_credencelaw10_walked_int_J3 (decide (k_102 = 0)))
  | y_104 :: l_105, k_102, v_103 => (m_credenceref10_Digits N r_19 y_104.1).bind fun r_152 => if (decide (k_102 = 20)) = true then (m_credencelaw10_walked_int_L2_X2 r_36 k_102 v_103) else (if (!decide (r_36.2 = 0)) = true then (m_credencelaw10_walked_int_J5 k_102 v_103 (m_credencelaw10_walked_int_L2 N r_19 r_36 l_105) true) else (if (!decide (y_104.1 = k_102)) = true then (m_credencelaw10_walked_int_J5 k_102 v_103 (m_credencelaw10_walked_int_L2 N r_19 r_36 l_105) true) else (if (!decide (r_152.2 = 0)) = true then (m_credencelaw10_walked_int_J5 k_102 v_103 (m_credencelaw10_walked_int_L2 N r_19 r_36 l_105) true) else ((m_credencelaw10_same_int N y_104.2 r_152.1).bind fun r_182 => m_credencelaw10_walked_int_J5 k_102 v_103 (m_credencelaw10_walked_int_L2 N r_19 r_36 l_105) (!r_182)))))

def m_credencelaw10_walked_int_L5 (N : Nat) (r_19 : (List Int)) (r_36 : (Int × Int)) (all_209 : List (Option (List Int))) : Nat → Int → Bool → Option Bool
  | 0, _, _ => none
  | n_217 + 1, i_220, v_221 => if (decide (i_220 < (all_209.length : Int))) = true then ((m_credenceref10_Digits N r_19 i_220).bind fun r_222 => (at? all_209 i_220).bind fun e_231 => (e_231).bind fun x_235 => (m_credencelaw10_same_int N x_235 r_222.1).bind fun r_240 => if (!r_240) = true then (some false) else ((m_credencelaw10_walked_int_L5 N r_19 r_36 all_209 n_217) (IntKind.i64.wrap (i_220 + 2)) v_221)) else (some (decide ((all_209.length : Int) = r_36.1)))

def m_credencelaw10_walked_int_L4_Xret (all_209 : List (Option (List Int))) (v_213 : Bool) : Option Bool :=
  some v_213

def m_credencelaw10_walked_int_L6 (N : Nat) (all_209 : List (Option (List Int))) (v_213 : Bool) (kk_L4 : ((List (Option (List Int))) → Bool → Option Bool)) : Nat → (List Int) → Int → Option Bool
  | 0, _, _ => none
  | n_312 + 1, d_315, i_319 => if (decide (i_319 < (d_315.length : Int))) = true then ((at? d_315 i_319).bind fun e_320 => (some (d_315.set (Int.toNat i_319) 0)).bind fun xs_327 => (m_credencelaw10_walked_int_L6 N all_209 v_213 kk_L4 n_312) xs_327 (IntKind.i64.wrap (i_319 + 1))) else (chk ((d_315.length + [5].length) * 8 ≤ 140737488355328 ∧ d_315.length + [5].length ≤ maxLen) (chk (((d_315 ++ [5]).length + [5].length) * 8 ≤ 140737488355328 ∧ (d_315 ++ [5]).length + [5].length ≤ maxLen) (kk_L4 (all_209 ++ [(none : (Option (List Int)))]) v_213)))

def m_credencelaw10_walked_int_J6 (N : Nat) (all_209 : List (Option (List Int))) (v_213 : Bool) (kk_L4 : ((List (Option (List Int))) → Bool → Option Bool)) (y_214 : Int × (List Int)) (v_289 : Bool) : Option Bool :=
  if v_289 = true then (m_credencelaw10_walked_int_L4_Xret  all_209 false) else (if (decide ((Int.tmod y_214.1 2) = 0)) = true then (chk ((all_209.length + [(none : (Option (List Int)))].length) * 24 ≤ 140737488355328 ∧ all_209.length + [(none : (Option (List Int)))].length ≤ maxLen) (m_credencelaw10_walked_int_L6 N all_209 v_213 kk_L4 N y_214.2 0)) else (chk ((all_209.length + [(some y_214.2)].length) * 24 ≤ 140737488355328 ∧ all_209.length + [(some y_214.2)].length ≤ maxLen) (kk_L4 (all_209 ++ [(some y_214.2)]) v_213)))

def m_credencelaw10_walked_int_L4 (N : Nat) (r_19 : (List Int)) (r_36 : (Int × Int)) : List (Int × (List Int)) → (List (Option (List Int))) → Bool → Option Bool
  | [], all_209, v_213 => m_credencelaw10_walked_int_L5 N r_19 r_36 all_209 N 1 v_213
  | y_214 :: l_215, all_209, v_213 => (m_credenceref10_Digits N r_19 y_214.1).bind fun r_272 => if (!decide (y_214.1 = (all_209.length : Int))) = true then (m_credencelaw10_walked_int_J6 N all_209 v_213 (m_credencelaw10_walked_int_L4 N r_19 r_36 l_215) y_214 true) else (if (!decide (r_272.2 = 0)) = true then (m_credencelaw10_walked_int_J6 N all_209 v_213 (m_credencelaw10_walked_int_L4 N r_19 r_36 l_215) y_214 true) else ((m_credencelaw10_same_int N y_214.2 r_272.1).bind fun r_371 => m_credencelaw10_walked_int_J6 N all_209 v_213 (m_credencelaw10_walked_int_L4 N r_19 r_36 l_215) y_214 (!r_371)))

def m_credencelaw10_walked_int_L8 (N : Nat) (r_19 : (List Int)) (r_36 : (Int × Int)) (all_389 : List (Option (List Int))) : Nat → Int → Bool → Option Bool
  | 0, _, _ => none
  | n_397 + 1, i_400, v_401 => if (decide (i_400 < (all_389.length : Int))) = true then ((m_credenceref10_Digits N r_19 i_400).bind fun r_402 => (at? all_389 i_400).bind fun e_411 => (e_411).bind fun x_415 => (m_credencelaw10_same_int N x_415 r_402.1).bind fun r_420 => if (!r_420) = true then (some false) else ((m_credencelaw10_walked_int_L8 N r_19 r_36 all_389 n_397) (IntKind.i64.wrap (i_400 + 2)) v_401)) else (some (decide ((all_389.length : Int) = r_36.1)))

def m_credencelaw10_walked_int_L7_Xret (all_389 : List (Option (List Int))) (v_393 : Bool) : Option Bool :=
  some v_393

def m_credencelaw10_walked_int_L9 (N : Nat) (all_389 : List (Option (List Int))) (v_393 : Bool) (kk_L7 : ((List (Option (List Int))) → Bool → Option Bool)) : Nat → (List Int) → Int → Option Bool
  | 0, _, _ => none
  | n_492 + 1, d_495, i_499 => if (decide (i_499 < (d_495.length : Int))) = true then ((at? d_495 i_499).bind fun e_500 => (some (d_495.set (Int.toNat i_499) 0)).bind fun xs_507 => (m_credencelaw10_walked_int_L9 N all_389 v_393 kk_L7 n_492) xs_507 (IntKind.i64.wrap (i_499 + 1))) else (chk ((d_495.length + [5].length) * 8 ≤ 140737488355328 ∧ d_495.length + [5].length ≤ maxLen) (chk (((d_495 ++ [5]).length + [5].length) * 8 ≤ 140737488355328 ∧ (d_495 ++ [5]).length + [5].length ≤ maxLen) (kk_L7 (all_389 ++ [(none : (Option (List Int)))]) v_393)))

def m_credencelaw10_walked_int_J7 (N : Nat) (all_389 : List (Option (List Int))) (v_393 : Bool) (kk_L7 : ((List (Option (List Int))) → Bool → Option Bool)) (y_394 : Int × (List Int)) (v_469 : Bool) : Option Bool :=
  if v_469 = true then (m_credencelaw10_walked_int_L7_Xret  all_389 false) else (if (decide ((Int.tmod y_394.1 2) = 0)) = true then (chk ((all_389.length + [(none : (Option (List Int)))].length) * 24 ≤ 140737488355328 ∧ all_389.length + [(none : (Option (List Int)))].length ≤ maxLen) (m_credencelaw10_walked_int_L9 N all_389 v_393 kk_L7 N y_394.2 0)) else (chk ((all_389.length + [(some y_394.2)].length) * 24 ≤ 140737488355328 ∧ all_389.length + [(some y_394.2)].length ≤ maxLen) (kk_L7 (all_389 ++ [(some y_394.2)]) v_393)))

def m_credencelaw10_walked_int_L7 (N : Nat) (r_19 : (List Int)) (r_36 : (Int × Int)) : List (Int × (List Int)) → (List (Option (List Int))) → Bool → Option Bool
  | [], all_389, v_393 => m_credencelaw10_walked_int_L8 N r_19 r_36 all_389 N 1 v_393
  | y_394 :: l_395, all_389, v_393 => (m_credenceref10_Digits N r_19 y_394.1).bind fun r_452 => if (!decide (y_394.1 = (all_389.length : Int))) = true then (m_credencelaw10_walked_int_J7 N all_389 v_393 (m_credencelaw10_walked_int_L7 N r_19 r_36 l_395) y_394 true) else (if (!decide (r_452.2 = 0)) = true then (m_credencelaw10_walked_int_J7 N all_389 v_393 (m_credencelaw10_walked_int_L7 N r_19 r_36 l_395) y_394 true) else ((m_credencelaw10_same_int N y_394.2 r_452.1).bind fun r_551 => m_credencelaw10_walked_int_J7 N all_389 v_393 (m_credencelaw10_walked_int_L7 N r_19 r_36 l_395) y_394 (!r_551)))

def m_credencelaw10_walked_int_L3_X4 (N : Nat) (r_19 : (List Int)) (r_36 : (Int × Int)) (r_49 : (List (Int × (List Int)))) (k_197 : Int) (v_198 : Bool) : Option Bool :=
  m_credencelaw10_walked_int_L7 N r_19 r_36 r_49 ([] : List (Option (List Int))) v_198

def m_credencelaw10_walked_int_L3_Xret (k_197 : Int) (v_198 : Bool) : Option Bool :=
  some v_198

def m_credencelaw10_walked_int_L3 (N : Nat) (p1_left : Int) (r_19 : (List Int)) (r_36 : (Int × Int)) (r_49 : (List (Int × (List Int)))) : List (Int × (List Int)) → Int → Bool → Option Bool
  | [], k_197, v_198 => m_credencelaw10_walked_int_L4 N r_19 r_36 r_49 ([] : List (Option (List Int))) v_198
  | y_199 :: l_200, k_197, v_198 => if (decide (k_197 = p1_left)) = true then (m_credencelaw10_walked_int_L3_X4 N r_19 r_36 r_49 k_197 v_198) else (if (!decide (y_199.1 = k_197)) = true then (m_credencelaw10_walked_int_L3_Xret  k_197 false) else ((m_credencelaw10_walked_int_L3 N p1_left r_19 r_36 r_49 l_200) (IntKind.i64.wrap (k_197 + 1)) v_198))

def m_credencelaw10_walked_int_J2 (N : Nat) (p1_left : Int) (r_19 : (List Int)) (r_36 : (Int × Int)) (r_49 : (List (Int × (List Int)))) (v_90 : Bool) : Option Bool :=
  if v_90 = true then (m_credencelaw10_walked_int_L2 N r_19 r_36 r_49 0 false) else (m_credencelaw10_walked_int_L3 N p1_left r_19 r_36 r_49 r_49 0 false)

def m_credencelaw10_walked_int_L1 (N : Nat) (p1_left : Int) (r_19 : (List Int)) (r_36 : (Int × Int)) (r_49 : (List (Int × (List Int)))) : Nat → Int → (List Int) → Option Bool
  | 0, _, _ => none
  | n_71 + 1, i_74, s_75 => if (decide (i_74 < (s_75.length : Int))) = true then ((at? s_75 i_74).bind fun e_79 => (some (s_75.set (Int.toNat i_74) 1)).bind fun xs_86 => (m_credencelaw10_walked_int_L1 N p1_left r_19 r_36 r_49 n_71) (IntKind.i64.wrap (i_74 + 1)) xs_86) else (if (!decide (r_36.2 = 0)) = true then (m_credencelaw10_walked_int_J2 N p1_left r_19 r_36 r_49 true) else (m_credencelaw10_walked_int_J2 N p1_left r_19 r_36 r_49 (decide (2000 < r_36.1))))

def m_credencelaw10_walked_int_J1 (N : Nat) (p1_left : Int) (r_11 : (Nat × (List Int))) (r_19 : (List Int)) (r_36 : (Int × Int)) (r_49 : (List (Int × (List Int)))) (v_63 : Bool) : Option Bool :=
  if v_63 = true then (some false) else (m_credencelaw10_walked_int_L1 N p1_left r_19 r_36 r_49 N 0 (r_11.2.take r_11.1))

def m_credencelaw10_walked_int (N : Nat) (p0_sizes : (List Int)) (p1_left : Int) : Option Bool :=
  (m_credencelaw10_roomy_int N p0_sizes).bind fun r_11 => (m_credencelaw10_plain_int N p0_sizes).bind fun r_19 => (m_credenceref10_Count N r_19).bind fun r_36 => (m_radix_All_int N (r_11.2.take r_11.1)).bind fun r_49 => (m_credencelaw10_kept_int N r_11.1 r_11.2 p0_sizes).bind fun r_572 => m_credencelaw10_walked_int_J1 N p1_left r_11 r_19 r_36 r_49 (!r_572)

set_option maxRecDepth 100000 in
theorem c_credencelaw10_walked_int (N : Nat) (col : Col) (w0 : World) (a0 : Option Addr) (cap0 : Nat) (p0_sizes : (List Int)) (p1_left : Int) (h0 : Sl (Rep.int .i64) col w0 a0 cap0 p0_sizes) (r : Bool) (hm : m_credencelaw10_walked_int N p0_sizes p1_left = some r) :
    Calls Try.prog 4 #[(.slice a0 p0_sizes.length cap0), (.int .i64 p1_left)] w0 (fun e w' => e = .returned ((.bool r)) ∧ Below w0.heap.size w0 w') := by
  refine calls_ofMR (m := 178) (args := [(.slice a0 p0_sizes.length cap0), (.int .i64 p1_left)]) Try.func4 rfl rfl rfl ?_
  rw [m_credencelaw10_walked_int.eq_1] at hm
  have hst := St.start col w0
  replace h0 := h0.keep (Stay.start col w0)
  have hmk : Marks (col0 col) w0 [] := .nil
  refine wseq ?_
  refine wregion ?_
  refine l_box (col := (col0 col)) (v := (.int .i64 p1_left)) 1 rfl rfl ?_
  intro g_1 w_2 col_3 hg_4 hb_5
  replace h0 := h0.gr hg_4
  replace hmk := hmk.gr hg_4
  replace hst := hst.grow hg_4
  replace hb_5 : Box 3 1 col_3 w_2 g_1 #[(.int .i64 p1_left)] := hb_5
  refine l_alloc (col := col_3) (v := (.bool false)) 2 rfl Try.zeroValue4 ?_
  intro g_6 w_7 col_8 hg_9 hb_10
  replace h0 := h0.gr hg_9
  replace hb_5 := hb_5.gr hg_9
  replace hmk := hmk.gr hg_9
  replace hst := hst.grow hg_9
  replace hb_10 : Box 4 2 col_8 w_7 g_6 #[(.bool false)] := hb_10
  refine lnil ?_
  refine wseq ?_
  refine wregion ?_
  refine lv (v := (.slice a0 p0_sizes.length cap0)) rfl rfl (r_move rfl) ?_
  obtain ⟨r_11, hr_12, hm⟩ := bind_some hm
  refine lc rfl rfl (r_call1 Try.call9 rfl) (c_credencelaw10_roomy_int N 3 col_8 _ a0 cap0 p0_sizes h0 r_11 hr_12) ?_
  rintro _ w_16 ⟨col_18, ra_13, rc_14, rfl, hg_17, rh_15⟩
  refine ⟨_, rfl, ?_⟩
  replace h0 := h0.gr hg_17
  replace hb_5 := hb_5.gr hg_17
  replace hb_10 := hb_10.gr hg_17
  replace hmk := hmk.gr hg_17
  replace hst := hst.grow hg_17
  refine lv (v := (.slice ra_13 ((r_11.2.take r_11.1).length) rc_14)) rfl rfl (r_assign rfl) ?_
  refine lnil ?_
  refine wseq ?_
  refine wregion ?_
  refine lv (v := (.slice a0 p0_sizes.length cap0)) rfl rfl (r_move rfl) ?_
  obtain ⟨r_19, hr_20, hm⟩ := bind_some hm
  refine lc rfl rfl (r_call1 Try.call10 rfl) (c_credencelaw10_plain_int N 4 col_18 _ a0 cap0 p0_sizes h0 r_19 hr_20) ?_
  rintro _ w_24 ⟨col_26, ra_21, rc_22, rfl, hg_25, rh_23⟩
  refine ⟨_, rfl, ?_⟩
  replace h0 := h0.gr hg_25
  replace rh_15 := rh_15.gr hg_25
  replace hb_5 := hb_5.gr hg_25
  replace hb_10 := hb_10.gr hg_25
  replace hmk := hmk.gr hg_25
  replace hst := hst.grow hg_25
  refine l_alloc (col := col_26) (v := (.slice none (([] : List Int).length) 0)) 5 rfl Try.zeroValue22 ?_
  intro g_27 w_28 col_29 hg_30 hb_31
  replace h0 := h0.gr hg_30
  replace rh_15 := rh_15.gr hg_30
  replace rh_23 := rh_23.gr hg_30
  replace hb_5 := hb_5.gr hg_30
  replace hb_10 := hb_10.gr hg_30
  replace hmk := hmk.gr hg_30
  replace hst := hst.grow hg_30
  replace hb_31 : Box 22 5 col_29 w_28 g_27 #[(.slice none (([] : List Int).length) 0)] := hb_31
  refine l_bstore (v := (.slice ra_21 r_19.length rc_22)) hb_31 Try.sizeOf22 rfl rfl (by intro u hu; simp only [Value.cells, List.mem_cons, List.not_mem_nil, or_false] at hu; subst hu; rfl) rfl rfl ?_
  intro w_32 hk_33 hs_34 hb_35
  replace h0 := h0.kp hk_33 (by decide)
  replace rh_15 := rh_15.kp hk_33 (by decide) (by decide)
  replace rh_23 := rh_23.kp hk_33 (by decide) (by decide)
  replace hb_5 := hb_5.kp hk_33 (by decide)
  replace hb_10 := hb_10.kp hk_33 (by decide)
  replace hmk := hmk.kp hk_33 (by decide)
  replace hst := hst.kp hk_33 hs_34 (by decide) (by decide)
  clear hb_31
  replace hb_35 : Box 22 5 col_29 w_32 g_27 #[(.slice ra_21 r_19.length rc_22)] := hb_35
  refine lnil ?_
  refine wseq ?_
  refine wregion ?_
  refine lv (v := (.slice ra_21 r_19.length rc_22)) rfl rfl (r_ld Try.isAgg22 rfl hb_35.at1) ?_
  obtain ⟨r_36, hr_37, hm⟩ := bind_some hm
  refine lc rfl rfl (r_call1 Try.call11 rfl) (c_credenceref10_Count N (frC 4 col_29) _ ra_21 rc_22 r_19 (rh_23.toSlF (Froz.int .i64)) r_36 hr_37) ?_
  rintro _ w_38 ⟨rfl, hg_39⟩
  refine ⟨_, rfl, ?_⟩
  replace hg_39 : Grow col_29 w_32 col_29 w_38 := .of_below hg_39
  replace h0 := h0.gr hg_39
  replace rh_15 := rh_15.gr hg_39
  replace rh_23 := rh_23.gr hg_39
  replace hb_5 := hb_5.gr hg_39
  replace hb_10 := hb_10.gr hg_39
  replace hb_35 := hb_35.gr hg_39
  replace hmk := hmk.gr hg_39
  replace hst := hst.grow hg_39
  refine lv (v := (.tuple #[(.int .i64 r_36.1), (.int .i64 r_36.2)])) rfl rfl (r_move rfl) ?_
  refine lv (v := (.int .i64 r_36.1)) rfl rfl (r_extract rfl rfl) ?_
  refine lv (v := (.int .i64 r_36.2)) rfl rfl (r_extract rfl rfl) ?_
  refine l_alloc (col := col_29) (v := (.int .i64 0)) 6 rfl Try.zeroValue33 ?_
  intro g_40 w_41 col_42 hg_43 hb_44
  replace h0 := h0.gr hg_43
  replace rh_15 := rh_15.gr hg_43
  replace rh_23 := rh_23.gr hg_43
  replace hb_5 := hb_5.gr hg_43
  replace hb_10 := hb_10.gr hg_43
  replace hb_35 := hb_35.gr hg_43
  replace hmk := hmk.gr hg_43
  replace hst := hst.grow hg_43
  replace hb_44 : Box 33 6 col_42 w_41 g_40 #[(.int .i64 0)] := hb_44
  refine lv (v := (.int .i64 r_36.1)) rfl rfl (r_assign rfl) ?_
  refine l_bstore (v := (.int .i64 r_36.2)) hb_44 Try.sizeOf33 rfl rfl (by intro u hu; simp only [Value.cells, List.mem_cons, List.not_mem_nil, or_false] at hu; subst hu; rfl) rfl rfl ?_
  intro w_45 hk_46 hs_47 hb_48
  replace h0 := h0.kp hk_46 (by decide)
  replace rh_15 := rh_15.kp hk_46 (by decide) (by decide)
  replace rh_23 := rh_23.kp hk_46 (by decide) (by decide)
  replace hb_5 := hb_5.kp hk_46 (by decide)
  replace hb_10 := hb_10.kp hk_46 (by decide)
  replace hb_35 := hb_35.kp hk_46 (by decide)
  replace hmk := hmk.kp hk_46 (by decide)
  replace hst := hst.kp hk_46 hs_47 (by decide) (by decide)
  clear hb_44
  replace hb_48 : Box 33 6 col_42 w_45 g_40 #[(.int .i64 r_36.2)] := hb_48
  refine lnil ?_
  refine wseq ?_
  refine wregion ?_
  refine lv (v := (.slice ra_13 ((r_11.2.take r_11.1).length) rc_14)) rfl rfl (r_move rfl) ?_
  obtain ⟨r_49, hr_50, hm⟩ := bind_some hm
  refine lc rfl rfl (r_call1 Try.call12 rfl) (c_radix_All_int N 7 (frC 3 col_42) _ ra_13 rc_14 (r_11.2.take r_11.1) ((rh_15.take r_11.1).toSlF (Froz.int .i64)) r_49 hr_50) ?_
  rintro _ w_53 ⟨col_55, rv_51, rfl, hg_54, rh_52⟩
  refine ⟨_, rfl, ?_⟩
  replace rh_52 := rh_52.thaw hg_54 ((Fz.refl (col := col_42)).froz 3)
  replace hg_54 := hg_54.thawR (col := col_42)
  generalize colR w_45.heap.size col_42 col_55 = col_56 at *
  replace h0 := h0.gr hg_54
  replace rh_15 := rh_15.gr hg_54
  replace rh_23 := rh_23.gr hg_54
  replace hb_5 := hb_5.gr hg_54
  replace hb_10 := hb_10.gr hg_54
  replace hb_35 := hb_35.gr hg_54
  replace hb_48 := hb_48.gr hg_54
  replace hmk := hmk.gr hg_54
  replace hst := hst.grow hg_54
  refine lv (v := rv_51) rfl rfl (r_assign rfl) ?_
  refine lnil ?_
  refine wseq ?_
  refine wseq ?_
  refine Wp.cut (fun f w_61 => ∃ (col_62 : Col) (v_63 : Bool), m_credencelaw10_walked_int_J1 N p1_left r_11 r_19 r_36 r_49 v_63 = some r ∧ St w0 (col0 col) col_62 w_61 ∧ Box 3 1 col_62 w_61 g_1 #[(.int .i64 p1_left)] ∧ Box 4 2 col_62 w_61 g_6 #[(.bool false)] ∧ Own (Rep.int .i64) 3 3 col_62 w_61 ra_13 rc_14 r_11.2 ∧ Own (Rep.int .i64) 3 4 col_62 w_61 ra_21 rc_22 r_19 ∧ Box 22 5 col_62 w_61 g_27 #[(.slice ra_21 r_19.length rc_22)] ∧ Box 33 6 col_62 w_61 g_40 #[(.int .i64 r_36.2)] ∧ It Try.prog rv_51 (fun (y : Int × (List Int)) (col : Col) (w : World) (args : List Value) => ∃ (a1 : Option Addr) (cap1 : Nat), args = [.int .i64 y.1, .slice a1 y.2.length cap1] ∧ Own (Rep.int .i64) 3 7 col w a1 cap1 y.2) r_49 q1 col_62 w_61 ∧ Marks col_62 w_61 [] ∧ f 3 = (.pointer (some ⟨g_1, 0, none⟩)) ∧ f 4 = (.pointer (some ⟨g_6, 0, none⟩)) ∧ f 46 = (.bool v_63) ∧ f 5 = (.slice ra_13 ((r_11.2.take r_11.1).length) rc_14) ∧ f 6 = (.pointer (some ⟨g_27, 0, none⟩)) ∧ f 7 = (.int .i64 r_36.1) ∧ f 8 = (.pointer (some ⟨g_40, 0, none⟩)) ∧ f 9 = rv_51 ∧ f 1000000 = (enc [])) ?_ ?_
  · intro f w_61 hJ
    obtain ⟨col_62, v_63, hm, hst, hb_5, hb_10, rh_15, rh_23, hb_35, hb_48, rh_52, hmk, hs3, hs4, hs46, hs5, hs6, hs7, hs8, hs9, hs1000000⟩ := hJ
    rw [m_credencelaw10_walked_int_J1.eq_1] at hm
    refine .ld (d := 3) (v := (.pointer (some ⟨g_1, 0, none⟩))) hs3 ?_
    refine .ld (d := 4) (v := (.pointer (some ⟨g_6, 0, none⟩))) hs4 ?_
    refine .ld (d := 46) (v := (.bool v_63)) hs46 ?_
    refine .ld (d := 5) (v := (.slice ra_13 ((r_11.2.take r_11.1).length) rc_14)) hs5 ?_
    refine .ld (d := 6) (v := (.pointer (some ⟨g_27, 0, none⟩))) hs6 ?_
    refine .ld (d := 7) (v := (.int .i64 r_36.1)) hs7 ?_
    refine .ld (d := 8) (v := (.pointer (some ⟨g_40, 0, none⟩))) hs8 ?_
    refine .ld (d := 9) (v := rv_51) hs9 ?_
    refine .ld (d := 1000000) (v := (enc [])) hs1000000 ?_
    clear hs3 hs4 hs46 hs5 hs6 hs7 hs8 hs9 hs1000000
    refine wcond (v_63) rfl (fun hb => ?_) (fun hb => ?_)
    · rw [if_pos hb] at hm
      clear hb
      refine wseq ?_
      refine wregion ?_
      refine l_bstore (v := (.bool false)) hb_10 Try.sizeOf4 rfl rfl (by intro u hu; simp only [Value.cells, List.mem_cons, List.not_mem_nil, or_false] at hu; subst hu; rfl) rfl rfl ?_
      intro w_64 hk_65 hs_66 hb_67
      replace rh_15 := rh_15.kp hk_65 (by decide) (by decide)
      replace rh_23 := rh_23.kp hk_65 (by decide) (by decide)
      replace rh_52 := rh_52.kp hk_65 rfl
      replace hb_5 := hb_5.kp hk_65 (by decide)
      replace hb_35 := hb_35.kp hk_65 (by decide)
      replace hb_48 := hb_48.kp hk_65 (by decide)
      replace hmk := hmk.kp hk_65 (by decide)
      replace hst := hst.kp hk_65 hs_66 (by decide) (by decide)
      clear hb_10
      replace hb_67 : Box 4 2 col_62 w_64 g_6 #[(.bool false)] := hb_67
      refine lnil ?_
      refine wret ?_
      cases hm
      refine ⟨_, [], rfl, hmk, ?_⟩
      intro w_68 hk_69 hs_70
      clear hmk
      replace hb_67 := hb_67.kp hk_69 (by decide)
      replace hst := hst.kp hk_69 hs_70 (by decide) (by decide)
      exact ⟨_, res_cell1 rfl rfl Try.isAgg4 rfl hb_67.at1, rfl, hst.below⟩
    · rw [if_neg (by rw [hb]; decide)] at hm
      clear hb
      refine wskip ?_
      refine wseq ?_
      refine wseq ?_
      refine wregion ?_
      refine lv (v := (.int .i64 0)) rfl rfl (r_assign rfl) ?_
      refine lnil ?_
      refine wblock ?_
      refine wloop (fun n f w_72 => ∃ (col_73 : Col) (i_74 : Int) (a_76 : Option Addr) (cap_77 : Nat) (s_75 : List Int) (n_71 : Nat), n_71 = n ∧ m_credencelaw10_walked_int_L1 N p1_left r_19 r_36 r_49 n_71 i_74 s_75 = some r ∧ St w0 (col0 col) col_73 w_72 ∧ Box 3 1 col_73 w_72 g_1 #[(.int .i64 p1_left)] ∧ Box 4 2 col_73 w_72 g_6 #[(.bool false)] ∧ Own (Rep.int .i64) 3 3 col_73 w_72 a_76 cap_77 s_75 ∧ Own (Rep.int .i64) 3 4 col_73 w_72 ra_21 rc_22 r_19 ∧ Box 22 5 col_73 w_72 g_27 #[(.slice ra_21 r_19.length rc_22)] ∧ Box 33 6 col_73 w_72 g_40 #[(.int .i64 r_36.2)] ∧ It Try.prog rv_51 (fun (y : Int × (List Int)) (col : Col) (w : World) (args : List Value) => ∃ (a1 : Option Addr) (cap1 : Nat), args = [.int .i64 y.1, .slice a1 y.2.length cap1] ∧ Own (Rep.int .i64) 3 7 col w a1 cap1 y.2) r_49 q1 col_73 w_72 ∧ Marks col_73 w_72 [] ∧ f 10 = (.int .i64 i_74) ∧ f 3 = (.pointer (some ⟨g_1, 0, none⟩)) ∧ f 4 = (.pointer (some ⟨g_6, 0, none⟩)) ∧ f 5 = (.slice a_76 s_75.length cap_77) ∧ f 6 = (.pointer (some ⟨g_27, 0, none⟩)) ∧ f 7 = (.int .i64 r_36.1) ∧ f 8 = (.pointer (some ⟨g_40, 0, none⟩)) ∧ f 9 = rv_51 ∧ f 1000000 = (enc [])) N ⟨col_62, 0, ra_13, rc_14, (r_11.2.take r_11.1), N, rfl, hm, hst, hb_5, hb_10, (rh_15.take r_11.1), rh_23, hb_35, hb_48, rh_52, hmk, rfl, rfl, rfl, rfl, rfl, rfl, rfl, rfl, rfl⟩ ?_
      clear hm; intro n f w_72 hI
      obtain ⟨col_73, i_74, a_76, cap_77, s_75, n_71, hn, hm, hst, hb_5, hb_10, h_78, rh_23, hb_35, hb_48, rh_52, hmk, hs10, hs3, hs4, hs5, hs6, hs7, hs8, hs9, hs1000000⟩ := hI
      subst hn
      refine .ld (d := 10) (v := (.int .i64 i_74)) hs10 ?_
      refine .ld (d := 3) (v := (.pointer (some ⟨g_1, 0, none⟩))) hs3 ?_
      refine .ld (d := 4) (v := (.pointer (some ⟨g_6, 0, none⟩))) hs4 ?_
      refine .ld (d := 5) (v := (.slice a_76 s_75.length cap_77)) hs5 ?_
      refine .ld (d := 6) (v := (.pointer (some ⟨g_27, 0, none⟩))) hs6 ?_
      refine .ld (d := 7) (v := (.int .i64 r_36.1)) hs7 ?_
      refine .ld (d := 8) (v := (.pointer (some ⟨g_40, 0, none⟩))) hs8 ?_
      refine .ld (d := 9) (v := rv_51) hs9 ?_
      refine .ld (d := 1000000) (v := (enc [])) hs1000000 ?_
      clear hs10 hs3 hs4 hs5 hs6 hs7 hs8 hs9 hs1000000
      cases n_71 with
      | zero => rw [m_credencelaw10_walked_int_L1.eq_1] at hm; cases hm
      | succ n_71 =>
        rw [m_credencelaw10_walked_int_L1.eq_2] at hm
        refine wseq ?_
        refine wseq ?_
        refine wregion ?_
        refine lv (v := (.int .i64 i_74)) rfl rfl (r_move rfl) ?_
        refine lv (v := (.slice a_76 s_75.length cap_77)) rfl rfl (r_move rfl) ?_
        refine lv (v := (.int .i64 (s_75.length : Int))) rfl rfl (r_len Try.underlying22 rfl) ?_
        refine lv (v := (.bool (decide (i_74 < (s_75.length : Int))))) rfl rfl (r_lss i_74 (s_75.length : Int) rfl rfl) ?_
        refine lnil ?_
        refine wcond (decide (i_74 < (s_75.length : Int))) rfl (fun hb => ?_) (fun hb => ?_)
        · rw [if_pos hb] at hm
          clear hb
          refine wskip ?_
          refine wseq ?_
          refine wblock ?_
          refine wregion ?_
          refine lv (v := (.slice a_76 s_75.length cap_77)) rfl rfl (r_move rfl) ?_
          refine lv (v := (.int .i64 i_74)) rfl rfl (r_move rfl) ?_
          obtain ⟨e_79, hj_80, hm⟩ := bind_some hm
          refine lv (v := (sptr a_76 (Int.toNat i_74 * 1))) rfl rfl (r_idx Try.underlying22 Try.sizeOf3 rfl rfl (at?_some hj_80).1 (at?_some hj_80).2.1 (h_78.addr hj_80)) ?_
          obtain ⟨xs_86, hz_85, hm⟩ := bind_some hm
          have hz_85 : xs_86 = s_75.set (Int.toNat i_74) 1 := (Option.some.inj hz_85).symm
          refine l_store (x1 := 1) (v := (.int .i64 1)) h_78 hj_80 rfl Try.sizeOf3 (rd_int .i64 1) rfl rfl (by decide) ?_
          intro w_81 hk_82 hs_83 h_84
          rw [← hz_85] at h_84
          replace rh_23 := rh_23.kp hk_82 (by decide) (by decide)
          replace rh_52 := rh_52.kp hk_82 rfl
          replace hb_5 := hb_5.kp hk_82 (by decide)
          replace hb_10 := hb_10.kp hk_82 (by decide)
          replace hb_35 := hb_35.kp hk_82 (by decide)
          replace hb_48 := hb_48.kp hk_82 (by decide)
          replace hmk := hmk.kp hk_82 (by decide)
          replace hst := hst.kp hk_82 hs_83 (by decide) (by decide)
          refine .ld (d := 5) (v := (.slice a_76 xs_86.length cap_77)) (congrArg (fun n => Value.slice a_76 n cap_77) (show s_75.length = xs_86.length by rw [hz_85, List.length_set])) ?_
          clear h_78
          refine lnil ?_
          refine wregion ?_
          refine lv (v := (.int .i64 i_74)) rfl rfl (r_move rfl) ?_
          refine lv (v := (.int .i64 (IntKind.i64.wrap (i_74 + 1)))) rfl rfl (r_add i_74 1 rfl rfl) ?_
          refine lv (v := (.int .i64 (IntKind.i64.wrap (i_74 + 1)))) rfl rfl (r_assign rfl) ?_
          refine lnil ?_
          exact ⟨n_71, by omega, ⟨col_73, (IntKind.i64.wrap (i_74 + 1)), a_76, cap_77, xs_86, n_71, rfl, hm, hst, hb_5, hb_10, h_84, rh_23, hb_35, hb_48, rh_52, hmk, rfl, rfl, rfl, rfl, rfl, rfl, rfl, rfl, rfl⟩⟩
        · rw [if_neg (by rw [hb]; decide)] at hm
          clear hb
          refine wexit (inB_hit ?_)
          refine wseq ?_
          refine wseq ?_
          refine Wp.cut (fun f w_88 => ∃ (col_89 : Col) (v_90 : Bool), m_credencelaw10_walked_int_J2 N p1_left r_19 r_36 r_49 v_90 = some r ∧ St w0 (col0 col) col_89 w_88 ∧ Box 3 1 col_89 w_88 g_1 #[(.int .i64 p1_left)] ∧ Box 4 2 col_89 w_88 g_6 #[(.bool false)] ∧ Own (Rep.int .i64) 3 4 col_89 w_88 ra_21 rc_22 r_19 ∧ Box 22 5 col_89 w_88 g_27 #[(.slice ra_21 r_19.length rc_22)] ∧ Box 33 6 col_89 w_88 g_40 #[(.int .i64 r_36.2)] ∧ It Try.prog rv_51 (fun (y : Int × (List Int)) (col : Col) (w : World) (args : List Value) => ∃ (a1 : Option Addr) (cap1 : Nat), args = [.int .i64 y.1, .slice a1 y.2.length cap1] ∧ Own (Rep.int .i64) 3 7 col w a1 cap1 y.2) r_49 q1 col_89 w_88 ∧ Marks col_89 w_88 [] ∧ f 3 = (.pointer (some ⟨g_1, 0, none⟩)) ∧ f 4 = (.pointer (some ⟨g_6, 0, none⟩)) ∧ f 6 = (.pointer (some ⟨g_27, 0, none⟩)) ∧ f 61 = (.bool v_90) ∧ f 7 = (.int .i64 r_36.1) ∧ f 8 = (.pointer (some ⟨g_40, 0, none⟩)) ∧ f 9 = rv_51 ∧ f 1000000 = (enc [])) ?_ ?_
          · intro f w_88 hJ
            obtain ⟨col_89, v_90, hm, hst, hb_5, hb_10, rh_23, hb_35, hb_48, rh_52, hmk, hs3, hs4, hs6, hs61, hs7, hs8, hs9, hs1000000⟩ := hJ
            rw [m_credencelaw10_walked_int_J2.eq_1] at hm
            refine .ld (d := 3) (v := (.pointer (some ⟨g_1, 0, none⟩))) hs3 ?_
            refine .ld (d := 4) (v := (.pointer (some ⟨g_6, 0, none⟩))) hs4 ?_
            refine .ld (d := 6) (v := (.pointer (some ⟨g_27, 0, none⟩))) hs6 ?_
            refine .ld (d := 61) (v := (.bool v_90)) hs61 ?_
            refine .ld (d := 7) (v := (.int .i64 r_36.1)) hs7 ?_
            refine .ld (d := 8) (v := (.pointer (some ⟨g_40, 0, none⟩))) hs8 ?_
            refine .ld (d := 9) (v := rv_51) hs9 ?_
            refine .ld (d := 1000000) (v := (enc [])) hs1000000 ?_
            clear hs3 hs4 hs6 hs61 hs7 hs8 hs9 hs1000000
            refine wcond (v_90) rfl (fun hb => ?_) (fun hb => ?_)
            · rw [if_pos hb] at hm
              clear hb
              refine wseq ?_
              refine wregion ?_
              refine l_alloc (col := col_89) (v := (.int .i64 0)) 8 rfl Try.zeroValue3 ?_
              intro g_91 w_92 col_93 hg_94 hb_95
              replace rh_23 := rh_23.gr hg_94
              replace rh_52 := rh_52.gr hg_94
              replace hb_5 := hb_5.gr hg_94
              replace hb_10 := hb_10.gr hg_94
              replace hb_35 := hb_35.gr hg_94
              replace hb_48 := hb_48.gr hg_94
              replace hmk := hmk.gr hg_94
              replace hst := hst.grow hg_94
              replace hb_95 : Box 3 8 col_93 w_92 g_91 #[(.int .i64 0)] := hb_95
              refine l_bstore (v := (.int .i64 0)) hb_95 Try.sizeOf3 rfl rfl (by intro u hu; simp only [Value.cells, List.mem_cons, List.not_mem_nil, or_false] at hu; subst hu; rfl) rfl rfl ?_
              intro w_96 hk_97 hs_98 hb_99
              replace rh_23 := rh_23.kp hk_97 (by decide) (by decide)
              replace rh_52 := rh_52.kp hk_97 rfl
              replace hb_10 := hb_10.kp hk_97 (by decide)
              replace hb_35 := hb_35.kp hk_97 (by decide)
              replace hb_48 := hb_48.kp hk_97 (by decide)
              replace hmk := hmk.kp hk_97 (by decide)
              replace hst := hst.kp hk_97 hs_98 (by decide) (by decide)
              clear hb_95
              replace hb_99 : Box 3 8 col_93 w_96 g_91 #[(.int .i64 0)] := hb_99
              refine lnil ?_
              refine wseq ?_
              refine wseq ?_
              refine wregion ?_
              refine lv (v := rv_51) rfl rfl (r_move rfl) ?_
              refine lnil ?_
              refine wblock ?_
              refine wrange (psl := [63, 64]) (arr := (fun (y : Int × (List Int)) (col : Col) (w : World) (args : List Value) => ∃ (a1 : Option Addr) (cap1 : Nat), args = [.int .i64 y.1, .slice a1 y.2.length cap1] ∧ Own (Rep.int .i64) 3 7 col w a1 cap1 y.2)) (ys := r_49) (col := col_93) 498 rfl rh_52 rfl hmk rfl rfl (by rintro _ _ _ _ ⟨_, _, rfl, _⟩; rfl) (fun ys_ col_101 w_100 => ∃ (k_102 : Int) (v_103 : Bool), m_credencelaw10_walked_int_L2 N r_19 r_36 ys_ k_102 v_103 = some r ∧ St w0 (col0 col) col_101 w_100 ∧ Box 3 8 col_101 w_100 g_91 #[(.int .i64 k_102)] ∧ Box 4 2 col_101 w_100 g_6 #[(.bool v_103)] ∧ Own (Rep.int .i64) 3 4 col_101 w_100 ra_21 rc_22 r_19 ∧ Box 22 5 col_101 w_100 g_27 #[(.slice ra_21 r_19.length rc_22)] ∧ Box 33 6 col_101 w_100 g_40 #[(.int .i64 r_36.2)]) (fun c_ col_101 w_100 => (c_ = .exit 2 ∧ ∃ (k_102 : Int) (v_103 : Bool), m_credencelaw10_walked_int_L2_X2 r_36 k_102 v_103 = some r ∧ St w0 (col0 col) col_101 w_100 ∧ Box 3 8 col_101 w_100 g_91 #[(.int .i64 k_102)] ∧ Box 4 2 col_101 w_100 g_6 #[(.bool v_103)] ∧ Own (Rep.int .i64) 3 4 col_101 w_100 ra_21 rc_22 r_19 ∧ Box 22 5 col_101 w_100 g_27 #[(.slice ra_21 r_19.length rc_22)] ∧ Box 33 6 col_101 w_100 g_40 #[(.int .i64 r_36.2)]) ∨ (c_ = .ret ∧ ∃ (k_102 : Int) (v_103 : Bool), m_credencelaw10_walked_int_L2_Xret  k_102 v_103 = some r ∧ St w0 (col0 col) col_101 w_100 ∧ Box 3 8 col_101 w_100 g_91 #[(.int .i64 k_102)] ∧ Box 4 2 col_101 w_100 g_6 #[(.bool v_103)] ∧ Own (Rep.int .i64) 3 4 col_101 w_100 ra_21 rc_22 r_19 ∧ Box 22 5 col_101 w_100 g_27 #[(.slice ra_21 r_19.length rc_22)] ∧ Box 33 6 col_101 w_100 g_40 #[(.int .i64 r_36.2)])) ?_ ?_ ⟨0, false, hm, hst, hb_99, hb_10, rh_23, hb_35, hb_48⟩ ?_ ?_ ?_
              · intro ys_ col_101 w_100 col2_ w2_ hJ hk
                obtain ⟨k_102, v_103, hm, hst, hb_99, hb_10, rh_23, hb_35, hb_48⟩ := hJ
                exact ⟨k_102, v_103, hm, hst.kpp hk rfl rfl, hb_99.kpp hk rfl, hb_10.kpp hk rfl, rh_23.kpp hk rfl rfl, hb_35.kpp hk rfl, hb_48.kpp hk rfl⟩
              · intro c_ col_101 w_100 col2_ w2_ hX hk
                rcases hX with ⟨rfl, hX⟩ | ⟨rfl, hX⟩
                · obtain ⟨k_102, v_103, hm, hst, hb_99, hb_10, rh_23, hb_35, hb_48⟩ := hX
                  exact .inl (⟨rfl, ⟨k_102, v_103, hm, hst.kpp hk rfl rfl, hb_99.kpp hk rfl, hb_10.kpp hk rfl, rh_23.kpp hk rfl rfl, hb_35.kpp hk rfl, hb_48.kpp hk rfl⟩⟩)
                · obtain ⟨k_102, v_103, hm, hst, hb_99, hb_10, rh_23, hb_35, hb_48⟩ := hX
                  exact .inr (⟨rfl, ⟨k_102, v_103, hm, hst.kpp hk rfl rfl, hb_99.kpp hk rfl, hb_10.kpp hk rfl, rh_23.kpp hk rfl rfl, hb_35.kpp hk rfl, hb_48.kpp hk rfl⟩⟩)
              · intro l_122 rc_123 ds_124 y_104 l_105 col_101 w_100 args hJ hrec hmk harr
                obtain ⟨k_102, v_103, hm, hst, hb_99, hb_10, rh_23, hb_35, hb_48⟩ := hJ
                rw [m_credencelaw10_walked_int_L2.eq_2] at hm
                have hki := KeepP.refl pCo col_101 w_100
                obtain ⟨a_125, cap_126, rfl, h_127⟩ := harr
                refine wseq ?_
                refine wregion ?_
                refine lv (v := (.int .i64 y_104.1)) rfl rfl (r_assign rfl) ?_
                refine lnil ?_
                refine wregion ?_
                refine lv (v := (.slice a_125 y_104.2.length cap_126)) rfl rfl (r_assign rfl) ?_
                refine lnil ?_
                refine ⟨_, hrec, ?_⟩
                intro w_148 rc_149 hk_150 hs_151 hrec2
                replace rh_23 := rh_23.kp hk_150 (by decide) (by decide)
                replace h_127 := h_127.kp hk_150 (by decide) (by decide)
                replace hb_99 := hb_99.kp hk_150 (by decide)
                replace hb_10 := hb_10.kp hk_150 (by decide)
                replace hb_35 := hb_35.kp hk_150 (by decide)
                replace hb_48 := hb_48.kp hk_150 (by decide)
                replace hmk := hmk.kp hk_150 (by decide)
                replace hki := hki.kp hk_150 hs_151 rfl
                replace hst := hst.kp hk_150 hs_151 (by decide) (by decide)
                clear hrec
                have hrec := hrec2
                clear hrec2
                refine wblock ?_
                refine wseq ?_
                refine wregion ?_
                refine lv (v := (.slice ra_21 r_19.length rc_22)) rfl rfl (r_ld Try.isAgg22 rfl hb_35.at1) ?_
                refine lv (v := (.int .i64 y_104.1)) rfl rfl (r_move rfl) ?_
                obtain ⟨r_152, hr_153, hm⟩ := bind_some hm
                refine lc rfl rfl (r_call2 Try.call14 rfl rfl) (c_credenceref10_Digits N 9 (frC 4 col_101) _ ra_21 rc_22 r_19 y_104.1 (rh_23.toSlF (Froz.int .i64)) r_152 hr_153) ?_
                rintro _ w_157 ⟨col_159, ra_154, rc_155, rfl, hg_158, rh_156⟩
                refine ⟨_, rfl, ?_⟩
                replace rh_156 := rh_156.thaw (flat_int .i64) hg_158 ((Fz.refl (col := col_101)).froz 4) (by decide)
                replace hg_158 := hg_158.thawR (col := col_101)
                generalize colR w_148.heap.size col_101 col_159 = col_160 at *
                replace rh_23 := rh_23.gr hg_158
                replace h_127 := h_127.gr hg_158
                replace hb_99 := hb_99.gr hg_158
                replace hb_10 := hb_10.gr hg_158
                replace hb_35 := hb_35.gr hg_158
                replace hb_48 := hb_48.gr hg_158
                replace hrec := hrec.gr hg_158
                replace hmk := hmk.gr hg_158
                replace hki := hki.gr hg_158
                replace hst := hst.grow hg_158
                refine lv (v := (.tuple #[(.slice ra_154 r_152.1.length rc_155), (.int .i64 r_152.2)])) rfl rfl (r_move rfl) ?_
                refine lv (v := (.slice ra_154 r_152.1.length rc_155)) rfl rfl (r_extract rfl rfl) ?_
                refine lv (v := (.int .i64 r_152.2)) rfl rfl (r_extract rfl rfl) ?_
                refine lv (v := (.slice ra_154 r_152.1.length rc_155)) rfl rfl (r_assign rfl) ?_
                refine lv (v := (.int .i64 r_152.2)) rfl rfl (r_assign rfl) ?_
                refine lnil ?_
                refine wseq ?_
                refine wseq ?_
                refine wregion ?_
                refine lv (v := (.int .i64 k_102)) rfl rfl (r_ld Try.isAgg3 rfl hb_99.at1) ?_
                refine lv (v := (.bool (decide (k_102 = 20)))) rfl rfl (r_eql k_102 20 rfl rfl) ?_
                refine lnil ?_
                refine wcond (decide (k_102 = 20)) rfl (fun hb => ?_) (fun hb => ?_)
                · rw [if_pos hb] at hm
                  clear hb
                  refine wexit (inB_miss rfl (?_))
                  exact ⟨_, hki, .inl (⟨rfl, ⟨k_102, v_103, hm, hst, hb_99, hb_10, rh_23, hb_35, hb_48⟩⟩), hrec, hmk⟩
                · rw [if_neg (by rw [hb]; decide)] at hm
                  clear hb
                  refine wskip ?_
                  refine wseq ?_
                  refine wseq ?_
                  refine Wp.cut (fun f w_168 => ∃ (col_169 : Col) (v_170 : Bool), m_credencelaw10_walked_int_J5 k_102 v_103 (m_credencelaw10_walked_int_L2 N r_19 r_36 l_105) v_170 = some r ∧ St w0 (col0 col) col_169 w_168 ∧ Box 3 8 col_169 w_168 g_91 #[(.int .i64 k_102)] ∧ Box 4 2 col_169 w_168 g_6 #[(.bool v_103)] ∧ Own (Rep.int .i64) 3 4 col_169 w_168 ra_21 rc_22 r_19 ∧ Box 22 5 col_169 w_168 g_27 #[(.slice ra_21 r_19.length rc_22)] ∧ Box 33 6 col_169 w_168 g_40 #[(.int .i64 r_36.2)] ∧ Rec 498 col_169 w_168 l_122 rc_149 ∧ Marks col_169 w_168 ds_124 ∧ KeepP pCo col_101 w_100 col_169 w_168 ∧ f 11 = (.pointer (some ⟨g_91, 0, none⟩)) ∧ f 4 = (.pointer (some ⟨g_6, 0, none⟩)) ∧ f 6 = (.pointer (some ⟨g_27, 0, none⟩)) ∧ f 8 = (.pointer (some ⟨g_40, 0, none⟩)) ∧ f 89 = (.bool v_170) ∧ f 1000000 = (enc [])) ?_ ?_
                  · intro f w_168 hJ
                    obtain ⟨col_169, v_170, hm, hst, hb_99, hb_10, rh_23, hb_35, hb_48, hrec, hmk, hki, hs11, hs4, hs6, hs8, hs89, hs1000000⟩ := hJ
                    rw [m_credencelaw10_walked_int_J5.eq_1] at hm
                    refine .ld (d := 11) (v := (.pointer (some ⟨g_91, 0, none⟩))) hs11 ?_
                    refine .ld (d := 4) (v := (.pointer (some ⟨g_6, 0, none⟩))) hs4 ?_
                    refine .ld (d := 6) (v := (.pointer (some ⟨g_27, 0, none⟩))) hs6 ?_
                    refine .ld (d := 8) (v := (.pointer (some ⟨g_40, 0, none⟩))) hs8 ?_
                    refine .ld (d := 89) (v := (.bool v_170)) hs89 ?_
                    refine .ld (d := 1000000) (v := (enc [])) hs1000000 ?_
                    clear hs11 hs4 hs6 hs8 hs89 hs1000000
                    refine wcond (v_170) rfl (fun hb => ?_) (fun hb => ?_)
                    · rw [if_pos hb] at hm
                      clear hb
                      refine wseq ?_
                      refine wregion ?_
                      refine l_bstore (v := (.bool false)) hb_10 Try.sizeOf4 rfl rfl (by intro u hu; simp only [Value.cells, List.mem_cons, List.not_mem_nil, or_false] at hu; subst hu; rfl) rfl rfl ?_
                      intro w_171 hk_172 hs_173 hb_174
                      replace rh_23 := rh_23.kp hk_172 (by decide) (by decide)
                      replace hb_99 := hb_99.kp hk_172 (by decide)
                      replace hb_35 := hb_35.kp hk_172 (by decide)
                      replace hb_48 := hb_48.kp hk_172 (by decide)
                      replace hrec := hrec.kp hk_172 (by decide)
                      replace hmk := hmk.kp hk_172 (by decide)
                      replace hki := hki.kp hk_172 hs_173 rfl
                      replace hst := hst.kp hk_172 hs_173 (by decide) (by decide)
                      clear hb_10
                      replace hb_174 : Box 4 2 col_169 w_171 g_6 #[(.bool false)] := hb_174
                      refine lnil ?_
                      refine wret ?_
                      exact ⟨_, hki, .inr (⟨rfl, ⟨k_102, false, hm, hst, hb_99, hb_174, rh_23, hb_35, hb_48⟩⟩), hrec, hmk⟩
                    · rw [if_neg (by rw [hb]; decide)] at hm
                      clear hb
                      refine wskip ?_
                      refine wregion ?_
                      refine lv (v := (.int .i64 k_102)) rfl rfl (r_ld Try.isAgg3 rfl hb_99.at1) ?_
                      refine lv (v := (.int .i64 (IntKind.i64.wrap (k_102 + 1)))) rfl rfl (r_add k_102 1 rfl rfl) ?_
                      refine l_bstore (v := (.int .i64 (IntKind.i64.wrap (k_102 + 1)))) hb_99 Try.sizeOf3 rfl rfl (by intro u hu; simp only [Value.cells, List.mem_cons, List.not_mem_nil, or_false] at hu; subst hu; rfl) rfl rfl ?_
                      intro w_175 hk_176 hs_177 hb_178
                      replace rh_23 := rh_23.kp hk_176 (by decide) (by decide)
                      replace hb_10 := hb_10.kp hk_176 (by decide)
                      replace hb_35 := hb_35.kp hk_176 (by decide)
                      replace hb_48 := hb_48.kp hk_176 (by decide)
                      replace hrec := hrec.kp hk_176 (by decide)
                      replace hmk := hmk.kp hk_176 (by decide)
                      replace hki := hki.kp hk_176 hs_177 rfl
                      replace hst := hst.kp hk_176 hs_177 (by decide) (by decide)
                      clear hb_99
                      replace hb_178 : Box 3 8 col_169 w_175 g_91 #[(.int .i64 (IntKind.i64.wrap (k_102 + 1)))] := hb_178
                      refine lnil ?_
                      exact ⟨_, hki, ⟨(IntKind.i64.wrap (k_102 + 1)), v_103, hm, hst, hb_178, hb_10, rh_23, hb_35, hb_48⟩, hrec, hmk⟩
                  · refine wregion ?_
                    refine lv (v := (.int .i64 r_36.2)) rfl rfl (r_ld Try.isAgg33 rfl hb_48.at1) ?_
                    refine lv (v := (.bool (!decide (r_36.2 = 0)))) rfl rfl (r_neq r_36.2 0 rfl rfl) ?_
                    refine lv (v := (.bool (!decide (r_36.2 = 0)))) rfl rfl (r_move rfl) ?_
                    by_cases hg_179 : (!decide (r_36.2 = 0)) = true
                    · rw [if_pos hg_179] at hm
                      refine lp (b := !decide (r_36.2 = 0)) 75 rfl rfl rfl rfl (by rw [hg_179]; rfl) ?_
                      refine lp (b := !decide (r_36.2 = 0)) 75 rfl rfl rfl rfl (by rw [hg_179]; rfl) ?_
                      refine lp (b := !decide (r_36.2 = 0)) 75 rfl rfl rfl rfl (by rw [hg_179]; rfl) ?_
                      refine lv (v := (.bool true)) rfl rfl (r_pickT (congrArg Value.bool hg_179) rfl) ?_
                      refine lv (v := (.bool true)) rfl rfl (r_move rfl) ?_
                      refine lp (b := true) 80 rfl rfl rfl rfl rfl ?_
                      refine lp (b := true) 80 rfl rfl rfl rfl rfl ?_
                      refine lv (v := (.bool true)) rfl rfl (r_pickT rfl rfl) ?_
                      refine lv (v := (.bool true)) rfl rfl (r_move rfl) ?_
                      refine lp (b := true) 84 rfl rfl rfl rfl rfl ?_
                      refine lp (b := true) 84 rfl rfl rfl rfl rfl ?_
                      refine lp (b := true) 84 rfl rfl rfl rfl rfl ?_
                      refine lp (b := true) 84 rfl rfl rfl rfl rfl ?_
                      refine lv (v := (.bool true)) rfl rfl (r_pickT rfl rfl) ?_
                      refine lnil ?_
                      exact ⟨col_160, true, hm, hst, hb_99, hb_10, rh_23, hb_35, hb_48, hrec, hmk, hki, rfl, rfl, rfl, rfl, rfl, rfl⟩
                    · rw [if_neg hg_179] at hm
                      replace hg_179 := Bool.eq_false_iff.2 hg_179
                      refine lg (b := !decide (r_36.2 = 0)) 75 rfl rfl rfl (by rw [hg_179]; rfl) ?_
                      refine lv (v := (.int .i64 y_104.1)) rfl rfl (r_move rfl) ?_
                      refine lg (b := !decide (r_36.2 = 0)) 75 rfl rfl rfl (by rw [hg_179]; rfl) ?_
                      refine lv (v := (.int .i64 k_102)) rfl rfl (r_ld Try.isAgg3 rfl hb_99.at1) ?_
                      refine lg (b := !decide (r_36.2 = 0)) 75 rfl rfl rfl (by rw [hg_179]; rfl) ?_
                      refine lv (v := (.bool (!decide (y_104.1 = k_102)))) rfl rfl (r_neq y_104.1 k_102 rfl rfl) ?_
                      refine lv (v := (.bool (!decide (y_104.1 = k_102)))) rfl rfl (r_pickF (congrArg Value.bool hg_179) rfl) ?_
                      refine lv (v := (.bool (!decide (y_104.1 = k_102)))) rfl rfl (r_move rfl) ?_
                      by_cases hg_180 : (!decide (y_104.1 = k_102)) = true
                      · rw [if_pos hg_180] at hm
                        refine lp (b := !decide (y_104.1 = k_102)) 80 rfl rfl rfl rfl (by rw [hg_180]; rfl) ?_
                        refine lp (b := !decide (y_104.1 = k_102)) 80 rfl rfl rfl rfl (by rw [hg_180]; rfl) ?_
                        refine lv (v := (.bool true)) rfl rfl (r_pickT (congrArg Value.bool hg_180) rfl) ?_
                        refine lv (v := (.bool true)) rfl rfl (r_move rfl) ?_
                        refine lp (b := true) 84 rfl rfl rfl rfl rfl ?_
                        refine lp (b := true) 84 rfl rfl rfl rfl rfl ?_
                        refine lp (b := true) 84 rfl rfl rfl rfl rfl ?_
                        refine lp (b := true) 84 rfl rfl rfl rfl rfl ?_
                        refine lv (v := (.bool true)) rfl rfl (r_pickT rfl rfl) ?_
                        refine lnil ?_
                        exact ⟨col_160, true, hm, hst, hb_99, hb_10, rh_23, hb_35, hb_48, hrec, hmk, hki, rfl, rfl, rfl, rfl, rfl, rfl⟩
                      · rw [if_neg hg_180] at hm
                        replace hg_180 := Bool.eq_false_iff.2 hg_180
                        refine lg (b := !decide (y_104.1 = k_102)) 80 rfl rfl rfl (by rw [hg_180]; rfl) ?_
                        refine lv (v := (.int .i64 r_152.2)) rfl rfl (r_move rfl) ?_
                        refine lg (b := !decide (y_104.1 = k_102)) 80 rfl rfl rfl (by rw [hg_180]; rfl) ?_
                        refine lv (v := (.bool (!decide (r_152.2 = 0)))) rfl rfl (r_neq r_152.2 0 rfl rfl) ?_
                        refine lv (v := (.bool (!decide (r_152.2 = 0)))) rfl rfl (r_pickF (congrArg Value.bool hg_180) rfl) ?_
                        refine lv (v := (.bool (!decide (r_152.2 = 0)))) rfl rfl (r_move rfl) ?_
                        by_cases hg_181 : (!decide (r_152.2 = 0)) = true
                        · rw [if_pos hg_181] at hm
                          refine lp (b := !decide (r_152.2 = 0)) 84 rfl rfl rfl rfl (by rw [hg_181]; rfl) ?_
                          refine lp (b := !decide (r_152.2 = 0)) 84 rfl rfl rfl rfl (by rw [hg_181]; rfl) ?_
                          refine lp (b := !decide (r_152.2 = 0)) 84 rfl rfl rfl rfl (by rw [hg_181]; rfl) ?_
                          refine lp (b := !decide (r_152.2 = 0)) 84 rfl rfl rfl rfl (by rw [hg_181]; rfl) ?_
                          refine lv (v := (.bool true)) rfl rfl (r_pickT (congrArg Value.bool hg_181) rfl) ?_
                          refine lnil ?_
                          exact ⟨col_160, true, hm, hst, hb_99, hb_10, rh_23, hb_35, hb_48, hrec, hmk, hki, rfl, rfl, rfl, rfl, rfl, rfl⟩
                        · rw [if_neg hg_181] at hm
                          replace hg_181 := Bool.eq_false_iff.2 hg_181
                          refine lg (b := !decide (r_152.2 = 0)) 84 rfl rfl rfl (by rw [hg_181]; rfl) ?_
                          refine lv (v := (.slice a_125 y_104.2.length cap_126)) rfl rfl (r_move rfl) ?_
                          refine lg (b := !decide (r_152.2 = 0)) 84 rfl rfl rfl (by rw [hg_181]; rfl) ?_
                          refine lv (v := (.slice ra_154 r_152.1.length rc_155)) rfl rfl (r_move rfl) ?_
                          refine lg (b := !decide (r_152.2 = 0)) 84 rfl rfl rfl (by rw [hg_181]; rfl) ?_
                          obtain ⟨r_182, hr_183, hm⟩ := bind_some hm
                          refine lc rfl rfl (r_call2 Try.call15 rfl rfl) (c_credencelaw10_same_int N (frC 9 (frC 7 col_160)) _ a_125 cap_126 y_104.2 ra_154 rc_155 r_152.1 ((h_127.toSlF (Froz.int .i64)).froz 9) ((rh_156.froz 7 (by decide)).toSlF (Froz.int .i64)) r_182 hr_183) ?_
                          rintro _ w_184 ⟨rfl, hg_185⟩
                          refine ⟨_, rfl, ?_⟩
                          replace hg_185 : Grow col_160 w_157 col_160 w_184 := .of_below hg_185
                          replace rh_23 := rh_23.gr hg_185
                          replace h_127 := h_127.gr hg_185
                          replace rh_156 := rh_156.gr hg_185
                          replace hb_99 := hb_99.gr hg_185
                          replace hb_10 := hb_10.gr hg_185
                          replace hb_35 := hb_35.gr hg_185
                          replace hb_48 := hb_48.gr hg_185
                          replace hrec := hrec.gr hg_185
                          replace hmk := hmk.gr hg_185
                          replace hki := hki.gr hg_185
                          replace hst := hst.grow hg_185
                          refine lg (b := !decide (r_152.2 = 0)) 84 rfl rfl rfl (by rw [hg_181]; rfl) ?_
                          refine lv (v := (.bool (!r_182))) rfl rfl (r_not r_182 rfl) ?_
                          refine lv (v := (.bool (!r_182))) rfl rfl (r_pickF (congrArg Value.bool hg_181) rfl) ?_
                          refine lnil ?_
                          exact ⟨col_160, (!r_182), hm, hst, hb_99, hb_10, rh_23, hb_35, hb_48, hrec, hmk, hki, rfl, rfl, rfl, rfl, rfl, rfl⟩
              · clear hmk
                intro D_106 col_101 w_100 hJ hmk
                obtain ⟨k_102, v_103, hm, hst, hb_99, hb_10, rh_23, hb_35, hb_48⟩ := hJ
                rw [m_credencelaw10_walked_int_L2.eq_1] at hm
                refine wseq ?_
                refine Wp.cut (fun f w_107 => ∃ (col_108 : Col) (v_109 : Bool), m_credencelaw10_walked_int_J3 v_109 = some r ∧ St w0 (col0 col) col_108 w_107 ∧ Box 4 2 col_108 w_107 g_6 #[(.bool v_109)] ∧ Marks col_108 w_107 (D_106 :: []) ∧ f 4 = (.pointer (some ⟨g_6, 0, none⟩)) ∧ f 1000000 = (enc (D_106 :: []))) ?_ ?_
                · intro f w_107 hJ
                  obtain ⟨col_108, v_109, hm, hst, hb_10, hmk, hs4, hs1000000⟩ := hJ
                  rw [m_credencelaw10_walked_int_J3.eq_1] at hm
                  refine .ld (d := 4) (v := (.pointer (some ⟨g_6, 0, none⟩))) hs4 ?_
                  refine .ld (d := 1000000) (v := (enc (D_106 :: []))) hs1000000 ?_
                  clear hs4 hs1000000
                  refine wret ?_
                  cases hm
                  refine ⟨_, (D_106 :: []), rfl, hmk, ?_⟩
                  intro w_110 hk_111 hs_112
                  clear hmk
                  replace hb_10 := hb_10.kp hk_111 (by decide)
                  replace hst := hst.kp hk_111 hs_112 (by decide) (by decide)
                  exact ⟨_, res_cell1 rfl rfl Try.isAgg4 rfl hb_10.at1, rfl, hst.below⟩
                · refine wregion ?_
                  refine lv (v := (.int .i64 r_36.2)) rfl rfl (r_ld Try.isAgg33 rfl hb_48.at1) ?_
                  refine lv (v := (.bool (decide (r_36.2 = 0)))) rfl rfl (r_eql r_36.2 0 rfl rfl) ?_
                  refine lv (v := (.bool (decide (r_36.2 = 0)))) rfl rfl (r_move rfl) ?_
                  by_cases hg_113 : (decide (r_36.2 = 0)) = true
                  · rw [if_pos hg_113] at hm
                    refine lp (b := decide (r_36.2 = 0)) 94 rfl rfl rfl rfl (by rw [hg_113]; rfl) ?_
                    refine lp (b := decide (r_36.2 = 0)) 94 rfl rfl rfl rfl (by rw [hg_113]; rfl) ?_
                    refine lv (v := (.bool true)) rfl rfl (r_pickT (congrArg Value.bool hg_113) rfl) ?_
                    refine l_bstore (v := (.bool true)) hb_10 Try.sizeOf4 rfl rfl (by intro u hu; simp only [Value.cells, List.mem_cons, List.not_mem_nil, or_false] at hu; subst hu; rfl) rfl rfl ?_
                    intro w_114 hk_115 hs_116 hb_117
                    replace hmk := hmk.kp hk_115 (by decide)
                    replace hst := hst.kp hk_115 hs_116 (by decide) (by decide)
                    clear hb_10
                    replace hb_117 : Box 4 2 col_101 w_114 g_6 #[(.bool true)] := hb_117
                    refine lnil ?_
                    exact ⟨col_101, true, hm, hst, hb_117, hmk, rfl, rfl⟩
                  · rw [if_neg hg_113] at hm
                    replace hg_113 := Bool.eq_false_iff.2 hg_113
                    refine lg (b := decide (r_36.2 = 0)) 94 rfl rfl rfl (by rw [hg_113]; rfl) ?_
                    refine lv (v := (.int .i64 k_102)) rfl rfl (r_ld Try.isAgg3 rfl hb_99.at1) ?_
                    refine lg (b := decide (r_36.2 = 0)) 94 rfl rfl rfl (by rw [hg_113]; rfl) ?_
                    refine lv (v := (.bool (decide (k_102 = 0)))) rfl rfl (r_eql k_102 0 rfl rfl) ?_
                    refine lv (v := (.bool (decide (k_102 = 0)))) rfl rfl (r_pickF (congrArg Value.bool hg_113) rfl) ?_
                    refine l_bstore (v := (.bool (decide (k_102 = 0)))) hb_10 Try.sizeOf4 rfl rfl (by intro u hu; simp only [Value.cells, List.mem_cons, List.not_mem_nil, or_false] at hu; subst hu; rfl) rfl rfl ?_
                    intro w_118 hk_119 hs_120 hb_121
                    replace hmk := hmk.kp hk_119 (by decide)
                    replace hst := hst.kp hk_119 hs_120 (by decide) (by decide)
                    clear hb_10
                    replace hb_121 : Box 4 2 col_101 w_118 g_6 #[(.bool (decide (k_102 = 0)))] := hb_121
                    refine lnil ?_
                    exact ⟨col_101, (decide (k_102 = 0)), hm, hst, hb_121, hmk, rfl, rfl⟩
              · clear hmk
                intro c_ D_128 col_101 w_100 hX hmk
                rcases hX with ⟨rfl, hX⟩ | ⟨rfl, hX⟩
                · obtain ⟨k_102, v_103, hm, hst, hb_99, hb_10, rh_23, hb_35, hb_48⟩ := hX
                  rw [m_credencelaw10_walked_int_L2_X2.eq_1] at hm
                  refine wexit (inB_hit ?_)
                  refine wseq ?_
                  refine Wp.cut (fun f w_129 => ∃ (col_130 : Col) (v_131 : Bool), m_credencelaw10_walked_int_J4 v_131 = some r ∧ St w0 (col0 col) col_130 w_129 ∧ Box 4 2 col_130 w_129 g_6 #[(.bool v_131)] ∧ Marks col_130 w_129 (D_128 :: []) ∧ f 4 = (.pointer (some ⟨g_6, 0, none⟩)) ∧ f 1000000 = (enc (D_128 :: []))) ?_ ?_
                  · intro f w_129 hJ
                    obtain ⟨col_130, v_131, hm, hst, hb_10, hmk, hs4, hs1000000⟩ := hJ
                    rw [m_credencelaw10_walked_int_J4.eq_1] at hm
                    refine .ld (d := 4) (v := (.pointer (some ⟨g_6, 0, none⟩))) hs4 ?_
                    refine .ld (d := 1000000) (v := (enc (D_128 :: []))) hs1000000 ?_
                    clear hs4 hs1000000
                    refine wret ?_
                    cases hm
                    refine ⟨_, (D_128 :: []), rfl, hmk, ?_⟩
                    intro w_132 hk_133 hs_134
                    clear hmk
                    replace hb_10 := hb_10.kp hk_133 (by decide)
                    replace hst := hst.kp hk_133 hs_134 (by decide) (by decide)
                    exact ⟨_, res_cell1 rfl rfl Try.isAgg4 rfl hb_10.at1, rfl, hst.below⟩
                  · refine wregion ?_
                    refine lv (v := (.int .i64 r_36.2)) rfl rfl (r_ld Try.isAgg33 rfl hb_48.at1) ?_
                    refine lv (v := (.bool (decide (r_36.2 = 0)))) rfl rfl (r_eql r_36.2 0 rfl rfl) ?_
                    refine lv (v := (.bool (decide (r_36.2 = 0)))) rfl rfl (r_move rfl) ?_
                    by_cases hg_135 : (decide (r_36.2 = 0)) = true
                    · rw [if_pos hg_135] at hm
                      refine lp (b := decide (r_36.2 = 0)) 94 rfl rfl rfl rfl (by rw [hg_135]; rfl) ?_
                      refine lp (b := decide (r_36.2 = 0)) 94 rfl rfl rfl rfl (by rw [hg_135]; rfl) ?_
                      refine lv (v := (.bool true)) rfl rfl (r_pickT (congrArg Value.bool hg_135) rfl) ?_
                      refine l_bstore (v := (.bool true)) hb_10 Try.sizeOf4 rfl rfl (by intro u hu; simp only [Value.cells, List.mem_cons, List.not_mem_nil, or_false] at hu; subst hu; rfl) rfl rfl ?_
                      intro w_136 hk_137 hs_138 hb_139
                      replace hmk := hmk.kp hk_137 (by decide)
                      replace hst := hst.kp hk_137 hs_138 (by decide) (by decide)
                      clear hb_10
                      replace hb_139 : Box 4 2 col_101 w_136 g_6 #[(.bool true)] := hb_139
                      refine lnil ?_
                      exact ⟨col_101, true, hm, hst, hb_139, hmk, rfl, rfl⟩
                    · rw [if_neg hg_135] at hm
                      replace hg_135 := Bool.eq_false_iff.2 hg_135
                      refine lg (b := decide (r_36.2 = 0)) 94 rfl rfl rfl (by rw [hg_135]; rfl) ?_
                      refine lv (v := (.int .i64 k_102)) rfl rfl (r_ld Try.isAgg3 rfl hb_99.at1) ?_
                      refine lg (b := decide (r_36.2 = 0)) 94 rfl rfl rfl (by rw [hg_135]; rfl) ?_
                      refine lv (v := (.bool (decide (k_102 = 0)))) rfl rfl (r_eql k_102 0 rfl rfl) ?_
                      refine lv (v := (.bool (decide (k_102 = 0)))) rfl rfl (r_pickF (congrArg Value.bool hg_135) rfl) ?_
                      refine l_bstore (v := (.bool (decide (k_102 = 0)))) hb_10 Try.sizeOf4 rfl rfl (by intro u hu; simp only [Value.cells, List.mem_cons, List.not_mem_nil, or_false] at hu; subst hu; rfl) rfl rfl ?_
                      intro w_140 hk_141 hs_142 hb_143
                      replace hmk := hmk.kp hk_141 (by decide)
                      replace hst := hst.kp hk_141 hs_142 (by decide) (by decide)
                      clear hb_10
                      replace hb_143 : Box 4 2 col_101 w_140 g_6 #[(.bool (decide (k_102 = 0)))] := hb_143
                      refine lnil ?_
                      exact ⟨col_101, (decide (k_102 = 0)), hm, hst, hb_143, hmk, rfl, rfl⟩
                · obtain ⟨k_102, v_103, hm, hst, hb_99, hb_10, rh_23, hb_35, hb_48⟩ := hX
                  rw [m_credencelaw10_walked_int_L2_Xret.eq_1] at hm
                  refine wret ?_
                  cases hm
                  refine ⟨_, (D_128 :: []), rfl, hmk, ?_⟩
                  intro w_145 hk_146 hs_147
                  clear hmk
                  replace hb_10 := hb_10.kp hk_146 (by decide)
                  replace hst := hst.kp hk_146 hs_147 (by decide) (by decide)
                  exact ⟨_, res_cell1 rfl rfl Try.isAgg4 rfl hb_10.at1, rfl, hst.below⟩
            · rw [if_neg (by rw [hb]; decide)] at hm
              clear hb
              refine wskip ?_
              refine wseq ?_
              refine wregion ?_
              refine l_alloc (col := col_89) (v := (.int .i64 0)) 10 rfl Try.zeroValue3 ?_
              intro g_186 w_187 col_188 hg_189 hb_190
              replace rh_23 := rh_23.gr hg_189
              replace rh_52 := rh_52.gr hg_189
              replace hb_5 := hb_5.gr hg_189
              replace hb_10 := hb_10.gr hg_189
              replace hb_35 := hb_35.gr hg_189
              replace hb_48 := hb_48.gr hg_189
              replace hmk := hmk.gr hg_189
              replace hst := hst.grow hg_189
              replace hb_190 : Box 3 10 col_188 w_187 g_186 #[(.int .i64 0)] := hb_190
              refine l_bstore (v := (.int .i64 0)) hb_190 Try.sizeOf3 rfl rfl (by intro u hu; simp only [Value.cells, List.mem_cons, List.not_mem_nil, or_false] at hu; subst hu; rfl) rfl rfl ?_
              intro w_191 hk_192 hs_193 hb_194
              replace rh_23 := rh_23.kp hk_192 (by decide) (by decide)
              replace rh_52 := rh_52.kp hk_192 rfl
              replace hb_5 := hb_5.kp hk_192 (by decide)
              replace hb_10 := hb_10.kp hk_192 (by decide)
              replace hb_35 := hb_35.kp hk_192 (by decide)
              replace hmk := hmk.kp hk_192 (by decide)
              replace hst := hst.kp hk_192 hs_193 (by decide) (by decide)
              clear hb_190
              replace hb_194 : Box 3 10 col_188 w_191 g_186 #[(.int .i64 0)] := hb_194
              refine lnil ?_
              refine wseq ?_
              refine wseq ?_
              refine wregion ?_
              refine lv (v := rv_51) rfl rfl (r_move rfl) ?_
              refine lnil ?_
              refine wblock ?_
              refine wrange (psl := [99, 100]) (arr := (fun (y : Int × (List Int)) (col : Col) (w : World) (args : List Value) => ∃ (a1 : Option Addr) (cap1 : Nat), args = [.int .i64 y.1, .slice a1 y.2.length cap1] ∧ Own (Rep.int .i64) 3 7 col w a1 cap1 y.2)) (ys := r_49) (col := col_188) 498 rfl rh_52 rfl hmk rfl rfl (by rintro _ _ _ _ ⟨_, _, rfl, _⟩; rfl) (fun ys_ col_196 w_195 => ∃ (k_197 : Int) (v_198 : Bool), m_credencelaw10_walked_int_L3 N p1_left r_19 r_36 r_49 ys_ k_197 v_198 = some r ∧ St w0 (col0 col) col_196 w_195 ∧ Box 3 10 col_196 w_195 g_186 #[(.int .i64 k_197)] ∧ Box 3 1 col_196 w_195 g_1 #[(.int .i64 p1_left)] ∧ Box 4 2 col_196 w_195 g_6 #[(.bool v_198)] ∧ Own (Rep.int .i64) 3 4 col_196 w_195 ra_21 rc_22 r_19 ∧ Box 22 5 col_196 w_195 g_27 #[(.slice ra_21 r_19.length rc_22)] ∧ It Try.prog rv_51 (fun (y : Int × (List Int)) (col : Col) (w : World) (args : List Value) => ∃ (a1 : Option Addr) (cap1 : Nat), args = [.int .i64 y.1, .slice a1 y.2.length cap1] ∧ Own (Rep.int .i64) 3 7 col w a1 cap1 y.2) r_49 q1 col_196 w_195) (fun c_ col_196 w_195 => (c_ = .exit 4 ∧ ∃ (k_197 : Int) (v_198 : Bool), m_credencelaw10_walked_int_L3_X4 N r_19 r_36 r_49 k_197 v_198 = some r ∧ St w0 (col0 col) col_196 w_195 ∧ Box 3 10 col_196 w_195 g_186 #[(.int .i64 k_197)] ∧ Box 3 1 col_196 w_195 g_1 #[(.int .i64 p1_left)] ∧ Box 4 2 col_196 w_195 g_6 #[(.bool v_198)] ∧ Own (Rep.int .i64) 3 4 col_196 w_195 ra_21 rc_22 r_19 ∧ Box 22 5 col_196 w_195 g_27 #[(.slice ra_21 r_19.length rc_22)] ∧ It Try.prog rv_51 (fun (y : Int × (List Int)) (col : Col) (w : World) (args : List Value) => ∃ (a1 : Option Addr) (cap1 : Nat), args = [.int .i64 y.1, .slice a1 y.2.length cap1] ∧ Own (Rep.int .i64) 3 7 col w a1 cap1 y.2) r_49 q1 col_196 w_195) ∨ (c_ = .ret ∧ ∃ (k_197 : Int) (v_198 : Bool), m_credencelaw10_walked_int_L3_Xret  k_197 v_198 = some r ∧ St w0 (col0 col) col_196 w_195 ∧ Box 3 10 col_196 w_195 g_186 #[(.int .i64 k_197)] ∧ Box 3 1 col_196 w_195 g_1 #[(.int .i64 p1_left)] ∧ Box 4 2 col_196 w_195 g_6 #[(.bool v_198)] ∧ Own (Rep.int .i64) 3 4 col_196 w_195 ra_21 rc_22 r_19 ∧ Box 22 5 col_196 w_195 g_27 #[(.slice ra_21 r_19.length rc_22)] ∧ It Try.prog rv_51 (fun (y : Int × (List Int)) (col : Col) (w : World) (args : List Value) => ∃ (a1 : Option Addr) (cap1 : Nat), args = [.int .i64 y.1, .slice a1 y.2.length cap1] ∧ Own (Rep.int .i64) 3 7 col w a1 cap1 y.2) r_49 q1 col_196 w_195)) ?_ ?_ ⟨0, false, hm, hst, hb_194, hb_5, hb_10, rh_23, hb_35, rh_52⟩ ?_ ?_ ?_
              · intro ys_ col_196 w_195 col2_ w2_ hJ hk
                obtain ⟨k_197, v_198, hm, hst, hb_194, hb_5, hb_10, rh_23, hb_35, rh_52⟩ := hJ
                exact ⟨k_197, v_198, hm, hst.kpp hk rfl rfl, hb_194.kpp hk rfl, hb_5.kpp hk rfl, hb_10.kpp hk rfl, rh_23.kpp hk rfl rfl, hb_35.kpp hk rfl, rh_52.kpp hk (by intro c hc; revert hc; exact q1_St c)⟩
              · intro c_ col_196 w_195 col2_ w2_ hX hk
                rcases hX with ⟨rfl, hX⟩ | ⟨rfl, hX⟩
                · obtain ⟨k_197, v_198, hm, hst, hb_194, hb_5, hb_10, rh_23, hb_35, rh_52⟩ := hX
                  exact .inl (⟨rfl, ⟨k_197, v_198, hm, hst.kpp hk rfl rfl, hb_194.kpp hk rfl, hb_5.kpp hk rfl, hb_10.kpp hk rfl, rh_23.kpp hk rfl rfl, hb_35.kpp hk rfl, rh_52.kpp hk (by intro c hc; revert hc; exact q1_St c)⟩⟩)
                · obtain ⟨k_197, v_198, hm, hst, hb_194, hb_5, hb_10, rh_23, hb_35, rh_52⟩ := hX
                  exact .inr (⟨rfl, ⟨k_197, v_198, hm, hst.kpp hk rfl rfl, hb_194.kpp hk rfl, hb_5.kpp hk rfl, hb_10.kpp hk rfl, rh_23.kpp hk rfl rfl, hb_35.kpp hk rfl, rh_52.kpp hk (by intro c hc; revert hc; exact q1_St c)⟩⟩)
              · intro l_375 rc_376 ds_377 y_199 l_200 col_196 w_195 args hJ hrec hmk harr
                obtain ⟨k_197, v_198, hm, hst, hb_194, hb_5, hb_10, rh_23, hb_35, rh_52⟩ := hJ
                rw [m_credencelaw10_walked_int_L3.eq_2] at hm
                have hki := KeepP.refl pCo col_196 w_195
                obtain ⟨a_378, cap_379, rfl, h_380⟩ := harr
                refine wregion ?_
                refine lv (v := (.int .i64 y_199.1)) rfl rfl (r_assign rfl) ?_
                refine lnil ?_
                refine ⟨_, hrec, ?_⟩
                intro w_559 rc_560 hk_561 hs_562 hrec2
                replace rh_23 := rh_23.kp hk_561 (by decide) (by decide)
                replace rh_52 := rh_52.kp hk_561 rfl
                replace hb_194 := hb_194.kp hk_561 (by decide)
                replace hb_5 := hb_5.kp hk_561 (by decide)
                replace hb_10 := hb_10.kp hk_561 (by decide)
                replace hb_35 := hb_35.kp hk_561 (by decide)
                replace hmk := hmk.kp hk_561 (by decide)
                replace hki := hki.kp hk_561 hs_562 rfl
                replace hst := hst.kp hk_561 hs_562 (by decide) (by decide)
                clear hrec
                have hrec := hrec2
                clear hrec2
                refine wblock ?_
                refine wseq ?_
                refine wseq ?_
                refine wregion ?_
                refine lv (v := (.int .i64 k_197)) rfl rfl (r_ld Try.isAgg3 rfl hb_194.at1) ?_
                refine lv (v := (.int .i64 p1_left)) rfl rfl (r_ld Try.isAgg3 rfl hb_5.at1) ?_
                refine lv (v := (.bool (decide (k_197 = p1_left)))) rfl rfl (r_eql k_197 p1_left rfl rfl) ?_
                refine lnil ?_
                refine wcond (decide (k_197 = p1_left)) rfl (fun hb => ?_) (fun hb => ?_)
                · rw [if_pos hb] at hm
                  clear hb
                  refine wexit (inB_miss rfl (?_))
                  exact ⟨_, hki, .inl (⟨rfl, ⟨k_197, v_198, hm, hst, hb_194, hb_5, hb_10, rh_23, hb_35, rh_52⟩⟩), hrec, hmk⟩
                · rw [if_neg (by rw [hb]; decide)] at hm
                  clear hb
                  refine wskip ?_
                  refine wseq ?_
                  refine wseq ?_
                  refine wregion ?_
                  refine lv (v := (.int .i64 y_199.1)) rfl rfl (r_move rfl) ?_
                  refine lv (v := (.int .i64 k_197)) rfl rfl (r_ld Try.isAgg3 rfl hb_194.at1) ?_
                  refine lv (v := (.bool (!decide (y_199.1 = k_197)))) rfl rfl (r_neq y_199.1 k_197 rfl rfl) ?_
                  refine lnil ?_
                  refine wcond (!decide (y_199.1 = k_197)) rfl (fun hb => ?_) (fun hb => ?_)
                  · rw [if_pos hb] at hm
                    clear hb
                    refine wseq ?_
                    refine wregion ?_
                    refine l_bstore (v := (.bool false)) hb_10 Try.sizeOf4 rfl rfl (by intro u hu; simp only [Value.cells, List.mem_cons, List.not_mem_nil, or_false] at hu; subst hu; rfl) rfl rfl ?_
                    intro w_563 hk_564 hs_565 hb_566
                    replace rh_23 := rh_23.kp hk_564 (by decide) (by decide)
                    replace rh_52 := rh_52.kp hk_564 rfl
                    replace hb_194 := hb_194.kp hk_564 (by decide)
                    replace hb_5 := hb_5.kp hk_564 (by decide)
                    replace hb_35 := hb_35.kp hk_564 (by decide)
                    replace hrec := hrec.kp hk_564 (by decide)
                    replace hmk := hmk.kp hk_564 (by decide)
                    replace hki := hki.kp hk_564 hs_565 rfl
                    replace hst := hst.kp hk_564 hs_565 (by decide) (by decide)
                    clear hb_10
                    replace hb_566 : Box 4 2 col_196 w_563 g_6 #[(.bool false)] := hb_566
                    refine lnil ?_
                    refine wret ?_
                    exact ⟨_, hki, .inr (⟨rfl, ⟨k_197, false, hm, hst, hb_194, hb_5, hb_566, rh_23, hb_35, rh_52⟩⟩), hrec, hmk⟩
                  · rw [if_neg (by rw [hb]; decide)] at hm
                    clear hb
                    refine wskip ?_
                    refine wregion ?_
                    refine lv (v := (.int .i64 k_197)) rfl rfl (r_ld Try.isAgg3 rfl hb_194.at1) ?_
                    refine lv (v := (.int .i64 (IntKind.i64.wrap (k_197 + 1)))) rfl rfl (r_add k_197 1 rfl rfl) ?_
                    refine l_bstore (v := (.int .i64 (IntKind.i64.wrap (k_197 + 1)))) hb_194 Try.sizeOf3 rfl rfl (by intro u hu; simp only [Value.cells, List.mem_cons, List.not_mem_nil, or_false] at hu; subst hu; rfl) rfl rfl ?_
                    intro w_567 hk_568 hs_569 hb_570
                    replace rh_23 := rh_23.kp hk_568 (by decide) (by decide)
                    replace rh_52 := rh_52.kp hk_568 rfl
                    replace hb_5 := hb_5.kp hk_568 (by decide)
                    replace hb_10 := hb_10.kp hk_568 (by decide)
                    replace hb_35 := hb_35.kp hk_568 (by decide)
                    replace hrec := hrec.kp hk_568 (by decide)
                    replace hmk := hmk.kp hk_568 (by decide)
                    replace hki := hki.kp hk_568 hs_569 rfl
                    replace hst := hst.kp hk_568 hs_569 (by decide) (by decide)
                    clear hb_194
                    replace hb_570 : Box 3 10 col_196 w_567 g_186 #[(.int .i64 (IntKind.i64.wrap (k_197 + 1)))] := hb_570
                    refine lnil ?_
                    exact ⟨_, hki, ⟨(IntKind.i64.wrap (k_197 + 1)), v_198, hm, hst, hb_570, hb_5, hb_10, rh_23, hb_35, rh_52⟩, hrec, hmk⟩
              · clear hmk
                intro D_201 col_196 w_195 hJ hmk
                obtain ⟨k_197, v_198, hm, hst, hb_194, hb_5, hb_10, rh_23, hb_35, rh_52⟩ := hJ
                rw [m_credencelaw10_walked_int_L3.eq_1] at hm
                refine wseq ?_
                refine wregion ?_
                refine l_alloc (col := col_196) (v := (.slice none (([] : List (Option (List Int))).length) 0)) 11 rfl Try.zeroValue42 ?_
                intro g_202 w_203 col_204 hg_205 hb_206
                replace rh_23 := rh_23.gr hg_205
                replace rh_52 := rh_52.gr hg_205
                replace hb_194 := hb_194.gr hg_205
                replace hb_5 := hb_5.gr hg_205
                replace hb_10 := hb_10.gr hg_205
                replace hb_35 := hb_35.gr hg_205
                replace hmk := hmk.gr hg_205
                replace hst := hst.grow hg_205
                replace hb_206 : Box 42 11 col_204 w_203 g_202 #[(.slice none (([] : List (Option (List Int))).length) 0)] := hb_206
                refine lnil ?_
                refine wseq ?_
                refine wseq ?_
                refine wregion ?_
                refine lv (v := rv_51) rfl rfl (r_move rfl) ?_
                refine lnil ?_
                refine wblock ?_
                refine wrange (psl := [110, 111]) (arr := (fun (y : Int × (List Int)) (col : Col) (w : World) (args : List Value) => ∃ (a1 : Option Addr) (cap1 : Nat), args = [.int .i64 y.1, .slice a1 y.2.length cap1] ∧ Own (Rep.int .i64) 3 7 col w a1 cap1 y.2)) (ys := r_49) (col := col_204) 498 rfl rh_52 rfl hmk rfl rfl (by rintro _ _ _ _ ⟨_, _, rfl, _⟩; rfl) (fun ys_ col_208 w_207 => ∃ (a_210 : Option Addr) (cap_211 : Nat) (all_209 : List (Option (List Int))) (v_213 : Bool), m_credencelaw10_walked_int_L4 N r_19 r_36 ys_ all_209 v_213 = some r ∧ St w0 (col0 col) col_208 w_207 ∧ Own (Rep.opt (Rep.int .i64)) 22 12 col_208 w_207 a_210 cap_211 all_209 ∧ Box 42 11 col_208 w_207 g_202 #[(.slice a_210 all_209.length cap_211)] ∧ Box 4 2 col_208 w_207 g_6 #[(.bool v_213)] ∧ Own (Rep.int .i64) 3 4 col_208 w_207 ra_21 rc_22 r_19 ∧ Box 22 5 col_208 w_207 g_27 #[(.slice ra_21 r_19.length rc_22)]) (fun c_ col_208 w_207 => (c_ = .ret ∧ ∃ (a_210 : Option Addr) (cap_211 : Nat) (all_209 : List (Option (List Int))) (v_213 : Bool), m_credencelaw10_walked_int_L4_Xret  all_209 v_213 = some r ∧ St w0 (col0 col) col_208 w_207 ∧ Own (Rep.opt (Rep.int .i64)) 22 12 col_208 w_207 a_210 cap_211 all_209 ∧ Box 42 11 col_208 w_207 g_202 #[(.slice a_210 all_209.length cap_211)] ∧ Box 4 2 col_208 w_207 g_6 #[(.bool v_213)] ∧ Own (Rep.int .i64) 3 4 col_208 w_207 ra_21 rc_22 r_19 ∧ Box 22 5 col_208 w_207 g_27 #[(.slice ra_21 r_19.length rc_22)])) ?_ ?_ ⟨none, 0, ([] : List (Option (List Int))), v_198, hm, hst, Own.nil, hb_206, hb_10, rh_23, hb_35⟩ ?_ ?_ ?_
                · intro ys_ col_208 w_207 col2_ w2_ hJ hk
                  obtain ⟨a_210, cap_211, all_209, v_213, hm, hst, h_212, hb_206, hb_10, rh_23, hb_35⟩ := hJ
                  exact ⟨a_210, cap_211, all_209, v_213, hm, hst.kpp hk rfl rfl, h_212.kpp hk rfl rfl, hb_206.kpp hk rfl, hb_10.kpp hk rfl, rh_23.kpp hk rfl rfl, hb_35.kpp hk rfl⟩
                · intro c_ col_208 w_207 col2_ w2_ hX hk
                  obtain ⟨rfl, hX⟩ := hX
                  obtain ⟨a_210, cap_211, all_209, v_213, hm, hst, h_212, hb_206, hb_10, rh_23, hb_35⟩ := hX
                  exact ⟨rfl, ⟨a_210, cap_211, all_209, v_213, hm, hst.kpp hk rfl rfl, h_212.kpp hk rfl rfl, hb_206.kpp hk rfl, hb_10.kpp hk rfl, rh_23.kpp hk rfl rfl, hb_35.kpp hk rfl⟩⟩
                · intro l_258 rc_259 ds_260 y_214 l_215 col_208 w_207 args hJ hrec hmk harr
                  obtain ⟨a_210, cap_211, all_209, v_213, hm, hst, h_212, hb_206, hb_10, rh_23, hb_35⟩ := hJ
                  rw [m_credencelaw10_walked_int_L4.eq_2] at hm
                  have hki := KeepP.refl pCo col_208 w_207
                  obtain ⟨a_261, cap_262, rfl, h_263⟩ := harr
                  refine wseq ?_
                  refine wregion ?_
                  refine lv (v := (.int .i64 y_214.1)) rfl rfl (r_assign rfl) ?_
                  refine lnil ?_
                  refine wregion ?_
                  refine lv (v := (.slice a_261 y_214.2.length cap_262)) rfl rfl (r_assign rfl) ?_
                  refine lnil ?_
                  refine ⟨_, hrec, ?_⟩
                  intro w_268 rc_269 hk_270 hs_271 hrec2
                  replace h_212 := h_212.kp hk_270 (by decide) (by decide)
                  replace rh_23 := rh_23.kp hk_270 (by decide) (by decide)
                  replace h_263 := h_263.kp hk_270 (by decide) (by decide)
                  replace hb_206 := hb_206.kp hk_270 (by decide)
                  replace hb_10 := hb_10.kp hk_270 (by decide)
                  replace hb_35 := hb_35.kp hk_270 (by decide)
                  replace hmk := hmk.kp hk_270 (by decide)
                  replace hki := hki.kp hk_270 hs_271 rfl
                  replace hst := hst.kp hk_270 hs_271 (by decide) (by decide)
                  clear hrec
                  have hrec := hrec2
                  clear hrec2
                  refine wblock ?_
                  refine wseq ?_
                  refine wregion ?_
                  refine lv (v := (.slice ra_21 r_19.length rc_22)) rfl rfl (r_ld Try.isAgg22 rfl hb_35.at1) ?_
                  refine lv (v := (.int .i64 y_214.1)) rfl rfl (r_move rfl) ?_
                  obtain ⟨r_272, hr_273, hm⟩ := bind_some hm
                  refine lc rfl rfl (r_call2 Try.call14 rfl rfl) (c_credenceref10_Digits N 14 (frC 4 col_208) _ ra_21 rc_22 r_19 y_214.1 (rh_23.toSlF (Froz.int .i64)) r_272 hr_273) ?_
                  rintro _ w_277 ⟨col_279, ra_274, rc_275, rfl, hg_278, rh_276⟩
                  refine ⟨_, rfl, ?_⟩
                  replace rh_276 := rh_276.thaw (flat_int .i64) hg_278 ((Fz.refl (col := col_208)).froz 4) (by decide)
                  replace hg_278 := hg_278.thawR (col := col_208)
                  generalize colR w_268.heap.size col_208 col_279 = col_280 at *
                  replace h_212 := h_212.gr hg_278
                  replace rh_23 := rh_23.gr hg_278
                  replace h_263 := h_263.gr hg_278
                  replace hb_206 := hb_206.gr hg_278
                  replace hb_10 := hb_10.gr hg_278
                  replace hb_35 := hb_35.gr hg_278
                  replace hrec := hrec.gr hg_278
                  replace hmk := hmk.gr hg_278
                  replace hki := hki.gr hg_278
                  replace hst := hst.grow hg_278
                  refine lv (v := (.tuple #[(.slice ra_274 r_272.1.length rc_275), (.int .i64 r_272.2)])) rfl rfl (r_move rfl) ?_
                  refine lv (v := (.slice ra_274 r_272.1.length rc_275)) rfl rfl (r_extract rfl rfl) ?_
                  refine lv (v := (.int .i64 r_272.2)) rfl rfl (r_extract rfl rfl) ?_
                  refine lv (v := (.slice ra_274 r_272.1.length rc_275)) rfl rfl (r_assign rfl) ?_
                  refine lv (v := (.int .i64 r_272.2)) rfl rfl (r_assign rfl) ?_
                  refine lnil ?_
                  refine wseq ?_
                  refine wseq ?_
                  refine Wp.cut (fun f w_287 => ∃ (col_288 : Col) (v_289 : Bool), m_credencelaw10_walked_int_J6 N all_209 v_213 (m_credencelaw10_walked_int_L4 N r_19 r_36 l_215) y_214 v_289 = some r ∧ St w0 (col0 col) col_288 w_287 ∧ Own (Rep.opt (Rep.int .i64)) 22 12 col_288 w_287 a_210 cap_211 all_209 ∧ Box 42 11 col_288 w_287 g_202 #[(.slice a_210 all_209.length cap_211)] ∧ Own (Rep.int .i64) 3 7 col_288 w_287 a_261 cap_262 y_214.2 ∧ Box 4 2 col_288 w_287 g_6 #[(.bool v_213)] ∧ Own (Rep.int .i64) 3 4 col_288 w_287 ra_21 rc_22 r_19 ∧ Box 22 5 col_288 w_287 g_27 #[(.slice ra_21 r_19.length rc_22)] ∧ Rec 498 col_288 w_287 l_258 rc_269 ∧ Marks col_288 w_287 ds_260 ∧ KeepP pCo col_208 w_207 col_288 w_287 ∧ f 131 = (.bool v_289) ∧ f 18 = (.pointer (some ⟨g_202, 0, none⟩)) ∧ f 19 = (.int .i64 y_214.1) ∧ f 20 = (.slice a_261 y_214.2.length cap_262) ∧ f 4 = (.pointer (some ⟨g_6, 0, none⟩)) ∧ f 6 = (.pointer (some ⟨g_27, 0, none⟩)) ∧ f 7 = (.int .i64 r_36.1) ∧ f 1000000 = (enc [])) ?_ ?_
                  · intro f w_287 hJ
                    obtain ⟨col_288, v_289, hm, hst, h_212, hb_206, h_263, hb_10, rh_23, hb_35, hrec, hmk, hki, hs131, hs18, hs19, hs20, hs4, hs6, hs7, hs1000000⟩ := hJ
                    rw [m_credencelaw10_walked_int_J6.eq_1] at hm
                    refine .ld (d := 131) (v := (.bool v_289)) hs131 ?_
                    refine .ld (d := 18) (v := (.pointer (some ⟨g_202, 0, none⟩))) hs18 ?_
                    refine .ld (d := 19) (v := (.int .i64 y_214.1)) hs19 ?_
                    refine .ld (d := 20) (v := (.slice a_261 y_214.2.length cap_262)) hs20 ?_
                    refine .ld (d := 4) (v := (.pointer (some ⟨g_6, 0, none⟩))) hs4 ?_
                    refine .ld (d := 6) (v := (.pointer (some ⟨g_27, 0, none⟩))) hs6 ?_
                    refine .ld (d := 7) (v := (.int .i64 r_36.1)) hs7 ?_
                    refine .ld (d := 1000000) (v := (enc [])) hs1000000 ?_
                    clear hs131 hs18 hs19 hs20 hs4 hs6 hs7 hs1000000
                    refine wcond (v_289) rfl (fun hb => ?_) (fun hb => ?_)
                    · rw [if_pos hb] at hm
                      clear hb
                      refine wseq ?_
                      refine wregion ?_
                      refine l_bstore (v := (.bool false)) hb_10 Try.sizeOf4 rfl rfl (by intro u hu; simp only [Value.cells, List.mem_cons, List.not_mem_nil, or_false] at hu; subst hu; rfl) rfl rfl ?_
                      intro w_290 hk_291 hs_292 hb_293
                      replace h_212 := h_212.kp hk_291 (by decide) (by decide)
                      replace h_263 := h_263.kp hk_291 (by decide) (by decide)
                      replace rh_23 := rh_23.kp hk_291 (by decide) (by decide)
                      replace hb_206 := hb_206.kp hk_291 (by decide)
                      replace hb_35 := hb_35.kp hk_291 (by decide)
                      replace hrec := hrec.kp hk_291 (by decide)
                      replace hmk := hmk.kp hk_291 (by decide)
                      replace hki := hki.kp hk_291 hs_292 rfl
                      replace hst := hst.kp hk_291 hs_292 (by decide) (by decide)
                      clear hb_10
                      replace hb_293 : Box 4 2 col_288 w_290 g_6 #[(.bool false)] := hb_293
                      refine lnil ?_
                      refine wret ?_
                      exact ⟨_, hki, ⟨rfl, ⟨a_210, cap_211, all_209, false, hm, hst, h_212, hb_206, hb_293, rh_23, hb_35⟩⟩, hrec, hmk⟩
                    · rw [if_neg (by rw [hb]; decide)] at hm
                      clear hb
                      refine wskip ?_
                      refine wseq ?_
                      by_cases hsp_294 : (decide ((Int.tmod y_214.1 2) = 0)) = true
                      · rw [if_pos hsp_294] at hm
                        refine wregion ?_
                        refine lv (v := (.slice a_210 all_209.length cap_211)) rfl rfl (r_ld Try.isAgg42 rfl hb_206.at1) ?_
                        refine lv (v := (.slice a_261 y_214.2.length cap_262)) rfl rfl (r_move rfl) ?_
                        refine l_lit (col := col_288) (r := (Rep.opt (Rep.int .i64))) (xs := [(none : (Option (List Int)))]) [(.slice a_261 y_214.2.length cap_262)] 15 rfl Try.underlying42 el22_4 rfl rfl rfl rfl rfl rfl (by intro v hv; simp only [List.mem_cons, List.not_mem_nil, or_false] at hv; subst hv; rfl) (RowsH.ofF (Rows.consF (r := (Rep.opt (Rep.int .i64))) (x := (none : (Option (List Int)))) (cs := [(.slice a_261 y_214.2.length cap_262)]) (rd_none rfl) Rows.nil0)) ?_
                        intro a_295 w_296 col_297 hg_298 h_299
                        replace h_212 := h_212.gr hg_298
                        replace h_263 := h_263.gr hg_298
                        replace rh_23 := rh_23.gr hg_298
                        replace hb_206 := hb_206.gr hg_298
                        replace hb_10 := hb_10.gr hg_298
                        replace hb_35 := hb_35.gr hg_298
                        replace hrec := hrec.gr hg_298
                        replace hmk := hmk.gr hg_298
                        replace hki := hki.gr hg_298
                        replace hst := hst.grow hg_298
                        obtain ⟨hb_300, hm⟩ := chk_some hm
                        refine l_ext (col := col_297) (w := w_296) (r := (Rep.opt (Rep.int .i64))) (c := 12) (c2 := 12) (h_212.ex) (h_299.srcN NB.opt) rfl Try.underlying42 el22_4 rfl rfl rfl hb_300.1 hb_300.2 (by decide) ?_
                        intro a_301 cap_302 w_303 col_304 hk_305 h_306
                        replace h_263 := h_263.kpp hk_305 rfl rfl
                        replace rh_23 := rh_23.kpp hk_305 rfl rfl
                        replace h_299 := h_299.kpp hk_305 rfl rfl
                        replace hb_206 := hb_206.kpp hk_305 rfl
                        replace hb_10 := hb_10.kpp hk_305 rfl
                        replace hb_35 := hb_35.kpp hk_305 rfl
                        replace hrec := hrec.kpp hk_305 rfl
                        replace hmk := hmk.kpp hk_305 rfl
                        replace hki := hki.trans (hk_305.mono (by first | exact pCo_p2 rfl | exact pCo_p1 rfl | exact pCo_pS rfl | decide))
                        replace hst := hst.kpp hk_305 rfl rfl
                        clear h_212
                        refine l_bstore (v := (.slice a_301 ((all_209 ++ [(none : (Option (List Int)))]).length) cap_302)) hb_206 Try.sizeOf42 rfl rfl (by intro u hu; simp only [Value.cells, List.mem_cons, List.not_mem_nil, or_false] at hu; subst hu; rfl) rfl rfl ?_
                        intro w_307 hk_308 hs_309 hb_310
                        replace h_306 := h_306.kp hk_308 (by decide) (by decide)
                        replace h_263 := h_263.kp hk_308 (by decide) (by decide)
                        replace rh_23 := rh_23.kp hk_308 (by decide) (by decide)
                        replace hb_10 := hb_10.kp hk_308 (by decide)
                        replace hb_35 := hb_35.kp hk_308 (by decide)
                        replace hrec := hrec.kp hk_308 (by decide)
                        replace hmk := hmk.kp hk_308 (by decide)
                        replace hki := hki.kp hk_308 hs_309 rfl
                        replace hst := hst.kp hk_308 hs_309 (by decide) (by decide)
                        clear hb_206
                        replace hb_310 : Box 42 11 col_304 w_307 g_202 #[(.slice a_301 ((all_209 ++ [(none : (Option (List Int)))]).length) cap_302)] := hb_310
                        have h_311 := h_306.new
                        clear h_306
                        refine lnil ?_
                        refine wseq ?_
                        refine wregion ?_
                        refine lv (v := (.int .i64 y_214.1)) rfl rfl (r_move rfl) ?_
                        refine lv (v := (.int .i64 (Int.tmod y_214.1 2))) rfl rfl (r_rem y_214.1 2 rfl rfl (by decide)) ?_
                        refine lv (v := (.bool (decide ((Int.tmod y_214.1 2) = 0)))) rfl rfl (r_eql (Int.tmod y_214.1 2) 0 rfl rfl) ?_
                        refine lnil ?_
                        refine wcondT (congrArg Value.bool hsp_294) ?_
                        refine wseq ?_
                        refine wseq ?_
                        refine wregion ?_
                        refine lv (v := (.int .i64 0)) rfl rfl (r_assign rfl) ?_
                        refine lnil ?_
                        refine wblock ?_
                        refine wloop (fun n f w_313 => ∃ (col_314 : Col) (a_316 : Option Addr) (cap_317 : Nat) (d_315 : List Int) (i_319 : Int) (n_312 : Nat), n_312 = n ∧ m_credencelaw10_walked_int_L6 N all_209 v_213 (m_credencelaw10_walked_int_L4 N r_19 r_36 l_215) n_312 d_315 i_319 = some r ∧ St w0 (col0 col) col_314 w_313 ∧ Own (Rep.opt (Rep.int .i64)) 22 12 col_314 w_313 a_301 cap_302 (all_209 ++ [(none : (Option (List Int)))]) ∧ Box 42 11 col_314 w_313 g_202 #[(.slice a_301 ((all_209 ++ [(none : (Option (List Int)))]).length) cap_302)] ∧ Own (Rep.int .i64) 3 7 col_314 w_313 a_316 cap_317 d_315 ∧ Box 4 2 col_314 w_313 g_6 #[(.bool v_213)] ∧ Own (Rep.int .i64) 3 4 col_314 w_313 ra_21 rc_22 r_19 ∧ Box 22 5 col_314 w_313 g_27 #[(.slice ra_21 r_19.length rc_22)] ∧ Rec 498 col_314 w_313 l_258 rc_269 ∧ Marks col_314 w_313 ds_260 ∧ KeepP pCo col_208 w_207 col_314 w_313 ∧ f 18 = (.pointer (some ⟨g_202, 0, none⟩)) ∧ f 20 = (.slice a_316 d_315.length cap_317) ∧ f 23 = (.int .i64 i_319) ∧ f 4 = (.pointer (some ⟨g_6, 0, none⟩)) ∧ f 6 = (.pointer (some ⟨g_27, 0, none⟩)) ∧ f 7 = (.int .i64 r_36.1) ∧ f 1000000 = (enc [])) N ⟨col_304, a_261, cap_262, y_214.2, 0, N, rfl, hm, hst, h_311, hb_310, h_263, hb_10, rh_23, hb_35, hrec, hmk, hki, rfl, rfl, rfl, rfl, rfl, rfl, rfl⟩ ?_
                        clear hm; intro n f w_313 hI
                        obtain ⟨col_314, a_316, cap_317, d_315, i_319, n_312, hn, hm, hst, h_311, hb_310, h_318, hb_10, rh_23, hb_35, hrec, hmk, hki, hs18, hs20, hs23, hs4, hs6, hs7, hs1000000⟩ := hI
                        subst hn
                        refine .ld (d := 18) (v := (.pointer (some ⟨g_202, 0, none⟩))) hs18 ?_
                        refine .ld (d := 20) (v := (.slice a_316 d_315.length cap_317)) hs20 ?_
                        refine .ld (d := 23) (v := (.int .i64 i_319)) hs23 ?_
                        refine .ld (d := 4) (v := (.pointer (some ⟨g_6, 0, none⟩))) hs4 ?_
                        refine .ld (d := 6) (v := (.pointer (some ⟨g_27, 0, none⟩))) hs6 ?_
                        refine .ld (d := 7) (v := (.int .i64 r_36.1)) hs7 ?_
                        refine .ld (d := 1000000) (v := (enc [])) hs1000000 ?_
                        clear hs18 hs20 hs23 hs4 hs6 hs7 hs1000000
                        cases n_312 with
                        | zero => rw [m_credencelaw10_walked_int_L6.eq_1] at hm; cases hm
                        | succ n_312 =>
                          rw [m_credencelaw10_walked_int_L6.eq_2] at hm
                          refine wseq ?_
                          refine wseq ?_
                          refine wregion ?_
                          refine lv (v := (.int .i64 i_319)) rfl rfl (r_move rfl) ?_
                          refine lv (v := (.slice a_316 d_315.length cap_317)) rfl rfl (r_move rfl) ?_
                          refine lv (v := (.int .i64 (d_315.length : Int))) rfl rfl (r_len Try.underlying22 rfl) ?_
                          refine lv (v := (.bool (decide (i_319 < (d_315.length : Int))))) rfl rfl (r_lss i_319 (d_315.length : Int) rfl rfl) ?_
                          refine lnil ?_
                          refine wcond (decide (i_319 < (d_315.length : Int))) rfl (fun hb => ?_) (fun hb => ?_)
                          · rw [if_pos hb] at hm
                            clear hb
                            refine wskip ?_
                            refine wseq ?_
                            refine wblock ?_
                            refine wregion ?_
                            refine lv (v := (.slice a_316 d_315.length cap_317)) rfl rfl (r_move rfl) ?_
                            refine lv (v := (.int .i64 i_319)) rfl rfl (r_move rfl) ?_
                            obtain ⟨e_320, hj_321, hm⟩ := bind_some hm
                            refine lv (v := (sptr a_316 (Int.toNat i_319 * 1))) rfl rfl (r_idx Try.underlying22 Try.sizeOf3 rfl rfl (at?_some hj_321).1 (at?_some hj_321).2.1 (h_318.addr hj_321)) ?_
                            obtain ⟨xs_327, hz_326, hm⟩ := bind_some hm
                            have hz_326 : xs_327 = d_315.set (Int.toNat i_319) 0 := (Option.some.inj hz_326).symm
                            refine l_store (x1 := 0) (v := (.int .i64 0)) h_318 hj_321 rfl Try.sizeOf3 (rd_int .i64 0) rfl rfl (by decide) ?_
                            intro w_322 hk_323 hs_324 h_325
                            rw [← hz_326] at h_325
                            replace h_311 := h_311.kp hk_323 (by decide) (by decide)
                            replace rh_23 := rh_23.kp hk_323 (by decide) (by decide)
                            replace hb_310 := hb_310.kp hk_323 (by decide)
                            replace hb_10 := hb_10.kp hk_323 (by decide)
                            replace hb_35 := hb_35.kp hk_323 (by decide)
                            replace hrec := hrec.kp hk_323 (by decide)
                            replace hmk := hmk.kp hk_323 (by decide)
                            replace hki := hki.kp hk_323 hs_324 rfl
                            replace hst := hst.kp hk_323 hs_324 (by decide) (by decide)
                            refine .ld (d := 20) (v := (.slice a_316 xs_327.length cap_317)) (congrArg (fun n => Value.slice a_316 n cap_317) (show d_315.length = xs_327.length by rw [hz_326, List.length_set])) ?_
                            clear h_318
                            refine lnil ?_
                            refine wregion ?_
                            refine lv (v := (.int .i64 i_319)) rfl rfl (r_move rfl) ?_
                            refine lv (v := (.int .i64 (IntKind.i64.wrap (i_319 + 1)))) rfl rfl (r_add i_319 1 rfl rfl) ?_
                            refine lv (v := (.int .i64 (IntKind.i64.wrap (i_319 + 1)))) rfl rfl (r_assign rfl) ?_
                            refine lnil ?_
                            exact ⟨n_312, by omega, ⟨col_314, a_316, cap_317, xs_327, (IntKind.i64.wrap (i_319 + 1)), n_312, rfl, hm, hst, h_311, hb_310, h_325, hb_10, rh_23, hb_35, hrec, hmk, hki, rfl, rfl, rfl, rfl, rfl, rfl, rfl⟩⟩
                          · rw [if_neg (by rw [hb]; decide)] at hm
                            clear hb
                            refine wexit (inB_hit ?_)
                            refine wseq ?_
                            refine wregion ?_
                            refine lv (v := (.slice a_316 d_315.length cap_317)) rfl rfl (r_move rfl) ?_
                            refine l_lit (col := col_314) (r := (Rep.int .i64)) (xs := [5]) [(.int .i64 5)] 16 rfl Try.underlying22 el3_4 rfl rfl rfl rfl rfl rfl (by intro v hv; simp only [List.mem_cons, List.not_mem_nil, or_false] at hv; subst hv; rfl) (RowsH.ofF (Rows.consF (r := (Rep.int .i64)) (x := 5) (cs := [(.int .i64 5)]) (rd_int .i64 5) Rows.nil0)) ?_
                            intro a_328 w_329 col_330 hg_331 h_332
                            replace h_311 := h_311.gr hg_331
                            replace rh_23 := rh_23.gr hg_331
                            replace h_318 := h_318.gr hg_331
                            replace hb_310 := hb_310.gr hg_331
                            replace hb_10 := hb_10.gr hg_331
                            replace hb_35 := hb_35.gr hg_331
                            replace hrec := hrec.gr hg_331
                            replace hmk := hmk.gr hg_331
                            replace hki := hki.gr hg_331
                            replace hst := hst.grow hg_331
                            obtain ⟨hb_333, hm⟩ := chk_some hm
                            refine l_appendM (col := col_330) (w := w_329) (r := (Rep.int .i64)) (c := 7) (c2 := 7) (xs := d_315) (ys := [5]) h_318 (h_332.srcN (NB.int (k := .i64))) rfl Try.underlying22 el3_4 rfl rfl rfl hb_333.1 hb_333.2 (by decide) ?_
                            intro a_334 cap_335 w_336 col_337 hk_338 h_339
                            replace h_311 := h_311.kpp hk_338 rfl rfl
                            replace rh_23 := rh_23.kpp hk_338 rfl rfl
                            replace h_332 := h_332.kpp hk_338 rfl rfl
                            replace hb_310 := hb_310.kpp hk_338 rfl
                            replace hb_10 := hb_10.kpp hk_338 rfl
                            replace hb_35 := hb_35.kpp hk_338 rfl
                            replace hrec := hrec.kpp hk_338 rfl
                            replace hmk := hmk.kpp hk_338 rfl
                            replace hki := hki.trans (hk_338.mono (by first | exact pCo_p2 rfl | exact pCo_p1 rfl | exact pCo_pS rfl | decide))
                            replace hst := hst.kpp hk_338 rfl rfl
                            clear h_318
                            refine lv (v := (.slice a_334 ((d_315 ++ [5]).length) cap_335)) rfl rfl (r_assign rfl) ?_
                            refine lnil ?_
                            refine wregion ?_
                            refine lv (v := (.slice a_334 ((d_315 ++ [5]).length) cap_335)) rfl rfl (r_move rfl) ?_
                            refine l_lit (col := col_337) (r := (Rep.int .i64)) (xs := [5]) [(.int .i64 5)] 17 rfl Try.underlying22 el3_4 rfl rfl rfl rfl rfl rfl (by intro v hv; simp only [List.mem_cons, List.not_mem_nil, or_false] at hv; subst hv; rfl) (RowsH.ofF (Rows.consF (r := (Rep.int .i64)) (x := 5) (cs := [(.int .i64 5)]) (rd_int .i64 5) Rows.nil0)) ?_
                            intro a_340 w_341 col_342 hg_343 h_344
                            replace h_311 := h_311.gr hg_343
                            replace rh_23 := rh_23.gr hg_343
                            replace h_339 := h_339.gr hg_343
                            replace hb_310 := hb_310.gr hg_343
                            replace hb_10 := hb_10.gr hg_343
                            replace hb_35 := hb_35.gr hg_343
                            replace hrec := hrec.gr hg_343
                            replace hmk := hmk.gr hg_343
                            replace hki := hki.gr hg_343
                            replace hst := hst.grow hg_343
                            obtain ⟨hb_345, hm⟩ := chk_some hm
                            refine l_appendM (col := col_342) (w := w_341) (r := (Rep.int .i64)) (c := 7) (c2 := 7) (xs := d_315 ++ [5]) (ys := [5]) h_339 (h_344.srcN (NB.int (k := .i64))) rfl Try.underlying22 el3_4 rfl rfl rfl hb_345.1 hb_345.2 (by decide) ?_
                            intro a_346 cap_347 w_348 col_349 hk_350 h_351
                            replace h_311 := h_311.kpp hk_350 rfl rfl
                            replace rh_23 := rh_23.kpp hk_350 rfl rfl
                            replace h_344 := h_344.kpp hk_350 rfl rfl
                            replace hb_310 := hb_310.kpp hk_350 rfl
                            replace hb_10 := hb_10.kpp hk_350 rfl
                            replace hb_35 := hb_35.kpp hk_350 rfl
                            replace hrec := hrec.kpp hk_350 rfl
                            replace hmk := hmk.kpp hk_350 rfl
                            replace hki := hki.trans (hk_350.mono (by first | exact pCo_p2 rfl | exact pCo_p1 rfl | exact pCo_pS rfl | decide))
                            replace hst := hst.kpp hk_350 rfl rfl
                            clear h_339
                            refine lv (v := (.slice a_346 (((d_315 ++ [5]) ++ [5]).length) cap_347)) rfl rfl (r_assign rfl) ?_
                            refine lnil ?_
                            exact ⟨_, hki, ⟨a_301, cap_302, (all_209 ++ [(none : (Option (List Int)))]), v_213, hm, hst, h_311, hb_310, hb_10, rh_23, hb_35⟩, hrec, hmk⟩
                      · replace hsp_294 := Bool.eq_false_iff.2 hsp_294
                        rw [if_neg (by rw [hsp_294]; decide)] at hm
                        refine wregion ?_
                        refine lv (v := (.slice a_210 all_209.length cap_211)) rfl rfl (r_ld Try.isAgg42 rfl hb_206.at1) ?_
                        refine lv (v := (.slice a_261 y_214.2.length cap_262)) rfl rfl (r_move rfl) ?_
                        replace h_212 := h_212.froz 7 (by decide)
                        replace h_263 := (h_263).toSlF (Froz.int .i64)
                        replace rh_23 := rh_23.froz 7 (by decide)
                        replace hb_206 := hb_206.froz 7 (by decide)
                        replace hb_10 := hb_10.froz 7 (by decide)
                        replace hb_35 := hb_35.froz 7 (by decide)
                        replace hrec := hrec.froz 7 (by decide)
                        replace hmk := hmk.froz 7 (by decide)
                        replace hki := hki.froz 7 rfl
                        replace hst := hst.froz 7 (by decide) (by decide)
                        refine l_lit (col := (frC 7 col_288)) (r := (Rep.opt (Rep.int .i64))) (xs := [(some y_214.2)]) [(.slice a_261 y_214.2.length cap_262)] 18 rfl Try.underlying42 el22_4 rfl rfl rfl rfl rfl rfl (by intro v hv; simp only [List.mem_cons, List.not_mem_nil, or_false] at hv; subst hv; rfl) (RowsH.ofF (Rows.consF (r := (Rep.opt (Rep.int .i64))) (x := (some y_214.2)) (cs := [(.slice a_261 y_214.2.length cap_262)]) (rd_some ⟨⟨_, _, rfl, h_263⟩, rfl⟩) Rows.nil0)) ?_
                        intro a_352 w_353 col_354 hg_355 h_356
                        replace h_212 := h_212.gr hg_355
                        replace h_263 := h_263.gr hg_355
                        replace rh_23 := rh_23.gr hg_355
                        replace hb_206 := hb_206.gr hg_355
                        replace hb_10 := hb_10.gr hg_355
                        replace hb_35 := hb_35.gr hg_355
                        replace hrec := hrec.gr hg_355
                        replace hmk := hmk.gr hg_355
                        replace hki := hki.gr hg_355
                        replace hst := hst.grow hg_355
                        obtain ⟨hb_357, hm⟩ := chk_some hm
                        refine l_ext (col := col_354) (w := w_353) (r := (Rep.opt (Rep.int .i64))) (c := 12) (c2 := 12) (h_212.ex) (h_356.srcN NB.opt) rfl Try.underlying42 el22_4 rfl rfl rfl hb_357.1 hb_357.2 (by decide) ?_
                        intro a_358 cap_359 w_360 col_361 hk_362 h_363
                        replace h_263 := h_263.kpp hk_362 rfl
                        replace rh_23 := rh_23.kpp hk_362 rfl rfl
                        replace h_356 := h_356.kpp hk_362 rfl rfl
                        replace hb_206 := hb_206.kpp hk_362 rfl
                        replace hb_10 := hb_10.kpp hk_362 rfl
                        replace hb_35 := hb_35.kpp hk_362 rfl
                        replace hrec := hrec.kpp hk_362 rfl
                        replace hmk := hmk.kpp hk_362 rfl
                        replace hki := hki.trans (hk_362.mono (by first | exact pCo_p2 rfl | exact pCo_p1 rfl | exact pCo_pS rfl | decide))
                        replace hst := hst.kpp hk_362 rfl rfl
                        clear h_212
                        refine l_bstore (v := (.slice a_358 ((all_209 ++ [(some y_214.2)]).length) cap_359)) hb_206 Try.sizeOf42 rfl rfl (by intro u hu; simp only [Value.cells, List.mem_cons, List.not_mem_nil, or_false] at hu; subst hu; rfl) rfl rfl ?_
                        intro w_364 hk_365 hs_366 hb_367
                        replace h_363 := h_363.kp hk_365 (by decide) (by decide)
                        replace h_263 := h_263.kp hk_365 (by decide)
                        replace rh_23 := rh_23.kp hk_365 (by decide) (by decide)
                        replace hb_10 := hb_10.kp hk_365 (by decide)
                        replace hb_35 := hb_35.kp hk_365 (by decide)
                        replace hrec := hrec.kp hk_365 (by decide)
                        replace hmk := hmk.kp hk_365 (by decide)
                        replace hki := hki.kp hk_365 hs_366 rfl
                        replace hst := hst.kp hk_365 hs_366 (by decide) (by decide)
                        clear hb_206
                        replace hb_367 : Box 42 11 col_361 w_364 g_202 #[(.slice a_358 ((all_209 ++ [(some y_214.2)]).length) cap_359)] := hb_367
                        have h_368 := h_363.new
                        clear h_363
                        refine lnil ?_
                        refine wseq ?_
                        refine wregion ?_
                        refine lv (v := (.int .i64 y_214.1)) rfl rfl (r_move rfl) ?_
                        refine lv (v := (.int .i64 (Int.tmod y_214.1 2))) rfl rfl (r_rem y_214.1 2 rfl rfl (by decide)) ?_
                        refine lv (v := (.bool (decide ((Int.tmod y_214.1 2) = 0)))) rfl rfl (r_eql (Int.tmod y_214.1 2) 0 rfl rfl) ?_
                        refine lnil ?_
                        refine wcondF (congrArg Value.bool hsp_294) ?_
                        refine wskip ?_
                        exact ⟨_, hki, ⟨a_358, cap_359, (all_209 ++ [(some y_214.2)]), v_213, hm, hst, h_368, hb_367, hb_10, rh_23, hb_35⟩, hrec, hmk⟩
                  · refine wregion ?_
                    refine lv (v := (.int .i64 y_214.1)) rfl rfl (r_move rfl) ?_
                    refine lv (v := (.slice a_210 all_209.length cap_211)) rfl rfl (r_ld Try.isAgg42 rfl hb_206.at1) ?_
                    refine lv (v := (.int .i64 (all_209.length : Int))) rfl rfl (r_len Try.underlying42 rfl) ?_
                    refine lv (v := (.bool (!decide (y_214.1 = (all_209.length : Int))))) rfl rfl (r_neq y_214.1 (all_209.length : Int) rfl rfl) ?_
                    refine lv (v := (.bool (!decide (y_214.1 = (all_209.length : Int))))) rfl rfl (r_move rfl) ?_
                    by_cases hg_369 : (!decide (y_214.1 = (all_209.length : Int))) = true
                    · rw [if_pos hg_369] at hm
                      refine lp (b := !decide (y_214.1 = (all_209.length : Int))) 122 rfl rfl rfl rfl (by rw [hg_369]; rfl) ?_
                      refine lp (b := !decide (y_214.1 = (all_209.length : Int))) 122 rfl rfl rfl rfl (by rw [hg_369]; rfl) ?_
                      refine lv (v := (.bool true)) rfl rfl (r_pickT (congrArg Value.bool hg_369) rfl) ?_
                      refine lv (v := (.bool true)) rfl rfl (r_move rfl) ?_
                      refine lp (b := true) 126 rfl rfl rfl rfl rfl ?_
                      refine lp (b := true) 126 rfl rfl rfl rfl rfl ?_
                      refine lp (b := true) 126 rfl rfl rfl rfl rfl ?_
                      refine lp (b := true) 126 rfl rfl rfl rfl rfl ?_
                      refine lv (v := (.bool true)) rfl rfl (r_pickT rfl rfl) ?_
                      refine lnil ?_
                      exact ⟨col_280, true, hm, hst, h_212, hb_206, h_263, hb_10, rh_23, hb_35, hrec, hmk, hki, rfl, rfl, rfl, rfl, rfl, rfl, rfl, rfl⟩
                    · rw [if_neg hg_369] at hm
                      replace hg_369 := Bool.eq_false_iff.2 hg_369
                      refine lg (b := !decide (y_214.1 = (all_209.length : Int))) 122 rfl rfl rfl (by rw [hg_369]; rfl) ?_
                      refine lv (v := (.int .i64 r_272.2)) rfl rfl (r_move rfl) ?_
                      refine lg (b := !decide (y_214.1 = (all_209.length : Int))) 122 rfl rfl rfl (by rw [hg_369]; rfl) ?_
                      refine lv (v := (.bool (!decide (r_272.2 = 0)))) rfl rfl (r_neq r_272.2 0 rfl rfl) ?_
                      refine lv (v := (.bool (!decide (r_272.2 = 0)))) rfl rfl (r_pickF (congrArg Value.bool hg_369) rfl) ?_
                      refine lv (v := (.bool (!decide (r_272.2 = 0)))) rfl rfl (r_move rfl) ?_
                      by_cases hg_370 : (!decide (r_272.2 = 0)) = true
                      · rw [if_pos hg_370] at hm
                        refine lp (b := !decide (r_272.2 = 0)) 126 rfl rfl rfl rfl (by rw [hg_370]; rfl) ?_
                        refine lp (b := !decide (r_272.2 = 0)) 126 rfl rfl rfl rfl (by rw [hg_370]; rfl) ?_
                        refine lp (b := !decide (r_272.2 = 0)) 126 rfl rfl rfl rfl (by rw [hg_370]; rfl) ?_
                        refine lp (b := !decide (r_272.2 = 0)) 126 rfl rfl rfl rfl (by rw [hg_370]; rfl) ?_
                        refine lv (v := (.bool true)) rfl rfl (r_pickT (congrArg Value.bool hg_370) rfl) ?_
                        refine lnil ?_
                        exact ⟨col_280, true, hm, hst, h_212, hb_206, h_263, hb_10, rh_23, hb_35, hrec, hmk, hki, rfl, rfl, rfl, rfl, rfl, rfl, rfl, rfl⟩
                      · rw [if_neg hg_370] at hm
                        replace hg_370 := Bool.eq_false_iff.2 hg_370
                        refine lg (b := !decide (r_272.2 = 0)) 126 rfl rfl rfl (by rw [hg_370]; rfl) ?_
                        refine lv (v := (.slice a_261 y_214.2.length cap_262)) rfl rfl (r_move rfl) ?_
                        refine lg (b := !decide (r_272.2 = 0)) 126 rfl rfl rfl (by rw [hg_370]; rfl) ?_
                        refine lv (v := (.slice ra_274 r_272.1.length rc_275)) rfl rfl (r_move rfl) ?_
                        refine lg (b := !decide (r_272.2 = 0)) 126 rfl rfl rfl (by rw [hg_370]; rfl) ?_
                        obtain ⟨r_371, hr_372, hm⟩ := bind_some hm
                        refine lc rfl rfl (r_call2 Try.call15 rfl rfl) (c_credencelaw10_same_int N (frC 14 (frC 7 col_280)) _ a_261 cap_262 y_214.2 ra_274 rc_275 r_272.1 ((h_263.toSlF (Froz.int .i64)).froz 14) ((rh_276.froz 7 (by decide)).toSlF (Froz.int .i64)) r_371 hr_372) ?_
                        rintro _ w_373 ⟨rfl, hg_374⟩
                        refine ⟨_, rfl, ?_⟩
                        replace hg_374 : Grow col_280 w_277 col_280 w_373 := .of_below hg_374
                        replace h_212 := h_212.gr hg_374
                        replace rh_23 := rh_23.gr hg_374
                        replace h_263 := h_263.gr hg_374
                        replace rh_276 := rh_276.gr hg_374
                        replace hb_206 := hb_206.gr hg_374
                        replace hb_10 := hb_10.gr hg_374
                        replace hb_35 := hb_35.gr hg_374
                        replace hrec := hrec.gr hg_374
                        replace hmk := hmk.gr hg_374
                        replace hki := hki.gr hg_374
                        replace hst := hst.grow hg_374
                        refine lg (b := !decide (r_272.2 = 0)) 126 rfl rfl rfl (by rw [hg_370]; rfl) ?_
                        refine lv (v := (.bool (!r_371))) rfl rfl (r_not r_371 rfl) ?_
                        refine lv (v := (.bool (!r_371))) rfl rfl (r_pickF (congrArg Value.bool hg_370) rfl) ?_
                        refine lnil ?_
                        exact ⟨col_280, (!r_371), hm, hst, h_212, hb_206, h_263, hb_10, rh_23, hb_35, hrec, hmk, hki, rfl, rfl, rfl, rfl, rfl, rfl, rfl, rfl⟩
                · clear hmk
                  intro D_216 col_208 w_207 hJ hmk
                  obtain ⟨a_210, cap_211, all_209, v_213, hm, hst, h_212, hb_206, hb_10, rh_23, hb_35⟩ := hJ
                  rw [m_credencelaw10_walked_int_L4.eq_1] at hm
                  refine wseq ?_
                  refine wseq ?_
                  refine wregion ?_
                  refine lv (v := (.int .i64 1)) rfl rfl (r_assign rfl) ?_
                  refine lnil ?_
                  refine wblock ?_
                  refine wloop (fun n f w_218 => ∃ (col_219 : Col) (i_220 : Int) (v_221 : Bool) (n_217 : Nat), n_217 = n ∧ m_credencelaw10_walked_int_L5 N r_19 r_36 all_209 n_217 i_220 v_221 = some r ∧ St w0 (col0 col) col_219 w_218 ∧ Own (Rep.opt (Rep.int .i64)) 22 12 col_219 w_218 a_210 cap_211 all_209 ∧ Box 42 11 col_219 w_218 g_202 #[(.slice a_210 all_209.length cap_211)] ∧ Box 4 2 col_219 w_218 g_6 #[(.bool v_221)] ∧ Own (Rep.int .i64) 3 4 col_219 w_218 ra_21 rc_22 r_19 ∧ Box 22 5 col_219 w_218 g_27 #[(.slice ra_21 r_19.length rc_22)] ∧ Marks col_219 w_218 (D_216 :: (D_201 :: [])) ∧ f 18 = (.pointer (some ⟨g_202, 0, none⟩)) ∧ f 24 = (.int .i64 i_220) ∧ f 4 = (.pointer (some ⟨g_6, 0, none⟩)) ∧ f 6 = (.pointer (some ⟨g_27, 0, none⟩)) ∧ f 7 = (.int .i64 r_36.1) ∧ f 1000000 = (enc (D_216 :: (D_201 :: [])))) N ⟨col_208, 1, v_213, N, rfl, hm, hst, h_212, hb_206, hb_10, rh_23, hb_35, hmk, rfl, rfl, rfl, rfl, rfl, rfl⟩ ?_
                  clear hm; intro n f w_218 hI
                  obtain ⟨col_219, i_220, v_221, n_217, hn, hm, hst, h_212, hb_206, hb_10, rh_23, hb_35, hmk, hs18, hs24, hs4, hs6, hs7, hs1000000⟩ := hI
                  subst hn
                  refine .ld (d := 18) (v := (.pointer (some ⟨g_202, 0, none⟩))) hs18 ?_
                  refine .ld (d := 24) (v := (.int .i64 i_220)) hs24 ?_
                  refine .ld (d := 4) (v := (.pointer (some ⟨g_6, 0, none⟩))) hs4 ?_
                  refine .ld (d := 6) (v := (.pointer (some ⟨g_27, 0, none⟩))) hs6 ?_
                  refine .ld (d := 7) (v := (.int .i64 r_36.1)) hs7 ?_
                  refine .ld (d := 1000000) (v := (enc (D_216 :: (D_201 :: [])))) hs1000000 ?_
                  clear hs18 hs24 hs4 hs6 hs7 hs1000000
                  cases n_217 with
                  | zero => rw [m_credencelaw10_walked_int_L5.eq_1] at hm; cases hm
                  | succ n_217 =>
                    rw [m_credencelaw10_walked_int_L5.eq_2] at hm
                    refine wseq ?_
                    refine wseq ?_
                    refine wregion ?_
                    refine lv (v := (.int .i64 i_220)) rfl rfl (r_move rfl) ?_
                    refine lv (v := (.slice a_210 all_209.length cap_211)) rfl rfl (r_ld Try.isAgg42 rfl hb_206.at1) ?_
                    refine lv (v := (.int .i64 (all_209.length : Int))) rfl rfl (r_len Try.underlying42 rfl) ?_
                    refine lv (v := (.bool (decide (i_220 < (all_209.length : Int))))) rfl rfl (r_lss i_220 (all_209.length : Int) rfl rfl) ?_
                    refine lnil ?_
                    refine wcond (decide (i_220 < (all_209.length : Int))) rfl (fun hb => ?_) (fun hb => ?_)
                    · rw [if_pos hb] at hm
                      clear hb
                      refine wskip ?_
                      refine wseq ?_
                      refine wblock ?_
                      refine wseq ?_
                      refine wregion ?_
                      refine lv (v := (.slice ra_21 r_19.length rc_22)) rfl rfl (r_ld Try.isAgg22 rfl hb_35.at1) ?_
                      refine lv (v := (.int .i64 i_220)) rfl rfl (r_move rfl) ?_
                      obtain ⟨r_222, hr_223, hm⟩ := bind_some hm
                      refine lc rfl rfl (r_call2 Try.call14 rfl rfl) (c_credenceref10_Digits N 13 (frC 4 col_219) _ ra_21 rc_22 r_19 i_220 (rh_23.toSlF (Froz.int .i64)) r_222 hr_223) ?_
                      rintro _ w_227 ⟨col_229, ra_224, rc_225, rfl, hg_228, rh_226⟩
                      refine ⟨_, rfl, ?_⟩
                      replace rh_226 := rh_226.thaw (flat_int .i64) hg_228 ((Fz.refl (col := col_219)).froz 4) (by decide)
                      replace hg_228 := hg_228.thawR (col := col_219)
                      generalize colR w_218.heap.size col_219 col_229 = col_230 at *
                      replace h_212 := h_212.gr hg_228
                      replace rh_23 := rh_23.gr hg_228
                      replace hb_206 := hb_206.gr hg_228
                      replace hb_10 := hb_10.gr hg_228
                      replace hb_35 := hb_35.gr hg_228
                      replace hmk := hmk.gr hg_228
                      replace hst := hst.grow hg_228
                      refine lv (v := (.tuple #[(.slice ra_224 r_222.1.length rc_225), (.int .i64 r_222.2)])) rfl rfl (r_move rfl) ?_
                      refine lv (v := (.slice ra_224 r_222.1.length rc_225)) rfl rfl (r_extract rfl rfl) ?_
                      refine lv (v := (.int .i64 r_222.2)) rfl rfl (r_extract rfl rfl) ?_
                      refine lv (v := (.slice ra_224 r_222.1.length rc_225)) rfl rfl (r_assign rfl) ?_
                      refine lv (v := (.int .i64 r_222.2)) rfl rfl (r_assign rfl) ?_
                      refine lnil ?_
                      refine wseq ?_
                      refine wregion ?_
                      refine lv (v := (.slice a_210 all_209.length cap_211)) rfl rfl (r_ld Try.isAgg42 rfl hb_206.at1) ?_
                      refine lv (v := (.int .i64 i_220)) rfl rfl (r_move rfl) ?_
                      obtain ⟨e_231, hj_232, hm⟩ := bind_some hm
                      refine lv (v := (sptr a_210 (Int.toNat i_220 * 1))) rfl rfl (r_idx Try.underlying42 Try.sizeOf22 rfl rfl (at?_some hj_232).1 (at?_some hj_232).2.1 (h_212.addr hj_232)) ?_
                      obtain ⟨_, hr_233, hA_234⟩ := h_212.atN hj_232
                      obtain ⟨_, hr_233, _⟩ := hr_233
                      obtain ⟨x_235, ho_236, hm⟩ := bind_some hm
                      rw [ho_236] at hr_233
                      obtain ⟨a_237, cap_238, rfl, h_239⟩ := rd_opt hr_233
                      refine lv (v := (.slice a_237 x_235.length cap_238)) rfl rfl (r_ld Try.isAgg22 rfl hA_234.one) ?_
                      refine lv (v := (.slice ra_224 r_222.1.length rc_225)) rfl rfl (r_move rfl) ?_
                      obtain ⟨r_240, hr_241, hm⟩ := bind_some hm
                      refine lc rfl rfl (r_call2 Try.call15 rfl rfl) (c_credencelaw10_same_int N (frC 13 col_230) _ a_237 cap_238 x_235 ra_224 rc_225 r_222.1 (h_239.froz 13) (rh_226.toSlF (Froz.int .i64)) r_240 hr_241) ?_
                      rintro _ w_242 ⟨rfl, hg_243⟩
                      refine ⟨_, rfl, ?_⟩
                      replace hg_243 : Grow col_230 w_227 col_230 w_242 := .of_below hg_243
                      replace h_212 := h_212.gr hg_243
                      replace rh_23 := rh_23.gr hg_243
                      replace h_239 := h_239.gr hg_243
                      replace rh_226 := rh_226.gr hg_243
                      replace hb_206 := hb_206.gr hg_243
                      replace hb_10 := hb_10.gr hg_243
                      replace hb_35 := hb_35.gr hg_243
                      replace hmk := hmk.gr hg_243
                      replace hst := hst.grow hg_243
                      refine lv (v := (.bool r_240)) rfl rfl (r_assign rfl) ?_
                      refine lnil ?_
                      refine wseq ?_
                      refine wregion ?_
                      refine lv (v := (.bool r_240)) rfl rfl (r_move rfl) ?_
                      refine lv (v := (.bool (!r_240))) rfl rfl (r_not r_240 rfl) ?_
                      refine lnil ?_
                      refine wcond (!r_240) rfl (fun hb => ?_) (fun hb => ?_)
                      · rw [if_pos hb] at hm
                        clear hb
                        refine wseq ?_
                        refine wregion ?_
                        refine l_bstore (v := (.bool false)) hb_10 Try.sizeOf4 rfl rfl (by intro u hu; simp only [Value.cells, List.mem_cons, List.not_mem_nil, or_false] at hu; subst hu; rfl) rfl rfl ?_
                        intro w_244 hk_245 hs_246 hb_247
                        replace h_212 := h_212.kp hk_245 (by decide) (by decide)
                        replace rh_23 := rh_23.kp hk_245 (by decide) (by decide)
                        replace hb_206 := hb_206.kp hk_245 (by decide)
                        replace hb_35 := hb_35.kp hk_245 (by decide)
                        replace hmk := hmk.kp hk_245 (by decide)
                        replace hst := hst.kp hk_245 hs_246 (by decide) (by decide)
                        clear hb_10
                        replace hb_247 : Box 4 2 col_230 w_244 g_6 #[(.bool false)] := hb_247
                        refine lnil ?_
                        refine wret ?_
                        cases hm
                        refine ⟨_, (D_216 :: (D_201 :: [])), rfl, hmk, ?_⟩
                        intro w_248 hk_249 hs_250
                        clear hmk
                        replace hb_247 := hb_247.kp hk_249 (by decide)
                        replace hst := hst.kp hk_249 hs_250 (by decide) (by decide)
                        exact ⟨_, res_cell1 rfl rfl Try.isAgg4 rfl hb_247.at1, rfl, hst.below⟩
                      · rw [if_neg (by rw [hb]; decide)] at hm
                        clear hb
                        refine wskip ?_
                        refine wregion ?_
                        refine lv (v := (.int .i64 i_220)) rfl rfl (r_move rfl) ?_
                        refine lv (v := (.int .i64 (IntKind.i64.wrap (i_220 + 2)))) rfl rfl (r_add i_220 2 rfl rfl) ?_
                        refine lv (v := (.int .i64 (IntKind.i64.wrap (i_220 + 2)))) rfl rfl (r_assign rfl) ?_
                        refine lnil ?_
                        exact ⟨n_217, by omega, ⟨col_230, (IntKind.i64.wrap (i_220 + 2)), v_221, n_217, rfl, hm, hst, h_212, hb_206, hb_10, rh_23, hb_35, hmk, rfl, rfl, rfl, rfl, rfl, rfl⟩⟩
                    · rw [if_neg (by rw [hb]; decide)] at hm
                      clear hb
                      refine wexit (inB_hit ?_)
                      refine wseq ?_
                      refine wregion ?_
                      refine lv (v := (.slice a_210 all_209.length cap_211)) rfl rfl (r_ld Try.isAgg42 rfl hb_206.at1) ?_
                      refine lv (v := (.int .i64 (all_209.length : Int))) rfl rfl (r_len Try.underlying42 rfl) ?_
                      refine lv (v := (.int .i64 r_36.1)) rfl rfl (r_move rfl) ?_
                      refine lv (v := (.bool (decide ((all_209.length : Int) = r_36.1)))) rfl rfl (r_eql (all_209.length : Int) r_36.1 rfl rfl) ?_
                      refine l_bstore (v := (.bool (decide ((all_209.length : Int) = r_36.1)))) hb_10 Try.sizeOf4 rfl rfl (by intro u hu; simp only [Value.cells, List.mem_cons, List.not_mem_nil, or_false] at hu; subst hu; rfl) rfl rfl ?_
                      intro w_251 hk_252 hs_253 hb_254
                      replace hmk := hmk.kp hk_252 (by decide)
                      replace hst := hst.kp hk_252 hs_253 (by decide) (by decide)
                      clear hb_10
                      replace hb_254 : Box 4 2 col_219 w_251 g_6 #[(.bool (decide ((all_209.length : Int) = r_36.1)))] := hb_254
                      refine lnil ?_
                      refine wret ?_
                      cases hm
                      refine ⟨_, (D_216 :: (D_201 :: [])), rfl, hmk, ?_⟩
                      intro w_255 hk_256 hs_257
                      clear hmk
                      replace hb_254 := hb_254.kp hk_256 (by decide)
                      replace hst := hst.kp hk_256 hs_257 (by decide) (by decide)
                      exact ⟨_, res_cell1 rfl rfl Try.isAgg4 rfl hb_254.at1, rfl, hst.below⟩
                · clear hmk
                  intro c_ D_264 col_208 w_207 hX hmk
                  obtain ⟨rfl, hX⟩ := hX
                  obtain ⟨a_210, cap_211, all_209, v_213, hm, hst, h_212, hb_206, hb_10, rh_23, hb_35⟩ := hX
                  rw [m_credencelaw10_walked_int_L4_Xret.eq_1] at hm
                  refine wret ?_
                  cases hm
                  refine ⟨_, (D_264 :: (D_201 :: [])), rfl, hmk, ?_⟩
                  intro w_265 hk_266 hs_267
                  clear hmk
                  replace hb_10 := hb_10.kp hk_266 (by decide)
                  replace hst := hst.kp hk_266 hs_267 (by decide) (by decide)
                  exact ⟨_, res_cell1 rfl rfl Try.isAgg4 rfl hb_10.at1, rfl, hst.below⟩
              · clear hmk
                intro c_ D_381 col_196 w_195 hX hmk
                rcases hX with ⟨rfl, hX⟩ | ⟨rfl, hX⟩
                · obtain ⟨k_197, v_198, hm, hst, hb_194, hb_5, hb_10, rh_23, hb_35, rh_52⟩ := hX
                  rw [m_credencelaw10_walked_int_L3_X4.eq_1] at hm
                  refine wexit (inB_hit ?_)
                  refine wseq ?_
                  refine wregion ?_
                  refine l_alloc (col := col_196) (v := (.slice none (([] : List (Option (List Int))).length) 0)) 19 rfl Try.zeroValue42 ?_
                  intro g_382 w_383 col_384 hg_385 hb_386
                  replace rh_23 := rh_23.gr hg_385
                  replace rh_52 := rh_52.gr hg_385
                  replace hb_194 := hb_194.gr hg_385
                  replace hb_5 := hb_5.gr hg_385
                  replace hb_10 := hb_10.gr hg_385
                  replace hb_35 := hb_35.gr hg_385
                  replace hmk := hmk.gr hg_385
                  replace hst := hst.grow hg_385
                  replace hb_386 : Box 42 19 col_384 w_383 g_382 #[(.slice none (([] : List (Option (List Int))).length) 0)] := hb_386
                  refine lnil ?_
                  refine wseq ?_
                  refine wseq ?_
                  refine wregion ?_
                  refine lv (v := rv_51) rfl rfl (r_move rfl) ?_
                  refine lnil ?_
                  refine wblock ?_
                  refine wrange (psl := [110, 111]) (arr := (fun (y : Int × (List Int)) (col : Col) (w : World) (args : List Value) => ∃ (a1 : Option Addr) (cap1 : Nat), args = [.int .i64 y.1, .slice a1 y.2.length cap1] ∧ Own (Rep.int .i64) 3 7 col w a1 cap1 y.2)) (ys := r_49) (col := col_384) 498 rfl rh_52 rfl hmk rfl rfl (by rintro _ _ _ _ ⟨_, _, rfl, _⟩; rfl) (fun ys_ col_388 w_387 => ∃ (a_390 : Option Addr) (cap_391 : Nat) (all_389 : List (Option (List Int))) (v_393 : Bool), m_credencelaw10_walked_int_L7 N r_19 r_36 ys_ all_389 v_393 = some r ∧ St w0 (col0 col) col_388 w_387 ∧ Own (Rep.opt (Rep.int .i64)) 22 20 col_388 w_387 a_390 cap_391 all_389 ∧ Box 42 19 col_388 w_387 g_382 #[(.slice a_390 all_389.length cap_391)] ∧ Box 4 2 col_388 w_387 g_6 #[(.bool v_393)] ∧ Own (Rep.int .i64) 3 4 col_388 w_387 ra_21 rc_22 r_19 ∧ Box 22 5 col_388 w_387 g_27 #[(.slice ra_21 r_19.length rc_22)]) (fun c_ col_388 w_387 => (c_ = .ret ∧ ∃ (a_390 : Option Addr) (cap_391 : Nat) (all_389 : List (Option (List Int))) (v_393 : Bool), m_credencelaw10_walked_int_L7_Xret  all_389 v_393 = some r ∧ St w0 (col0 col) col_388 w_387 ∧ Own (Rep.opt (Rep.int .i64)) 22 20 col_388 w_387 a_390 cap_391 all_389 ∧ Box 42 19 col_388 w_387 g_382 #[(.slice a_390 all_389.length cap_391)] ∧ Box 4 2 col_388 w_387 g_6 #[(.bool v_393)] ∧ Own (Rep.int .i64) 3 4 col_388 w_387 ra_21 rc_22 r_19 ∧ Box 22 5 col_388 w_387 g_27 #[(.slice ra_21 r_19.length rc_22)])) ?_ ?_ ⟨none, 0, ([] : List (Option (List Int))), v_198, hm, hst, Own.nil, hb_386, hb_10, rh_23, hb_35⟩ ?_ ?_ ?_
                  · intro ys_ col_388 w_387 col2_ w2_ hJ hk
                    obtain ⟨a_390, cap_391, all_389, v_393, hm, hst, h_392, hb_386, hb_10, rh_23, hb_35⟩ := hJ
                    exact ⟨a_390, cap_391, all_389, v_393, hm, hst.kpp hk rfl rfl, h_392.kpp hk rfl rfl, hb_386.kpp hk rfl, hb_10.kpp hk rfl, rh_23.kpp hk rfl rfl, hb_35.kpp hk rfl⟩
                  · intro c_ col_388 w_387 col2_ w2_ hX hk
                    obtain ⟨rfl, hX⟩ := hX
                    obtain ⟨a_390, cap_391, all_389, v_393, hm, hst, h_392, hb_386, hb_10, rh_23, hb_35⟩ := hX
                    exact ⟨rfl, ⟨a_390, cap_391, all_389, v_393, hm, hst.kpp hk rfl rfl, h_392.kpp hk rfl rfl, hb_386.kpp hk rfl, hb_10.kpp hk rfl, rh_23.kpp hk rfl rfl, hb_35.kpp hk rfl⟩⟩
                  · intro l_438 rc_439 ds_440 y_394 l_395 col_388 w_387 args hJ hrec hmk harr
                    obtain ⟨a_390, cap_391, all_389, v_393, hm, hst, h_392, hb_386, hb_10, rh_23, hb_35⟩ := hJ
                    rw [m_credencelaw10_walked_int_L7.eq_2] at hm
                    have hki := KeepP.refl pCo col_388 w_387
                    obtain ⟨a_441, cap_442, rfl, h_443⟩ := harr
                    refine wseq ?_
                    refine wregion ?_
                    refine lv (v := (.int .i64 y_394.1)) rfl rfl (r_assign rfl) ?_
                    refine lnil ?_
                    refine wregion ?_
                    refine lv (v := (.slice a_441 y_394.2.length cap_442)) rfl rfl (r_assign rfl) ?_
                    refine lnil ?_
                    refine ⟨_, hrec, ?_⟩
                    intro w_448 rc_449 hk_450 hs_451 hrec2
                    replace h_392 := h_392.kp hk_450 (by decide) (by decide)
                    replace rh_23 := rh_23.kp hk_450 (by decide) (by decide)
                    replace h_443 := h_443.kp hk_450 (by decide) (by decide)
                    replace hb_386 := hb_386.kp hk_450 (by decide)
                    replace hb_10 := hb_10.kp hk_450 (by decide)
                    replace hb_35 := hb_35.kp hk_450 (by decide)
                    replace hmk := hmk.kp hk_450 (by decide)
                    replace hki := hki.kp hk_450 hs_451 rfl
                    replace hst := hst.kp hk_450 hs_451 (by decide) (by decide)
                    clear hrec
                    have hrec := hrec2
                    clear hrec2
                    refine wblock ?_
                    refine wseq ?_
                    refine wregion ?_
                    refine lv (v := (.slice ra_21 r_19.length rc_22)) rfl rfl (r_ld Try.isAgg22 rfl hb_35.at1) ?_
                    refine lv (v := (.int .i64 y_394.1)) rfl rfl (r_move rfl) ?_
                    obtain ⟨r_452, hr_453, hm⟩ := bind_some hm
                    refine lc rfl rfl (r_call2 Try.call14 rfl rfl) (c_credenceref10_Digits N 22 (frC 4 col_388) _ ra_21 rc_22 r_19 y_394.1 (rh_23.toSlF (Froz.int .i64)) r_452 hr_453) ?_
                    rintro _ w_457 ⟨col_459, ra_454, rc_455, rfl, hg_458, rh_456⟩
                    refine ⟨_, rfl, ?_⟩
                    replace rh_456 := rh_456.thaw (flat_int .i64) hg_458 ((Fz.refl (col := col_388)).froz 4) (by decide)
                    replace hg_458 := hg_458.thawR (col := col_388)
                    generalize colR w_448.heap.size col_388 col_459 = col_460 at *
                    replace h_392 := h_392.gr hg_458
                    replace rh_23 := rh_23.gr hg_458
                    replace h_443 := h_443.gr hg_458
                    replace hb_386 := hb_386.gr hg_458
                    replace hb_10 := hb_10.gr hg_458
                    replace hb_35 := hb_35.gr hg_458
                    replace hrec := hrec.gr hg_458
                    replace hmk := hmk.gr hg_458
                    replace hki := hki.gr hg_458
                    replace hst := hst.grow hg_458
                    refine lv (v := (.tuple #[(.slice ra_454 r_452.1.length rc_455), (.int .i64 r_452.2)])) rfl rfl (r_move rfl) ?_
                    refine lv (v := (.slice ra_454 r_452.1.length rc_455)) rfl rfl (r_extract rfl rfl) ?_
                    refine lv (v := (.int .i64 r_452.2)) rfl rfl (r_extract rfl rfl) ?_
                    refine lv (v := (.slice ra_454 r_452.1.length rc_455)) rfl rfl (r_assign rfl) ?_
                    refine lv (v := (.int .i64 r_452.2)) rfl rfl (r_assign rfl) ?_
                    refine lnil ?_
                    refine wseq ?_
                    refine wseq ?_
                    refine Wp.cut (fun f w_467 => ∃ (col_468 : Col) (v_469 : Bool), m_credencelaw10_walked_int_J7 N all_389 v_393 (m_credencelaw10_walked_int_L7 N r_19 r_36 l_395) y_394 v_469 = some r ∧ St w0 (col0 col) col_468 w_467 ∧ Own (Rep.opt (Rep.int .i64)) 22 20 col_468 w_467 a_390 cap_391 all_389 ∧ Box 42 19 col_468 w_467 g_382 #[(.slice a_390 all_389.length cap_391)] ∧ Own (Rep.int .i64) 3 7 col_468 w_467 a_441 cap_442 y_394.2 ∧ Box 4 2 col_468 w_467 g_6 #[(.bool v_393)] ∧ Own (Rep.int .i64) 3 4 col_468 w_467 ra_21 rc_22 r_19 ∧ Box 22 5 col_468 w_467 g_27 #[(.slice ra_21 r_19.length rc_22)] ∧ Rec 498 col_468 w_467 l_438 rc_449 ∧ Marks col_468 w_467 ds_440 ∧ KeepP pCo col_388 w_387 col_468 w_467 ∧ f 131 = (.bool v_469) ∧ f 18 = (.pointer (some ⟨g_382, 0, none⟩)) ∧ f 19 = (.int .i64 y_394.1) ∧ f 20 = (.slice a_441 y_394.2.length cap_442) ∧ f 4 = (.pointer (some ⟨g_6, 0, none⟩)) ∧ f 6 = (.pointer (some ⟨g_27, 0, none⟩)) ∧ f 7 = (.int .i64 r_36.1) ∧ f 1000000 = (enc [])) ?_ ?_
                    · intro f w_467 hJ
                      obtain ⟨col_468, v_469, hm, hst, h_392, hb_386, h_443, hb_10, rh_23, hb_35, hrec, hmk, hki, hs131, hs18, hs19, hs20, hs4, hs6, hs7, hs1000000⟩ := hJ
                      rw [m_credencelaw10_walked_int_J7.eq_1] at hm
                      refine .ld (d := 131) (v := (.bool v_469)) hs131 ?_
                      refine .ld (d := 18) (v := (.pointer (some ⟨g_382, 0, none⟩))) hs18 ?_
                      refine .ld (d := 19) (v := (.int .i64 y_394.1)) hs19 ?_
                      refine .ld (d := 20) (v := (.slice a_441 y_394.2.length cap_442)) hs20 ?_
                      refine .ld (d := 4) (v := (.pointer (some ⟨g_6, 0, none⟩))) hs4 ?_
                      refine .ld (d := 6) (v := (.pointer (some ⟨g_27, 0, none⟩))) hs6 ?_
                      refine .ld (d := 7) (v := (.int .i64 r_36.1)) hs7 ?_
                      refine .ld (d := 1000000) (v := (enc [])) hs1000000 ?_
                      clear hs131 hs18 hs19 hs20 hs4 hs6 hs7 hs1000000
                      refine wcond (v_469) rfl (fun hb => ?_) (fun hb => ?_)
                      · rw [if_pos hb] at hm
                        clear hb
                        refine wseq ?_
                        refine wregion ?_
                        refine l_bstore (v := (.bool false)) hb_10 Try.sizeOf4 rfl rfl (by intro u hu; simp only [Value.cells, List.mem_cons, List.not_mem_nil, or_false] at hu; subst hu; rfl) rfl rfl ?_
                        intro w_470 hk_471 hs_472 hb_473
                        replace h_392 := h_392.kp hk_471 (by decide) (by decide)
                        replace h_443 := h_443.kp hk_471 (by decide) (by decide)
                        replace rh_23 := rh_23.kp hk_471 (by decide) (by decide)
                        replace hb_386 := hb_386.kp hk_471 (by decide)
                        replace hb_35 := hb_35.kp hk_471 (by decide)
                        replace hrec := hrec.kp hk_471 (by decide)
                        replace hmk := hmk.kp hk_471 (by decide)
                        replace hki := hki.kp hk_471 hs_472 rfl
                        replace hst := hst.kp hk_471 hs_472 (by decide) (by decide)
                        clear hb_10
                        replace hb_473 : Box 4 2 col_468 w_470 g_6 #[(.bool false)] := hb_473
                        refine lnil ?_
                        refine wret ?_
                        exact ⟨_, hki, ⟨rfl, ⟨a_390, cap_391, all_389, false, hm, hst, h_392, hb_386, hb_473, rh_23, hb_35⟩⟩, hrec, hmk⟩
                      · rw [if_neg (by rw [hb]; decide)] at hm
                        clear hb
                        refine wskip ?_
                        refine wseq ?_
                        by_cases hsp_474 : (decide ((Int.tmod y_394.1 2) = 0)) = true
                        · rw [if_pos hsp_474] at hm
                          refine wregion ?_
                          refine lv (v := (.slice a_390 all_389.length cap_391)) rfl rfl (r_ld Try.isAgg42 rfl hb_386.at1) ?_
                          refine lv (v := (.slice a_441 y_394.2.length cap_442)) rfl rfl (r_move rfl) ?_
                          refine l_lit (col := col_468) (r := (Rep.opt (Rep.int .i64))) (xs := [(none : (Option (List Int)))]) [(.slice a_441 y_394.2.length cap_442)] 23 rfl Try.underlying42 el22_4 rfl rfl rfl rfl rfl rfl (by intro v hv; simp only [List.mem_cons, List.not_mem_nil, or_false] at hv; subst hv; rfl) (RowsH.ofF (Rows.consF (r := (Rep.opt (Rep.int .i64))) (x := (none : (Option (List Int)))) (cs := [(.slice a_441 y_394.2.length cap_442)]) (rd_none rfl) Rows.nil0)) ?_
                          intro a_475 w_476 col_477 hg_478 h_479
                          replace h_392 := h_392.gr hg_478
                          replace h_443 := h_443.gr hg_478
                          replace rh_23 := rh_23.gr hg_478
                          replace hb_386 := hb_386.gr hg_478
                          replace hb_10 := hb_10.gr hg_478
                          replace hb_35 := hb_35.gr hg_478
                          replace hrec := hrec.gr hg_478
                          replace hmk := hmk.gr hg_478
                          replace hki := hki.gr hg_478
                          replace hst := hst.grow hg_478
                          obtain ⟨hb_480, hm⟩ := chk_some hm
                          refine l_ext (col := col_477) (w := w_476) (r := (Rep.opt (Rep.int .i64))) (c := 20) (c2 := 20) (h_392.ex) (h_479.srcN NB.opt) rfl Try.underlying42 el22_4 rfl rfl rfl hb_480.1 hb_480.2 (by decide) ?_
                          intro a_481 cap_482 w_483 col_484 hk_485 h_486
                          replace h_443 := h_443.kpp hk_485 rfl rfl
                          replace rh_23 := rh_23.kpp hk_485 rfl rfl
                          replace h_479 := h_479.kpp hk_485 rfl rfl
                          replace hb_386 := hb_386.kpp hk_485 rfl
                          replace hb_10 := hb_10.kpp hk_485 rfl
                          replace hb_35 := hb_35.kpp hk_485 rfl
                          replace hrec := hrec.kpp hk_485 rfl
                          replace hmk := hmk.kpp hk_485 rfl
                          replace hki := hki.trans (hk_485.mono (by first | exact pCo_p2 rfl | exact pCo_p1 rfl | exact pCo_pS rfl | decide))
                          replace hst := hst.kpp hk_485 rfl rfl
                          clear h_392
                          refine l_bstore (v := (.slice a_481 ((all_389 ++ [(none : (Option (List Int)))]).length) cap_482)) hb_386 Try.sizeOf42 rfl rfl (by intro u hu; simp only [Value.cells, List.mem_cons, List.not_mem_nil, or_false] at hu; subst hu; rfl) rfl rfl ?_
                          intro w_487 hk_488 hs_489 hb_490
                          replace h_486 := h_486.kp hk_488 (by decide) (by decide)
                          replace h_443 := h_443.kp hk_488 (by decide) (by decide)
                          replace rh_23 := rh_23.kp hk_488 (by decide) (by decide)
                          replace hb_10 := hb_10.kp hk_488 (by decide)
                          replace hb_35 := hb_35.kp hk_488 (by decide)
                          replace hrec := hrec.kp hk_488 (by decide)
                          replace hmk := hmk.kp hk_488 (by decide)
                          replace hki := hki.kp hk_488 hs_489 rfl
                          replace hst := hst.kp hk_488 hs_489 (by decide) (by decide)
                          clear hb_386
                          replace hb_490 : Box 42 19 col_484 w_487 g_382 #[(.slice a_481 ((all_389 ++ [(none : (Option (List Int)))]).length) cap_482)] := hb_490
                          have h_491 := h_486.new
                          clear h_486
                          refine lnil ?_
                          refine wseq ?_
                          refine wregion ?_
                          refine lv (v := (.int .i64 y_394.1)) rfl rfl (r_move rfl) ?_
                          refine lv (v := (.int .i64 (Int.tmod y_394.1 2))) rfl rfl (r_rem y_394.1 2 rfl rfl (by decide)) ?_
                          refine lv (v := (.bool (decide ((Int.tmod y_394.1 2) = 0)))) rfl rfl (r_eql (Int.tmod y_394.1 2) 0 rfl rfl) ?_
                          refine lnil ?_
                          refine wcondT (congrArg Value.bool hsp_474) ?_
                          refine wseq ?_
                          refine wseq ?_
                          refine wregion ?_
                          refine lv (v := (.int .i64 0)) rfl rfl (r_assign rfl) ?_
                          refine lnil ?_
                          refine wblock ?_
                          refine wloop (fun n f w_493 => ∃ (col_494 : Col) (a_496 : Option Addr) (cap_497 : Nat) (d_495 : List Int) (i_499 : Int) (n_492 : Nat), n_492 = n ∧ m_credencelaw10_walked_int_L9 N all_389 v_393 (m_credencelaw10_walked_int_L7 N r_19 r_36 l_395) n_492 d_495 i_499 = some r ∧ St w0 (col0 col) col_494 w_493 ∧ Own (Rep.opt (Rep.int .i64)) 22 20 col_494 w_493 a_481 cap_482 (all_389 ++ [(none : (Option (List Int)))]) ∧ Box 42 19 col_494 w_493 g_382 #[(.slice a_481 ((all_389 ++ [(none : (Option (List Int)))]).length) cap_482)] ∧ Own (Rep.int .i64) 3 7 col_494 w_493 a_496 cap_497 d_495 ∧ Box 4 2 col_494 w_493 g_6 #[(.bool v_393)] ∧ Own (Rep.int .i64) 3 4 col_494 w_493 ra_21 rc_22 r_19 ∧ Box 22 5 col_494 w_493 g_27 #[(.slice ra_21 r_19.length rc_22)] ∧ Rec 498 col_494 w_493 l_438 rc_449 ∧ Marks col_494 w_493 ds_440 ∧ KeepP pCo col_388 w_387 col_494 w_493 ∧ f 18 = (.pointer (some ⟨g_382, 0, none⟩)) ∧ f 20 = (.slice a_496 d_495.length cap_497) ∧ f 23 = (.int .i64 i_499) ∧ f 4 = (.pointer (some ⟨g_6, 0, none⟩)) ∧ f 6 = (.pointer (some ⟨g_27, 0, none⟩)) ∧ f 7 = (.int .i64 r_36.1) ∧ f 1000000 = (enc [])) N ⟨col_484, a_441, cap_442, y_394.2, 0, N, rfl, hm, hst, h_491, hb_490, h_443, hb_10, rh_23, hb_35, hrec, hmk, hki, rfl, rfl, rfl, rfl, rfl, rfl, rfl⟩ ?_
                          clear hm; intro n f w_493 hI
                          obtain ⟨col_494, a_496, cap_497, d_495, i_499, n_492, hn, hm, hst, h_491, hb_490, h_498, hb_10, rh_23, hb_35, hrec, hmk, hki, hs18, hs20, hs23, hs4, hs6, hs7, hs1000000⟩ := hI
                          subst hn
                          refine .ld (d := 18) (v := (.pointer (some ⟨g_382, 0, none⟩))) hs18 ?_
                          refine .ld (d := 20) (v := (.slice a_496 d_495.length cap_497)) hs20 ?_
                          refine .ld (d := 23) (v := (.int .i64 i_499)) hs23 ?_
                          refine .ld (d := 4) (v := (.pointer (some ⟨g_6, 0, none⟩))) hs4 ?_
                          refine .ld (d := 6) (v := (.pointer (some ⟨g_27, 0, none⟩))) hs6 ?_
                          refine .ld (d := 7) (v := (.int .i64 r_36.1)) hs7 ?_
                          refine .ld (d := 1000000) (v := (enc [])) hs1000000 ?_
                          clear hs18 hs20 hs23 hs4 hs6 hs7 hs1000000
                          cases n_492 with
                          | zero => rw [m_credencelaw10_walked_int_L9.eq_1] at hm; cases hm
                          | succ n_492 =>
                            rw [m_credencelaw10_walked_int_L9.eq_2] at hm
                            refine wseq ?_
                            refine wseq ?_
                            refine wregion ?_
                            refine lv (v := (.int .i64 i_499)) rfl rfl (r_move rfl) ?_
                            refine lv (v := (.slice a_496 d_495.length cap_497)) rfl rfl (r_move rfl) ?_
                            refine lv (v := (.int .i64 (d_495.length : Int))) rfl rfl (r_len Try.underlying22 rfl) ?_
                            refine lv (v := (.bool (decide (i_499 < (d_495.length : Int))))) rfl rfl (r_lss i_499 (d_495.length : Int) rfl rfl) ?_
                            refine lnil ?_
                            refine wcond (decide (i_499 < (d_495.length : Int))) rfl (fun hb => ?_) (fun hb => ?_)
                            · rw [if_pos hb] at hm
                              clear hb
                              refine wskip ?_
                              refine wseq ?_
                              refine wblock ?_
                              refine wregion ?_
                              refine lv (v := (.slice a_496 d_495.length cap_497)) rfl rfl (r_move rfl) ?_
                              refine lv (v := (.int .i64 i_499)) rfl rfl (r_move rfl) ?_
                              obtain ⟨e_500, hj_501, hm⟩ := bind_some hm
                              refine lv (v := (sptr a_496 (Int.toNat i_499 * 1))) rfl rfl (r_idx Try.underlying22 Try.sizeOf3 rfl rfl (at?_some hj_501).1 (at?_some hj_501).2.1 (h_498.addr hj_501)) ?_
                              obtain ⟨xs_507, hz_506, hm⟩ := bind_some hm
                              have hz_506 : xs_507 = d_495.set (Int.toNat i_499) 0 := (Option.some.inj hz_506).symm
                              refine l_store (x1 := 0) (v := (.int .i64 0)) h_498 hj_501 rfl Try.sizeOf3 (rd_int .i64 0) rfl rfl (by decide) ?_
                              intro w_502 hk_503 hs_504 h_505
                              rw [← hz_506] at h_505
                              replace h_491 := h_491.kp hk_503 (by decide) (by decide)
                              replace rh_23 := rh_23.kp hk_503 (by decide) (by decide)
                              replace hb_490 := hb_490.kp hk_503 (by decide)
                              replace hb_10 := hb_10.kp hk_503 (by decide)
                              replace hb_35 := hb_35.kp hk_503 (by decide)
                              replace hrec := hrec.kp hk_503 (by decide)
                              replace hmk := hmk.kp hk_503 (by decide)
                              replace hki := hki.kp hk_503 hs_504 rfl
                              replace hst := hst.kp hk_503 hs_504 (by decide) (by decide)
                              refine .ld (d := 20) (v := (.slice a_496 xs_507.length cap_497)) (congrArg (fun n => Value.slice a_496 n cap_497) (show d_495.length = xs_507.length by rw [hz_506, List.length_set])) ?_
                              clear h_498
                              refine lnil ?_
                              refine wregion ?_
                              refine lv (v := (.int .i64 i_499)) rfl rfl (r_move rfl) ?_
                              refine lv (v := (.int .i64 (IntKind.i64.wrap (i_499 + 1)))) rfl rfl (r_add i_499 1 rfl rfl) ?_
                              refine lv (v := (.int .i64 (IntKind.i64.wrap (i_499 + 1)))) rfl rfl (r_assign rfl) ?_
                              refine lnil ?_
                              exact ⟨n_492, by omega, ⟨col_494, a_496, cap_497, xs_507, (IntKind.i64.wrap (i_499 + 1)), n_492, rfl, hm, hst, h_491, hb_490, h_505, hb_10, rh_23, hb_35, hrec, hmk, hki, rfl, rfl, rfl, rfl, rfl, rfl, rfl⟩⟩
                            · rw [if_neg (by rw [hb]; decide)] at hm
                              clear hb
                              refine wexit (inB_hit ?_)
                              refine wseq ?_
                              refine wregion ?_
                              refine lv (v := (.slice a_496 d_495.length cap_497)) rfl rfl (r_move rfl) ?_
                              refine l_lit (col := col_494) (r := (Rep.int .i64)) (xs := [5]) [(.int .i64 5)] 24 rfl Try.underlying22 el3_4 rfl rfl rfl rfl rfl rfl (by intro v hv; simp only [List.mem_cons, List.not_mem_nil, or_false] at hv; subst hv; rfl) (RowsH.ofF (Rows.consF (r := (Rep.int .i64)) (x := 5) (cs := [(.int .i64 5)]) (rd_int .i64 5) Rows.nil0)) ?_
                              intro a_508 w_509 col_510 hg_511 h_512
                              replace h_491 := h_491.gr hg_511
                              replace rh_23 := rh_23.gr hg_511
                              replace h_498 := h_498.gr hg_511
                              replace hb_490 := hb_490.gr hg_511
                              replace hb_10 := hb_10.gr hg_511
                              replace hb_35 := hb_35.gr hg_511
                              replace hrec := hrec.gr hg_511
                              replace hmk := hmk.gr hg_511
                              replace hki := hki.gr hg_511
                              replace hst := hst.grow hg_511
                              obtain ⟨hb_513, hm⟩ := chk_some hm
                              refine l_appendM (col := col_510) (w := w_509) (r := (Rep.int .i64)) (c := 7) (c2 := 7) (xs := d_495) (ys := [5]) h_498 (h_512.srcN (NB.int (k := .i64))) rfl Try.underlying22 el3_4 rfl rfl rfl hb_513.1 hb_513.2 (by decide) ?_
                              intro a_514 cap_515 w_516 col_517 hk_518 h_519
                              replace h_491 := h_491.kpp hk_518 rfl rfl
                              replace rh_23 := rh_23.kpp hk_518 rfl rfl
                              replace h_512 := h_512.kpp hk_518 rfl rfl
                              replace hb_490 := hb_490.kpp hk_518 rfl
                              replace hb_10 := hb_10.kpp hk_518 rfl
                              replace hb_35 := hb_35.kpp hk_518 rfl
                              replace hrec := hrec.kpp hk_518 rfl
                              replace hmk := hmk.kpp hk_518 rfl
                              replace hki := hki.trans (hk_518.mono (by first | exact pCo_p2 rfl | exact pCo_p1 rfl | exact pCo_pS rfl | decide))
                              replace hst := hst.kpp hk_518 rfl rfl
                              clear h_498
                              refine lv (v := (.slice a_514 ((d_495 ++ [5]).length) cap_515)) rfl rfl (r_assign rfl) ?_
                              refine lnil ?_
                              refine wregion ?_
                              refine lv (v := (.slice a_514 ((d_495 ++ [5]).length) cap_515)) rfl rfl (r_move rfl) ?_
                              refine l_lit (col := col_517) (r := (Rep.int .i64)) (xs := [5]) [(.int .i64 5)] 25 rfl Try.underlying22 el3_4 rfl rfl rfl rfl rfl rfl (by intro v hv; simp only [List.mem_cons, List.not_mem_nil, or_false] at hv; subst hv; rfl) (RowsH.ofF (Rows.consF (r := (Rep.int .i64)) (x := 5) (cs := [(.int .i64 5)]) (rd_int .i64 5) Rows.nil0)) ?_
                              intro a_520 w_521 col_522 hg_523 h_524
                              replace h_491 := h_491.gr hg_523
                              replace rh_23 := rh_23.gr hg_523
                              replace h_519 := h_519.gr hg_523
                              replace hb_490 := hb_490.gr hg_523
                              replace hb_10 := hb_10.gr hg_523
                              replace hb_35 := hb_35.gr hg_523
                              replace hrec := hrec.gr hg_523
                              replace hmk := hmk.gr hg_523
                              replace hki := hki.gr hg_523
                              replace hst := hst.grow hg_523
                              obtain ⟨hb_525, hm⟩ := chk_some hm
                              refine l_appendM (col := col_522) (w := w_521) (r := (Rep.int .i64)) (c := 7) (c2 := 7) (xs := d_495 ++ [5]) (ys := [5]) h_519 (h_524.srcN (NB.int (k := .i64))) rfl Try.underlying22 el3_4 rfl rfl rfl hb_525.1 hb_525.2 (by decide) ?_
                              intro a_526 cap_527 w_528 col_529 hk_530 h_531
                              replace h_491 := h_491.kpp hk_530 rfl rfl
                              replace rh_23 := rh_23.kpp hk_530 rfl rfl
                              replace h_524 := h_524.kpp hk_530 rfl rfl
                              replace hb_490 := hb_490.kpp hk_530 rfl
                              replace hb_10 := hb_10.kpp hk_530 rfl
                              replace hb_35 := hb_35.kpp hk_530 rfl
                              replace hrec := hrec.kpp hk_530 rfl
                              replace hmk := hmk.kpp hk_530 rfl
                              replace hki := hki.trans (hk_530.mono (by first | exact pCo_p2 rfl | exact pCo_p1 rfl | exact pCo_pS rfl | decide))
                              replace hst := hst.kpp hk_530 rfl rfl
                              clear h_519
                              refine lv (v := (.slice a_526 (((d_495 ++ [5]) ++ [5]).length) cap_527)) rfl rfl (r_assign rfl) ?_
                              refine lnil ?_
                              exact ⟨_, hki, ⟨a_481, cap_482, (all_389 ++ [(none : (Option (List Int)))]), v_393, hm, hst, h_491, hb_490, hb_10, rh_23, hb_35⟩, hrec, hmk⟩
                        · replace hsp_474 := Bool.eq_false_iff.2 hsp_474
                          rw [if_neg (by rw [hsp_474]; decide)] at hm
                          refine wregion ?_
                          refine lv (v := (.slice a_390 all_389.length cap_391)) rfl rfl (r_ld Try.isAgg42 rfl hb_386.at1) ?_
                          refine lv (v := (.slice a_441 y_394.2.length cap_442)) rfl rfl (r_move rfl) ?_
                          replace h_392 := h_392.froz 7 (by decide)
                          replace h_443 := (h_443).toSlF (Froz.int .i64)
                          replace rh_23 := rh_23.froz 7 (by decide)
                          replace hb_386 := hb_386.froz 7 (by decide)
                          replace hb_10 := hb_10.froz 7 (by decide)
                          replace hb_35 := hb_35.froz 7 (by decide)
                          replace hrec := hrec.froz 7 (by decide)
                          replace hmk := hmk.froz 7 (by decide)
                          replace hki := hki.froz 7 rfl
                          replace hst := hst.froz 7 (by decide) (by decide)
                          refine l_lit (col := (frC 7 col_468)) (r := (Rep.opt (Rep.int .i64))) (xs := [(some y_394.2)]) [(.slice a_441 y_394.2.length cap_442)] 26 rfl Try.underlying42 el22_4 rfl rfl rfl rfl rfl rfl (by intro v hv; simp only [List.mem_cons, List.not_mem_nil, or_false] at hv; subst hv; rfl) (RowsH.ofF (Rows.consF (r := (Rep.opt (Rep.int .i64))) (x := (some y_394.2)) (cs := [(.slice a_441 y_394.2.length cap_442)]) (rd_some ⟨⟨_, _, rfl, h_443⟩, rfl⟩) Rows.nil0)) ?_
                          intro a_532 w_533 col_534 hg_535 h_536
                          replace h_392 := h_392.gr hg_535
                          replace h_443 := h_443.gr hg_535
                          replace rh_23 := rh_23.gr hg_535
                          replace hb_386 := hb_386.gr hg_535
                          replace hb_10 := hb_10.gr hg_535
                          replace hb_35 := hb_35.gr hg_535
                          replace hrec := hrec.gr hg_535
                          replace hmk := hmk.gr hg_535
                          replace hki := hki.gr hg_535
                          replace hst := hst.grow hg_535
                          obtain ⟨hb_537, hm⟩ := chk_some hm
                          refine l_ext (col := col_534) (w := w_533) (r := (Rep.opt (Rep.int .i64))) (c := 20) (c2 := 20) (h_392.ex) (h_536.srcN NB.opt) rfl Try.underlying42 el22_4 rfl rfl rfl hb_537.1 hb_537.2 (by decide) ?_
                          intro a_538 cap_539 w_540 col_541 hk_542 h_543
                          replace h_443 := h_443.kpp hk_542 rfl
                          replace rh_23 := rh_23.kpp hk_542 rfl rfl
                          replace h_536 := h_536.kpp hk_542 rfl rfl
                          replace hb_386 := hb_386.kpp hk_542 rfl
                          replace hb_10 := hb_10.kpp hk_542 rfl
                          replace hb_35 := hb_35.kpp hk_542 rfl
                          replace hrec := hrec.kpp hk_542 rfl
                          replace hmk := hmk.kpp hk_542 rfl
                          replace hki := hki.trans (hk_542.mono (by first | exact pCo_p2 rfl | exact pCo_p1 rfl | exact pCo_pS rfl | decide))
                          replace hst := hst.kpp hk_542 rfl rfl
                          clear h_392
                          refine l_bstore (v := (.slice a_538 ((all_389 ++ [(some y_394.2)]).length) cap_539)) hb_386 Try.sizeOf42 rfl rfl (by intro u hu; simp only [Value.cells, List.mem_cons, List.not_mem_nil, or_false] at hu; subst hu; rfl) rfl rfl ?_
                          intro w_544 hk_545 hs_546 hb_547
                          replace h_543 := h_543.kp hk_545 (by decide) (by decide)
                          replace h_443 := h_443.kp hk_545 (by decide)
                          replace rh_23 := rh_23.kp hk_545 (by decide) (by decide)
                          replace hb_10 := hb_10.kp hk_545 (by decide)
                          replace hb_35 := hb_35.kp hk_545 (by decide)
                          replace hrec := hrec.kp hk_545 (by decide)
                          replace hmk := hmk.kp hk_545 (by decide)
                          replace hki := hki.kp hk_545 hs_546 rfl
                          replace hst := hst.kp hk_545 hs_546 (by decide) (by decide)
                          clear hb_386
                          replace hb_547 : Box 42 19 col_541 w_544 g_382 #[(.slice a_538 ((all_389 ++ [(some y_394.2)]).length) cap_539)] := hb_547
                          have h_548 := h_543.new
                          clear h_543
                          refine lnil ?_
                          refine wseq ?_
                          refine wregion ?_
                          refine lv (v := (.int .i64 y_394.1)) rfl rfl (r_move rfl) ?_
                          refine lv (v := (.int .i64 (Int.tmod y_394.1 2))) rfl rfl (r_rem y_394.1 2 rfl rfl (by decide)) ?_
                          refine lv (v := (.bool (decide ((Int.tmod y_394.1 2) = 0)))) rfl rfl (r_eql (Int.tmod y_394.1 2) 0 rfl rfl) ?_
                          refine lnil ?_
                          refine wcondF (congrArg Value.bool hsp_474) ?_
                          refine wskip ?_
                          exact ⟨_, hki, ⟨a_538, cap_539, (all_389 ++ [(some y_394.2)]), v_393, hm, hst, h_548, hb_547, hb_10, rh_23, hb_35⟩, hrec, hmk⟩
                    · refine wregion ?_
                      refine lv (v := (.int .i64 y_394.1)) rfl rfl (r_move rfl) ?_
                      refine lv (v := (.slice a_390 all_389.length cap_391)) rfl rfl (r_ld Try.isAgg42 rfl hb_386.at1) ?_
                      refine lv (v := (.int .i64 (all_389.length : Int))) rfl rfl (r_len Try.underlying42 rfl) ?_
                      refine lv (v := (.bool (!decide (y_394.1 = (all_389.length : Int))))) rfl rfl (r_neq y_394.1 (all_389.length : Int) rfl rfl) ?_
                      refine lv (v := (.bool (!decide (y_394.1 = (all_389.length : Int))))) rfl rfl (r_move rfl) ?_
                      by_cases hg_549 : (!decide (y_394.1 = (all_389.length : Int))) = true
                      · rw [if_pos hg_549] at hm
                        refine lp (b := !decide (y_394.1 = (all_389.length : Int))) 122 rfl rfl rfl rfl (by rw [hg_549]; rfl) ?_
                        refine lp (b := !decide (y_394.1 = (all_389.length : Int))) 122 rfl rfl rfl rfl (by rw [hg_549]; rfl) ?_
                        refine lv (v := (.bool true)) rfl rfl (r_pickT (congrArg Value.bool hg_549) rfl) ?_
                        refine lv (v := (.bool true)) rfl rfl (r_move rfl) ?_
                        refine lp (b := true) 126 rfl rfl rfl rfl rfl ?_
                        refine lp (b := true) 126 rfl rfl rfl rfl rfl ?_
                        refine lp (b := true) 126 rfl rfl rfl rfl rfl ?_
                        refine lp (b := true) 126 rfl rfl rfl rfl rfl ?_
                        refine lv (v := (.bool true)) rfl rfl (r_pickT rfl rfl) ?_
                        refine lnil ?_
                        exact ⟨col_460, true, hm, hst, h_392, hb_386, h_443, hb_10, rh_23, hb_35, hrec, hmk, hki, rfl, rfl, rfl, rfl, rfl, rfl, rfl, rfl⟩
                      · rw [if_neg hg_549] at hm
                        replace hg_549 := Bool.eq_false_iff.2 hg_549
                        refine lg (b := !decide (y_394.1 = (all_389.length : Int))) 122 rfl rfl rfl (by rw [hg_549]; rfl) ?_
                        refine lv (v := (.int .i64 r_452.2)) rfl rfl (r_move rfl) ?_
                        refine lg (b := !decide (y_394.1 = (all_389.length : Int))) 122 rfl rfl rfl (by rw [hg_549]; rfl) ?_
                        refine lv (v := (.bool (!decide (r_452.2 = 0)))) rfl rfl (r_neq r_452.2 0 rfl rfl) ?_
                        refine lv (v := (.bool (!decide (r_452.2 = 0)))) rfl rfl (r_pickF (congrArg Value.bool hg_549) rfl) ?_
                        refine lv (v := (.bool (!decide (r_452.2 = 0)))) rfl rfl (r_move rfl) ?_
                        by_cases hg_550 : (!decide (r_452.2 = 0)) = true
                        · rw [if_pos hg_550] at hm
                          refine lp (b := !decide (r_452.2 = 0)) 126 rfl rfl rfl rfl (by rw [hg_550]; rfl) ?_
                          refine lp (b := !decide (r_452.2 = 0)) 126 rfl rfl rfl rfl (by rw [hg_550]; rfl) ?_
                          refine lp (b := !decide (r_452.2 = 0)) 126 rfl rfl rfl rfl (by rw [hg_550]; rfl) ?_
                          refine lp (b := !decide (r_452.2 = 0)) 126 rfl rfl rfl rfl (by rw [hg_550]; rfl) ?_
                          refine lv (v := (.bool true)) rfl rfl (r_pickT (congrArg Value.bool hg_550) rfl) ?_
                          refine lnil ?_
                          exact ⟨col_460, true, hm, hst, h_392, hb_386, h_443, hb_10, rh_23, hb_35, hrec, hmk, hki, rfl, rfl, rfl, rfl, rfl, rfl, rfl, rfl⟩
                        · rw [if_neg hg_550] at hm
                          replace hg_550 := Bool.eq_false_iff.2 hg_550
                          refine lg (b := !decide (r_452.2 = 0)) 126 rfl rfl rfl (by rw [hg_550]; rfl) ?_
                          refine lv (v := (.slice a_441 y_394.2.length cap_442)) rfl rfl (r_move rfl) ?_
                          refine lg (b := !decide (r_452.2 = 0)) 126 rfl rfl rfl (by rw [hg_550]; rfl) ?_
                          refine lv (v := (.slice ra_454 r_452.1.length rc_455)) rfl rfl (r_move rfl) ?_
                          refine lg (b := !decide (r_452.2 = 0)) 126 rfl rfl rfl (by rw [hg_550]; rfl) ?_
                          obtain ⟨r_551, hr_552, hm⟩ := bind_some hm
                          refine lc rfl rfl (r_call2 Try.call15 rfl rfl) (c_credencelaw10_same_int N (frC 22 (frC 7 col_460)) _ a_441 cap_442 y_394.2 ra_454 rc_455 r_452.1 ((h_443.toSlF (Froz.int .i64)).froz 22) ((rh_456.froz 7 (by decide)).toSlF (Froz.int .i64)) r_551 hr_552) ?_
                          rintro _ w_553 ⟨rfl, hg_554⟩
                          refine ⟨_, rfl, ?_⟩
                          replace hg_554 : Grow col_460 w_457 col_460 w_553 := .of_below hg_554
                          replace h_392 := h_392.gr hg_554
                          replace rh_23 := rh_23.gr hg_554
                          replace h_443 := h_443.gr hg_554
                          replace rh_456 := rh_456.gr hg_554
                          replace hb_386 := hb_386.gr hg_554
                          replace hb_10 := hb_10.gr hg_554
                          replace hb_35 := hb_35.gr hg_554
                          replace hrec := hrec.gr hg_554
                          replace hmk := hmk.gr hg_554
                          replace hki := hki.gr hg_554
                          replace hst := hst.grow hg_554
                          refine lg (b := !decide (r_452.2 = 0)) 126 rfl rfl rfl (by rw [hg_550]; rfl) ?_
                          refine lv (v := (.bool (!r_551))) rfl rfl (r_not r_551 rfl) ?_
                          refine lv (v := (.bool (!r_551))) rfl rfl (r_pickF (congrArg Value.bool hg_550) rfl) ?_
                          refine lnil ?_
                          exact ⟨col_460, (!r_551), hm, hst, h_392, hb_386, h_443, hb_10, rh_23, hb_35, hrec, hmk, hki, rfl, rfl, rfl, rfl, rfl, rfl, rfl, rfl⟩
                  · clear hmk
                    intro D_396 col_388 w_387 hJ hmk
                    obtain ⟨a_390, cap_391, all_389, v_393, hm, hst, h_392, hb_386, hb_10, rh_23, hb_35⟩ := hJ
                    rw [m_credencelaw10_walked_int_L7.eq_1] at hm
                    refine wseq ?_
                    refine wseq ?_
                    refine wregion ?_
                    refine lv (v := (.int .i64 1)) rfl rfl (r_assign rfl) ?_
                    refine lnil ?_
                    refine wblock ?_
                    refine wloop (fun n f w_398 => ∃ (col_399 : Col) (i_400 : Int) (v_401 : Bool) (n_397 : Nat), n_397 = n ∧ m_credencelaw10_walked_int_L8 N r_19 r_36 all_389 n_397 i_400 v_401 = some r ∧ St w0 (col0 col) col_399 w_398 ∧ Own (Rep.opt (Rep.int .i64)) 22 20 col_399 w_398 a_390 cap_391 all_389 ∧ Box 42 19 col_399 w_398 g_382 #[(.slice a_390 all_389.length cap_391)] ∧ Box 4 2 col_399 w_398 g_6 #[(.bool v_401)] ∧ Own (Rep.int .i64) 3 4 col_399 w_398 ra_21 rc_22 r_19 ∧ Box 22 5 col_399 w_398 g_27 #[(.slice ra_21 r_19.length rc_22)] ∧ Marks col_399 w_398 (D_396 :: (D_381 :: [])) ∧ f 18 = (.pointer (some ⟨g_382, 0, none⟩)) ∧ f 24 = (.int .i64 i_400) ∧ f 4 = (.pointer (some ⟨g_6, 0, none⟩)) ∧ f 6 = (.pointer (some ⟨g_27, 0, none⟩)) ∧ f 7 = (.int .i64 r_36.1) ∧ f 1000000 = (enc (D_396 :: (D_381 :: [])))) N ⟨col_388, 1, v_393, N, rfl, hm, hst, h_392, hb_386, hb_10, rh_23, hb_35, hmk, rfl, rfl, rfl, rfl, rfl, rfl⟩ ?_
                    clear hm; intro n f w_398 hI
                    obtain ⟨col_399, i_400, v_401, n_397, hn, hm, hst, h_392, hb_386, hb_10, rh_23, hb_35, hmk, hs18, hs24, hs4, hs6, hs7, hs1000000⟩ := hI
                    subst hn
                    refine .ld (d := 18) (v := (.pointer (some ⟨g_382, 0, none⟩))) hs18 ?_
                    refine .ld (d := 24) (v := (.int .i64 i_400)) hs24 ?_
                    refine .ld (d := 4) (v := (.pointer (some ⟨g_6, 0, none⟩))) hs4 ?_
                    refine .ld (d := 6) (v := (.pointer (some ⟨g_27, 0, none⟩))) hs6 ?_
                    refine .ld (d := 7) (v := (.int .i64 r_36.1)) hs7 ?_
                    refine .ld (d := 1000000) (v := (enc (D_396 :: (D_381 :: [])))) hs1000000 ?_
                    clear hs18 hs24 hs4 hs6 hs7 hs1000000
                    cases n_397 with
                    | zero => rw [m_credencelaw10_walked_int_L8.eq_1] at hm; cases hm
                    | succ n_397 =>
                      rw [m_credencelaw10_walked_int_L8.eq_2] at hm
                      refine wseq ?_
                      refine wseq ?_
                      refine wregion ?_
                      refine lv (v := (.int .i64 i_400)) rfl rfl (r_move rfl) ?_
                      refine lv (v := (.slice a_390 all_389.length cap_391)) rfl rfl (r_ld Try.isAgg42 rfl hb_386.at1) ?_
                      refine lv (v := (.int .i64 (all_389.length : Int))) rfl rfl (r_len Try.underlying42 rfl) ?_
                      refine lv (v := (.bool (decide (i_400 < (all_389.length : Int))))) rfl rfl (r_lss i_400 (all_389.length : Int) rfl rfl) ?_
                      refine lnil ?_
                      refine wcond (decide (i_400 < (all_389.length : Int))) rfl (fun hb => ?_) (fun hb => ?_)
                      · rw [if_pos hb] at hm
                        clear hb
                        refine wskip ?_
                        refine wseq ?_
                        refine wblock ?_
                        refine wseq ?_
                        refine wregion ?_
                        refine lv (v := (.slice ra_21 r_19.length rc_22)) rfl rfl (r_ld Try.isAgg22 rfl hb_35.at1) ?_
                        refine lv (v := (.int .i64 i_400)) rfl rfl (r_move rfl) ?_
                        obtain ⟨r_402, hr_403, hm⟩ := bind_some hm
                        refine lc rfl rfl (r_call2 Try.call14 rfl rfl) (c_credenceref10_Digits N 21 (frC 4 col_399) _ ra_21 rc_22 r_19 i_400 (rh_23.toSlF (Froz.int .i64)) r_402 hr_403) ?_
                        rintro _ w_407 ⟨col_409, ra_404, rc_405, rfl, hg_408, rh_406⟩
                        refine ⟨_, rfl, ?_⟩
                        replace rh_406 := rh_406.thaw (flat_int .i64) hg_408 ((Fz.refl (col := col_399)).froz 4) (by decide)
                        replace hg_408 := hg_408.thawR (col := col_399)
                        generalize colR w_398.heap.size col_399 col_409 = col_410 at *
                        replace h_392 := h_392.gr hg_408
                        replace rh_23 := rh_23.gr hg_408
                        replace hb_386 := hb_386.gr hg_408
                        replace hb_10 := hb_10.gr hg_408
                        replace hb_35 := hb_35.gr hg_408
                        replace hmk := hmk.gr hg_408
                        replace hst := hst.grow hg_408
                        refine lv (v := (.tuple #[(.slice ra_404 r_402.1.length rc_405), (.int .i64 r_402.2)])) rfl rfl (r_move rfl) ?_
                        refine lv (v := (.slice ra_404 r_402.1.length rc_405)) rfl rfl (r_extract rfl rfl) ?_
                        refine lv (v := (.int .i64 r_402.2)) rfl rfl (r_extract rfl rfl) ?_
                        refine lv (v := (.slice ra_404 r_402.1.length rc_405)) rfl rfl (r_assign rfl) ?_
                        refine lv (v := (.int .i64 r_402.2)) rfl rfl (r_assign rfl) ?_
                        refine lnil ?_
                        refine wseq ?_
                        refine wregion ?_
                        refine lv (v := (.slice a_390 all_389.length cap_391)) rfl rfl (r_ld Try.isAgg42 rfl hb_386.at1) ?_
                        refine lv (v := (.int .i64 i_400)) rfl rfl (r_move rfl) ?_
                        obtain ⟨e_411, hj_412, hm⟩ := bind_some hm
                        refine lv (v := (sptr a_390 (Int.toNat i_400 * 1))) rfl rfl (r_idx Try.underlying42 Try.sizeOf22 rfl rfl (at?_some hj_412).1 (at?_some hj_412).2.1 (h_392.addr hj_412)) ?_
                        obtain ⟨_, hr_413, hA_414⟩ := h_392.atN hj_412
                        obtain ⟨_, hr_413, _⟩ := hr_413
                        obtain ⟨x_415, ho_416, hm⟩ := bind_some hm
                        rw [ho_416] at hr_413
                        obtain ⟨a_417, cap_418, rfl, h_419⟩ := rd_opt hr_413
                        refine lv (v := (.slice a_417 x_415.length cap_418)) rfl rfl (r_ld Try.isAgg22 rfl hA_414.one) ?_
                        refine lv (v := (.slice ra_404 r_402.1.length rc_405)) rfl rfl (r_move rfl) ?_
                        obtain ⟨r_420, hr_421, hm⟩ := bind_some hm
                        refine lc rfl rfl (r_call2 Try.call15 rfl rfl) (c_credencelaw10_same_int N (frC 21 col_410) _ a_417 cap_418 x_415 ra_404 rc_405 r_402.1 (h_419.froz 21) (rh_406.toSlF (Froz.int .i64)) r_420 hr_421) ?_
                        rintro _ w_422 ⟨rfl, hg_423⟩
                        refine ⟨_, rfl, ?_⟩
                        replace hg_423 : Grow col_410 w_407 col_410 w_422 := .of_below hg_423
                        replace h_392 := h_392.gr hg_423
                        replace rh_23 := rh_23.gr hg_423
                        replace h_419 := h_419.gr hg_423
                        replace rh_406 := rh_406.gr hg_423
                        replace hb_386 := hb_386.gr hg_423
                        replace hb_10 := hb_10.gr hg_423
                        replace hb_35 := hb_35.gr hg_423
                        replace hmk := hmk.gr hg_423
                        replace hst := hst.grow hg_423
                        refine lv (v := (.bool r_420)) rfl rfl (r_assign rfl) ?_
                        refine lnil ?_
                        refine wseq ?_
                        refine wregion ?_
                        refine lv (v := (.bool r_420)) rfl rfl (r_move rfl) ?_
                        refine lv (v := (.bool (!r_420))) rfl rfl (r_not r_420 rfl) ?_
                        refine lnil ?_
                        refine wcond (!r_420) rfl (fun hb => ?_) (fun hb => ?_)
                        · rw [if_pos hb] at hm
                          clear hb
                          refine wseq ?_
                          refine wregion ?_
                          refine l_bstore (v := (.bool false)) hb_10 Try.sizeOf4 rfl rfl (by intro u hu; simp only [Value.cells, List.mem_cons, List.not_mem_nil, or_false] at hu; subst hu; rfl) rfl rfl ?_
                          intro w_424 hk_425 hs_426 hb_427
                          replace h_392 := h_392.kp hk_425 (by decide) (by decide)
                          replace rh_23 := rh_23.kp hk_425 (by decide) (by decide)
                          replace hb_386 := hb_386.kp hk_425 (by decide)
                          replace hb_35 := hb_35.kp hk_425 (by decide)
                          replace hmk := hmk.kp hk_425 (by decide)
                          replace hst := hst.kp hk_425 hs_426 (by decide) (by decide)
                          clear hb_10
                          replace hb_427 : Box 4 2 col_410 w_424 g_6 #[(.bool false)] := hb_427
                          refine lnil ?_
                          refine wret ?_
                          cases hm
                          refine ⟨_, (D_396 :: (D_381 :: [])), rfl, hmk, ?_⟩
                          intro w_428 hk_429 hs_430
                          clear hmk
                          replace hb_427 := hb_427.kp hk_429 (by decide)
                          replace hst := hst.kp hk_429 hs_430 (by decide) (by decide)
                          exact ⟨_, res_cell1 rfl rfl Try.isAgg4 rfl hb_427.at1, rfl, hst.below⟩
                        · rw [if_neg (by rw [hb]; decide)] at hm
                          clear hb
                          refine wskip ?_
                          refine wregion ?_
                          refine lv (v := (.int .i64 i_400)) rfl rfl (r_move rfl) ?_
                          refine lv (v := (.int .i64 (IntKind.i64.wrap (i_400 + 2)))) rfl rfl (r_add i_400 2 rfl rfl) ?_
                          refine lv (v := (.int .i64 (IntKind.i64.wrap (i_400 + 2)))) rfl rfl (r_assign rfl) ?_
                          refine lnil ?_
                          exact ⟨n_397, by omega, ⟨col_410, (IntKind.i64.wrap (i_400 + 2)), v_401, n_397, rfl, hm, hst, h_392, hb_386, hb_10, rh_23, hb_35, hmk, rfl, rfl, rfl, rfl, rfl, rfl⟩⟩
                      · rw [if_neg (by rw [hb]; decide)] at hm
                        clear hb
                        refine wexit (inB_hit ?_)
                        refine wseq ?_
                        refine wregion ?_
                        refine lv (v := (.slice a_390 all_389.length cap_391)) rfl rfl (r_ld Try.isAgg42 rfl hb_386.at1) ?_
                        refine lv (v := (.int .i64 (all_389.length : Int))) rfl rfl (r_len Try.underlying42 rfl) ?_
                        refine lv (v := (.int .i64 r_36.1)) rfl rfl (r_move rfl) ?_
                        refine lv (v := (.bool (decide ((all_389.length : Int) = r_36.1)))) rfl rfl (r_eql (all_389.length : Int) r_36.1 rfl rfl) ?_
                        refine l_bstore (v := (.bool (decide ((all_389.length : Int) = r_36.1)))) hb_10 Try.sizeOf4 rfl rfl (by intro u hu; simp only [Value.cells, List.mem_cons, List.not_mem_nil, or_false] at hu; subst hu; rfl) rfl rfl ?_
                        intro w_431 hk_432 hs_433 hb_434
                        replace hmk := hmk.kp hk_432 (by decide)
                        replace hst := hst.kp hk_432 hs_433 (by decide) (by decide)
                        clear hb_10
                        replace hb_434 : Box 4 2 col_399 w_431 g_6 #[(.bool (decide ((all_389.length : Int) = r_36.1)))] := hb_434
                        refine lnil ?_
                        refine wret ?_
                        cases hm
                        refine ⟨_, (D_396 :: (D_381 :: [])), rfl, hmk, ?_⟩
                        intro w_435 hk_436 hs_437
                        clear hmk
                        replace hb_434 := hb_434.kp hk_436 (by decide)
                        replace hst := hst.kp hk_436 hs_437 (by decide) (by decide)
                        exact ⟨_, res_cell1 rfl rfl Try.isAgg4 rfl hb_434.at1, rfl, hst.below⟩
                  · clear hmk
                    intro c_ D_444 col_388 w_387 hX hmk
                    obtain ⟨rfl, hX⟩ := hX
                    obtain ⟨a_390, cap_391, all_389, v_393, hm, hst, h_392, hb_386, hb_10, rh_23, hb_35⟩ := hX
                    rw [m_credencelaw10_walked_int_L7_Xret.eq_1] at hm
                    refine wret ?_
                    cases hm
                    refine ⟨_, (D_444 :: (D_381 :: [])), rfl, hmk, ?_⟩
                    intro w_445 hk_446 hs_447
                    clear hmk
                    replace hb_10 := hb_10.kp hk_446 (by decide)
                    replace hst := hst.kp hk_446 hs_447 (by decide) (by decide)
                    exact ⟨_, res_cell1 rfl rfl Try.isAgg4 rfl hb_10.at1, rfl, hst.below⟩
                · obtain ⟨k_197, v_198, hm, hst, hb_194, hb_5, hb_10, rh_23, hb_35, rh_52⟩ := hX
                  rw [m_credencelaw10_walked_int_L3_Xret.eq_1] at hm
                  refine wret ?_
                  cases hm
                  refine ⟨_, (D_381 :: []), rfl, hmk, ?_⟩
                  intro w_556 hk_557 hs_558
                  clear hmk
                  replace hb_10 := hb_10.kp hk_557 (by decide)
                  replace hst := hst.kp hk_557 hs_558 (by decide) (by decide)
                  exact ⟨_, res_cell1 rfl rfl Try.isAgg4 rfl hb_10.at1, rfl, hst.below⟩
          · refine wregion ?_
            refine lv (v := (.int .i64 r_36.2)) rfl rfl (r_ld Try.isAgg33 rfl hb_48.at1) ?_
            refine lv (v := (.bool (!decide (r_36.2 = 0)))) rfl rfl (r_neq r_36.2 0 rfl rfl) ?_
            refine lv (v := (.bool (!decide (r_36.2 = 0)))) rfl rfl (r_move rfl) ?_
            by_cases hg_571 : (!decide (r_36.2 = 0)) = true
            · rw [if_pos hg_571] at hm
              refine lp (b := !decide (r_36.2 = 0)) 58 rfl rfl rfl rfl (by rw [hg_571]; rfl) ?_
              refine lp (b := !decide (r_36.2 = 0)) 58 rfl rfl rfl rfl (by rw [hg_571]; rfl) ?_
              refine lv (v := (.bool true)) rfl rfl (r_pickT (congrArg Value.bool hg_571) rfl) ?_
              refine lnil ?_
              exact ⟨col_73, true, hm, hst, hb_5, hb_10, rh_23, hb_35, hb_48, rh_52, hmk, rfl, rfl, rfl, rfl, rfl, rfl, rfl, rfl⟩
            · rw [if_neg hg_571] at hm
              replace hg_571 := Bool.eq_false_iff.2 hg_571
              refine lg (b := !decide (r_36.2 = 0)) 58 rfl rfl rfl (by rw [hg_571]; rfl) ?_
              refine lv (v := (.int .i64 r_36.1)) rfl rfl (r_move rfl) ?_
              refine lg (b := !decide (r_36.2 = 0)) 58 rfl rfl rfl (by rw [hg_571]; rfl) ?_
              refine lv (v := (.bool (decide (2000 < r_36.1)))) rfl rfl (r_gtr r_36.1 2000 rfl rfl) ?_
              refine lv (v := (.bool (decide (2000 < r_36.1)))) rfl rfl (r_pickF (congrArg Value.bool hg_571) rfl) ?_
              refine lnil ?_
              exact ⟨col_73, (decide (2000 < r_36.1)), hm, hst, hb_5, hb_10, rh_23, hb_35, hb_48, rh_52, hmk, rfl, rfl, rfl, rfl, rfl, rfl, rfl, rfl⟩
  · refine wregion ?_
    refine lv (v := rv_51) rfl rfl (r_move rfl) ?_
    refine lv (v := (.bool false)) rfl rfl (r_eqlNilF rh_52 ⟨_, _, _, Try.underlying37⟩ rfl) ?_
    refine lv (v := (.bool false)) rfl rfl (r_move rfl) ?_
    refine lg (b := false) 41 rfl rfl rfl rfl ?_
    refine lv (v := (.slice ra_13 ((r_11.2.take r_11.1).length) rc_14)) rfl rfl (r_move rfl) ?_
    refine lg (b := false) 41 rfl rfl rfl rfl ?_
    refine lv (v := (.slice a0 p0_sizes.length cap0)) rfl rfl (r_move rfl) ?_
    refine lg (b := false) 41 rfl rfl rfl rfl ?_
    obtain ⟨r_572, hr_573, hm⟩ := bind_some hm
    refine lc rfl rfl (r_call2 Try.call13 rfl rfl) (c_credencelaw10_kept_int N (frC 3 col_56) _ ra_13 rc_14 r_11.1 r_11.2 a0 cap0 p0_sizes (rh_15.toSlF (Froz.int .i64)) (h0.froz 3) r_572 hr_573) ?_
    rintro _ w_574 ⟨rfl, hg_575⟩
    refine ⟨_, rfl, ?_⟩
    replace hg_575 : Grow col_56 w_53 col_56 w_574 := .of_below hg_575
    replace rh_15 := rh_15.gr hg_575
    replace rh_23 := rh_23.gr hg_575
    replace rh_52 := rh_52.gr hg_575
    replace h0 := h0.gr hg_575
    replace hb_5 := hb_5.gr hg_575
    replace hb_10 := hb_10.gr hg_575
    replace hb_35 := hb_35.gr hg_575
    replace hb_48 := hb_48.gr hg_575
    replace hmk := hmk.gr hg_575
    replace hst := hst.grow hg_575
    refine lg (b := false) 41 rfl rfl rfl rfl ?_
    refine lv (v := (.bool (!r_572))) rfl rfl (r_not r_572 rfl) ?_
    refine lv (v := (.bool (!r_572))) rfl rfl (r_pickF rfl rfl) ?_
    refine lnil ?_
    exact ⟨col_56, (!r_572), hm, hst, hb_5, hb_10, rh_15, rh_23, hb_35, hb_48, rh_52, hmk, rfl, rfl, rfl, rfl, rfl, rfl, rfl, rfl, rfl⟩



theorem el21_6 : ElemOk Try.prog 21 1 4 := ⟨Try.t21, _, rfl, rfl, rfl, rfl, rfl⟩

def m_credencelaw10_narrow_L1 (N : Nat) (p0_l : (List Int)) : Nat → (List Int) → Int → Option (List Int)
  | 0, _, _ => none
  | n_1 + 1, out_4, i_8 => if (decide (i_8 < (p0_l.length : Int))) = true then ((at? p0_l i_8).bind fun e_9 => chk ((out_4.length + [IntKind.i32.wrap e_9].length) * 4 ≤ 140737488355328 ∧ out_4.length + [IntKind.i32.wrap e_9].length ≤ maxLen) ((m_credencelaw10_narrow_L1 N p0_l n_1) (out_4 ++ [IntKind.i32.wrap e_9]) (IntKind.i64.wrap (i_8 + 1)))) else (some out_4)

def m_credencelaw10_narrow (N : Nat) (p0_l : (List Int)) : Option (List Int) :=
  m_credencelaw10_narrow_L1 N p0_l N ([] : List Int) 0

set_option maxRecDepth 100000 in
theorem c_credencelaw10_narrow (N : Nat) (c1 : Nat) (col : Col) (w0 : World) (a0 : Option Addr) (cap0 : Nat) (p0_l : (List Int)) (h0 : Sl (Rep.int .i64) col w0 a0 cap0 p0_l) (r : (List Int)) (hm : m_credencelaw10_narrow N p0_l = some r) :
    Calls Try.prog 6 #[(.slice a0 p0_l.length cap0)] w0 (fun e w' => ∃ (col' : Col) (ra1 : Option Addr) (rc2 : Nat), e = .returned ((.slice ra1 r.length rc2)) ∧ Grow col w0 col' w' ∧ Own (Rep.int .i32) 21 c1 col' w' ra1 rc2 r) := by
  refine calls_of1 2 (m := 20) (args := [(.slice a0 p0_l.length cap0)]) Try.func6 rfl rfl rfl rfl rfl ?_
  rw [m_credencelaw10_narrow.eq_1] at hm
  have hst := St.start col w0
  replace h0 := h0.keep (Stay.start col w0)
  refine wseq ?_
  refine wregion ?_
  refine lv (v := (.slice none (([] : List Int).length) 0)) rfl rfl (r_assign rfl) ?_
  refine lnil ?_
  refine wseq ?_
  refine wregion ?_
  refine lv (v := (.slice none (([] : List Int).length) 0)) rfl rfl (r_assign rfl) ?_
  refine lnil ?_
  refine wseq ?_
  refine wseq ?_
  refine wregion ?_
  refine lv (v := (.int .i64 0)) rfl rfl (r_assign rfl) ?_
  refine lnil ?_
  refine wblock ?_
  refine wloop (fun n f w_2 => ∃ (col_3 : Col) (a_5 : Option Addr) (cap_6 : Nat) (out_4 : List Int) (i_8 : Int) (n_1 : Nat), n_1 = n ∧ m_credencelaw10_narrow_L1 N p0_l n_1 out_4 i_8 = some r ∧ St w0 (col0 col) col_3 w_2 ∧ Sl (Rep.int .i64) col_3 w_2 a0 cap0 p0_l ∧ Own (Rep.int .i32) 21 1 col_3 w_2 a_5 cap_6 out_4 ∧ f 0 = (.slice a0 p0_l.length cap0) ∧ f 3 = (.slice a_5 out_4.length cap_6) ∧ f 4 = (.int .i64 i_8) ∧ f 1000000 = (enc [])) N ⟨(col0 col), none, 0, ([] : List Int), 0, N, rfl, hm, hst, h0, Own.nil, rfl, rfl, rfl, rfl⟩ ?_
  clear hm; intro n f w_2 hI
  obtain ⟨col_3, a_5, cap_6, out_4, i_8, n_1, hn, hm, hst, h0, h_7, hs0, hs3, hs4, hs1000000⟩ := hI
  subst hn
  refine .ld (d := 0) (v := (.slice a0 p0_l.length cap0)) hs0 ?_
  refine .ld (d := 3) (v := (.slice a_5 out_4.length cap_6)) hs3 ?_
  refine .ld (d := 4) (v := (.int .i64 i_8)) hs4 ?_
  refine .ld (d := 1000000) (v := (enc [])) hs1000000 ?_
  clear hs0 hs3 hs4 hs1000000
  cases n_1 with
  | zero => rw [m_credencelaw10_narrow_L1.eq_1] at hm; cases hm
  | succ n_1 =>
    rw [m_credencelaw10_narrow_L1.eq_2] at hm
    refine wseq ?_
    refine wseq ?_
    refine wregion ?_
    refine lv (v := (.int .i64 i_8)) rfl rfl (r_move rfl) ?_
    refine lv (v := (.slice a0 p0_l.length cap0)) rfl rfl (r_move rfl) ?_
    refine lv (v := (.int .i64 (p0_l.length : Int))) rfl rfl (r_len Try.underlying22 rfl) ?_
    refine lv (v := (.bool (decide (i_8 < (p0_l.length : Int))))) rfl rfl (r_lss i_8 (p0_l.length : Int) rfl rfl) ?_
    refine lnil ?_
    refine wcond (decide (i_8 < (p0_l.length : Int))) rfl (fun hb => ?_) (fun hb => ?_)
    · rw [if_pos hb] at hm
      clear hb
      refine wskip ?_
      refine wseq ?_
      refine wblock ?_
      refine wregion ?_
      refine lv (v := (.slice a_5 out_4.length cap_6)) rfl rfl (r_move rfl) ?_
      refine lv (v := (.slice a0 p0_l.length cap0)) rfl rfl (r_move rfl) ?_
      refine lv (v := (.int .i64 i_8)) rfl rfl (r_move rfl) ?_
      obtain ⟨e_9, hj_10, hm⟩ := bind_some hm
      refine lv (v := (sptr a0 (Int.toNat i_8 * 1))) rfl rfl (r_idx Try.underlying22 Try.sizeOf3 rfl rfl (at?_some hj_10).1 (at?_some hj_10).2.1 (h0.addr hj_10)) ?_
      refine lv (v := (.int .i64 e_9)) rfl rfl (r_ld Try.isAgg3 rfl (h0.atInt hj_10)) ?_
      refine lv (v := (.int .i32 (IntKind.i32.wrap e_9))) rfl rfl (r_conv e_9 ⟨_, Try.underlying3⟩ Try.underlying21 rfl) ?_
      refine l_lit (col := col_3) (r := (Rep.int .i32)) (xs := [IntKind.i32.wrap e_9]) [(.int .i32 (IntKind.i32.wrap e_9))] 2 rfl Try.underlying25 el21_6 rfl rfl rfl rfl rfl rfl (by intro v hv; simp only [List.mem_cons, List.not_mem_nil, or_false] at hv; subst hv; rfl) (RowsH.ofF (Rows.consF (r := (Rep.int .i32)) (x := IntKind.i32.wrap e_9) (cs := [(.int .i32 (IntKind.i32.wrap e_9))]) (rd_int .i32 (IntKind.i32.wrap e_9)) Rows.nil0)) ?_
      intro a_11 w_12 col_13 hg_14 h_15
      replace h0 := h0.gr hg_14
      replace h_7 := h_7.gr hg_14
      replace hst := hst.grow hg_14
      obtain ⟨hb_16, hm⟩ := chk_some hm
      refine l_appendM (col := col_13) (w := w_12) (r := (Rep.int .i32)) (c := 1) (c2 := 1) (xs := out_4) (ys := [IntKind.i32.wrap e_9]) h_7 (h_15.srcN (NB.int (k := .i32))) rfl Try.underlying25 el21_6 rfl rfl rfl hb_16.1 hb_16.2 (by decide) ?_
      intro a_17 cap_18 w_19 col_20 hk_21 h_22
      replace h0 := h0.kpp hk_21 rfl
      replace h_15 := h_15.kpp hk_21 rfl rfl
      replace hst := hst.kpp hk_21 rfl rfl
      clear h_7
      refine lv (v := (.slice a_17 ((out_4 ++ [IntKind.i32.wrap e_9]).length) cap_18)) rfl rfl (r_assign rfl) ?_
      refine lnil ?_
      refine wregion ?_
      refine lv (v := (.int .i64 i_8)) rfl rfl (r_move rfl) ?_
      refine lv (v := (.int .i64 (IntKind.i64.wrap (i_8 + 1)))) rfl rfl (r_add i_8 1 rfl rfl) ?_
      refine lv (v := (.int .i64 (IntKind.i64.wrap (i_8 + 1)))) rfl rfl (r_assign rfl) ?_
      refine lnil ?_
      exact ⟨n_1, by omega, ⟨col_20, a_17, cap_18, (out_4 ++ [IntKind.i32.wrap e_9]), (IntKind.i64.wrap (i_8 + 1)), n_1, rfl, hm, hst, h0, h_22, rfl, rfl, rfl, rfl⟩⟩
    · rw [if_neg (by rw [hb]; decide)] at hm
      clear hb
      refine wexit (inB_hit ?_)
      refine wseq ?_
      refine wregion ?_
      refine lv (v := (.slice a_5 out_4.length cap_6)) rfl rfl (r_move rfl) ?_
      refine lv (v := (.slice a_5 out_4.length cap_6)) rfl rfl (r_assign rfl) ?_
      refine lnil ?_
      refine wret ?_
      cases hm
      exact ⟨rfl, colF w0.heap.size col col_3 (fun n => bif Nat.beq n 1 then c1 else 0), a_5, cap_6, rfl, hst.fin (fun n => bif Nat.beq n 1 then c1 else 0), hst.finOwn (g := (fun n => bif Nat.beq n 1 then c1 else 0)) rfl h_7 (by decide) (by decide) rfl⟩



theorem el21_16 : ElemOk Try.prog 21 1 4 := ⟨Try.t21, _, rfl, rfl, rfl, rfl, rfl⟩

def m_credencelaw10_roomy_int32_L1 (N : Nat) (p0_l : (List Int)) : Nat → (List Int) → Int → Option (Nat × (List Int))
  | 0, _, _ => none
  | n_8 + 1, m_11, i_15 => if (decide (i_15 < 5)) = true then (chk ((m_11.length + [77].length) * 4 ≤ 140737488355328 ∧ m_11.length + [77].length ≤ maxLen) ((m_credencelaw10_roomy_int32_L1 N p0_l n_8) (m_11 ++ [77]) (IntKind.i64.wrap (i_15 + 1)))) else (chk ((0 : Int) ≤ (p0_l.length : Int) ∧ (p0_l.length : Int) ≤ (m_11.length : Int)) (some ((Int.toNat (p0_l.length : Int)), m_11)))

def m_credencelaw10_roomy_int32 (N : Nat) (p0_l : (List Int)) : Option (Nat × (List Int)) :=
  chk ((([] : List Int).length + p0_l.length) * 4 ≤ 140737488355328 ∧ ([] : List Int).length + p0_l.length ≤ maxLen) (m_credencelaw10_roomy_int32_L1 N p0_l N (([] : List Int) ++ p0_l) 0)

set_option maxRecDepth 100000 in
theorem c_credencelaw10_roomy_int32 (N : Nat) (c1 : Nat) (col : Col) (w0 : World) (a0 : Option Addr) (cap0 : Nat) (p0_l : (List Int)) (h0 : Sl (Rep.int .i32) col w0 a0 cap0 p0_l) (r : (Nat × (List Int))) (hm : m_credencelaw10_roomy_int32 N p0_l = some r) :
    Calls Try.prog 16 #[(.slice a0 p0_l.length cap0)] w0 (fun e w' => ∃ (col' : Col) (ra1 : Option Addr) (rc2 : Nat), e = .returned ((.slice ra1 ((r.2.take r.1).length) rc2)) ∧ Grow col w0 col' w' ∧ Own (Rep.int .i32) 21 c1 col' w' ra1 rc2 r.2) := by
  refine calls_of1 2 (m := 19) (args := [(.slice a0 p0_l.length cap0)]) Try.func16 rfl rfl rfl rfl rfl ?_
  rw [m_credencelaw10_roomy_int32.eq_1] at hm
  have hst := St.start col w0
  replace h0 := h0.keep (Stay.start col w0)
  refine wseq ?_
  refine wregion ?_
  refine lv (v := (.slice none (([] : List Int).length) 0)) rfl rfl (r_assign rfl) ?_
  refine lnil ?_
  refine wseq ?_
  refine wregion ?_
  refine lv (v := (.slice none (([] : List Int).length) 0)) rfl rfl (r_assign rfl) ?_
  refine lnil ?_
  refine wseq ?_
  refine wregion ?_
  refine lv (v := (.slice none (([] : List Int).length) 0)) rfl rfl (r_move rfl) ?_
  refine lv (v := (.slice a0 p0_l.length cap0)) rfl rfl (r_move rfl) ?_
  obtain ⟨hb_1, hm⟩ := chk_some hm
  refine l_appendM (col := (col0 col)) (w := w0) (r := (Rep.int .i32)) (c := 1) (c2 := 1) (xs := ([] : List Int)) (ys := p0_l) Own.nil h0.srcC rfl Try.underlying25 el21_16 rfl rfl rfl hb_1.1 hb_1.2 (by decide) ?_
  intro a_2 cap_3 w_4 col_5 hk_6 h_7
  replace h0 := h0.kpp hk_6 rfl
  replace hst := hst.kpp hk_6 rfl rfl
  refine lv (v := (.slice a_2 ((([] : List Int) ++ p0_l).length) cap_3)) rfl rfl (r_assign rfl) ?_
  refine lnil ?_
  refine wseq ?_
  refine wseq ?_
  refine wregion ?_
  refine lv (v := (.int .i64 0)) rfl rfl (r_assign rfl) ?_
  refine lnil ?_
  refine wblock ?_
  refine wloop (fun n f w_9 => ∃ (col_10 : Col) (a_12 : Option Addr) (cap_13 : Nat) (m_11 : List Int) (i_15 : Int) (n_8 : Nat), n_8 = n ∧ m_credencelaw10_roomy_int32_L1 N p0_l n_8 m_11 i_15 = some r ∧ St w0 (col0 col) col_10 w_9 ∧ Sl (Rep.int .i32) col_10 w_9 a0 cap0 p0_l ∧ Own (Rep.int .i32) 21 1 col_10 w_9 a_12 cap_13 m_11 ∧ f 0 = (.slice a0 p0_l.length cap0) ∧ f 3 = (.slice a_12 m_11.length cap_13) ∧ f 4 = (.int .i64 i_15) ∧ f 1000000 = (enc [])) N ⟨col_5, a_2, cap_3, (([] : List Int) ++ p0_l), 0, N, rfl, hm, hst, h0, h_7, rfl, rfl, rfl, rfl⟩ ?_
  clear hm; intro n f w_9 hI
  obtain ⟨col_10, a_12, cap_13, m_11, i_15, n_8, hn, hm, hst, h0, h_14, hs0, hs3, hs4, hs1000000⟩ := hI
  subst hn
  refine .ld (d := 0) (v := (.slice a0 p0_l.length cap0)) hs0 ?_
  refine .ld (d := 3) (v := (.slice a_12 m_11.length cap_13)) hs3 ?_
  refine .ld (d := 4) (v := (.int .i64 i_15)) hs4 ?_
  refine .ld (d := 1000000) (v := (enc [])) hs1000000 ?_
  clear hs0 hs3 hs4 hs1000000
  cases n_8 with
  | zero => rw [m_credencelaw10_roomy_int32_L1.eq_1] at hm; cases hm
  | succ n_8 =>
    rw [m_credencelaw10_roomy_int32_L1.eq_2] at hm
    refine wseq ?_
    refine wseq ?_
    refine wregion ?_
    refine lv (v := (.int .i64 i_15)) rfl rfl (r_move rfl) ?_
    refine lv (v := (.bool (decide (i_15 < 5)))) rfl rfl (r_lss i_15 5 rfl rfl) ?_
    refine lnil ?_
    refine wcond (decide (i_15 < 5)) rfl (fun hb => ?_) (fun hb => ?_)
    · rw [if_pos hb] at hm
      clear hb
      refine wskip ?_
      refine wseq ?_
      refine wblock ?_
      refine wregion ?_
      refine lv (v := (.slice a_12 m_11.length cap_13)) rfl rfl (r_move rfl) ?_
      refine l_lit (col := col_10) (r := (Rep.int .i32)) (xs := [77]) [(.int .i32 77)] 2 rfl Try.underlying25 el21_16 rfl rfl rfl rfl rfl rfl (by intro v hv; simp only [List.mem_cons, List.not_mem_nil, or_false] at hv; subst hv; rfl) (RowsH.ofF (Rows.consF (r := (Rep.int .i32)) (x := 77) (cs := [(.int .i32 77)]) (rd_int .i32 77) Rows.nil0)) ?_
      intro a_16 w_17 col_18 hg_19 h_20
      replace h0 := h0.gr hg_19
      replace h_14 := h_14.gr hg_19
      replace hst := hst.grow hg_19
      obtain ⟨hb_21, hm⟩ := chk_some hm
      refine l_appendM (col := col_18) (w := w_17) (r := (Rep.int .i32)) (c := 1) (c2 := 1) (xs := m_11) (ys := [77]) h_14 (h_20.srcN (NB.int (k := .i32))) rfl Try.underlying25 el21_16 rfl rfl rfl hb_21.1 hb_21.2 (by decide) ?_
      intro a_22 cap_23 w_24 col_25 hk_26 h_27
      replace h0 := h0.kpp hk_26 rfl
      replace h_20 := h_20.kpp hk_26 rfl rfl
      replace hst := hst.kpp hk_26 rfl rfl
      clear h_14
      refine lv (v := (.slice a_22 ((m_11 ++ [77]).length) cap_23)) rfl rfl (r_assign rfl) ?_
      refine lnil ?_
      refine wregion ?_
      refine lv (v := (.int .i64 i_15)) rfl rfl (r_move rfl) ?_
      refine lv (v := (.int .i64 (IntKind.i64.wrap (i_15 + 1)))) rfl rfl (r_add i_15 1 rfl rfl) ?_
      refine lv (v := (.int .i64 (IntKind.i64.wrap (i_15 + 1)))) rfl rfl (r_assign rfl) ?_
      refine lnil ?_
      exact ⟨n_8, by omega, ⟨col_25, a_22, cap_23, (m_11 ++ [77]), (IntKind.i64.wrap (i_15 + 1)), n_8, rfl, hm, hst, h0, h_27, rfl, rfl, rfl, rfl⟩⟩
    · rw [if_neg (by rw [hb]; decide)] at hm
      clear hb
      refine wexit (inB_hit ?_)
      refine wseq ?_
      refine wregion ?_
      refine lv (v := (.slice a_12 m_11.length cap_13)) rfl rfl (r_move rfl) ?_
      refine lv (v := (.slice a0 p0_l.length cap0)) rfl rfl (r_move rfl) ?_
      refine lv (v := (.int .i64 (p0_l.length : Int))) rfl rfl (r_len Try.underlying25 rfl) ?_
      obtain ⟨hb_28, hm⟩ := chk_some hm
      refine lv (v := .slice a_12 (Int.toNat (p0_l.length : Int)) cap_13) rfl rfl (r_sliceH Try.underlying25 Try.sizeOf21 rfl rfl hb_28.1 (by have := h_14.lecap; have := hb_28.2; omega)) ?_
      refine .ld (d := 18) (v := (.slice a_12 ((m_11.take (Int.toNat (p0_l.length : Int))).length) cap_13)) (congrArg (fun n => Value.slice a_12 n cap_13) (List.length_take_of_le (show (Int.toNat (p0_l.length : Int)) ≤ m_11.length by have := hb_28.2; omega)).symm) ?_
      refine lv (v := (.slice a_12 ((m_11.take (Int.toNat (p0_l.length : Int))).length) cap_13)) rfl rfl (r_assign rfl) ?_
      refine lnil ?_
      refine wret ?_
      cases hm
      exact ⟨rfl, colF w0.heap.size col col_10 (fun n => bif Nat.beq n 1 then c1 else 0), a_12, cap_13, rfl, hst.fin (fun n => bif Nat.beq n 1 then c1 else 0), hst.finOwn (g := (fun n => bif Nat.beq n 1 then c1 else 0)) rfl h_14 (by decide) (by decide) rfl⟩



theorem el3_17 : ElemOk Try.prog 3 1 8 := ⟨Try.t3, _, rfl, rfl, rfl, rfl, rfl⟩

def m_credencelaw10_plain_int32_L1 (N : Nat) (p0_l : (List Int)) : Nat → (List Int) → Int → Option (List Int)
  | 0, _, _ => none
  | n_1 + 1, out_4, i_8 => if (decide (i_8 < (p0_l.length : Int))) = true then ((at? p0_l i_8).bind fun e_9 => chk ((out_4.length + [IntKind.i64.wrap e_9].length) * 8 ≤ 140737488355328 ∧ out_4.length + [IntKind.i64.wrap e_9].length ≤ maxLen) ((m_credencelaw10_plain_int32_L1 N p0_l n_1) (out_4 ++ [IntKind.i64.wrap e_9]) (IntKind.i64.wrap (i_8 + 1)))) else (some out_4)

def m_credencelaw10_plain_int32 (N : Nat) (p0_l : (List Int)) : Option (List Int) :=
  m_credencelaw10_plain_int32_L1 N p0_l N ([] : List Int) 0

set_option maxRecDepth 100000 in
theorem c_credencelaw10_plain_int32 (N : Nat) (c1 : Nat) (col : Col) (w0 : World) (a0 : Option Addr) (cap0 : Nat) (p0_l : (List Int)) (h0 : Sl (Rep.int .i32) col w0 a0 cap0 p0_l) (r : (List Int)) (hm : m_credencelaw10_plain_int32 N p0_l = some r) :
    Calls Try.prog 17 #[(.slice a0 p0_l.length cap0)] w0 (fun e w' => ∃ (col' : Col) (ra1 : Option Addr) (rc2 : Nat), e = .returned ((.slice ra1 r.length rc2)) ∧ Grow col w0 col' w' ∧ Own (Rep.int .i64) 3 c1 col' w' ra1 rc2 r) := by
  refine calls_of1 2 (m := 20) (args := [(.slice a0 p0_l.length cap0)]) Try.func17 rfl rfl rfl rfl rfl ?_
  rw [m_credencelaw10_plain_int32.eq_1] at hm
  have hst := St.start col w0
  replace h0 := h0.keep (Stay.start col w0)
  refine wseq ?_
  refine wregion ?_
  refine lv (v := (.slice none (([] : List Int).length) 0)) rfl rfl (r_assign rfl) ?_
  refine lnil ?_
  refine wseq ?_
  refine wregion ?_
  refine lv (v := (.slice none (([] : List Int).length) 0)) rfl rfl (r_assign rfl) ?_
  refine lnil ?_
  refine wseq ?_
  refine wseq ?_
  refine wregion ?_
  refine lv (v := (.int .i64 0)) rfl rfl (r_assign rfl) ?_
  refine lnil ?_
  refine wblock ?_
  refine wloop (fun n f w_2 => ∃ (col_3 : Col) (a_5 : Option Addr) (cap_6 : Nat) (out_4 : List Int) (i_8 : Int) (n_1 : Nat), n_1 = n ∧ m_credencelaw10_plain_int32_L1 N p0_l n_1 out_4 i_8 = some r ∧ St w0 (col0 col) col_3 w_2 ∧ Sl (Rep.int .i32) col_3 w_2 a0 cap0 p0_l ∧ Own (Rep.int .i64) 3 1 col_3 w_2 a_5 cap_6 out_4 ∧ f 0 = (.slice a0 p0_l.length cap0) ∧ f 3 = (.slice a_5 out_4.length cap_6) ∧ f 4 = (.int .i64 i_8) ∧ f 1000000 = (enc [])) N ⟨(col0 col), none, 0, ([] : List Int), 0, N, rfl, hm, hst, h0, Own.nil, rfl, rfl, rfl, rfl⟩ ?_
  clear hm; intro n f w_2 hI
  obtain ⟨col_3, a_5, cap_6, out_4, i_8, n_1, hn, hm, hst, h0, h_7, hs0, hs3, hs4, hs1000000⟩ := hI
  subst hn
  refine .ld (d := 0) (v := (.slice a0 p0_l.length cap0)) hs0 ?_
  refine .ld (d := 3) (v := (.slice a_5 out_4.length cap_6)) hs3 ?_
  refine .ld (d := 4) (v := (.int .i64 i_8)) hs4 ?_
  refine .ld (d := 1000000) (v := (enc [])) hs1000000 ?_
  clear hs0 hs3 hs4 hs1000000
  cases n_1 with
  | zero => rw [m_credencelaw10_plain_int32_L1.eq_1] at hm; cases hm
  | succ n_1 =>
    rw [m_credencelaw10_plain_int32_L1.eq_2] at hm
    refine wseq ?_
    refine wseq ?_
    refine wregion ?_
    refine lv (v := (.int .i64 i_8)) rfl rfl (r_move rfl) ?_
    refine lv (v := (.slice a0 p0_l.length cap0)) rfl rfl (r_move rfl) ?_
    refine lv (v := (.int .i64 (p0_l.length : Int))) rfl rfl (r_len Try.underlying25 rfl) ?_
    refine lv (v := (.bool (decide (i_8 < (p0_l.length : Int))))) rfl rfl (r_lss i_8 (p0_l.length : Int) rfl rfl) ?_
    refine lnil ?_
    refine wcond (decide (i_8 < (p0_l.length : Int))) rfl (fun hb => ?_) (fun hb => ?_)
    · rw [if_pos hb] at hm
      clear hb
      refine wskip ?_
      refine wseq ?_
      refine wblock ?_
      refine wregion ?_
      refine lv (v := (.slice a_5 out_4.length cap_6)) rfl rfl (r_move rfl) ?_
      refine lv (v := (.slice a0 p0_l.length cap0)) rfl rfl (r_move rfl) ?_
      refine lv (v := (.int .i64 i_8)) rfl rfl (r_move rfl) ?_
      obtain ⟨e_9, hj_10, hm⟩ := bind_some hm
      refine lv (v := (sptr a0 (Int.toNat i_8 * 1))) rfl rfl (r_idx Try.underlying25 Try.sizeOf21 rfl rfl (at?_some hj_10).1 (at?_some hj_10).2.1 (h0.addr hj_10)) ?_
      refine lv (v := (.int .i32 e_9)) rfl rfl (r_ld Try.isAgg21 rfl (h0.atInt hj_10)) ?_
      refine lv (v := (.int .i64 (IntKind.i64.wrap e_9))) rfl rfl (r_conv e_9 ⟨_, Try.underlying21⟩ Try.underlying3 rfl) ?_
      refine l_lit (col := col_3) (r := (Rep.int .i64)) (xs := [IntKind.i64.wrap e_9]) [(.int .i64 (IntKind.i64.wrap e_9))] 2 rfl Try.underlying22 el3_17 rfl rfl rfl rfl rfl rfl (by intro v hv; simp only [List.mem_cons, List.not_mem_nil, or_false] at hv; subst hv; rfl) (RowsH.ofF (Rows.consF (r := (Rep.int .i64)) (x := IntKind.i64.wrap e_9) (cs := [(.int .i64 (IntKind.i64.wrap e_9))]) (rd_int .i64 (IntKind.i64.wrap e_9)) Rows.nil0)) ?_
      intro a_11 w_12 col_13 hg_14 h_15
      replace h0 := h0.gr hg_14
      replace h_7 := h_7.gr hg_14
      replace hst := hst.grow hg_14
      obtain ⟨hb_16, hm⟩ := chk_some hm
      refine l_appendM (col := col_13) (w := w_12) (r := (Rep.int .i64)) (c := 1) (c2 := 1) (xs := out_4) (ys := [IntKind.i64.wrap e_9]) h_7 (h_15.srcN (NB.int (k := .i64))) rfl Try.underlying22 el3_17 rfl rfl rfl hb_16.1 hb_16.2 (by decide) ?_
      intro a_17 cap_18 w_19 col_20 hk_21 h_22
      replace h0 := h0.kpp hk_21 rfl
      replace h_15 := h_15.kpp hk_21 rfl rfl
      replace hst := hst.kpp hk_21 rfl rfl
      clear h_7
      refine lv (v := (.slice a_17 ((out_4 ++ [IntKind.i64.wrap e_9]).length) cap_18)) rfl rfl (r_assign rfl) ?_
      refine lnil ?_
      refine wregion ?_
      refine lv (v := (.int .i64 i_8)) rfl rfl (r_move rfl) ?_
      refine lv (v := (.int .i64 (IntKind.i64.wrap (i_8 + 1)))) rfl rfl (r_add i_8 1 rfl rfl) ?_
      refine lv (v := (.int .i64 (IntKind.i64.wrap (i_8 + 1)))) rfl rfl (r_assign rfl) ?_
      refine lnil ?_
      exact ⟨n_1, by omega, ⟨col_20, a_17, cap_18, (out_4 ++ [IntKind.i64.wrap e_9]), (IntKind.i64.wrap (i_8 + 1)), n_1, rfl, hm, hst, h0, h_22, rfl, rfl, rfl, rfl⟩⟩
    · rw [if_neg (by rw [hb]; decide)] at hm
      clear hb
      refine wexit (inB_hit ?_)
      refine wseq ?_
      refine wregion ?_
      refine lv (v := (.slice a_5 out_4.length cap_6)) rfl rfl (r_move rfl) ?_
      refine lv (v := (.slice a_5 out_4.length cap_6)) rfl rfl (r_assign rfl) ?_
      refine lnil ?_
      refine wret ?_
      cases hm
      exact ⟨rfl, colF w0.heap.size col col_3 (fun n => bif Nat.beq n 1 then c1 else 0), a_5, cap_6, rfl, hst.fin (fun n => bif Nat.beq n 1 then c1 else 0), hst.finOwn (g := (fun n => bif Nat.beq n 1 then c1 else 0)) rfl h_7 (by decide) (by decide) rfl⟩



theorem el21_30 : ElemOk Try.prog 21 1 4 := ⟨Try.t21, _, rfl, rfl, rfl, rfl, rfl⟩

def m_slices_Clone_int32_int32 (p0_s : (List Int)) : Option (List Int) :=
  chk ((([] : List Int).length + p0_s.length) * 4 ≤ 140737488355328 ∧ ([] : List Int).length + p0_s.length ≤ maxLen) (some (([] : List Int) ++ p0_s))

set_option maxRecDepth 100000 in
theorem c_slices_Clone_int32_int32 (c1 : Nat) (col : Col) (w0 : World) (a0 : Option Addr) (cap0 : Nat) (p0_s : (List Int)) (h0 : Sl (Rep.int .i32) col w0 a0 cap0 p0_s) (r : (List Int)) (hm : m_slices_Clone_int32_int32 p0_s = some r) :
    Calls Try.prog 30 #[(.slice a0 p0_s.length cap0)] w0 (fun e w' => ∃ (col' : Col) (ra1 : Option Addr) (rc2 : Nat), e = .returned ((.slice ra1 r.length rc2)) ∧ Grow col w0 col' w' ∧ Own (Rep.int .i32) 21 c1 col' w' ra1 rc2 r) := by
  refine calls_of1 2 (m := 8) (args := [(.slice a0 p0_s.length cap0)]) Try.func30 rfl rfl rfl rfl rfl ?_
  rw [m_slices_Clone_int32_int32.eq_1] at hm
  have hst := St.start col w0
  replace h0 := h0.keep (Stay.start col w0)
  refine wseq ?_
  refine wregion ?_
  refine lv (v := (.slice none (([] : List Int).length) 0)) rfl rfl (r_assign rfl) ?_
  refine lnil ?_
  refine wseq ?_
  refine wseq ?_
  refine wregion ?_
  refine lv (v := (.slice a0 p0_s.length cap0)) rfl rfl (r_move rfl) ?_
  rcases nil_or h0 with hn_1 | hn_1
  · replace hm : some ([] : List Int) = some r := by have h0 := hn_1.2; subst h0; simpa [chk, maxLen] using hm
    refine lv (v := .bool a0.isNone) rfl rfl (r_eqlNil Try.underlying25 rfl) ?_
    refine .ld (d := 4) (v := .bool true) (congrArg Value.bool hn_1.1) ?_
    refine lnil ?_
    refine wcondT rfl ?_
    refine wseq ?_
    refine wregion ?_
    refine lv (v := (.slice none (([] : List Int).length) 0)) rfl rfl (r_assign rfl) ?_
    refine lnil ?_
    refine wret ?_
    cases hm
    exact ⟨rfl, colF w0.heap.size col (col0 col) (fun n => 0), none, 0, rfl, hst.fin (fun n => 0), Own.nil⟩
  · refine lv (v := .bool a0.isNone) rfl rfl (r_eqlNil Try.underlying25 rfl) ?_
    refine .ld (d := 4) (v := .bool false) (congrArg Value.bool hn_1) ?_
    refine lnil ?_
    refine wcondF rfl ?_
    refine wskip ?_
    refine wseq ?_
    refine wregion ?_
    refine l_lit0 (col := (col0 col)) (r := (Rep.int .i32)) 1 rfl Try.underlying25 el21_30 rfl ?_
    intro a_2 w_3 col_4 hg_5 h_6
    replace h0 := h0.gr hg_5
    replace hst := hst.grow hg_5
    refine lv (v := (.slice a0 p0_s.length cap0)) rfl rfl (r_move rfl) ?_
    obtain ⟨hb_7, hm⟩ := chk_some hm
    refine l_appendM (col := col_4) (w := w_3) (r := (Rep.int .i32)) (c := 1) (c2 := 1) (xs := ([] : List Int)) (ys := p0_s) h_6 h0.srcC rfl Try.underlying25 el21_30 rfl rfl rfl hb_7.1 hb_7.2 (by decide) ?_
    intro a_8 cap_9 w_10 col_11 hk_12 h_13
    replace h0 := h0.kpp hk_12 rfl
    replace hst := hst.kpp hk_12 rfl rfl
    clear h_6
    refine lv (v := (.slice a_8 ((([] : List Int) ++ p0_s).length) cap_9)) rfl rfl (r_assign rfl) ?_
    refine lnil ?_
    refine wret ?_
    cases hm
    exact ⟨rfl, colF w0.heap.size col col_11 (fun n => bif Nat.beq n 1 then c1 else 0), a_8, cap_9, rfl, hst.fin (fun n => bif Nat.beq n 1 then c1 else 0), hst.finOwn (g := (fun n => bif Nat.beq n 1 then c1 else 0)) rfl h_13 (by decide) (by decide) rfl⟩




def m_radix_Count_int32_L2  : List Int → Int → Option (Int × Int)
  | [], n_12 => some (n_12, 0)
  | x_13 :: l_14, n_12 => chk (n_12 ≠ 0) (if (decide ((IntKind.i64.wrap (Int.tdiv 2147483647 n_12)) < (IntKind.i64.wrap x_13))) = true then (some (0, 4)) else ((m_radix_Count_int32_L2 l_14) (IntKind.i64.wrap (n_12 * (IntKind.i64.wrap x_13)))))

def m_radix_Count_int32_J1 (kk_L1 : (Bool → Option (Int × Int))) (none_18 : Bool) : Option (Int × Int) :=
  kk_L1 none_18

def m_radix_Count_int32_L1 (p0_sizes : (List Int)) : List Int → Bool → Option (Int × Int)
  | [], none_5 => if none_5 = true then (some (0, 0)) else (m_radix_Count_int32_L2 p0_sizes 1)
  | x_6 :: l_7, none_5 => if (decide (x_6 < 0)) = true then (some (0, 3)) else (if none_5 = true then (m_radix_Count_int32_J1 (m_radix_Count_int32_L1 p0_sizes l_7) true) else (m_radix_Count_int32_J1 (m_radix_Count_int32_L1 p0_sizes l_7) (decide (x_6 = 0))))

def m_radix_Count_int32 (p0_sizes : (List Int)) : Option (Int × Int) :=
  m_radix_Count_int32_L1 p0_sizes p0_sizes false

set_option maxRecDepth 100000 in
theorem c_radix_Count_int32 (col : Col) (w0 : World) (a0 : Option Addr) (cap0 : Nat) (p0_sizes : (List Int)) (h0 : Sl (Rep.int .i32) col w0 a0 cap0 p0_sizes) (r : (Int × Int)) (hm : m_radix_Count_int32 p0_sizes = some r) :
    Calls Try.prog 31 #[(.slice a0 p0_sizes.length cap0)] w0 (fun e w' => e = .returned (.tuple #[(.int .i64 r.1), (.int .i64 r.2)]) ∧ Below w0.heap.size w0 w') := by
  refine calls_of2 2 3 (m := 42) (args := [(.slice a0 p0_sizes.length cap0)]) Try.func31 rfl rfl rfl rfl rfl ?_
  rw [m_radix_Count_int32.eq_1] at hm
  have hst := St.start col w0
  replace h0 := h0.keep (Stay.start col w0)
  refine wseq ?_
  refine wregion ?_
  refine lv (v := (.int .i64 0)) rfl rfl (r_assign rfl) ?_
  refine lv (v := (.int .i64 0)) rfl rfl (r_assign rfl) ?_
  refine lnil ?_
  refine wseq ?_
  refine wregion ?_
  refine lv (v := (.bool false)) rfl rfl (r_assign rfl) ?_
  refine lnil ?_
  refine wseq ?_
  refine wseq ?_
  refine wregion ?_
  refine lv (v := (.slice a0 p0_sizes.length cap0)) rfl rfl (r_move rfl) ?_
  refine lv (v := (.int .i64 (p0_sizes.length : Int))) rfl rfl (r_len Try.underlying25 rfl) ?_
  refine lv (v := (.int .i64 0)) rfl rfl (r_move rfl) ?_
  refine lnil ?_
  refine wblock ?_
  refine wloop (fun n f w_3 => ∃ (col_4 : Col) (k_1 : Nat) (none_5 : Bool) (l_2 : List Int), n = l_2.length ∧ p0_sizes.drop k_1 = l_2 ∧ m_radix_Count_int32_L1 p0_sizes l_2 none_5 = some r ∧ St w0 (col0 col) col_4 w_3 ∧ Sl (Rep.int .i32) col_4 w_3 a0 cap0 p0_sizes ∧ f 12 = (.int .i64 (k_1 : Int)) ∧ f 0 = (.slice a0 p0_sizes.length cap0) ∧ f 10 = (.slice a0 p0_sizes.length cap0) ∧ f 11 = (.int .i64 (p0_sizes.length : Int)) ∧ f 4 = (.bool none_5) ∧ f 1000000 = (enc [])) p0_sizes.length ⟨(col0 col), 0, false, p0_sizes, rfl, rfl, hm, hst, h0, rfl, rfl, rfl, rfl, rfl, rfl⟩ ?_
  clear hm; intro n f w_3 hI
  obtain ⟨col_4, k_1, none_5, l_2, hn, hl, hm, hst, h0, hs12, hs0, hs10, hs11, hs4, hs1000000⟩ := hI
  subst hn
  refine .ld (d := 12) (v := (.int .i64 (k_1 : Int))) hs12 ?_
  refine .ld (d := 0) (v := (.slice a0 p0_sizes.length cap0)) hs0 ?_
  refine .ld (d := 10) (v := (.slice a0 p0_sizes.length cap0)) hs10 ?_
  refine .ld (d := 11) (v := (.int .i64 (p0_sizes.length : Int))) hs11 ?_
  refine .ld (d := 4) (v := (.bool none_5)) hs4 ?_
  refine .ld (d := 1000000) (v := (enc [])) hs1000000 ?_
  clear hs12 hs0 hs10 hs11 hs4 hs1000000
  cases l_2 with
  | nil =>
    have hk : ¬ ((k_1 : Int) < (p0_sizes.length : Int)) := by have := List.drop_eq_nil_iff.1 hl; omega
    have hkb := decide_eq_false hk
    rw [m_radix_Count_int32_L1.eq_1] at hm
    refine wseq ?_
    refine wregion ?_
    refine lv (v := (.bool (decide ((k_1 : Int) < (p0_sizes.length : Int))))) rfl rfl (r_lss (k_1 : Int) (p0_sizes.length : Int) rfl rfl) ?_
    refine lnil ?_
    refine wseq ?_
    refine wcondF (congrArg Value.bool hkb) ?_
    refine wexit (inB_hit ?_)
    refine wseq ?_
    refine wseq ?_
    refine wregion ?_
    refine lv (v := (.bool none_5)) rfl rfl (r_move rfl) ?_
    refine lnil ?_
    refine wcond (none_5) rfl (fun hb => ?_) (fun hb => ?_)
    · rw [if_pos hb] at hm
      clear hb
      refine wseq ?_
      refine wregion ?_
      refine lv (v := (.int .i64 0)) rfl rfl (r_assign rfl) ?_
      refine lv (v := (.int .i64 0)) rfl rfl (r_assign rfl) ?_
      refine lnil ?_
      refine wret ?_
      cases hm
      exact ⟨rfl, rfl, hst.below⟩
    · rw [if_neg (by rw [hb]; decide)] at hm
      clear hb
      refine wskip ?_
      refine wseq ?_
      refine wregion ?_
      refine lv (v := (.int .i64 1)) rfl rfl (r_assign rfl) ?_
      refine lnil ?_
      refine wseq ?_
      refine wseq ?_
      refine wregion ?_
      refine lv (v := (.slice a0 p0_sizes.length cap0)) rfl rfl (r_move rfl) ?_
      refine lv (v := (.int .i64 (p0_sizes.length : Int))) rfl rfl (r_len Try.underlying25 rfl) ?_
      refine lv (v := (.int .i64 0)) rfl rfl (r_move rfl) ?_
      refine lnil ?_
      refine wblock ?_
      refine wloop (fun n f w_10 => ∃ (col_11 : Col) (k_8 : Nat) (n_12 : Int) (l_9 : List Int), n = l_9.length ∧ p0_sizes.drop k_8 = l_9 ∧ m_radix_Count_int32_L2 l_9 n_12 = some r ∧ St w0 (col0 col) col_11 w_10 ∧ Sl (Rep.int .i32) col_11 w_10 a0 cap0 p0_sizes ∧ f 27 = (.int .i64 (k_8 : Int)) ∧ f 25 = (.slice a0 p0_sizes.length cap0) ∧ f 26 = (.int .i64 (p0_sizes.length : Int)) ∧ f 7 = (.int .i64 n_12) ∧ f 1000000 = (enc [])) p0_sizes.length ⟨col_4, 0, 1, p0_sizes, rfl, rfl, hm, hst, h0, rfl, rfl, rfl, rfl, rfl⟩ ?_
      clear hm; intro n f w_10 hI
      obtain ⟨col_11, k_8, n_12, l_9, hn, hl, hm, hst, h0, hs27, hs25, hs26, hs7, hs1000000⟩ := hI
      subst hn
      refine .ld (d := 27) (v := (.int .i64 (k_8 : Int))) hs27 ?_
      refine .ld (d := 25) (v := (.slice a0 p0_sizes.length cap0)) hs25 ?_
      refine .ld (d := 26) (v := (.int .i64 (p0_sizes.length : Int))) hs26 ?_
      refine .ld (d := 7) (v := (.int .i64 n_12)) hs7 ?_
      refine .ld (d := 1000000) (v := (enc [])) hs1000000 ?_
      clear hs27 hs25 hs26 hs7 hs1000000
      cases l_9 with
      | nil =>
        have hk : ¬ ((k_8 : Int) < (p0_sizes.length : Int)) := by have := List.drop_eq_nil_iff.1 hl; omega
        have hkb := decide_eq_false hk
        rw [m_radix_Count_int32_L2.eq_1] at hm
        refine wseq ?_
        refine wregion ?_
        refine lv (v := (.bool (decide ((k_8 : Int) < (p0_sizes.length : Int))))) rfl rfl (r_lss (k_8 : Int) (p0_sizes.length : Int) rfl rfl) ?_
        refine lnil ?_
        refine wseq ?_
        refine wcondF (congrArg Value.bool hkb) ?_
        refine wexit (inB_hit ?_)
        refine wseq ?_
        refine wregion ?_
        refine lv (v := (.int .i64 n_12)) rfl rfl (r_move rfl) ?_
        refine lv (v := (.int .i64 n_12)) rfl rfl (r_assign rfl) ?_
        refine lv (v := (.int .i64 0)) rfl rfl (r_assign rfl) ?_
        refine lnil ?_
        refine wret ?_
        cases hm
        exact ⟨rfl, rfl, hst.below⟩
      | cons x_13 l_14 =>
        obtain ⟨hat, hl2, hlt⟩ := drop_get hl
        have hk : (k_8 : Int) < (p0_sizes.length : Int) := by omega
        have hkb := decide_eq_true hk
        rw [m_radix_Count_int32_L2.eq_2] at hm
        refine wseq ?_
        refine wregion ?_
        refine lv (v := (.bool (decide ((k_8 : Int) < (p0_sizes.length : Int))))) rfl rfl (r_lss (k_8 : Int) (p0_sizes.length : Int) rfl rfl) ?_
        refine lnil ?_
        refine wseq ?_
        refine wcondT (congrArg Value.bool hkb) ?_
        refine wskip ?_
        refine wseq ?_
        refine wblock ?_
        refine wseq ?_
        refine wregion ?_
        refine lv (v := (sptr a0 (Int.toNat (k_8 : Int) * 1))) rfl rfl (r_idx Try.underlying25 Try.sizeOf21 rfl rfl (at?_some hat).1 (at?_some hat).2.1 (h0.addr hat)) ?_
        refine lv (v := (.int .i32 x_13)) rfl rfl (r_ld Try.isAgg21 rfl (h0.atInt hat)) ?_
        refine lv (v := (.int .i32 x_13)) rfl rfl (r_assign rfl) ?_
        refine lnil ?_
        refine wseq ?_
        refine wseq ?_
        refine wregion ?_
        refine lv (v := (.int .i32 x_13)) rfl rfl (r_move rfl) ?_
        refine lv (v := (.int .i64 (IntKind.i64.wrap x_13))) rfl rfl (r_conv x_13 ⟨_, Try.underlying21⟩ Try.underlying3 rfl) ?_
        refine lv (v := (.int .i64 n_12)) rfl rfl (r_move rfl) ?_
        obtain ⟨h0_15, hm⟩ := chk_some hm
        refine lv (v := (.int .i64 (IntKind.i64.wrap (Int.tdiv 2147483647 n_12)))) rfl rfl (r_quo 2147483647 n_12 rfl rfl h0_15) ?_
        refine lv (v := (.bool (decide ((IntKind.i64.wrap (Int.tdiv 2147483647 n_12)) < (IntKind.i64.wrap x_13))))) rfl rfl (r_gtr (IntKind.i64.wrap x_13) (IntKind.i64.wrap (Int.tdiv 2147483647 n_12)) rfl rfl) ?_
        refine lnil ?_
        refine wcond (decide ((IntKind.i64.wrap (Int.tdiv 2147483647 n_12)) < (IntKind.i64.wrap x_13))) rfl (fun hb => ?_) (fun hb => ?_)
        · rw [if_pos hb] at hm
          clear hb
          refine wseq ?_
          refine wregion ?_
          refine lv (v := (.int .i64 0)) rfl rfl (r_assign rfl) ?_
          refine lv (v := (.int .i64 4)) rfl rfl (r_assign rfl) ?_
          refine lnil ?_
          refine wret ?_
          cases hm
          exact ⟨rfl, rfl, hst.below⟩
        · rw [if_neg (by rw [hb]; decide)] at hm
          clear hb
          refine wskip ?_
          refine wregion ?_
          refine lv (v := (.int .i64 n_12)) rfl rfl (r_move rfl) ?_
          refine lv (v := (.int .i32 x_13)) rfl rfl (r_move rfl) ?_
          refine lv (v := (.int .i64 (IntKind.i64.wrap x_13))) rfl rfl (r_conv x_13 ⟨_, Try.underlying21⟩ Try.underlying3 rfl) ?_
          refine lv (v := (.int .i64 (IntKind.i64.wrap (n_12 * (IntKind.i64.wrap x_13))))) rfl rfl (r_mul n_12 (IntKind.i64.wrap x_13) rfl rfl) ?_
          refine lv (v := (.int .i64 (IntKind.i64.wrap (n_12 * (IntKind.i64.wrap x_13))))) rfl rfl (r_assign rfl) ?_
          refine lnil ?_
          refine wregion ?_
          refine lv (v := (.int .i64 (IntKind.i64.wrap ((k_8 : Int) + 1)))) rfl rfl (r_add (k_8 : Int) 1 rfl rfl) ?_
          refine lv (v := (.int .i64 (IntKind.i64.wrap ((k_8 : Int) + 1)))) rfl rfl (r_move rfl) ?_
          refine lnil ?_
          exact ⟨l_14.length, by simp, ⟨col_11, (k_8 + 1), (IntKind.i64.wrap (n_12 * (IntKind.i64.wrap x_13))), l_14, rfl, hl2, hm, hst, h0, (congrArg (Value.int .i64) (wrap_succ (Nat.lt_of_lt_of_le hlt h0.1.1))), rfl, rfl, rfl, rfl⟩⟩
  | cons x_6 l_7 =>
    obtain ⟨hat, hl2, hlt⟩ := drop_get hl
    have hk : (k_1 : Int) < (p0_sizes.length : Int) := by omega
    have hkb := decide_eq_true hk
    rw [m_radix_Count_int32_L1.eq_2] at hm
    refine wseq ?_
    refine wregion ?_
    refine lv (v := (.bool (decide ((k_1 : Int) < (p0_sizes.length : Int))))) rfl rfl (r_lss (k_1 : Int) (p0_sizes.length : Int) rfl rfl) ?_
    refine lnil ?_
    refine wseq ?_
    refine wcondT (congrArg Value.bool hkb) ?_
    refine wskip ?_
    refine wseq ?_
    refine Wp.cut (fun f w_16 => ∃ (col_17 : Col) (none_18 : Bool), m_radix_Count_int32_J1 (m_radix_Count_int32_L1 p0_sizes l_7) none_18 = some r ∧ St w0 (col0 col) col_17 w_16 ∧ Sl (Rep.int .i32) col_17 w_16 a0 cap0 p0_sizes ∧ f 0 = (.slice a0 p0_sizes.length cap0) ∧ f 10 = (.slice a0 p0_sizes.length cap0) ∧ f 11 = (.int .i64 (p0_sizes.length : Int)) ∧ f 12 = (.int .i64 (k_1 : Int)) ∧ f 4 = (.bool none_18) ∧ f 1000000 = (enc [])) ?_ ?_
    · intro f w_16 hJ
      obtain ⟨col_17, none_18, hm, hst, h0, hs0, hs10, hs11, hs12, hs4, hs1000000⟩ := hJ
      rw [m_radix_Count_int32_J1.eq_1] at hm
      refine .ld (d := 0) (v := (.slice a0 p0_sizes.length cap0)) hs0 ?_
      refine .ld (d := 10) (v := (.slice a0 p0_sizes.length cap0)) hs10 ?_
      refine .ld (d := 11) (v := (.int .i64 (p0_sizes.length : Int))) hs11 ?_
      refine .ld (d := 12) (v := (.int .i64 (k_1 : Int))) hs12 ?_
      refine .ld (d := 4) (v := (.bool none_18)) hs4 ?_
      refine .ld (d := 1000000) (v := (enc [])) hs1000000 ?_
      clear hs0 hs10 hs11 hs12 hs4 hs1000000
      refine wregion ?_
      refine lv (v := (.int .i64 (IntKind.i64.wrap ((k_1 : Int) + 1)))) rfl rfl (r_add (k_1 : Int) 1 rfl rfl) ?_
      refine lv (v := (.int .i64 (IntKind.i64.wrap ((k_1 : Int) + 1)))) rfl rfl (r_move rfl) ?_
      refine lnil ?_
      exact ⟨l_7.length, by simp, ⟨col_17, (k_1 + 1), none_18, l_7, rfl, hl2, hm, hst, h0, (congrArg (Value.int .i64) (wrap_succ (Nat.lt_of_lt_of_le hlt h0.1.1))), rfl, rfl, rfl, rfl, rfl⟩⟩
    · refine wblock ?_
      refine wseq ?_
      refine wregion ?_
      refine lv (v := (sptr a0 (Int.toNat (k_1 : Int) * 1))) rfl rfl (r_idx Try.underlying25 Try.sizeOf21 rfl rfl (at?_some hat).1 (at?_some hat).2.1 (h0.addr hat)) ?_
      refine lv (v := (.int .i32 x_6)) rfl rfl (r_ld Try.isAgg21 rfl (h0.atInt hat)) ?_
      refine lv (v := (.int .i32 x_6)) rfl rfl (r_assign rfl) ?_
      refine lnil ?_
      refine wseq ?_
      refine wseq ?_
      refine wregion ?_
      refine lv (v := (.int .i32 x_6)) rfl rfl (r_move rfl) ?_
      refine lv (v := (.bool (decide (x_6 < 0)))) rfl rfl (r_lss x_6 0 rfl rfl) ?_
      refine lnil ?_
      refine wcond (decide (x_6 < 0)) rfl (fun hb => ?_) (fun hb => ?_)
      · rw [if_pos hb] at hm
        clear hb
        refine wseq ?_
        refine wregion ?_
        refine lv (v := (.int .i64 0)) rfl rfl (r_assign rfl) ?_
        refine lv (v := (.int .i64 3)) rfl rfl (r_assign rfl) ?_
        refine lnil ?_
        refine wret ?_
        cases hm
        exact ⟨rfl, rfl, hst.below⟩
      · rw [if_neg (by rw [hb]; decide)] at hm
        clear hb
        refine wskip ?_
        refine wregion ?_
        refine lv (v := (.bool none_5)) rfl rfl (r_move rfl) ?_
        refine lv (v := (.bool none_5)) rfl rfl (r_move rfl) ?_
        by_cases hg_19 : none_5 = true
        · rw [if_pos hg_19] at hm
          refine lp (b := none_5) 19 rfl rfl rfl rfl (by rw [hg_19]; rfl) ?_
          refine lp (b := none_5) 19 rfl rfl rfl rfl (by rw [hg_19]; rfl) ?_
          refine lv (v := (.bool true)) rfl rfl (r_pickT (congrArg Value.bool hg_19) rfl) ?_
          refine lv (v := (.bool true)) rfl rfl (r_assign rfl) ?_
          refine lnil ?_
          exact ⟨col_4, true, hm, hst, h0, rfl, rfl, rfl, rfl, rfl, rfl⟩
        · rw [if_neg hg_19] at hm
          replace hg_19 := Bool.eq_false_iff.2 hg_19
          refine lg (b := none_5) 19 rfl rfl rfl (by rw [hg_19]; rfl) ?_
          refine lv (v := (.int .i32 x_6)) rfl rfl (r_move rfl) ?_
          refine lg (b := none_5) 19 rfl rfl rfl (by rw [hg_19]; rfl) ?_
          refine lv (v := (.bool (decide (x_6 = 0)))) rfl rfl (r_eql x_6 0 rfl rfl) ?_
          refine lv (v := (.bool (decide (x_6 = 0)))) rfl rfl (r_pickF (congrArg Value.bool hg_19) rfl) ?_
          refine lv (v := (.bool (decide (x_6 = 0)))) rfl rfl (r_assign rfl) ?_
          refine lnil ?_
          exact ⟨col_4, (decide (x_6 = 0)), hm, hst, h0, rfl, rfl, rfl, rfl, rfl, rfl⟩




def m_slices_Backward_int32_int32_1_L1 (N : Nat) (v0_v : List Int) : Nat → Int → Option (List (Int × Int))
  | 0, _ => none
  | n_1 + 1, i_4 => if (decide (0 ≤ i_4)) = true then ((at? v0_v i_4).bind fun e_5 => ((m_slices_Backward_int32_int32_1_L1 N v0_v n_1) (IntKind.i64.wrap (i_4 - 1))).bind fun r_7 => some ((i_4, e_5) :: r_7)) else (some [])

def m_slices_Backward_int32_int32_1 (N : Nat) (v0_v : List Int) : Option (List (Int × Int)) :=
  m_slices_Backward_int32_int32_1_L1 N v0_v N (IntKind.i64.wrap ((v0_v.length : Int) - 1))

set_option maxRecDepth 100000 in
theorem c_slices_Backward_int32_int32_1 (N : Nat) (col : Col) (w0 : World) (g0 : Nat) (af0 : Option Addr) (capf0 : Nat) (v0_v : List Int) (hf0 : Sl (Rep.int .i32) col w0 af0 capf0 v0_v) (hb0 : Box 25 450 col w0 g0 #[(.slice af0 v0_v.length capf0)]) (r : List (Int × Int)) (hm : m_slices_Backward_int32_int32_1 N v0_v = some r) :
    Goes Try.prog 42 [(.pointer (some ⟨g0, 0, none⟩))] (fun (y : Int × Int) (col : Col) (w : World) (args : List Value) => args = [.int .i64 y.1, .int .i32 y.2]) r col w0 := by
  intro l J X hjs hxs hy hst
  refine calls_of0 (m := 19) (args := [.func (.yield l) #[] #[], (.pointer (some ⟨g0, 0, none⟩))]) Try.func42 rfl rfl rfl rfl ?_
  rw [m_slices_Backward_int32_int32_1.eq_1] at hm
  refine wseq ?_
  refine wregion ?_
  refine lv (v := (.slice af0 v0_v.length capf0)) rfl rfl (r_ld Try.isAgg25 rfl hb0.at1) ?_
  refine lv (v := (.int .i64 (v0_v.length : Int))) rfl rfl (r_len Try.underlying25 rfl) ?_
  refine lv (v := (.int .i64 (IntKind.i64.wrap ((v0_v.length : Int) - 1)))) rfl rfl (r_sub (v0_v.length : Int) 1 rfl rfl) ?_
  refine lv (v := (.int .i64 (IntKind.i64.wrap ((v0_v.length : Int) - 1)))) rfl rfl (r_assign rfl) ?_
  refine lnil ?_
  refine wblock ?_
  refine wloop (fun n f w_2 => ∃ (col_3 : Col) (r : List (Int × Int)) (i_4 : Int) (n_1 : Nat), n_1 = n ∧ m_slices_Backward_int32_int32_1_L1 N v0_v n_1 i_4 = some r ∧ J r col_3 w_2 ∧ Sl (Rep.int .i32) col_3 w_2 af0 capf0 v0_v ∧ Box 25 450 col_3 w_2 g0 #[(.slice af0 v0_v.length capf0)] ∧ f 0 = (.func (.yield l) #[] #[]) ∧ f 1 = (.pointer (some ⟨g0, 0, none⟩)) ∧ f 3 = (.int .i64 i_4) ∧ f 1000000 = (enc [])) N ⟨col, r, (IntKind.i64.wrap ((v0_v.length : Int) - 1)), N, rfl, hm, hst, hf0, hb0, rfl, rfl, rfl, rfl⟩ ?_
  clear hm; intro n f w_2 hI
  obtain ⟨col_3, r, i_4, n_1, hn, hm, hst, hf0, hb0, hs0, hs1, hs3, hs1000000⟩ := hI
  subst hn
  refine .ld (d := 0) (v := (.func (.yield l) #[] #[])) hs0 ?_
  refine .ld (d := 1) (v := (.pointer (some ⟨g0, 0, none⟩))) hs1 ?_
  refine .ld (d := 3) (v := (.int .i64 i_4)) hs3 ?_
  refine .ld (d := 1000000) (v := (enc [])) hs1000000 ?_
  clear hs0 hs1 hs3 hs1000000
  cases n_1 with
  | zero => rw [m_slices_Backward_int32_int32_1_L1.eq_1] at hm; cases hm
  | succ n_1 =>
    rw [m_slices_Backward_int32_int32_1_L1.eq_2] at hm
    refine wseq ?_
    refine wseq ?_
    refine wregion ?_
    refine lv (v := (.int .i64 i_4)) rfl rfl (r_move rfl) ?_
    refine lv (v := (.bool (decide (0 ≤ i_4)))) rfl rfl (r_geq i_4 0 rfl rfl) ?_
    refine lnil ?_
    refine wcond (decide (0 ≤ i_4)) rfl (fun hb => ?_) (fun hb => ?_)
    · rw [if_pos hb] at hm
      clear hb
      refine wskip ?_
      refine wseq ?_
      refine wblock ?_
      refine wseq ?_
      refine wregion ?_
      refine lv (v := (.func (.yield l) #[] #[])) rfl rfl (r_move rfl) ?_
      refine lv (v := (.int .i64 i_4)) rfl rfl (r_move rfl) ?_
      refine lv (v := (.slice af0 v0_v.length capf0)) rfl rfl (r_ld Try.isAgg25 rfl hb0.at1) ?_
      refine lv (v := (.int .i64 i_4)) rfl rfl (r_move rfl) ?_
      obtain ⟨e_5, hj_6, hm⟩ := bind_some hm
      refine lv (v := (sptr af0 (Int.toNat i_4 * 1))) rfl rfl (r_idx Try.underlying25 Try.sizeOf21 rfl rfl (at?_some hj_6).1 (at?_some hj_6).2.1 (hf0.addr hj_6)) ?_
      refine lv (v := (.int .i32 e_5)) rfl rfl (r_ld Try.isAgg21 rfl (hf0.atInt hj_6)) ?_
      obtain ⟨r_7, hc_8m, hc_8⟩ := bind_some hm
      cases hc_8
      have hm := hc_8m
      clear hc_8m
      refine ly2 rfl rfl rfl rfl (hy _ _ _ _ [(.int .i64 i_4), (.int .i32 e_5)] hst rfl) ?_
      rintro _ w_9 ⟨col_10, hk_11, ⟨rfl, hJ⟩ | ⟨rfl, hX⟩⟩
      · refine ⟨_, rfl, ?_⟩
        clear hst
        replace hf0 := hf0.kpp hk_11 rfl
        replace hb0 := hb0.kpp hk_11 rfl
        have hst := hJ
        clear hJ
        refine lv (v := (.bool false)) rfl rfl (r_not true rfl) ?_
        refine lnil ?_
        refine wcondF rfl ?_
        refine wskip ?_
        refine wregion ?_
        refine lv (v := (.int .i64 i_4)) rfl rfl (r_move rfl) ?_
        refine lv (v := (.int .i64 (IntKind.i64.wrap (i_4 - 1)))) rfl rfl (r_sub i_4 1 rfl rfl) ?_
        refine lv (v := (.int .i64 (IntKind.i64.wrap (i_4 - 1)))) rfl rfl (r_assign rfl) ?_
        refine lnil ?_
        exact ⟨n_1, by omega, ⟨col_10, r_7, (IntKind.i64.wrap (i_4 - 1)), n_1, rfl, hm, hst, hf0, hb0, rfl, rfl, rfl, rfl⟩⟩
      · clear hm
        refine ⟨_, rfl, ?_⟩
        clear hst
        replace hf0 := hf0.kpp hk_11 rfl
        replace hb0 := hb0.kpp hk_11 rfl
        have hst := hX
        clear hX
        refine lv (v := (.bool true)) rfl rfl (r_not false rfl) ?_
        refine lnil ?_
        refine wcondT rfl ?_
        refine wret ?_
        exact ⟨rfl, ⟨_, rfl⟩, _, .inr hst⟩
    · rw [if_neg (by rw [hb]; decide)] at hm
      clear hb
      refine wexit (inB_hit ?_)
      cases hm
      exact ⟨rfl, ⟨_, rfl⟩, _, .inl hst⟩




def m_slices_Backward_int32_int32 (N : Nat) (p0_s : (List Int)) : Option (List (Int × Int)) :=
  m_slices_Backward_int32_int32_1 N p0_s

set_option maxRecDepth 100000 in
theorem c_slices_Backward_int32_int32 (N : Nat) (col : Col) (w0 : World) (a0 : Option Addr) (cap0 : Nat) (p0_s : (List Int)) (h0 : Sl (Rep.int .i32) col w0 a0 cap0 p0_s) (r : (List (Int × Int))) (hm : m_slices_Backward_int32_int32 N p0_s = some r) :
    Calls Try.prog 39 #[(.slice a0 p0_s.length cap0)] w0 (fun e w' => ∃ (col' : Col) (rv1 : Value), e = .returned (rv1) ∧ Grow col w0 col' w' ∧ It Try.prog rv1 (fun (y : Int × Int) (col : Col) (w : World) (args : List Value) => args = [.int .i64 y.1, .int .i32 y.2]) r q0 col' w') := by
  refine calls_of1 2 (m := 4) (args := [(.slice a0 p0_s.length cap0)]) Try.func39 rfl rfl rfl rfl rfl ?_
  rw [m_slices_Backward_int32_int32.eq_1] at hm
  have hst := St.start col w0
  replace h0 := h0.keep (Stay.start col w0)
  refine wseq ?_
  refine wregion ?_
  refine l_box (col := (col0 col)) (v := (.slice a0 p0_s.length cap0)) 1 rfl rfl ?_
  intro g_1 w_2 col_3 hg_4 hb_5
  replace h0 := h0.gr hg_4
  replace hst := hst.grow hg_4
  replace hb_5 : Box 25 1 col_3 w_2 g_1 #[(.slice a0 p0_s.length cap0)] := hb_5
  refine lv (v := _) rfl rfl (r_assign rfl) ?_
  refine lnil ?_
  refine wseq ?_
  refine wregion ?_
  refine lv (v := (.func (.func 42) #[] #[(.pointer (some ⟨g_1, 0, none⟩))])) rfl rfl (r_func1 rfl) ?_
  refine lv (v := (.func (.func 42) #[] #[(.pointer (some ⟨g_1, 0, none⟩))])) rfl rfl (r_assign rfl) ?_
  refine lnil ?_
  refine wret ?_
  have hb_5f := hst.finBox (G := (fun n => bif Nat.beq n 1 then 450 else 0)) hb_5 (by decide) (by decide) (show (fun n => bif Nat.beq n 1 then 450 else 0) 1 = 450 from rfl)
  have h0f := hst.finSl (g := (fun n => bif Nat.beq n 1 then 450 else 0)) rfl h0
  refine ⟨rfl, colF w0.heap.size col col_3 (fun n => bif Nat.beq n 1 then 450 else 0), _, rfl, hst.fin (fun n => bif Nat.beq n 1 then 450 else 0), 42, [(.pointer (some ⟨g_1, 0, none⟩))], rfl, Try.call42, ?_⟩
  intro col9 w9 hs9 hk9
  replace hb_5f := hb_5f.itk hs9 hk9 rfl
  replace h0f := h0f.itk hs9 hk9 rfl
  exact c_slices_Backward_int32_int32_1 N col9 w9 g_1 a0 cap0 p0_s h0f hb_5f r hm




def m_radix_digits_int32_L1  : List (Int × Int) → Int → (List Int) → Option (List Int)
  | [], at_33, out_34 => some out_34
  | y_38 :: l_39, at_33, out_34 => chk ((IntKind.i64.wrap y_38.2) ≠ 0) ((at? out_34 y_38.1).bind fun e_52 => (some (out_34.set (Int.toNat y_38.1) (IntKind.i32.wrap (Int.tmod at_33 (IntKind.i64.wrap y_38.2))))).bind fun xs_60 => chk ((IntKind.i64.wrap y_38.2) ≠ 0) ((m_radix_digits_int32_L1 l_39) (IntKind.i64.wrap (Int.tdiv at_33 (IntKind.i64.wrap y_38.2))) xs_60))

def m_radix_digits_int32 (N : Nat) (p0_sizes : (List Int)) (p1_at : Int) : Option (List Int) :=
  if (decide ((p0_sizes.length : Int) = 0)) = true then (some ([] : List Int)) else (chk (p0_sizes.length * 4 ≤ 281474976710656 ∧ p0_sizes.length ≤ maxLen) ((m_slices_Backward_int32_int32 N p0_sizes).bind fun r_24 => m_radix_digits_int32_L1 r_24 p1_at (List.replicate p0_sizes.length (0 : Int))))

set_option maxRecDepth 100000 in
theorem c_radix_digits_int32 (N : Nat) (c1 : Nat) (col : Col) (w0 : World) (a0 : Option Addr) (cap0 : Nat) (p0_sizes : (List Int)) (p1_at : Int) (h0 : Sl (Rep.int .i32) col w0 a0 cap0 p0_sizes) (r : (List Int)) (hm : m_radix_digits_int32 N p0_sizes p1_at = some r) :
    Calls Try.prog 33 #[(.slice a0 p0_sizes.length cap0), (.int .i64 p1_at)] w0 (fun e w' => ∃ (col' : Col) (ra1 : Option Addr) (rc2 : Nat), e = .returned ((.slice ra1 r.length rc2)) ∧ Grow col w0 col' w' ∧ Own (Rep.int .i32) 21 c1 col' w' ra1 rc2 r) := by
  refine calls_ofM1 4 (m := 31) (args := [(.slice a0 p0_sizes.length cap0), (.int .i64 p1_at)]) Try.func33 rfl rfl rfl rfl rfl ?_
  rw [m_radix_digits_int32.eq_1] at hm
  have hst := St.start col w0
  replace h0 := h0.keep (Stay.start col w0)
  have hmk : Marks (col0 col) w0 [] := .nil
  refine wseq ?_
  refine wregion ?_
  refine l_box (col := (col0 col)) (v := (.int .i64 p1_at)) 1 rfl rfl ?_
  intro g_1 w_2 col_3 hg_4 hb_5
  replace h0 := h0.gr hg_4
  replace hmk := hmk.gr hg_4
  replace hst := hst.grow hg_4
  replace hb_5 : Box 3 1 col_3 w_2 g_1 #[(.int .i64 p1_at)] := hb_5
  refine lv (v := (.slice none (([] : List Int).length) 0)) rfl rfl (r_assign rfl) ?_
  refine lnil ?_
  refine wseq ?_
  refine wseq ?_
  refine wregion ?_
  refine lv (v := (.slice a0 p0_sizes.length cap0)) rfl rfl (r_move rfl) ?_
  refine lv (v := (.int .i64 (p0_sizes.length : Int))) rfl rfl (r_len Try.underlying25 rfl) ?_
  refine lv (v := (.bool (decide ((p0_sizes.length : Int) = 0)))) rfl rfl (r_eql (p0_sizes.length : Int) 0 rfl rfl) ?_
  refine lnil ?_
  refine wcond (decide ((p0_sizes.length : Int) = 0)) rfl (fun hb => ?_) (fun hb => ?_)
  · rw [if_pos hb] at hm
    clear hb
    refine wseq ?_
    refine wregion ?_
    refine lv (v := (.slice none (([] : List Int).length) 0)) rfl rfl (r_assign rfl) ?_
    refine lnil ?_
    refine wret ?_
    cases hm
    refine ⟨_, [], rfl, hmk, ?_⟩
    intro w_6 hk_7 hs_8
    clear hmk
    replace hst := hst.kp hk_7 hs_8 (by decide) (by decide)
    exact ⟨colF w0.heap.size col col_3 (fun n => 0), none, 0, rfl, hst.fin (fun n => 0), Own.nil⟩
  · rw [if_neg (by rw [hb]; decide)] at hm
    clear hb
    refine wskip ?_
    refine wseq ?_
    refine wregion ?_
    refine lv (v := (.slice a0 p0_sizes.length cap0)) rfl rfl (r_move rfl) ?_
    refine lv (v := (.int .i64 (p0_sizes.length : Int))) rfl rfl (r_len Try.underlying25 rfl) ?_
    obtain ⟨hb_9, hm⟩ := chk_some hm
    refine l_make (col := col_3) (w := w_2) (r := (Rep.int .i32)) (n := p0_sizes.length) (x0 := 0) 2 rfl Try.underlying25 Try.t21 rfl rfl rfl rfl rfl rfl rfl hb_9.1 hb_9.2 (rd_int .i32 0) ?_
    intro a_10 w_11 col_12 hg_13 h_14
    replace h0 := h0.gr hg_13
    replace hb_5 := hb_5.gr hg_13
    replace hmk := hmk.gr hg_13
    replace hst := hst.grow hg_13
    refine l_alloc (col := col_12) (v := (.slice none (([] : List Int).length) 0)) 3 rfl Try.zeroValue25 ?_
    intro g_15 w_16 col_17 hg_18 hb_19
    replace h0 := h0.gr hg_18
    replace h_14 := h_14.gr hg_18
    replace hb_5 := hb_5.gr hg_18
    replace hmk := hmk.gr hg_18
    replace hst := hst.grow hg_18
    replace hb_19 : Box 25 3 col_17 w_16 g_15 #[(.slice none (([] : List Int).length) 0)] := hb_19
    refine l_bstore (v := (.slice a_10 ((List.replicate p0_sizes.length (0 : Int)).length) p0_sizes.length)) hb_19 Try.sizeOf25 rfl rfl (by intro u hu; simp only [Value.cells, List.mem_cons, List.not_mem_nil, or_false] at hu; subst hu; rfl) rfl rfl ?_
    intro w_20 hk_21 hs_22 hb_23
    replace h0 := h0.kp hk_21 (by decide)
    replace h_14 := h_14.kp hk_21 (by decide) (by decide)
    replace hb_5 := hb_5.kp hk_21 (by decide)
    replace hmk := hmk.kp hk_21 (by decide)
    replace hst := hst.kp hk_21 hs_22 (by decide) (by decide)
    clear hb_19
    replace hb_23 : Box 25 3 col_17 w_20 g_15 #[(.slice a_10 ((List.replicate p0_sizes.length (0 : Int)).length) p0_sizes.length)] := hb_23
    refine lnil ?_
    refine wseq ?_
    refine wseq ?_
    refine wregion ?_
    refine lv (v := (.slice a0 p0_sizes.length cap0)) rfl rfl (r_move rfl) ?_
    obtain ⟨r_24, hr_25, hm⟩ := bind_some hm
    refine lc rfl rfl (r_call1 Try.call39 rfl) (c_slices_Backward_int32_int32 N col_17 _ a0 cap0 p0_sizes h0 r_24 hr_25) ?_
    rintro _ w_28 ⟨col_30, rv_26, rfl, hg_29, rh_27⟩
    refine ⟨_, rfl, ?_⟩
    replace h_14 := h_14.gr hg_29
    replace h0 := h0.gr hg_29
    replace hb_5 := hb_5.gr hg_29
    replace hb_23 := hb_23.gr hg_29
    replace hmk := hmk.gr hg_29
    replace hst := hst.grow hg_29
    refine lnil ?_
    refine wblock ?_
    refine wrange (psl := [16, 17]) (arr := (fun (y : Int × Int) (col : Col) (w : World) (args : List Value) => args = [.int .i64 y.1, .int .i32 y.2])) (ys := r_24) (col := col_30) 498 rfl rh_27 rfl hmk rfl rfl (by rintro _ _ _ _ rfl; rfl) (fun ys_ col_32 w_31 => ∃ (at_33 : Int) (a_35 : Option Addr) (cap_36 : Nat) (out_34 : List Int), m_radix_digits_int32_L1 ys_ at_33 out_34 = some r ∧ St w0 (col0 col) col_32 w_31 ∧ Box 3 1 col_32 w_31 g_1 #[(.int .i64 at_33)] ∧ Own (Rep.int .i32) 21 2 col_32 w_31 a_35 cap_36 out_34 ∧ Box 25 3 col_32 w_31 g_15 #[(.slice a_35 out_34.length cap_36)]) (fun _ _ _ => False) ?_ ?_ ⟨p1_at, a_10, p0_sizes.length, (List.replicate p0_sizes.length (0 : Int)), hm, hst, hb_5, h_14, hb_23⟩ ?_ ?_ ?_
    · intro ys_ col_32 w_31 col2_ w2_ hJ hk
      obtain ⟨at_33, a_35, cap_36, out_34, hm, hst, hb_5, h_37, hb_23⟩ := hJ
      exact ⟨at_33, a_35, cap_36, out_34, hm, hst.kpp hk rfl rfl, hb_5.kpp hk rfl, h_37.kpp hk rfl rfl, hb_23.kpp hk rfl⟩
    · intro _ _ _ _ _ h _
      exact h
    · intro l_44 rc_45 ds_46 y_38 l_39 col_32 w_31 args hJ hrec hmk harr
      obtain ⟨at_33, a_35, cap_36, out_34, hm, hst, hb_5, h_37, hb_23⟩ := hJ
      rw [m_radix_digits_int32_L1.eq_2] at hm
      have hki := KeepP.refl pCo col_32 w_31
      subst harr
      refine wseq ?_
      refine wregion ?_
      refine lv (v := (.int .i64 y_38.1)) rfl rfl (r_assign rfl) ?_
      refine lnil ?_
      refine wregion ?_
      refine lv (v := (.int .i32 y_38.2)) rfl rfl (r_assign rfl) ?_
      refine lnil ?_
      refine ⟨_, hrec, ?_⟩
      intro w_47 rc_48 hk_49 hs_50 hrec2
      replace h_37 := h_37.kp hk_49 (by decide) (by decide)
      replace hb_5 := hb_5.kp hk_49 (by decide)
      replace hb_23 := hb_23.kp hk_49 (by decide)
      replace hmk := hmk.kp hk_49 (by decide)
      replace hki := hki.kp hk_49 hs_50 rfl
      replace hst := hst.kp hk_49 hs_50 (by decide) (by decide)
      clear hrec
      have hrec := hrec2
      clear hrec2
      refine wblock ?_
      refine wseq ?_
      refine wmix (col := col_32) [(0, 0), (1, 1), (2, 0), (3, 1), (4, 1), (5, 1), (6, 1), (7, 1), (8, 2)] (by kernel_rfl) (by kernel_rfl) ?_
      refine xv (v := (.slice a_35 out_34.length cap_36)) rfl rfl (fun _ hC => r_ld Try.isAgg25 rfl (hb_23.at1.gr (Grow.of_below (col := col_32) hC.below))) ?_
      refine xu (v := (.int .i64 y_38.1)) rfl rfl (fun _ => r_move rfl) ?_
      refine xv (v := (.int .i64 at_33)) rfl rfl (fun _ hC => r_ld Try.isAgg3 rfl (hb_5.at1.gr (Grow.of_below (col := col_32) hC.below))) ?_
      refine xu (v := (.int .i32 y_38.2)) rfl rfl (fun _ => r_move rfl) ?_
      refine xu (v := (.int .i64 (IntKind.i64.wrap y_38.2))) rfl rfl (fun _ => r_conv y_38.2 ⟨_, Try.underlying21⟩ Try.underlying3 rfl) ?_
      obtain ⟨h0_51, hm⟩ := chk_some hm
      refine xu (v := (.int .i64 (Int.tmod at_33 (IntKind.i64.wrap y_38.2)))) rfl rfl (fun _ => r_rem at_33 (IntKind.i64.wrap y_38.2) rfl rfl h0_51) ?_
      refine xu (v := (.int .i32 (IntKind.i32.wrap (Int.tmod at_33 (IntKind.i64.wrap y_38.2))))) rfl rfl (fun _ => r_conv (Int.tmod at_33 (IntKind.i64.wrap y_38.2)) ⟨_, Try.underlying3⟩ Try.underlying21 rfl) ?_
      obtain ⟨e_52, hj_53, hm⟩ := bind_some hm
      refine xu (v := (sptr a_35 (Int.toNat y_38.1 * 1))) rfl rfl (fun _ => r_idx Try.underlying25 Try.sizeOf21 rfl rfl (at?_some hj_53).1 (at?_some hj_53).2.1 (h_37.addr hj_53)) ?_
      refine xe rfl rfl ?_
      intro w_54 hC0
      have hC : Grow col_32 w_47 col_32 w_54 := .of_below hC0.below
      replace h_37 := h_37.gr hC
      replace hb_5 := hb_5.gr hC
      replace hb_23 := hb_23.gr hC
      replace hrec := hrec.gr hC
      replace hmk := hmk.gr hC
      replace hki := hki.gr hC
      replace hst := hst.grow hC
      obtain ⟨xs_60, hz_59, hm⟩ := bind_some hm
      have hz_59 : xs_60 = out_34.set (Int.toNat y_38.1) (IntKind.i32.wrap (Int.tmod at_33 (IntKind.i64.wrap y_38.2))) := (Option.some.inj hz_59).symm
      refine l_store (x1 := IntKind.i32.wrap (Int.tmod at_33 (IntKind.i64.wrap y_38.2))) (v := (.int .i32 (IntKind.i32.wrap (Int.tmod at_33 (IntKind.i64.wrap y_38.2))))) h_37 hj_53 rfl Try.sizeOf21 (rd_int .i32 (IntKind.i32.wrap (Int.tmod at_33 (IntKind.i64.wrap y_38.2)))) rfl rfl (by decide) ?_
      intro w_55 hk_56 hs_57 h_58
      rw [← hz_59] at h_58
      replace hb_5 := hb_5.kp hk_56 (by decide)
      replace hb_23 := hb_23.kp hk_56 (by decide)
      replace hrec := hrec.kp hk_56 (by decide)
      replace hmk := hmk.kp hk_56 (by decide)
      replace hki := hki.kp hk_56 hs_57 rfl
      replace hst := hst.kp hk_56 hs_57 (by decide) (by decide)
      replace hb_23 : Box 25 3 col_32 w_55 g_15 #[(.slice a_35 xs_60.length cap_36)] := by rw [← (show out_34.length = xs_60.length by rw [hz_59, List.length_set])]; exact hb_23
      clear h_37
      refine lnil ⟨fun w' => Grow col_32 w_55 col_32 w', Grow.refl _ _, fun h => absurd h (by decide), ?_⟩
      refine xnil ?_
      intro w_61 hC
      replace hC : Grow col_32 w_55 col_32 w_61 := .of_below hC.below
      replace h_58 := h_58.gr hC
      replace hb_5 := hb_5.gr hC
      replace hb_23 := hb_23.gr hC
      replace hrec := hrec.gr hC
      replace hmk := hmk.gr hC
      replace hki := hki.gr hC
      replace hst := hst.grow hC
      refine wregion ?_
      refine lv (v := (.int .i64 at_33)) rfl rfl (r_ld Try.isAgg3 rfl hb_5.at1) ?_
      refine lv (v := (.int .i32 y_38.2)) rfl rfl (r_move rfl) ?_
      refine lv (v := (.int .i64 (IntKind.i64.wrap y_38.2))) rfl rfl (r_conv y_38.2 ⟨_, Try.underlying21⟩ Try.underlying3 rfl) ?_
      obtain ⟨h0_62, hm⟩ := chk_some hm
      refine lv (v := (.int .i64 (IntKind.i64.wrap (Int.tdiv at_33 (IntKind.i64.wrap y_38.2))))) rfl rfl (r_quo at_33 (IntKind.i64.wrap y_38.2) rfl rfl h0_62) ?_
      refine l_bstore (v := (.int .i64 (IntKind.i64.wrap (Int.tdiv at_33 (IntKind.i64.wrap y_38.2))))) hb_5 Try.sizeOf3 rfl rfl (by intro u hu; simp only [Value.cells, List.mem_cons, List.not_mem_nil, or_false] at hu; subst hu; rfl) rfl rfl ?_
      intro w_63 hk_64 hs_65 hb_66
      replace h_58 := h_58.kp hk_64 (by decide) (by decide)
      replace hb_23 := hb_23.kp hk_64 (by decide)
      replace hrec := hrec.kp hk_64 (by decide)
      replace hmk := hmk.kp hk_64 (by decide)
      replace hki := hki.kp hk_64 hs_65 rfl
      replace hst := hst.kp hk_64 hs_65 (by decide) (by decide)
      clear hb_5
      replace hb_66 : Box 3 1 col_32 w_63 g_1 #[(.int .i64 (IntKind.i64.wrap (Int.tdiv at_33 (IntKind.i64.wrap y_38.2))))] := hb_66
      refine lnil ?_
      exact ⟨_, hki, ⟨(IntKind.i64.wrap (Int.tdiv at_33 (IntKind.i64.wrap y_38.2))), a_35, cap_36, xs_60, hm, hst, hb_66, h_58, hb_23⟩, hrec, hmk⟩
    · clear hmk
      intro D_40 col_32 w_31 hJ hmk
      obtain ⟨at_33, a_35, cap_36, out_34, hm, hst, hb_5, h_37, hb_23⟩ := hJ
      rw [m_radix_digits_int32_L1.eq_1] at hm
      refine wseq ?_
      refine wregion ?_
      refine lv (v := (.slice a_35 out_34.length cap_36)) rfl rfl (r_ld Try.isAgg25 rfl hb_23.at1) ?_
      refine lv (v := (.slice a_35 out_34.length cap_36)) rfl rfl (r_assign rfl) ?_
      refine lnil ?_
      refine wret ?_
      cases hm
      refine ⟨_, (D_40 :: []), rfl, hmk, ?_⟩
      intro w_41 hk_42 hs_43
      clear hmk
      replace h_37 := h_37.kp hk_42 (by decide) (by decide)
      replace hst := hst.kp hk_42 hs_43 (by decide) (by decide)
      exact ⟨colF w0.heap.size col col_32 (fun n => bif Nat.beq n 2 then c1 else 0), a_35, cap_36, rfl, hst.fin (fun n => bif Nat.beq n 2 then c1 else 0), hst.finOwn (g := (fun n => bif Nat.beq n 2 then c1 else 0)) rfl h_37 (by decide) (by decide) rfl⟩
    · intro _ _ _ _ h
      exact h.elim




def m_radix_All_int32_1_L1 (N : Nat) (v0_v : Int) (v1_v : List Int) : Nat → Int → Option (List (Int × (List Int)))
  | 0, _ => none
  | n_1 + 1, v_4 => if (decide (v_4 < v0_v)) = true then ((m_radix_digits_int32 N v1_v v_4).bind fun r_5 => ((m_radix_All_int32_1_L1 N v0_v v1_v n_1) (IntKind.i64.wrap (v_4 + 1))).bind fun r_14 => some ((v_4, r_5) :: r_14)) else (some [])

def m_radix_All_int32_1 (N : Nat) (v0_v : Int) (v1_v : List Int) : Option (List (Int × (List Int))) :=
  m_radix_All_int32_1_L1 N v0_v v1_v N 0

set_option maxRecDepth 100000 in
theorem c_radix_All_int32_1 (N : Nat) (cy : Nat) (col : Col) (w0 : World) (g0 : Nat) (v0_v : Int) (hb0 : Box 3 450 col w0 g0 #[(.int .i64 v0_v)]) (g1 : Nat) (af1 : Option Addr) (capf1 : Nat) (v1_v : List Int) (hf1 : Own (Rep.int .i32) 21 450 col w0 af1 capf1 v1_v) (hb1 : Box 25 450 col w0 g1 #[(.slice af1 v1_v.length capf1)]) (r : List (Int × (List Int))) (hm : m_radix_All_int32_1 N v0_v v1_v = some r) :
    Goes Try.prog 32 [(.pointer (some ⟨g0, 0, none⟩)), (.pointer (some ⟨g1, 0, none⟩))] (fun (y : Int × (List Int)) (col : Col) (w : World) (args : List Value) => ∃ (a1 : Option Addr) (cap1 : Nat), args = [.int .i64 y.1, .slice a1 y.2.length cap1] ∧ Own (Rep.int .i32) 21 cy col w a1 cap1 y.2) r col w0 := by
  intro l J X hjs hxs hy hst
  refine calls_of0 (m := 17) (args := [.func (.yield l) #[] #[], (.pointer (some ⟨g0, 0, none⟩)), (.pointer (some ⟨g1, 0, none⟩))]) Try.func32 rfl rfl rfl rfl ?_
  rw [m_radix_All_int32_1.eq_1] at hm
  refine wseq ?_
  refine wregion ?_
  refine lv (v := (.int .i64 v0_v)) rfl rfl (r_ld Try.isAgg3 rfl hb0.at1) ?_
  refine lv (v := (.int .i64 0)) rfl rfl (r_move rfl) ?_
  refine lnil ?_
  refine wblock ?_
  refine wloop (fun n f w_2 => ∃ (col_3 : Col) (r : List (Int × (List Int))) (v_4 : Int) (n_1 : Nat), n_1 = n ∧ m_radix_All_int32_1_L1 N v0_v v1_v n_1 v_4 = some r ∧ J r col_3 w_2 ∧ Own (Rep.int .i32) 21 450 col_3 w_2 af1 capf1 v1_v ∧ Box 25 450 col_3 w_2 g1 #[(.slice af1 v1_v.length capf1)] ∧ Box 3 450 col_3 w_2 g0 #[(.int .i64 v0_v)] ∧ f 0 = (.func (.yield l) #[] #[]) ∧ f 2 = (.pointer (some ⟨g1, 0, none⟩)) ∧ f 5 = (.int .i64 v0_v) ∧ f 6 = (.int .i64 v_4) ∧ f 1000000 = (enc [])) N ⟨col, r, 0, N, rfl, hm, hst, hf1, hb1, hb0, rfl, rfl, rfl, rfl, rfl⟩ ?_
  clear hm; intro n f w_2 hI
  obtain ⟨col_3, r, v_4, n_1, hn, hm, hst, hf1, hb1, hb0, hs0, hs2, hs5, hs6, hs1000000⟩ := hI
  subst hn
  refine .ld (d := 0) (v := (.func (.yield l) #[] #[])) hs0 ?_
  refine .ld (d := 2) (v := (.pointer (some ⟨g1, 0, none⟩))) hs2 ?_
  refine .ld (d := 5) (v := (.int .i64 v0_v)) hs5 ?_
  refine .ld (d := 6) (v := (.int .i64 v_4)) hs6 ?_
  refine .ld (d := 1000000) (v := (enc [])) hs1000000 ?_
  clear hs0 hs2 hs5 hs6 hs1000000
  cases n_1 with
  | zero => rw [m_radix_All_int32_1_L1.eq_1] at hm; cases hm
  | succ n_1 =>
    rw [m_radix_All_int32_1_L1.eq_2] at hm
    refine wseq ?_
    refine wregion ?_
    refine lv (v := (.bool (decide (v_4 < v0_v)))) rfl rfl (r_lss v_4 v0_v rfl rfl) ?_
    refine lnil ?_
    refine wseq ?_
    refine wcond (decide (v_4 < v0_v)) rfl (fun hb => ?_) (fun hb => ?_)
    · rw [if_pos hb] at hm
      clear hb
      refine wskip ?_
      refine wseq ?_
      refine wblock ?_
      refine wseq ?_
      refine wregion ?_
      refine lv (v := (.int .i64 v_4)) rfl rfl (r_move rfl) ?_
      refine lv (v := (.int .i64 v_4)) rfl rfl (r_assign rfl) ?_
      refine lnil ?_
      refine wseq ?_
      refine wregion ?_
      refine lv (v := (.func (.yield l) #[] #[])) rfl rfl (r_move rfl) ?_
      refine lv (v := (.int .i64 v_4)) rfl rfl (r_move rfl) ?_
      refine lv (v := (.slice af1 v1_v.length capf1)) rfl rfl (r_ld Try.isAgg25 rfl hb1.at1) ?_
      refine lv (v := (.int .i64 v_4)) rfl rfl (r_move rfl) ?_
      obtain ⟨r_5, hr_6, hm⟩ := bind_some hm
      refine lc rfl rfl (r_call2 Try.call33 rfl rfl) (c_radix_digits_int32 N 501 (frC 450 col_3) _ af1 capf1 v1_v v_4 (hf1.toSlF (Froz.int .i32)) r_5 hr_6) ?_
      rintro _ w_10 ⟨col_12, ra_7, rc_8, rfl, hg_11, rh_9⟩
      refine ⟨_, rfl, ?_⟩
      replace rh_9 := rh_9.thaw (flat_int .i32) hg_11 ((Fz.refl (col := col_3)).froz 450) (by decide)
      replace hg_11 := hg_11.thawR (col := col_3)
      generalize colR w_2.heap.size col_3 col_12 = col_13 at *
      replace hf1 := hf1.gr hg_11
      replace hb1 := hb1.gr hg_11
      replace hb0 := hb0.gr hg_11
      replace hst := hjs _ _ _ _ _ hst hg_11.toP
      replace hf1 := hf1.recol 501 cy (by decide)
      replace rh_9 := rh_9.recolSelf cy (by decide)
      replace hb1 := hb1.recol 501 cy (by decide)
      replace hb0 := hb0.recol 501 cy (by decide)
      replace hst := hjs _ _ _ _ _ hst ((KeepP.refl _ _ _).recol 501 cy rfl)
      obtain ⟨r_14, hc_15m, hc_15⟩ := bind_some hm
      cases hc_15
      have hm := hc_15m
      clear hc_15m
      refine ly2 rfl rfl rfl rfl (hy _ _ _ _ [(.int .i64 v_4), (.slice ra_7 r_5.length rc_8)] hst ⟨ra_7, rc_8, rfl, rh_9⟩) ?_
      rintro _ w_16 ⟨col_17, hk_18, ⟨rfl, hJ⟩ | ⟨rfl, hX⟩⟩
      · refine ⟨_, rfl, ?_⟩
        clear hst
        replace hf1 := hf1.kpp hk_18 rfl rfl
        replace hb1 := hb1.kpp hk_18 rfl
        replace hb0 := hb0.kpp hk_18 rfl
        have hst := hJ
        clear hJ
        refine lv (v := (.bool false)) rfl rfl (r_not true rfl) ?_
        refine lnil ?_
        refine wcondF rfl ?_
        refine wskip ?_
        refine wregion ?_
        refine lv (v := (.int .i64 (IntKind.i64.wrap (v_4 + 1)))) rfl rfl (r_add v_4 1 rfl rfl) ?_
        refine lv (v := (.int .i64 (IntKind.i64.wrap (v_4 + 1)))) rfl rfl (r_move rfl) ?_
        refine lnil ?_
        exact ⟨n_1, by omega, ⟨col_17, r_14, (IntKind.i64.wrap (v_4 + 1)), n_1, rfl, hm, hst, hf1, hb1, hb0, rfl, rfl, rfl, rfl, rfl⟩⟩
      · clear hm
        refine ⟨_, rfl, ?_⟩
        clear hst
        replace hf1 := hf1.kpp hk_18 rfl rfl
        replace hb1 := hb1.kpp hk_18 rfl
        replace hb0 := hb0.kpp hk_18 rfl
        have hst := hX
        clear hX
        refine lv (v := (.bool true)) rfl rfl (r_not false rfl) ?_
        refine lnil ?_
        refine wcondT rfl ?_
        refine wret ?_
        exact ⟨rfl, ⟨_, rfl⟩, _, .inr hst⟩
    · rw [if_neg (by rw [hb]; decide)] at hm
      clear hb
      refine wexit (inB_hit ?_)
      cases hm
      exact ⟨rfl, ⟨_, rfl⟩, _, .inl hst⟩




def m_radix_All_int32 (N : Nat) (p0_sizes : (List Int)) : Option (List (Int × (List Int))) :=
  (m_slices_Clone_int32_int32 p0_sizes).bind fun r_1 => (m_radix_Count_int32 r_1).bind fun r_18 => m_radix_All_int32_1 N r_18.1 r_1

set_option maxRecDepth 100000 in
theorem c_radix_All_int32 (N : Nat) (cy : Nat) (col : Col) (w0 : World) (a0 : Option Addr) (cap0 : Nat) (p0_sizes : (List Int)) (h0 : Sl (Rep.int .i32) col w0 a0 cap0 p0_sizes) (r : (List (Int × (List Int)))) (hm : m_radix_All_int32 N p0_sizes = some r) :
    Calls Try.prog 18 #[(.slice a0 p0_sizes.length cap0)] w0 (fun e w' => ∃ (col' : Col) (rv1 : Value), e = .returned (rv1) ∧ Grow col w0 col' w' ∧ It Try.prog rv1 (fun (y : Int × (List Int)) (col : Col) (w : World) (args : List Value) => ∃ (a1 : Option Addr) (cap1 : Nat), args = [.int .i64 y.1, .slice a1 y.2.length cap1] ∧ Own (Rep.int .i32) 21 cy col w a1 cap1 y.2) r q1 col' w') := by
  refine calls_of1 2 (m := 14) (args := [(.slice a0 p0_sizes.length cap0)]) Try.func18 rfl rfl rfl rfl rfl ?_
  rw [m_radix_All_int32.eq_1] at hm
  have hst := St.start col w0
  replace h0 := h0.keep (Stay.start col w0)
  refine wseq ?_
  refine wregion ?_
  refine lv (v := _) rfl rfl (r_assign rfl) ?_
  refine lnil ?_
  refine wseq ?_
  refine wregion ?_
  refine lv (v := (.slice a0 p0_sizes.length cap0)) rfl rfl (r_move rfl) ?_
  obtain ⟨r_1, hr_2, hm⟩ := bind_some hm
  refine lc rfl rfl (r_call1 Try.call30 rfl) (c_slices_Clone_int32_int32 1 (col0 col) _ a0 cap0 p0_sizes h0 r_1 hr_2) ?_
  rintro _ w_6 ⟨col_8, ra_3, rc_4, rfl, hg_7, rh_5⟩
  refine ⟨_, rfl, ?_⟩
  replace h0 := h0.gr hg_7
  replace hst := hst.grow hg_7
  refine l_alloc (col := col_8) (v := (.slice none (([] : List Int).length) 0)) 2 rfl Try.zeroValue25 ?_
  intro g_9 w_10 col_11 hg_12 hb_13
  replace rh_5 := rh_5.gr hg_12
  replace hst := hst.grow hg_12
  replace hb_13 : Box 25 2 col_11 w_10 g_9 #[(.slice none (([] : List Int).length) 0)] := hb_13
  refine l_bstore (v := (.slice ra_3 r_1.length rc_4)) hb_13 Try.sizeOf25 rfl rfl (by intro u hu; simp only [Value.cells, List.mem_cons, List.not_mem_nil, or_false] at hu; subst hu; rfl) rfl rfl ?_
  intro w_14 hk_15 hs_16 hb_17
  replace rh_5 := rh_5.kp hk_15 (by decide) (by decide)
  replace hst := hst.kp hk_15 hs_16 (by decide) (by decide)
  clear hb_13
  replace hb_17 : Box 25 2 col_11 w_14 g_9 #[(.slice ra_3 r_1.length rc_4)] := hb_17
  refine lnil ?_
  refine wseq ?_
  refine wregion ?_
  refine lv (v := (.slice ra_3 r_1.length rc_4)) rfl rfl (r_ld Try.isAgg25 rfl hb_17.at1) ?_
  obtain ⟨r_18, hr_19, hm⟩ := bind_some hm
  refine lc rfl rfl (r_call1 Try.call31 rfl) (c_radix_Count_int32 (frC 1 col_11) _ ra_3 rc_4 r_1 (rh_5.toSlF (Froz.int .i32)) r_18 hr_19) ?_
  rintro _ w_20 ⟨rfl, hg_21⟩
  refine ⟨_, rfl, ?_⟩
  replace hg_21 : Grow col_11 w_14 col_11 w_20 := .of_below hg_21
  replace rh_5 := rh_5.gr hg_21
  replace hb_17 := hb_17.gr hg_21
  replace hst := hst.grow hg_21
  refine lv (v := (.tuple #[(.int .i64 r_18.1), (.int .i64 r_18.2)])) rfl rfl (r_move rfl) ?_
  refine lv (v := (.int .i64 r_18.1)) rfl rfl (r_extract rfl rfl) ?_
  refine lv (v := (.int .i64 r_18.2)) rfl rfl (r_extract rfl rfl) ?_
  refine l_alloc (col := col_11) (v := (.int .i64 0)) 3 rfl Try.zeroValue3 ?_
  intro g_22 w_23 col_24 hg_25 hb_26
  replace rh_5 := rh_5.gr hg_25
  replace hb_17 := hb_17.gr hg_25
  replace hst := hst.grow hg_25
  replace hb_26 : Box 3 3 col_24 w_23 g_22 #[(.int .i64 0)] := hb_26
  refine l_bstore (v := (.int .i64 r_18.1)) hb_26 Try.sizeOf3 rfl rfl (by intro u hu; simp only [Value.cells, List.mem_cons, List.not_mem_nil, or_false] at hu; subst hu; rfl) rfl rfl ?_
  intro w_27 hk_28 hs_29 hb_30
  replace rh_5 := rh_5.kp hk_28 (by decide) (by decide)
  replace hb_17 := hb_17.kp hk_28 (by decide)
  replace hst := hst.kp hk_28 hs_29 (by decide) (by decide)
  clear hb_26
  replace hb_30 : Box 3 3 col_24 w_27 g_22 #[(.int .i64 r_18.1)] := hb_30
  refine lv (v := (.int .i64 r_18.2)) rfl rfl (r_assign rfl) ?_
  refine lnil ?_
  refine wseq ?_
  refine wregion ?_
  refine lv (v := (.func (.func 32) #[] #[(.pointer (some ⟨g_22, 0, none⟩)), (.pointer (some ⟨g_9, 0, none⟩))])) rfl rfl (r_func2 rfl rfl) ?_
  refine lv (v := (.func (.func 32) #[] #[(.pointer (some ⟨g_22, 0, none⟩)), (.pointer (some ⟨g_9, 0, none⟩))])) rfl rfl (r_assign rfl) ?_
  refine lnil ?_
  refine wret ?_
  have hb_30f := hst.finBox (G := (fun n => bif Nat.beq n 3 then 450 else bif Nat.beq n 2 then 450 else bif Nat.beq n 1 then 450 else 0)) hb_30 (by decide) (by decide) (show (fun n => bif Nat.beq n 3 then 450 else bif Nat.beq n 2 then 450 else bif Nat.beq n 1 then 450 else 0) 3 = 450 from rfl)
  have hb_17f := hst.finBox (G := (fun n => bif Nat.beq n 3 then 450 else bif Nat.beq n 2 then 450 else bif Nat.beq n 1 then 450 else 0)) hb_17 (by decide) (by decide) (show (fun n => bif Nat.beq n 3 then 450 else bif Nat.beq n 2 then 450 else bif Nat.beq n 1 then 450 else 0) 2 = 450 from rfl)
  have rh_5f := hst.finOwn (g := (fun n => bif Nat.beq n 3 then 450 else bif Nat.beq n 2 then 450 else bif Nat.beq n 1 then 450 else 0)) rfl rh_5 (by decide) (by decide) (show (fun n => bif Nat.beq n 3 then 450 else bif Nat.beq n 2 then 450 else bif Nat.beq n 1 then 450 else 0) 1 = 450 from rfl)
  refine ⟨rfl, colF w0.heap.size col col_24 (fun n => bif Nat.beq n 3 then 450 else bif Nat.beq n 2 then 450 else bif Nat.beq n 1 then 450 else 0), _, rfl, hst.fin (fun n => bif Nat.beq n 3 then 450 else bif Nat.beq n 2 then 450 else bif Nat.beq n 1 then 450 else 0), 32, [(.pointer (some ⟨g_22, 0, none⟩)), (.pointer (some ⟨g_9, 0, none⟩))], rfl, Try.call32, ?_⟩
  intro col9 w9 hs9 hk9
  replace hb_30f := hb_30f.itk hs9 hk9 rfl
  replace hb_17f := hb_17f.itk hs9 hk9 rfl
  replace rh_5f := rh_5f.itk hs9 hk9 rfl (flat_int .i32)
  exact c_radix_All_int32_1 N cy col9 w9 g_22 r_18.1 hb_30f g_9 ra_3 rc_4 r_1 rh_5f hb_17f r hm


end Go.Proofs.Ytjnkbkbllcfoaaa
