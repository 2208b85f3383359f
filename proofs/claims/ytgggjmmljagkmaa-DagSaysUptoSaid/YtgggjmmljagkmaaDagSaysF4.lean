/-
  What functions of the program compute, as plain Lean functions (m_..), and proofs that they compute it (c_..). Printed by a program of the author; no conditions.
-/
import Derived.Test.YtgggjmmljagkmaaCell
import Derived.Test.YtgggjmmljagkmaaProg
import Derived.Test.YtgggjmmljagkmaaDagSaysF3
set_option linter.unusedVariables false
namespace Go.Proofs.Ytgggjmmljagkmaa
open Go Go.RowKit


theorem el3_21 : ElemOk Try.prog 3 1 8 := ⟨Try.t3, _, rfl, rfl, rfl, rfl, rfl⟩
theorem el31_21 : ElemOk Try.prog 31 1 24 := ⟨Try.t31, _, rfl, rfl, rfl, rfl, rfl⟩

def m_credencelaw14_made_L2 (N : Nat) (now_123 : List (List Int)) (i_127 : Int) (kk_L1 : ((List (List Int)) → Int → (List (List Int)) → Option Bool)) : Nat → Int → (List (List Int)) → Option Bool
  | 0, _, _ => none
  | n_132 + 1, k_135, l_136 => (at? l_136 i_127).bind fun e_140 => if (decide (k_135 < (e_140.length : Int))) = true then ((at? e_140 k_135).bind fun e_154 => (some (e_140.set (Int.toNat k_135) (IntKind.i64.wrap ((IntKind.i64.wrap ((l_136.length : Int) - 1)) - e_154)))).bind fun xs_162 => (m_credencelaw14_made_L2 N now_123 i_127 kk_L1 n_132) (IntKind.i64.wrap (k_135 + 1)) (l_136.set (Int.toNat i_127) xs_162)) else (chk ((([] : List Int).length + e_140.length) * 8 ≤ 140737488355328 ∧ ([] : List Int).length + e_140.length ≤ maxLen) (chk ((now_123.length + [([] : List Int) ++ e_140].length) * 24 ≤ 140737488355328 ∧ now_123.length + [([] : List Int) ++ e_140].length ≤ maxLen) (kk_L1 (now_123 ++ [([] : List Int) ++ e_140]) (IntKind.i64.wrap (i_127 + 1)) l_136)))

def m_credencelaw14_made_J3 (v_219 : Bool) : Option Bool :=
  some v_219

def m_credencelaw14_made_L1 (N : Nat) (p0_do : Int) (p2_points : (List Int)) (r_1 : ((List (List Int)) × Int)) (r_19 : (List Int)) (r_37 : ((List (List Int)) × Int)) : Nat → (List (List Int)) → Int → (List (List Int)) → Option Bool
  | 0, _, _, _ => none
  | n_120 + 1, now_123, i_127, l_128 => if (decide (i_127 < (l_128.length : Int))) = true then (m_credencelaw14_made_L2 N now_123 i_127 (m_credencelaw14_made_L1 N p0_do p2_points r_1 r_19 r_37 n_120) N 0 l_128) else ((m_credencelaw14_told N p0_do now_123 p2_points).bind fun r_189 => (m_credencelaw14_call N p0_do l_128 (r_19.take (Int.toNat (p2_points.length : Int)))).bind fun r_198 => if (decide (r_198.2 = r_189.2)) = true then ((m_credencelaw14_same N r_198.1 r_189.1).bind fun r_221 => if r_221 = true then ((m_credencelaw14_same N r_37.1 r_1.1).bind fun r_226 => m_credencelaw14_made_J3 r_226) else (m_credencelaw14_made_J3 false)) else (m_credencelaw14_made_J3 false))

def m_credencelaw14_made_J2 (N : Nat) (p0_do : Int) (p2_points : (List Int)) (r_1 : ((List (List Int)) × Int)) (r_9 : ((Nat × (List (List Int))) × (List (List Int)))) (r_19 : (List Int)) (r_37 : ((List (List Int)) × Int)) (v_118 : Bool) : Option Bool :=
  if v_118 = true then (some false) else (m_credencelaw14_made_L1 N p0_do p2_points r_1 r_19 r_37 N ([] : List (List Int)) 0 (r_9.1.2.take r_9.1.1))

def m_credencelaw14_made_J1 (N : Nat) (p0_do : Int) (p1_parents : (List (List Int))) (p2_points : (List Int)) (r_1 : ((List (List Int)) × Int)) (r_9 : ((Nat × (List (List Int))) × (List (List Int)))) (r_19 : (List Int)) (r_28 : ((List (List Int)) × Int)) (r_37 : ((List (List Int)) × Int)) (r_46 : ((List (List Int)) × Int)) (v_74 : Bool) : Option Bool :=
  if v_74 = true then (some false) else ((m_credencelaw14_spoilt N r_28.1 (-1000)).bind fun r_75 => (m_credencelaw14_spoilt N r_46.1 (-9000)).bind fun r_82 => if (!r_75.1) = true then (m_credencelaw14_made_J2 N p0_do p2_points r_1 r_9 r_19 r_37 true) else (if (!r_82.1) = true then (m_credencelaw14_made_J2 N p0_do p2_points r_1 r_9 r_19 r_37 true) else ((m_credencelaw14_same N r_37.1 r_1.1).bind fun r_234 => if (!r_234) = true then (m_credencelaw14_made_J2 N p0_do p2_points r_1 r_9 r_19 r_37 true) else ((m_credencelaw14_kept N r_9.1.1 r_9.1.2 r_9.2 p1_parents).bind fun r_240 => if (!r_240) = true then (m_credencelaw14_made_J2 N p0_do p2_points r_1 r_9 r_19 r_37 true) else ((m_credencelaw14_long p2_points).bind fun r_246 => (m_credenceref14_Same N r_19 r_246).bind fun r_254 => m_credencelaw14_made_J2 N p0_do p2_points r_1 r_9 r_19 r_37 (!r_254))))))

def m_credencelaw14_made (N : Nat) (p0_do : Int) (p1_parents : (List (List Int))) (p2_points : (List Int)) : Option Bool :=
  (m_credencelaw14_told N p0_do p1_parents p2_points).bind fun r_1 => (m_credencelaw14_lent N p1_parents).bind fun r_9 => (m_credencelaw14_long p2_points).bind fun r_19 => chk ((0 : Int) ≤ (p2_points.length : Int) ∧ (p2_points.length : Int) ≤ (r_19.length : Int)) ((m_credencelaw14_call N p0_do (r_9.1.2.take r_9.1.1) (r_19.take (Int.toNat (p2_points.length : Int)))).bind fun r_28 => (m_credencelaw14_call N p0_do (r_9.1.2.take r_9.1.1) (r_19.take (Int.toNat (p2_points.length : Int)))).bind fun r_37 => (m_credencelaw14_call N p0_do (r_9.1.2.take r_9.1.1) (r_19.take (Int.toNat (p2_points.length : Int)))).bind fun r_46 => if (!decide (r_28.2 = r_1.2)) = true then (m_credencelaw14_made_J1 N p0_do p1_parents p2_points r_1 r_9 r_19 r_28 r_37 r_46 true) else (if (!decide (r_37.2 = r_1.2)) = true then (m_credencelaw14_made_J1 N p0_do p1_parents p2_points r_1 r_9 r_19 r_28 r_37 r_46 true) else (if (!decide (r_46.2 = r_1.2)) = true then (m_credencelaw14_made_J1 N p0_do p1_parents p2_points r_1 r_9 r_19 r_28 r_37 r_46 true) else ((m_credencelaw14_same N r_28.1 r_1.1).bind fun r_261 => if (!r_261) = true then (m_credencelaw14_made_J1 N p0_do p1_parents p2_points r_1 r_9 r_19 r_28 r_37 r_46 true) else ((m_credencelaw14_same N r_37.1 r_1.1).bind fun r_266 => if (!r_266) = true then (m_credencelaw14_made_J1 N p0_do p1_parents p2_points r_1 r_9 r_19 r_28 r_37 r_46 true) else ((m_credencelaw14_same N r_46.1 r_1.1).bind fun r_271 => m_credencelaw14_made_J1 N p0_do p1_parents p2_points r_1 r_9 r_19 r_28 r_37 r_46 (!r_271)))))))

set_option maxRecDepth 100000 in
theorem c_credencelaw14_made (N : Nat) (col : Col) (w0 : World) (p0_do : Int) (a1 : Option Addr) (cap1 : Nat) (p1_parents : (List (List Int))) (a2 : Option Addr) (cap2 : Nat) (p2_points : (List Int)) (h1 : Sl (Rep.slice (Rep.int .i64)) col w0 a1 cap1 p1_parents) (h2 : Sl (Rep.int .i64) col w0 a2 cap2 p2_points) (r : Bool) (hm : m_credencelaw14_made N p0_do p1_parents p2_points = some r) :
    Calls Try.prog 21 #[(.int .i64 p0_do), (.slice a1 p1_parents.length cap1), (.slice a2 p2_points.length cap2)] w0 (fun e w' => e = .returned ((.bool r)) ∧ Below w0.heap.size w0 w') := by
  refine calls_of1 6 (m := 195) (args := [(.int .i64 p0_do), (.slice a1 p1_parents.length cap1), (.slice a2 p2_points.length cap2)]) Try.func21 rfl rfl rfl rfl rfl ?_
  rw [m_credencelaw14_made.eq_1] at hm
  have hst := St.start col w0
  replace h1 := h1.keep (Stay.start col w0)
  replace h2 := h2.keep (Stay.start col w0)
  refine wseq ?_
  refine wregion ?_
  refine lv (v := (.bool false)) rfl rfl (r_assign rfl) ?_
  refine lnil ?_
  refine wseq ?_
  refine wregion ?_
  refine lv (v := (.int .i64 p0_do)) rfl rfl (r_move rfl) ?_
  refine lv (v := (.slice a1 p1_parents.length cap1)) rfl rfl (r_move rfl) ?_
  refine lv (v := (.slice a2 p2_points.length cap2)) rfl rfl (r_move rfl) ?_
  obtain ⟨r_1, hr_2, hm⟩ := bind_some hm
  refine lc rfl rfl (r_call3 Try.call31 rfl rfl rfl) (c_credencelaw14_told N 1 (col0 col) _ p0_do a1 cap1 p1_parents a2 cap2 p2_points h1 h2 r_1 hr_2) ?_
  rintro _ w_6 ⟨col_8, ra_3, rc_4, rfl, hg_7, rh_5⟩
  refine ⟨_, rfl, ?_⟩
  replace h1 := h1.gr hg_7
  replace h2 := h2.gr hg_7
  replace hst := hst.grow hg_7
  refine lv (v := (.tuple #[(.slice ra_3 r_1.1.length rc_4), (.int .i64 r_1.2)])) rfl rfl (r_move rfl) ?_
  refine lv (v := (.slice ra_3 r_1.1.length rc_4)) rfl rfl (r_extract rfl rfl) ?_
  refine lv (v := (.int .i64 r_1.2)) rfl rfl (r_extract rfl rfl) ?_
  refine lv (v := (.slice ra_3 r_1.1.length rc_4)) rfl rfl (r_assign rfl) ?_
  refine lv (v := (.int .i64 r_1.2)) rfl rfl (r_assign rfl) ?_
  refine lnil ?_
  refine wseq ?_
  refine wregion ?_
  refine lv (v := (.slice a1 p1_parents.length cap1)) rfl rfl (r_move rfl) ?_
  obtain ⟨r_9, hr_10, hm⟩ := bind_some hm
  refine lc rfl rfl (r_call1 Try.call10 rfl) (c_credencelaw14_lent N 2 col_8 _ a1 cap1 p1_parents h1 r_9 hr_10) ?_
  rintro _ w_16 ⟨col_18, ra_12, rc_13, ra_14, rc_15, rfl, hg_17, rh_11⟩
  refine ⟨_, rfl, ?_⟩
  replace h1 := h1.gr hg_17
  replace h2 := h2.gr hg_17
  replace rh_5 := rh_5.gr hg_17
  replace hst := hst.grow hg_17
  refine lv (v := (.tuple #[(.slice ra_12 ((r_9.1.2.take r_9.1.1).length) rc_13), (.slice ra_14 r_9.2.length rc_15)])) rfl rfl (r_move rfl) ?_
  refine lv (v := (.slice ra_12 ((r_9.1.2.take r_9.1.1).length) rc_13)) rfl rfl (r_extract rfl rfl) ?_
  refine lv (v := (.slice ra_14 r_9.2.length rc_15)) rfl rfl (r_extract rfl rfl) ?_
  refine lv (v := (.slice ra_12 ((r_9.1.2.take r_9.1.1).length) rc_13)) rfl rfl (r_assign rfl) ?_
  refine lv (v := (.slice ra_14 r_9.2.length rc_15)) rfl rfl (r_assign rfl) ?_
  refine lnil ?_
  refine wseq ?_
  refine wregion ?_
  refine lv (v := (.slice a2 p2_points.length cap2)) rfl rfl (r_move rfl) ?_
  obtain ⟨r_19, hr_20, hm⟩ := bind_some hm
  refine lc rfl rfl (r_call1 Try.call26 rfl) (c_credencelaw14_long 3 col_18 _ a2 cap2 p2_points h2 r_19 hr_20) ?_
  rintro _ w_24 ⟨col_26, ra_21, rc_22, rfl, hg_25, rh_23⟩
  refine ⟨_, rfl, ?_⟩
  replace h1 := h1.gr hg_25
  replace h2 := h2.gr hg_25
  replace rh_5 := rh_5.gr hg_25
  replace rh_11 := rh_11.gr hg_25
  replace hst := hst.grow hg_25
  refine lv (v := (.slice ra_21 r_19.length rc_22)) rfl rfl (r_assign rfl) ?_
  refine lnil ?_
  refine wseq ?_
  refine wregion ?_
  refine lv (v := (.slice ra_21 r_19.length rc_22)) rfl rfl (r_move rfl) ?_
  refine lv (v := (.slice a2 p2_points.length cap2)) rfl rfl (r_move rfl) ?_
  refine lv (v := (.int .i64 (p2_points.length : Int))) rfl rfl (r_len Try.underlying31 rfl) ?_
  obtain ⟨hb_27, hm⟩ := chk_some hm
  refine lv (v := .slice ra_21 (Int.toNat (p2_points.length : Int)) rc_22) rfl rfl (r_sliceH Try.underlying31 Try.sizeOf3 rfl rfl hb_27.1 (by have := rh_23.lecap; have := hb_27.2; omega)) ?_
  refine .ld (d := 44) (v := (.slice ra_21 ((r_19.take (Int.toNat (p2_points.length : Int))).length) rc_22)) (congrArg (fun n => Value.slice ra_21 n rc_22) (List.length_take_of_le (show (Int.toNat (p2_points.length : Int)) ≤ r_19.length by have := hb_27.2; omega)).symm) ?_
  refine lv (v := (.slice ra_21 ((r_19.take (Int.toNat (p2_points.length : Int))).length) rc_22)) rfl rfl (r_assign rfl) ?_
  refine lnil ?_
  refine wseq ?_
  refine wregion ?_
  refine lv (v := (.int .i64 p0_do)) rfl rfl (r_move rfl) ?_
  refine lv (v := (.slice ra_12 ((r_9.1.2.take r_9.1.1).length) rc_13)) rfl rfl (r_move rfl) ?_
  refine lv (v := (.slice ra_21 ((r_19.take (Int.toNat (p2_points.length : Int))).length) rc_22)) rfl rfl (r_move rfl) ?_
  obtain ⟨r_28, hr_29, hm⟩ := bind_some hm
  refine lc rfl rfl (r_call3 Try.call32 rfl rfl rfl) (c_credencelaw14_call N 4 (frC 3 (frC 2 col_26)) _ p0_do ra_12 rc_13 (r_9.1.2.take r_9.1.1) ra_21 rc_22 (r_19.take (Int.toNat (p2_points.length : Int))) (((rh_11.old.take r_9.1.1).toSlF (Froz.row (Froz.int .i64))).froz 3) (((rh_23.take (Int.toNat (p2_points.length : Int))).froz 2 (by decide)).toSlF (Froz.int .i64)) r_28 hr_29) ?_
  rintro _ w_33 ⟨col_35, ra_30, rc_31, rfl, hg_34, rh_32⟩
  refine ⟨_, rfl, ?_⟩
  replace rh_32 := rh_32.thaw (flat_row (flat_int .i64)) hg_34 (((Fz.refl (col := col_26)).froz 2).froz 3) (by decide)
  replace hg_34 := hg_34.thawR (col := col_26)
  generalize colR w_24.heap.size col_26 col_35 = col_36 at *
  replace h1 := h1.gr hg_34
  replace h2 := h2.gr hg_34
  replace rh_5 := rh_5.gr hg_34
  replace rh_11 := rh_11.gr hg_34
  replace rh_23 := rh_23.gr hg_34
  replace hst := hst.grow hg_34
  refine lv (v := (.tuple #[(.slice ra_30 r_28.1.length rc_31), (.int .i64 r_28.2)])) rfl rfl (r_move rfl) ?_
  refine lv (v := (.slice ra_30 r_28.1.length rc_31)) rfl rfl (r_extract rfl rfl) ?_
  refine lv (v := (.int .i64 r_28.2)) rfl rfl (r_extract rfl rfl) ?_
  refine lv (v := (.slice ra_30 r_28.1.length rc_31)) rfl rfl (r_assign rfl) ?_
  refine lv (v := (.int .i64 r_28.2)) rfl rfl (r_assign rfl) ?_
  refine lnil ?_
  refine wseq ?_
  refine wregion ?_
  refine lv (v := (.int .i64 p0_do)) rfl rfl (r_move rfl) ?_
  refine lv (v := (.slice ra_12 ((r_9.1.2.take r_9.1.1).length) rc_13)) rfl rfl (r_move rfl) ?_
  refine lv (v := (.slice ra_21 ((r_19.take (Int.toNat (p2_points.length : Int))).length) rc_22)) rfl rfl (r_move rfl) ?_
  obtain ⟨r_37, hr_38, hm⟩ := bind_some hm
  refine lc rfl rfl (r_call3 Try.call32 rfl rfl rfl) (c_credencelaw14_call N 5 (frC 3 (frC 2 col_36)) _ p0_do ra_12 rc_13 (r_9.1.2.take r_9.1.1) ra_21 rc_22 (r_19.take (Int.toNat (p2_points.length : Int))) (((rh_11.old.take r_9.1.1).toSlF (Froz.row (Froz.int .i64))).froz 3) (((rh_23.take (Int.toNat (p2_points.length : Int))).froz 2 (by decide)).toSlF (Froz.int .i64)) r_37 hr_38) ?_
  rintro _ w_42 ⟨col_44, ra_39, rc_40, rfl, hg_43, rh_41⟩
  refine ⟨_, rfl, ?_⟩
  replace rh_41 := rh_41.thaw (flat_row (flat_int .i64)) hg_43 (((Fz.refl (col := col_36)).froz 2).froz 3) (by decide)
  replace hg_43 := hg_43.thawR (col := col_36)
  generalize colR w_33.heap.size col_36 col_44 = col_45 at *
  replace h1 := h1.gr hg_43
  replace h2 := h2.gr hg_43
  replace rh_5 := rh_5.gr hg_43
  replace rh_11 := rh_11.gr hg_43
  replace rh_23 := rh_23.gr hg_43
  replace rh_32 := rh_32.gr hg_43
  replace hst := hst.grow hg_43
  refine lv (v := (.tuple #[(.slice ra_39 r_37.1.length rc_40), (.int .i64 r_37.2)])) rfl rfl (r_move rfl) ?_
  refine lv (v := (.slice ra_39 r_37.1.length rc_40)) rfl rfl (r_extract rfl rfl) ?_
  refine lv (v := (.int .i64 r_37.2)) rfl rfl (r_extract rfl rfl) ?_
  refine lv (v := (.slice ra_39 r_37.1.length rc_40)) rfl rfl (r_assign rfl) ?_
  refine lv (v := (.int .i64 r_37.2)) rfl rfl (r_assign rfl) ?_
  refine lnil ?_
  refine wseq ?_
  refine wregion ?_
  refine lv (v := (.int .i64 p0_do)) rfl rfl (r_move rfl) ?_
  refine lv (v := (.slice ra_12 ((r_9.1.2.take r_9.1.1).length) rc_13)) rfl rfl (r_move rfl) ?_
  refine lv (v := (.slice ra_21 ((r_19.take (Int.toNat (p2_points.length : Int))).length) rc_22)) rfl rfl (r_move rfl) ?_
  obtain ⟨r_46, hr_47, hm⟩ := bind_some hm
  refine lc rfl rfl (r_call3 Try.call32 rfl rfl rfl) (c_credencelaw14_call N 6 (frC 3 (frC 2 col_45)) _ p0_do ra_12 rc_13 (r_9.1.2.take r_9.1.1) ra_21 rc_22 (r_19.take (Int.toNat (p2_points.length : Int))) (((rh_11.old.take r_9.1.1).toSlF (Froz.row (Froz.int .i64))).froz 3) (((rh_23.take (Int.toNat (p2_points.length : Int))).froz 2 (by decide)).toSlF (Froz.int .i64)) r_46 hr_47) ?_
  rintro _ w_51 ⟨col_53, ra_48, rc_49, rfl, hg_52, rh_50⟩
  refine ⟨_, rfl, ?_⟩
  replace rh_50 := rh_50.thaw (flat_row (flat_int .i64)) hg_52 (((Fz.refl (col := col_45)).froz 2).froz 3) (by decide)
  replace hg_52 := hg_52.thawR (col := col_45)
  generalize colR w_42.heap.size col_45 col_53 = col_54 at *
  replace h1 := h1.gr hg_52
  replace h2 := h2.gr hg_52
  replace rh_5 := rh_5.gr hg_52
  replace rh_11 := rh_11.gr hg_52
  replace rh_23 := rh_23.gr hg_52
  replace rh_32 := rh_32.gr hg_52
  replace rh_41 := rh_41.gr hg_52
  replace hst := hst.grow hg_52
  refine lv (v := (.tuple #[(.slice ra_48 r_46.1.length rc_49), (.int .i64 r_46.2)])) rfl rfl (r_move rfl) ?_
  refine lv (v := (.slice ra_48 r_46.1.length rc_49)) rfl rfl (r_extract rfl rfl) ?_
  refine lv (v := (.int .i64 r_46.2)) rfl rfl (r_extract rfl rfl) ?_
  refine lv (v := (.slice ra_48 r_46.1.length rc_49)) rfl rfl (r_assign rfl) ?_
  refine lv (v := (.int .i64 r_46.2)) rfl rfl (r_assign rfl) ?_
  refine lnil ?_
  refine wseq ?_
  refine wseq ?_
  refine Wp.cut (fun f w_72 => ∃ (col_73 : Col) (v_74 : Bool), m_credencelaw14_made_J1 N p0_do p1_parents p2_points r_1 r_9 r_19 r_28 r_37 r_46 v_74 = some r ∧ St w0 (col0 col) col_73 w_72 ∧ Sl (Rep.slice (Rep.int .i64)) col_73 w_72 a1 cap1 p1_parents ∧ Two (Rep.row 3 (Rep.int .i64)) 31 (Rep.row 3 (Rep.int .i64)) 31 2 col_73 w_72 ra_12 rc_13 r_9.1.2 ra_14 rc_15 r_9.2 ∧ Own (Rep.int .i64) 3 3 col_73 w_72 ra_21 rc_22 r_19 ∧ Own (Rep.row 3 (Rep.int .i64)) 31 4 col_73 w_72 ra_30 rc_31 r_28.1 ∧ Own (Rep.row 3 (Rep.int .i64)) 31 5 col_73 w_72 ra_39 rc_40 r_37.1 ∧ Own (Rep.row 3 (Rep.int .i64)) 31 6 col_73 w_72 ra_48 rc_49 r_46.1 ∧ Sl (Rep.int .i64) col_73 w_72 a2 cap2 p2_points ∧ Own (Rep.row 3 (Rep.int .i64)) 31 1 col_73 w_72 ra_3 rc_4 r_1.1 ∧ f 0 = (.int .i64 p0_do) ∧ f 1 = (.slice a1 p1_parents.length cap1) ∧ f 10 = (.slice ra_14 r_9.2.length rc_15) ∧ f 11 = (.slice ra_21 r_19.length rc_22) ∧ f 12 = (.slice ra_21 ((r_19.take (Int.toNat (p2_points.length : Int))).length) rc_22) ∧ f 13 = (.slice ra_30 r_28.1.length rc_31) ∧ f 15 = (.slice ra_39 r_37.1.length rc_40) ∧ f 17 = (.slice ra_48 r_46.1.length rc_49) ∧ f 2 = (.slice a2 p2_points.length cap2) ∧ f 7 = (.slice ra_3 r_1.1.length rc_4) ∧ f 9 = (.slice ra_12 ((r_9.1.2.take r_9.1.1).length) rc_13) ∧ f 96 = (.bool v_74) ∧ f 1000000 = (enc [])) ?_ ?_
  · intro f w_72 hJ
    obtain ⟨col_73, v_74, hm, hst, h1, rh_11, rh_23, rh_32, rh_41, rh_50, h2, rh_5, hs0, hs1, hs10, hs11, hs12, hs13, hs15, hs17, hs2, hs7, hs9, hs96, hs1000000⟩ := hJ
    rw [m_credencelaw14_made_J1.eq_1] at hm
    refine .ld (d := 0) (v := (.int .i64 p0_do)) hs0 ?_
    refine .ld (d := 1) (v := (.slice a1 p1_parents.length cap1)) hs1 ?_
    refine .ld (d := 10) (v := (.slice ra_14 r_9.2.length rc_15)) hs10 ?_
    refine .ld (d := 11) (v := (.slice ra_21 r_19.length rc_22)) hs11 ?_
    refine .ld (d := 12) (v := (.slice ra_21 ((r_19.take (Int.toNat (p2_points.length : Int))).length) rc_22)) hs12 ?_
    refine .ld (d := 13) (v := (.slice ra_30 r_28.1.length rc_31)) hs13 ?_
    refine .ld (d := 15) (v := (.slice ra_39 r_37.1.length rc_40)) hs15 ?_
    refine .ld (d := 17) (v := (.slice ra_48 r_46.1.length rc_49)) hs17 ?_
    refine .ld (d := 2) (v := (.slice a2 p2_points.length cap2)) hs2 ?_
    refine .ld (d := 7) (v := (.slice ra_3 r_1.1.length rc_4)) hs7 ?_
    refine .ld (d := 9) (v := (.slice ra_12 ((r_9.1.2.take r_9.1.1).length) rc_13)) hs9 ?_
    refine .ld (d := 96) (v := (.bool v_74)) hs96 ?_
    refine .ld (d := 1000000) (v := (enc [])) hs1000000 ?_
    clear hs0 hs1 hs10 hs11 hs12 hs13 hs15 hs17 hs2 hs7 hs9 hs96 hs1000000
    refine wcond (v_74) rfl (fun hb => ?_) (fun hb => ?_)
    · rw [if_pos hb] at hm
      clear hb
      refine wseq ?_
      refine wregion ?_
      refine lv (v := (.bool false)) rfl rfl (r_assign rfl) ?_
      refine lnil ?_
      refine wret ?_
      cases hm
      exact ⟨rfl, rfl, hst.below⟩
    · rw [if_neg (by rw [hb]; decide)] at hm
      clear hb
      refine wskip ?_
      refine wseq ?_
      refine wregion ?_
      refine lv (v := (.slice ra_30 r_28.1.length rc_31)) rfl rfl (r_move rfl) ?_
      obtain ⟨r_75, hr_76, hm⟩ := bind_some hm
      refine lc rfl rfl (r_call2 Try.call34 rfl rfl) (c_credencelaw14_spoilt N col_73 _ 4 rfl ra_30 rc_31 r_28.1 (-1000) rh_32 r_75 hr_76) ?_
      rintro _ w_79 ⟨col_81, rfl, hg_80, oh_77, ohl_78⟩
      refine ⟨_, rfl, ?_⟩
      replace h1 := h1.kpp hg_80 rfl
      replace rh_11 := rh_11.kpp hg_80 rfl rfl
      replace rh_23 := rh_23.kpp hg_80 rfl rfl
      replace rh_41 := rh_41.kpp hg_80 rfl rfl
      replace rh_50 := rh_50.kpp hg_80 rfl rfl
      replace h2 := h2.kpp hg_80 rfl
      replace rh_5 := rh_5.kpp hg_80 rfl rfl
      replace hst := hst.kpp hg_80 rfl rfl
      clear rh_32
      refine .ld (d := 97) (v := (.slice ra_30 r_75.2.length rc_31)) (congrArg (fun n => Value.slice ra_30 n rc_31) (show r_28.1.length = r_75.2.length from ohl_78.symm)) ?_
      refine lv (v := (.bool r_75.1)) rfl rfl (r_assign rfl) ?_
      refine lnil ?_
      refine wseq ?_
      refine wregion ?_
      refine lv (v := (.slice ra_48 r_46.1.length rc_49)) rfl rfl (r_move rfl) ?_
      obtain ⟨r_82, hr_83, hm⟩ := bind_some hm
      refine lc rfl rfl (r_call2 Try.call34 rfl rfl) (c_credencelaw14_spoilt N col_81 _ 6 rfl ra_48 rc_49 r_46.1 (-9000) rh_50 r_82 hr_83) ?_
      rintro _ w_86 ⟨col_88, rfl, hg_87, oh_84, ohl_85⟩
      refine ⟨_, rfl, ?_⟩
      replace h1 := h1.kpp hg_87 rfl
      replace rh_11 := rh_11.kpp hg_87 rfl rfl
      replace rh_23 := rh_23.kpp hg_87 rfl rfl
      replace rh_41 := rh_41.kpp hg_87 rfl rfl
      replace h2 := h2.kpp hg_87 rfl
      replace rh_5 := rh_5.kpp hg_87 rfl rfl
      replace hst := hst.kpp hg_87 rfl rfl
      clear rh_50
      refine .ld (d := 99) (v := (.slice ra_48 r_82.2.length rc_49)) (congrArg (fun n => Value.slice ra_48 n rc_49) (show r_46.1.length = r_82.2.length from ohl_85.symm)) ?_
      refine lv (v := (.bool r_82.1)) rfl rfl (r_assign rfl) ?_
      refine lnil ?_
      refine wseq ?_
      refine wseq ?_
      refine Wp.cut (fun f w_116 => ∃ (col_117 : Col) (v_118 : Bool), m_credencelaw14_made_J2 N p0_do p2_points r_1 r_9 r_19 r_37 v_118 = some r ∧ St w0 (col0 col) col_117 w_116 ∧ Own (Rep.int .i64) 3 3 col_117 w_116 ra_21 rc_22 r_19 ∧ Own (Rep.row 3 (Rep.int .i64)) 31 5 col_117 w_116 ra_39 rc_40 r_37.1 ∧ Sl (Rep.int .i64) col_117 w_116 a2 cap2 p2_points ∧ Own (Rep.row 3 (Rep.int .i64)) 31 1 col_117 w_116 ra_3 rc_4 r_1.1 ∧ Own (Rep.row 3 (Rep.int .i64)) 31 2 col_117 w_116 ra_12 rc_13 (r_9.1.2.take r_9.1.1) ∧ f 0 = (.int .i64 p0_do) ∧ f 12 = (.slice ra_21 ((r_19.take (Int.toNat (p2_points.length : Int))).length) rc_22) ∧ f 126 = (.bool v_118) ∧ f 15 = (.slice ra_39 r_37.1.length rc_40) ∧ f 2 = (.slice a2 p2_points.length cap2) ∧ f 7 = (.slice ra_3 r_1.1.length rc_4) ∧ f 9 = (.slice ra_12 ((r_9.1.2.take r_9.1.1).length) rc_13) ∧ f 1000000 = (enc [])) ?_ ?_
      · intro f w_116 hJ
        obtain ⟨col_117, v_118, hm, hst, rh_23, rh_41, h2, rh_5, h_119, hs0, hs12, hs126, hs15, hs2, hs7, hs9, hs1000000⟩ := hJ
        rw [m_credencelaw14_made_J2.eq_1] at hm
        refine .ld (d := 0) (v := (.int .i64 p0_do)) hs0 ?_
        refine .ld (d := 12) (v := (.slice ra_21 ((r_19.take (Int.toNat (p2_points.length : Int))).length) rc_22)) hs12 ?_
        refine .ld (d := 126) (v := (.bool v_118)) hs126 ?_
        refine .ld (d := 15) (v := (.slice ra_39 r_37.1.length rc_40)) hs15 ?_
        refine .ld (d := 2) (v := (.slice a2 p2_points.length cap2)) hs2 ?_
        refine .ld (d := 7) (v := (.slice ra_3 r_1.1.length rc_4)) hs7 ?_
        refine .ld (d := 9) (v := (.slice ra_12 ((r_9.1.2.take r_9.1.1).length) rc_13)) hs9 ?_
        refine .ld (d := 1000000) (v := (enc [])) hs1000000 ?_
        clear hs0 hs12 hs126 hs15 hs2 hs7 hs9 hs1000000
        refine wcond (v_118) rfl (fun hb => ?_) (fun hb => ?_)
        · rw [if_pos hb] at hm
          clear hb
          refine wseq ?_
          refine wregion ?_
          refine lv (v := (.bool false)) rfl rfl (r_assign rfl) ?_
          refine lnil ?_
          refine wret ?_
          cases hm
          exact ⟨rfl, rfl, hst.below⟩
        · rw [if_neg (by rw [hb]; decide)] at hm
          clear hb
          refine wskip ?_
          refine wseq ?_
          refine wregion ?_
          refine lv (v := (.slice none (([] : List (List Int)).length) 0)) rfl rfl (r_assign rfl) ?_
          refine lnil ?_
          refine wseq ?_
          refine wseq ?_
          refine wregion ?_
          refine lv (v := (.int .i64 0)) rfl rfl (r_assign rfl) ?_
          refine lnil ?_
          refine wblock ?_
          refine wloop (fun n f w_121 => ∃ (col_122 : Col) (a_124 : Option Addr) (cap_125 : Nat) (now_123 : List (List Int)) (i_127 : Int) (a_129 : Option Addr) (cap_130 : Nat) (l_128 : List (List Int)) (n_120 : Nat), n_120 = n ∧ m_credencelaw14_made_L1 N p0_do p2_points r_1 r_19 r_37 n_120 now_123 i_127 l_128 = some r ∧ St w0 (col0 col) col_122 w_121 ∧ Own (Rep.int .i64) 3 3 col_122 w_121 ra_21 rc_22 r_19 ∧ Own (Rep.row 3 (Rep.int .i64)) 31 5 col_122 w_121 ra_39 rc_40 r_37.1 ∧ Sl (Rep.int .i64) col_122 w_121 a2 cap2 p2_points ∧ Own (Rep.row 3 (Rep.int .i64)) 31 8 col_122 w_121 a_124 cap_125 now_123 ∧ Own (Rep.row 3 (Rep.int .i64)) 31 1 col_122 w_121 ra_3 rc_4 r_1.1 ∧ Own (Rep.row 3 (Rep.int .i64)) 31 2 col_122 w_121 a_129 cap_130 l_128 ∧ f 0 = (.int .i64 p0_do) ∧ f 12 = (.slice ra_21 ((r_19.take (Int.toNat (p2_points.length : Int))).length) rc_22) ∧ f 15 = (.slice ra_39 r_37.1.length rc_40) ∧ f 2 = (.slice a2 p2_points.length cap2) ∧ f 21 = (.slice a_124 now_123.length cap_125) ∧ f 22 = (.int .i64 i_127) ∧ f 7 = (.slice ra_3 r_1.1.length rc_4) ∧ f 9 = (.slice a_129 l_128.length cap_130) ∧ f 1000000 = (enc [])) N ⟨col_117, none, 0, ([] : List (List Int)), 0, ra_12, rc_13, (r_9.1.2.take r_9.1.1), N, rfl, hm, hst, rh_23, rh_41, h2, Own.nil, rh_5, h_119, rfl, rfl, rfl, rfl, rfl, rfl, rfl, rfl, rfl⟩ ?_
          clear hm; intro n f w_121 hI
          obtain ⟨col_122, a_124, cap_125, now_123, i_127, a_129, cap_130, l_128, n_120, hn, hm, hst, rh_23, rh_41, h2, h_126, rh_5, h_131, hs0, hs12, hs15, hs2, hs21, hs22, hs7, hs9, hs1000000⟩ := hI
          subst hn
          refine .ld (d := 0) (v := (.int .i64 p0_do)) hs0 ?_
          refine .ld (d := 12) (v := (.slice ra_21 ((r_19.take (Int.toNat (p2_points.length : Int))).length) rc_22)) hs12 ?_
          refine .ld (d := 15) (v := (.slice ra_39 r_37.1.length rc_40)) hs15 ?_
          refine .ld (d := 2) (v := (.slice a2 p2_points.length cap2)) hs2 ?_
          refine .ld (d := 21) (v := (.slice a_124 now_123.length cap_125)) hs21 ?_
          refine .ld (d := 22) (v := (.int .i64 i_127)) hs22 ?_
          refine .ld (d := 7) (v := (.slice ra_3 r_1.1.length rc_4)) hs7 ?_
          refine .ld (d := 9) (v := (.slice a_129 l_128.length cap_130)) hs9 ?_
          refine .ld (d := 1000000) (v := (enc [])) hs1000000 ?_
          clear hs0 hs12 hs15 hs2 hs21 hs22 hs7 hs9 hs1000000
          cases n_120 with
          | zero => rw [m_credencelaw14_made_L1.eq_1] at hm; cases hm
          | succ n_120 =>
            rw [m_credencelaw14_made_L1.eq_2] at hm
            refine wseq ?_
            refine wseq ?_
            refine wregion ?_
            refine lv (v := (.int .i64 i_127)) rfl rfl (r_move rfl) ?_
            refine lv (v := (.slice a_129 l_128.length cap_130)) rfl rfl (r_move rfl) ?_
            refine lv (v := (.int .i64 (l_128.length : Int))) rfl rfl (r_len Try.underlying22 rfl) ?_
            refine lv (v := (.bool (decide (i_127 < (l_128.length : Int))))) rfl rfl (r_lss i_127 (l_128.length : Int) rfl rfl) ?_
            refine lnil ?_
            refine wcond (decide (i_127 < (l_128.length : Int))) rfl (fun hb => ?_) (fun hb => ?_)
            · rw [if_pos hb] at hm
              clear hb
              refine wskip ?_
              refine wseq ?_
              refine wblock ?_
              refine wseq ?_
              refine wseq ?_
              refine wregion ?_
              refine lv (v := (.int .i64 0)) rfl rfl (r_assign rfl) ?_
              refine lnil ?_
              refine wblock ?_
              refine wloop (fun n f w_133 => ∃ (col_134 : Col) (k_135 : Int) (a_137 : Option Addr) (cap_138 : Nat) (l_136 : List (List Int)) (n_132 : Nat), n_132 = n ∧ m_credencelaw14_made_L2 N now_123 i_127 (m_credencelaw14_made_L1 N p0_do p2_points r_1 r_19 r_37 n_120) n_132 k_135 l_136 = some r ∧ St w0 (col0 col) col_134 w_133 ∧ Own (Rep.int .i64) 3 3 col_134 w_133 ra_21 rc_22 r_19 ∧ Own (Rep.row 3 (Rep.int .i64)) 31 5 col_134 w_133 ra_39 rc_40 r_37.1 ∧ Sl (Rep.int .i64) col_134 w_133 a2 cap2 p2_points ∧ Own (Rep.row 3 (Rep.int .i64)) 31 8 col_134 w_133 a_124 cap_125 now_123 ∧ Own (Rep.row 3 (Rep.int .i64)) 31 1 col_134 w_133 ra_3 rc_4 r_1.1 ∧ Own (Rep.row 3 (Rep.int .i64)) 31 2 col_134 w_133 a_137 cap_138 l_136 ∧ f 0 = (.int .i64 p0_do) ∧ f 12 = (.slice ra_21 ((r_19.take (Int.toNat (p2_points.length : Int))).length) rc_22) ∧ f 15 = (.slice ra_39 r_37.1.length rc_40) ∧ f 2 = (.slice a2 p2_points.length cap2) ∧ f 21 = (.slice a_124 now_123.length cap_125) ∧ f 22 = (.int .i64 i_127) ∧ f 23 = (.int .i64 k_135) ∧ f 7 = (.slice ra_3 r_1.1.length rc_4) ∧ f 9 = (.slice a_137 l_136.length cap_138) ∧ f 1000000 = (enc [])) N ⟨col_122, 0, a_129, cap_130, l_128, N, rfl, hm, hst, rh_23, rh_41, h2, h_126, rh_5, h_131, rfl, rfl, rfl, rfl, rfl, rfl, rfl, rfl, rfl, rfl⟩ ?_
              clear hm; intro n f w_133 hI
              obtain ⟨col_134, k_135, a_137, cap_138, l_136, n_132, hn, hm, hst, rh_23, rh_41, h2, h_126, rh_5, h_139, hs0, hs12, hs15, hs2, hs21, hs22, hs23, hs7, hs9, hs1000000⟩ := hI
              subst hn
              refine .ld (d := 0) (v := (.int .i64 p0_do)) hs0 ?_
              refine .ld (d := 12) (v := (.slice ra_21 ((r_19.take (Int.toNat (p2_points.length : Int))).length) rc_22)) hs12 ?_
              refine .ld (d := 15) (v := (.slice ra_39 r_37.1.length rc_40)) hs15 ?_
              refine .ld (d := 2) (v := (.slice a2 p2_points.length cap2)) hs2 ?_
              refine .ld (d := 21) (v := (.slice a_124 now_123.length cap_125)) hs21 ?_
              refine .ld (d := 22) (v := (.int .i64 i_127)) hs22 ?_
              refine .ld (d := 23) (v := (.int .i64 k_135)) hs23 ?_
              refine .ld (d := 7) (v := (.slice ra_3 r_1.1.length rc_4)) hs7 ?_
              refine .ld (d := 9) (v := (.slice a_137 l_136.length cap_138)) hs9 ?_
              refine .ld (d := 1000000) (v := (enc [])) hs1000000 ?_
              clear hs0 hs12 hs15 hs2 hs21 hs22 hs23 hs7 hs9 hs1000000
              cases n_132 with
              | zero => rw [m_credencelaw14_made_L2.eq_1] at hm; cases hm
              | succ n_132 =>
                rw [m_credencelaw14_made_L2.eq_2] at hm
                refine wseq ?_
                refine wseq ?_
                refine wregion ?_
                refine lv (v := (.int .i64 k_135)) rfl rfl (r_move rfl) ?_
                refine lv (v := (.slice a_137 l_136.length cap_138)) rfl rfl (r_move rfl) ?_
                refine lv (v := (.int .i64 i_127)) rfl rfl (r_move rfl) ?_
                obtain ⟨e_140, hj_141, hm⟩ := bind_some hm
                refine lv (v := (sptr a_137 (Int.toNat i_127 * 1))) rfl rfl (r_idx Try.underlying22 Try.sizeOf31 rfl rfl (at?_some hj_141).1 (at?_some hj_141).2.1 (h_139.addr hj_141)) ?_
                obtain ⟨_, hr_142, hA_143⟩ := h_139.atN hj_141
                obtain ⟨a_144, cap_145, rfl, h_146⟩ := hr_142.row
                refine lv (v := (.slice a_144 e_140.length cap_145)) rfl rfl (r_ld Try.isAgg31 rfl hA_143.one) ?_
                refine lv (v := (.int .i64 (e_140.length : Int))) rfl rfl (r_len Try.underlying31 rfl) ?_
                refine lv (v := (.bool (decide (k_135 < (e_140.length : Int))))) rfl rfl (r_lss k_135 (e_140.length : Int) rfl rfl) ?_
                refine lnil ?_
                refine wcond (decide (k_135 < (e_140.length : Int))) rfl (fun hb => ?_) (fun hb => ?_)
                · rw [if_pos hb] at hm
                  clear hb
                  refine wskip ?_
                  refine wseq ?_
                  refine wblock ?_
                  refine wmix (col := col_134) [(0, 1), (1, 1), (2, 1), (3, 0), (4, 1), (5, 1), (6, 1), (7, 1), (8, 1), (9, 1), (10, 1), (11, 0), (12, 1), (13, 1), (14, 0), (15, 1), (16, 1), (17, 2)] (by kernel_rfl) (by kernel_rfl) ?_
                  refine xu (v := (.slice a_137 l_136.length cap_138)) rfl rfl (fun _ => r_move rfl) ?_
                  refine xu (v := (.int .i64 i_127)) rfl rfl (fun _ => r_move rfl) ?_
                  refine xu (v := (sptr a_137 (Int.toNat i_127 * 1))) rfl rfl (fun _ => r_idx Try.underlying22 Try.sizeOf31 rfl rfl (at?_some hj_141).1 (at?_some hj_141).2.1 (h_139.addr hj_141)) ?_
                  obtain ⟨_, col_150, hk_148, hH_149, hs_147⟩ := h_139.open_ 9 (by decide) hj_141
                  replace rh_23 := rh_23.kpp hk_148 rfl rfl
                  replace rh_41 := rh_41.kpp hk_148 rfl rfl
                  replace h2 := h2.kpp hk_148 rfl
                  replace h_126 := h_126.kpp hk_148 rfl rfl
                  replace rh_5 := rh_5.kpp hk_148 rfl rfl
                  replace hst := hst.kpp hk_148 rfl rfl
                  obtain ⟨a_151, cap_152, rfl, h_153⟩ := hs_147.row
                  clear h_139
                  replace hH_149 : Hole (Rep.row 3 (Rep.int .i64)) 31 2 col_150 w_133 a_137 cap_138 l_136 (Int.toNat i_127) [(.slice a_151 e_140.length cap_152)] := hH_149
                  refine xv (v := (.slice a_151 e_140.length cap_152)) rfl rfl (fun _ hC => r_ld Try.isAgg31 rfl (hH_149.atN.one.gr (Grow.of_below (col := col_150) hC.below))) ?_
                  refine xu (v := (.int .i64 k_135)) rfl rfl (fun _ => r_move rfl) ?_
                  refine xu (v := (.slice a_137 l_136.length cap_138)) rfl rfl (fun _ => r_move rfl) ?_
                  refine xu (v := (.int .i64 (l_136.length : Int))) rfl rfl (fun _ => r_len Try.underlying22 rfl) ?_
                  refine xu (v := (.int .i64 (IntKind.i64.wrap ((l_136.length : Int) - 1)))) rfl rfl (fun _ => r_sub (l_136.length : Int) 1 rfl rfl) ?_
                  refine xu (v := (.slice a_137 l_136.length cap_138)) rfl rfl (fun _ => r_move rfl) ?_
                  refine xu (v := (.int .i64 i_127)) rfl rfl (fun _ => r_move rfl) ?_
                  refine xu (v := (sptr a_137 (Int.toNat i_127 * 1))) rfl rfl (fun _ => r_idx Try.underlying22 Try.sizeOf31 rfl rfl (at?_some hj_141).1 (at?_some hj_141).2.1 (hH_149.addr)) ?_
                  refine xv (v := (.slice a_151 e_140.length cap_152)) rfl rfl (fun _ hC => r_ld Try.isAgg31 rfl (hH_149.atN.one.gr (Grow.of_below (col := col_150) hC.below))) ?_
                  refine xu (v := (.int .i64 k_135)) rfl rfl (fun _ => r_move rfl) ?_
                  obtain ⟨e_154, hj_155, hm⟩ := bind_some hm
                  refine xu (v := (sptr a_151 (Int.toNat k_135 * 1))) rfl rfl (fun _ => r_idx Try.underlying31 Try.sizeOf3 rfl rfl (at?_some hj_155).1 (at?_some hj_155).2.1 (h_153.addr hj_155)) ?_
                  refine xv (v := (.int .i64 e_154)) rfl rfl (fun _ hC => r_ld Try.isAgg3 rfl ((h_153.gr (Grow.of_below (col := col_150) hC.below)).atInt hj_155)) ?_
                  refine xu (v := (.int .i64 (IntKind.i64.wrap ((IntKind.i64.wrap ((l_136.length : Int) - 1)) - e_154)))) rfl rfl (fun _ => r_sub (IntKind.i64.wrap ((l_136.length : Int) - 1)) e_154 rfl rfl) ?_
                  refine xu (v := (sptr a_151 (Int.toNat k_135 * 1))) rfl rfl (fun _ => r_idx Try.underlying31 Try.sizeOf3 rfl rfl (at?_some hj_155).1 (at?_some hj_155).2.1 (h_153.addr hj_155)) ?_
                  refine xe rfl rfl ?_
                  intro w_156 hC0
                  have hC : Grow col_150 w_133 col_150 w_156 := .of_below hC0.below
                  replace rh_23 := rh_23.gr hC
                  replace rh_41 := rh_41.gr hC
                  replace h2 := h2.gr hC
                  replace h_126 := h_126.gr hC
                  replace rh_5 := rh_5.gr hC
                  replace hH_149 := hH_149.gr hC
                  replace h_153 := h_153.gr hC
                  replace hst := hst.grow hC
                  obtain ⟨xs_162, hz_161, hm⟩ := bind_some hm
                  have hz_161 : xs_162 = e_140.set (Int.toNat k_135) (IntKind.i64.wrap ((IntKind.i64.wrap ((l_136.length : Int) - 1)) - e_154)) := (Option.some.inj hz_161).symm
                  refine l_store (x1 := IntKind.i64.wrap ((IntKind.i64.wrap ((l_136.length : Int) - 1)) - e_154)) (v := (.int .i64 (IntKind.i64.wrap ((IntKind.i64.wrap ((l_136.length : Int) - 1)) - e_154)))) h_153 hj_155 rfl Try.sizeOf3 (rd_int .i64 (IntKind.i64.wrap ((IntKind.i64.wrap ((l_136.length : Int) - 1)) - e_154))) rfl rfl (by decide) ?_
                  intro w_157 hk_158 hs_159 h_160
                  rw [← hz_161] at h_160
                  replace rh_23 := rh_23.kp hk_158 (by decide) (by decide)
                  replace rh_41 := rh_41.kp hk_158 (by decide) (by decide)
                  replace h2 := h2.kp hk_158 (by decide)
                  replace h_126 := h_126.kp hk_158 (by decide) (by decide)
                  replace rh_5 := rh_5.kp hk_158 (by decide) (by decide)
                  replace hH_149 := hH_149.kp hk_158 (by decide) (by decide)
                  replace hst := hst.kp hk_158 hs_159 (by decide) (by decide)
                  replace hH_149 : Hole (Rep.row 3 (Rep.int .i64)) 31 2 col_150 w_157 a_137 cap_138 l_136 (Int.toNat i_127) [(.slice a_151 xs_162.length cap_152)] := by rw [← (show e_140.length = xs_162.length by rw [hz_161, List.length_set])]; exact hH_149
                  clear h_153
                  refine lnil ⟨fun w' => Grow col_150 w_157 col_150 w', Grow.refl _ _, fun h => absurd h (by decide), ?_⟩
                  have h_163 := hH_149.close h_160.has (by decide) (by decide)
                  replace rh_23 := rh_23.recol 9 2 (by decide)
                  replace rh_41 := rh_41.recol 9 2 (by decide)
                  replace h2 := h2.recol 9 2 (by decide)
                  replace h_126 := h_126.recol 9 2 (by decide)
                  replace rh_5 := rh_5.recol 9 2 (by decide)
                  replace hst := hst.recol 9 2 (by decide) (by decide)
                  clear hH_149
                  refine .ld (d := 9) (v := (.slice a_137 ((l_136.set (Int.toNat i_127) xs_162).length) cap_138)) (congrArg (fun n => Value.slice a_137 n cap_138) (show l_136.length = (l_136.set (Int.toNat i_127) xs_162).length by rw [List.length_set])) ?_
                  refine xnil ?_
                  intro w_164 hC
                  replace hC : Grow (rcC 9 2 col_150) w_157 (rcC 9 2 col_150) w_164 := .of_below hC.below
                  replace rh_23 := rh_23.gr hC
                  replace rh_41 := rh_41.gr hC
                  replace h2 := h2.gr hC
                  replace h_126 := h_126.gr hC
                  replace rh_5 := rh_5.gr hC
                  replace h_163 := h_163.gr hC
                  replace hst := hst.grow hC
                  refine wregion ?_
                  refine lv (v := (.int .i64 k_135)) rfl rfl (r_move rfl) ?_
                  refine lv (v := (.int .i64 (IntKind.i64.wrap (k_135 + 1)))) rfl rfl (r_add k_135 1 rfl rfl) ?_
                  refine lv (v := (.int .i64 (IntKind.i64.wrap (k_135 + 1)))) rfl rfl (r_assign rfl) ?_
                  refine lnil ?_
                  exact ⟨n_132, by omega, ⟨(rcC 9 2 col_150), (IntKind.i64.wrap (k_135 + 1)), a_137, cap_138, (l_136.set (Int.toNat i_127) xs_162), n_132, rfl, hm, hst, rh_23, rh_41, h2, h_126, rh_5, h_163, rfl, rfl, rfl, rfl, rfl, rfl, rfl, rfl, rfl, rfl⟩⟩
                · rw [if_neg (by rw [hb]; decide)] at hm
                  clear hb
                  refine wexit (inB_hit ?_)
                  refine wseq ?_
                  refine wregion ?_
                  refine lv (v := (.slice none (([] : List Int).length) 0)) rfl rfl (r_assign rfl) ?_
                  refine lnil ?_
                  refine wregion ?_
                  refine lv (v := (.slice a_124 now_123.length cap_125)) rfl rfl (r_move rfl) ?_
                  refine lv (v := (.slice none (([] : List Int).length) 0)) rfl rfl (r_move rfl) ?_
                  refine lv (v := (.slice a_137 l_136.length cap_138)) rfl rfl (r_move rfl) ?_
                  refine lv (v := (.int .i64 i_127)) rfl rfl (r_move rfl) ?_
                  refine lv (v := (sptr a_137 (Int.toNat i_127 * 1))) rfl rfl (r_idx Try.underlying22 Try.sizeOf31 rfl rfl (at?_some hj_141).1 (at?_some hj_141).2.1 (h_139.addr hj_141)) ?_
                  obtain ⟨_, hr_165, hA_166⟩ := h_139.atN hj_141
                  obtain ⟨a_167, cap_168, rfl, h_169⟩ := hr_165.row
                  refine lv (v := (.slice a_167 e_140.length cap_168)) rfl rfl (r_ld Try.isAgg31 rfl hA_166.one) ?_
                  obtain ⟨hb_170, hm⟩ := chk_some hm
                  refine l_appendM (col := col_134) (w := w_133) (r := (Rep.int .i64)) (c := 10) (c2 := 10) (xs := ([] : List Int)) (ys := e_140) Own.nil (h_169.srcN (NB.int (k := .i64))) rfl Try.underlying31 el3_21 rfl rfl rfl hb_170.1 hb_170.2 (by decide) ?_
                  intro a_171 cap_172 w_173 col_174 hk_175 h_176
                  replace rh_23 := rh_23.kpp hk_175 rfl rfl
                  replace rh_41 := rh_41.kpp hk_175 rfl rfl
                  replace h2 := h2.kpp hk_175 rfl
                  replace rh_5 := rh_5.kpp hk_175 rfl rfl
                  replace h_139 := h_139.kpp hk_175 rfl rfl
                  replace h_126 := h_126.kpp hk_175 rfl rfl
                  replace h_169 := h_169.kpp hk_175 rfl rfl
                  replace hst := hst.kpp hk_175 rfl rfl
                  refine l_lit (col := col_174) (r := (Rep.row 3 (Rep.int .i64))) (xs := [([] : List Int) ++ e_140]) [(.slice a_171 ((([] : List Int) ++ e_140).length) cap_172)] 10 rfl Try.underlying22 el31_21 rfl rfl rfl rfl rfl rfl (by intro v hv; simp only [List.mem_cons, List.not_mem_nil, or_false] at hv; subst hv; rfl) (RowsH.cons1 (cs := [(.slice a_171 ((([] : List Int) ++ e_140).length) cap_172)]) h_176.has Rows.nil0) ?_
                  intro a_177 w_178 col_179 hg_180 h_181
                  replace rh_23 := rh_23.gr hg_180
                  replace rh_41 := rh_41.gr hg_180
                  replace h2 := h2.gr hg_180
                  replace rh_5 := rh_5.gr hg_180
                  replace h_139 := h_139.gr hg_180
                  replace h_126 := h_126.gr hg_180
                  replace h_176 := h_176.gr hg_180
                  replace hst := hst.grow hg_180
                  obtain ⟨hb_182, hm⟩ := chk_some hm
                  refine l_appendM (col := col_179) (w := w_178) (r := (Rep.row 3 (Rep.int .i64))) (c := 8) (c2 := 10) (xs := now_123) (ys := [([] : List Int) ++ e_140]) h_126 (h_181.srcC (by decide)) rfl Try.underlying22 el31_21 rfl rfl rfl hb_182.1 hb_182.2 (by decide) ?_
                  intro a_183 cap_184 w_185 col_186 hk_187 h_188
                  replace rh_23 := rh_23.kpp hk_187 rfl rfl
                  replace rh_41 := rh_41.kpp hk_187 rfl rfl
                  replace h2 := h2.kpp hk_187 rfl
                  replace rh_5 := rh_5.kpp hk_187 rfl rfl
                  replace h_139 := h_139.kpp hk_187 rfl rfl
                  clear h_181
                  replace hst := hst.kpp hk_187 rfl rfl
                  clear h_126
                  refine lv (v := (.slice a_183 ((now_123 ++ [([] : List Int) ++ e_140]).length) cap_184)) rfl rfl (r_assign rfl) ?_
                  refine lnil ?_
                  refine wregion ?_
                  refine lv (v := (.int .i64 i_127)) rfl rfl (r_move rfl) ?_
                  refine lv (v := (.int .i64 (IntKind.i64.wrap (i_127 + 1)))) rfl rfl (r_add i_127 1 rfl rfl) ?_
                  refine lv (v := (.int .i64 (IntKind.i64.wrap (i_127 + 1)))) rfl rfl (r_assign rfl) ?_
                  refine lnil ?_
                  exact ⟨n_120, by omega, ⟨col_186, a_183, cap_184, (now_123 ++ [([] : List Int) ++ e_140]), (IntKind.i64.wrap (i_127 + 1)), a_137, cap_138, l_136, n_120, rfl, hm, hst, rh_23, rh_41, h2, h_188, rh_5, h_139, rfl, rfl, rfl, rfl, rfl, rfl, rfl, rfl, rfl⟩⟩
            · rw [if_neg (by rw [hb]; decide)] at hm
              clear hb
              refine wexit (inB_hit ?_)
              refine wseq ?_
              refine wregion ?_
              refine lv (v := (.int .i64 p0_do)) rfl rfl (r_move rfl) ?_
              refine lv (v := (.slice a_124 now_123.length cap_125)) rfl rfl (r_move rfl) ?_
              refine lv (v := (.slice a2 p2_points.length cap2)) rfl rfl (r_move rfl) ?_
              obtain ⟨r_189, hr_190, hm⟩ := bind_some hm
              refine lc rfl rfl (r_call3 Try.call31 rfl rfl rfl) (c_credencelaw14_told N 11 (frC 8 col_122) _ p0_do a_124 cap_125 now_123 a2 cap2 p2_points (h_126.toSlF (Froz.row (Froz.int .i64))) (h2.froz 8) r_189 hr_190) ?_
              rintro _ w_194 ⟨col_196, ra_191, rc_192, rfl, hg_195, rh_193⟩
              refine ⟨_, rfl, ?_⟩
              replace rh_193 := rh_193.thaw (flat_row (flat_int .i64)) hg_195 ((Fz.refl (col := col_122)).froz 8) (by decide)
              replace hg_195 := hg_195.thawR (col := col_122)
              generalize colR w_121.heap.size col_122 col_196 = col_197 at *
              replace rh_23 := rh_23.gr hg_195
              replace rh_41 := rh_41.gr hg_195
              replace rh_5 := rh_5.gr hg_195
              replace h_131 := h_131.gr hg_195
              replace h_126 := h_126.gr hg_195
              replace h2 := h2.gr hg_195
              replace hst := hst.grow hg_195
              refine lv (v := (.tuple #[(.slice ra_191 r_189.1.length rc_192), (.int .i64 r_189.2)])) rfl rfl (r_move rfl) ?_
              refine lv (v := (.slice ra_191 r_189.1.length rc_192)) rfl rfl (r_extract rfl rfl) ?_
              refine lv (v := (.int .i64 r_189.2)) rfl rfl (r_extract rfl rfl) ?_
              refine lv (v := (.slice ra_191 r_189.1.length rc_192)) rfl rfl (r_assign rfl) ?_
              refine lv (v := (.int .i64 r_189.2)) rfl rfl (r_assign rfl) ?_
              refine lnil ?_
              refine wseq ?_
              refine wregion ?_
              refine lv (v := (.int .i64 p0_do)) rfl rfl (r_move rfl) ?_
              refine lv (v := (.slice a_129 l_128.length cap_130)) rfl rfl (r_move rfl) ?_
              refine lv (v := (.slice ra_21 ((r_19.take (Int.toNat (p2_points.length : Int))).length) rc_22)) rfl rfl (r_move rfl) ?_
              obtain ⟨r_198, hr_199, hm⟩ := bind_some hm
              refine lc rfl rfl (r_call3 Try.call32 rfl rfl rfl) (c_credencelaw14_call N 12 (frC 3 (frC 2 col_197)) _ p0_do a_129 cap_130 l_128 ra_21 rc_22 (r_19.take (Int.toNat (p2_points.length : Int))) ((h_131.toSlF (Froz.row (Froz.int .i64))).froz 3) (((rh_23.take (Int.toNat (p2_points.length : Int))).froz 2 (by decide)).toSlF (Froz.int .i64)) r_198 hr_199) ?_
              rintro _ w_203 ⟨col_205, ra_200, rc_201, rfl, hg_204, rh_202⟩
              refine ⟨_, rfl, ?_⟩
              replace rh_202 := rh_202.thaw (flat_row (flat_int .i64)) hg_204 (((Fz.refl (col := col_197)).froz 2).froz 3) (by decide)
              replace hg_204 := hg_204.thawR (col := col_197)
              generalize colR w_194.heap.size col_197 col_205 = col_206 at *
              replace rh_41 := rh_41.gr hg_204
              replace rh_5 := rh_5.gr hg_204
              replace rh_193 := rh_193.gr hg_204
              replace h_131 := h_131.gr hg_204
              replace rh_23 := rh_23.gr hg_204
              replace hst := hst.grow hg_204
              refine lv (v := (.tuple #[(.slice ra_200 r_198.1.length rc_201), (.int .i64 r_198.2)])) rfl rfl (r_move rfl) ?_
              refine lv (v := (.slice ra_200 r_198.1.length rc_201)) rfl rfl (r_extract rfl rfl) ?_
              refine lv (v := (.int .i64 r_198.2)) rfl rfl (r_extract rfl rfl) ?_
              refine lv (v := (.slice ra_200 r_198.1.length rc_201)) rfl rfl (r_assign rfl) ?_
              refine lv (v := (.int .i64 r_198.2)) rfl rfl (r_assign rfl) ?_
              refine lnil ?_
              refine wseq ?_
              refine Wp.cut (fun f w_217 => ∃ (col_218 : Col) (v_219 : Bool), m_credencelaw14_made_J3 v_219 = some r ∧ St w0 (col0 col) col_218 w_217 ∧ f 6 = (.bool v_219) ∧ f 1000000 = (enc [])) ?_ ?_
              · intro f w_217 hJ
                obtain ⟨col_218, v_219, hm, hst, hs6, hs1000000⟩ := hJ
                rw [m_credencelaw14_made_J3.eq_1] at hm
                refine .ld (d := 6) (v := (.bool v_219)) hs6 ?_
                refine .ld (d := 1000000) (v := (enc [])) hs1000000 ?_
                clear hs6 hs1000000
                refine wret ?_
                cases hm
                exact ⟨rfl, rfl, hst.below⟩
              · refine wregion ?_
                refine lv (v := (.int .i64 r_198.2)) rfl rfl (r_move rfl) ?_
                refine lv (v := (.int .i64 r_189.2)) rfl rfl (r_move rfl) ?_
                refine lv (v := (.bool (decide (r_198.2 = r_189.2)))) rfl rfl (r_eql r_198.2 r_189.2 rfl rfl) ?_
                refine lv (v := (.bool (decide (r_198.2 = r_189.2)))) rfl rfl (r_move rfl) ?_
                by_cases hg_220 : (decide (r_198.2 = r_189.2)) = true
                · rw [if_pos hg_220] at hm
                  refine lg (b := decide (r_198.2 = r_189.2)) 185 rfl rfl rfl (by rw [hg_220]; rfl) ?_
                  refine lv (v := (.slice ra_200 r_198.1.length rc_201)) rfl rfl (r_move rfl) ?_
                  refine lg (b := decide (r_198.2 = r_189.2)) 185 rfl rfl rfl (by rw [hg_220]; rfl) ?_
                  refine lv (v := (.slice ra_191 r_189.1.length rc_192)) rfl rfl (r_move rfl) ?_
                  refine lg (b := decide (r_198.2 = r_189.2)) 185 rfl rfl rfl (by rw [hg_220]; rfl) ?_
                  obtain ⟨r_221, hr_222, hm⟩ := bind_some hm
                  refine lc rfl rfl (r_call2 Try.call33 rfl rfl) (c_credencelaw14_same N (frC 11 (frC 12 col_206)) _ ra_200 rc_201 r_198.1 ra_191 rc_192 r_189.1 ((rh_202.toSlF (Froz.row (Froz.int .i64))).froz 11) ((rh_193.froz 12 (by decide)).toSlF (Froz.row (Froz.int .i64))) r_221 hr_222) ?_
                  rintro _ w_223 ⟨rfl, hg_224⟩
                  refine ⟨_, rfl, ?_⟩
                  replace hg_224 : Grow col_206 w_203 col_206 w_223 := .of_below hg_224
                  replace rh_41 := rh_41.gr hg_224
                  replace rh_5 := rh_5.gr hg_224
                  replace rh_202 := rh_202.gr hg_224
                  replace rh_193 := rh_193.gr hg_224
                  replace hst := hst.grow hg_224
                  refine lv (v := (.bool r_221)) rfl rfl (r_pickT (congrArg Value.bool hg_220) rfl) ?_
                  refine lv (v := (.bool r_221)) rfl rfl (r_move rfl) ?_
                  by_cases hg_225 : r_221 = true
                  · rw [if_pos hg_225] at hm
                    refine lg (b := r_221) 190 rfl rfl rfl (by rw [hg_225]; rfl) ?_
                    refine lv (v := (.slice ra_39 r_37.1.length rc_40)) rfl rfl (r_move rfl) ?_
                    refine lg (b := r_221) 190 rfl rfl rfl (by rw [hg_225]; rfl) ?_
                    refine lv (v := (.slice ra_3 r_1.1.length rc_4)) rfl rfl (r_move rfl) ?_
                    refine lg (b := r_221) 190 rfl rfl rfl (by rw [hg_225]; rfl) ?_
                    obtain ⟨r_226, hr_227, hm⟩ := bind_some hm
                    refine lc rfl rfl (r_call2 Try.call33 rfl rfl) (c_credencelaw14_same N (frC 1 (frC 5 col_206)) _ ra_39 rc_40 r_37.1 ra_3 rc_4 r_1.1 ((rh_41.toSlF (Froz.row (Froz.int .i64))).froz 1) ((rh_5.froz 5 (by decide)).toSlF (Froz.row (Froz.int .i64))) r_226 hr_227) ?_
                    rintro _ w_228 ⟨rfl, hg_229⟩
                    refine ⟨_, rfl, ?_⟩
                    replace hg_229 : Grow col_206 w_223 col_206 w_228 := .of_below hg_229
                    replace rh_41 := rh_41.gr hg_229
                    replace rh_5 := rh_5.gr hg_229
                    replace hst := hst.grow hg_229
                    refine lv (v := (.bool r_226)) rfl rfl (r_pickT (congrArg Value.bool hg_225) rfl) ?_
                    refine lv (v := (.bool r_226)) rfl rfl (r_assign rfl) ?_
                    refine lnil ?_
                    exact ⟨col_206, r_226, hm, hst, rfl, rfl⟩
                  · rw [if_neg hg_225] at hm
                    replace hg_225 := Bool.eq_false_iff.2 hg_225
                    refine lp (b := r_221) 190 rfl rfl rfl rfl (by rw [hg_225]; rfl) ?_
                    refine lp (b := r_221) 190 rfl rfl rfl rfl (by rw [hg_225]; rfl) ?_
                    refine lp (b := r_221) 190 rfl rfl rfl rfl (by rw [hg_225]; rfl) ?_
                    refine lv (v := (.bool false)) rfl rfl (r_pickF (congrArg Value.bool hg_225) rfl) ?_
                    refine lv (v := (.bool false)) rfl rfl (r_assign rfl) ?_
                    refine lnil ?_
                    exact ⟨col_206, false, hm, hst, rfl, rfl⟩
                · rw [if_neg hg_220] at hm
                  replace hg_220 := Bool.eq_false_iff.2 hg_220
                  refine lp (b := decide (r_198.2 = r_189.2)) 185 rfl rfl rfl rfl (by rw [hg_220]; rfl) ?_
                  refine lp (b := decide (r_198.2 = r_189.2)) 185 rfl rfl rfl rfl (by rw [hg_220]; rfl) ?_
                  refine lp (b := decide (r_198.2 = r_189.2)) 185 rfl rfl rfl rfl (by rw [hg_220]; rfl) ?_
                  refine lv (v := (.bool false)) rfl rfl (r_pickF (congrArg Value.bool hg_220) rfl) ?_
                  refine lv (v := (.bool false)) rfl rfl (r_move rfl) ?_
                  refine lp (b := false) 190 rfl rfl rfl rfl rfl ?_
                  refine lp (b := false) 190 rfl rfl rfl rfl rfl ?_
                  refine lp (b := false) 190 rfl rfl rfl rfl rfl ?_
                  refine lv (v := (.bool false)) rfl rfl (r_pickF rfl rfl) ?_
                  refine lv (v := (.bool false)) rfl rfl (r_assign rfl) ?_
                  refine lnil ?_
                  exact ⟨col_206, false, hm, hst, rfl, rfl⟩
      · refine wregion ?_
        refine lv (v := (.bool r_75.1)) rfl rfl (r_move rfl) ?_
        refine lv (v := (.bool (!r_75.1))) rfl rfl (r_not r_75.1 rfl) ?_
        refine lv (v := (.bool (!r_75.1))) rfl rfl (r_move rfl) ?_
        by_cases hg_230 : (!r_75.1) = true
        · rw [if_pos hg_230] at hm
          refine lp (b := !r_75.1) 103 rfl rfl rfl rfl (by rw [hg_230]; rfl) ?_
          refine lp (b := !r_75.1) 103 rfl rfl rfl rfl (by rw [hg_230]; rfl) ?_
          refine lv (v := (.bool true)) rfl rfl (r_pickT (congrArg Value.bool hg_230) rfl) ?_
          refine lv (v := (.bool true)) rfl rfl (r_move rfl) ?_
          refine lp (b := true) 107 rfl rfl rfl rfl rfl ?_
          refine lp (b := true) 107 rfl rfl rfl rfl rfl ?_
          refine lp (b := true) 107 rfl rfl rfl rfl rfl ?_
          refine lp (b := true) 107 rfl rfl rfl rfl rfl ?_
          refine lv (v := (.bool true)) rfl rfl (r_pickT rfl rfl) ?_
          refine lv (v := (.bool true)) rfl rfl (r_move rfl) ?_
          refine lp (b := true) 113 rfl rfl rfl rfl rfl ?_
          refine lp (b := true) 113 rfl rfl rfl rfl rfl ?_
          have h_231 := rh_11.old.take r_9.1.1
          clear rh_11
          refine lp (b := true) 113 rfl rfl rfl rfl rfl ?_
          refine lp (b := true) 113 rfl rfl rfl rfl rfl ?_
          refine lp (b := true) 113 rfl rfl rfl rfl rfl ?_
          refine lv (v := (.bool true)) rfl rfl (r_pickT rfl rfl) ?_
          refine lv (v := (.bool true)) rfl rfl (r_move rfl) ?_
          refine lp (b := true) 120 rfl rfl rfl rfl rfl ?_
          refine lp (b := true) 120 rfl rfl rfl rfl rfl ?_
          refine lp (b := true) 120 rfl rfl rfl rfl rfl ?_
          refine lp (b := true) 120 rfl rfl rfl rfl rfl ?_
          refine lp (b := true) 120 rfl rfl rfl rfl rfl ?_
          refine lv (v := (.bool true)) rfl rfl (r_pickT rfl rfl) ?_
          refine lnil ?_
          exact ⟨col_88, true, hm, hst, rh_23, rh_41, h2, rh_5, h_231, rfl, rfl, rfl, rfl, rfl, rfl, rfl, rfl⟩
        · rw [if_neg hg_230] at hm
          replace hg_230 := Bool.eq_false_iff.2 hg_230
          refine lg (b := !r_75.1) 103 rfl rfl rfl (by rw [hg_230]; rfl) ?_
          refine lv (v := (.bool r_82.1)) rfl rfl (r_move rfl) ?_
          refine lg (b := !r_75.1) 103 rfl rfl rfl (by rw [hg_230]; rfl) ?_
          refine lv (v := (.bool (!r_82.1))) rfl rfl (r_not r_82.1 rfl) ?_
          refine lv (v := (.bool (!r_82.1))) rfl rfl (r_pickF (congrArg Value.bool hg_230) rfl) ?_
          refine lv (v := (.bool (!r_82.1))) rfl rfl (r_move rfl) ?_
          by_cases hg_232 : (!r_82.1) = true
          · rw [if_pos hg_232] at hm
            refine lp (b := !r_82.1) 107 rfl rfl rfl rfl (by rw [hg_232]; rfl) ?_
            refine lp (b := !r_82.1) 107 rfl rfl rfl rfl (by rw [hg_232]; rfl) ?_
            refine lp (b := !r_82.1) 107 rfl rfl rfl rfl (by rw [hg_232]; rfl) ?_
            refine lp (b := !r_82.1) 107 rfl rfl rfl rfl (by rw [hg_232]; rfl) ?_
            refine lv (v := (.bool true)) rfl rfl (r_pickT (congrArg Value.bool hg_232) rfl) ?_
            refine lv (v := (.bool true)) rfl rfl (r_move rfl) ?_
            refine lp (b := true) 113 rfl rfl rfl rfl rfl ?_
            refine lp (b := true) 113 rfl rfl rfl rfl rfl ?_
            have h_233 := rh_11.old.take r_9.1.1
            clear rh_11
            refine lp (b := true) 113 rfl rfl rfl rfl rfl ?_
            refine lp (b := true) 113 rfl rfl rfl rfl rfl ?_
            refine lp (b := true) 113 rfl rfl rfl rfl rfl ?_
            refine lv (v := (.bool true)) rfl rfl (r_pickT rfl rfl) ?_
            refine lv (v := (.bool true)) rfl rfl (r_move rfl) ?_
            refine lp (b := true) 120 rfl rfl rfl rfl rfl ?_
            refine lp (b := true) 120 rfl rfl rfl rfl rfl ?_
            refine lp (b := true) 120 rfl rfl rfl rfl rfl ?_
            refine lp (b := true) 120 rfl rfl rfl rfl rfl ?_
            refine lp (b := true) 120 rfl rfl rfl rfl rfl ?_
            refine lv (v := (.bool true)) rfl rfl (r_pickT rfl rfl) ?_
            refine lnil ?_
            exact ⟨col_88, true, hm, hst, rh_23, rh_41, h2, rh_5, h_233, rfl, rfl, rfl, rfl, rfl, rfl, rfl, rfl⟩
          · rw [if_neg hg_232] at hm
            replace hg_232 := Bool.eq_false_iff.2 hg_232
            refine lg (b := !r_82.1) 107 rfl rfl rfl (by rw [hg_232]; rfl) ?_
            refine lv (v := (.slice ra_39 r_37.1.length rc_40)) rfl rfl (r_move rfl) ?_
            refine lg (b := !r_82.1) 107 rfl rfl rfl (by rw [hg_232]; rfl) ?_
            refine lv (v := (.slice ra_3 r_1.1.length rc_4)) rfl rfl (r_move rfl) ?_
            refine lg (b := !r_82.1) 107 rfl rfl rfl (by rw [hg_232]; rfl) ?_
            obtain ⟨r_234, hr_235, hm⟩ := bind_some hm
            refine lc rfl rfl (r_call2 Try.call33 rfl rfl) (c_credencelaw14_same N (frC 1 (frC 5 col_88)) _ ra_39 rc_40 r_37.1 ra_3 rc_4 r_1.1 ((rh_41.toSlF (Froz.row (Froz.int .i64))).froz 1) ((rh_5.froz 5 (by decide)).toSlF (Froz.row (Froz.int .i64))) r_234 hr_235) ?_
            rintro _ w_236 ⟨rfl, hg_237⟩
            refine ⟨_, rfl, ?_⟩
            replace hg_237 : Grow col_88 w_86 col_88 w_236 := .of_below hg_237
            replace h1 := h1.gr hg_237
            replace rh_11 := rh_11.gr hg_237
            replace rh_23 := rh_23.gr hg_237
            replace rh_41 := rh_41.gr hg_237
            replace h2 := h2.gr hg_237
            replace rh_5 := rh_5.gr hg_237
            replace hst := hst.grow hg_237
            refine lg (b := !r_82.1) 107 rfl rfl rfl (by rw [hg_232]; rfl) ?_
            refine lv (v := (.bool (!r_234))) rfl rfl (r_not r_234 rfl) ?_
            refine lv (v := (.bool (!r_234))) rfl rfl (r_pickF (congrArg Value.bool hg_232) rfl) ?_
            refine lv (v := (.bool (!r_234))) rfl rfl (r_move rfl) ?_
            by_cases hg_238 : (!r_234) = true
            · rw [if_pos hg_238] at hm
              refine lp (b := !r_234) 113 rfl rfl rfl rfl (by rw [hg_238]; rfl) ?_
              refine lp (b := !r_234) 113 rfl rfl rfl rfl (by rw [hg_238]; rfl) ?_
              have h_239 := rh_11.old.take r_9.1.1
              clear rh_11
              refine lp (b := !r_234) 113 rfl rfl rfl rfl (by rw [hg_238]; rfl) ?_
              refine lp (b := !r_234) 113 rfl rfl rfl rfl (by rw [hg_238]; rfl) ?_
              refine lp (b := !r_234) 113 rfl rfl rfl rfl (by rw [hg_238]; rfl) ?_
              refine lv (v := (.bool true)) rfl rfl (r_pickT (congrArg Value.bool hg_238) rfl) ?_
              refine lv (v := (.bool true)) rfl rfl (r_move rfl) ?_
              refine lp (b := true) 120 rfl rfl rfl rfl rfl ?_
              refine lp (b := true) 120 rfl rfl rfl rfl rfl ?_
              refine lp (b := true) 120 rfl rfl rfl rfl rfl ?_
              refine lp (b := true) 120 rfl rfl rfl rfl rfl ?_
              refine lp (b := true) 120 rfl rfl rfl rfl rfl ?_
              refine lv (v := (.bool true)) rfl rfl (r_pickT rfl rfl) ?_
              refine lnil ?_
              exact ⟨col_88, true, hm, hst, rh_23, rh_41, h2, rh_5, h_239, rfl, rfl, rfl, rfl, rfl, rfl, rfl, rfl⟩
            · rw [if_neg hg_238] at hm
              replace hg_238 := Bool.eq_false_iff.2 hg_238
              refine lg (b := !r_234) 113 rfl rfl rfl (by rw [hg_238]; rfl) ?_
              refine lv (v := (.slice ra_12 ((r_9.1.2.take r_9.1.1).length) rc_13)) rfl rfl (r_move rfl) ?_
              refine lg (b := !r_234) 113 rfl rfl rfl (by rw [hg_238]; rfl) ?_
              refine lv (v := (.slice ra_14 r_9.2.length rc_15)) rfl rfl (r_move rfl) ?_
              refine lg (b := !r_234) 113 rfl rfl rfl (by rw [hg_238]; rfl) ?_
              refine lv (v := (.slice a1 p1_parents.length cap1)) rfl rfl (r_move rfl) ?_
              refine lg (b := !r_234) 113 rfl rfl rfl (by rw [hg_238]; rfl) ?_
              obtain ⟨r_240, hr_241, hm⟩ := bind_some hm
              refine lc rfl rfl (r_call3 Try.call14 rfl rfl rfl) (c_credencelaw14_kept N (frC 2 col_88) _ ra_12 rc_13 r_9.1.1 r_9.1.2 ra_14 rc_15 r_9.2 a1 cap1 p1_parents (rh_11.old.toSlF (Froz.row (Froz.int .i64))) (rh_11.new.toSlF (Froz.row (Froz.int .i64))) (h1.froz 2) r_240 hr_241) ?_
              rintro _ w_242 ⟨rfl, hg_243⟩
              refine ⟨_, rfl, ?_⟩
              replace hg_243 : Grow col_88 w_236 col_88 w_242 := .of_below hg_243
              replace rh_23 := rh_23.gr hg_243
              replace rh_41 := rh_41.gr hg_243
              replace h2 := h2.gr hg_243
              replace rh_5 := rh_5.gr hg_243
              replace rh_11 := rh_11.gr hg_243
              replace h1 := h1.gr hg_243
              replace hst := hst.grow hg_243
              have h_244 := rh_11.old.take r_9.1.1
              clear rh_11
              refine lg (b := !r_234) 113 rfl rfl rfl (by rw [hg_238]; rfl) ?_
              refine lv (v := (.bool (!r_240))) rfl rfl (r_not r_240 rfl) ?_
              refine lv (v := (.bool (!r_240))) rfl rfl (r_pickF (congrArg Value.bool hg_238) rfl) ?_
              refine lv (v := (.bool (!r_240))) rfl rfl (r_move rfl) ?_
              by_cases hg_245 : (!r_240) = true
              · rw [if_pos hg_245] at hm
                refine lp (b := !r_240) 120 rfl rfl rfl rfl (by rw [hg_245]; rfl) ?_
                refine lp (b := !r_240) 120 rfl rfl rfl rfl (by rw [hg_245]; rfl) ?_
                refine lp (b := !r_240) 120 rfl rfl rfl rfl (by rw [hg_245]; rfl) ?_
                refine lp (b := !r_240) 120 rfl rfl rfl rfl (by rw [hg_245]; rfl) ?_
                refine lp (b := !r_240) 120 rfl rfl rfl rfl (by rw [hg_245]; rfl) ?_
                refine lv (v := (.bool true)) rfl rfl (r_pickT (congrArg Value.bool hg_245) rfl) ?_
                refine lnil ?_
                exact ⟨col_88, true, hm, hst, rh_23, rh_41, h2, rh_5, h_244, rfl, rfl, rfl, rfl, rfl, rfl, rfl, rfl⟩
              · rw [if_neg hg_245] at hm
                replace hg_245 := Bool.eq_false_iff.2 hg_245
                refine lg (b := !r_240) 120 rfl rfl rfl (by rw [hg_245]; rfl) ?_
                refine lv (v := (.slice ra_21 r_19.length rc_22)) rfl rfl (r_move rfl) ?_
                refine lg (b := !r_240) 120 rfl rfl rfl (by rw [hg_245]; rfl) ?_
                refine lv (v := (.slice a2 p2_points.length cap2)) rfl rfl (r_move rfl) ?_
                refine lg (b := !r_240) 120 rfl rfl rfl (by rw [hg_245]; rfl) ?_
                obtain ⟨r_246, hr_247, hm⟩ := bind_some hm
                refine lc rfl rfl (r_call1 Try.call26 rfl) (c_credencelaw14_long 13 col_88 _ a2 cap2 p2_points h2 r_246 hr_247) ?_
                rintro _ w_251 ⟨col_253, ra_248, rc_249, rfl, hg_252, rh_250⟩
                refine ⟨_, rfl, ?_⟩
                replace rh_23 := rh_23.gr hg_252
                replace rh_41 := rh_41.gr hg_252
                replace h2 := h2.gr hg_252
                replace rh_5 := rh_5.gr hg_252
                replace h_244 := h_244.gr hg_252
                replace hst := hst.grow hg_252
                refine lg (b := !r_240) 120 rfl rfl rfl (by rw [hg_245]; rfl) ?_
                obtain ⟨r_254, hr_255, hm⟩ := bind_some hm
                refine lc rfl rfl (r_call2 Try.call12 rfl rfl) (c_credenceref14_Same N (frC 13 (frC 3 col_253)) _ ra_21 rc_22 r_19 ra_248 rc_249 r_246 ((rh_23.toSlF (Froz.int .i64)).froz 13) ((rh_250.froz 3 (by decide)).toSlF (Froz.int .i64)) r_254 hr_255) ?_
                rintro _ w_256 ⟨rfl, hg_257⟩
                refine ⟨_, rfl, ?_⟩
                replace hg_257 : Grow col_253 w_251 col_253 w_256 := .of_below hg_257
                replace rh_23 := rh_23.gr hg_257
                replace rh_41 := rh_41.gr hg_257
                replace h2 := h2.gr hg_257
                replace rh_5 := rh_5.gr hg_257
                replace h_244 := h_244.gr hg_257
                replace rh_250 := rh_250.gr hg_257
                replace hst := hst.grow hg_257
                refine lg (b := !r_240) 120 rfl rfl rfl (by rw [hg_245]; rfl) ?_
                refine lv (v := (.bool (!r_254))) rfl rfl (r_not r_254 rfl) ?_
                refine lv (v := (.bool (!r_254))) rfl rfl (r_pickF (congrArg Value.bool hg_245) rfl) ?_
                refine lnil ?_
                exact ⟨col_253, (!r_254), hm, hst, rh_23, rh_41, h2, rh_5, h_244, rfl, rfl, rfl, rfl, rfl, rfl, rfl, rfl⟩
  · refine wregion ?_
    refine lv (v := (.int .i64 r_28.2)) rfl rfl (r_move rfl) ?_
    refine lv (v := (.int .i64 r_1.2)) rfl rfl (r_move rfl) ?_
    refine lv (v := (.bool (!decide (r_28.2 = r_1.2)))) rfl rfl (r_neq r_28.2 r_1.2 rfl rfl) ?_
    refine lv (v := (.bool (!decide (r_28.2 = r_1.2)))) rfl rfl (r_move rfl) ?_
    by_cases hg_258 : (!decide (r_28.2 = r_1.2)) = true
    · rw [if_pos hg_258] at hm
      refine lp (b := !decide (r_28.2 = r_1.2)) 69 rfl rfl rfl rfl (by rw [hg_258]; rfl) ?_
      refine lp (b := !decide (r_28.2 = r_1.2)) 69 rfl rfl rfl rfl (by rw [hg_258]; rfl) ?_
      refine lp (b := !decide (r_28.2 = r_1.2)) 69 rfl rfl rfl rfl (by rw [hg_258]; rfl) ?_
      refine lv (v := (.bool true)) rfl rfl (r_pickT (congrArg Value.bool hg_258) rfl) ?_
      refine lv (v := (.bool true)) rfl rfl (r_move rfl) ?_
      refine lp (b := true) 74 rfl rfl rfl rfl rfl ?_
      refine lp (b := true) 74 rfl rfl rfl rfl rfl ?_
      refine lp (b := true) 74 rfl rfl rfl rfl rfl ?_
      refine lv (v := (.bool true)) rfl rfl (r_pickT rfl rfl) ?_
      refine lv (v := (.bool true)) rfl rfl (r_move rfl) ?_
      refine lp (b := true) 79 rfl rfl rfl rfl rfl ?_
      refine lp (b := true) 79 rfl rfl rfl rfl rfl ?_
      refine lp (b := true) 79 rfl rfl rfl rfl rfl ?_
      refine lp (b := true) 79 rfl rfl rfl rfl rfl ?_
      refine lv (v := (.bool true)) rfl rfl (r_pickT rfl rfl) ?_
      refine lv (v := (.bool true)) rfl rfl (r_move rfl) ?_
      refine lp (b := true) 85 rfl rfl rfl rfl rfl ?_
      refine lp (b := true) 85 rfl rfl rfl rfl rfl ?_
      refine lp (b := true) 85 rfl rfl rfl rfl rfl ?_
      refine lp (b := true) 85 rfl rfl rfl rfl rfl ?_
      refine lv (v := (.bool true)) rfl rfl (r_pickT rfl rfl) ?_
      refine lv (v := (.bool true)) rfl rfl (r_move rfl) ?_
      refine lp (b := true) 91 rfl rfl rfl rfl rfl ?_
      refine lp (b := true) 91 rfl rfl rfl rfl rfl ?_
      refine lp (b := true) 91 rfl rfl rfl rfl rfl ?_
      refine lp (b := true) 91 rfl rfl rfl rfl rfl ?_
      refine lv (v := (.bool true)) rfl rfl (r_pickT rfl rfl) ?_
      refine lnil ?_
      exact ⟨col_54, true, hm, hst, h1, rh_11, rh_23, rh_32, rh_41, rh_50, h2, rh_5, rfl, rfl, rfl, rfl, rfl, rfl, rfl, rfl, rfl, rfl, rfl, rfl, rfl⟩
    · rw [if_neg hg_258] at hm
      replace hg_258 := Bool.eq_false_iff.2 hg_258
      refine lg (b := !decide (r_28.2 = r_1.2)) 69 rfl rfl rfl (by rw [hg_258]; rfl) ?_
      refine lv (v := (.int .i64 r_37.2)) rfl rfl (r_move rfl) ?_
      refine lg (b := !decide (r_28.2 = r_1.2)) 69 rfl rfl rfl (by rw [hg_258]; rfl) ?_
      refine lv (v := (.int .i64 r_1.2)) rfl rfl (r_move rfl) ?_
      refine lg (b := !decide (r_28.2 = r_1.2)) 69 rfl rfl rfl (by rw [hg_258]; rfl) ?_
      refine lv (v := (.bool (!decide (r_37.2 = r_1.2)))) rfl rfl (r_neq r_37.2 r_1.2 rfl rfl) ?_
      refine lv (v := (.bool (!decide (r_37.2 = r_1.2)))) rfl rfl (r_pickF (congrArg Value.bool hg_258) rfl) ?_
      refine lv (v := (.bool (!decide (r_37.2 = r_1.2)))) rfl rfl (r_move rfl) ?_
      by_cases hg_259 : (!decide (r_37.2 = r_1.2)) = true
      · rw [if_pos hg_259] at hm
        refine lp (b := !decide (r_37.2 = r_1.2)) 74 rfl rfl rfl rfl (by rw [hg_259]; rfl) ?_
        refine lp (b := !decide (r_37.2 = r_1.2)) 74 rfl rfl rfl rfl (by rw [hg_259]; rfl) ?_
        refine lp (b := !decide (r_37.2 = r_1.2)) 74 rfl rfl rfl rfl (by rw [hg_259]; rfl) ?_
        refine lv (v := (.bool true)) rfl rfl (r_pickT (congrArg Value.bool hg_259) rfl) ?_
        refine lv (v := (.bool true)) rfl rfl (r_move rfl) ?_
        refine lp (b := true) 79 rfl rfl rfl rfl rfl ?_
        refine lp (b := true) 79 rfl rfl rfl rfl rfl ?_
        refine lp (b := true) 79 rfl rfl rfl rfl rfl ?_
        refine lp (b := true) 79 rfl rfl rfl rfl rfl ?_
        refine lv (v := (.bool true)) rfl rfl (r_pickT rfl rfl) ?_
        refine lv (v := (.bool true)) rfl rfl (r_move rfl) ?_
        refine lp (b := true) 85 rfl rfl rfl rfl rfl ?_
        refine lp (b := true) 85 rfl rfl rfl rfl rfl ?_
        refine lp (b := true) 85 rfl rfl rfl rfl rfl ?_
        refine lp (b := true) 85 rfl rfl rfl rfl rfl ?_
        refine lv (v := (.bool true)) rfl rfl (r_pickT rfl rfl) ?_
        refine lv (v := (.bool true)) rfl rfl (r_move rfl) ?_
        refine lp (b := true) 91 rfl rfl rfl rfl rfl ?_
        refine lp (b := true) 91 rfl rfl rfl rfl rfl ?_
        refine lp (b := true) 91 rfl rfl rfl rfl rfl ?_
        refine lp (b := true) 91 rfl rfl rfl rfl rfl ?_
        refine lv (v := (.bool true)) rfl rfl (r_pickT rfl rfl) ?_
        refine lnil ?_
        exact ⟨col_54, true, hm, hst, h1, rh_11, rh_23, rh_32, rh_41, rh_50, h2, rh_5, rfl, rfl, rfl, rfl, rfl, rfl, rfl, rfl, rfl, rfl, rfl, rfl, rfl⟩
      · rw [if_neg hg_259] at hm
        replace hg_259 := Bool.eq_false_iff.2 hg_259
        refine lg (b := !decide (r_37.2 = r_1.2)) 74 rfl rfl rfl (by rw [hg_259]; rfl) ?_
        refine lv (v := (.int .i64 r_46.2)) rfl rfl (r_move rfl) ?_
        refine lg (b := !decide (r_37.2 = r_1.2)) 74 rfl rfl rfl (by rw [hg_259]; rfl) ?_
        refine lv (v := (.int .i64 r_1.2)) rfl rfl (r_move rfl) ?_
        refine lg (b := !decide (r_37.2 = r_1.2)) 74 rfl rfl rfl (by rw [hg_259]; rfl) ?_
        refine lv (v := (.bool (!decide (r_46.2 = r_1.2)))) rfl rfl (r_neq r_46.2 r_1.2 rfl rfl) ?_
        refine lv (v := (.bool (!decide (r_46.2 = r_1.2)))) rfl rfl (r_pickF (congrArg Value.bool hg_259) rfl) ?_
        refine lv (v := (.bool (!decide (r_46.2 = r_1.2)))) rfl rfl (r_move rfl) ?_
        by_cases hg_260 : (!decide (r_46.2 = r_1.2)) = true
        · rw [if_pos hg_260] at hm
          refine lp (b := !decide (r_46.2 = r_1.2)) 79 rfl rfl rfl rfl (by rw [hg_260]; rfl) ?_
          refine lp (b := !decide (r_46.2 = r_1.2)) 79 rfl rfl rfl rfl (by rw [hg_260]; rfl) ?_
          refine lp (b := !decide (r_46.2 = r_1.2)) 79 rfl rfl rfl rfl (by rw [hg_260]; rfl) ?_
          refine lp (b := !decide (r_46.2 = r_1.2)) 79 rfl rfl rfl rfl (by rw [hg_260]; rfl) ?_
          refine lv (v := (.bool true)) rfl rfl (r_pickT (congrArg Value.bool hg_260) rfl) ?_
          refine lv (v := (.bool true)) rfl rfl (r_move rfl) ?_
          refine lp (b := true) 85 rfl rfl rfl rfl rfl ?_
          refine lp (b := true) 85 rfl rfl rfl rfl rfl ?_
          refine lp (b := true) 85 rfl rfl rfl rfl rfl ?_
          refine lp (b := true) 85 rfl rfl rfl rfl rfl ?_
          refine lv (v := (.bool true)) rfl rfl (r_pickT rfl rfl) ?_
          refine lv (v := (.bool true)) rfl rfl (r_move rfl) ?_
          refine lp (b := true) 91 rfl rfl rfl rfl rfl ?_
          refine lp (b := true) 91 rfl rfl rfl rfl rfl ?_
          refine lp (b := true) 91 rfl rfl rfl rfl rfl ?_
          refine lp (b := true) 91 rfl rfl rfl rfl rfl ?_
          refine lv (v := (.bool true)) rfl rfl (r_pickT rfl rfl) ?_
          refine lnil ?_
          exact ⟨col_54, true, hm, hst, h1, rh_11, rh_23, rh_32, rh_41, rh_50, h2, rh_5, rfl, rfl, rfl, rfl, rfl, rfl, rfl, rfl, rfl, rfl, rfl, rfl, rfl⟩
        · rw [if_neg hg_260] at hm
          replace hg_260 := Bool.eq_false_iff.2 hg_260
          refine lg (b := !decide (r_46.2 = r_1.2)) 79 rfl rfl rfl (by rw [hg_260]; rfl) ?_
          refine lv (v := (.slice ra_30 r_28.1.length rc_31)) rfl rfl (r_move rfl) ?_
          refine lg (b := !decide (r_46.2 = r_1.2)) 79 rfl rfl rfl (by rw [hg_260]; rfl) ?_
          refine lv (v := (.slice ra_3 r_1.1.length rc_4)) rfl rfl (r_move rfl) ?_
          refine lg (b := !decide (r_46.2 = r_1.2)) 79 rfl rfl rfl (by rw [hg_260]; rfl) ?_
          obtain ⟨r_261, hr_262, hm⟩ := bind_some hm
          refine lc rfl rfl (r_call2 Try.call33 rfl rfl) (c_credencelaw14_same N (frC 1 (frC 4 col_54)) _ ra_30 rc_31 r_28.1 ra_3 rc_4 r_1.1 ((rh_32.toSlF (Froz.row (Froz.int .i64))).froz 1) ((rh_5.froz 4 (by decide)).toSlF (Froz.row (Froz.int .i64))) r_261 hr_262) ?_
          rintro _ w_263 ⟨rfl, hg_264⟩
          refine ⟨_, rfl, ?_⟩
          replace hg_264 : Grow col_54 w_51 col_54 w_263 := .of_below hg_264
          replace h1 := h1.gr hg_264
          replace h2 := h2.gr hg_264
          replace rh_5 := rh_5.gr hg_264
          replace rh_11 := rh_11.gr hg_264
          replace rh_23 := rh_23.gr hg_264
          replace rh_32 := rh_32.gr hg_264
          replace rh_41 := rh_41.gr hg_264
          replace rh_50 := rh_50.gr hg_264
          replace hst := hst.grow hg_264
          refine lg (b := !decide (r_46.2 = r_1.2)) 79 rfl rfl rfl (by rw [hg_260]; rfl) ?_
          refine lv (v := (.bool (!r_261))) rfl rfl (r_not r_261 rfl) ?_
          refine lv (v := (.bool (!r_261))) rfl rfl (r_pickF (congrArg Value.bool hg_260) rfl) ?_
          refine lv (v := (.bool (!r_261))) rfl rfl (r_move rfl) ?_
          by_cases hg_265 : (!r_261) = true
          · rw [if_pos hg_265] at hm
            refine lp (b := !r_261) 85 rfl rfl rfl rfl (by rw [hg_265]; rfl) ?_
            refine lp (b := !r_261) 85 rfl rfl rfl rfl (by rw [hg_265]; rfl) ?_
            refine lp (b := !r_261) 85 rfl rfl rfl rfl (by rw [hg_265]; rfl) ?_
            refine lp (b := !r_261) 85 rfl rfl rfl rfl (by rw [hg_265]; rfl) ?_
            refine lv (v := (.bool true)) rfl rfl (r_pickT (congrArg Value.bool hg_265) rfl) ?_
            refine lv (v := (.bool true)) rfl rfl (r_move rfl) ?_
            refine lp (b := true) 91 rfl rfl rfl rfl rfl ?_
            refine lp (b := true) 91 rfl rfl rfl rfl rfl ?_
            refine lp (b := true) 91 rfl rfl rfl rfl rfl ?_
            refine lp (b := true) 91 rfl rfl rfl rfl rfl ?_
            refine lv (v := (.bool true)) rfl rfl (r_pickT rfl rfl) ?_
            refine lnil ?_
            exact ⟨col_54, true, hm, hst, h1, rh_11, rh_23, rh_32, rh_41, rh_50, h2, rh_5, rfl, rfl, rfl, rfl, rfl, rfl, rfl, rfl, rfl, rfl, rfl, rfl, rfl⟩
          · rw [if_neg hg_265] at hm
            replace hg_265 := Bool.eq_false_iff.2 hg_265
            refine lg (b := !r_261) 85 rfl rfl rfl (by rw [hg_265]; rfl) ?_
            refine lv (v := (.slice ra_39 r_37.1.length rc_40)) rfl rfl (r_move rfl) ?_
            refine lg (b := !r_261) 85 rfl rfl rfl (by rw [hg_265]; rfl) ?_
            refine lv (v := (.slice ra_3 r_1.1.length rc_4)) rfl rfl (r_move rfl) ?_
            refine lg (b := !r_261) 85 rfl rfl rfl (by rw [hg_265]; rfl) ?_
            obtain ⟨r_266, hr_267, hm⟩ := bind_some hm
            refine lc rfl rfl (r_call2 Try.call33 rfl rfl) (c_credencelaw14_same N (frC 1 (frC 5 col_54)) _ ra_39 rc_40 r_37.1 ra_3 rc_4 r_1.1 ((rh_41.toSlF (Froz.row (Froz.int .i64))).froz 1) ((rh_5.froz 5 (by decide)).toSlF (Froz.row (Froz.int .i64))) r_266 hr_267) ?_
            rintro _ w_268 ⟨rfl, hg_269⟩
            refine ⟨_, rfl, ?_⟩
            replace hg_269 : Grow col_54 w_263 col_54 w_268 := .of_below hg_269
            replace h1 := h1.gr hg_269
            replace h2 := h2.gr hg_269
            replace rh_5 := rh_5.gr hg_269
            replace rh_11 := rh_11.gr hg_269
            replace rh_23 := rh_23.gr hg_269
            replace rh_32 := rh_32.gr hg_269
            replace rh_41 := rh_41.gr hg_269
            replace rh_50 := rh_50.gr hg_269
            replace hst := hst.grow hg_269
            refine lg (b := !r_261) 85 rfl rfl rfl (by rw [hg_265]; rfl) ?_
            refine lv (v := (.bool (!r_266))) rfl rfl (r_not r_266 rfl) ?_
            refine lv (v := (.bool (!r_266))) rfl rfl (r_pickF (congrArg Value.bool hg_265) rfl) ?_
            refine lv (v := (.bool (!r_266))) rfl rfl (r_move rfl) ?_
            by_cases hg_270 : (!r_266) = true
            · rw [if_pos hg_270] at hm
              refine lp (b := !r_266) 91 rfl rfl rfl rfl (by rw [hg_270]; rfl) ?_
              refine lp (b := !r_266) 91 rfl rfl rfl rfl (by rw [hg_270]; rfl) ?_
              refine lp (b := !r_266) 91 rfl rfl rfl rfl (by rw [hg_270]; rfl) ?_
              refine lp (b := !r_266) 91 rfl rfl rfl rfl (by rw [hg_270]; rfl) ?_
              refine lv (v := (.bool true)) rfl rfl (r_pickT (congrArg Value.bool hg_270) rfl) ?_
              refine lnil ?_
              exact ⟨col_54, true, hm, hst, h1, rh_11, rh_23, rh_32, rh_41, rh_50, h2, rh_5, rfl, rfl, rfl, rfl, rfl, rfl, rfl, rfl, rfl, rfl, rfl, rfl, rfl⟩
            · rw [if_neg hg_270] at hm
              replace hg_270 := Bool.eq_false_iff.2 hg_270
              refine lg (b := !r_266) 91 rfl rfl rfl (by rw [hg_270]; rfl) ?_
              refine lv (v := (.slice ra_48 r_46.1.length rc_49)) rfl rfl (r_move rfl) ?_
              refine lg (b := !r_266) 91 rfl rfl rfl (by rw [hg_270]; rfl) ?_
              refine lv (v := (.slice ra_3 r_1.1.length rc_4)) rfl rfl (r_move rfl) ?_
              refine lg (b := !r_266) 91 rfl rfl rfl (by rw [hg_270]; rfl) ?_
              obtain ⟨r_271, hr_272, hm⟩ := bind_some hm
              refine lc rfl rfl (r_call2 Try.call33 rfl rfl) (c_credencelaw14_same N (frC 1 (frC 6 col_54)) _ ra_48 rc_49 r_46.1 ra_3 rc_4 r_1.1 ((rh_50.toSlF (Froz.row (Froz.int .i64))).froz 1) ((rh_5.froz 6 (by decide)).toSlF (Froz.row (Froz.int .i64))) r_271 hr_272) ?_
              rintro _ w_273 ⟨rfl, hg_274⟩
              refine ⟨_, rfl, ?_⟩
              replace hg_274 : Grow col_54 w_268 col_54 w_273 := .of_below hg_274
              replace h1 := h1.gr hg_274
              replace h2 := h2.gr hg_274
              replace rh_5 := rh_5.gr hg_274
              replace rh_11 := rh_11.gr hg_274
              replace rh_23 := rh_23.gr hg_274
              replace rh_32 := rh_32.gr hg_274
              replace rh_41 := rh_41.gr hg_274
              replace rh_50 := rh_50.gr hg_274
              replace hst := hst.grow hg_274
              refine lg (b := !r_266) 91 rfl rfl rfl (by rw [hg_270]; rfl) ?_
              refine lv (v := (.bool (!r_271))) rfl rfl (r_not r_271 rfl) ?_
              refine lv (v := (.bool (!r_271))) rfl rfl (r_pickF (congrArg Value.bool hg_270) rfl) ?_
              refine lnil ?_
              exact ⟨col_54, (!r_271), hm, hst, h1, rh_11, rh_23, rh_32, rh_41, rh_50, h2, rh_5, rfl, rfl, rfl, rfl, rfl, rfl, rfl, rfl, rfl, rfl, rfl, rfl, rfl⟩




def m_credencelaw14_DagSays_L1 (N : Nat) (p0_parents : (List (List Int))) (p1_points : (List Int)) : Nat → Int → Option Bool
  | 0, _ => none
  | n_5 + 1, do_8 => if (decide (do_8 < 5)) = true then ((m_credencelaw14_made N do_8 p0_parents p1_points).bind fun r_9 => if (!r_9) = true then (some false) else ((m_credencelaw14_DagSays_L1 N p0_parents p1_points n_5) (IntKind.i64.wrap (do_8 + 1)))) else ((m_dag_Check N p0_parents).bind fun r_13 => (m_credenceref14_Check N p0_parents).bind fun r_17 => some (decide (r_13 = r_17)))

def m_credencelaw14_DagSays (N : Nat) (p0_parents : (List (List Int))) (p1_points : (List Int)) : Option Bool :=
  (m_credencelaw14_many N p0_parents).bind fun r_1 => if r_1 = true then (some true) else (m_credencelaw14_DagSays_L1 N p0_parents p1_points N 0)

set_option maxRecDepth 100000 in
theorem c_credencelaw14_DagSays (N : Nat) (col : Col) (w0 : World) (a0 : Option Addr) (cap0 : Nat) (p0_parents : (List (List Int))) (a1 : Option Addr) (cap1 : Nat) (p1_points : (List Int)) (h0 : Sl (Rep.slice (Rep.int .i64)) col w0 a0 cap0 p0_parents) (h1 : Sl (Rep.int .i64) col w0 a1 cap1 p1_points) (r : Bool) (hm : m_credencelaw14_DagSays N p0_parents p1_points = some r) :
    Calls Try.prog 6 #[(.slice a0 p0_parents.length cap0), (.slice a1 p1_points.length cap1)] w0 (fun e w' => e = .returned ((.bool r)) ∧ Below w0.heap.size w0 w') := by
  refine calls_of1 4 (m := 24) (args := [(.slice a0 p0_parents.length cap0), (.slice a1 p1_points.length cap1)]) Try.func6 rfl rfl rfl rfl rfl ?_
  rw [m_credencelaw14_DagSays.eq_1] at hm
  have hst := St.start col w0
  replace h0 := h0.keep (Stay.start col w0)
  replace h1 := h1.keep (Stay.start col w0)
  refine wseq ?_
  refine wregion ?_
  refine lv (v := (.bool false)) rfl rfl (r_assign rfl) ?_
  refine lnil ?_
  refine wseq ?_
  refine wseq ?_
  refine wregion ?_
  refine lv (v := (.slice a0 p0_parents.length cap0)) rfl rfl (r_move rfl) ?_
  obtain ⟨r_1, hr_2, hm⟩ := bind_some hm
  refine lc rfl rfl (r_call1 Try.call8 rfl) (c_credencelaw14_many N (col0 col) _ a0 cap0 p0_parents h0 r_1 hr_2) ?_
  rintro _ w_3 ⟨rfl, hg_4⟩
  refine ⟨_, rfl, ?_⟩
  replace hg_4 : Grow (col0 col) w0 (col0 col) w_3 := .of_below hg_4
  replace h0 := h0.gr hg_4
  replace h1 := h1.gr hg_4
  replace hst := hst.grow hg_4
  refine lnil ?_
  refine wcond (r_1) rfl (fun hb => ?_) (fun hb => ?_)
  · rw [if_pos hb] at hm
    clear hb
    refine wseq ?_
    refine wregion ?_
    refine lv (v := (.bool true)) rfl rfl (r_assign rfl) ?_
    refine lnil ?_
    refine wret ?_
    cases hm
    exact ⟨rfl, rfl, hst.below⟩
  · rw [if_neg (by rw [hb]; decide)] at hm
    clear hb
    refine wskip ?_
    refine wseq ?_
    refine wseq ?_
    refine wregion ?_
    refine lv (v := (.int .i64 0)) rfl rfl (r_assign rfl) ?_
    refine lnil ?_
    refine wblock ?_
    refine wloop (fun n f w_6 => ∃ (col_7 : Col) (do_8 : Int) (n_5 : Nat), n_5 = n ∧ m_credencelaw14_DagSays_L1 N p0_parents p1_points n_5 do_8 = some r ∧ St w0 (col0 col) col_7 w_6 ∧ Sl (Rep.slice (Rep.int .i64)) col_7 w_6 a0 cap0 p0_parents ∧ Sl (Rep.int .i64) col_7 w_6 a1 cap1 p1_points ∧ f 0 = (.slice a0 p0_parents.length cap0) ∧ f 1 = (.slice a1 p1_points.length cap1) ∧ f 5 = (.int .i64 do_8) ∧ f 1000000 = (enc [])) N ⟨(col0 col), 0, N, rfl, hm, hst, h0, h1, rfl, rfl, rfl, rfl⟩ ?_
    clear hm; intro n f w_6 hI
    obtain ⟨col_7, do_8, n_5, hn, hm, hst, h0, h1, hs0, hs1, hs5, hs1000000⟩ := hI
    subst hn
    refine .ld (d := 0) (v := (.slice a0 p0_parents.length cap0)) hs0 ?_
    refine .ld (d := 1) (v := (.slice a1 p1_points.length cap1)) hs1 ?_
    refine .ld (d := 5) (v := (.int .i64 do_8)) hs5 ?_
    refine .ld (d := 1000000) (v := (enc [])) hs1000000 ?_
    clear hs0 hs1 hs5 hs1000000
    cases n_5 with
    | zero => rw [m_credencelaw14_DagSays_L1.eq_1] at hm; cases hm
    | succ n_5 =>
      rw [m_credencelaw14_DagSays_L1.eq_2] at hm
      refine wseq ?_
      refine wseq ?_
      refine wregion ?_
      refine lv (v := (.int .i64 do_8)) rfl rfl (r_move rfl) ?_
      refine lv (v := (.bool (decide (do_8 < 5)))) rfl rfl (r_lss do_8 5 rfl rfl) ?_
      refine lnil ?_
      refine wcond (decide (do_8 < 5)) rfl (fun hb => ?_) (fun hb => ?_)
      · rw [if_pos hb] at hm
        clear hb
        refine wskip ?_
        refine wseq ?_
        refine wblock ?_
        refine wseq ?_
        refine wregion ?_
        refine lv (v := (.int .i64 do_8)) rfl rfl (r_move rfl) ?_
        refine lv (v := (.slice a0 p0_parents.length cap0)) rfl rfl (r_move rfl) ?_
        refine lv (v := (.slice a1 p1_points.length cap1)) rfl rfl (r_move rfl) ?_
        obtain ⟨r_9, hr_10, hm⟩ := bind_some hm
        refine lc rfl rfl (r_call3 Try.call21 rfl rfl rfl) (c_credencelaw14_made N col_7 _ do_8 a0 cap0 p0_parents a1 cap1 p1_points h0 h1 r_9 hr_10) ?_
        rintro _ w_11 ⟨rfl, hg_12⟩
        refine ⟨_, rfl, ?_⟩
        replace hg_12 : Grow col_7 w_6 col_7 w_11 := .of_below hg_12
        replace h0 := h0.gr hg_12
        replace h1 := h1.gr hg_12
        replace hst := hst.grow hg_12
        refine lv (v := (.bool r_9)) rfl rfl (r_assign rfl) ?_
        refine lnil ?_
        refine wseq ?_
        refine wregion ?_
        refine lv (v := (.bool r_9)) rfl rfl (r_move rfl) ?_
        refine lv (v := (.bool (!r_9))) rfl rfl (r_not r_9 rfl) ?_
        refine lnil ?_
        refine wcond (!r_9) rfl (fun hb => ?_) (fun hb => ?_)
        · rw [if_pos hb] at hm
          clear hb
          refine wseq ?_
          refine wregion ?_
          refine lv (v := (.bool false)) rfl rfl (r_assign rfl) ?_
          refine lnil ?_
          refine wret ?_
          cases hm
          exact ⟨rfl, rfl, hst.below⟩
        · rw [if_neg (by rw [hb]; decide)] at hm
          clear hb
          refine wskip ?_
          refine wregion ?_
          refine lv (v := (.int .i64 do_8)) rfl rfl (r_move rfl) ?_
          refine lv (v := (.int .i64 (IntKind.i64.wrap (do_8 + 1)))) rfl rfl (r_add do_8 1 rfl rfl) ?_
          refine lv (v := (.int .i64 (IntKind.i64.wrap (do_8 + 1)))) rfl rfl (r_assign rfl) ?_
          refine lnil ?_
          exact ⟨n_5, by omega, ⟨col_7, (IntKind.i64.wrap (do_8 + 1)), n_5, rfl, hm, hst, h0, h1, rfl, rfl, rfl, rfl⟩⟩
      · rw [if_neg (by rw [hb]; decide)] at hm
        clear hb
        refine wexit (inB_hit ?_)
        refine wseq ?_
        refine wregion ?_
        refine lv (v := (.slice a0 p0_parents.length cap0)) rfl rfl (r_move rfl) ?_
        obtain ⟨r_13, hr_14, hm⟩ := bind_some hm
        refine lc rfl rfl (r_call1 Try.call18 rfl) (c_dag_Check N col_7 _ a0 cap0 p0_parents h0 r_13 hr_14) ?_
        rintro _ w_15 ⟨rfl, hg_16⟩
        refine ⟨_, rfl, ?_⟩
        replace hg_16 : Grow col_7 w_6 col_7 w_15 := .of_below hg_16
        replace h0 := h0.gr hg_16
        replace hst := hst.grow hg_16
        refine lv (v := (.slice a0 p0_parents.length cap0)) rfl rfl (r_move rfl) ?_
        obtain ⟨r_17, hr_18, hm⟩ := bind_some hm
        refine lc rfl rfl (r_call1 Try.call22 rfl) (c_credenceref14_Check N col_7 _ a0 cap0 p0_parents h0 r_17 hr_18) ?_
        rintro _ w_19 ⟨rfl, hg_20⟩
        refine ⟨_, rfl, ?_⟩
        replace hg_20 : Grow col_7 w_15 col_7 w_19 := .of_below hg_20
        replace h0 := h0.gr hg_20
        replace hst := hst.grow hg_20
        refine lv (v := (.bool (decide (r_13 = r_17)))) rfl rfl (r_eql r_13 r_17 rfl rfl) ?_
        refine lv (v := (.bool (decide (r_13 = r_17)))) rfl rfl (r_assign rfl) ?_
        refine lnil ?_
        refine wret ?_
        cases hm
        exact ⟨rfl, rfl, hst.below⟩



theorem Same2_L1 (N : Nat) (a : List Int) (hl : a.length ≤ 2000000) : ∀ (n k : Nat), a.length < n + k → k ≤ a.length → m_credenceref14_Same_L1 N a a n (k : Int) = some true
  | 0, k, h, hk => by omega
  | n + 1, k, h, hk => by
    rw [m_credenceref14_Same_L1.eq_2]
    by_cases hlt : k < a.length
    · rw [if_pos (by simpa using hlt), at?_lt hlt, Option.bind_some, Option.bind_some, wS (by omega), if_neg (by simp)]
      exact Same2_L1 N a hl n (k + 1) (by omega) (by omega)
    · rw [if_neg (by simpa using hlt)]
theorem Same2_eq {N : Nat} {a : List Int} (hl : a.length ≤ 2000000) (hN : 2000000 < N) : m_credenceref14_Same N a a = some true := by
  rw [m_credenceref14_Same, if_neg (by simp)]
  exact Same2_L1 N a hl N 0 (by omega) (by omega)
theorem same_L1 (N : Nat) (a : List (List Int)) (ha : a.length ≤ 1000000) (hl : ∀ l ∈ a, l.length ≤ 1000000) (hN : 2000000 < N) : ∀ (n i : Nat), a.length < n + i → i ≤ a.length → m_credencelaw14_same_L1 N a a n (i : Int) = some true
  | 0, i, h, hi => by omega
  | n + 1, i, h, hi => by
    rw [m_credencelaw14_same_L1.eq_2]
    by_cases hlt : i < a.length
    · have := hl _ (List.getElem_mem hlt)
      rw [if_pos (by simpa using hlt), at?_lt hlt, Option.bind_some, Option.bind_some, Same2_eq (by omega) hN, Option.bind_some, if_neg (by decide), wS (by omega)]
      exact same_L1 N a ha hl hN n (i + 1) (by omega) (by omega)
    · rw [if_neg (by simpa using hlt)]
theorem same_eq {N : Nat} {a : List (List Int)} (ha : a.length ≤ 1000000) (hl : ∀ l ∈ a, l.length ≤ 1000000) (hN : 2000000 < N) : m_credencelaw14_same N a a = some true := by
  rw [m_credencelaw14_same, if_neg (by simp)]
  exact same_L1 N a ha hl hN N 0 (by omega) (by omega)

/-- Lists of which each is full of its own mark. -/
def Marked (mark : Int) (l : List (List Int)) (i : Nat) : Prop := ∀ j : Nat, j < i → ∀ x ∈ l.getD j [], x = IntKind.i64.wrap (mark - (j : Int))
section
variable {N : Nat} {mark : Int} (hN : 2000000 < N)
include hN
omit hN in
theorem spoilt_L2 (i : Nat) (hi0 : i ≤ 1000000) (kk : List (List Int) → Int → Option (Bool × List (List Int))) : ∀ (f k : Nat) (l : List (List Int)), (hi : i < l.length) → (l.getD i []).length < f + k → k ≤ (l.getD i []).length → (l.getD i []).length ≤ 1000000 → (∀ q, q < k → (l.getD i []).getD q 0 = IntKind.i64.wrap (mark - (i : Int))) →
    ∃ row, m_credencelaw14_spoilt_L2 N mark (i : Int) kk f l (k : Int) = kk (l.set i row) ((i + 1 : Nat) : Int) ∧ row.length = (l.getD i []).length ∧ ∀ x ∈ row, x = IntKind.i64.wrap (mark - (i : Int))
  | 0, k, l, hi, h, hk, hl, hq => by omega
  | f + 1, k, l, hi, h, hk, hl, hq => by
    rw [m_credencelaw14_spoilt_L2.eq_2, at?_getD [] hi, Option.bind_some]
    by_cases hlt : k < (l.getD i []).length
    · rw [if_pos (by simpa using hlt), at?_getD 0 hlt, Option.bind_some, Option.bind_some, wS (by omega), Int.toNat_natCast, Int.toNat_natCast]
      have e : (l.set i ((l.getD i []).set k (IntKind.i64.wrap (mark - (i : Int))))).getD i [] = (l.getD i []).set k (IntKind.i64.wrap (mark - (i : Int))) := by rw [lgetD_set _ _ _ _ _ hi, if_pos rfl]
      obtain ⟨row, k1, k2, k3⟩ := spoilt_L2 i hi0 kk f (k + 1) (l.set i ((l.getD i []).set k (IntKind.i64.wrap (mark - (i : Int))))) (by rw [List.length_set]; exact hi) (by rw [e, List.length_set]; omega) (by rw [e, List.length_set]; omega) (by rw [e, List.length_set]; omega) (fun q hq' => by
        rw [e, lgetD_set _ _ _ _ _ hlt]
        split
        · rfl
        · exact hq q (by omega))
      refine ⟨row, by rw [k1, List.set_set], by rw [k2, e, List.length_set], k3⟩
    · rw [if_neg (by simpa using hlt), wS (by omega)]
      refine ⟨l.getD i [], ?_, rfl, fun x hx => ?_⟩
      · congr 1
        rw [lgetD_lt hi, List.set_getElem_self]
      · obtain ⟨q, hq', rfl⟩ := List.getElem_of_mem hx
        rw [← lgetD_lt (d := 0) hq']
        exact hq q (by omega)
omit hN in
theorem spoilt_L4 (i : Nat) (hi0 : i ≤ 1000000) (kk : Int → Option (Bool × List (List Int))) : ∀ (f k : Nat) (m : List Int), 300 < f + k → k ≤ 300 → m.length ≤ 1000000 + k → m_credencelaw14_spoilt_L4 N (i : Int) kk f m (k : Int) = kk ((i + 1 : Nat) : Int)
  | 0, k, m, h, hk, hm => by omega
  | f + 1, k, m, h, hk, hm => by
    rw [m_credencelaw14_spoilt_L4.eq_2]
    by_cases hlt : k < 300
    · rw [if_pos (decide_eq_true (by omega)), chk_pos (by simp only [List.length_cons, List.length_nil, maxLen]; omega), wS (by omega)]
      exact spoilt_L4 i hi0 kk f (k + 1) _ (by omega) (by omega) (by simp; omega)
    · rw [if_neg (by rw [decide_eq_true_eq]; omega), wS (by omega)]
omit hN in
theorem spoilt_L6 (l : List (List Int)) (i : Nat) (hi : i < l.length) (hi0 : i ≤ 1000000) (hl : (l.getD i []).length ≤ 1000000) (hm : ∀ x ∈ l.getD i [], x = IntKind.i64.wrap (mark - (i : Int))) (kk : Int → Option (Bool × List (List Int))) : ∀ (f k : Nat), (l.getD i []).length < f + k → k ≤ (l.getD i []).length →
    m_credencelaw14_spoilt_L6 N mark l (i : Int) kk f (k : Int) = kk ((i + 1 : Nat) : Int)
  | 0, k, h, hk => by omega
  | f + 1, k, h, hk => by
    rw [m_credencelaw14_spoilt_L6.eq_2, at?_getD [] hi, Option.bind_some]
    by_cases hlt : k < (l.getD i []).length
    · rw [if_pos (by simpa using hlt), at?_lt hlt, Option.bind_some, hm _ (List.getElem_mem hlt), if_neg (by simp), wS (by omega)]
      exact spoilt_L6 l i hi hi0 hl hm kk f (k + 1) (by omega) (by omega)
    · rw [if_neg (by simpa using hlt), wS (by omega)]
theorem spoilt_L5 (l : List (List Int)) (hl : l.length ≤ 1000000) (hls : ∀ j, (l.getD j []).length ≤ 1000000) (hm : Marked mark l l.length) : ∀ (f i : Nat), l.length < f + i → i ≤ l.length → m_credencelaw14_spoilt_L5 N mark l f (i : Int) = some (true, l)
  | 0, i, h, hi => by omega
  | f + 1, i, h, hi => by
    rw [m_credencelaw14_spoilt_L5.eq_2]
    by_cases hlt : i < l.length
    · have hb := hls i
      rw [if_pos (by simpa using hlt), show (0 : Int) = ((0 : Nat) : Int) from rfl, spoilt_L6 l i hlt (by omega) hb (hm i hlt) _ N 0 (by omega) (Nat.zero_le _)]
      exact spoilt_L5 l hl hls hm f (i + 1) (by omega) (by omega)
    · rw [if_neg (by simpa using hlt)]
theorem spoilt_L3 (l : List (List Int)) (hl : l.length ≤ 1000000) (hls : ∀ j, (l.getD j []).length ≤ 1000000) (hm : Marked mark l l.length) : ∀ (f i : Nat), l.length < f + i → i ≤ l.length → m_credencelaw14_spoilt_L3 N mark l f (i : Int) = some (true, l)
  | 0, i, h, hi => by omega
  | f + 1, i, h, hi => by
    rw [m_credencelaw14_spoilt_L3.eq_2]
    by_cases hlt : i < l.length
    · have hb := hls i
      rw [if_pos (by simpa using hlt), at?_getD [] hlt, Option.bind_some, show (0 : Int) = ((0 : Nat) : Int) from rfl, spoilt_L4 i (by omega) _ N 0 (l.getD i []) (by omega) (by omega) (by omega)]
      exact spoilt_L3 l hl hls hm f (i + 1) (by omega) (by omega)
    · rw [if_neg (by simpa using hlt), show (0 : Int) = ((0 : Nat) : Int) from rfl]
      exact spoilt_L5 hN l hl hls hm N 0 (by omega) (Nat.zero_le _)
theorem spoilt_L1 : ∀ (f i : Nat) (l : List (List Int)), l.length < f + i → i ≤ l.length → l.length ≤ 1000000 → (∀ j, (l.getD j []).length ≤ 1000000) → Marked mark l i → ∃ l', m_credencelaw14_spoilt_L1 N mark f l (i : Int) = some (true, l')
  | 0, i, l, h, hi, hl, hls, hm => by omega
  | f + 1, i, l, h, hi, hl, hls, hm => by
    rw [m_credencelaw14_spoilt_L1.eq_2]
    by_cases hlt : i < l.length
    · have hb := hls i
      obtain ⟨row, k1, k2, k3⟩ := spoilt_L2 (N := N) (mark := mark) i (by omega) (m_credencelaw14_spoilt_L1 N mark f) N 0 l hlt (by omega) (Nat.zero_le _) hb (fun q hq => by omega)
      rw [if_pos (by simpa using hlt)]
      obtain ⟨l', h2⟩ := spoilt_L1 f (i + 1) (l.set i row) (by rw [List.length_set]; omega) (by rw [List.length_set]; omega) (by rw [List.length_set]; omega) (fun j => by
        rw [lgetD_set _ _ _ _ _ hlt]
        split
        · omega
        · exact hls j) (fun j hj x hx => by
        rw [lgetD_set _ _ _ _ _ hlt] at hx
        split at hx
        · rename_i he; subst he; exact k3 x hx
        · exact hm j (by omega) x hx)
      exact ⟨l', k1.trans h2⟩
    · obtain rfl : i = l.length := by omega
      rw [if_neg (by simp), show (0 : Int) = ((0 : Nat) : Int) from rfl]
      exact ⟨l, spoilt_L3 hN l hl hls hm N 0 (by omega) (Nat.zero_le _)⟩
theorem spoilt_eq {l : List (List Int)} (hl : l.length ≤ 1000000) (hls : ∀ x ∈ l, x.length ≤ 1000000) : ∃ l', m_credencelaw14_spoilt N l mark = some (true, l') := by
  rw [m_credencelaw14_spoilt, show (0 : Int) = ((0 : Nat) : Int) from rfl]
  refine spoilt_L1 hN N 0 l (by omega) (Nat.zero_le _) hl (fun j => ?_) fun j hj => by omega
  by_cases hj : j < l.length
  · rw [lgetD_lt hj]; exact hls _ (List.getElem_mem hj)
  · rw [List.getD_eq_getElem?_getD, List.getElem?_eq_none (by omega)]; simp
/-- Every call. -/
theorem call_both {P : List (List Int)} (h : Sml P) (d : Int) (pts : List Int) (hp : pts.length ≤ 1048576) : ∃ r, m_credencelaw14_told N d P pts = some r ∧ m_credencelaw14_call N d P pts = some r ∧ r.1.length ≤ 1000000 ∧ ∀ x ∈ r.1, x.length ≤ 1000000 := by
  have hn := h.n
  obtain ⟨⟨r5, a5, b5, c5, d5⟩, ⟨r3, a3, b3, c3⟩, ⟨r4, a4, b4, c4⟩, ⟨r2, a2, b2, c2⟩⟩ := kids_both h hN pts hp
  obtain ⟨r1, a1, b1, c1⟩ := cyc_both h hN
  rw [m_credencelaw14_told, m_credencelaw14_call]
  simp only [decide_eq_true_eq]
  by_cases h0 : d = 0
  · rw [if_pos h0, if_pos h0, a1, b1]
    exact ⟨_, rfl, rfl, by simp, fun x hx => by simp at hx; subst hx; omega⟩
  rw [if_neg h0, if_neg h0]
  by_cases h1 : d = 1
  · rw [if_pos h1, if_pos h1, a2, b2]
    exact ⟨_, rfl, rfl, by simp, fun x hx => by simp at hx; subst hx; omega⟩
  rw [if_neg h1, if_neg h1]
  by_cases h2 : d = 2
  · rw [if_pos h2, if_pos h2, a3, b3]
    exact ⟨_, rfl, rfl, by simp, fun x hx => by simp at hx; subst hx; omega⟩
  rw [if_neg h2, if_neg h2]
  by_cases h3 : d = 3
  · rw [if_pos h3, if_pos h3, a4, b4]
    exact ⟨_, rfl, rfl, by simp, fun x hx => by simp at hx; subst hx; omega⟩
  rw [if_neg h3, if_neg h3, a5, b5]
  exact ⟨_, rfl, rfl, by show r5.1.length ≤ _; omega, d5⟩
omit hN in
/-- A list is written over. -/
theorem made_L2 (n : Nat) (hn : n ≤ 1000000) (now : List (List Int)) (hnow : now.length ≤ 1000000) (i : Nat) (hi0 : i ≤ 1000000) (kk : List (List Int) → Int → List (List Int) → Option Bool) (R : List Int) (hR : R.length ≤ 1000000) : ∀ (f k : Nat) (l : List (List Int)), R.length < f + k → k ≤ R.length → l.length = n → (hi : i < l.length) →
    l.getD i [] = (R.take k).map (fun x => IntKind.i64.wrap (IntKind.i64.wrap ((n : Int) - 1) - x)) ++ R.drop k →
    m_credencelaw14_made_L2 N now (i : Int) kk f (k : Int) l = kk (now ++ [R.map fun x => IntKind.i64.wrap (IntKind.i64.wrap ((n : Int) - 1) - x)]) ((i + 1 : Nat) : Int) (l.set i (R.map fun x => IntKind.i64.wrap (IntKind.i64.wrap ((n : Int) - 1) - x)))
  | 0, k, l, h, hk, hl, hi, he => by omega
  | f + 1, k, l, h, hk, hl, hi, he => by
    have hlen : (l.getD i []).length = R.length := by rw [he, List.length_append, List.length_map, List.length_take, List.length_drop]; omega
    rw [m_credencelaw14_made_L2.eq_2, at?_getD [] hi, Option.bind_some]
    by_cases hlt : k < R.length
    · have hk1 : (l.getD i []).getD k 0 = R[k] := by
        rw [he, List.getD_eq_getElem?_getD, List.getElem?_append_right (by rw [List.length_map, List.length_take]; omega), List.length_map, List.length_take, show k - min k R.length = 0 by omega, List.drop_eq_getElem_cons hlt]; rfl
      rw [if_pos (decide_eq_true (by omega)), at?_getD 0 (by omega), Option.bind_some, hk1, Option.bind_some, wS (by omega), Int.toNat_natCast, Int.toNat_natCast, hl, made_L2 n hn now hnow i hi0 kk R hR f (k + 1) _ (by omega) (by omega) (by rw [List.length_set]; exact hl) (by rw [List.length_set]; exact hi) ?_, List.set_set]
      rw [lgetD_set _ _ _ _ _ hi, if_pos rfl, he, List.set_append_right _ _ (by rw [List.length_map, List.length_take]; omega), List.length_map, List.length_take, show k - min k R.length = 0 by omega, List.drop_eq_getElem_cons hlt, List.set_cons_zero, List.take_succ_eq_append_getElem hlt, List.map_append, List.append_assoc]; rfl
    · obtain rfl : k = R.length := by omega
      rw [List.take_length, List.drop_length, List.append_nil] at he
      rw [if_neg (by rw [decide_eq_true_eq]; omega), chk_pos (by simp only [List.length_nil, maxLen]; omega), chk_pos (by simp only [List.length_cons, List.length_nil, maxLen]; omega), wS (by omega), List.nil_append, he]
      congr 1
      rw [← he, lgetD_lt hi, List.set_getElem_self]
theorem made_L1 {P : List (List Int)} (hP : P.length ≤ 200) (hPt : totl P ≤ 2000) (d : Int) (pts : List Int) (hp : pts.length ≤ 1048576) (r1 r37 : List (List Int) × Int) (hr : m_credencelaw14_same N r37.1 r1.1 = some true) (p : List Int) (hpp : p.take (Int.toNat (pts.length : Int)) = pts) :
    ∀ (f i : Nat), P.length < f + i → i ≤ P.length → m_credencelaw14_made_L1 N d pts r1 p r37 f ((P.take i).map (List.map fun x => IntKind.i64.wrap (IntKind.i64.wrap ((P.length : Int) - 1) - x))) (i : Int) ((P.take i).map (List.map fun x => IntKind.i64.wrap (IntKind.i64.wrap ((P.length : Int) - 1) - x)) ++ P.drop i) = some true
  | 0, i, h, hi => by omega
  | f + 1, i, h, hi => by
    have hlen : ((P.take i).map (List.map fun x => IntKind.i64.wrap (IntKind.i64.wrap ((P.length : Int) - 1) - x)) ++ P.drop i).length = P.length := by rw [List.length_append, List.length_map, List.length_take, List.length_drop]; omega
    rw [m_credencelaw14_made_L1.eq_2, hlen]
    by_cases hlt : i < P.length
    · have hRl : P[i].length ≤ 2000 := Nat.le_trans (totl_mem (List.getElem_mem hlt)) hPt
      have hlm : ((P.take i).map (List.map fun x => IntKind.i64.wrap (IntKind.i64.wrap ((P.length : Int) - 1) - x))).length = i := by rw [List.length_map, List.length_take]; omega
      rw [if_pos (decide_eq_true (by omega)), show (0 : Int) = ((0 : Nat) : Int) from rfl, made_L2 (N := N) P.length (by omega) _ (by omega) i (by omega) _ P[i] (by omega) N 0 _ (by omega) (Nat.zero_le _) hlen (by omega) (by
        rw [List.getD_eq_getElem?_getD, List.getElem?_append_right (by omega), hlm, Nat.sub_self, List.drop_eq_getElem_cons hlt]; rfl)]
      have := made_L1 hP hPt d pts hp r1 r37 hr p hpp f (i + 1) (by omega) (by omega)
      rw [List.take_succ_eq_append_getElem hlt, List.map_append] at this
      rw [List.set_append_right _ _ (by omega), hlm, Nat.sub_self, List.drop_eq_getElem_cons hlt, List.set_cons_zero]
      rw [List.append_assoc] at this
      exact this
    · rw [if_neg (by rw [decide_eq_true_eq]; omega), List.take_of_length_le (by omega), List.drop_eq_nil_of_le (by omega), List.append_nil, hpp]
      have hS : Sml (P.map (List.map fun x => IntKind.i64.wrap (IntKind.i64.wrap ((P.length : Int) - 1) - x))) := by
        refine ⟨by rw [List.length_map]; omega, ?_⟩
        have : totl (P.map (List.map fun x => IntKind.i64.wrap (IntKind.i64.wrap ((P.length : Int) - 1) - x))) = totl P := by
          unfold totl
          rw [List.map_map]
          congr 1
          exact List.map_congr_left fun l _ => List.length_map ..
        omega
      obtain ⟨r, k1, k2, k3, k4⟩ := call_both hN hS d pts hp
      rw [k1, Option.bind_some, k2, Option.bind_some, if_pos (decide_eq_true rfl), same_eq k3 k4 hN, Option.bind_some, if_pos rfl, hr, Option.bind_some, m_credencelaw14_made_J3]
theorem made_true {P : List (List Int)} (hP : P.length ≤ 200) (hPt : totl P ≤ 2000) (d : Int) (pts : List Int) (hp : pts.length ≤ 1048576) : m_credencelaw14_made N d P pts = some true := by
  have hS : Sml P := ⟨by omega, by omega⟩
  have hls := hS.ls
  obtain ⟨r, k1, k2, k3, k4⟩ := call_both hN hS d pts hp
  have hpl : (longL pts).take (Int.toNat (pts.length : Int)) = pts := by rw [longL, Int.toNat_natCast, List.take_left]
  have hPl : (P ++ [[(-77 : Int)]]).take P.length = P := List.take_left
  have hsame := same_eq k3 k4 hN
  obtain ⟨l1, s1⟩ := spoilt_eq (mark := -1000) hN k3 k4
  obtain ⟨l2, s2⟩ := spoilt_eq (mark := -9000) hN k3 k4
  rw [m_credencelaw14_made, k1, Option.bind_some, lent_eq (by omega) (fun l hl => by have := hls l hl; omega) (by omega), Option.bind_some, long_eq hp, Option.bind_some, chk_pos (by rw [longL, List.length_append]; omega)]
  simp only [hpl, hPl]
  rw [k2, Option.bind_some, Option.bind_some, Option.bind_some, if_neg (by simp), if_neg (by simp), if_neg (by simp), hsame, Option.bind_some, if_neg (by simp), Option.bind_some, if_neg (by simp), Option.bind_some]
  rw [m_credencelaw14_made_J1, if_neg (by simp), s1, Option.bind_some, s2, Option.bind_some, if_neg (by simp), if_neg (by simp), hsame, Option.bind_some, if_neg (by simp), kept_eq (by omega) hls (by omega), Option.bind_some, if_neg (by simp), long_eq hp, Option.bind_some, Same2_eq (by simp only [longL, List.length_append, List.length_cons, List.length_nil]; omega) hN, Option.bind_some, m_credencelaw14_made_J2, if_neg (by simp)]
  have := made_L1 hN hP hPt d pts hp r r hsame (longL pts) hpl N 0 (by omega) (Nat.zero_le _)
  simpa [hPl] using this
theorem DagSays_true {P : List (List Int)} {pts : List Int} (hn : P.length ≤ 1048576) (ht : totl P ≤ 1048576) (hp : pts.length ≤ 1048576) : m_credencelaw14_DagSays N P pts = some true := by
  obtain ⟨b, h1, h2⟩ := many_eq (N := N) (P := P) (by omega) (by omega) (by omega)
  rw [m_credencelaw14_DagSays, h1, Option.bind_some]
  cases b
  · obtain ⟨h3, h4⟩ := h2 rfl
    rw [if_neg (by decide)]
    obtain ⟨e, h5, h6⟩ := check_eq (P := P) ⟨by omega, by omega⟩ hN
    have main : ∀ (f k : Nat), 5 < f + k → k ≤ 5 → m_credencelaw14_DagSays_L1 N P pts f (k : Int) = some true := fun f => by
      induction f with
      | zero => intro k h1 h2; omega
      | succ f ih =>
        intro k h1 h2
        rw [m_credencelaw14_DagSays_L1.eq_2]
        by_cases hk : k < 5
        · rw [if_pos (decide_eq_true (by omega)), made_true hN h3 h4 _ pts hp, Option.bind_some, if_neg (by decide), wS (by omega)]
          exact ih (k + 1) (by omega) (by omega)
        · rw [if_neg (by rw [decide_eq_true_eq]; omega), h5, h6, Option.bind_some, Option.bind_some, decide_eq_true rfl]
    exact main N 0 (by omega) (by omega)
  · rw [if_pos rfl]
end

end Go.Proofs.Ytgggjmmljagkmaa
