/-
  What functions of the program compute, as plain Lean functions (m_..), and proofs that they compute it (c_..). Printed by a program of the author; no conditions.
-/
import Derived.Test.YtgkofjmeopbkbaaFloat
import Derived.Test.YtgkofjmeopbkbaaProg
import Derived.Test.YtgkofjmeopbkbaaCompact
import Derived.Test.YtgkofjmeopbkbaaDelete
import Derived.Test.YtgkofjmeopbkbaaGraph
import Derived.Test.YtgkofjmeopbkbaaOrderCheckF1
set_option linter.unusedVariables false
namespace Go.Proofs.Ytgkofjmeopbkbaa
open Go Go.RowKit


set_option maxRecDepth 100000 in
theorem el3_71V0NV2F72 : ElemOk Try.prog 3 1 8 := ⟨Try.t3, _, rfl, rfl, rfl, rfl, rfl⟩

def m_order_by_v0n_v2f72_J1 (k_52 : Nat) (kk_L2 : (Nat → Int → Int → Option ((List Int) × Int))) (best_76 : Int) (least_77 : Int) : Option ((List Int) × Int) :=
  kk_L2 (k_52 + 1) best_76 least_77

def m_order_by_v0n_v2f72_L2 (left_34 : List Int) (list_38 : List Int) : List Int → Nat → Int → Int → Option ((List Int) × Int)
  | [], k_52, best_56, least_57 => (at? left_34 best_56).bind fun e_60 => chk ((list_38.length + [e_60].length) * 8 ≤ 140737488355328 ∧ list_38.length + [e_60].length ≤ maxLen) none
  | x_58 :: l_59, k_52, best_56, least_57 => (m_order_Degree_1_v0n x_58).bind fun r_78 => if (decide (r_78 < least_57)) = true then (m_order_by_v0n_v2f72_J1 k_52 (m_order_by_v0n_v2f72_L2 left_34 list_38 l_59) (IntKind.i64.wrap ((k_52 : Int) + 1)) r_78) else (m_order_by_v0n_v2f72_J1 k_52 (m_order_by_v0n_v2f72_L2 left_34 list_38 l_59) best_56 least_57)

def m_order_by_v0n_v2f72_L1 (N : Nat)  : Nat → (List Int) → (List Int) → Option ((List Int) × Int)
  | 0, _, _ => none
  | n_31 + 1, left_34, list_38 => if (decide (0 < (left_34.length : Int))) = true then ((at? left_34 0).bind fun e_42 => (m_order_Degree_1_v0n e_42).bind fun r_44 => chk ((0 : Int) ≤ 1 ∧ 1 ≤ (left_34.length : Int)) (m_order_by_v0n_v2f72_L2 left_34 list_38 (left_34.drop (Int.toNat 1)) 0 0 r_44)) else (some (list_38, 0))

def m_order_by_v0n_v2f72_J2 (k_120 : Nat) (kk_L4 : (Nat → Int → Int → (List (List Bool)) → Option ((List Int) × Int))) (best_166 : Int) (least_167 : Int) (h_168 : List (List Bool)) : Option ((List Int) × Int) :=
  kk_L4 (k_120 + 1) best_166 least_167 h_168

def m_order_by_v0n_v2f72_L4 (N : Nat) (left_100 : List Int) (list_104 : List Int) (kk_L3 : ((List Int) → (List Int) → (List (List Bool)) → Option ((List Int) × Int))) : List Int → Nat → Int → Int → (List (List Bool)) → Option ((List Int) × Int)
  | [], k_120, best_124, least_125, h_126 => (at? left_100 best_124).bind fun e_130 => chk ((list_104.length + [e_130].length) * 8 ≤ 140737488355328 ∧ list_104.length + [e_130].length ≤ maxLen) ((m_graph_Graph_Remove N h_126 e_130).bind fun r_144 => (lib_delete left_100 best_124 (IntKind.i64.wrap (best_124 + 1))).bind fun r_156 => kk_L3 r_156 (list_104 ++ [e_130]) r_144.2.2)
  | x_128 :: l_129, k_120, best_124, least_125, h_126 => (m_order_Degree_1 h_126 x_128).bind fun r_170 => if (decide (r_170 < least_125)) = true then (m_order_by_v0n_v2f72_J2 k_120 (m_order_by_v0n_v2f72_L4 N left_100 list_104 kk_L3 l_129) (IntKind.i64.wrap ((k_120 : Int) + 1)) r_170 h_126) else (m_order_by_v0n_v2f72_J2 k_120 (m_order_by_v0n_v2f72_L4 N left_100 list_104 kk_L3 l_129) best_124 least_125 h_126)

def m_order_by_v0n_v2f72_L3 (N : Nat)  : Nat → (List Int) → (List Int) → (List (List Bool)) → Option ((List Int) × Int)
  | 0, _, _, _ => none
  | n_97 + 1, left_100, list_104, h_108 => if (decide (0 < (left_100.length : Int))) = true then ((at? left_100 0).bind fun e_110 => (m_order_Degree_1 h_108 e_110).bind fun r_112 => chk ((0 : Int) ≤ 1 ∧ 1 ≤ (left_100.length : Int)) (m_order_by_v0n_v2f72_L4 N left_100 list_104 (m_order_by_v0n_v2f72_L3 N n_97) (left_100.drop (Int.toNat 1)) 0 0 r_112 h_108)) else (some (list_104, 0))

def m_order_by_v0n_v2f72 (N : Nat) (p1_points : (List Int)) : Option ((List Int) × Int) :=
  (m_order_wrong_v0n p1_points).bind fun r_1 => if (!decide (r_1 = 0)) = true then (some (([] : List Int), r_1)) else ((m_order_copied_v0n).bind fun r_5 => optC (r_5) ((m_slices_Values_int_int p1_points).bind fun r_16 => (m_slices_Sorted_int r_16).bind fun r_23 => m_order_by_v0n_v2f72_L1 N N r_23 ([] : List Int)) (fun t_12 => (m_slices_Values_int_int p1_points).bind fun r_82 => (m_slices_Sorted_int r_82).bind fun r_89 => m_order_by_v0n_v2f72_L3 N N r_89 ([] : List Int) t_12))

set_option maxRecDepth 100000 in
set_option maxHeartbeats 2000000 in
theorem c_order_by_v0n_v2f72 (N : Nat) (c1 : Nat) (col : Col) (w0 : World) (a1 : Option Addr) (cap1 : Nat) (p1_points : (List Int)) (h1 : Sl (Rep.int .i64) col w0 a1 cap1 p1_points) (r : ((List Int) × Int)) (hm : m_order_by_v0n_v2f72 N p1_points = some r) :
    Calls Try.prog 71 #[(.pointer none), (.slice a1 p1_points.length cap1), (.func (.func 72) #[] #[])] w0 (fun e w' => ∃ (col' : Col) (ra1 : Option Addr) (rc2 : Nat), e = .returned (.tuple #[(.slice ra1 r.1.length rc2), (.int .i64 r.2)]) ∧ Grow col w0 col' w' ∧ Own (Rep.int .i64) 3 c1 col' w' ra1 rc2 r.1) := by
  refine calls_of2 6 7 (m := 75) (args := [(.pointer none), (.slice a1 p1_points.length cap1), (.func (.func 72) #[] #[])]) Try.func71 rfl rfl rfl rfl rfl ?_
  rw [m_order_by_v0n_v2f72.eq_1] at hm
  have hst := St.start col w0
  replace h1 := h1.keep (Stay.start col w0)
  refine wseq ?_
  refine wregion ?_
  refine lv (v := (.slice none (([] : List Int).length) 0)) rfl rfl (r_assign rfl) ?_
  refine lv (v := (.int .i64 0)) rfl rfl (r_assign rfl) ?_
  refine lnil ?_
  refine wseq ?_
  refine wseq ?_
  refine wregion ?_
  refine lv (v := (.pointer none)) rfl rfl (r_move rfl) ?_
  refine lv (v := (.slice a1 p1_points.length cap1)) rfl rfl (r_move rfl) ?_
  obtain ⟨r_1, hr_2, hm⟩ := bind_some hm
  refine lc rfl rfl (r_call2 Try.call75 rfl rfl) (c_order_wrong_v0n (col0 col) _ a1 cap1 p1_points h1 r_1 hr_2) ?_
  rintro _ w_3 ⟨rfl, hg_4⟩
  refine ⟨_, rfl, ?_⟩
  replace hg_4 : Grow (col0 col) w0 (col0 col) w_3 := .of_below hg_4
  replace h1 := h1.gr hg_4
  replace hst := hst.grow hg_4
  refine lv (v := (.int .i64 r_1)) rfl rfl (r_assign rfl) ?_
  refine lnil ?_
  refine wseq ?_
  refine wregion ?_
  refine lv (v := (.int .i64 r_1)) rfl rfl (r_move rfl) ?_
  refine lv (v := (.bool (!decide (r_1 = 0)))) rfl rfl (r_neq r_1 0 rfl rfl) ?_
  refine lnil ?_
  refine wcond (!decide (r_1 = 0)) rfl (fun hb => ?_) (fun hb => ?_)
  · rw [if_pos hb] at hm
    clear hb
    refine wseq ?_
    refine wregion ?_
    refine lv (v := (.int .i64 r_1)) rfl rfl (r_move rfl) ?_
    refine lv (v := (.slice none (([] : List Int).length) 0)) rfl rfl (r_assign rfl) ?_
    refine lv (v := (.int .i64 r_1)) rfl rfl (r_assign rfl) ?_
    refine lnil ?_
    refine wret ?_
    cases hm
    exact ⟨rfl, colF w0.heap.size col (col0 col) (fun n => 0), none, 0, rfl, hst.fin (fun n => 0), Own.nil⟩
  · rw [if_neg (by rw [hb]; decide)] at hm
    clear hb
    refine wskip ?_
    refine wseq ?_
    refine wregion ?_
    refine lv (v := (.pointer none)) rfl rfl (r_move rfl) ?_
    obtain ⟨r_5, hr_6, hm⟩ := bind_some hm
    refine lc rfl rfl (r_call1 Try.call76 rfl) (c_order_copied_v0n 1 (col0 col) _ r_5 hr_6) ?_
    rintro _ w_9 ⟨col_11, rv_7, rfl, hg_10, rh_8⟩
    refine ⟨_, rfl, ?_⟩
    replace h1 := h1.gr hg_10
    replace hst := hst.grow hg_10
    cases hx_13 : r_5 with
    | none =>
      rw [hx_13] at hm rh_8
      replace hm := optC_none hm
      obtain rfl := optP_none rh_8
      clear rh_8
      refine lv (v := (.pointer none)) rfl rfl (r_assign rfl) ?_
      refine lnil ?_
      refine wseq ?_
      refine wregion ?_
      refine lv (v := (.slice a1 p1_points.length cap1)) rfl rfl (r_move rfl) ?_
      obtain ⟨r_16, hr_17, hm⟩ := bind_some hm
      refine lc rfl rfl (r_call1 Try.call80 rfl) (c_slices_Values_int_int col_11 _ a1 cap1 p1_points h1 r_16 hr_17) ?_
      rintro _ w_20 ⟨col_22, rv_18, rfl, hg_21, rh_19⟩
      refine ⟨_, rfl, ?_⟩
      replace h1 := h1.gr hg_21
      replace hst := hst.grow hg_21
      obtain ⟨r_23, hr_24, hm⟩ := bind_some hm
      refine lc rfl rfl (r_call1 Try.call55 rfl) (c_slices_Sorted_int 2 col_22 _ rv_18 r_16 rh_19 r_23 hr_24) ?_
      rintro _ w_28 ⟨col_30, ra_25, rc_26, rfl, hg_29, rh_27⟩
      refine ⟨_, rfl, ?_⟩
      replace rh_19 := rh_19.gr hg_29
      replace hst := hst.grow hg_29
      refine lv (v := (.slice ra_25 r_23.length rc_26)) rfl rfl (r_assign rfl) ?_
      refine lnil ?_
      refine wseq ?_
      refine wregion ?_
      refine lv (v := (.slice none (([] : List Int).length) 0)) rfl rfl (r_assign rfl) ?_
      refine lnil ?_
      refine wseq ?_
      refine wblock ?_
      refine wloop (fun n f w_32 => ∃ (col_33 : Col) (a_35 : Option Addr) (cap_36 : Nat) (left_34 : List Int) (a_39 : Option Addr) (cap_40 : Nat) (list_38 : List Int) (n_31 : Nat), n_31 = n ∧ m_order_by_v0n_v2f72_L1 N n_31 left_34 list_38 = some r ∧ St w0 (col0 col) col_33 w_32 ∧ Own (Rep.int .i64) 3 2 col_33 w_32 a_35 cap_36 left_34 ∧ Own (Rep.int .i64) 3 3 col_33 w_32 a_39 cap_40 list_38 ∧ f 10 = (.slice a_35 left_34.length cap_36) ∧ f 11 = (.slice a_39 list_38.length cap_40) ∧ f 2 = (.func (.func 72) #[] #[]) ∧ f 9 = (.pointer none) ∧ f 1000000 = (enc [])) N ⟨col_30, ra_25, rc_26, r_23, none, 0, ([] : List Int), N, rfl, hm, hst, rh_27, Own.nil, rfl, rfl, rfl, rfl, rfl⟩ ?_
      clear hm; intro n f w_32 hI
      obtain ⟨col_33, a_35, cap_36, left_34, a_39, cap_40, list_38, n_31, hn, hm, hst, h_37, h_41, hs10, hs11, hs2, hs9, hs1000000⟩ := hI
      subst hn
      refine .ld (d := 10) (v := (.slice a_35 left_34.length cap_36)) hs10 ?_
      refine .ld (d := 11) (v := (.slice a_39 list_38.length cap_40)) hs11 ?_
      refine .ld (d := 2) (v := (.func (.func 72) #[] #[])) hs2 ?_
      refine .ld (d := 9) (v := (.pointer none)) hs9 ?_
      refine .ld (d := 1000000) (v := (enc [])) hs1000000 ?_
      clear hs10 hs11 hs2 hs9 hs1000000
      cases n_31 with
      | zero => rw [m_order_by_v0n_v2f72_L1.eq_1] at hm; cases hm
      | succ n_31 =>
        rw [m_order_by_v0n_v2f72_L1.eq_2] at hm
        refine wseq ?_
        refine wseq ?_
        refine wregion ?_
        refine lv (v := (.slice a_35 left_34.length cap_36)) rfl rfl (r_move rfl) ?_
        refine lv (v := (.int .i64 (left_34.length : Int))) rfl rfl (r_len Try.underlying22 rfl) ?_
        refine lv (v := (.bool (decide (0 < (left_34.length : Int))))) rfl rfl (r_gtr (left_34.length : Int) 0 rfl rfl) ?_
        refine lnil ?_
        refine wcond (decide (0 < (left_34.length : Int))) rfl (fun hb => ?_) (fun hb => ?_)
        · rw [if_pos hb] at hm
          clear hb
          refine wskip ?_
          refine wblock ?_
          refine wseq ?_
          refine wregion ?_
          refine lv (v := (.func (.func 72) #[] #[])) rfl rfl (r_move rfl) ?_
          refine lv (v := (.pointer none)) rfl rfl (r_move rfl) ?_
          refine lv (v := (.slice a_35 left_34.length cap_36)) rfl rfl (r_move rfl) ?_
          obtain ⟨e_42, hj_43, hm⟩ := bind_some hm
          refine lv (v := (sptr a_35 (Int.toNat 0 * 1))) rfl rfl (r_idx Try.underlying22 Try.sizeOf3 rfl rfl (at?_some hj_43).1 (at?_some hj_43).2.1 (h_37.addr hj_43)) ?_
          refine lv (v := (.int .i64 e_42)) rfl rfl (r_ld Try.isAgg3 rfl (h_37.atInt hj_43)) ?_
          obtain ⟨r_44, hr_45, hm⟩ := bind_some hm
          refine lc rfl rfl (r_callv2 Try.call72 rfl rfl rfl) (c_order_Degree_1_v0n col_33 _ e_42 r_44 hr_45) ?_
          rintro _ w_46 ⟨rfl, hg_47⟩
          refine ⟨_, rfl, ?_⟩
          replace hg_47 : Grow col_33 w_32 col_33 w_46 := .of_below hg_47
          replace h_37 := h_37.gr hg_47
          replace h_41 := h_41.gr hg_47
          replace hst := hst.grow hg_47
          refine lv (v := (.int .i64 0)) rfl rfl (r_assign rfl) ?_
          refine lv (v := (.int .i64 r_44)) rfl rfl (r_assign rfl) ?_
          refine lnil ?_
          refine wseq ?_
          refine wseq ?_
          refine wregion ?_
          refine lv (v := (.slice a_35 left_34.length cap_36)) rfl rfl (r_move rfl) ?_
          obtain ⟨hb_48, hm⟩ := chk_some hm
          have h_51 := (h_37.que (NB.int (k := .i64))).drop (sz := 1) rfl (Int.toNat 1)
          refine lv (v := .slice (if cap_36 = (Int.toNat 1) then a_35 else a_35.map (·.add ((Int.toNat 1) * 1))) (left_34.length - (Int.toNat 1)) (cap_36 - (Int.toNat 1))) rfl rfl (r_sliceL Try.underlying22 Try.sizeOf3 rfl rfl hb_48.1 hb_48.2) ?_
          generalize (if cap_36 = (Int.toNat 1) then a_35 else a_35.map (·.add ((Int.toNat 1) * 1))) = a_49 at *
          refine .ld (d := 38) (v := (.slice a_49 ((left_34.drop (Int.toNat 1)).length) (cap_36 - (Int.toNat 1)))) (congrArg (fun n => Value.slice a_49 n (cap_36 - (Int.toNat 1))) (List.length_drop (i := (Int.toNat 1)) (l := left_34)).symm) ?_
          refine lv (v := (.int .i64 ((left_34.drop (Int.toNat 1)).length : Int))) rfl rfl (r_len Try.underlying22 rfl) ?_
          refine lv (v := (.int .i64 0)) rfl rfl (r_move rfl) ?_
          refine lnil ?_
          refine wblock ?_
          refine wloop (fun n f w_54 => ∃ (col_55 : Col) (best_56 : Int) (least_57 : Int) (k_52 : Nat) (l_53 : List Int), n = l_53.length ∧ (left_34.drop (Int.toNat 1)).drop k_52 = l_53 ∧ m_order_by_v0n_v2f72_L2 left_34 list_38 l_53 k_52 best_56 least_57 = some r ∧ St w0 (col0 col) col_55 w_54 ∧ Own (Rep.int .i64) 3 2 col_55 w_54 a_35 cap_36 left_34 ∧ Own (Rep.int .i64) 3 3 col_55 w_54 a_39 cap_40 list_38 ∧ Que (Rep.int .i64) 3 2 col_55 w_54 a_49 (cap_36 - (Int.toNat 1)) (left_34.drop (Int.toNat 1)) ∧ f 40 = (.int .i64 (k_52 : Int)) ∧ f 10 = (.slice a_35 left_34.length cap_36) ∧ f 11 = (.slice a_39 list_38.length cap_40) ∧ f 12 = (.int .i64 best_56) ∧ f 13 = (.int .i64 least_57) ∧ f 2 = (.func (.func 72) #[] #[]) ∧ f 38 = (.slice a_49 ((left_34.drop (Int.toNat 1)).length) (cap_36 - (Int.toNat 1))) ∧ f 39 = (.int .i64 ((left_34.drop (Int.toNat 1)).length : Int)) ∧ f 9 = (.pointer none) ∧ f 1000000 = (enc [])) (left_34.drop (Int.toNat 1)).length ⟨col_33, 0, r_44, 0, (left_34.drop (Int.toNat 1)), rfl, rfl, hm, hst, h_37, h_41, h_51, rfl, rfl, rfl, rfl, rfl, rfl, rfl, rfl, rfl, rfl⟩ ?_
          clear hm; intro n f w_54 hI
          obtain ⟨col_55, best_56, least_57, k_52, l_53, hn, hl, hm, hst, h_37, h_41, h_51, hs40, hs10, hs11, hs12, hs13, hs2, hs38, hs39, hs9, hs1000000⟩ := hI
          subst hn
          refine .ld (d := 40) (v := (.int .i64 (k_52 : Int))) hs40 ?_
          refine .ld (d := 10) (v := (.slice a_35 left_34.length cap_36)) hs10 ?_
          refine .ld (d := 11) (v := (.slice a_39 list_38.length cap_40)) hs11 ?_
          refine .ld (d := 12) (v := (.int .i64 best_56)) hs12 ?_
          refine .ld (d := 13) (v := (.int .i64 least_57)) hs13 ?_
          refine .ld (d := 2) (v := (.func (.func 72) #[] #[])) hs2 ?_
          refine .ld (d := 38) (v := (.slice a_49 ((left_34.drop (Int.toNat 1)).length) (cap_36 - (Int.toNat 1)))) hs38 ?_
          refine .ld (d := 39) (v := (.int .i64 ((left_34.drop (Int.toNat 1)).length : Int))) hs39 ?_
          refine .ld (d := 9) (v := (.pointer none)) hs9 ?_
          refine .ld (d := 1000000) (v := (enc [])) hs1000000 ?_
          clear hs40 hs10 hs11 hs12 hs13 hs2 hs38 hs39 hs9 hs1000000
          cases l_53 with
          | nil =>
            have hk : ¬ ((k_52 : Int) < ((left_34.drop (Int.toNat 1)).length : Int)) := by have := List.drop_eq_nil_iff.1 hl; omega
            have hkb := decide_eq_false hk
            rw [m_order_by_v0n_v2f72_L2.eq_1] at hm
            refine wseq ?_
            refine wregion ?_
            refine lv (v := (.bool (decide ((k_52 : Int) < ((left_34.drop (Int.toNat 1)).length : Int))))) rfl rfl (r_lss (k_52 : Int) ((left_34.drop (Int.toNat 1)).length : Int) rfl rfl) ?_
            refine lnil ?_
            refine wseq ?_
            refine wcondF (congrArg Value.bool hkb) ?_
            refine wexit (inB_hit ?_)
            refine wseq ?_
            refine wregion ?_
            refine lv (v := (.slice a_39 list_38.length cap_40)) rfl rfl (r_move rfl) ?_
            refine lv (v := (.slice a_35 left_34.length cap_36)) rfl rfl (r_move rfl) ?_
            refine lv (v := (.int .i64 best_56)) rfl rfl (r_move rfl) ?_
            obtain ⟨e_60, hj_61, hm⟩ := bind_some hm
            refine lv (v := (sptr a_35 (Int.toNat best_56 * 1))) rfl rfl (r_idx Try.underlying22 Try.sizeOf3 rfl rfl (at?_some hj_61).1 (at?_some hj_61).2.1 (h_37.addr hj_61)) ?_
            refine lv (v := (.int .i64 e_60)) rfl rfl (r_ld Try.isAgg3 rfl (h_37.atInt hj_61)) ?_
            refine l_lit (col := col_55) (r := (Rep.int .i64)) (xs := [e_60]) [(.int .i64 e_60)] 4 rfl Try.underlying22 el3_71V0NV2F72 rfl rfl rfl rfl rfl rfl (by intro v hv; simp only [List.mem_cons, List.not_mem_nil, or_false] at hv; subst hv; rfl) (RowsH.ofF (Rows.consF (r := (Rep.int .i64)) (x := e_60) (cs := [(.int .i64 e_60)]) (rd_int .i64 e_60) Rows.nil0)) ?_
            intro a_62 w_63 col_64 hg_65 h_66
            replace h_37 := h_37.gr hg_65
            replace h_41 := h_41.gr hg_65
            replace hst := hst.grow hg_65
            obtain ⟨hb_67, hm⟩ := chk_some hm
            refine l_appendM (col := col_64) (w := w_63) (r := (Rep.int .i64)) (c := 3) (c2 := 3) (xs := list_38) (ys := [e_60]) h_41 (h_66.srcN (NB.int (k := .i64))) rfl Try.underlying22 el3_71V0NV2F72 rfl rfl rfl hb_67.1 hb_67.2 (by decide) ?_
            intro a_68 cap_69 w_70 col_71 hk_72 h_73
            replace h_37 := h_37.kpp hk_72 rfl rfl
            replace h_66 := h_66.kpp hk_72 rfl rfl
            replace hst := hst.kpp hk_72 rfl rfl
            clear h_41
            refine lv (v := (.slice a_68 ((list_38 ++ [e_60]).length) cap_69)) rfl rfl (r_assign rfl) ?_
            refine lnil ?_
            refine wseq ?_
            refine wregion ?_
            refine lv (v := (.pointer none)) rfl rfl (r_move rfl) ?_
            refine lv (v := (.slice a_35 left_34.length cap_36)) rfl rfl (r_move rfl) ?_
            refine lv (v := (.int .i64 best_56)) rfl rfl (r_move rfl) ?_
            refine lv (v := (sptr a_35 (Int.toNat best_56 * 1))) rfl rfl (r_idx Try.underlying22 Try.sizeOf3 rfl rfl (at?_some hj_61).1 (at?_some hj_61).2.1 (h_37.addr hj_61)) ?_
            refine lv (v := (.int .i64 e_60)) rfl rfl (r_ld Try.isAgg3 rfl (h_37.atInt hj_61)) ?_
            cases hm
          | cons x_58 l_59 =>
            obtain ⟨hat, hl2, hlt⟩ := drop_get hl
            have hk : (k_52 : Int) < ((left_34.drop (Int.toNat 1)).length : Int) := by omega
            have hkb := decide_eq_true hk
            rw [m_order_by_v0n_v2f72_L2.eq_2] at hm
            refine wseq ?_
            refine wregion ?_
            refine lv (v := (.bool (decide ((k_52 : Int) < ((left_34.drop (Int.toNat 1)).length : Int))))) rfl rfl (r_lss (k_52 : Int) ((left_34.drop (Int.toNat 1)).length : Int) rfl rfl) ?_
            refine lnil ?_
            refine wseq ?_
            refine wcondT (congrArg Value.bool hkb) ?_
            refine wskip ?_
            refine wseq ?_
            refine Wp.cut (fun f w_74 => ∃ (col_75 : Col) (best_76 : Int) (least_77 : Int), m_order_by_v0n_v2f72_J1 k_52 (m_order_by_v0n_v2f72_L2 left_34 list_38 l_59) best_76 least_77 = some r ∧ St w0 (col0 col) col_75 w_74 ∧ Own (Rep.int .i64) 3 2 col_75 w_74 a_35 cap_36 left_34 ∧ Own (Rep.int .i64) 3 3 col_75 w_74 a_39 cap_40 list_38 ∧ Que (Rep.int .i64) 3 2 col_75 w_74 a_49 (cap_36 - (Int.toNat 1)) (left_34.drop (Int.toNat 1)) ∧ f 10 = (.slice a_35 left_34.length cap_36) ∧ f 11 = (.slice a_39 list_38.length cap_40) ∧ f 12 = (.int .i64 best_76) ∧ f 13 = (.int .i64 least_77) ∧ f 2 = (.func (.func 72) #[] #[]) ∧ f 38 = (.slice a_49 ((left_34.drop (Int.toNat 1)).length) (cap_36 - (Int.toNat 1))) ∧ f 39 = (.int .i64 ((left_34.drop (Int.toNat 1)).length : Int)) ∧ f 40 = (.int .i64 (k_52 : Int)) ∧ f 9 = (.pointer none) ∧ f 1000000 = (enc [])) ?_ ?_
            · intro f w_74 hJ
              obtain ⟨col_75, best_76, least_77, hm, hst, h_37, h_41, h_51, hs10, hs11, hs12, hs13, hs2, hs38, hs39, hs40, hs9, hs1000000⟩ := hJ
              rw [m_order_by_v0n_v2f72_J1.eq_1] at hm
              refine .ld (d := 10) (v := (.slice a_35 left_34.length cap_36)) hs10 ?_
              refine .ld (d := 11) (v := (.slice a_39 list_38.length cap_40)) hs11 ?_
              refine .ld (d := 12) (v := (.int .i64 best_76)) hs12 ?_
              refine .ld (d := 13) (v := (.int .i64 least_77)) hs13 ?_
              refine .ld (d := 2) (v := (.func (.func 72) #[] #[])) hs2 ?_
              refine .ld (d := 38) (v := (.slice a_49 ((left_34.drop (Int.toNat 1)).length) (cap_36 - (Int.toNat 1)))) hs38 ?_
              refine .ld (d := 39) (v := (.int .i64 ((left_34.drop (Int.toNat 1)).length : Int))) hs39 ?_
              refine .ld (d := 40) (v := (.int .i64 (k_52 : Int))) hs40 ?_
              refine .ld (d := 9) (v := (.pointer none)) hs9 ?_
              refine .ld (d := 1000000) (v := (enc [])) hs1000000 ?_
              clear hs10 hs11 hs12 hs13 hs2 hs38 hs39 hs40 hs9 hs1000000
              refine wregion ?_
              refine lv (v := (.int .i64 (IntKind.i64.wrap ((k_52 : Int) + 1)))) rfl rfl (r_add (k_52 : Int) 1 rfl rfl) ?_
              refine lv (v := (.int .i64 (IntKind.i64.wrap ((k_52 : Int) + 1)))) rfl rfl (r_move rfl) ?_
              refine lnil ?_
              exact ⟨l_59.length, by simp, ⟨col_75, best_76, least_77, (k_52 + 1), l_59, rfl, hl2, hm, hst, h_37, h_41, h_51, (congrArg (Value.int .i64) (wrap_succ (Nat.lt_of_lt_of_le hlt h_51.len))), rfl, rfl, rfl, rfl, rfl, rfl, rfl, rfl, rfl⟩⟩
            · refine wblock ?_
              refine wseq ?_
              refine wregion ?_
              refine lv (v := (.int .i64 (k_52 : Int))) rfl rfl (r_move rfl) ?_
              refine lv (v := (sptr a_49 (Int.toNat (k_52 : Int) * 1))) rfl rfl (r_idx Try.underlying22 Try.sizeOf3 rfl rfl (at?_some hat).1 (at?_some hat).2.1 (h_51.addr hat)) ?_
              refine lv (v := (.int .i64 x_58)) rfl rfl (r_ld Try.isAgg3 rfl (h_51.atInt hat)) ?_
              refine lv (v := (.int .i64 (k_52 : Int))) rfl rfl (r_assign rfl) ?_
              refine lv (v := (.int .i64 x_58)) rfl rfl (r_assign rfl) ?_
              refine lnil ?_
              refine wseq ?_
              refine wregion ?_
              refine lv (v := (.func (.func 72) #[] #[])) rfl rfl (r_move rfl) ?_
              refine lv (v := (.pointer none)) rfl rfl (r_move rfl) ?_
              refine lv (v := (.int .i64 x_58)) rfl rfl (r_move rfl) ?_
              obtain ⟨r_78, hr_79, hm⟩ := bind_some hm
              refine lc rfl rfl (r_callv2 Try.call72 rfl rfl rfl) (c_order_Degree_1_v0n col_55 _ x_58 r_78 hr_79) ?_
              rintro _ w_80 ⟨rfl, hg_81⟩
              refine ⟨_, rfl, ?_⟩
              replace hg_81 : Grow col_55 w_54 col_55 w_80 := .of_below hg_81
              replace h_37 := h_37.gr hg_81
              replace h_41 := h_41.gr hg_81
              replace h_51 := h_51.gr hg_81
              replace hst := hst.grow hg_81
              refine lv (v := (.int .i64 r_78)) rfl rfl (r_assign rfl) ?_
              refine lnil ?_
              refine wseq ?_
              refine wregion ?_
              refine lv (v := (.int .i64 r_78)) rfl rfl (r_move rfl) ?_
              refine lv (v := (.int .i64 least_57)) rfl rfl (r_move rfl) ?_
              refine lv (v := (.bool (decide (r_78 < least_57)))) rfl rfl (r_lss r_78 least_57 rfl rfl) ?_
              refine lnil ?_
              refine wcond (decide (r_78 < least_57)) rfl (fun hb => ?_) (fun hb => ?_)
              · rw [if_pos hb] at hm
                clear hb
                refine wregion ?_
                refine lv (v := (.int .i64 (k_52 : Int))) rfl rfl (r_move rfl) ?_
                refine lv (v := (.int .i64 (IntKind.i64.wrap ((k_52 : Int) + 1)))) rfl rfl (r_add (k_52 : Int) 1 rfl rfl) ?_
                refine lv (v := (.int .i64 r_78)) rfl rfl (r_move rfl) ?_
                refine lv (v := (.int .i64 (IntKind.i64.wrap ((k_52 : Int) + 1)))) rfl rfl (r_assign rfl) ?_
                refine lv (v := (.int .i64 r_78)) rfl rfl (r_assign rfl) ?_
                refine lnil ?_
                exact ⟨col_55, (IntKind.i64.wrap ((k_52 : Int) + 1)), r_78, hm, hst, h_37, h_41, h_51, rfl, rfl, rfl, rfl, rfl, rfl, rfl, rfl, rfl, rfl⟩
              · rw [if_neg (by rw [hb]; decide)] at hm
                clear hb
                refine wskip ?_
                exact ⟨col_55, best_56, least_57, hm, hst, h_37, h_41, h_51, rfl, rfl, rfl, rfl, rfl, rfl, rfl, rfl, rfl, rfl⟩
        · rw [if_neg (by rw [hb]; decide)] at hm
          clear hb
          refine wexit (inB_hit ?_)
          refine wseq ?_
          refine wregion ?_
          refine lv (v := (.slice a_39 list_38.length cap_40)) rfl rfl (r_move rfl) ?_
          refine lv (v := (.slice a_39 list_38.length cap_40)) rfl rfl (r_assign rfl) ?_
          refine lv (v := (.int .i64 0)) rfl rfl (r_assign rfl) ?_
          refine lnil ?_
          refine wret ?_
          cases hm
          exact ⟨rfl, colF w0.heap.size col col_33 (fun n => bif Nat.beq n 3 then c1 else 0), a_39, cap_40, rfl, hst.fin (fun n => bif Nat.beq n 3 then c1 else 0), hst.finOwn (g := (fun n => bif Nat.beq n 3 then c1 else 0)) rfl h_41 (by decide) (by decide) rfl⟩
    | some t_12 =>
      rw [hx_13] at hm rh_8
      replace hm := optC_some hm
      obtain ⟨o_14, rfl, hG_15⟩ := optP_some rh_8
      refine lv (v := (.pointer (some ⟨o_14.g, 0, none⟩))) rfl rfl (r_assign rfl) ?_
      refine lnil ?_
      refine wseq ?_
      refine wregion ?_
      refine lv (v := (.slice a1 p1_points.length cap1)) rfl rfl (r_move rfl) ?_
      obtain ⟨r_82, hr_83, hm⟩ := bind_some hm
      refine lc rfl rfl (r_call1 Try.call80 rfl) (c_slices_Values_int_int col_11 _ a1 cap1 p1_points h1 r_82 hr_83) ?_
      rintro _ w_86 ⟨col_88, rv_84, rfl, hg_87, rh_85⟩
      refine ⟨_, rfl, ?_⟩
      replace hG_15 := hG_15.gr hg_87
      replace h1 := h1.gr hg_87
      replace hst := hst.grow hg_87
      obtain ⟨r_89, hr_90, hm⟩ := bind_some hm
      refine lc rfl rfl (r_call1 Try.call55 rfl) (c_slices_Sorted_int 5 col_88 _ rv_84 r_82 rh_85 r_89 hr_90) ?_
      rintro _ w_94 ⟨col_96, ra_91, rc_92, rfl, hg_95, rh_93⟩
      refine ⟨_, rfl, ?_⟩
      replace hG_15 := hG_15.gr hg_95
      replace rh_85 := rh_85.gr hg_95
      replace hst := hst.grow hg_95
      refine lv (v := (.slice ra_91 r_89.length rc_92)) rfl rfl (r_assign rfl) ?_
      refine lnil ?_
      refine wseq ?_
      refine wregion ?_
      refine lv (v := (.slice none (([] : List Int).length) 0)) rfl rfl (r_assign rfl) ?_
      refine lnil ?_
      refine wseq ?_
      refine wblock ?_
      refine wloop (fun n f w_98 => ∃ (col_99 : Col) (a_101 : Option Addr) (cap_102 : Nat) (left_100 : List Int) (a_105 : Option Addr) (cap_106 : Nat) (list_104 : List Int) (h_108 : List (List Bool)) (n_97 : Nat), n_97 = n ∧ m_order_by_v0n_v2f72_L3 N n_97 left_100 list_104 h_108 = some r ∧ St w0 (col0 col) col_99 w_98 ∧ Own (Rep.int .i64) 3 5 col_99 w_98 a_101 cap_102 left_100 ∧ Own (Rep.int .i64) 3 6 col_99 w_98 a_105 cap_106 list_104 ∧ GO 85 86 1 col_99 w_98 o_14 h_108 ∧ f 10 = (.slice a_101 left_100.length cap_102) ∧ f 11 = (.slice a_105 list_104.length cap_106) ∧ f 2 = (.func (.func 72) #[] #[]) ∧ f 9 = (.pointer (some ⟨o_14.g, 0, none⟩)) ∧ f 1000000 = (enc [])) N ⟨col_96, ra_91, rc_92, r_89, none, 0, ([] : List Int), t_12, N, rfl, hm, hst, rh_93, Own.nil, hG_15, rfl, rfl, rfl, rfl, rfl⟩ ?_
      clear hm; intro n f w_98 hI
      obtain ⟨col_99, a_101, cap_102, left_100, a_105, cap_106, list_104, h_108, n_97, hn, hm, hst, h_103, h_107, h_109, hs10, hs11, hs2, hs9, hs1000000⟩ := hI
      subst hn
      refine .ld (d := 10) (v := (.slice a_101 left_100.length cap_102)) hs10 ?_
      refine .ld (d := 11) (v := (.slice a_105 list_104.length cap_106)) hs11 ?_
      refine .ld (d := 2) (v := (.func (.func 72) #[] #[])) hs2 ?_
      refine .ld (d := 9) (v := (.pointer (some ⟨o_14.g, 0, none⟩))) hs9 ?_
      refine .ld (d := 1000000) (v := (enc [])) hs1000000 ?_
      clear hs10 hs11 hs2 hs9 hs1000000
      cases n_97 with
      | zero => rw [m_order_by_v0n_v2f72_L3.eq_1] at hm; cases hm
      | succ n_97 =>
        rw [m_order_by_v0n_v2f72_L3.eq_2] at hm
        refine wseq ?_
        refine wseq ?_
        refine wregion ?_
        refine lv (v := (.slice a_101 left_100.length cap_102)) rfl rfl (r_move rfl) ?_
        refine lv (v := (.int .i64 (left_100.length : Int))) rfl rfl (r_len Try.underlying22 rfl) ?_
        refine lv (v := (.bool (decide (0 < (left_100.length : Int))))) rfl rfl (r_gtr (left_100.length : Int) 0 rfl rfl) ?_
        refine lnil ?_
        refine wcond (decide (0 < (left_100.length : Int))) rfl (fun hb => ?_) (fun hb => ?_)
        · rw [if_pos hb] at hm
          clear hb
          refine wskip ?_
          refine wblock ?_
          refine wseq ?_
          refine wregion ?_
          refine lv (v := (.func (.func 72) #[] #[])) rfl rfl (r_move rfl) ?_
          refine lv (v := (.pointer (some ⟨o_14.g, 0, none⟩))) rfl rfl (r_move rfl) ?_
          refine lv (v := (.slice a_101 left_100.length cap_102)) rfl rfl (r_move rfl) ?_
          obtain ⟨e_110, hj_111, hm⟩ := bind_some hm
          refine lv (v := (sptr a_101 (Int.toNat 0 * 1))) rfl rfl (r_idx Try.underlying22 Try.sizeOf3 rfl rfl (at?_some hj_111).1 (at?_some hj_111).2.1 (h_103.addr hj_111)) ?_
          refine lv (v := (.int .i64 e_110)) rfl rfl (r_ld Try.isAgg3 rfl (h_103.atInt hj_111)) ?_
          obtain ⟨r_112, hr_113, hm⟩ := bind_some hm
          refine lc rfl rfl (r_callv2 Try.call72 rfl rfl rfl) (c_order_Degree_1 col_99 _ 1 (by decide) o_14 h_108 e_110 h_109 r_112 hr_113) ?_
          rintro _ w_114 ⟨rfl, hg_115⟩
          refine ⟨_, rfl, ?_⟩
          replace hg_115 : Grow col_99 w_98 col_99 w_114 := .of_below hg_115
          replace h_103 := h_103.gr hg_115
          replace h_107 := h_107.gr hg_115
          replace h_109 := h_109.gr hg_115
          replace hst := hst.grow hg_115
          refine lv (v := (.int .i64 0)) rfl rfl (r_assign rfl) ?_
          refine lv (v := (.int .i64 r_112)) rfl rfl (r_assign rfl) ?_
          refine lnil ?_
          refine wseq ?_
          refine wseq ?_
          refine wregion ?_
          refine lv (v := (.slice a_101 left_100.length cap_102)) rfl rfl (r_move rfl) ?_
          obtain ⟨hb_116, hm⟩ := chk_some hm
          have h_119 := (h_103.que (NB.int (k := .i64))).drop (sz := 1) rfl (Int.toNat 1)
          refine lv (v := .slice (if cap_102 = (Int.toNat 1) then a_101 else a_101.map (·.add ((Int.toNat 1) * 1))) (left_100.length - (Int.toNat 1)) (cap_102 - (Int.toNat 1))) rfl rfl (r_sliceL Try.underlying22 Try.sizeOf3 rfl rfl hb_116.1 hb_116.2) ?_
          generalize (if cap_102 = (Int.toNat 1) then a_101 else a_101.map (·.add ((Int.toNat 1) * 1))) = a_117 at *
          refine .ld (d := 38) (v := (.slice a_117 ((left_100.drop (Int.toNat 1)).length) (cap_102 - (Int.toNat 1)))) (congrArg (fun n => Value.slice a_117 n (cap_102 - (Int.toNat 1))) (List.length_drop (i := (Int.toNat 1)) (l := left_100)).symm) ?_
          refine lv (v := (.int .i64 ((left_100.drop (Int.toNat 1)).length : Int))) rfl rfl (r_len Try.underlying22 rfl) ?_
          refine lv (v := (.int .i64 0)) rfl rfl (r_move rfl) ?_
          refine lnil ?_
          refine wblock ?_
          refine wloop (fun n f w_122 => ∃ (col_123 : Col) (best_124 : Int) (least_125 : Int) (k_120 : Nat) (h_126 : List (List Bool)) (l_121 : List Int), n = l_121.length ∧ (left_100.drop (Int.toNat 1)).drop k_120 = l_121 ∧ m_order_by_v0n_v2f72_L4 N left_100 list_104 (m_order_by_v0n_v2f72_L3 N n_97) l_121 k_120 best_124 least_125 h_126 = some r ∧ St w0 (col0 col) col_123 w_122 ∧ Own (Rep.int .i64) 3 5 col_123 w_122 a_101 cap_102 left_100 ∧ Own (Rep.int .i64) 3 6 col_123 w_122 a_105 cap_106 list_104 ∧ Que (Rep.int .i64) 3 5 col_123 w_122 a_117 (cap_102 - (Int.toNat 1)) (left_100.drop (Int.toNat 1)) ∧ GO 85 86 1 col_123 w_122 o_14 h_126 ∧ f 40 = (.int .i64 (k_120 : Int)) ∧ f 10 = (.slice a_101 left_100.length cap_102) ∧ f 11 = (.slice a_105 list_104.length cap_106) ∧ f 12 = (.int .i64 best_124) ∧ f 13 = (.int .i64 least_125) ∧ f 2 = (.func (.func 72) #[] #[]) ∧ f 38 = (.slice a_117 ((left_100.drop (Int.toNat 1)).length) (cap_102 - (Int.toNat 1))) ∧ f 39 = (.int .i64 ((left_100.drop (Int.toNat 1)).length : Int)) ∧ f 9 = (.pointer (some ⟨o_14.g, 0, none⟩)) ∧ f 1000000 = (enc [])) (left_100.drop (Int.toNat 1)).length ⟨col_99, 0, r_112, 0, h_108, (left_100.drop (Int.toNat 1)), rfl, rfl, hm, hst, h_103, h_107, h_119, h_109, rfl, rfl, rfl, rfl, rfl, rfl, rfl, rfl, rfl, rfl⟩ ?_
          clear hm; intro n f w_122 hI
          obtain ⟨col_123, best_124, least_125, k_120, h_126, l_121, hn, hl, hm, hst, h_103, h_107, h_119, h_127, hs40, hs10, hs11, hs12, hs13, hs2, hs38, hs39, hs9, hs1000000⟩ := hI
          subst hn
          refine .ld (d := 40) (v := (.int .i64 (k_120 : Int))) hs40 ?_
          refine .ld (d := 10) (v := (.slice a_101 left_100.length cap_102)) hs10 ?_
          refine .ld (d := 11) (v := (.slice a_105 list_104.length cap_106)) hs11 ?_
          refine .ld (d := 12) (v := (.int .i64 best_124)) hs12 ?_
          refine .ld (d := 13) (v := (.int .i64 least_125)) hs13 ?_
          refine .ld (d := 2) (v := (.func (.func 72) #[] #[])) hs2 ?_
          refine .ld (d := 38) (v := (.slice a_117 ((left_100.drop (Int.toNat 1)).length) (cap_102 - (Int.toNat 1)))) hs38 ?_
          refine .ld (d := 39) (v := (.int .i64 ((left_100.drop (Int.toNat 1)).length : Int))) hs39 ?_
          refine .ld (d := 9) (v := (.pointer (some ⟨o_14.g, 0, none⟩))) hs9 ?_
          refine .ld (d := 1000000) (v := (enc [])) hs1000000 ?_
          clear hs40 hs10 hs11 hs12 hs13 hs2 hs38 hs39 hs9 hs1000000
          cases l_121 with
          | nil =>
            have hk : ¬ ((k_120 : Int) < ((left_100.drop (Int.toNat 1)).length : Int)) := by have := List.drop_eq_nil_iff.1 hl; omega
            have hkb := decide_eq_false hk
            rw [m_order_by_v0n_v2f72_L4.eq_1] at hm
            refine wseq ?_
            refine wregion ?_
            refine lv (v := (.bool (decide ((k_120 : Int) < ((left_100.drop (Int.toNat 1)).length : Int))))) rfl rfl (r_lss (k_120 : Int) ((left_100.drop (Int.toNat 1)).length : Int) rfl rfl) ?_
            refine lnil ?_
            refine wseq ?_
            refine wcondF (congrArg Value.bool hkb) ?_
            refine wexit (inB_hit ?_)
            refine wseq ?_
            refine wregion ?_
            refine lv (v := (.slice a_105 list_104.length cap_106)) rfl rfl (r_move rfl) ?_
            refine lv (v := (.slice a_101 left_100.length cap_102)) rfl rfl (r_move rfl) ?_
            refine lv (v := (.int .i64 best_124)) rfl rfl (r_move rfl) ?_
            obtain ⟨e_130, hj_131, hm⟩ := bind_some hm
            refine lv (v := (sptr a_101 (Int.toNat best_124 * 1))) rfl rfl (r_idx Try.underlying22 Try.sizeOf3 rfl rfl (at?_some hj_131).1 (at?_some hj_131).2.1 (h_103.addr hj_131)) ?_
            refine lv (v := (.int .i64 e_130)) rfl rfl (r_ld Try.isAgg3 rfl (h_103.atInt hj_131)) ?_
            refine l_lit (col := col_123) (r := (Rep.int .i64)) (xs := [e_130]) [(.int .i64 e_130)] 7 rfl Try.underlying22 el3_71V0NV2F72 rfl rfl rfl rfl rfl rfl (by intro v hv; simp only [List.mem_cons, List.not_mem_nil, or_false] at hv; subst hv; rfl) (RowsH.ofF (Rows.consF (r := (Rep.int .i64)) (x := e_130) (cs := [(.int .i64 e_130)]) (rd_int .i64 e_130) Rows.nil0)) ?_
            intro a_132 w_133 col_134 hg_135 h_136
            replace h_103 := h_103.gr hg_135
            replace h_127 := h_127.gr hg_135
            replace h_107 := h_107.gr hg_135
            replace hst := hst.grow hg_135
            obtain ⟨hb_137, hm⟩ := chk_some hm
            refine l_appendM (col := col_134) (w := w_133) (r := (Rep.int .i64)) (c := 6) (c2 := 6) (xs := list_104) (ys := [e_130]) h_107 (h_136.srcN (NB.int (k := .i64))) rfl Try.underlying22 el3_71V0NV2F72 rfl rfl rfl hb_137.1 hb_137.2 (by decide) ?_
            intro a_138 cap_139 w_140 col_141 hk_142 h_143
            replace h_103 := h_103.kpp hk_142 rfl rfl
            replace h_127 := h_127.kpp hk_142 rfl rfl
            replace h_136 := h_136.kpp hk_142 rfl rfl
            replace hst := hst.kpp hk_142 rfl rfl
            clear h_107
            refine lv (v := (.slice a_138 ((list_104 ++ [e_130]).length) cap_139)) rfl rfl (r_assign rfl) ?_
            refine lnil ?_
            refine wseq ?_
            refine wregion ?_
            refine lv (v := (.pointer (some ⟨o_14.g, 0, none⟩))) rfl rfl (r_move rfl) ?_
            refine lv (v := (.slice a_101 left_100.length cap_102)) rfl rfl (r_move rfl) ?_
            refine lv (v := (.int .i64 best_124)) rfl rfl (r_move rfl) ?_
            refine lv (v := (sptr a_101 (Int.toNat best_124 * 1))) rfl rfl (r_idx Try.underlying22 Try.sizeOf3 rfl rfl (at?_some hj_131).1 (at?_some hj_131).2.1 (h_103.addr hj_131)) ?_
            refine lv (v := (.int .i64 e_130)) rfl rfl (r_ld Try.isAgg3 rfl (h_103.atInt hj_131)) ?_
            obtain ⟨r_144, hr_145, hm⟩ := bind_some hm
            refine lc rfl rfl (r_call2 Try.call17 rfl rfl) (c_graph_Graph_Remove N 8 9 col_141 _ 1 rfl o_14 h_126 e_130 h_127 r_144 hr_145) ?_
            rintro _ w_153 ⟨col_155, ra_146, rc_147, ra_149, rc_150, rfl, hg_154, rh_148, rh_151, oh_152⟩
            refine ⟨_, rfl, ?_⟩
            replace h_103 := h_103.kpp hg_154 rfl rfl
            replace h_143 := h_143.kpp hg_154 rfl rfl
            replace hst := hst.kpp hg_154 rfl rfl
            clear h_127
            refine lnil ?_
            refine wregion ?_
            refine lv (v := (.slice a_101 left_100.length cap_102)) rfl rfl (r_move rfl) ?_
            refine lv (v := (.int .i64 best_124)) rfl rfl (r_move rfl) ?_
            refine lv (v := (.int .i64 best_124)) rfl rfl (r_move rfl) ?_
            refine lv (v := (.int .i64 (IntKind.i64.wrap (best_124 + 1)))) rfl rfl (r_add best_124 1 rfl rfl) ?_
            obtain ⟨r_156, hr_157, hm⟩ := bind_some hm
            refine lc rfl rfl (r_call3 Try.call104 rfl rfl rfl) (c_delete 5 (by decide) col_155 _ a_101 cap_102 left_100 best_124 (IntKind.i64.wrap (best_124 + 1)) h_103 r_156 hr_157) ?_
            rintro _ w_158 ⟨col_159, a_160, cap_161, rfl, hk_162, h_163⟩
            refine ⟨_, rfl, ?_⟩
            replace oh_152 := oh_152.kpp hk_162 rfl rfl
            replace h_143 := h_143.kpp hk_162 rfl rfl
            replace hst := hst.kpp hk_162 rfl rfl
            clear h_103
            refine lv (v := (.slice a_160 r_156.length cap_161)) rfl rfl (r_assign rfl) ?_
            refine lnil ?_
            exact ⟨n_97, by omega, ⟨col_159, a_160, cap_161, r_156, a_138, cap_139, (list_104 ++ [e_130]), r_144.2.2, n_97, rfl, hm, hst, h_163, h_143, oh_152, rfl, rfl, rfl, rfl, rfl⟩⟩
          | cons x_128 l_129 =>
            obtain ⟨hat, hl2, hlt⟩ := drop_get hl
            have hk : (k_120 : Int) < ((left_100.drop (Int.toNat 1)).length : Int) := by omega
            have hkb := decide_eq_true hk
            rw [m_order_by_v0n_v2f72_L4.eq_2] at hm
            refine wseq ?_
            refine wregion ?_
            refine lv (v := (.bool (decide ((k_120 : Int) < ((left_100.drop (Int.toNat 1)).length : Int))))) rfl rfl (r_lss (k_120 : Int) ((left_100.drop (Int.toNat 1)).length : Int) rfl rfl) ?_
            refine lnil ?_
            refine wseq ?_
            refine wcondT (congrArg Value.bool hkb) ?_
            refine wskip ?_
            refine wseq ?_
            refine Wp.cut (fun f w_164 => ∃ (col_165 : Col) (best_166 : Int) (least_167 : Int) (h_168 : List (List Bool)), m_order_by_v0n_v2f72_J2 k_120 (m_order_by_v0n_v2f72_L4 N left_100 list_104 (m_order_by_v0n_v2f72_L3 N n_97) l_129) best_166 least_167 h_168 = some r ∧ St w0 (col0 col) col_165 w_164 ∧ Own (Rep.int .i64) 3 5 col_165 w_164 a_101 cap_102 left_100 ∧ Own (Rep.int .i64) 3 6 col_165 w_164 a_105 cap_106 list_104 ∧ Que (Rep.int .i64) 3 5 col_165 w_164 a_117 (cap_102 - (Int.toNat 1)) (left_100.drop (Int.toNat 1)) ∧ GO 85 86 1 col_165 w_164 o_14 h_168 ∧ f 10 = (.slice a_101 left_100.length cap_102) ∧ f 11 = (.slice a_105 list_104.length cap_106) ∧ f 12 = (.int .i64 best_166) ∧ f 13 = (.int .i64 least_167) ∧ f 2 = (.func (.func 72) #[] #[]) ∧ f 38 = (.slice a_117 ((left_100.drop (Int.toNat 1)).length) (cap_102 - (Int.toNat 1))) ∧ f 39 = (.int .i64 ((left_100.drop (Int.toNat 1)).length : Int)) ∧ f 40 = (.int .i64 (k_120 : Int)) ∧ f 9 = (.pointer (some ⟨o_14.g, 0, none⟩)) ∧ f 1000000 = (enc [])) ?_ ?_
            · intro f w_164 hJ
              obtain ⟨col_165, best_166, least_167, h_168, hm, hst, h_103, h_107, h_119, h_169, hs10, hs11, hs12, hs13, hs2, hs38, hs39, hs40, hs9, hs1000000⟩ := hJ
              rw [m_order_by_v0n_v2f72_J2.eq_1] at hm
              refine .ld (d := 10) (v := (.slice a_101 left_100.length cap_102)) hs10 ?_
              refine .ld (d := 11) (v := (.slice a_105 list_104.length cap_106)) hs11 ?_
              refine .ld (d := 12) (v := (.int .i64 best_166)) hs12 ?_
              refine .ld (d := 13) (v := (.int .i64 least_167)) hs13 ?_
              refine .ld (d := 2) (v := (.func (.func 72) #[] #[])) hs2 ?_
              refine .ld (d := 38) (v := (.slice a_117 ((left_100.drop (Int.toNat 1)).length) (cap_102 - (Int.toNat 1)))) hs38 ?_
              refine .ld (d := 39) (v := (.int .i64 ((left_100.drop (Int.toNat 1)).length : Int))) hs39 ?_
              refine .ld (d := 40) (v := (.int .i64 (k_120 : Int))) hs40 ?_
              refine .ld (d := 9) (v := (.pointer (some ⟨o_14.g, 0, none⟩))) hs9 ?_
              refine .ld (d := 1000000) (v := (enc [])) hs1000000 ?_
              clear hs10 hs11 hs12 hs13 hs2 hs38 hs39 hs40 hs9 hs1000000
              refine wregion ?_
              refine lv (v := (.int .i64 (IntKind.i64.wrap ((k_120 : Int) + 1)))) rfl rfl (r_add (k_120 : Int) 1 rfl rfl) ?_
              refine lv (v := (.int .i64 (IntKind.i64.wrap ((k_120 : Int) + 1)))) rfl rfl (r_move rfl) ?_
              refine lnil ?_
              exact ⟨l_129.length, by simp, ⟨col_165, best_166, least_167, (k_120 + 1), h_168, l_129, rfl, hl2, hm, hst, h_103, h_107, h_119, h_169, (congrArg (Value.int .i64) (wrap_succ (Nat.lt_of_lt_of_le hlt h_119.len))), rfl, rfl, rfl, rfl, rfl, rfl, rfl, rfl, rfl⟩⟩
            · refine wblock ?_
              refine wseq ?_
              refine wregion ?_
              refine lv (v := (.int .i64 (k_120 : Int))) rfl rfl (r_move rfl) ?_
              refine lv (v := (sptr a_117 (Int.toNat (k_120 : Int) * 1))) rfl rfl (r_idx Try.underlying22 Try.sizeOf3 rfl rfl (at?_some hat).1 (at?_some hat).2.1 (h_119.addr hat)) ?_
              refine lv (v := (.int .i64 x_128)) rfl rfl (r_ld Try.isAgg3 rfl (h_119.atInt hat)) ?_
              refine lv (v := (.int .i64 (k_120 : Int))) rfl rfl (r_assign rfl) ?_
              refine lv (v := (.int .i64 x_128)) rfl rfl (r_assign rfl) ?_
              refine lnil ?_
              refine wseq ?_
              refine wregion ?_
              refine lv (v := (.func (.func 72) #[] #[])) rfl rfl (r_move rfl) ?_
              refine lv (v := (.pointer (some ⟨o_14.g, 0, none⟩))) rfl rfl (r_move rfl) ?_
              refine lv (v := (.int .i64 x_128)) rfl rfl (r_move rfl) ?_
              obtain ⟨r_170, hr_171, hm⟩ := bind_some hm
              refine lc rfl rfl (r_callv2 Try.call72 rfl rfl rfl) (c_order_Degree_1 col_123 _ 1 (by decide) o_14 h_126 x_128 h_127 r_170 hr_171) ?_
              rintro _ w_172 ⟨rfl, hg_173⟩
              refine ⟨_, rfl, ?_⟩
              replace hg_173 : Grow col_123 w_122 col_123 w_172 := .of_below hg_173
              replace h_103 := h_103.gr hg_173
              replace h_107 := h_107.gr hg_173
              replace h_119 := h_119.gr hg_173
              replace h_127 := h_127.gr hg_173
              replace hst := hst.grow hg_173
              refine lv (v := (.int .i64 r_170)) rfl rfl (r_assign rfl) ?_
              refine lnil ?_
              refine wseq ?_
              refine wregion ?_
              refine lv (v := (.int .i64 r_170)) rfl rfl (r_move rfl) ?_
              refine lv (v := (.int .i64 least_125)) rfl rfl (r_move rfl) ?_
              refine lv (v := (.bool (decide (r_170 < least_125)))) rfl rfl (r_lss r_170 least_125 rfl rfl) ?_
              refine lnil ?_
              refine wcond (decide (r_170 < least_125)) rfl (fun hb => ?_) (fun hb => ?_)
              · rw [if_pos hb] at hm
                clear hb
                refine wregion ?_
                refine lv (v := (.int .i64 (k_120 : Int))) rfl rfl (r_move rfl) ?_
                refine lv (v := (.int .i64 (IntKind.i64.wrap ((k_120 : Int) + 1)))) rfl rfl (r_add (k_120 : Int) 1 rfl rfl) ?_
                refine lv (v := (.int .i64 r_170)) rfl rfl (r_move rfl) ?_
                refine lv (v := (.int .i64 (IntKind.i64.wrap ((k_120 : Int) + 1)))) rfl rfl (r_assign rfl) ?_
                refine lv (v := (.int .i64 r_170)) rfl rfl (r_assign rfl) ?_
                refine lnil ?_
                exact ⟨col_123, (IntKind.i64.wrap ((k_120 : Int) + 1)), r_170, h_126, hm, hst, h_103, h_107, h_119, h_127, rfl, rfl, rfl, rfl, rfl, rfl, rfl, rfl, rfl, rfl⟩
              · rw [if_neg (by rw [hb]; decide)] at hm
                clear hb
                refine wskip ?_
                exact ⟨col_123, best_124, least_125, h_126, hm, hst, h_103, h_107, h_119, h_127, rfl, rfl, rfl, rfl, rfl, rfl, rfl, rfl, rfl, rfl⟩
        · rw [if_neg (by rw [hb]; decide)] at hm
          clear hb
          refine wexit (inB_hit ?_)
          refine wseq ?_
          refine wregion ?_
          refine lv (v := (.slice a_105 list_104.length cap_106)) rfl rfl (r_move rfl) ?_
          refine lv (v := (.slice a_105 list_104.length cap_106)) rfl rfl (r_assign rfl) ?_
          refine lv (v := (.int .i64 0)) rfl rfl (r_assign rfl) ?_
          refine lnil ?_
          refine wret ?_
          cases hm
          exact ⟨rfl, colF w0.heap.size col col_99 (fun n => bif Nat.beq n 6 then c1 else 0), a_105, cap_106, rfl, hst.fin (fun n => bif Nat.beq n 6 then c1 else 0), hst.finOwn (g := (fun n => bif Nat.beq n 6 then c1 else 0)) rfl h_107 (by decide) (by decide) rfl⟩




def m_order_Degree_v0n (N : Nat) (p1_points : (List Int)) : Option ((List Int) × Int) :=
  (m_order_by_v0n_v2f72 N p1_points).bind fun r_1 => some (r_1.1, r_1.2)

set_option maxRecDepth 100000 in
set_option maxHeartbeats 2000000 in
theorem c_order_Degree_v0n (N : Nat) (c1 : Nat) (col : Col) (w0 : World) (a1 : Option Addr) (cap1 : Nat) (p1_points : (List Int)) (h1 : Sl (Rep.int .i64) col w0 a1 cap1 p1_points) (r : ((List Int) × Int)) (hm : m_order_Degree_v0n N p1_points = some r) :
    Calls Try.prog 33 #[(.pointer none), (.slice a1 p1_points.length cap1)] w0 (fun e w' => ∃ (col' : Col) (ra1 : Option Addr) (rc2 : Nat), e = .returned (.tuple #[(.slice ra1 r.1.length rc2), (.int .i64 r.2)]) ∧ Grow col w0 col' w' ∧ Own (Rep.int .i64) 3 c1 col' w' ra1 rc2 r.1) := by
  refine calls_of2 4 5 (m := 11) (args := [(.pointer none), (.slice a1 p1_points.length cap1)]) Try.func33 rfl rfl rfl rfl rfl ?_
  rw [m_order_Degree_v0n.eq_1] at hm
  have hst := St.start col w0
  replace h1 := h1.keep (Stay.start col w0)
  refine wseq ?_
  refine wregion ?_
  refine lv (v := (.slice none (([] : List Int).length) 0)) rfl rfl (r_assign rfl) ?_
  refine lv (v := (.int .i64 0)) rfl rfl (r_assign rfl) ?_
  refine lnil ?_
  refine wseq ?_
  refine wregion ?_
  refine lv (v := (.pointer none)) rfl rfl (r_move rfl) ?_
  refine lv (v := (.slice a1 p1_points.length cap1)) rfl rfl (r_move rfl) ?_
  obtain ⟨r_1, hr_2, hm⟩ := bind_some hm
  refine lc rfl rfl (r_call3 Try.call71 rfl rfl rfl) (c_order_by_v0n_v2f72 N 1 (col0 col) _ a1 cap1 p1_points h1 r_1 hr_2) ?_
  rintro _ w_6 ⟨col_8, ra_3, rc_4, rfl, hg_7, rh_5⟩
  refine ⟨_, rfl, ?_⟩
  replace h1 := h1.gr hg_7
  replace hst := hst.grow hg_7
  refine lv (v := (.slice ra_3 r_1.1.length rc_4)) rfl rfl (r_extract rfl rfl) ?_
  refine lv (v := (.int .i64 r_1.2)) rfl rfl (r_extract rfl rfl) ?_
  refine lv (v := (.slice ra_3 r_1.1.length rc_4)) rfl rfl (r_assign rfl) ?_
  refine lv (v := (.int .i64 r_1.2)) rfl rfl (r_assign rfl) ?_
  refine lnil ?_
  refine wret ?_
  cases hm
  exact ⟨rfl, colF w0.heap.size col col_8 (fun n => bif Nat.beq n 1 then c1 else 0), ra_3, rc_4, rfl, hst.fin (fun n => bif Nat.beq n 1 then c1 else 0), hst.finOwn (g := (fun n => bif Nat.beq n 1 then c1 else 0)) rfl rh_5 (by decide) (by decide) rfl⟩



set_option maxRecDepth 100000 in
theorem el22_40V0N : ElemOk Try.prog 22 1 24 := ⟨Try.t22, _, rfl, rfl, rfl, rfl, rfl⟩

def m_order_Cliques_v0n_L1  : List Int → (List (List Int)) → Option ((List (List Int)) × Int)
  | [], all_20 => some (all_20, 0)
  | x_24 :: l_25, all_20 => none

def m_order_Cliques_v0n_L2 (N : Nat) : List Int → (List (List Bool)) → (List (List Int)) → Option ((List (List Int)) × Int)
  | [], h_30, all_32 => some (all_32, 0)
  | x_36 :: l_37, h_30, all_32 => (m_graph_Graph_Remove N h_30 x_36).bind fun r_38 => chk ((all_32.length + [r_38.1].length) * 24 ≤ 140737488355328 ∧ all_32.length + [r_38.1].length ≤ maxLen) ((m_order_Cliques_v0n_L2 N l_37) r_38.2.2 (all_32 ++ [r_38.1]))

def m_order_Cliques_v0n (N : Nat) (p1_order : (List Int)) : Option ((List (List Int)) × Int) :=
  (m_order_wrong_v0n p1_order).bind fun r_1 => if (!decide (r_1 = 0)) = true then (some (([] : List (List Int)), r_1)) else ((m_order_copied_v0n).bind fun r_5 => optC (r_5) (m_order_Cliques_v0n_L1 p1_order ([] : List (List Int))) (fun t_12 => m_order_Cliques_v0n_L2 N p1_order t_12 ([] : List (List Int))))

set_option maxRecDepth 100000 in
set_option maxHeartbeats 2000000 in
theorem c_order_Cliques_v0n (N : Nat) (c1 : Nat) (col : Col) (w0 : World) (a1 : Option Addr) (cap1 : Nat) (p1_order : (List Int)) (h1 : Sl (Rep.int .i64) col w0 a1 cap1 p1_order) (r : ((List (List Int)) × Int)) (hm : m_order_Cliques_v0n N p1_order = some r) :
    Calls Try.prog 40 #[(.pointer none), (.slice a1 p1_order.length cap1)] w0 (fun e w' => ∃ (col' : Col) (ra1 : Option Addr) (rc2 : Nat), e = .returned (.tuple #[(.slice ra1 r.1.length rc2), (.int .i64 r.2)]) ∧ Grow col w0 col' w' ∧ Own (Rep.row 3 (Rep.int .i64)) 22 c1 col' w' ra1 rc2 r.1) := by
  refine calls_of2 4 5 (m := 39) (args := [(.pointer none), (.slice a1 p1_order.length cap1)]) Try.func40 rfl rfl rfl rfl rfl ?_
  rw [m_order_Cliques_v0n.eq_1] at hm
  have hst := St.start col w0
  replace h1 := h1.keep (Stay.start col w0)
  refine wseq ?_
  refine wregion ?_
  refine lv (v := (.slice none (([] : List (List Int)).length) 0)) rfl rfl (r_assign rfl) ?_
  refine lv (v := (.int .i64 0)) rfl rfl (r_assign rfl) ?_
  refine lnil ?_
  refine wseq ?_
  refine wseq ?_
  refine wregion ?_
  refine lv (v := (.pointer none)) rfl rfl (r_move rfl) ?_
  refine lv (v := (.slice a1 p1_order.length cap1)) rfl rfl (r_move rfl) ?_
  obtain ⟨r_1, hr_2, hm⟩ := bind_some hm
  refine lc rfl rfl (r_call2 Try.call75 rfl rfl) (c_order_wrong_v0n (col0 col) _ a1 cap1 p1_order h1 r_1 hr_2) ?_
  rintro _ w_3 ⟨rfl, hg_4⟩
  refine ⟨_, rfl, ?_⟩
  replace hg_4 : Grow (col0 col) w0 (col0 col) w_3 := .of_below hg_4
  replace h1 := h1.gr hg_4
  replace hst := hst.grow hg_4
  refine lv (v := (.int .i64 r_1)) rfl rfl (r_assign rfl) ?_
  refine lnil ?_
  refine wseq ?_
  refine wregion ?_
  refine lv (v := (.int .i64 r_1)) rfl rfl (r_move rfl) ?_
  refine lv (v := (.bool (!decide (r_1 = 0)))) rfl rfl (r_neq r_1 0 rfl rfl) ?_
  refine lnil ?_
  refine wcond (!decide (r_1 = 0)) rfl (fun hb => ?_) (fun hb => ?_)
  · rw [if_pos hb] at hm
    clear hb
    refine wseq ?_
    refine wregion ?_
    refine lv (v := (.int .i64 r_1)) rfl rfl (r_move rfl) ?_
    refine lv (v := (.slice none (([] : List (List Int)).length) 0)) rfl rfl (r_assign rfl) ?_
    refine lv (v := (.int .i64 r_1)) rfl rfl (r_assign rfl) ?_
    refine lnil ?_
    refine wret ?_
    cases hm
    exact ⟨rfl, colF w0.heap.size col (col0 col) (fun n => 0), none, 0, rfl, hst.fin (fun n => 0), Own.nil⟩
  · rw [if_neg (by rw [hb]; decide)] at hm
    clear hb
    refine wskip ?_
    refine wseq ?_
    refine wregion ?_
    refine lv (v := (.pointer none)) rfl rfl (r_move rfl) ?_
    obtain ⟨r_5, hr_6, hm⟩ := bind_some hm
    refine lc rfl rfl (r_call1 Try.call76 rfl) (c_order_copied_v0n 1 (col0 col) _ r_5 hr_6) ?_
    rintro _ w_9 ⟨col_11, rv_7, rfl, hg_10, rh_8⟩
    refine ⟨_, rfl, ?_⟩
    replace h1 := h1.gr hg_10
    replace hst := hst.grow hg_10
    cases hx_13 : r_5 with
    | none =>
      rw [hx_13] at hm rh_8
      replace hm := optC_none hm
      obtain rfl := optP_none rh_8
      clear rh_8
      refine lv (v := (.pointer none)) rfl rfl (r_assign rfl) ?_
      refine lnil ?_
      refine wseq ?_
      refine wregion ?_
      refine lv (v := (.slice none (([] : List (List Int)).length) 0)) rfl rfl (r_assign rfl) ?_
      refine lnil ?_
      refine wseq ?_
      refine wseq ?_
      refine wregion ?_
      refine lv (v := (.slice a1 p1_order.length cap1)) rfl rfl (r_move rfl) ?_
      refine lv (v := (.int .i64 (p1_order.length : Int))) rfl rfl (r_len Try.underlying22 rfl) ?_
      refine lv (v := (.int .i64 0)) rfl rfl (r_move rfl) ?_
      refine lnil ?_
      refine wblock ?_
      refine wloop (fun n f w_18 => ∃ (col_19 : Col) (k_16 : Nat) (a_21 : Option Addr) (cap_22 : Nat) (all_20 : List (List Int)) (l_17 : List Int), n = l_17.length ∧ p1_order.drop k_16 = l_17 ∧ m_order_Cliques_v0n_L1 l_17 all_20 = some r ∧ St w0 (col0 col) col_19 w_18 ∧ Sl (Rep.int .i64) col_19 w_18 a1 cap1 p1_order ∧ Own (Rep.row 3 (Rep.int .i64)) 22 2 col_19 w_18 a_21 cap_22 all_20 ∧ f 23 = (.int .i64 (k_16 : Int)) ∧ f 21 = (.slice a1 p1_order.length cap1) ∧ f 22 = (.int .i64 (p1_order.length : Int)) ∧ f 7 = (.pointer none) ∧ f 8 = (.slice a_21 all_20.length cap_22) ∧ f 1000000 = (enc [])) p1_order.length ⟨col_11, 0, none, 0, ([] : List (List Int)), p1_order, rfl, rfl, hm, hst, h1, Own.nil, rfl, rfl, rfl, rfl, rfl, rfl⟩ ?_
      clear hm; intro n f w_18 hI
      obtain ⟨col_19, k_16, a_21, cap_22, all_20, l_17, hn, hl, hm, hst, h1, h_23, hs23, hs21, hs22, hs7, hs8, hs1000000⟩ := hI
      subst hn
      refine .ld (d := 23) (v := (.int .i64 (k_16 : Int))) hs23 ?_
      refine .ld (d := 21) (v := (.slice a1 p1_order.length cap1)) hs21 ?_
      refine .ld (d := 22) (v := (.int .i64 (p1_order.length : Int))) hs22 ?_
      refine .ld (d := 7) (v := (.pointer none)) hs7 ?_
      refine .ld (d := 8) (v := (.slice a_21 all_20.length cap_22)) hs8 ?_
      refine .ld (d := 1000000) (v := (enc [])) hs1000000 ?_
      clear hs23 hs21 hs22 hs7 hs8 hs1000000
      cases l_17 with
      | nil =>
        have hk : ¬ ((k_16 : Int) < (p1_order.length : Int)) := by have := List.drop_eq_nil_iff.1 hl; omega
        have hkb := decide_eq_false hk
        rw [m_order_Cliques_v0n_L1.eq_1] at hm
        refine wseq ?_
        refine wregion ?_
        refine lv (v := (.bool (decide ((k_16 : Int) < (p1_order.length : Int))))) rfl rfl (r_lss (k_16 : Int) (p1_order.length : Int) rfl rfl) ?_
        refine lnil ?_
        refine wseq ?_
        refine wcondF (congrArg Value.bool hkb) ?_
        refine wexit (inB_hit ?_)
        refine wseq ?_
        refine wregion ?_
        refine lv (v := (.slice a_21 all_20.length cap_22)) rfl rfl (r_move rfl) ?_
        refine lv (v := (.slice a_21 all_20.length cap_22)) rfl rfl (r_assign rfl) ?_
        refine lv (v := (.int .i64 0)) rfl rfl (r_assign rfl) ?_
        refine lnil ?_
        refine wret ?_
        cases hm
        exact ⟨rfl, colF w0.heap.size col col_19 (fun n => bif Nat.beq n 2 then c1 else 0), a_21, cap_22, rfl, hst.fin (fun n => bif Nat.beq n 2 then c1 else 0), hst.finOwn (g := (fun n => bif Nat.beq n 2 then c1 else 0)) rfl h_23 (by decide) (by decide) rfl⟩
      | cons x_24 l_25 =>
        obtain ⟨hat, hl2, hlt⟩ := drop_get hl
        have hk : (k_16 : Int) < (p1_order.length : Int) := by omega
        have hkb := decide_eq_true hk
        rw [m_order_Cliques_v0n_L1.eq_2] at hm
        refine wseq ?_
        refine wregion ?_
        refine lv (v := (.bool (decide ((k_16 : Int) < (p1_order.length : Int))))) rfl rfl (r_lss (k_16 : Int) (p1_order.length : Int) rfl rfl) ?_
        refine lnil ?_
        refine wseq ?_
        refine wcondT (congrArg Value.bool hkb) ?_
        refine wskip ?_
        refine wseq ?_
        refine wblock ?_
        refine wseq ?_
        refine wregion ?_
        refine lv (v := (sptr a1 (Int.toNat (k_16 : Int) * 1))) rfl rfl (r_idx Try.underlying22 Try.sizeOf3 rfl rfl (at?_some hat).1 (at?_some hat).2.1 (h1.addr hat)) ?_
        refine lv (v := (.int .i64 x_24)) rfl rfl (r_ld Try.isAgg3 rfl (h1.atInt hat)) ?_
        refine lv (v := (.int .i64 x_24)) rfl rfl (r_assign rfl) ?_
        refine lnil ?_
        refine wseq ?_
        refine wregion ?_
        refine lv (v := (.pointer none)) rfl rfl (r_move rfl) ?_
        refine lv (v := (.int .i64 x_24)) rfl rfl (r_move rfl) ?_
        cases hm
    | some t_12 =>
      rw [hx_13] at hm rh_8
      replace hm := optC_some hm
      obtain ⟨o_14, rfl, hG_15⟩ := optP_some rh_8
      refine lv (v := (.pointer (some ⟨o_14.g, 0, none⟩))) rfl rfl (r_assign rfl) ?_
      refine lnil ?_
      refine wseq ?_
      refine wregion ?_
      refine lv (v := (.slice none (([] : List (List Int)).length) 0)) rfl rfl (r_assign rfl) ?_
      refine lnil ?_
      refine wseq ?_
      refine wseq ?_
      refine wregion ?_
      refine lv (v := (.slice a1 p1_order.length cap1)) rfl rfl (r_move rfl) ?_
      refine lv (v := (.int .i64 (p1_order.length : Int))) rfl rfl (r_len Try.underlying22 rfl) ?_
      refine lv (v := (.int .i64 0)) rfl rfl (r_move rfl) ?_
      refine lnil ?_
      refine wblock ?_
      refine wloop (fun n f w_28 => ∃ (col_29 : Col) (k_26 : Nat) (h_30 : List (List Bool)) (a_33 : Option Addr) (cap_34 : Nat) (all_32 : List (List Int)) (l_27 : List Int), n = l_27.length ∧ p1_order.drop k_26 = l_27 ∧ m_order_Cliques_v0n_L2 N l_27 h_30 all_32 = some r ∧ St w0 (col0 col) col_29 w_28 ∧ Sl (Rep.int .i64) col_29 w_28 a1 cap1 p1_order ∧ GO 85 86 1 col_29 w_28 o_14 h_30 ∧ Own (Rep.row 3 (Rep.int .i64)) 22 3 col_29 w_28 a_33 cap_34 all_32 ∧ f 23 = (.int .i64 (k_26 : Int)) ∧ f 21 = (.slice a1 p1_order.length cap1) ∧ f 22 = (.int .i64 (p1_order.length : Int)) ∧ f 7 = (.pointer (some ⟨o_14.g, 0, none⟩)) ∧ f 8 = (.slice a_33 all_32.length cap_34) ∧ f 1000000 = (enc [])) p1_order.length ⟨col_11, 0, t_12, none, 0, ([] : List (List Int)), p1_order, rfl, rfl, hm, hst, h1, hG_15, Own.nil, rfl, rfl, rfl, rfl, rfl, rfl⟩ ?_
      clear hm; intro n f w_28 hI
      obtain ⟨col_29, k_26, h_30, a_33, cap_34, all_32, l_27, hn, hl, hm, hst, h1, h_31, h_35, hs23, hs21, hs22, hs7, hs8, hs1000000⟩ := hI
      subst hn
      refine .ld (d := 23) (v := (.int .i64 (k_26 : Int))) hs23 ?_
      refine .ld (d := 21) (v := (.slice a1 p1_order.length cap1)) hs21 ?_
      refine .ld (d := 22) (v := (.int .i64 (p1_order.length : Int))) hs22 ?_
      refine .ld (d := 7) (v := (.pointer (some ⟨o_14.g, 0, none⟩))) hs7 ?_
      refine .ld (d := 8) (v := (.slice a_33 all_32.length cap_34)) hs8 ?_
      refine .ld (d := 1000000) (v := (enc [])) hs1000000 ?_
      clear hs23 hs21 hs22 hs7 hs8 hs1000000
      cases l_27 with
      | nil =>
        have hk : ¬ ((k_26 : Int) < (p1_order.length : Int)) := by have := List.drop_eq_nil_iff.1 hl; omega
        have hkb := decide_eq_false hk
        rw [m_order_Cliques_v0n_L2.eq_1] at hm
        refine wseq ?_
        refine wregion ?_
        refine lv (v := (.bool (decide ((k_26 : Int) < (p1_order.length : Int))))) rfl rfl (r_lss (k_26 : Int) (p1_order.length : Int) rfl rfl) ?_
        refine lnil ?_
        refine wseq ?_
        refine wcondF (congrArg Value.bool hkb) ?_
        refine wexit (inB_hit ?_)
        refine wseq ?_
        refine wregion ?_
        refine lv (v := (.slice a_33 all_32.length cap_34)) rfl rfl (r_move rfl) ?_
        refine lv (v := (.slice a_33 all_32.length cap_34)) rfl rfl (r_assign rfl) ?_
        refine lv (v := (.int .i64 0)) rfl rfl (r_assign rfl) ?_
        refine lnil ?_
        refine wret ?_
        cases hm
        exact ⟨rfl, colF w0.heap.size col col_29 (fun n => bif Nat.beq n 3 then c1 else 0), a_33, cap_34, rfl, hst.fin (fun n => bif Nat.beq n 3 then c1 else 0), hst.finOwn (g := (fun n => bif Nat.beq n 3 then c1 else 0)) rfl h_35 (by decide) (by decide) rfl⟩
      | cons x_36 l_37 =>
        obtain ⟨hat, hl2, hlt⟩ := drop_get hl
        have hk : (k_26 : Int) < (p1_order.length : Int) := by omega
        have hkb := decide_eq_true hk
        rw [m_order_Cliques_v0n_L2.eq_2] at hm
        refine wseq ?_
        refine wregion ?_
        refine lv (v := (.bool (decide ((k_26 : Int) < (p1_order.length : Int))))) rfl rfl (r_lss (k_26 : Int) (p1_order.length : Int) rfl rfl) ?_
        refine lnil ?_
        refine wseq ?_
        refine wcondT (congrArg Value.bool hkb) ?_
        refine wskip ?_
        refine wseq ?_
        refine wblock ?_
        refine wseq ?_
        refine wregion ?_
        refine lv (v := (sptr a1 (Int.toNat (k_26 : Int) * 1))) rfl rfl (r_idx Try.underlying22 Try.sizeOf3 rfl rfl (at?_some hat).1 (at?_some hat).2.1 (h1.addr hat)) ?_
        refine lv (v := (.int .i64 x_36)) rfl rfl (r_ld Try.isAgg3 rfl (h1.atInt hat)) ?_
        refine lv (v := (.int .i64 x_36)) rfl rfl (r_assign rfl) ?_
        refine lnil ?_
        refine wseq ?_
        refine wregion ?_
        refine lv (v := (.pointer (some ⟨o_14.g, 0, none⟩))) rfl rfl (r_move rfl) ?_
        refine lv (v := (.int .i64 x_36)) rfl rfl (r_move rfl) ?_
        obtain ⟨r_38, hr_39, hm⟩ := bind_some hm
        refine lc rfl rfl (r_call2 Try.call17 rfl rfl) (c_graph_Graph_Remove N 4 5 col_29 _ 1 rfl o_14 h_30 x_36 h_31 r_38 hr_39) ?_
        rintro _ w_47 ⟨col_49, ra_40, rc_41, ra_43, rc_44, rfl, hg_48, rh_42, rh_45, oh_46⟩
        refine ⟨_, rfl, ?_⟩
        replace h1 := h1.kpp hg_48 rfl
        replace h_35 := h_35.kpp hg_48 rfl rfl
        replace hst := hst.kpp hg_48 rfl rfl
        clear h_31
        refine lv (v := (.tuple #[(.slice ra_40 r_38.1.length rc_41), (.slice ra_43 r_38.2.1.length rc_44)])) rfl rfl (r_move rfl) ?_
        refine lv (v := (.slice ra_40 r_38.1.length rc_41)) rfl rfl (r_extract rfl rfl) ?_
        refine lv (v := (.slice ra_43 r_38.2.1.length rc_44)) rfl rfl (r_extract rfl rfl) ?_
        refine lv (v := (.slice ra_40 r_38.1.length rc_41)) rfl rfl (r_assign rfl) ?_
        refine lv (v := (.slice ra_43 r_38.2.1.length rc_44)) rfl rfl (r_assign rfl) ?_
        refine lnil ?_
        refine wregion ?_
        refine lv (v := (.slice a_33 all_32.length cap_34)) rfl rfl (r_move rfl) ?_
        refine lv (v := (.slice ra_40 r_38.1.length rc_41)) rfl rfl (r_move rfl) ?_
        refine l_lit (col := col_49) (r := (Rep.row 3 (Rep.int .i64))) (xs := [r_38.1]) [(.slice ra_40 r_38.1.length rc_41)] 4 rfl Try.underlying33 el22_40V0N rfl rfl rfl rfl rfl rfl (by intro v hv; simp only [List.mem_cons, List.not_mem_nil, or_false] at hv; subst hv; rfl) (RowsH.cons1 (cs := [(.slice ra_40 r_38.1.length rc_41)]) rh_42.has Rows.nil0) ?_
        intro a_50 w_51 col_52 hg_53 h_54
        replace h1 := h1.gr hg_53
        replace oh_46 := oh_46.gr hg_53
        replace h_35 := h_35.gr hg_53
        replace rh_42 := rh_42.gr hg_53
        replace hst := hst.grow hg_53
        obtain ⟨hb_55, hm⟩ := chk_some hm
        refine l_appendM (col := col_52) (w := w_51) (r := (Rep.row 3 (Rep.int .i64))) (c := 3) (c2 := 4) (xs := all_32) (ys := [r_38.1]) h_35 (h_54.srcC (by decide)) rfl Try.underlying33 el22_40V0N rfl rfl rfl hb_55.1 hb_55.2 (by decide) ?_
        intro a_56 cap_57 w_58 col_59 hk_60 h_61
        replace h1 := h1.kpp hk_60 rfl
        replace oh_46 := oh_46.kpp hk_60 rfl rfl
        clear h_54
        replace hst := hst.kpp hk_60 rfl rfl
        clear h_35
        refine lv (v := (.slice a_56 ((all_32 ++ [r_38.1]).length) cap_57)) rfl rfl (r_assign rfl) ?_
        refine lnil ?_
        refine wregion ?_
        refine lv (v := (.int .i64 (IntKind.i64.wrap ((k_26 : Int) + 1)))) rfl rfl (r_add (k_26 : Int) 1 rfl rfl) ?_
        refine lv (v := (.int .i64 (IntKind.i64.wrap ((k_26 : Int) + 1)))) rfl rfl (r_move rfl) ?_
        refine lnil ?_
        exact ⟨l_37.length, by simp, ⟨col_59, (k_26 + 1), r_38.2.2, a_56, cap_57, (all_32 ++ [r_38.1]), l_37, rfl, hl2, hm, hst, h1, oh_46, h_61, (congrArg (Value.int .i64) (wrap_succ (Nat.lt_of_lt_of_le hlt h1.1.1))), rfl, rfl, rfl, rfl, rfl⟩⟩




def m_order_Width_v0n_L1 (r_1 : ((List (List Int)) × Int)) : List (List Int) → Int → Option (Int × Int)
  | [], most_13 => some (IntKind.i64.wrap (most_13 - 1), r_1.2)
  | x_14 :: l_15, most_13 => (m_order_Width_v0n_L1 r_1 l_15) (if (x_14.length : Int) > most_13 then (x_14.length : Int) else most_13)

def m_order_Width_v0n (N : Nat) (p1_order : (List Int)) : Option (Int × Int) :=
  (m_order_Cliques_v0n N p1_order).bind fun r_1 => m_order_Width_v0n_L1 r_1 r_1.1 1

set_option maxRecDepth 100000 in
set_option maxHeartbeats 2000000 in
theorem c_order_Width_v0n (N : Nat) (col : Col) (w0 : World) (a1 : Option Addr) (cap1 : Nat) (p1_order : (List Int)) (h1 : Sl (Rep.int .i64) col w0 a1 cap1 p1_order) (r : (Int × Int)) (hm : m_order_Width_v0n N p1_order = some r) :
    Calls Try.prog 42 #[(.pointer none), (.slice a1 p1_order.length cap1)] w0 (fun e w' => e = .returned (.tuple #[(.int .i64 r.1), (.int .i64 r.2)]) ∧ Below w0.heap.size w0 w') := by
  refine calls_of2 4 5 (m := 31) (args := [(.pointer none), (.slice a1 p1_order.length cap1)]) Try.func42 rfl rfl rfl rfl rfl ?_
  rw [m_order_Width_v0n.eq_1] at hm
  have hst := St.start col w0
  replace h1 := h1.keep (Stay.start col w0)
  refine wseq ?_
  refine wregion ?_
  refine lv (v := (.int .i64 0)) rfl rfl (r_assign rfl) ?_
  refine lv (v := (.int .i64 0)) rfl rfl (r_assign rfl) ?_
  refine lnil ?_
  refine wseq ?_
  refine wregion ?_
  refine lv (v := (.pointer none)) rfl rfl (r_move rfl) ?_
  refine lv (v := (.slice a1 p1_order.length cap1)) rfl rfl (r_move rfl) ?_
  obtain ⟨r_1, hr_2, hm⟩ := bind_some hm
  refine lc rfl rfl (r_call2 Try.call40 rfl rfl) (c_order_Cliques_v0n N 1 (col0 col) _ a1 cap1 p1_order h1 r_1 hr_2) ?_
  rintro _ w_6 ⟨col_8, ra_3, rc_4, rfl, hg_7, rh_5⟩
  refine ⟨_, rfl, ?_⟩
  replace h1 := h1.gr hg_7
  replace hst := hst.grow hg_7
  refine lv (v := (.tuple #[(.slice ra_3 r_1.1.length rc_4), (.int .i64 r_1.2)])) rfl rfl (r_move rfl) ?_
  refine lv (v := (.slice ra_3 r_1.1.length rc_4)) rfl rfl (r_extract rfl rfl) ?_
  refine lv (v := (.int .i64 r_1.2)) rfl rfl (r_extract rfl rfl) ?_
  refine lv (v := (.slice ra_3 r_1.1.length rc_4)) rfl rfl (r_assign rfl) ?_
  refine lv (v := (.int .i64 r_1.2)) rfl rfl (r_assign rfl) ?_
  refine lnil ?_
  refine wseq ?_
  refine wregion ?_
  refine lv (v := (.int .i64 1)) rfl rfl (r_assign rfl) ?_
  refine lnil ?_
  refine wseq ?_
  refine wseq ?_
  refine wregion ?_
  refine lv (v := (.slice ra_3 r_1.1.length rc_4)) rfl rfl (r_move rfl) ?_
  refine lv (v := (.int .i64 (r_1.1.length : Int))) rfl rfl (r_len Try.underlying33 rfl) ?_
  refine lv (v := (.int .i64 0)) rfl rfl (r_move rfl) ?_
  refine lnil ?_
  refine wblock ?_
  refine wloop (fun n f w_11 => ∃ (col_12 : Col) (k_9 : Nat) (most_13 : Int) (l_10 : List (List Int)), n = l_10.length ∧ r_1.1.drop k_9 = l_10 ∧ m_order_Width_v0n_L1 r_1 l_10 most_13 = some r ∧ St w0 (col0 col) col_12 w_11 ∧ Own (Rep.row 3 (Rep.int .i64)) 22 1 col_12 w_11 ra_3 rc_4 r_1.1 ∧ f 19 = (.int .i64 (k_9 : Int)) ∧ f 17 = (.slice ra_3 r_1.1.length rc_4) ∧ f 18 = (.int .i64 (r_1.1.length : Int)) ∧ f 7 = (.int .i64 r_1.2) ∧ f 8 = (.int .i64 most_13) ∧ f 1000000 = (enc [])) r_1.1.length ⟨col_8, 0, 1, r_1.1, rfl, rfl, hm, hst, rh_5, rfl, rfl, rfl, rfl, rfl, rfl⟩ ?_
  clear hm; intro n f w_11 hI
  obtain ⟨col_12, k_9, most_13, l_10, hn, hl, hm, hst, rh_5, hs19, hs17, hs18, hs7, hs8, hs1000000⟩ := hI
  subst hn
  refine .ld (d := 19) (v := (.int .i64 (k_9 : Int))) hs19 ?_
  refine .ld (d := 17) (v := (.slice ra_3 r_1.1.length rc_4)) hs17 ?_
  refine .ld (d := 18) (v := (.int .i64 (r_1.1.length : Int))) hs18 ?_
  refine .ld (d := 7) (v := (.int .i64 r_1.2)) hs7 ?_
  refine .ld (d := 8) (v := (.int .i64 most_13)) hs8 ?_
  refine .ld (d := 1000000) (v := (enc [])) hs1000000 ?_
  clear hs19 hs17 hs18 hs7 hs8 hs1000000
  cases l_10 with
  | nil =>
    have hk : ¬ ((k_9 : Int) < (r_1.1.length : Int)) := by have := List.drop_eq_nil_iff.1 hl; omega
    have hkb := decide_eq_false hk
    rw [m_order_Width_v0n_L1.eq_1] at hm
    refine wseq ?_
    refine wregion ?_
    refine lv (v := (.bool (decide ((k_9 : Int) < (r_1.1.length : Int))))) rfl rfl (r_lss (k_9 : Int) (r_1.1.length : Int) rfl rfl) ?_
    refine lnil ?_
    refine wseq ?_
    refine wcondF (congrArg Value.bool hkb) ?_
    refine wexit (inB_hit ?_)
    refine wseq ?_
    refine wregion ?_
    refine lv (v := (.int .i64 most_13)) rfl rfl (r_move rfl) ?_
    refine lv (v := (.int .i64 (IntKind.i64.wrap (most_13 - 1)))) rfl rfl (r_sub most_13 1 rfl rfl) ?_
    refine lv (v := (.int .i64 r_1.2)) rfl rfl (r_move rfl) ?_
    refine lv (v := (.int .i64 (IntKind.i64.wrap (most_13 - 1)))) rfl rfl (r_assign rfl) ?_
    refine lv (v := (.int .i64 r_1.2)) rfl rfl (r_assign rfl) ?_
    refine lnil ?_
    refine wret ?_
    cases hm
    exact ⟨rfl, rfl, hst.below⟩
  | cons x_14 l_15 =>
    obtain ⟨hat, hl2, hlt⟩ := drop_get hl
    have hk : (k_9 : Int) < (r_1.1.length : Int) := by omega
    have hkb := decide_eq_true hk
    rw [m_order_Width_v0n_L1.eq_2] at hm
    refine wseq ?_
    refine wregion ?_
    refine lv (v := (.bool (decide ((k_9 : Int) < (r_1.1.length : Int))))) rfl rfl (r_lss (k_9 : Int) (r_1.1.length : Int) rfl rfl) ?_
    refine lnil ?_
    refine wseq ?_
    refine wcondT (congrArg Value.bool hkb) ?_
    refine wskip ?_
    refine wseq ?_
    refine wblock ?_
    refine wseq ?_
    refine wregion ?_
    refine lv (v := (sptr ra_3 (Int.toNat (k_9 : Int) * 1))) rfl rfl (r_idx Try.underlying33 Try.sizeOf22 rfl rfl (at?_some hat).1 (at?_some hat).2.1 (rh_5.addr hat)) ?_
    obtain ⟨_, hr_16, hA_17⟩ := rh_5.atN hat
    obtain ⟨a_18, cap_19, rfl, h_20⟩ := hr_16.row
    refine lv (v := (.slice a_18 x_14.length cap_19)) rfl rfl (r_ld Try.isAgg22 rfl hA_17.one) ?_
    refine lv (v := (.slice a_18 x_14.length cap_19)) rfl rfl (r_assign rfl) ?_
    refine lnil ?_
    refine wregion ?_
    refine lv (v := (.int .i64 most_13)) rfl rfl (r_move rfl) ?_
    refine lv (v := (.slice a_18 x_14.length cap_19)) rfl rfl (r_move rfl) ?_
    refine lv (v := (.int .i64 (x_14.length : Int))) rfl rfl (r_len Try.underlying22 rfl) ?_
    refine lv (v := (.int .i64 (if (x_14.length : Int) > most_13 then (x_14.length : Int) else most_13))) rfl rfl (r_max most_13 (x_14.length : Int) rfl rfl) ?_
    refine lv (v := (.int .i64 (if (x_14.length : Int) > most_13 then (x_14.length : Int) else most_13))) rfl rfl (r_assign rfl) ?_
    refine lnil ?_
    refine wregion ?_
    refine lv (v := (.int .i64 (IntKind.i64.wrap ((k_9 : Int) + 1)))) rfl rfl (r_add (k_9 : Int) 1 rfl rfl) ?_
    refine lv (v := (.int .i64 (IntKind.i64.wrap ((k_9 : Int) + 1)))) rfl rfl (r_move rfl) ?_
    refine lnil ?_
    exact ⟨l_15.length, by simp, ⟨col_12, (k_9 + 1), (if (x_14.length : Int) > most_13 then (x_14.length : Int) else most_13), l_15, rfl, hl2, hm, hst, rh_5, (congrArg (Value.int .i64) (wrap_succ (Nat.lt_of_lt_of_le hlt rh_5.len))), rfl, rfl, rfl, rfl, rfl⟩⟩




def m_credenceref15_Ints_L1 (N : Nat) (p0_a : (List Int)) (p1_b : (List Int)) : Nat → Int → Option Bool
  | 0, _ => none
  | n_1 + 1, i_4 => if (decide (i_4 < (p0_a.length : Int))) = true then ((at? p0_a i_4).bind fun e_5 => (at? p1_b i_4).bind fun e_7 => if (!decide (e_5 = e_7)) = true then (some false) else ((m_credenceref15_Ints_L1 N p0_a p1_b n_1) (IntKind.i64.wrap (i_4 + 1)))) else (some true)

def m_credenceref15_Ints (N : Nat) (p0_a : (List Int)) (p1_b : (List Int)) : Option Bool :=
  if (!decide ((p0_a.length : Int) = (p1_b.length : Int))) = true then (some false) else (m_credenceref15_Ints_L1 N p0_a p1_b N 0)

set_option maxRecDepth 100000 in
set_option maxHeartbeats 2000000 in
theorem c_credenceref15_Ints (N : Nat) (col : Col) (w0 : World) (a0 : Option Addr) (cap0 : Nat) (p0_a : (List Int)) (a1 : Option Addr) (cap1 : Nat) (p1_b : (List Int)) (h0 : Sl (Rep.int .i64) col w0 a0 cap0 p0_a) (h1 : Sl (Rep.int .i64) col w0 a1 cap1 p1_b) (r : Bool) (hm : m_credenceref15_Ints N p0_a p1_b = some r) :
    Calls Try.prog 36 #[(.slice a0 p0_a.length cap0), (.slice a1 p1_b.length cap1)] w0 (fun e w' => e = .returned ((.bool r)) ∧ Below w0.heap.size w0 w') := by
  refine calls_of1 4 (m := 26) (args := [(.slice a0 p0_a.length cap0), (.slice a1 p1_b.length cap1)]) Try.func36 rfl rfl rfl rfl rfl ?_
  rw [m_credenceref15_Ints.eq_1] at hm
  have hst := St.start col w0
  replace h0 := h0.keep (Stay.start col w0)
  replace h1 := h1.keep (Stay.start col w0)
  refine wseq ?_
  refine wregion ?_
  refine lv (v := (.bool false)) rfl rfl (r_assign rfl) ?_
  refine lnil ?_
  refine wseq ?_
  refine wseq ?_
  refine wregion ?_
  refine lv (v := (.slice a0 p0_a.length cap0)) rfl rfl (r_move rfl) ?_
  refine lv (v := (.int .i64 (p0_a.length : Int))) rfl rfl (r_len Try.underlying22 rfl) ?_
  refine lv (v := (.slice a1 p1_b.length cap1)) rfl rfl (r_move rfl) ?_
  refine lv (v := (.int .i64 (p1_b.length : Int))) rfl rfl (r_len Try.underlying22 rfl) ?_
  refine lv (v := (.bool (!decide ((p0_a.length : Int) = (p1_b.length : Int))))) rfl rfl (r_neq (p0_a.length : Int) (p1_b.length : Int) rfl rfl) ?_
  refine lnil ?_
  refine wcond (!decide ((p0_a.length : Int) = (p1_b.length : Int))) rfl (fun hb => ?_) (fun hb => ?_)
  · rw [if_pos hb] at hm
    clear hb
    refine wseq ?_
    refine wregion ?_
    refine lv (v := (.bool false)) rfl rfl (r_assign rfl) ?_
    refine lnil ?_
    refine wret ?_
    cases hm
    exact ⟨rfl, rfl, hst.below⟩
  · rw [if_neg (by rw [hb]; decide)] at hm
    clear hb
    refine wskip ?_
    refine wseq ?_
    refine wseq ?_
    refine wregion ?_
    refine lv (v := (.int .i64 0)) rfl rfl (r_assign rfl) ?_
    refine lnil ?_
    refine wblock ?_
    refine wloop (fun n f w_2 => ∃ (col_3 : Col) (i_4 : Int) (n_1 : Nat), n_1 = n ∧ m_credenceref15_Ints_L1 N p0_a p1_b n_1 i_4 = some r ∧ St w0 (col0 col) col_3 w_2 ∧ Sl (Rep.int .i64) col_3 w_2 a0 cap0 p0_a ∧ Sl (Rep.int .i64) col_3 w_2 a1 cap1 p1_b ∧ f 0 = (.slice a0 p0_a.length cap0) ∧ f 1 = (.slice a1 p1_b.length cap1) ∧ f 5 = (.int .i64 i_4) ∧ f 1000000 = (enc [])) N ⟨(col0 col), 0, N, rfl, hm, hst, h0, h1, rfl, rfl, rfl, rfl⟩ ?_
    clear hm; intro n f w_2 hI
    obtain ⟨col_3, i_4, n_1, hn, hm, hst, h0, h1, hs0, hs1, hs5, hs1000000⟩ := hI
    subst hn
    refine .ld (d := 0) (v := (.slice a0 p0_a.length cap0)) hs0 ?_
    refine .ld (d := 1) (v := (.slice a1 p1_b.length cap1)) hs1 ?_
    refine .ld (d := 5) (v := (.int .i64 i_4)) hs5 ?_
    refine .ld (d := 1000000) (v := (enc [])) hs1000000 ?_
    clear hs0 hs1 hs5 hs1000000
    cases n_1 with
    | zero => rw [m_credenceref15_Ints_L1.eq_1] at hm; cases hm
    | succ n_1 =>
      rw [m_credenceref15_Ints_L1.eq_2] at hm
      refine wseq ?_
      refine wseq ?_
      refine wregion ?_
      refine lv (v := (.int .i64 i_4)) rfl rfl (r_move rfl) ?_
      refine lv (v := (.slice a0 p0_a.length cap0)) rfl rfl (r_move rfl) ?_
      refine lv (v := (.int .i64 (p0_a.length : Int))) rfl rfl (r_len Try.underlying22 rfl) ?_
      refine lv (v := (.bool (decide (i_4 < (p0_a.length : Int))))) rfl rfl (r_lss i_4 (p0_a.length : Int) rfl rfl) ?_
      refine lnil ?_
      refine wcond (decide (i_4 < (p0_a.length : Int))) rfl (fun hb => ?_) (fun hb => ?_)
      · rw [if_pos hb] at hm
        clear hb
        refine wskip ?_
        refine wseq ?_
        refine wblock ?_
        refine wseq ?_
        refine wquiet (col := col_3) (by kernel_rfl) (by kernel_rfl) ?_
        refine qv (v := (.slice a0 p0_a.length cap0)) rfl (fun _ hC => r_move rfl) ?_
        refine qv (v := (.int .i64 i_4)) rfl (fun _ hC => r_move rfl) ?_
        obtain ⟨e_5, hj_6, hm⟩ := bind_some hm
        refine qv (v := (sptr a0 (Int.toNat i_4 * 1))) rfl (fun _ hC => r_idx Try.underlying22 Try.sizeOf3 rfl rfl (at?_some hj_6).1 (at?_some hj_6).2.1 (h0.addr hj_6)) ?_
        refine qv (v := (.int .i64 e_5)) rfl (fun _ hC => r_ld Try.isAgg3 rfl ((h0.gr (Grow.of_below (col := col_3) hC.below)).atInt hj_6)) ?_
        refine qv (v := (.slice a1 p1_b.length cap1)) rfl (fun _ hC => r_move rfl) ?_
        refine qv (v := (.int .i64 i_4)) rfl (fun _ hC => r_move rfl) ?_
        obtain ⟨e_7, hj_8, hm⟩ := bind_some hm
        refine qv (v := (sptr a1 (Int.toNat i_4 * 1))) rfl (fun _ hC => r_idx Try.underlying22 Try.sizeOf3 rfl rfl (at?_some hj_8).1 (at?_some hj_8).2.1 (h1.addr hj_8)) ?_
        refine qv (v := (.int .i64 e_7)) rfl (fun _ hC => r_ld Try.isAgg3 rfl ((h1.gr (Grow.of_below (col := col_3) hC.below)).atInt hj_8)) ?_
        refine qv (v := (.bool (!decide (e_5 = e_7)))) rfl (fun _ hC => r_neq e_5 e_7 rfl rfl) ?_
        refine qnil ?_
        intro w_9 hC
        replace hC : Grow col_3 w_2 col_3 w_9 := .of_below hC.below
        replace h0 := h0.gr hC
        replace h1 := h1.gr hC
        replace hst := hst.grow hC
        refine wcond (!decide (e_5 = e_7)) rfl (fun hb => ?_) (fun hb => ?_)
        · rw [if_pos hb] at hm
          clear hb
          refine wseq ?_
          refine wregion ?_
          refine lv (v := (.bool false)) rfl rfl (r_assign rfl) ?_
          refine lnil ?_
          refine wret ?_
          cases hm
          exact ⟨rfl, rfl, hst.below⟩
        · rw [if_neg (by rw [hb]; decide)] at hm
          clear hb
          refine wskip ?_
          refine wregion ?_
          refine lv (v := (.int .i64 i_4)) rfl rfl (r_move rfl) ?_
          refine lv (v := (.int .i64 (IntKind.i64.wrap (i_4 + 1)))) rfl rfl (r_add i_4 1 rfl rfl) ?_
          refine lv (v := (.int .i64 (IntKind.i64.wrap (i_4 + 1)))) rfl rfl (r_assign rfl) ?_
          refine lnil ?_
          exact ⟨n_1, by omega, ⟨col_3, (IntKind.i64.wrap (i_4 + 1)), n_1, rfl, hm, hst, h0, h1, rfl, rfl, rfl, rfl⟩⟩
      · rw [if_neg (by rw [hb]; decide)] at hm
        clear hb
        refine wexit (inB_hit ?_)
        refine wseq ?_
        refine wregion ?_
        refine lv (v := (.bool true)) rfl rfl (r_assign rfl) ?_
        refine lnil ?_
        refine wret ?_
        cases hm
        exact ⟨rfl, rfl, hst.below⟩




def m_slices_Equal_int_int_L1 (p1_s2 : (List Int)) : List Int → Nat → Option Bool
  | [], k_1 => some true
  | x_5 :: l_6, k_1 => (at? p1_s2 (k_1 : Int)).bind fun e_7 => if (!decide (x_5 = e_7)) = true then (some false) else ((m_slices_Equal_int_int_L1 p1_s2 l_6) (k_1 + 1))

def m_slices_Equal_int_int (p0_s1 : (List Int)) (p1_s2 : (List Int)) : Option Bool :=
  if (!decide ((p0_s1.length : Int) = (p1_s2.length : Int))) = true then (some false) else (m_slices_Equal_int_int_L1 p1_s2 p0_s1 0)

set_option maxRecDepth 100000 in
set_option maxHeartbeats 2000000 in
theorem c_slices_Equal_int_int (col : Col) (w0 : World) (a0 : Option Addr) (cap0 : Nat) (p0_s1 : (List Int)) (a1 : Option Addr) (cap1 : Nat) (p1_s2 : (List Int)) (h0 : Sl (Rep.int .i64) col w0 a0 cap0 p0_s1) (h1 : Sl (Rep.int .i64) col w0 a1 cap1 p1_s2) (r : Bool) (hm : m_slices_Equal_int_int p0_s1 p1_s2 = some r) :
    Calls Try.prog 81 #[(.slice a0 p0_s1.length cap0), (.slice a1 p1_s2.length cap1)] w0 (fun e w' => e = .returned ((.bool r)) ∧ Below w0.heap.size w0 w') := by
  refine calls_of1 4 (m := 26) (args := [(.slice a0 p0_s1.length cap0), (.slice a1 p1_s2.length cap1)]) Try.func81 rfl rfl rfl rfl rfl ?_
  rw [m_slices_Equal_int_int.eq_1] at hm
  have hst := St.start col w0
  replace h0 := h0.keep (Stay.start col w0)
  replace h1 := h1.keep (Stay.start col w0)
  refine wseq ?_
  refine wregion ?_
  refine lv (v := (.bool false)) rfl rfl (r_assign rfl) ?_
  refine lnil ?_
  refine wseq ?_
  refine wseq ?_
  refine wregion ?_
  refine lv (v := (.slice a0 p0_s1.length cap0)) rfl rfl (r_move rfl) ?_
  refine lv (v := (.int .i64 (p0_s1.length : Int))) rfl rfl (r_len Try.underlying22 rfl) ?_
  refine lv (v := (.slice a1 p1_s2.length cap1)) rfl rfl (r_move rfl) ?_
  refine lv (v := (.int .i64 (p1_s2.length : Int))) rfl rfl (r_len Try.underlying22 rfl) ?_
  refine lv (v := (.bool (!decide ((p0_s1.length : Int) = (p1_s2.length : Int))))) rfl rfl (r_neq (p0_s1.length : Int) (p1_s2.length : Int) rfl rfl) ?_
  refine lnil ?_
  refine wcond (!decide ((p0_s1.length : Int) = (p1_s2.length : Int))) rfl (fun hb => ?_) (fun hb => ?_)
  · rw [if_pos hb] at hm
    clear hb
    refine wseq ?_
    refine wregion ?_
    refine lv (v := (.bool false)) rfl rfl (r_assign rfl) ?_
    refine lnil ?_
    refine wret ?_
    cases hm
    exact ⟨rfl, rfl, hst.below⟩
  · rw [if_neg (by rw [hb]; decide)] at hm
    clear hb
    refine wskip ?_
    refine wseq ?_
    refine wseq ?_
    refine wregion ?_
    refine lv (v := (.slice a0 p0_s1.length cap0)) rfl rfl (r_move rfl) ?_
    refine lv (v := (.int .i64 (p0_s1.length : Int))) rfl rfl (r_len Try.underlying22 rfl) ?_
    refine lv (v := (.int .i64 0)) rfl rfl (r_move rfl) ?_
    refine lnil ?_
    refine wblock ?_
    refine wloop (fun n f w_3 => ∃ (col_4 : Col) (k_1 : Nat) (l_2 : List Int), n = l_2.length ∧ p0_s1.drop k_1 = l_2 ∧ m_slices_Equal_int_int_L1 p1_s2 l_2 k_1 = some r ∧ St w0 (col0 col) col_4 w_3 ∧ Sl (Rep.int .i64) col_4 w_3 a0 cap0 p0_s1 ∧ Sl (Rep.int .i64) col_4 w_3 a1 cap1 p1_s2 ∧ f 13 = (.int .i64 (k_1 : Int)) ∧ f 0 = (.slice a0 p0_s1.length cap0) ∧ f 1 = (.slice a1 p1_s2.length cap1) ∧ f 12 = (.int .i64 (p0_s1.length : Int)) ∧ f 1000000 = (enc [])) p0_s1.length ⟨(col0 col), 0, p0_s1, rfl, rfl, hm, hst, h0, h1, rfl, rfl, rfl, rfl, rfl⟩ ?_
    clear hm; intro n f w_3 hI
    obtain ⟨col_4, k_1, l_2, hn, hl, hm, hst, h0, h1, hs13, hs0, hs1, hs12, hs1000000⟩ := hI
    subst hn
    refine .ld (d := 13) (v := (.int .i64 (k_1 : Int))) hs13 ?_
    refine .ld (d := 0) (v := (.slice a0 p0_s1.length cap0)) hs0 ?_
    refine .ld (d := 1) (v := (.slice a1 p1_s2.length cap1)) hs1 ?_
    refine .ld (d := 12) (v := (.int .i64 (p0_s1.length : Int))) hs12 ?_
    refine .ld (d := 1000000) (v := (enc [])) hs1000000 ?_
    clear hs13 hs0 hs1 hs12 hs1000000
    cases l_2 with
    | nil =>
      have hk : ¬ ((k_1 : Int) < (p0_s1.length : Int)) := by have := List.drop_eq_nil_iff.1 hl; omega
      have hkb := decide_eq_false hk
      rw [m_slices_Equal_int_int_L1.eq_1] at hm
      refine wseq ?_
      refine wregion ?_
      refine lv (v := (.bool (decide ((k_1 : Int) < (p0_s1.length : Int))))) rfl rfl (r_lss (k_1 : Int) (p0_s1.length : Int) rfl rfl) ?_
      refine lnil ?_
      refine wseq ?_
      refine wcondF (congrArg Value.bool hkb) ?_
      refine wexit (inB_hit ?_)
      refine wseq ?_
      refine wregion ?_
      refine lv (v := (.bool true)) rfl rfl (r_assign rfl) ?_
      refine lnil ?_
      refine wret ?_
      cases hm
      exact ⟨rfl, rfl, hst.below⟩
    | cons x_5 l_6 =>
      obtain ⟨hat, hl2, hlt⟩ := drop_get hl
      have hk : (k_1 : Int) < (p0_s1.length : Int) := by omega
      have hkb := decide_eq_true hk
      rw [m_slices_Equal_int_int_L1.eq_2] at hm
      refine wseq ?_
      refine wregion ?_
      refine lv (v := (.bool (decide ((k_1 : Int) < (p0_s1.length : Int))))) rfl rfl (r_lss (k_1 : Int) (p0_s1.length : Int) rfl rfl) ?_
      refine lnil ?_
      refine wseq ?_
      refine wcondT (congrArg Value.bool hkb) ?_
      refine wskip ?_
      refine wseq ?_
      refine wblock ?_
      refine wseq ?_
      refine wregion ?_
      refine lv (v := (.int .i64 (k_1 : Int))) rfl rfl (r_move rfl) ?_
      refine lv (v := (.int .i64 (k_1 : Int))) rfl rfl (r_assign rfl) ?_
      refine lnil ?_
      refine wseq ?_
      refine wquiet (col := col_4) (by kernel_rfl) (by kernel_rfl) ?_
      refine qv (v := (.slice a0 p0_s1.length cap0)) rfl (fun _ hC => r_move rfl) ?_
      refine qv (v := (.int .i64 (k_1 : Int))) rfl (fun _ hC => r_move rfl) ?_
      refine qv (v := (sptr a0 (Int.toNat (k_1 : Int) * 1))) rfl (fun _ hC => r_idx Try.underlying22 Try.sizeOf3 rfl rfl (at?_some hat).1 (at?_some hat).2.1 (h0.addr hat)) ?_
      refine qv (v := (.int .i64 x_5)) rfl (fun _ hC => r_ld Try.isAgg3 rfl ((h0.gr (Grow.of_below (col := col_4) hC.below)).atInt hat)) ?_
      refine qv (v := (.slice a1 p1_s2.length cap1)) rfl (fun _ hC => r_move rfl) ?_
      refine qv (v := (.int .i64 (k_1 : Int))) rfl (fun _ hC => r_move rfl) ?_
      obtain ⟨e_7, hj_8, hm⟩ := bind_some hm
      refine qv (v := (sptr a1 (Int.toNat (k_1 : Int) * 1))) rfl (fun _ hC => r_idx Try.underlying22 Try.sizeOf3 rfl rfl (at?_some hj_8).1 (at?_some hj_8).2.1 (h1.addr hj_8)) ?_
      refine qv (v := (.int .i64 e_7)) rfl (fun _ hC => r_ld Try.isAgg3 rfl ((h1.gr (Grow.of_below (col := col_4) hC.below)).atInt hj_8)) ?_
      refine qv (v := (.bool (!decide (x_5 = e_7)))) rfl (fun _ hC => r_neq x_5 e_7 rfl rfl) ?_
      refine qnil ?_
      intro w_9 hC
      replace hC : Grow col_4 w_3 col_4 w_9 := .of_below hC.below
      replace h0 := h0.gr hC
      replace h1 := h1.gr hC
      replace hst := hst.grow hC
      refine wcond (!decide (x_5 = e_7)) rfl (fun hb => ?_) (fun hb => ?_)
      · rw [if_pos hb] at hm
        clear hb
        refine wseq ?_
        refine wregion ?_
        refine lv (v := (.bool false)) rfl rfl (r_assign rfl) ?_
        refine lnil ?_
        refine wret ?_
        cases hm
        exact ⟨rfl, rfl, hst.below⟩
      · rw [if_neg (by rw [hb]; decide)] at hm
        clear hb
        refine wskip ?_
        refine wregion ?_
        refine lv (v := (.int .i64 (IntKind.i64.wrap ((k_1 : Int) + 1)))) rfl rfl (r_add (k_1 : Int) 1 rfl rfl) ?_
        refine lv (v := (.int .i64 (IntKind.i64.wrap ((k_1 : Int) + 1)))) rfl rfl (r_move rfl) ?_
        refine lnil ?_
        exact ⟨l_6.length, by simp, ⟨col_4, (k_1 + 1), l_6, rfl, hl2, hm, hst, h0, h1, (congrArg (Value.int .i64) (wrap_succ (Nat.lt_of_lt_of_le hlt h0.1.1))), rfl, rfl, rfl, rfl⟩⟩




def m_order_Check_J1 (v_59 : Bool) : Option Int :=
  if v_59 = true then (some 51) else (some 0)

def m_order_Check (p0_order : (List Int)) (p1_points : (List Int)) : Option Int :=
  (m_slices_Values_int_int p0_order).bind fun r_1 => (m_slices_Sorted_int r_1).bind fun r_8 => (m_slices_Values_int_int p1_points).bind fun r_16 => (m_slices_Sorted_int r_16).bind fun r_23 => (m_slices_Equal_int_int r_8 r_23).bind fun r_60 => if (!r_60) = true then (m_order_Check_J1 true) else ((lib_compact r_8).bind fun r_65 => m_order_Check_J1 (!decide ((r_65.length : Int) = (r_23.length : Int))))

set_option maxRecDepth 100000 in
set_option maxHeartbeats 2000000 in
theorem c_order_Check (col : Col) (w0 : World) (a0 : Option Addr) (cap0 : Nat) (p0_order : (List Int)) (a1 : Option Addr) (cap1 : Nat) (p1_points : (List Int)) (h0 : Sl (Rep.int .i64) col w0 a0 cap0 p0_order) (h1 : Sl (Rep.int .i64) col w0 a1 cap1 p1_points) (r : Int) (hm : m_order_Check p0_order p1_points = some r) :
    Calls Try.prog 45 #[(.slice a0 p0_order.length cap0), (.slice a1 p1_points.length cap1)] w0 (fun e w' => e = .returned ((.int .i64 r)) ∧ Below w0.heap.size w0 w') := by
  refine calls_of1 4 (m := 25) (args := [(.slice a0 p0_order.length cap0), (.slice a1 p1_points.length cap1)]) Try.func45 rfl rfl rfl rfl rfl ?_
  rw [m_order_Check.eq_1] at hm
  have hst := St.start col w0
  replace h0 := h0.keep (Stay.start col w0)
  replace h1 := h1.keep (Stay.start col w0)
  refine wseq ?_
  refine wregion ?_
  refine lv (v := (.int .i64 0)) rfl rfl (r_assign rfl) ?_
  refine lnil ?_
  refine wseq ?_
  refine wregion ?_
  refine lv (v := (.slice a0 p0_order.length cap0)) rfl rfl (r_move rfl) ?_
  obtain ⟨r_1, hr_2, hm⟩ := bind_some hm
  refine lc rfl rfl (r_call1 Try.call80 rfl) (c_slices_Values_int_int (col0 col) _ a0 cap0 p0_order h0 r_1 hr_2) ?_
  rintro _ w_5 ⟨col_7, rv_3, rfl, hg_6, rh_4⟩
  refine ⟨_, rfl, ?_⟩
  replace h1 := h1.gr hg_6
  replace h0 := h0.gr hg_6
  replace hst := hst.grow hg_6
  obtain ⟨r_8, hr_9, hm⟩ := bind_some hm
  refine lc rfl rfl (r_call1 Try.call55 rfl) (c_slices_Sorted_int 1 col_7 _ rv_3 r_1 rh_4 r_8 hr_9) ?_
  rintro _ w_13 ⟨col_15, ra_10, rc_11, rfl, hg_14, rh_12⟩
  refine ⟨_, rfl, ?_⟩
  replace h1 := h1.gr hg_14
  replace rh_4 := rh_4.gr hg_14
  replace hst := hst.grow hg_14
  refine lv (v := (.slice a1 p1_points.length cap1)) rfl rfl (r_move rfl) ?_
  obtain ⟨r_16, hr_17, hm⟩ := bind_some hm
  refine lc rfl rfl (r_call1 Try.call80 rfl) (c_slices_Values_int_int col_15 _ a1 cap1 p1_points h1 r_16 hr_17) ?_
  rintro _ w_20 ⟨col_22, rv_18, rfl, hg_21, rh_19⟩
  refine ⟨_, rfl, ?_⟩
  replace rh_12 := rh_12.gr hg_21
  replace h1 := h1.gr hg_21
  replace hst := hst.grow hg_21
  obtain ⟨r_23, hr_24, hm⟩ := bind_some hm
  refine lc rfl rfl (r_call1 Try.call55 rfl) (c_slices_Sorted_int 2 col_22 _ rv_18 r_16 rh_19 r_23 hr_24) ?_
  rintro _ w_28 ⟨col_30, ra_25, rc_26, rfl, hg_29, rh_27⟩
  refine ⟨_, rfl, ?_⟩
  replace rh_12 := rh_12.gr hg_29
  replace rh_19 := rh_19.gr hg_29
  replace hst := hst.grow hg_29
  refine lv (v := (.slice ra_10 r_8.length rc_11)) rfl rfl (r_assign rfl) ?_
  refine lv (v := (.slice ra_25 r_23.length rc_26)) rfl rfl (r_assign rfl) ?_
  refine lnil ?_
  refine wseq ?_
  refine wseq ?_
  refine Wp.cut (fun f w_57 => ∃ (col_58 : Col) (v_59 : Bool), m_order_Check_J1 v_59 = some r ∧ St w0 (col0 col) col_58 w_57 ∧ f 24 = (.bool v_59) ∧ f 1000000 = (enc [])) ?_ ?_
  · intro f w_57 hJ
    obtain ⟨col_58, v_59, hm, hst, hs24, hs1000000⟩ := hJ
    rw [m_order_Check_J1.eq_1] at hm
    refine .ld (d := 24) (v := (.bool v_59)) hs24 ?_
    refine .ld (d := 1000000) (v := (enc [])) hs1000000 ?_
    clear hs24 hs1000000
    refine wcond (v_59) rfl (fun hb => ?_) (fun hb => ?_)
    · rw [if_pos hb] at hm
      clear hb
      refine wseq ?_
      refine wregion ?_
      refine lv (v := (.int .i64 51)) rfl rfl (r_assign rfl) ?_
      refine lnil ?_
      refine wret ?_
      cases hm
      exact ⟨rfl, rfl, hst.below⟩
    · rw [if_neg (by rw [hb]; decide)] at hm
      clear hb
      refine wskip ?_
      refine wseq ?_
      refine wregion ?_
      refine lv (v := (.int .i64 0)) rfl rfl (r_assign rfl) ?_
      refine lnil ?_
      refine wret ?_
      cases hm
      exact ⟨rfl, rfl, hst.below⟩
  · refine wregion ?_
    refine lv (v := (.slice ra_10 r_8.length rc_11)) rfl rfl (r_move rfl) ?_
    refine lv (v := (.slice ra_25 r_23.length rc_26)) rfl rfl (r_move rfl) ?_
    obtain ⟨r_60, hr_61, hm⟩ := bind_some hm
    refine lc rfl rfl (r_call2 Try.call81 rfl rfl) (c_slices_Equal_int_int (frC 2 (frC 1 col_30)) _ ra_10 rc_11 r_8 ra_25 rc_26 r_23 ((rh_12.toSlF (Froz.int .i64)).froz 2) ((rh_27.froz 1 (by decide)).toSlF (Froz.int .i64)) r_60 hr_61) ?_
    rintro _ w_62 ⟨rfl, hg_63⟩
    refine ⟨_, rfl, ?_⟩
    replace hg_63 : Grow col_30 w_28 col_30 w_62 := .of_below hg_63
    replace rh_12 := rh_12.gr hg_63
    replace rh_27 := rh_27.gr hg_63
    replace hst := hst.grow hg_63
    refine lv (v := (.bool (!r_60))) rfl rfl (r_not r_60 rfl) ?_
    refine lv (v := (.bool (!r_60))) rfl rfl (r_move rfl) ?_
    by_cases hg_64 : (!r_60) = true
    · rw [if_pos hg_64] at hm
      refine lp (b := !r_60) 17 rfl rfl rfl rfl (by rw [hg_64]; rfl) ?_
      refine lp (b := !r_60) 17 rfl rfl rfl rfl (by rw [hg_64]; rfl) ?_
      refine lp (b := !r_60) 17 rfl rfl rfl rfl (by rw [hg_64]; rfl) ?_
      refine lp (b := !r_60) 17 rfl rfl rfl rfl (by rw [hg_64]; rfl) ?_
      refine lp (b := !r_60) 17 rfl rfl rfl rfl (by rw [hg_64]; rfl) ?_
      refine lp (b := !r_60) 17 rfl rfl rfl rfl (by rw [hg_64]; rfl) ?_
      refine lv (v := (.bool true)) rfl rfl (r_pickT (congrArg Value.bool hg_64) rfl) ?_
      refine lnil ?_
      exact ⟨col_30, true, hm, hst, rfl, rfl⟩
    · rw [if_neg hg_64] at hm
      replace hg_64 := Bool.eq_false_iff.2 hg_64
      refine lg (b := !r_60) 17 rfl rfl rfl (by rw [hg_64]; rfl) ?_
      refine lv (v := (.slice ra_10 r_8.length rc_11)) rfl rfl (r_move rfl) ?_
      refine lg (b := !r_60) 17 rfl rfl rfl (by rw [hg_64]; rfl) ?_
      obtain ⟨r_65, hr_66, hm⟩ := bind_some hm
      refine lc rfl rfl (r_call1 Try.call82 rfl) (c_compact 1 (by decide) col_30 _ ra_10 rc_11 r_8 rh_12 r_65 hr_66) ?_
      rintro _ w_67 ⟨col_68, a_69, cap_70, rfl, hk_71, h_72⟩
      refine ⟨_, rfl, ?_⟩
      replace rh_27 := rh_27.kpp hk_71 rfl rfl
      replace hst := hst.kpp hk_71 rfl rfl
      clear rh_12
      refine lg (b := !r_60) 17 rfl rfl rfl (by rw [hg_64]; rfl) ?_
      refine lv (v := (.int .i64 (r_65.length : Int))) rfl rfl (r_len Try.underlying22 rfl) ?_
      refine lg (b := !r_60) 17 rfl rfl rfl (by rw [hg_64]; rfl) ?_
      refine lv (v := (.slice ra_25 r_23.length rc_26)) rfl rfl (r_move rfl) ?_
      refine lg (b := !r_60) 17 rfl rfl rfl (by rw [hg_64]; rfl) ?_
      refine lv (v := (.int .i64 (r_23.length : Int))) rfl rfl (r_len Try.underlying22 rfl) ?_
      refine lg (b := !r_60) 17 rfl rfl rfl (by rw [hg_64]; rfl) ?_
      refine lv (v := (.bool (!decide ((r_65.length : Int) = (r_23.length : Int))))) rfl rfl (r_neq (r_65.length : Int) (r_23.length : Int) rfl rfl) ?_
      refine lv (v := (.bool (!decide ((r_65.length : Int) = (r_23.length : Int))))) rfl rfl (r_pickF (congrArg Value.bool hg_64) rfl) ?_
      refine lnil ?_
      exact ⟨col_68, (!decide ((r_65.length : Int) = (r_23.length : Int))), hm, hst, rfl, rfl⟩




def m_graph_Graph_Len (p0_g : List (List Bool)) : Option Int :=
  some (p0_g.length : Int)

set_option maxRecDepth 100000 in
set_option maxHeartbeats 2000000 in
theorem c_graph_Graph_Len (col : Col) (w0 : World) (qc0 : Nat) (hqqc0 : qc0 ≠ 0) (o0 : GObj) (p0_g : List (List Bool)) (h0 : GO 85 86 qc0 col w0 o0 p0_g) (r : Int) (hm : m_graph_Graph_Len p0_g = some r) :
    Calls Try.prog 15 #[(.pointer (some ⟨o0.g, 0, none⟩))] w0 (fun e w' => e = .returned ((.int .i64 r)) ∧ Below w0.heap.size w0 w') := by
  refine calls_of1 2 (m := 8) (args := [(.pointer (some ⟨o0.g, 0, none⟩))]) Try.func15 rfl rfl rfl rfl rfl ?_
  rw [m_graph_Graph_Len.eq_1] at hm
  have hst := St.start col w0
  replace h0 := h0.start0 hqqc0
  refine wseq ?_
  refine wregion ?_
  refine lv (v := (.int .i64 0)) rfl rfl (r_assign rfl) ?_
  refine lnil ?_
  refine wseq ?_
  refine wregion ?_
  refine lv (v := (.pointer (some ⟨o0.g, 0, none⟩))) rfl rfl (r_move rfl) ?_
  refine lv (v := (.pointer (some ⟨o0.g, 0, none⟩))) rfl rfl (r_nilCheck rfl) ?_
  refine lv (v := (.pointer ((some (⟨o0.g, 0, none⟩ : Addr)).map (·.add 0)))) rfl rfl (r_fieldAddr (sz := 1) (off := 0) Try.underlying85 rfl Try.sizeOf83 (by decide) rfl rfl ⟨_, _, rfl⟩) ?_
  refine lv (v := (.slice o0.a p0_g.length o0.cap)) rfl rfl (r_ld Try.isAgg83 rfl ((h0.box.atN).nth (q := 0) (v := (.slice o0.a p0_g.length o0.cap)) rfl)) ?_
  refine lv (v := (.int .i64 (p0_g.length : Int))) rfl rfl (r_len Try.underlying83 rfl) ?_
  refine lv (v := (.int .i64 (p0_g.length : Int))) rfl rfl (r_assign rfl) ?_
  refine lnil ?_
  refine wret ?_
  cases hm
  exact ⟨rfl, rfl, hst.below⟩




def m_order_wrong_J1 (kk_L1 : (Option Int)) (v_42 : Bool) : Option Int :=
  if v_42 = true then (some 3) else kk_L1

def m_order_wrong_L1 (p0_g : List (List Bool)) (p1_l : (List Int)) : List Int → Option Int
  | [] => (m_slices_Values_int_int p1_l).bind fun r_7 => (m_slices_Sorted_int r_7).bind fun r_14 => (lib_compact r_14).bind fun r_22 => if (!decide ((r_22.length : Int) = (p1_l.length : Int))) = true then (some 40) else (some 0)
  | x_5 :: l_6 => if (decide (x_5 < 0)) = true then (m_order_wrong_J1 (m_order_wrong_L1 p0_g p1_l l_6) true) else ((m_graph_Graph_Len p0_g).bind fun r_44 => m_order_wrong_J1 (m_order_wrong_L1 p0_g p1_l l_6) (decide (r_44 ≤ x_5)))

def m_order_wrong (p0_g : List (List Bool)) (p1_l : (List Int)) : Option Int :=
  m_order_wrong_L1 p0_g p1_l p1_l 

set_option maxRecDepth 100000 in
set_option maxHeartbeats 2000000 in
theorem c_order_wrong (col : Col) (w0 : World) (qc0 : Nat) (hqqc0 : qc0 ≠ 0) (o0 : GObj) (p0_g : List (List Bool)) (a1 : Option Addr) (cap1 : Nat) (p1_l : (List Int)) (h0 : GO 85 86 qc0 col w0 o0 p0_g) (h1 : Sl (Rep.int .i64) col w0 a1 cap1 p1_l) (r : Int) (hm : m_order_wrong p0_g p1_l = some r) :
    Calls Try.prog 75 #[(.pointer (some ⟨o0.g, 0, none⟩)), (.slice a1 p1_l.length cap1)] w0 (fun e w' => e = .returned ((.int .i64 r)) ∧ Below w0.heap.size w0 w') := by
  refine calls_of1 4 (m := 32) (args := [(.pointer (some ⟨o0.g, 0, none⟩)), (.slice a1 p1_l.length cap1)]) Try.func75 rfl rfl rfl rfl rfl ?_
  rw [m_order_wrong.eq_1] at hm
  have hst := St.start col w0
  replace h0 := h0.start0 hqqc0
  replace h1 := h1.keep (Stay.start col w0)
  refine wseq ?_
  refine wregion ?_
  refine lv (v := (.int .i64 0)) rfl rfl (r_assign rfl) ?_
  refine lnil ?_
  refine wseq ?_
  refine wseq ?_
  refine wregion ?_
  refine lv (v := (.pointer (some ⟨o0.g, 0, none⟩))) rfl rfl (r_move rfl) ?_
  refine lv (v := (.bool false)) rfl rfl (r_eqlP1 ⟨_, Try.underlying24⟩ rfl rfl) ?_
  refine lnil ?_
  refine wcondF rfl ?_
  refine wskip ?_
  refine wseq ?_
  refine wseq ?_
  refine wregion ?_
  refine lv (v := (.slice a1 p1_l.length cap1)) rfl rfl (r_move rfl) ?_
  refine lv (v := (.int .i64 (p1_l.length : Int))) rfl rfl (r_len Try.underlying22 rfl) ?_
  refine lv (v := (.int .i64 0)) rfl rfl (r_move rfl) ?_
  refine lnil ?_
  refine wblock ?_
  refine wloop (fun n f w_3 => ∃ (col_4 : Col) (k_1 : Nat) (l_2 : List Int), n = l_2.length ∧ p1_l.drop k_1 = l_2 ∧ m_order_wrong_L1 p0_g p1_l l_2  = some r ∧ St w0 (col0 col) col_4 w_3 ∧ GO 85 86 999 col_4 w_3 o0 p0_g ∧ Sl (Rep.int .i64) col_4 w_3 a1 cap1 p1_l ∧ f 11 = (.int .i64 (k_1 : Int)) ∧ f 0 = (.pointer (some ⟨o0.g, 0, none⟩)) ∧ f 1 = (.slice a1 p1_l.length cap1) ∧ f 10 = (.int .i64 (p1_l.length : Int)) ∧ f 9 = (.slice a1 p1_l.length cap1) ∧ f 1000000 = (enc [])) p1_l.length ⟨(col0 col), 0, p1_l, rfl, rfl, hm, hst, h0, h1, rfl, rfl, rfl, rfl, rfl, rfl⟩ ?_
  clear hm; intro n f w_3 hI
  obtain ⟨col_4, k_1, l_2, hn, hl, hm, hst, h0, h1, hs11, hs0, hs1, hs10, hs9, hs1000000⟩ := hI
  subst hn
  refine .ld (d := 11) (v := (.int .i64 (k_1 : Int))) hs11 ?_
  refine .ld (d := 0) (v := (.pointer (some ⟨o0.g, 0, none⟩))) hs0 ?_
  refine .ld (d := 1) (v := (.slice a1 p1_l.length cap1)) hs1 ?_
  refine .ld (d := 10) (v := (.int .i64 (p1_l.length : Int))) hs10 ?_
  refine .ld (d := 9) (v := (.slice a1 p1_l.length cap1)) hs9 ?_
  refine .ld (d := 1000000) (v := (enc [])) hs1000000 ?_
  clear hs11 hs0 hs1 hs10 hs9 hs1000000
  cases l_2 with
  | nil =>
    have hk : ¬ ((k_1 : Int) < (p1_l.length : Int)) := by have := List.drop_eq_nil_iff.1 hl; omega
    have hkb := decide_eq_false hk
    rw [m_order_wrong_L1.eq_1] at hm
    refine wseq ?_
    refine wregion ?_
    refine lv (v := (.bool (decide ((k_1 : Int) < (p1_l.length : Int))))) rfl rfl (r_lss (k_1 : Int) (p1_l.length : Int) rfl rfl) ?_
    refine lnil ?_
    refine wseq ?_
    refine wcondF (congrArg Value.bool hkb) ?_
    refine wexit (inB_hit ?_)
    refine wseq ?_
    refine wseq ?_
    refine wregion ?_
    refine lv (v := (.slice a1 p1_l.length cap1)) rfl rfl (r_move rfl) ?_
    obtain ⟨r_7, hr_8, hm⟩ := bind_some hm
    refine lc rfl rfl (r_call1 Try.call80 rfl) (c_slices_Values_int_int col_4 _ a1 cap1 p1_l h1 r_7 hr_8) ?_
    rintro _ w_11 ⟨col_13, rv_9, rfl, hg_12, rh_10⟩
    refine ⟨_, rfl, ?_⟩
    replace h1 := h1.gr hg_12
    replace hst := hst.grow hg_12
    obtain ⟨r_14, hr_15, hm⟩ := bind_some hm
    refine lc rfl rfl (r_call1 Try.call55 rfl) (c_slices_Sorted_int 1 col_13 _ rv_9 r_7 rh_10 r_14 hr_15) ?_
    rintro _ w_19 ⟨col_21, ra_16, rc_17, rfl, hg_20, rh_18⟩
    refine ⟨_, rfl, ?_⟩
    replace h1 := h1.gr hg_20
    replace rh_10 := rh_10.gr hg_20
    replace hst := hst.grow hg_20
    obtain ⟨r_22, hr_23, hm⟩ := bind_some hm
    refine lc rfl rfl (r_call1 Try.call82 rfl) (c_compact 1 (by decide) col_21 _ ra_16 rc_17 r_14 rh_18 r_22 hr_23) ?_
    rintro _ w_24 ⟨col_25, a_26, cap_27, rfl, hk_28, h_29⟩
    refine ⟨_, rfl, ?_⟩
    replace h1 := h1.kpp hk_28 rfl
    replace hst := hst.kpp hk_28 rfl rfl
    clear rh_18
    refine lv (v := (.int .i64 (r_22.length : Int))) rfl rfl (r_len Try.underlying22 rfl) ?_
    refine lv (v := (.slice a1 p1_l.length cap1)) rfl rfl (r_move rfl) ?_
    refine lv (v := (.int .i64 (p1_l.length : Int))) rfl rfl (r_len Try.underlying22 rfl) ?_
    refine lv (v := (.bool (!decide ((r_22.length : Int) = (p1_l.length : Int))))) rfl rfl (r_neq (r_22.length : Int) (p1_l.length : Int) rfl rfl) ?_
    refine lnil ?_
    refine wcond (!decide ((r_22.length : Int) = (p1_l.length : Int))) rfl (fun hb => ?_) (fun hb => ?_)
    · rw [if_pos hb] at hm
      clear hb
      refine wseq ?_
      refine wregion ?_
      refine lv (v := (.int .i64 40)) rfl rfl (r_assign rfl) ?_
      refine lnil ?_
      refine wret ?_
      cases hm
      exact ⟨rfl, rfl, hst.below⟩
    · rw [if_neg (by rw [hb]; decide)] at hm
      clear hb
      refine wskip ?_
      refine wseq ?_
      refine wregion ?_
      refine lv (v := (.int .i64 0)) rfl rfl (r_assign rfl) ?_
      refine lnil ?_
      refine wret ?_
      cases hm
      exact ⟨rfl, rfl, hst.below⟩
  | cons x_5 l_6 =>
    obtain ⟨hat, hl2, hlt⟩ := drop_get hl
    have hk : (k_1 : Int) < (p1_l.length : Int) := by omega
    have hkb := decide_eq_true hk
    rw [m_order_wrong_L1.eq_2] at hm
    refine wseq ?_
    refine wregion ?_
    refine lv (v := (.bool (decide ((k_1 : Int) < (p1_l.length : Int))))) rfl rfl (r_lss (k_1 : Int) (p1_l.length : Int) rfl rfl) ?_
    refine lnil ?_
    refine wseq ?_
    refine wcondT (congrArg Value.bool hkb) ?_
    refine wskip ?_
    refine wseq ?_
    refine wblock ?_
    refine wseq ?_
    refine wregion ?_
    refine lv (v := (sptr a1 (Int.toNat (k_1 : Int) * 1))) rfl rfl (r_idx Try.underlying22 Try.sizeOf3 rfl rfl (at?_some hat).1 (at?_some hat).2.1 (h1.addr hat)) ?_
    refine lv (v := (.int .i64 x_5)) rfl rfl (r_ld Try.isAgg3 rfl (h1.atInt hat)) ?_
    refine lv (v := (.int .i64 x_5)) rfl rfl (r_assign rfl) ?_
    refine lnil ?_
    refine wseq ?_
    refine Wp.cut (fun f w_40 => ∃ (col_41 : Col) (v_42 : Bool), m_order_wrong_J1 (m_order_wrong_L1 p0_g p1_l l_6) v_42 = some r ∧ St w0 (col0 col) col_41 w_40 ∧ GO 85 86 999 col_41 w_40 o0 p0_g ∧ Sl (Rep.int .i64) col_41 w_40 a1 cap1 p1_l ∧ f 0 = (.pointer (some ⟨o0.g, 0, none⟩)) ∧ f 1 = (.slice a1 p1_l.length cap1) ∧ f 10 = (.int .i64 (p1_l.length : Int)) ∧ f 11 = (.int .i64 (k_1 : Int)) ∧ f 22 = (.bool v_42) ∧ f 9 = (.slice a1 p1_l.length cap1) ∧ f 1000000 = (enc [])) ?_ ?_
    · intro f w_40 hJ
      obtain ⟨col_41, v_42, hm, hst, h0, h1, hs0, hs1, hs10, hs11, hs22, hs9, hs1000000⟩ := hJ
      rw [m_order_wrong_J1.eq_1] at hm
      refine .ld (d := 0) (v := (.pointer (some ⟨o0.g, 0, none⟩))) hs0 ?_
      refine .ld (d := 1) (v := (.slice a1 p1_l.length cap1)) hs1 ?_
      refine .ld (d := 10) (v := (.int .i64 (p1_l.length : Int))) hs10 ?_
      refine .ld (d := 11) (v := (.int .i64 (k_1 : Int))) hs11 ?_
      refine .ld (d := 22) (v := (.bool v_42)) hs22 ?_
      refine .ld (d := 9) (v := (.slice a1 p1_l.length cap1)) hs9 ?_
      refine .ld (d := 1000000) (v := (enc [])) hs1000000 ?_
      clear hs0 hs1 hs10 hs11 hs22 hs9 hs1000000
      refine wcond (v_42) rfl (fun hb => ?_) (fun hb => ?_)
      · rw [if_pos hb] at hm
        clear hb
        refine wseq ?_
        refine wregion ?_
        refine lv (v := (.int .i64 3)) rfl rfl (r_assign rfl) ?_
        refine lnil ?_
        refine wret ?_
        cases hm
        exact ⟨rfl, rfl, hst.below⟩
      · rw [if_neg (by rw [hb]; decide)] at hm
        clear hb
        refine wskip ?_
        refine wregion ?_
        refine lv (v := (.int .i64 (IntKind.i64.wrap ((k_1 : Int) + 1)))) rfl rfl (r_add (k_1 : Int) 1 rfl rfl) ?_
        refine lv (v := (.int .i64 (IntKind.i64.wrap ((k_1 : Int) + 1)))) rfl rfl (r_move rfl) ?_
        refine lnil ?_
        exact ⟨l_6.length, by simp, ⟨col_41, (k_1 + 1), l_6, rfl, hl2, hm, hst, h0, h1, (congrArg (Value.int .i64) (wrap_succ (Nat.lt_of_lt_of_le hlt h1.1.1))), rfl, rfl, rfl, rfl, rfl⟩⟩
    · refine wregion ?_
      refine lv (v := (.int .i64 x_5)) rfl rfl (r_move rfl) ?_
      refine lv (v := (.bool (decide (x_5 < 0)))) rfl rfl (r_lss x_5 0 rfl rfl) ?_
      refine lv (v := (.bool (decide (x_5 < 0)))) rfl rfl (r_move rfl) ?_
      by_cases hg_43 : (decide (x_5 < 0)) = true
      · rw [if_pos hg_43] at hm
        refine lp (b := decide (x_5 < 0)) 17 rfl rfl rfl rfl (by rw [hg_43]; rfl) ?_
        refine lp (b := decide (x_5 < 0)) 17 rfl rfl rfl rfl (by rw [hg_43]; rfl) ?_
        refine lp (b := decide (x_5 < 0)) 17 rfl rfl rfl rfl (by rw [hg_43]; rfl) ?_
        refine lp (b := decide (x_5 < 0)) 17 rfl rfl rfl rfl (by rw [hg_43]; rfl) ?_
        refine lv (v := (.bool true)) rfl rfl (r_pickT (congrArg Value.bool hg_43) rfl) ?_
        refine lnil ?_
        exact ⟨col_4, true, hm, hst, h0, h1, rfl, rfl, rfl, rfl, rfl, rfl, rfl⟩
      · rw [if_neg hg_43] at hm
        replace hg_43 := Bool.eq_false_iff.2 hg_43
        refine lg (b := decide (x_5 < 0)) 17 rfl rfl rfl (by rw [hg_43]; rfl) ?_
        refine lv (v := (.int .i64 x_5)) rfl rfl (r_move rfl) ?_
        refine lg (b := decide (x_5 < 0)) 17 rfl rfl rfl (by rw [hg_43]; rfl) ?_
        refine lv (v := (.pointer (some ⟨o0.g, 0, none⟩))) rfl rfl (r_move rfl) ?_
        refine lg (b := decide (x_5 < 0)) 17 rfl rfl rfl (by rw [hg_43]; rfl) ?_
        obtain ⟨r_44, hr_45, hm⟩ := bind_some hm
        refine lc rfl rfl (r_call1 Try.call15 rfl) (c_graph_Graph_Len col_4 _ 999 (by decide) o0 p0_g h0 r_44 hr_45) ?_
        rintro _ w_46 ⟨rfl, hg_47⟩
        refine ⟨_, rfl, ?_⟩
        replace hg_47 : Grow col_4 w_3 col_4 w_46 := .of_below hg_47
        replace h0 := h0.gr hg_47
        replace h1 := h1.gr hg_47
        replace hst := hst.grow hg_47
        refine lg (b := decide (x_5 < 0)) 17 rfl rfl rfl (by rw [hg_43]; rfl) ?_
        refine lv (v := (.bool (decide (r_44 ≤ x_5)))) rfl rfl (r_geq x_5 r_44 rfl rfl) ?_
        refine lv (v := (.bool (decide (r_44 ≤ x_5)))) rfl rfl (r_pickF (congrArg Value.bool hg_43) rfl) ?_
        refine lnil ?_
        exact ⟨col_4, (decide (r_44 ≤ x_5)), hm, hst, h0, h1, rfl, rfl, rfl, rfl, rfl, rfl, rfl⟩



set_option maxRecDepth 100000 in
theorem el47_69 : ElemOk Try.prog 47 2 16 := ⟨Try.t47, _, rfl, rfl, rfl, rfl, rfl⟩

def m_graph_Graph_list_J1 (kk_L2 : ((List (Int × Int)) → Option (List (Int × Int)))) (l_29 : List (Int × Int)) : Option (List (Int × Int)) :=
  kk_L2 l_29

def m_graph_Graph_list_L2 (v_4 : Int) (kk_L1 : (Int → (List (Int × Int)) → Option (List (Int × Int)))) : List Int → (List (Int × Int)) → Option (List (Int × Int))
  | [], l_21 => kk_L1 (IntKind.i64.wrap (v_4 + 1)) l_21
  | x_25 :: l_26, l_21 => if (decide (v_4 < x_25)) = true then (chk ((l_21.length + [(v_4, x_25)].length) * 16 ≤ 140737488355328 ∧ l_21.length + [(v_4, x_25)].length ≤ maxLen) (m_graph_Graph_list_J1 (m_graph_Graph_list_L2 v_4 kk_L1 l_26) (l_21 ++ [(v_4, x_25)]))) else (m_graph_Graph_list_J1 (m_graph_Graph_list_L2 v_4 kk_L1 l_26) l_21)

def m_graph_Graph_list_L1 (N : Nat) (p0_g : List (List Bool)) : Nat → Int → (List (Int × Int)) → Option (List (Int × Int))
  | 0, _, _ => none
  | n_1 + 1, v_4, l_5 => if (decide (v_4 < (p0_g.length : Int))) = true then ((m_graph_Graph_Near p0_g v_4).bind fun r_9 => m_graph_Graph_list_L2 v_4 (m_graph_Graph_list_L1 N p0_g n_1) r_9 l_5) else (some l_5)

def m_graph_Graph_list (N : Nat) (p0_g : List (List Bool)) : Option (List (Int × Int)) :=
  m_graph_Graph_list_L1 N p0_g N 0 ([] : List (Int × Int))

set_option maxRecDepth 100000 in
set_option maxHeartbeats 2000000 in
theorem c_graph_Graph_list (N : Nat) (c1 : Nat) (col : Col) (w0 : World) (qc0 : Nat) (hqqc0 : qc0 ≠ 0) (o0 : GObj) (p0_g : List (List Bool)) (h0 : GO 85 86 qc0 col w0 o0 p0_g) (r : (List (Int × Int))) (hm : m_graph_Graph_list N p0_g = some r) :
    Calls Try.prog 69 #[(.pointer (some ⟨o0.g, 0, none⟩))] w0 (fun e w' => ∃ (col' : Col) (ra1 : Option Addr) (rc2 : Nat), e = .returned ((.slice ra1 r.length rc2)) ∧ Grow col w0 col' w' ∧ Own (Rep.pair (Rep.int .i64) (Rep.int .i64)) 47 c1 col' w' ra1 rc2 r) := by
  refine calls_of1 2 (m := 35) (args := [(.pointer (some ⟨o0.g, 0, none⟩))]) Try.func69 rfl rfl rfl rfl rfl ?_
  rw [m_graph_Graph_list.eq_1] at hm
  have hst := St.start col w0
  replace h0 := h0.start0 hqqc0
  refine wseq ?_
  refine wregion ?_
  refine lv (v := (.slice none (([] : List (Int × Int)).length) 0)) rfl rfl (r_assign rfl) ?_
  refine lnil ?_
  refine wseq ?_
  refine wregion ?_
  refine lv (v := (.slice none (([] : List (Int × Int)).length) 0)) rfl rfl (r_assign rfl) ?_
  refine lnil ?_
  refine wseq ?_
  refine wseq ?_
  refine wregion ?_
  refine lv (v := (.pointer (some ⟨o0.g, 0, none⟩))) rfl rfl (r_move rfl) ?_
  refine lv (v := (.pointer (some ⟨o0.g, 0, none⟩))) rfl rfl (r_nilCheck rfl) ?_
  refine lv (v := (.pointer ((some (⟨o0.g, 0, none⟩ : Addr)).map (·.add 0)))) rfl rfl (r_fieldAddr (sz := 1) (off := 0) Try.underlying85 rfl Try.sizeOf83 (by decide) rfl rfl ⟨_, _, rfl⟩) ?_
  refine lv (v := (.slice o0.a p0_g.length o0.cap)) rfl rfl (r_ld Try.isAgg83 rfl ((h0.box.atN).nth (q := 0) (v := (.slice o0.a p0_g.length o0.cap)) rfl)) ?_
  refine lv (v := (.int .i64 (p0_g.length : Int))) rfl rfl (r_len Try.underlying83 rfl) ?_
  refine lv (v := (.int .i64 0)) rfl rfl (r_move rfl) ?_
  refine lnil ?_
  refine wblock ?_
  refine wloop (fun n f w_2 => ∃ (col_3 : Col) (v_4 : Int) (a_6 : Option Addr) (cap_7 : Nat) (l_5 : List (Int × Int)) (n_1 : Nat), n_1 = n ∧ m_graph_Graph_list_L1 N p0_g n_1 v_4 l_5 = some r ∧ St w0 (col0 col) col_3 w_2 ∧ GO 85 86 999 col_3 w_2 o0 p0_g ∧ Own (Rep.pair (Rep.int .i64) (Rep.int .i64)) 47 1 col_3 w_2 a_6 cap_7 l_5 ∧ f 0 = (.pointer (some ⟨o0.g, 0, none⟩)) ∧ f 11 = (.int .i64 (p0_g.length : Int)) ∧ f 12 = (.int .i64 v_4) ∧ f 3 = (.slice a_6 l_5.length cap_7) ∧ f 1000000 = (enc [])) N ⟨(col0 col), 0, none, 0, ([] : List (Int × Int)), N, rfl, hm, hst, h0, Own.nil, rfl, rfl, rfl, rfl, rfl⟩ ?_
  clear hm; intro n f w_2 hI
  obtain ⟨col_3, v_4, a_6, cap_7, l_5, n_1, hn, hm, hst, h0, h_8, hs0, hs11, hs12, hs3, hs1000000⟩ := hI
  subst hn
  refine .ld (d := 0) (v := (.pointer (some ⟨o0.g, 0, none⟩))) hs0 ?_
  refine .ld (d := 11) (v := (.int .i64 (p0_g.length : Int))) hs11 ?_
  refine .ld (d := 12) (v := (.int .i64 v_4)) hs12 ?_
  refine .ld (d := 3) (v := (.slice a_6 l_5.length cap_7)) hs3 ?_
  refine .ld (d := 1000000) (v := (enc [])) hs1000000 ?_
  clear hs0 hs11 hs12 hs3 hs1000000
  cases n_1 with
  | zero => rw [m_graph_Graph_list_L1.eq_1] at hm; cases hm
  | succ n_1 =>
    rw [m_graph_Graph_list_L1.eq_2] at hm
    refine wseq ?_
    refine wregion ?_
    refine lv (v := (.bool (decide (v_4 < (p0_g.length : Int))))) rfl rfl (r_lss v_4 (p0_g.length : Int) rfl rfl) ?_
    refine lnil ?_
    refine wseq ?_
    refine wcond (decide (v_4 < (p0_g.length : Int))) rfl (fun hb => ?_) (fun hb => ?_)
    · rw [if_pos hb] at hm
      clear hb
      refine wskip ?_
      refine wseq ?_
      refine wblock ?_
      refine wseq ?_
      refine wregion ?_
      refine lv (v := (.int .i64 v_4)) rfl rfl (r_move rfl) ?_
      refine lv (v := (.int .i64 v_4)) rfl rfl (r_assign rfl) ?_
      refine lnil ?_
      refine wseq ?_
      refine wregion ?_
      refine lv (v := (.pointer (some ⟨o0.g, 0, none⟩))) rfl rfl (r_move rfl) ?_
      refine lv (v := (.int .i64 v_4)) rfl rfl (r_move rfl) ?_
      obtain ⟨r_9, hr_10, hm⟩ := bind_some hm
      refine lc rfl rfl (r_call2 Try.call22 rfl rfl) (c_graph_Graph_Near 2 col_3 _ 999 (by decide) o0 p0_g v_4 h0 r_9 hr_10) ?_
      rintro _ w_14 ⟨col_16, ra_11, rc_12, rfl, hg_15, rh_13⟩
      refine ⟨_, rfl, ?_⟩
      replace h0 := h0.gr hg_15
      replace h_8 := h_8.gr hg_15
      replace hst := hst.grow hg_15
      refine lv (v := (.int .i64 (r_9.length : Int))) rfl rfl (r_len Try.underlying22 rfl) ?_
      refine lv (v := (.int .i64 0)) rfl rfl (r_move rfl) ?_
      refine lnil ?_
      refine wblock ?_
      refine wloop (fun n f w_19 => ∃ (col_20 : Col) (k_17 : Nat) (a_22 : Option Addr) (cap_23 : Nat) (l_21 : List (Int × Int)) (l_18 : List Int), n = l_18.length ∧ r_9.drop k_17 = l_18 ∧ m_graph_Graph_list_L2 v_4 (m_graph_Graph_list_L1 N p0_g n_1) l_18 l_21 = some r ∧ St w0 (col0 col) col_20 w_19 ∧ GO 85 86 999 col_20 w_19 o0 p0_g ∧ Own (Rep.int .i64) 3 2 col_20 w_19 ra_11 rc_12 r_9 ∧ Own (Rep.pair (Rep.int .i64) (Rep.int .i64)) 47 1 col_20 w_19 a_22 cap_23 l_21 ∧ f 19 = (.int .i64 (k_17 : Int)) ∧ f 0 = (.pointer (some ⟨o0.g, 0, none⟩)) ∧ f 11 = (.int .i64 (p0_g.length : Int)) ∧ f 12 = (.int .i64 v_4) ∧ f 17 = (.slice ra_11 r_9.length rc_12) ∧ f 18 = (.int .i64 (r_9.length : Int)) ∧ f 3 = (.slice a_22 l_21.length cap_23) ∧ f 4 = (.int .i64 v_4) ∧ f 1000000 = (enc [])) r_9.length ⟨col_16, 0, a_6, cap_7, l_5, r_9, rfl, rfl, hm, hst, h0, rh_13, h_8, rfl, rfl, rfl, rfl, rfl, rfl, rfl, rfl, rfl⟩ ?_
      clear hm; intro n f w_19 hI
      obtain ⟨col_20, k_17, a_22, cap_23, l_21, l_18, hn, hl, hm, hst, h0, rh_13, h_24, hs19, hs0, hs11, hs12, hs17, hs18, hs3, hs4, hs1000000⟩ := hI
      subst hn
      refine .ld (d := 19) (v := (.int .i64 (k_17 : Int))) hs19 ?_
      refine .ld (d := 0) (v := (.pointer (some ⟨o0.g, 0, none⟩))) hs0 ?_
      refine .ld (d := 11) (v := (.int .i64 (p0_g.length : Int))) hs11 ?_
      refine .ld (d := 12) (v := (.int .i64 v_4)) hs12 ?_
      refine .ld (d := 17) (v := (.slice ra_11 r_9.length rc_12)) hs17 ?_
      refine .ld (d := 18) (v := (.int .i64 (r_9.length : Int))) hs18 ?_
      refine .ld (d := 3) (v := (.slice a_22 l_21.length cap_23)) hs3 ?_
      refine .ld (d := 4) (v := (.int .i64 v_4)) hs4 ?_
      refine .ld (d := 1000000) (v := (enc [])) hs1000000 ?_
      clear hs19 hs0 hs11 hs12 hs17 hs18 hs3 hs4 hs1000000
      cases l_18 with
      | nil =>
        have hk : ¬ ((k_17 : Int) < (r_9.length : Int)) := by have := List.drop_eq_nil_iff.1 hl; omega
        have hkb := decide_eq_false hk
        rw [m_graph_Graph_list_L2.eq_1] at hm
        refine wseq ?_
        refine wregion ?_
        refine lv (v := (.bool (decide ((k_17 : Int) < (r_9.length : Int))))) rfl rfl (r_lss (k_17 : Int) (r_9.length : Int) rfl rfl) ?_
        refine lnil ?_
        refine wseq ?_
        refine wcondF (congrArg Value.bool hkb) ?_
        refine wexit (inB_hit ?_)
        refine wregion ?_
        refine lv (v := (.int .i64 (IntKind.i64.wrap (v_4 + 1)))) rfl rfl (r_add v_4 1 rfl rfl) ?_
        refine lv (v := (.int .i64 (IntKind.i64.wrap (v_4 + 1)))) rfl rfl (r_move rfl) ?_
        refine lnil ?_
        exact ⟨n_1, by omega, ⟨col_20, (IntKind.i64.wrap (v_4 + 1)), a_22, cap_23, l_21, n_1, rfl, hm, hst, h0, h_24, rfl, rfl, rfl, rfl, rfl⟩⟩
      | cons x_25 l_26 =>
        obtain ⟨hat, hl2, hlt⟩ := drop_get hl
        have hk : (k_17 : Int) < (r_9.length : Int) := by omega
        have hkb := decide_eq_true hk
        rw [m_graph_Graph_list_L2.eq_2] at hm
        refine wseq ?_
        refine wregion ?_
        refine lv (v := (.bool (decide ((k_17 : Int) < (r_9.length : Int))))) rfl rfl (r_lss (k_17 : Int) (r_9.length : Int) rfl rfl) ?_
        refine lnil ?_
        refine wseq ?_
        refine wcondT (congrArg Value.bool hkb) ?_
        refine wskip ?_
        refine wseq ?_
        refine Wp.cut (fun f w_27 => ∃ (col_28 : Col) (a_30 : Option Addr) (cap_31 : Nat) (l_29 : List (Int × Int)), m_graph_Graph_list_J1 (m_graph_Graph_list_L2 v_4 (m_graph_Graph_list_L1 N p0_g n_1) l_26) l_29 = some r ∧ St w0 (col0 col) col_28 w_27 ∧ GO 85 86 999 col_28 w_27 o0 p0_g ∧ Own (Rep.int .i64) 3 2 col_28 w_27 ra_11 rc_12 r_9 ∧ Own (Rep.pair (Rep.int .i64) (Rep.int .i64)) 47 1 col_28 w_27 a_30 cap_31 l_29 ∧ f 0 = (.pointer (some ⟨o0.g, 0, none⟩)) ∧ f 11 = (.int .i64 (p0_g.length : Int)) ∧ f 12 = (.int .i64 v_4) ∧ f 17 = (.slice ra_11 r_9.length rc_12) ∧ f 18 = (.int .i64 (r_9.length : Int)) ∧ f 19 = (.int .i64 (k_17 : Int)) ∧ f 3 = (.slice a_30 l_29.length cap_31) ∧ f 4 = (.int .i64 v_4) ∧ f 1000000 = (enc [])) ?_ ?_
        · intro f w_27 hJ
          obtain ⟨col_28, a_30, cap_31, l_29, hm, hst, h0, rh_13, h_32, hs0, hs11, hs12, hs17, hs18, hs19, hs3, hs4, hs1000000⟩ := hJ
          rw [m_graph_Graph_list_J1.eq_1] at hm
          refine .ld (d := 0) (v := (.pointer (some ⟨o0.g, 0, none⟩))) hs0 ?_
          refine .ld (d := 11) (v := (.int .i64 (p0_g.length : Int))) hs11 ?_
          refine .ld (d := 12) (v := (.int .i64 v_4)) hs12 ?_
          refine .ld (d := 17) (v := (.slice ra_11 r_9.length rc_12)) hs17 ?_
          refine .ld (d := 18) (v := (.int .i64 (r_9.length : Int))) hs18 ?_
          refine .ld (d := 19) (v := (.int .i64 (k_17 : Int))) hs19 ?_
          refine .ld (d := 3) (v := (.slice a_30 l_29.length cap_31)) hs3 ?_
          refine .ld (d := 4) (v := (.int .i64 v_4)) hs4 ?_
          refine .ld (d := 1000000) (v := (enc [])) hs1000000 ?_
          clear hs0 hs11 hs12 hs17 hs18 hs19 hs3 hs4 hs1000000
          refine wregion ?_
          refine lv (v := (.int .i64 (IntKind.i64.wrap ((k_17 : Int) + 1)))) rfl rfl (r_add (k_17 : Int) 1 rfl rfl) ?_
          refine lv (v := (.int .i64 (IntKind.i64.wrap ((k_17 : Int) + 1)))) rfl rfl (r_move rfl) ?_
          refine lnil ?_
          exact ⟨l_26.length, by simp, ⟨col_28, (k_17 + 1), a_30, cap_31, l_29, l_26, rfl, hl2, hm, hst, h0, rh_13, h_32, (congrArg (Value.int .i64) (wrap_succ (Nat.lt_of_lt_of_le hlt rh_13.len))), rfl, rfl, rfl, rfl, rfl, rfl, rfl, rfl⟩⟩
        · refine wblock ?_
          refine wseq ?_
          refine wregion ?_
          refine lv (v := (sptr ra_11 (Int.toNat (k_17 : Int) * 1))) rfl rfl (r_idx Try.underlying22 Try.sizeOf3 rfl rfl (at?_some hat).1 (at?_some hat).2.1 (rh_13.addr hat)) ?_
          refine lv (v := (.int .i64 x_25)) rfl rfl (r_ld Try.isAgg3 rfl (rh_13.atInt hat)) ?_
          refine lv (v := (.int .i64 x_25)) rfl rfl (r_assign rfl) ?_
          refine lnil ?_
          refine wseq ?_
          refine wregion ?_
          refine lv (v := (.int .i64 v_4)) rfl rfl (r_move rfl) ?_
          refine lv (v := (.int .i64 x_25)) rfl rfl (r_move rfl) ?_
          refine lv (v := (.bool (decide (v_4 < x_25)))) rfl rfl (r_lss v_4 x_25 rfl rfl) ?_
          refine lnil ?_
          refine wcond (decide (v_4 < x_25)) rfl (fun hb => ?_) (fun hb => ?_)
          · rw [if_pos hb] at hm
            clear hb
            refine wregion ?_
            refine lv (v := (.slice a_22 l_21.length cap_23)) rfl rfl (r_move rfl) ?_
            refine lv (v := (.int .i64 v_4)) rfl rfl (r_move rfl) ?_
            refine lv (v := (.int .i64 x_25)) rfl rfl (r_move rfl) ?_
            refine lv (v := (.agg #[(.int .i64 v_4), (.int .i64 x_25)])) rfl rfl (r_build (l := [_, _]) (qs := [(0, 1), (1, 1)]) Try.underlying47 Try.zeroValue47 ⟨rfl, Try.sizeOf3, rfl, Try.sizeOf3, trivial⟩ rfl) ?_
            refine l_lit (col := col_20) (r := (Rep.pair (Rep.int .i64) (Rep.int .i64))) (xs := [(v_4, x_25)]) [(.agg #[(.int .i64 v_4), (.int .i64 x_25)])] 3 rfl Try.underlying29 el47_69 rfl rfl rfl rfl rfl rfl (by intro v hv; simp only [List.mem_cons, List.not_mem_nil, or_false] at hv; subst hv; rfl) (RowsH.ofF (Rows.consF (r := (Rep.pair (Rep.int .i64) (Rep.int .i64))) (x := (v_4, x_25)) (cs := [(.int .i64 v_4), (.int .i64 x_25)]) (rd_pairI (rd_int .i64 v_4) (rd_int .i64 x_25)) Rows.nil0)) ?_
            intro a_33 w_34 col_35 hg_36 h_37
            replace h0 := h0.gr hg_36
            replace rh_13 := rh_13.gr hg_36
            replace h_24 := h_24.gr hg_36
            replace hst := hst.grow hg_36
            obtain ⟨hb_38, hm⟩ := chk_some hm
            refine l_appendM (col := col_35) (w := w_34) (r := (Rep.pair (Rep.int .i64) (Rep.int .i64))) (c := 1) (c2 := 1) (xs := l_21) (ys := [(v_4, x_25)]) h_24 (h_37.srcN (NB.pair (NB.int (k := .i64)) (NB.int (k := .i64)))) rfl Try.underlying29 el47_69 rfl rfl rfl hb_38.1 hb_38.2 (by decide) ?_
            intro a_39 cap_40 w_41 col_42 hk_43 h_44
            replace h0 := h0.kpp hk_43 rfl rfl
            replace rh_13 := rh_13.kpp hk_43 rfl rfl
            replace h_37 := h_37.kpp hk_43 rfl rfl
            replace hst := hst.kpp hk_43 rfl rfl
            clear h_24
            refine lv (v := (.slice a_39 ((l_21 ++ [(v_4, x_25)]).length) cap_40)) rfl rfl (r_assign rfl) ?_
            refine lnil ?_
            exact ⟨col_42, a_39, cap_40, (l_21 ++ [(v_4, x_25)]), hm, hst, h0, rh_13, h_44, rfl, rfl, rfl, rfl, rfl, rfl, rfl, rfl, rfl⟩
          · rw [if_neg (by rw [hb]; decide)] at hm
            clear hb
            refine wskip ?_
            exact ⟨col_20, a_22, cap_23, l_21, hm, hst, h0, rh_13, h_24, rfl, rfl, rfl, rfl, rfl, rfl, rfl, rfl, rfl⟩
    · rw [if_neg (by rw [hb]; decide)] at hm
      clear hb
      refine wexit (inB_hit ?_)
      refine wseq ?_
      refine wregion ?_
      refine lv (v := (.slice a_6 l_5.length cap_7)) rfl rfl (r_move rfl) ?_
      refine lv (v := (.slice a_6 l_5.length cap_7)) rfl rfl (r_assign rfl) ?_
      refine lnil ?_
      refine wret ?_
      cases hm
      exact ⟨rfl, colF w0.heap.size col col_3 (fun n => bif Nat.beq n 1 then c1 else 0), a_6, cap_7, rfl, hst.fin (fun n => bif Nat.beq n 1 then c1 else 0), hst.finOwn (g := (fun n => bif Nat.beq n 1 then c1 else 0)) rfl h_8 (by decide) (by decide) rfl⟩




def m_graph_Graph_Edges_1_L1  : List (Int × Int) → Option (List (Int × Int))
  | [] => some []
  | x_5 :: l_6 => ((m_graph_Graph_Edges_1_L1 l_6) ).bind fun r_20 => some ((x_5.1, x_5.2) :: r_20)

def m_graph_Graph_Edges_1 (v0_v : List (Int × Int)) : Option (List (Int × Int)) :=
  m_graph_Graph_Edges_1_L1 v0_v 

set_option maxRecDepth 100000 in
set_option maxHeartbeats 2000000 in
theorem c_graph_Graph_Edges_1 (col : Col) (w0 : World) (g0 : Nat) (af0 : Option Addr) (capf0 : Nat) (v0_v : List (Int × Int)) (hf0 : Own (Rep.pair (Rep.int .i64) (Rep.int .i64)) 47 450 col w0 af0 capf0 v0_v) (hb0 : Box 29 450 col w0 g0 #[(.slice af0 v0_v.length capf0)]) (r : List (Int × Int)) (hm : m_graph_Graph_Edges_1 v0_v = some r) :
    Goes Try.prog 93 [(.pointer (some ⟨g0, 0, none⟩))] (fun (y : (Int × Int)) (col : Col) (w : World) (args : List Value) => args = [(.agg #[(.int .i64 y.1), (.int .i64 y.2)])]) r col w0 := by
  intro l J X hjs hxs hy hst
  refine calls_of0 (m := 16) (args := [.func (.yield l) #[] #[], (.pointer (some ⟨g0, 0, none⟩))]) Try.func93 rfl rfl rfl rfl ?_
  rw [m_graph_Graph_Edges_1.eq_1] at hm
  refine wseq ?_
  refine wregion ?_
  refine lv (v := (.slice af0 v0_v.length capf0)) rfl rfl (r_ld Try.isAgg29 rfl hb0.at1) ?_
  refine lv (v := (.int .i64 (v0_v.length : Int))) rfl rfl (r_len Try.underlying29 rfl) ?_
  refine lv (v := (.int .i64 0)) rfl rfl (r_move rfl) ?_
  refine lnil ?_
  refine wblock ?_
  refine wloop (fun n f w_3 => ∃ (col_4 : Col) (r : List (Int × Int)) (k_1 : Nat) (l_2 : List (Int × Int)), n = l_2.length ∧ v0_v.drop k_1 = l_2 ∧ m_graph_Graph_Edges_1_L1 l_2  = some r ∧ J r col_4 w_3 ∧ Own (Rep.pair (Rep.int .i64) (Rep.int .i64)) 47 450 col_4 w_3 af0 capf0 v0_v ∧ Box 29 450 col_4 w_3 g0 #[(.slice af0 v0_v.length capf0)] ∧ f 7 = (.int .i64 (k_1 : Int)) ∧ f 0 = (.func (.yield l) #[] #[]) ∧ f 5 = (.slice af0 v0_v.length capf0) ∧ f 6 = (.int .i64 (v0_v.length : Int)) ∧ f 1000000 = (enc [])) v0_v.length ⟨col, r, 0, v0_v, rfl, rfl, hm, hst, hf0, hb0, rfl, rfl, rfl, rfl, rfl⟩ ?_
  clear hm; intro n f w_3 hI
  obtain ⟨col_4, r, k_1, l_2, hn, hl, hm, hst, hf0, hb0, hs7, hs0, hs5, hs6, hs1000000⟩ := hI
  subst hn
  refine .ld (d := 7) (v := (.int .i64 (k_1 : Int))) hs7 ?_
  refine .ld (d := 0) (v := (.func (.yield l) #[] #[])) hs0 ?_
  refine .ld (d := 5) (v := (.slice af0 v0_v.length capf0)) hs5 ?_
  refine .ld (d := 6) (v := (.int .i64 (v0_v.length : Int))) hs6 ?_
  refine .ld (d := 1000000) (v := (enc [])) hs1000000 ?_
  clear hs7 hs0 hs5 hs6 hs1000000
  cases l_2 with
  | nil =>
    have hk : ¬ ((k_1 : Int) < (v0_v.length : Int)) := by have := List.drop_eq_nil_iff.1 hl; omega
    have hkb := decide_eq_false hk
    rw [m_graph_Graph_Edges_1_L1.eq_1] at hm
    refine wseq ?_
    refine wregion ?_
    refine lv (v := (.bool (decide ((k_1 : Int) < (v0_v.length : Int))))) rfl rfl (r_lss (k_1 : Int) (v0_v.length : Int) rfl rfl) ?_
    refine lnil ?_
    refine wseq ?_
    refine wcondF (congrArg Value.bool hkb) ?_
    refine wexit (inB_hit ?_)
    cases hm
    exact ⟨rfl, ⟨_, rfl⟩, _, .inl hst⟩
  | cons x_5 l_6 =>
    obtain ⟨hat, hl2, hlt⟩ := drop_get hl
    have hk : (k_1 : Int) < (v0_v.length : Int) := by omega
    have hkb := decide_eq_true hk
    rw [m_graph_Graph_Edges_1_L1.eq_2] at hm
    refine wseq ?_
    refine wregion ?_
    refine lv (v := (.bool (decide ((k_1 : Int) < (v0_v.length : Int))))) rfl rfl (r_lss (k_1 : Int) (v0_v.length : Int) rfl rfl) ?_
    refine lnil ?_
    refine wseq ?_
    refine wcondT (congrArg Value.bool hkb) ?_
    refine wskip ?_
    refine wseq ?_
    refine wblock ?_
    refine wseq ?_
    refine wregion ?_
    refine lv (v := (sptr af0 (Int.toNat (k_1 : Int) * 2))) rfl rfl (r_idx Try.underlying29 Try.sizeOf47 rfl rfl (at?_some hat).1 (at?_some hat).2.1 (hf0.addr hat)) ?_
    obtain ⟨_, hr_7, hA_8⟩ := hf0.atN hat
    obtain ⟨_, _, rfl, hp_9, hp_10⟩ := hr_7.parts
    obtain rfl := hp_9.int
    obtain rfl := hp_10.int
    refine lv (v := (.agg #[(.int .i64 x_5.1), (.int .i64 x_5.2)])) rfl rfl (r_ldN Try.isAgg47 Try.sizeOf47 rfl rfl hA_8) ?_
    refine l_alloc (col := col_4) (v := (.agg #[(.int .i64 0), (.int .i64 0)])) 501 rfl Try.zeroValue47 ?_
    intro g_11 w_12 col_13 hg_14 hb_15
    replace hf0 := hf0.gr hg_14
    replace hb0 := hb0.gr hg_14
    replace hst := hjs _ _ _ _ _ hst hg_14.toP
    replace hb_15 : Box 47 501 col_13 w_12 g_11 #[(.int .i64 0), (.int .i64 0)] := hb_15
    refine l_bstore (v := (.agg #[(.int .i64 x_5.1), (.int .i64 x_5.2)])) hb_15 Try.sizeOf47 rfl rfl (by intro u hu; simp only [Value.cells, List.mem_cons, List.not_mem_nil, or_false] at hu; rcases hu with rfl | rfl <;> rfl) rfl rfl ?_
    intro w_16 hk_17 hs_18 hb_19
    replace hf0 := hf0.kp hk_17 (by decide) (by decide)
    replace hb0 := hb0.kp hk_17 (by decide)
    replace hst := hjs _ _ _ _ _ hst (hk_17.toP hs_18 rfl)
    clear hb_15
    replace hb_19 : Box 47 501 col_13 w_16 g_11 #[(.int .i64 x_5.1), (.int .i64 x_5.2)] := hb_19
    refine lnil ?_
    refine wseq ?_
    refine wregion ?_
    refine lv (v := (.func (.yield l) #[] #[])) rfl rfl (r_move rfl) ?_
    refine lv (v := (.agg #[(.int .i64 x_5.1), (.int .i64 x_5.2)])) rfl rfl (r_ldN Try.isAgg47 Try.sizeOf47 rfl rfl hb_19.atN) ?_
    obtain ⟨r_20, hc_21m, hc_21⟩ := bind_some hm
    cases hc_21
    have hm := hc_21m
    clear hc_21m
    refine ly1 rfl rfl rfl (hy _ _ _ _ [(.agg #[(.int .i64 x_5.1), (.int .i64 x_5.2)])] hst rfl) ?_
    rintro _ w_22 ⟨col_23, hk_24, ⟨rfl, hJ⟩ | ⟨rfl, hX⟩⟩
    · refine ⟨_, rfl, ?_⟩
      clear hst
      replace hf0 := hf0.kpp hk_24 rfl rfl
      replace hb0 := hb0.kpp hk_24 rfl
      have hst := hJ
      clear hJ
      refine lv (v := (.bool false)) rfl rfl (r_not true rfl) ?_
      refine lnil ?_
      refine wcondF rfl ?_
      refine wskip ?_
      refine wregion ?_
      refine lv (v := (.int .i64 (IntKind.i64.wrap ((k_1 : Int) + 1)))) rfl rfl (r_add (k_1 : Int) 1 rfl rfl) ?_
      refine lv (v := (.int .i64 (IntKind.i64.wrap ((k_1 : Int) + 1)))) rfl rfl (r_move rfl) ?_
      refine lnil ?_
      exact ⟨l_6.length, by simp, ⟨col_23, r_20, (k_1 + 1), l_6, rfl, hl2, hm, hst, hf0, hb0, (congrArg (Value.int .i64) (wrap_succ (Nat.lt_of_lt_of_le hlt hf0.len))), rfl, rfl, rfl, rfl⟩⟩
    · clear hm
      refine ⟨_, rfl, ?_⟩
      clear hst
      replace hf0 := hf0.kpp hk_24 rfl rfl
      replace hb0 := hb0.kpp hk_24 rfl
      have hst := hX
      clear hX
      refine lv (v := (.bool true)) rfl rfl (r_not false rfl) ?_
      refine lnil ?_
      refine wcondT rfl ?_
      refine wret ?_
      exact ⟨rfl, ⟨_, rfl⟩, _, .inr hst⟩




def m_graph_Graph_Edges (N : Nat) (p0_g : List (List Bool)) : Option (List (Int × Int)) :=
  (m_graph_Graph_list N p0_g).bind fun r_1 => m_graph_Graph_Edges_1 r_1

set_option maxRecDepth 100000 in
set_option maxHeartbeats 2000000 in
theorem c_graph_Graph_Edges (N : Nat) (col : Col) (w0 : World) (qc0 : Nat) (hqqc0 : qc0 ≠ 0) (o0 : GObj) (p0_g : List (List Bool)) (h0 : GO 85 86 qc0 col w0 o0 p0_g) (r : (List (Int × Int))) (hm : m_graph_Graph_Edges N p0_g = some r) :
    Calls Try.prog 64 #[(.pointer (some ⟨o0.g, 0, none⟩))] w0 (fun e w' => ∃ (col' : Col) (rv1 : Value), e = .returned (rv1) ∧ Grow col w0 col' w' ∧ It Try.prog rv1 (fun (y : (Int × Int)) (col : Col) (w : World) (args : List Value) => args = [(.agg #[(.int .i64 y.1), (.int .i64 y.2)])]) r q0 col' w') := by
  refine calls_of1 2 (m := 7) (args := [(.pointer (some ⟨o0.g, 0, none⟩))]) Try.func64 rfl rfl rfl rfl rfl ?_
  rw [m_graph_Graph_Edges.eq_1] at hm
  have hst := St.start col w0
  replace h0 := h0.start0 hqqc0
  refine wseq ?_
  refine wregion ?_
  refine lv (v := _) rfl rfl (r_assign rfl) ?_
  refine lnil ?_
  refine wseq ?_
  refine wregion ?_
  refine lv (v := (.pointer (some ⟨o0.g, 0, none⟩))) rfl rfl (r_move rfl) ?_
  obtain ⟨r_1, hr_2, hm⟩ := bind_some hm
  refine lc rfl rfl (r_call1 Try.call69 rfl) (c_graph_Graph_list N 1 (col0 col) _ 999 (by decide) o0 p0_g h0 r_1 hr_2) ?_
  rintro _ w_6 ⟨col_8, ra_3, rc_4, rfl, hg_7, rh_5⟩
  refine ⟨_, rfl, ?_⟩
  replace h0 := h0.gr hg_7
  replace hst := hst.grow hg_7
  refine l_alloc (col := col_8) (v := (.slice none (([] : List (Int × Int)).length) 0)) 2 rfl Try.zeroValue29 ?_
  intro g_9 w_10 col_11 hg_12 hb_13
  replace rh_5 := rh_5.gr hg_12
  replace hst := hst.grow hg_12
  replace hb_13 : Box 29 2 col_11 w_10 g_9 #[(.slice none (([] : List (Int × Int)).length) 0)] := hb_13
  refine l_bstore (v := (.slice ra_3 r_1.length rc_4)) hb_13 Try.sizeOf29 rfl rfl (by intro u hu; simp only [Value.cells, List.mem_cons, List.not_mem_nil, or_false] at hu; subst hu; rfl) rfl rfl ?_
  intro w_14 hk_15 hs_16 hb_17
  replace rh_5 := rh_5.kp hk_15 (by decide) (by decide)
  replace hst := hst.kp hk_15 hs_16 (by decide) (by decide)
  clear hb_13
  replace hb_17 : Box 29 2 col_11 w_14 g_9 #[(.slice ra_3 r_1.length rc_4)] := hb_17
  refine lnil ?_
  refine wseq ?_
  refine wregion ?_
  refine lv (v := (.func (.func 93) #[] #[(.pointer (some ⟨g_9, 0, none⟩))])) rfl rfl (r_func1 rfl) ?_
  refine lv (v := (.func (.func 93) #[] #[(.pointer (some ⟨g_9, 0, none⟩))])) rfl rfl (r_assign rfl) ?_
  refine lnil ?_
  refine wret ?_
  have hb_17f := hst.finBox (G := (fun n => bif Nat.beq n 2 then 450 else bif Nat.beq n 1 then 450 else 0)) hb_17 (by decide) (by decide) (show (fun n => bif Nat.beq n 2 then 450 else bif Nat.beq n 1 then 450 else 0) 2 = 450 from rfl)
  have rh_5f := hst.finOwn (g := (fun n => bif Nat.beq n 2 then 450 else bif Nat.beq n 1 then 450 else 0)) rfl rh_5 (by decide) (by decide) (show (fun n => bif Nat.beq n 2 then 450 else bif Nat.beq n 1 then 450 else 0) 1 = 450 from rfl)
  refine ⟨rfl, colF w0.heap.size col col_11 (fun n => bif Nat.beq n 2 then 450 else bif Nat.beq n 1 then 450 else 0), _, rfl, hst.fin (fun n => bif Nat.beq n 2 then 450 else bif Nat.beq n 1 then 450 else 0), 93, [(.pointer (some ⟨g_9, 0, none⟩))], rfl, Try.call93, ?_⟩
  intro col9 w9 hs9 hk9
  replace hb_17f := hb_17f.itk hs9 hk9 rfl
  replace rh_5f := rh_5f.itk hs9 hk9 rfl (flat_pair (flat_int .i64) (flat_int .i64))
  exact c_graph_Graph_Edges_1  col9 w9 g_9 ra_3 rc_4 r_1 rh_5f hb_17f r hm




def m_order_copied_L1  : List (Int × Int) → Option (Option (List (List Bool)))
  | [] => some none
  | y_34 :: l_35 => none

def m_order_copied_L2  : List (Int × Int) → (List (List Bool)) → Option (Option (List (List Bool)))
  | [], h_74 => some (some h_74)
  | y_76 :: l_77, h_74 => (m_graph_Graph_Join h_74 y_76.1 y_76.2).bind fun r_98 => (m_order_copied_L2 l_77) r_98.2

def m_order_copied (N : Nat) (p0_g : List (List Bool)) : Option (Option (List (List Bool))) :=
  (m_graph_Graph_Len p0_g).bind fun r_1 => (m_graph_New r_1).bind fun r_5 => optC (r_5.1) ((m_graph_Graph_Edges N p0_g).bind fun r_25 => m_order_copied_L1 r_25 ) (fun t_12 => (m_graph_Graph_Edges N p0_g).bind fun r_65 => m_order_copied_L2 r_65 t_12)

set_option maxRecDepth 100000 in
set_option maxHeartbeats 2000000 in
theorem c_order_copied (N : Nat) (c1 : Nat) (col : Col) (w0 : World) (qc0 : Nat) (hqqc0 : qc0 ≠ 0) (o0 : GObj) (p0_g : List (List Bool)) (h0 : GO 85 86 qc0 col w0 o0 p0_g) (r : (Option (List (List Bool)))) (hm : m_order_copied N p0_g = some r) :
    Calls Try.prog 76 #[(.pointer (some ⟨o0.g, 0, none⟩))] w0 (fun e w' => ∃ (col' : Col) (rv1 : Value), e = .returned (rv1) ∧ Grow col w0 col' w' ∧ optP rv1 r (fun (d : List (List Bool)) => ∃ (o9 : GObj), rv1 = .pointer (some ⟨o9.g, 0, none⟩) ∧ GO 85 86 c1 col' w' o9 d)) := by
  refine calls_ofM1 2 (m := 22) (args := [(.pointer (some ⟨o0.g, 0, none⟩))]) Try.func76 rfl rfl rfl rfl rfl ?_
  rw [m_order_copied.eq_1] at hm
  have hst := St.start col w0
  replace h0 := h0.start0 hqqc0
  have hmk : Marks (col0 col) w0 [] := .nil
  refine wseq ?_
  refine wregion ?_
  refine lv (v := (.pointer none)) rfl rfl (r_assign rfl) ?_
  refine lnil ?_
  refine wseq ?_
  refine wregion ?_
  refine lv (v := (.pointer (some ⟨o0.g, 0, none⟩))) rfl rfl (r_move rfl) ?_
  obtain ⟨r_1, hr_2, hm⟩ := bind_some hm
  refine lc rfl rfl (r_call1 Try.call15 rfl) (c_graph_Graph_Len (col0 col) _ 999 (by decide) o0 p0_g h0 r_1 hr_2) ?_
  rintro _ w_3 ⟨rfl, hg_4⟩
  refine ⟨_, rfl, ?_⟩
  replace hg_4 : Grow (col0 col) w0 (col0 col) w_3 := .of_below hg_4
  replace h0 := h0.gr hg_4
  replace hmk := hmk.gr hg_4
  replace hst := hst.grow hg_4
  obtain ⟨r_5, hr_6, hm⟩ := bind_some hm
  refine lc rfl rfl (r_call1 Try.call51 rfl) (c_graph_New 1 (col0 col) _ r_1 r_5 hr_6) ?_
  rintro _ w_9 ⟨col_11, rv_7, rfl, hg_10, rh_8⟩
  refine ⟨_, rfl, ?_⟩
  replace h0 := h0.gr hg_10
  replace hmk := hmk.gr hg_10
  replace hst := hst.grow hg_10
  cases hx_13 : r_5.1 with
  | none =>
    rw [hx_13] at hm rh_8
    replace hm := optC_none hm
    obtain rfl := optP_none rh_8
    clear rh_8
    refine lv (v := (.tuple #[(.pointer none), (.int .i64 r_5.2)])) rfl rfl (r_move rfl) ?_
    refine lv (v := (.pointer none)) rfl rfl (r_extract rfl rfl) ?_
    refine lv (v := (.int .i64 r_5.2)) rfl rfl (r_extract rfl rfl) ?_
    refine l_alloc (col := col_11) (v := (.pointer none)) 2 rfl Try.zeroValue24 ?_
    intro g_16 w_17 col_18 hg_19 hb_20
    replace h0 := h0.gr hg_19
    replace hmk := hmk.gr hg_19
    replace hst := hst.grow hg_19
    replace hb_20 : Box 24 2 col_18 w_17 g_16 #[(.pointer none)] := hb_20
    refine l_bstore (v := (.pointer none)) hb_20 Try.sizeOf24 rfl rfl (by intro u hu; simp only [Value.cells, List.mem_cons, List.not_mem_nil, or_false] at hu; subst hu; rfl) rfl rfl ?_
    intro w_21 hk_22 hs_23 hb_24
    replace h0 := h0.kp hk_22 (by decide) (by decide)
    replace hmk := hmk.kp hk_22 (by decide)
    replace hst := hst.kp hk_22 hs_23 (by decide) (by decide)
    clear hb_20
    replace hb_24 : Box 24 2 col_18 w_21 g_16 #[(.pointer none)] := hb_24
    refine lv (v := (.int .i64 r_5.2)) rfl rfl (r_assign rfl) ?_
    refine lnil ?_
    refine wseq ?_
    refine wseq ?_
    refine wregion ?_
    refine lv (v := (.pointer (some ⟨o0.g, 0, none⟩))) rfl rfl (r_move rfl) ?_
    obtain ⟨r_25, hr_26, hm⟩ := bind_some hm
    refine lc rfl rfl (r_call1 Try.call64 rfl) (c_graph_Graph_Edges N col_18 _ 999 (by decide) o0 p0_g h0 r_25 hr_26) ?_
    rintro _ w_29 ⟨col_31, rv_27, rfl, hg_30, rh_28⟩
    refine ⟨_, rfl, ?_⟩
    replace h0 := h0.gr hg_30
    replace hb_24 := hb_24.gr hg_30
    replace hmk := hmk.gr hg_30
    replace hst := hst.grow hg_30
    refine lnil ?_
    refine wblock ?_
    refine wrange (psl := [14]) (arr := (fun (y : (Int × Int)) (col : Col) (w : World) (args : List Value) => args = [(.agg #[(.int .i64 y.1), (.int .i64 y.2)])])) (ys := r_25) (col := col_31) 498 rfl rh_28 rfl hmk rfl rfl (by rintro _ _ _ _ rfl; rfl) (fun ys_ col_33 w_32 => m_order_copied_L1 ys_  = some r ∧ St w0 (col0 col) col_33 w_32 ∧ Box 24 2 col_33 w_32 g_16 #[(.pointer none)]) (fun _ _ _ => False) ?_ ?_ ⟨hm, hst, hb_24⟩ ?_ ?_ ?_
    · intro ys_ col_33 w_32 col2_ w2_ hJ hk
      obtain ⟨hm, hst, hb_24⟩ := hJ
      exact ⟨hm, hst.kpp hk rfl rfl, hb_24.kpp hk rfl⟩
    · intro _ _ _ _ _ h _
      exact h
    · intro l_40 rc_41 ds_42 y_34 l_35 col_33 w_32 args hJ hrec hmk harr
      obtain ⟨hm, hst, hb_24⟩ := hJ
      rw [m_order_copied_L1.eq_2] at hm
      have hki := KeepP.refl pCo col_33 w_32
      subst harr
      refine wregion ?_
      refine l_alloc (col := col_33) (v := (.agg #[(.int .i64 0), (.int .i64 0)])) 3 rfl Try.zeroValue47 ?_
      intro g_43 w_44 col_45 hg_46 hb_47
      replace hb_24 := hb_24.gr hg_46
      replace hrec := hrec.gr hg_46
      replace hmk := hmk.gr hg_46
      replace hki := hki.gr hg_46
      replace hst := hst.grow hg_46
      replace hb_47 : Box 47 3 col_45 w_44 g_43 #[(.int .i64 0), (.int .i64 0)] := hb_47
      refine l_bstore (v := (.agg #[(.int .i64 y_34.1), (.int .i64 y_34.2)])) hb_47 Try.sizeOf47 rfl rfl (by intro u hu; simp only [Value.cells, List.mem_cons, List.not_mem_nil, or_false] at hu; rcases hu with rfl | rfl <;> rfl) rfl rfl ?_
      intro w_48 hk_49 hs_50 hb_51
      replace hb_24 := hb_24.kp hk_49 (by decide)
      replace hrec := hrec.kp hk_49 (by decide)
      replace hmk := hmk.kp hk_49 (by decide)
      replace hki := hki.kp hk_49 hs_50 rfl
      replace hst := hst.kp hk_49 hs_50 (by decide) (by decide)
      clear hb_47
      replace hb_51 : Box 47 3 col_45 w_48 g_43 #[(.int .i64 y_34.1), (.int .i64 y_34.2)] := hb_51
      refine lnil ?_
      refine ⟨_, hrec, ?_⟩
      intro w_52 rc_53 hk_54 hs_55 hrec2
      replace hb_24 := hb_24.kp hk_54 (by decide)
      replace hb_51 := hb_51.kp hk_54 (by decide)
      replace hmk := hmk.kp hk_54 (by decide)
      replace hki := hki.kp hk_54 hs_55 rfl
      replace hst := hst.kp hk_54 hs_55 (by decide) (by decide)
      clear hrec
      have hrec := hrec2
      clear hrec2
      refine wblock ?_
      refine wregion ?_
      refine lv (v := (.pointer none)) rfl rfl (r_ld Try.isAgg24 rfl hb_24.at1) ?_
      refine lv (v := (.pointer ((some (⟨g_43, 0, none⟩ : Addr)).map (·.add 0)))) rfl rfl (r_fieldAddr (sz := 1) (off := 0) Try.underlying47 rfl Try.sizeOf3 (by decide) rfl rfl ⟨_, _, rfl⟩) ?_
      refine lv (v := (.int .i64 y_34.1)) rfl rfl (r_ld Try.isAgg3 rfl ((hb_51.atN).nth (q := 0) (v := (.int .i64 y_34.1)) rfl)) ?_
      refine lv (v := (.pointer ((some (⟨g_43, 0, none⟩ : Addr)).map (·.add 1)))) rfl rfl (r_fieldAddr (sz := 1) (off := 1) Try.underlying47 rfl Try.sizeOf3 (by decide) rfl rfl ⟨_, _, rfl⟩) ?_
      refine lv (v := (.int .i64 y_34.2)) rfl rfl (r_ld Try.isAgg3 rfl ((hb_51.atN).nth (q := 1) (v := (.int .i64 y_34.2)) rfl)) ?_
      cases hm
    · clear hmk
      intro D_36 col_33 w_32 hJ hmk
      obtain ⟨hm, hst, hb_24⟩ := hJ
      rw [m_order_copied_L1.eq_1] at hm
      refine wseq ?_
      refine wregion ?_
      refine lv (v := (.pointer none)) rfl rfl (r_ld Try.isAgg24 rfl hb_24.at1) ?_
      refine lv (v := (.pointer none)) rfl rfl (r_assign rfl) ?_
      refine lnil ?_
      refine wret ?_
      cases hm
      refine ⟨_, (D_36 :: []), rfl, hmk, ?_⟩
      intro w_37 hk_38 hs_39
      clear hmk
      replace hst := hst.kp hk_38 hs_39 (by decide) (by decide)
      exact ⟨colF w0.heap.size col col_33 (fun n => 0), (.pointer none), rfl, hst.fin (fun n => 0), optP_no⟩
    · intro _ _ _ _ h
      exact h.elim
  | some t_12 =>
    rw [hx_13] at hm rh_8
    replace hm := optC_some hm
    obtain ⟨o_14, rfl, hG_15⟩ := optP_some rh_8
    refine lv (v := (.tuple #[(.pointer (some ⟨o_14.g, 0, none⟩)), (.int .i64 r_5.2)])) rfl rfl (r_move rfl) ?_
    refine lv (v := (.pointer (some ⟨o_14.g, 0, none⟩))) rfl rfl (r_extract rfl rfl) ?_
    refine lv (v := (.int .i64 r_5.2)) rfl rfl (r_extract rfl rfl) ?_
    refine l_alloc (col := col_11) (v := (.pointer none)) 4 rfl Try.zeroValue24 ?_
    intro g_56 w_57 col_58 hg_59 hb_60
    replace h0 := h0.gr hg_59
    replace hG_15 := hG_15.gr hg_59
    replace hmk := hmk.gr hg_59
    replace hst := hst.grow hg_59
    replace hb_60 : Box 24 4 col_58 w_57 g_56 #[(.pointer none)] := hb_60
    refine l_bstore (v := (.pointer (some ⟨o_14.g, 0, none⟩))) hb_60 Try.sizeOf24 rfl rfl (by intro u hu; simp only [Value.cells, List.mem_cons, List.not_mem_nil, or_false] at hu; subst hu; rfl) rfl rfl ?_
    intro w_61 hk_62 hs_63 hb_64
    replace h0 := h0.kp hk_62 (by decide) (by decide)
    replace hG_15 := hG_15.kp hk_62 (by decide) (by decide)
    replace hmk := hmk.kp hk_62 (by decide)
    replace hst := hst.kp hk_62 hs_63 (by decide) (by decide)
    clear hb_60
    replace hb_64 : Box 24 4 col_58 w_61 g_56 #[(.pointer (some ⟨o_14.g, 0, none⟩))] := hb_64
    refine lv (v := (.int .i64 r_5.2)) rfl rfl (r_assign rfl) ?_
    refine lnil ?_
    refine wseq ?_
    refine wseq ?_
    refine wregion ?_
    refine lv (v := (.pointer (some ⟨o0.g, 0, none⟩))) rfl rfl (r_move rfl) ?_
    obtain ⟨r_65, hr_66, hm⟩ := bind_some hm
    refine lc rfl rfl (r_call1 Try.call64 rfl) (c_graph_Graph_Edges N col_58 _ 999 (by decide) o0 p0_g h0 r_65 hr_66) ?_
    rintro _ w_69 ⟨col_71, rv_67, rfl, hg_70, rh_68⟩
    refine ⟨_, rfl, ?_⟩
    replace hG_15 := hG_15.gr hg_70
    replace h0 := h0.gr hg_70
    replace hb_64 := hb_64.gr hg_70
    replace hmk := hmk.gr hg_70
    replace hst := hst.grow hg_70
    refine lnil ?_
    refine wblock ?_
    refine wrange (psl := [14]) (arr := (fun (y : (Int × Int)) (col : Col) (w : World) (args : List Value) => args = [(.agg #[(.int .i64 y.1), (.int .i64 y.2)])])) (ys := r_65) (col := col_71) 498 rfl rh_68 rfl hmk rfl rfl (by rintro _ _ _ _ rfl; rfl) (fun ys_ col_73 w_72 => ∃ (h_74 : List (List Bool)), m_order_copied_L2 ys_ h_74 = some r ∧ St w0 (col0 col) col_73 w_72 ∧ GO 85 86 1 col_73 w_72 o_14 h_74 ∧ Box 24 4 col_73 w_72 g_56 #[(.pointer (some ⟨o_14.g, 0, none⟩))]) (fun _ _ _ => False) ?_ ?_ ⟨t_12, hm, hst, hG_15, hb_64⟩ ?_ ?_ ?_
    · intro ys_ col_73 w_72 col2_ w2_ hJ hk
      obtain ⟨h_74, hm, hst, h_75, hb_64⟩ := hJ
      exact ⟨h_74, hm, hst.kpp hk rfl rfl, h_75.kpp hk rfl rfl, hb_64.kpp hk rfl⟩
    · intro _ _ _ _ _ h _
      exact h
    · intro l_82 rc_83 ds_84 y_76 l_77 col_73 w_72 args hJ hrec hmk harr
      obtain ⟨h_74, hm, hst, h_75, hb_64⟩ := hJ
      rw [m_order_copied_L2.eq_2] at hm
      have hki := KeepP.refl pCo col_73 w_72
      subst harr
      refine wregion ?_
      refine l_alloc (col := col_73) (v := (.agg #[(.int .i64 0), (.int .i64 0)])) 5 rfl Try.zeroValue47 ?_
      intro g_85 w_86 col_87 hg_88 hb_89
      replace h_75 := h_75.gr hg_88
      replace hb_64 := hb_64.gr hg_88
      replace hrec := hrec.gr hg_88
      replace hmk := hmk.gr hg_88
      replace hki := hki.gr hg_88
      replace hst := hst.grow hg_88
      replace hb_89 : Box 47 5 col_87 w_86 g_85 #[(.int .i64 0), (.int .i64 0)] := hb_89
      refine l_bstore (v := (.agg #[(.int .i64 y_76.1), (.int .i64 y_76.2)])) hb_89 Try.sizeOf47 rfl rfl (by intro u hu; simp only [Value.cells, List.mem_cons, List.not_mem_nil, or_false] at hu; rcases hu with rfl | rfl <;> rfl) rfl rfl ?_
      intro w_90 hk_91 hs_92 hb_93
      replace h_75 := h_75.kp hk_91 (by decide) (by decide)
      replace hb_64 := hb_64.kp hk_91 (by decide)
      replace hrec := hrec.kp hk_91 (by decide)
      replace hmk := hmk.kp hk_91 (by decide)
      replace hki := hki.kp hk_91 hs_92 rfl
      replace hst := hst.kp hk_91 hs_92 (by decide) (by decide)
      clear hb_89
      replace hb_93 : Box 47 5 col_87 w_90 g_85 #[(.int .i64 y_76.1), (.int .i64 y_76.2)] := hb_93
      refine lnil ?_
      refine ⟨_, hrec, ?_⟩
      intro w_94 rc_95 hk_96 hs_97 hrec2
      replace h_75 := h_75.kp hk_96 (by decide) (by decide)
      replace hb_64 := hb_64.kp hk_96 (by decide)
      replace hb_93 := hb_93.kp hk_96 (by decide)
      replace hmk := hmk.kp hk_96 (by decide)
      replace hki := hki.kp hk_96 hs_97 rfl
      replace hst := hst.kp hk_96 hs_97 (by decide) (by decide)
      clear hrec
      have hrec := hrec2
      clear hrec2
      refine wblock ?_
      refine wregion ?_
      refine lv (v := (.pointer (some ⟨o_14.g, 0, none⟩))) rfl rfl (r_ld Try.isAgg24 rfl hb_64.at1) ?_
      refine lv (v := (.pointer ((some (⟨g_85, 0, none⟩ : Addr)).map (·.add 0)))) rfl rfl (r_fieldAddr (sz := 1) (off := 0) Try.underlying47 rfl Try.sizeOf3 (by decide) rfl rfl ⟨_, _, rfl⟩) ?_
      refine lv (v := (.int .i64 y_76.1)) rfl rfl (r_ld Try.isAgg3 rfl ((hb_93.atN).nth (q := 0) (v := (.int .i64 y_76.1)) rfl)) ?_
      refine lv (v := (.pointer ((some (⟨g_85, 0, none⟩ : Addr)).map (·.add 1)))) rfl rfl (r_fieldAddr (sz := 1) (off := 1) Try.underlying47 rfl Try.sizeOf3 (by decide) rfl rfl ⟨_, _, rfl⟩) ?_
      refine lv (v := (.int .i64 y_76.2)) rfl rfl (r_ld Try.isAgg3 rfl ((hb_93.atN).nth (q := 1) (v := (.int .i64 y_76.2)) rfl)) ?_
      obtain ⟨r_98, hr_99, hm⟩ := bind_some hm
      refine lc rfl rfl (r_call3 Try.call23 rfl rfl rfl) (c_graph_Graph_Join col_87 _ 1 rfl o_14 h_74 y_76.1 y_76.2 h_75 r_98 hr_99) ?_
      rintro _ w_101 ⟨col_103, rfl, hg_102, oh_100⟩
      refine ⟨_, rfl, ?_⟩
      replace hb_64 := hb_64.kpp hg_102 rfl
      replace hrec := hrec.kpp hg_102 rfl
      replace hmk := hmk.kpp hg_102 rfl
      replace hki := hki.trans (hg_102.mono (by first | exact pCo_p2 rfl | exact pCo_p1 rfl | exact pCo_pS rfl | decide))
      replace hst := hst.kpp hg_102 rfl rfl
      clear h_75
      refine lnil ?_
      exact ⟨_, hki, ⟨r_98.2, hm, hst, oh_100, hb_64⟩, hrec, hmk⟩
    · clear hmk
      intro D_78 col_73 w_72 hJ hmk
      obtain ⟨h_74, hm, hst, h_75, hb_64⟩ := hJ
      rw [m_order_copied_L2.eq_1] at hm
      refine wseq ?_
      refine wregion ?_
      refine lv (v := (.pointer (some ⟨o_14.g, 0, none⟩))) rfl rfl (r_ld Try.isAgg24 rfl hb_64.at1) ?_
      refine lv (v := (.pointer (some ⟨o_14.g, 0, none⟩))) rfl rfl (r_assign rfl) ?_
      refine lnil ?_
      refine wret ?_
      cases hm
      refine ⟨_, (D_78 :: []), rfl, hmk, ?_⟩
      intro w_79 hk_80 hs_81
      clear hmk
      replace h_75 := h_75.kp hk_80 (by decide) (by decide)
      replace hst := hst.kp hk_80 hs_81 (by decide) (by decide)
      exact ⟨colF w0.heap.size col col_73 (fun n => bif Nat.beq n 1 then c1 else 0), (.pointer (some ⟨o_14.g, 0, none⟩)), rfl, hst.fin (fun n => bif Nat.beq n 1 then c1 else 0), optP_of ⟨_, rfl, hst.finGO (G := (fun n => bif Nat.beq n 1 then c1 else 0)) rfl h_75 (by decide) (by decide) rfl⟩⟩
    · intro _ _ _ _ h
      exact h.elim



set_option maxRecDepth 100000 in
theorem el3_71V2F16 : ElemOk Try.prog 3 1 8 := ⟨Try.t3, _, rfl, rfl, rfl, rfl, rfl⟩

def m_order_by_v2f16_L1 (N : Nat)  : Nat → (List Int) → (List Int) → Option ((List Int) × Int)
  | 0, _, _ => none
  | n_31 + 1, left_34, list_38 => if (decide (0 < (left_34.length : Int))) = true then ((at? left_34 0).bind fun e_42 => none) else (some (list_38, 0))

def m_order_by_v2f16_J1 (k_82 : Nat) (kk_L3 : (Nat → Int → Int → (List (List Bool)) → Option ((List Int) × Int))) (best_128 : Int) (least_129 : Int) (h_130 : List (List Bool)) : Option ((List Int) × Int) :=
  kk_L3 (k_82 + 1) best_128 least_129 h_130

def m_order_by_v2f16_L3 (N : Nat) (left_62 : List Int) (list_66 : List Int) (kk_L2 : ((List Int) → (List Int) → (List (List Bool)) → Option ((List Int) × Int))) : List Int → Nat → Int → Int → (List (List Bool)) → Option ((List Int) × Int)
  | [], k_82, best_86, least_87, h_88 => (at? left_62 best_86).bind fun e_92 => chk ((list_66.length + [e_92].length) * 8 ≤ 140737488355328 ∧ list_66.length + [e_92].length ≤ maxLen) ((m_graph_Graph_Remove N h_88 e_92).bind fun r_106 => (lib_delete left_62 best_86 (IntKind.i64.wrap (best_86 + 1))).bind fun r_118 => kk_L2 r_118 (list_66 ++ [e_92]) r_106.2.2)
  | x_90 :: l_91, k_82, best_86, least_87, h_88 => (m_graph_Graph_Fill h_88 x_90).bind fun r_132 => if (decide (r_132 < least_87)) = true then (m_order_by_v2f16_J1 k_82 (m_order_by_v2f16_L3 N left_62 list_66 kk_L2 l_91) (IntKind.i64.wrap ((k_82 : Int) + 1)) r_132 h_88) else (m_order_by_v2f16_J1 k_82 (m_order_by_v2f16_L3 N left_62 list_66 kk_L2 l_91) best_86 least_87 h_88)

def m_order_by_v2f16_L2 (N : Nat)  : Nat → (List Int) → (List Int) → (List (List Bool)) → Option ((List Int) × Int)
  | 0, _, _, _ => none
  | n_59 + 1, left_62, list_66, h_70 => if (decide (0 < (left_62.length : Int))) = true then ((at? left_62 0).bind fun e_72 => (m_graph_Graph_Fill h_70 e_72).bind fun r_74 => chk ((0 : Int) ≤ 1 ∧ 1 ≤ (left_62.length : Int)) (m_order_by_v2f16_L3 N left_62 list_66 (m_order_by_v2f16_L2 N n_59) (left_62.drop (Int.toNat 1)) 0 0 r_74 h_70)) else (some (list_66, 0))

def m_order_by_v2f16 (N : Nat) (p0_g : List (List Bool)) (p1_points : (List Int)) : Option ((List Int) × Int) :=
  (m_order_wrong p0_g p1_points).bind fun r_1 => if (!decide (r_1 = 0)) = true then (some (([] : List Int), r_1)) else ((m_order_copied N p0_g).bind fun r_5 => optC (r_5) ((m_slices_Values_int_int p1_points).bind fun r_16 => (m_slices_Sorted_int r_16).bind fun r_23 => m_order_by_v2f16_L1 N N r_23 ([] : List Int)) (fun t_12 => (m_slices_Values_int_int p1_points).bind fun r_44 => (m_slices_Sorted_int r_44).bind fun r_51 => m_order_by_v2f16_L2 N N r_51 ([] : List Int) t_12))

set_option maxRecDepth 100000 in
set_option maxHeartbeats 2000000 in
theorem c_order_by_v2f16 (N : Nat) (c1 : Nat) (col : Col) (w0 : World) (qc0 : Nat) (hqqc0 : qc0 ≠ 0) (o0 : GObj) (p0_g : List (List Bool)) (a1 : Option Addr) (cap1 : Nat) (p1_points : (List Int)) (h0 : GO 85 86 qc0 col w0 o0 p0_g) (h1 : Sl (Rep.int .i64) col w0 a1 cap1 p1_points) (r : ((List Int) × Int)) (hm : m_order_by_v2f16 N p0_g p1_points = some r) :
    Calls Try.prog 71 #[(.pointer (some ⟨o0.g, 0, none⟩)), (.slice a1 p1_points.length cap1), (.func (.func 16) #[] #[])] w0 (fun e w' => ∃ (col' : Col) (ra1 : Option Addr) (rc2 : Nat), e = .returned (.tuple #[(.slice ra1 r.1.length rc2), (.int .i64 r.2)]) ∧ Grow col w0 col' w' ∧ Own (Rep.int .i64) 3 c1 col' w' ra1 rc2 r.1) := by
  refine calls_of2 6 7 (m := 75) (args := [(.pointer (some ⟨o0.g, 0, none⟩)), (.slice a1 p1_points.length cap1), (.func (.func 16) #[] #[])]) Try.func71 rfl rfl rfl rfl rfl ?_
  rw [m_order_by_v2f16.eq_1] at hm
  have hst := St.start col w0
  replace h0 := h0.start0 hqqc0
  replace h1 := h1.keep (Stay.start col w0)
  refine wseq ?_
  refine wregion ?_
  refine lv (v := (.slice none (([] : List Int).length) 0)) rfl rfl (r_assign rfl) ?_
  refine lv (v := (.int .i64 0)) rfl rfl (r_assign rfl) ?_
  refine lnil ?_
  refine wseq ?_
  refine wseq ?_
  refine wregion ?_
  refine lv (v := (.pointer (some ⟨o0.g, 0, none⟩))) rfl rfl (r_move rfl) ?_
  refine lv (v := (.slice a1 p1_points.length cap1)) rfl rfl (r_move rfl) ?_
  obtain ⟨r_1, hr_2, hm⟩ := bind_some hm
  refine lc rfl rfl (r_call2 Try.call75 rfl rfl) (c_order_wrong (col0 col) _ 999 (by decide) o0 p0_g a1 cap1 p1_points h0 h1 r_1 hr_2) ?_
  rintro _ w_3 ⟨rfl, hg_4⟩
  refine ⟨_, rfl, ?_⟩
  replace hg_4 : Grow (col0 col) w0 (col0 col) w_3 := .of_below hg_4
  replace h0 := h0.gr hg_4
  replace h1 := h1.gr hg_4
  replace hst := hst.grow hg_4
  refine lv (v := (.int .i64 r_1)) rfl rfl (r_assign rfl) ?_
  refine lnil ?_
  refine wseq ?_
  refine wregion ?_
  refine lv (v := (.int .i64 r_1)) rfl rfl (r_move rfl) ?_
  refine lv (v := (.bool (!decide (r_1 = 0)))) rfl rfl (r_neq r_1 0 rfl rfl) ?_
  refine lnil ?_
  refine wcond (!decide (r_1 = 0)) rfl (fun hb => ?_) (fun hb => ?_)
  · rw [if_pos hb] at hm
    clear hb
    refine wseq ?_
    refine wregion ?_
    refine lv (v := (.int .i64 r_1)) rfl rfl (r_move rfl) ?_
    refine lv (v := (.slice none (([] : List Int).length) 0)) rfl rfl (r_assign rfl) ?_
    refine lv (v := (.int .i64 r_1)) rfl rfl (r_assign rfl) ?_
    refine lnil ?_
    refine wret ?_
    cases hm
    exact ⟨rfl, colF w0.heap.size col (col0 col) (fun n => 0), none, 0, rfl, hst.fin (fun n => 0), Own.nil⟩
  · rw [if_neg (by rw [hb]; decide)] at hm
    clear hb
    refine wskip ?_
    refine wseq ?_
    refine wregion ?_
    refine lv (v := (.pointer (some ⟨o0.g, 0, none⟩))) rfl rfl (r_move rfl) ?_
    obtain ⟨r_5, hr_6, hm⟩ := bind_some hm
    refine lc rfl rfl (r_call1 Try.call76 rfl) (c_order_copied N 1 (col0 col) _ 999 (by decide) o0 p0_g h0 r_5 hr_6) ?_
    rintro _ w_9 ⟨col_11, rv_7, rfl, hg_10, rh_8⟩
    refine ⟨_, rfl, ?_⟩
    replace h1 := h1.gr hg_10
    replace h0 := h0.gr hg_10
    replace hst := hst.grow hg_10
    cases hx_13 : r_5 with
    | none =>
      rw [hx_13] at hm rh_8
      replace hm := optC_none hm
      obtain rfl := optP_none rh_8
      clear rh_8
      refine lv (v := (.pointer none)) rfl rfl (r_assign rfl) ?_
      refine lnil ?_
      refine wseq ?_
      refine wregion ?_
      refine lv (v := (.slice a1 p1_points.length cap1)) rfl rfl (r_move rfl) ?_
      obtain ⟨r_16, hr_17, hm⟩ := bind_some hm
      refine lc rfl rfl (r_call1 Try.call80 rfl) (c_slices_Values_int_int col_11 _ a1 cap1 p1_points h1 r_16 hr_17) ?_
      rintro _ w_20 ⟨col_22, rv_18, rfl, hg_21, rh_19⟩
      refine ⟨_, rfl, ?_⟩
      replace h1 := h1.gr hg_21
      replace hst := hst.grow hg_21
      obtain ⟨r_23, hr_24, hm⟩ := bind_some hm
      refine lc rfl rfl (r_call1 Try.call55 rfl) (c_slices_Sorted_int 2 col_22 _ rv_18 r_16 rh_19 r_23 hr_24) ?_
      rintro _ w_28 ⟨col_30, ra_25, rc_26, rfl, hg_29, rh_27⟩
      refine ⟨_, rfl, ?_⟩
      replace rh_19 := rh_19.gr hg_29
      replace hst := hst.grow hg_29
      refine lv (v := (.slice ra_25 r_23.length rc_26)) rfl rfl (r_assign rfl) ?_
      refine lnil ?_
      refine wseq ?_
      refine wregion ?_
      refine lv (v := (.slice none (([] : List Int).length) 0)) rfl rfl (r_assign rfl) ?_
      refine lnil ?_
      refine wseq ?_
      refine wblock ?_
      refine wloop (fun n f w_32 => ∃ (col_33 : Col) (a_35 : Option Addr) (cap_36 : Nat) (left_34 : List Int) (a_39 : Option Addr) (cap_40 : Nat) (list_38 : List Int) (n_31 : Nat), n_31 = n ∧ m_order_by_v2f16_L1 N n_31 left_34 list_38 = some r ∧ St w0 (col0 col) col_33 w_32 ∧ Own (Rep.int .i64) 3 2 col_33 w_32 a_35 cap_36 left_34 ∧ Own (Rep.int .i64) 3 3 col_33 w_32 a_39 cap_40 list_38 ∧ f 10 = (.slice a_35 left_34.length cap_36) ∧ f 11 = (.slice a_39 list_38.length cap_40) ∧ f 2 = (.func (.func 16) #[] #[]) ∧ f 9 = (.pointer none) ∧ f 1000000 = (enc [])) N ⟨col_30, ra_25, rc_26, r_23, none, 0, ([] : List Int), N, rfl, hm, hst, rh_27, Own.nil, rfl, rfl, rfl, rfl, rfl⟩ ?_
      clear hm; intro n f w_32 hI
      obtain ⟨col_33, a_35, cap_36, left_34, a_39, cap_40, list_38, n_31, hn, hm, hst, h_37, h_41, hs10, hs11, hs2, hs9, hs1000000⟩ := hI
      subst hn
      refine .ld (d := 10) (v := (.slice a_35 left_34.length cap_36)) hs10 ?_
      refine .ld (d := 11) (v := (.slice a_39 list_38.length cap_40)) hs11 ?_
      refine .ld (d := 2) (v := (.func (.func 16) #[] #[])) hs2 ?_
      refine .ld (d := 9) (v := (.pointer none)) hs9 ?_
      refine .ld (d := 1000000) (v := (enc [])) hs1000000 ?_
      clear hs10 hs11 hs2 hs9 hs1000000
      cases n_31 with
      | zero => rw [m_order_by_v2f16_L1.eq_1] at hm; cases hm
      | succ n_31 =>
        rw [m_order_by_v2f16_L1.eq_2] at hm
        refine wseq ?_
        refine wseq ?_
        refine wregion ?_
        refine lv (v := (.slice a_35 left_34.length cap_36)) rfl rfl (r_move rfl) ?_
        refine lv (v := (.int .i64 (left_34.length : Int))) rfl rfl (r_len Try.underlying22 rfl) ?_
        refine lv (v := (.bool (decide (0 < (left_34.length : Int))))) rfl rfl (r_gtr (left_34.length : Int) 0 rfl rfl) ?_
        refine lnil ?_
        refine wcond (decide (0 < (left_34.length : Int))) rfl (fun hb => ?_) (fun hb => ?_)
        · rw [if_pos hb] at hm
          clear hb
          refine wskip ?_
          refine wblock ?_
          refine wseq ?_
          refine wregion ?_
          refine lv (v := (.func (.func 16) #[] #[])) rfl rfl (r_move rfl) ?_
          refine lv (v := (.pointer none)) rfl rfl (r_move rfl) ?_
          refine lv (v := (.slice a_35 left_34.length cap_36)) rfl rfl (r_move rfl) ?_
          obtain ⟨e_42, hj_43, hm⟩ := bind_some hm
          refine lv (v := (sptr a_35 (Int.toNat 0 * 1))) rfl rfl (r_idx Try.underlying22 Try.sizeOf3 rfl rfl (at?_some hj_43).1 (at?_some hj_43).2.1 (h_37.addr hj_43)) ?_
          refine lv (v := (.int .i64 e_42)) rfl rfl (r_ld Try.isAgg3 rfl (h_37.atInt hj_43)) ?_
          cases hm
        · rw [if_neg (by rw [hb]; decide)] at hm
          clear hb
          refine wexit (inB_hit ?_)
          refine wseq ?_
          refine wregion ?_
          refine lv (v := (.slice a_39 list_38.length cap_40)) rfl rfl (r_move rfl) ?_
          refine lv (v := (.slice a_39 list_38.length cap_40)) rfl rfl (r_assign rfl) ?_
          refine lv (v := (.int .i64 0)) rfl rfl (r_assign rfl) ?_
          refine lnil ?_
          refine wret ?_
          cases hm
          exact ⟨rfl, colF w0.heap.size col col_33 (fun n => bif Nat.beq n 3 then c1 else 0), a_39, cap_40, rfl, hst.fin (fun n => bif Nat.beq n 3 then c1 else 0), hst.finOwn (g := (fun n => bif Nat.beq n 3 then c1 else 0)) rfl h_41 (by decide) (by decide) rfl⟩
    | some t_12 =>
      rw [hx_13] at hm rh_8
      replace hm := optC_some hm
      obtain ⟨o_14, rfl, hG_15⟩ := optP_some rh_8
      refine lv (v := (.pointer (some ⟨o_14.g, 0, none⟩))) rfl rfl (r_assign rfl) ?_
      refine lnil ?_
      refine wseq ?_
      refine wregion ?_
      refine lv (v := (.slice a1 p1_points.length cap1)) rfl rfl (r_move rfl) ?_
      obtain ⟨r_44, hr_45, hm⟩ := bind_some hm
      refine lc rfl rfl (r_call1 Try.call80 rfl) (c_slices_Values_int_int col_11 _ a1 cap1 p1_points h1 r_44 hr_45) ?_
      rintro _ w_48 ⟨col_50, rv_46, rfl, hg_49, rh_47⟩
      refine ⟨_, rfl, ?_⟩
      replace hG_15 := hG_15.gr hg_49
      replace h1 := h1.gr hg_49
      replace hst := hst.grow hg_49
      obtain ⟨r_51, hr_52, hm⟩ := bind_some hm
      refine lc rfl rfl (r_call1 Try.call55 rfl) (c_slices_Sorted_int 4 col_50 _ rv_46 r_44 rh_47 r_51 hr_52) ?_
      rintro _ w_56 ⟨col_58, ra_53, rc_54, rfl, hg_57, rh_55⟩
      refine ⟨_, rfl, ?_⟩
      replace hG_15 := hG_15.gr hg_57
      replace rh_47 := rh_47.gr hg_57
      replace hst := hst.grow hg_57
      refine lv (v := (.slice ra_53 r_51.length rc_54)) rfl rfl (r_assign rfl) ?_
      refine lnil ?_
      refine wseq ?_
      refine wregion ?_
      refine lv (v := (.slice none (([] : List Int).length) 0)) rfl rfl (r_assign rfl) ?_
      refine lnil ?_
      refine wseq ?_
      refine wblock ?_
      refine wloop (fun n f w_60 => ∃ (col_61 : Col) (a_63 : Option Addr) (cap_64 : Nat) (left_62 : List Int) (a_67 : Option Addr) (cap_68 : Nat) (list_66 : List Int) (h_70 : List (List Bool)) (n_59 : Nat), n_59 = n ∧ m_order_by_v2f16_L2 N n_59 left_62 list_66 h_70 = some r ∧ St w0 (col0 col) col_61 w_60 ∧ Own (Rep.int .i64) 3 4 col_61 w_60 a_63 cap_64 left_62 ∧ Own (Rep.int .i64) 3 5 col_61 w_60 a_67 cap_68 list_66 ∧ GO 85 86 1 col_61 w_60 o_14 h_70 ∧ f 10 = (.slice a_63 left_62.length cap_64) ∧ f 11 = (.slice a_67 list_66.length cap_68) ∧ f 2 = (.func (.func 16) #[] #[]) ∧ f 9 = (.pointer (some ⟨o_14.g, 0, none⟩)) ∧ f 1000000 = (enc [])) N ⟨col_58, ra_53, rc_54, r_51, none, 0, ([] : List Int), t_12, N, rfl, hm, hst, rh_55, Own.nil, hG_15, rfl, rfl, rfl, rfl, rfl⟩ ?_
      clear hm; intro n f w_60 hI
      obtain ⟨col_61, a_63, cap_64, left_62, a_67, cap_68, list_66, h_70, n_59, hn, hm, hst, h_65, h_69, h_71, hs10, hs11, hs2, hs9, hs1000000⟩ := hI
      subst hn
      refine .ld (d := 10) (v := (.slice a_63 left_62.length cap_64)) hs10 ?_
      refine .ld (d := 11) (v := (.slice a_67 list_66.length cap_68)) hs11 ?_
      refine .ld (d := 2) (v := (.func (.func 16) #[] #[])) hs2 ?_
      refine .ld (d := 9) (v := (.pointer (some ⟨o_14.g, 0, none⟩))) hs9 ?_
      refine .ld (d := 1000000) (v := (enc [])) hs1000000 ?_
      clear hs10 hs11 hs2 hs9 hs1000000
      cases n_59 with
      | zero => rw [m_order_by_v2f16_L2.eq_1] at hm; cases hm
      | succ n_59 =>
        rw [m_order_by_v2f16_L2.eq_2] at hm
        refine wseq ?_
        refine wseq ?_
        refine wregion ?_
        refine lv (v := (.slice a_63 left_62.length cap_64)) rfl rfl (r_move rfl) ?_
        refine lv (v := (.int .i64 (left_62.length : Int))) rfl rfl (r_len Try.underlying22 rfl) ?_
        refine lv (v := (.bool (decide (0 < (left_62.length : Int))))) rfl rfl (r_gtr (left_62.length : Int) 0 rfl rfl) ?_
        refine lnil ?_
        refine wcond (decide (0 < (left_62.length : Int))) rfl (fun hb => ?_) (fun hb => ?_)
        · rw [if_pos hb] at hm
          clear hb
          refine wskip ?_
          refine wblock ?_
          refine wseq ?_
          refine wregion ?_
          refine lv (v := (.func (.func 16) #[] #[])) rfl rfl (r_move rfl) ?_
          refine lv (v := (.pointer (some ⟨o_14.g, 0, none⟩))) rfl rfl (r_move rfl) ?_
          refine lv (v := (.slice a_63 left_62.length cap_64)) rfl rfl (r_move rfl) ?_
          obtain ⟨e_72, hj_73, hm⟩ := bind_some hm
          refine lv (v := (sptr a_63 (Int.toNat 0 * 1))) rfl rfl (r_idx Try.underlying22 Try.sizeOf3 rfl rfl (at?_some hj_73).1 (at?_some hj_73).2.1 (h_65.addr hj_73)) ?_
          refine lv (v := (.int .i64 e_72)) rfl rfl (r_ld Try.isAgg3 rfl (h_65.atInt hj_73)) ?_
          obtain ⟨r_74, hr_75, hm⟩ := bind_some hm
          refine lc rfl rfl (r_callv2 Try.call16 rfl rfl rfl) (c_graph_Graph_Fill col_61 _ 1 (by decide) o_14 h_70 e_72 h_71 r_74 hr_75) ?_
          rintro _ w_76 ⟨rfl, hg_77⟩
          refine ⟨_, rfl, ?_⟩
          replace hg_77 : Grow col_61 w_60 col_61 w_76 := .of_below hg_77
          replace h_65 := h_65.gr hg_77
          replace h_69 := h_69.gr hg_77
          replace h_71 := h_71.gr hg_77
          replace hst := hst.grow hg_77
          refine lv (v := (.int .i64 0)) rfl rfl (r_assign rfl) ?_
          refine lv (v := (.int .i64 r_74)) rfl rfl (r_assign rfl) ?_
          refine lnil ?_
          refine wseq ?_
          refine wseq ?_
          refine wregion ?_
          refine lv (v := (.slice a_63 left_62.length cap_64)) rfl rfl (r_move rfl) ?_
          obtain ⟨hb_78, hm⟩ := chk_some hm
          have h_81 := (h_65.que (NB.int (k := .i64))).drop (sz := 1) rfl (Int.toNat 1)
          refine lv (v := .slice (if cap_64 = (Int.toNat 1) then a_63 else a_63.map (·.add ((Int.toNat 1) * 1))) (left_62.length - (Int.toNat 1)) (cap_64 - (Int.toNat 1))) rfl rfl (r_sliceL Try.underlying22 Try.sizeOf3 rfl rfl hb_78.1 hb_78.2) ?_
          generalize (if cap_64 = (Int.toNat 1) then a_63 else a_63.map (·.add ((Int.toNat 1) * 1))) = a_79 at *
          refine .ld (d := 38) (v := (.slice a_79 ((left_62.drop (Int.toNat 1)).length) (cap_64 - (Int.toNat 1)))) (congrArg (fun n => Value.slice a_79 n (cap_64 - (Int.toNat 1))) (List.length_drop (i := (Int.toNat 1)) (l := left_62)).symm) ?_
          refine lv (v := (.int .i64 ((left_62.drop (Int.toNat 1)).length : Int))) rfl rfl (r_len Try.underlying22 rfl) ?_
          refine lv (v := (.int .i64 0)) rfl rfl (r_move rfl) ?_
          refine lnil ?_
          refine wblock ?_
          refine wloop (fun n f w_84 => ∃ (col_85 : Col) (best_86 : Int) (least_87 : Int) (k_82 : Nat) (h_88 : List (List Bool)) (l_83 : List Int), n = l_83.length ∧ (left_62.drop (Int.toNat 1)).drop k_82 = l_83 ∧ m_order_by_v2f16_L3 N left_62 list_66 (m_order_by_v2f16_L2 N n_59) l_83 k_82 best_86 least_87 h_88 = some r ∧ St w0 (col0 col) col_85 w_84 ∧ Own (Rep.int .i64) 3 4 col_85 w_84 a_63 cap_64 left_62 ∧ Own (Rep.int .i64) 3 5 col_85 w_84 a_67 cap_68 list_66 ∧ Que (Rep.int .i64) 3 4 col_85 w_84 a_79 (cap_64 - (Int.toNat 1)) (left_62.drop (Int.toNat 1)) ∧ GO 85 86 1 col_85 w_84 o_14 h_88 ∧ f 40 = (.int .i64 (k_82 : Int)) ∧ f 10 = (.slice a_63 left_62.length cap_64) ∧ f 11 = (.slice a_67 list_66.length cap_68) ∧ f 12 = (.int .i64 best_86) ∧ f 13 = (.int .i64 least_87) ∧ f 2 = (.func (.func 16) #[] #[]) ∧ f 38 = (.slice a_79 ((left_62.drop (Int.toNat 1)).length) (cap_64 - (Int.toNat 1))) ∧ f 39 = (.int .i64 ((left_62.drop (Int.toNat 1)).length : Int)) ∧ f 9 = (.pointer (some ⟨o_14.g, 0, none⟩)) ∧ f 1000000 = (enc [])) (left_62.drop (Int.toNat 1)).length ⟨col_61, 0, r_74, 0, h_70, (left_62.drop (Int.toNat 1)), rfl, rfl, hm, hst, h_65, h_69, h_81, h_71, rfl, rfl, rfl, rfl, rfl, rfl, rfl, rfl, rfl, rfl⟩ ?_
          clear hm; intro n f w_84 hI
          obtain ⟨col_85, best_86, least_87, k_82, h_88, l_83, hn, hl, hm, hst, h_65, h_69, h_81, h_89, hs40, hs10, hs11, hs12, hs13, hs2, hs38, hs39, hs9, hs1000000⟩ := hI
          subst hn
          refine .ld (d := 40) (v := (.int .i64 (k_82 : Int))) hs40 ?_
          refine .ld (d := 10) (v := (.slice a_63 left_62.length cap_64)) hs10 ?_
          refine .ld (d := 11) (v := (.slice a_67 list_66.length cap_68)) hs11 ?_
          refine .ld (d := 12) (v := (.int .i64 best_86)) hs12 ?_
          refine .ld (d := 13) (v := (.int .i64 least_87)) hs13 ?_
          refine .ld (d := 2) (v := (.func (.func 16) #[] #[])) hs2 ?_
          refine .ld (d := 38) (v := (.slice a_79 ((left_62.drop (Int.toNat 1)).length) (cap_64 - (Int.toNat 1)))) hs38 ?_
          refine .ld (d := 39) (v := (.int .i64 ((left_62.drop (Int.toNat 1)).length : Int))) hs39 ?_
          refine .ld (d := 9) (v := (.pointer (some ⟨o_14.g, 0, none⟩))) hs9 ?_
          refine .ld (d := 1000000) (v := (enc [])) hs1000000 ?_
          clear hs40 hs10 hs11 hs12 hs13 hs2 hs38 hs39 hs9 hs1000000
          cases l_83 with
          | nil =>
            have hk : ¬ ((k_82 : Int) < ((left_62.drop (Int.toNat 1)).length : Int)) := by have := List.drop_eq_nil_iff.1 hl; omega
            have hkb := decide_eq_false hk
            rw [m_order_by_v2f16_L3.eq_1] at hm
            refine wseq ?_
            refine wregion ?_
            refine lv (v := (.bool (decide ((k_82 : Int) < ((left_62.drop (Int.toNat 1)).length : Int))))) rfl rfl (r_lss (k_82 : Int) ((left_62.drop (Int.toNat 1)).length : Int) rfl rfl) ?_
            refine lnil ?_
            refine wseq ?_
            refine wcondF (congrArg Value.bool hkb) ?_
            refine wexit (inB_hit ?_)
            refine wseq ?_
            refine wregion ?_
            refine lv (v := (.slice a_67 list_66.length cap_68)) rfl rfl (r_move rfl) ?_
            refine lv (v := (.slice a_63 left_62.length cap_64)) rfl rfl (r_move rfl) ?_
            refine lv (v := (.int .i64 best_86)) rfl rfl (r_move rfl) ?_
            obtain ⟨e_92, hj_93, hm⟩ := bind_some hm
            refine lv (v := (sptr a_63 (Int.toNat best_86 * 1))) rfl rfl (r_idx Try.underlying22 Try.sizeOf3 rfl rfl (at?_some hj_93).1 (at?_some hj_93).2.1 (h_65.addr hj_93)) ?_
            refine lv (v := (.int .i64 e_92)) rfl rfl (r_ld Try.isAgg3 rfl (h_65.atInt hj_93)) ?_
            refine l_lit (col := col_85) (r := (Rep.int .i64)) (xs := [e_92]) [(.int .i64 e_92)] 6 rfl Try.underlying22 el3_71V2F16 rfl rfl rfl rfl rfl rfl (by intro v hv; simp only [List.mem_cons, List.not_mem_nil, or_false] at hv; subst hv; rfl) (RowsH.ofF (Rows.consF (r := (Rep.int .i64)) (x := e_92) (cs := [(.int .i64 e_92)]) (rd_int .i64 e_92) Rows.nil0)) ?_
            intro a_94 w_95 col_96 hg_97 h_98
            replace h_65 := h_65.gr hg_97
            replace h_89 := h_89.gr hg_97
            replace h_69 := h_69.gr hg_97
            replace hst := hst.grow hg_97
            obtain ⟨hb_99, hm⟩ := chk_some hm
            refine l_appendM (col := col_96) (w := w_95) (r := (Rep.int .i64)) (c := 5) (c2 := 5) (xs := list_66) (ys := [e_92]) h_69 (h_98.srcN (NB.int (k := .i64))) rfl Try.underlying22 el3_71V2F16 rfl rfl rfl hb_99.1 hb_99.2 (by decide) ?_
            intro a_100 cap_101 w_102 col_103 hk_104 h_105
            replace h_65 := h_65.kpp hk_104 rfl rfl
            replace h_89 := h_89.kpp hk_104 rfl rfl
            replace h_98 := h_98.kpp hk_104 rfl rfl
            replace hst := hst.kpp hk_104 rfl rfl
            clear h_69
            refine lv (v := (.slice a_100 ((list_66 ++ [e_92]).length) cap_101)) rfl rfl (r_assign rfl) ?_
            refine lnil ?_
            refine wseq ?_
            refine wregion ?_
            refine lv (v := (.pointer (some ⟨o_14.g, 0, none⟩))) rfl rfl (r_move rfl) ?_
            refine lv (v := (.slice a_63 left_62.length cap_64)) rfl rfl (r_move rfl) ?_
            refine lv (v := (.int .i64 best_86)) rfl rfl (r_move rfl) ?_
            refine lv (v := (sptr a_63 (Int.toNat best_86 * 1))) rfl rfl (r_idx Try.underlying22 Try.sizeOf3 rfl rfl (at?_some hj_93).1 (at?_some hj_93).2.1 (h_65.addr hj_93)) ?_
            refine lv (v := (.int .i64 e_92)) rfl rfl (r_ld Try.isAgg3 rfl (h_65.atInt hj_93)) ?_
            obtain ⟨r_106, hr_107, hm⟩ := bind_some hm
            refine lc rfl rfl (r_call2 Try.call17 rfl rfl) (c_graph_Graph_Remove N 7 8 col_103 _ 1 rfl o_14 h_88 e_92 h_89 r_106 hr_107) ?_
            rintro _ w_115 ⟨col_117, ra_108, rc_109, ra_111, rc_112, rfl, hg_116, rh_110, rh_113, oh_114⟩
            refine ⟨_, rfl, ?_⟩
            replace h_65 := h_65.kpp hg_116 rfl rfl
            replace h_105 := h_105.kpp hg_116 rfl rfl
            replace hst := hst.kpp hg_116 rfl rfl
            clear h_89
            refine lnil ?_
            refine wregion ?_
            refine lv (v := (.slice a_63 left_62.length cap_64)) rfl rfl (r_move rfl) ?_
            refine lv (v := (.int .i64 best_86)) rfl rfl (r_move rfl) ?_
            refine lv (v := (.int .i64 best_86)) rfl rfl (r_move rfl) ?_
            refine lv (v := (.int .i64 (IntKind.i64.wrap (best_86 + 1)))) rfl rfl (r_add best_86 1 rfl rfl) ?_
            obtain ⟨r_118, hr_119, hm⟩ := bind_some hm
            refine lc rfl rfl (r_call3 Try.call104 rfl rfl rfl) (c_delete 4 (by decide) col_117 _ a_63 cap_64 left_62 best_86 (IntKind.i64.wrap (best_86 + 1)) h_65 r_118 hr_119) ?_
            rintro _ w_120 ⟨col_121, a_122, cap_123, rfl, hk_124, h_125⟩
            refine ⟨_, rfl, ?_⟩
            replace oh_114 := oh_114.kpp hk_124 rfl rfl
            replace h_105 := h_105.kpp hk_124 rfl rfl
            replace hst := hst.kpp hk_124 rfl rfl
            clear h_65
            refine lv (v := (.slice a_122 r_118.length cap_123)) rfl rfl (r_assign rfl) ?_
            refine lnil ?_
            exact ⟨n_59, by omega, ⟨col_121, a_122, cap_123, r_118, a_100, cap_101, (list_66 ++ [e_92]), r_106.2.2, n_59, rfl, hm, hst, h_125, h_105, oh_114, rfl, rfl, rfl, rfl, rfl⟩⟩
          | cons x_90 l_91 =>
            obtain ⟨hat, hl2, hlt⟩ := drop_get hl
            have hk : (k_82 : Int) < ((left_62.drop (Int.toNat 1)).length : Int) := by omega
            have hkb := decide_eq_true hk
            rw [m_order_by_v2f16_L3.eq_2] at hm
            refine wseq ?_
            refine wregion ?_
            refine lv (v := (.bool (decide ((k_82 : Int) < ((left_62.drop (Int.toNat 1)).length : Int))))) rfl rfl (r_lss (k_82 : Int) ((left_62.drop (Int.toNat 1)).length : Int) rfl rfl) ?_
            refine lnil ?_
            refine wseq ?_
            refine wcondT (congrArg Value.bool hkb) ?_
            refine wskip ?_
            refine wseq ?_
            refine Wp.cut (fun f w_126 => ∃ (col_127 : Col) (best_128 : Int) (least_129 : Int) (h_130 : List (List Bool)), m_order_by_v2f16_J1 k_82 (m_order_by_v2f16_L3 N left_62 list_66 (m_order_by_v2f16_L2 N n_59) l_91) best_128 least_129 h_130 = some r ∧ St w0 (col0 col) col_127 w_126 ∧ Own (Rep.int .i64) 3 4 col_127 w_126 a_63 cap_64 left_62 ∧ Own (Rep.int .i64) 3 5 col_127 w_126 a_67 cap_68 list_66 ∧ Que (Rep.int .i64) 3 4 col_127 w_126 a_79 (cap_64 - (Int.toNat 1)) (left_62.drop (Int.toNat 1)) ∧ GO 85 86 1 col_127 w_126 o_14 h_130 ∧ f 10 = (.slice a_63 left_62.length cap_64) ∧ f 11 = (.slice a_67 list_66.length cap_68) ∧ f 12 = (.int .i64 best_128) ∧ f 13 = (.int .i64 least_129) ∧ f 2 = (.func (.func 16) #[] #[]) ∧ f 38 = (.slice a_79 ((left_62.drop (Int.toNat 1)).length) (cap_64 - (Int.toNat 1))) ∧ f 39 = (.int .i64 ((left_62.drop (Int.toNat 1)).length : Int)) ∧ f 40 = (.int .i64 (k_82 : Int)) ∧ f 9 = (.pointer (some ⟨o_14.g, 0, none⟩)) ∧ f 1000000 = (enc [])) ?_ ?_
            · intro f w_126 hJ
              obtain ⟨col_127, best_128, least_129, h_130, hm, hst, h_65, h_69, h_81, h_131, hs10, hs11, hs12, hs13, hs2, hs38, hs39, hs40, hs9, hs1000000⟩ := hJ
              rw [m_order_by_v2f16_J1.eq_1] at hm
              refine .ld (d := 10) (v := (.slice a_63 left_62.length cap_64)) hs10 ?_
              refine .ld (d := 11) (v := (.slice a_67 list_66.length cap_68)) hs11 ?_
              refine .ld (d := 12) (v := (.int .i64 best_128)) hs12 ?_
              refine .ld (d := 13) (v := (.int .i64 least_129)) hs13 ?_
              refine .ld (d := 2) (v := (.func (.func 16) #[] #[])) hs2 ?_
              refine .ld (d := 38) (v := (.slice a_79 ((left_62.drop (Int.toNat 1)).length) (cap_64 - (Int.toNat 1)))) hs38 ?_
              refine .ld (d := 39) (v := (.int .i64 ((left_62.drop (Int.toNat 1)).length : Int))) hs39 ?_
              refine .ld (d := 40) (v := (.int .i64 (k_82 : Int))) hs40 ?_
              refine .ld (d := 9) (v := (.pointer (some ⟨o_14.g, 0, none⟩))) hs9 ?_
              refine .ld (d := 1000000) (v := (enc [])) hs1000000 ?_
              clear hs10 hs11 hs12 hs13 hs2 hs38 hs39 hs40 hs9 hs1000000
              refine wregion ?_
              refine lv (v := (.int .i64 (IntKind.i64.wrap ((k_82 : Int) + 1)))) rfl rfl (r_add (k_82 : Int) 1 rfl rfl) ?_
              refine lv (v := (.int .i64 (IntKind.i64.wrap ((k_82 : Int) + 1)))) rfl rfl (r_move rfl) ?_
              refine lnil ?_
              exact ⟨l_91.length, by simp, ⟨col_127, best_128, least_129, (k_82 + 1), h_130, l_91, rfl, hl2, hm, hst, h_65, h_69, h_81, h_131, (congrArg (Value.int .i64) (wrap_succ (Nat.lt_of_lt_of_le hlt h_81.len))), rfl, rfl, rfl, rfl, rfl, rfl, rfl, rfl, rfl⟩⟩
            · refine wblock ?_
              refine wseq ?_
              refine wregion ?_
              refine lv (v := (.int .i64 (k_82 : Int))) rfl rfl (r_move rfl) ?_
              refine lv (v := (sptr a_79 (Int.toNat (k_82 : Int) * 1))) rfl rfl (r_idx Try.underlying22 Try.sizeOf3 rfl rfl (at?_some hat).1 (at?_some hat).2.1 (h_81.addr hat)) ?_
              refine lv (v := (.int .i64 x_90)) rfl rfl (r_ld Try.isAgg3 rfl (h_81.atInt hat)) ?_
              refine lv (v := (.int .i64 (k_82 : Int))) rfl rfl (r_assign rfl) ?_
              refine lv (v := (.int .i64 x_90)) rfl rfl (r_assign rfl) ?_
              refine lnil ?_
              refine wseq ?_
              refine wregion ?_
              refine lv (v := (.func (.func 16) #[] #[])) rfl rfl (r_move rfl) ?_
              refine lv (v := (.pointer (some ⟨o_14.g, 0, none⟩))) rfl rfl (r_move rfl) ?_
              refine lv (v := (.int .i64 x_90)) rfl rfl (r_move rfl) ?_
              obtain ⟨r_132, hr_133, hm⟩ := bind_some hm
              refine lc rfl rfl (r_callv2 Try.call16 rfl rfl rfl) (c_graph_Graph_Fill col_85 _ 1 (by decide) o_14 h_88 x_90 h_89 r_132 hr_133) ?_
              rintro _ w_134 ⟨rfl, hg_135⟩
              refine ⟨_, rfl, ?_⟩
              replace hg_135 : Grow col_85 w_84 col_85 w_134 := .of_below hg_135
              replace h_65 := h_65.gr hg_135
              replace h_69 := h_69.gr hg_135
              replace h_81 := h_81.gr hg_135
              replace h_89 := h_89.gr hg_135
              replace hst := hst.grow hg_135
              refine lv (v := (.int .i64 r_132)) rfl rfl (r_assign rfl) ?_
              refine lnil ?_
              refine wseq ?_
              refine wregion ?_
              refine lv (v := (.int .i64 r_132)) rfl rfl (r_move rfl) ?_
              refine lv (v := (.int .i64 least_87)) rfl rfl (r_move rfl) ?_
              refine lv (v := (.bool (decide (r_132 < least_87)))) rfl rfl (r_lss r_132 least_87 rfl rfl) ?_
              refine lnil ?_
              refine wcond (decide (r_132 < least_87)) rfl (fun hb => ?_) (fun hb => ?_)
              · rw [if_pos hb] at hm
                clear hb
                refine wregion ?_
                refine lv (v := (.int .i64 (k_82 : Int))) rfl rfl (r_move rfl) ?_
                refine lv (v := (.int .i64 (IntKind.i64.wrap ((k_82 : Int) + 1)))) rfl rfl (r_add (k_82 : Int) 1 rfl rfl) ?_
                refine lv (v := (.int .i64 r_132)) rfl rfl (r_move rfl) ?_
                refine lv (v := (.int .i64 (IntKind.i64.wrap ((k_82 : Int) + 1)))) rfl rfl (r_assign rfl) ?_
                refine lv (v := (.int .i64 r_132)) rfl rfl (r_assign rfl) ?_
                refine lnil ?_
                exact ⟨col_85, (IntKind.i64.wrap ((k_82 : Int) + 1)), r_132, h_88, hm, hst, h_65, h_69, h_81, h_89, rfl, rfl, rfl, rfl, rfl, rfl, rfl, rfl, rfl, rfl⟩
              · rw [if_neg (by rw [hb]; decide)] at hm
                clear hb
                refine wskip ?_
                exact ⟨col_85, best_86, least_87, h_88, hm, hst, h_65, h_69, h_81, h_89, rfl, rfl, rfl, rfl, rfl, rfl, rfl, rfl, rfl, rfl⟩
        · rw [if_neg (by rw [hb]; decide)] at hm
          clear hb
          refine wexit (inB_hit ?_)
          refine wseq ?_
          refine wregion ?_
          refine lv (v := (.slice a_67 list_66.length cap_68)) rfl rfl (r_move rfl) ?_
          refine lv (v := (.slice a_67 list_66.length cap_68)) rfl rfl (r_assign rfl) ?_
          refine lv (v := (.int .i64 0)) rfl rfl (r_assign rfl) ?_
          refine lnil ?_
          refine wret ?_
          cases hm
          exact ⟨rfl, colF w0.heap.size col col_61 (fun n => bif Nat.beq n 5 then c1 else 0), a_67, cap_68, rfl, hst.fin (fun n => bif Nat.beq n 5 then c1 else 0), hst.finOwn (g := (fun n => bif Nat.beq n 5 then c1 else 0)) rfl h_69 (by decide) (by decide) rfl⟩




def m_order_Fill (N : Nat) (p0_g : List (List Bool)) (p1_points : (List Int)) : Option ((List Int) × Int) :=
  (m_order_by_v2f16 N p0_g p1_points).bind fun r_1 => some (r_1.1, r_1.2)

set_option maxRecDepth 100000 in
set_option maxHeartbeats 2000000 in
theorem c_order_Fill (N : Nat) (c1 : Nat) (col : Col) (w0 : World) (qc0 : Nat) (hqqc0 : qc0 ≠ 0) (o0 : GObj) (p0_g : List (List Bool)) (a1 : Option Addr) (cap1 : Nat) (p1_points : (List Int)) (h0 : GO 85 86 qc0 col w0 o0 p0_g) (h1 : Sl (Rep.int .i64) col w0 a1 cap1 p1_points) (r : ((List Int) × Int)) (hm : m_order_Fill N p0_g p1_points = some r) :
    Calls Try.prog 32 #[(.pointer (some ⟨o0.g, 0, none⟩)), (.slice a1 p1_points.length cap1)] w0 (fun e w' => ∃ (col' : Col) (ra1 : Option Addr) (rc2 : Nat), e = .returned (.tuple #[(.slice ra1 r.1.length rc2), (.int .i64 r.2)]) ∧ Grow col w0 col' w' ∧ Own (Rep.int .i64) 3 c1 col' w' ra1 rc2 r.1) := by
  refine calls_of2 4 5 (m := 11) (args := [(.pointer (some ⟨o0.g, 0, none⟩)), (.slice a1 p1_points.length cap1)]) Try.func32 rfl rfl rfl rfl rfl ?_
  rw [m_order_Fill.eq_1] at hm
  have hst := St.start col w0
  replace h0 := h0.start0 hqqc0
  replace h1 := h1.keep (Stay.start col w0)
  refine wseq ?_
  refine wregion ?_
  refine lv (v := (.slice none (([] : List Int).length) 0)) rfl rfl (r_assign rfl) ?_
  refine lv (v := (.int .i64 0)) rfl rfl (r_assign rfl) ?_
  refine lnil ?_
  refine wseq ?_
  refine wregion ?_
  refine lv (v := (.pointer (some ⟨o0.g, 0, none⟩))) rfl rfl (r_move rfl) ?_
  refine lv (v := (.slice a1 p1_points.length cap1)) rfl rfl (r_move rfl) ?_
  obtain ⟨r_1, hr_2, hm⟩ := bind_some hm
  refine lc rfl rfl (r_call3 Try.call71 rfl rfl rfl) (c_order_by_v2f16 N 1 (col0 col) _ 999 (by decide) o0 p0_g a1 cap1 p1_points h0 h1 r_1 hr_2) ?_
  rintro _ w_6 ⟨col_8, ra_3, rc_4, rfl, hg_7, rh_5⟩
  refine ⟨_, rfl, ?_⟩
  replace h0 := h0.gr hg_7
  replace h1 := h1.gr hg_7
  replace hst := hst.grow hg_7
  refine lv (v := (.slice ra_3 r_1.1.length rc_4)) rfl rfl (r_extract rfl rfl) ?_
  refine lv (v := (.int .i64 r_1.2)) rfl rfl (r_extract rfl rfl) ?_
  refine lv (v := (.slice ra_3 r_1.1.length rc_4)) rfl rfl (r_assign rfl) ?_
  refine lv (v := (.int .i64 r_1.2)) rfl rfl (r_assign rfl) ?_
  refine lnil ?_
  refine wret ?_
  cases hm
  exact ⟨rfl, colF w0.heap.size col col_8 (fun n => bif Nat.beq n 1 then c1 else 0), ra_3, rc_4, rfl, hst.fin (fun n => bif Nat.beq n 1 then c1 else 0), hst.finOwn (g := (fun n => bif Nat.beq n 1 then c1 else 0)) rfl rh_5 (by decide) (by decide) rfl⟩



set_option maxRecDepth 100000 in
theorem el3_71V2F72 : ElemOk Try.prog 3 1 8 := ⟨Try.t3, _, rfl, rfl, rfl, rfl, rfl⟩

def m_order_by_v2f72_J1 (k_52 : Nat) (kk_L2 : (Nat → Int → Int → Option ((List Int) × Int))) (best_76 : Int) (least_77 : Int) : Option ((List Int) × Int) :=
  kk_L2 (k_52 + 1) best_76 least_77

def m_order_by_v2f72_L2 (left_34 : List Int) (list_38 : List Int) : List Int → Nat → Int → Int → Option ((List Int) × Int)
  | [], k_52, best_56, least_57 => (at? left_34 best_56).bind fun e_60 => chk ((list_38.length + [e_60].length) * 8 ≤ 140737488355328 ∧ list_38.length + [e_60].length ≤ maxLen) none
  | x_58 :: l_59, k_52, best_56, least_57 => (m_order_Degree_1_v0n x_58).bind fun r_78 => if (decide (r_78 < least_57)) = true then (m_order_by_v2f72_J1 k_52 (m_order_by_v2f72_L2 left_34 list_38 l_59) (IntKind.i64.wrap ((k_52 : Int) + 1)) r_78) else (m_order_by_v2f72_J1 k_52 (m_order_by_v2f72_L2 left_34 list_38 l_59) best_56 least_57)

def m_order_by_v2f72_L1 (N : Nat)  : Nat → (List Int) → (List Int) → Option ((List Int) × Int)
  | 0, _, _ => none
  | n_31 + 1, left_34, list_38 => if (decide (0 < (left_34.length : Int))) = true then ((at? left_34 0).bind fun e_42 => (m_order_Degree_1_v0n e_42).bind fun r_44 => chk ((0 : Int) ≤ 1 ∧ 1 ≤ (left_34.length : Int)) (m_order_by_v2f72_L2 left_34 list_38 (left_34.drop (Int.toNat 1)) 0 0 r_44)) else (some (list_38, 0))

def m_order_by_v2f72_J2 (k_120 : Nat) (kk_L4 : (Nat → Int → Int → (List (List Bool)) → Option ((List Int) × Int))) (best_166 : Int) (least_167 : Int) (h_168 : List (List Bool)) : Option ((List Int) × Int) :=
  kk_L4 (k_120 + 1) best_166 least_167 h_168

def m_order_by_v2f72_L4 (N : Nat) (left_100 : List Int) (list_104 : List Int) (kk_L3 : ((List Int) → (List Int) → (List (List Bool)) → Option ((List Int) × Int))) : List Int → Nat → Int → Int → (List (List Bool)) → Option ((List Int) × Int)
  | [], k_120, best_124, least_125, h_126 => (at? left_100 best_124).bind fun e_130 => chk ((list_104.length + [e_130].length) * 8 ≤ 140737488355328 ∧ list_104.length + [e_130].length ≤ maxLen) ((m_graph_Graph_Remove N h_126 e_130).bind fun r_144 => (lib_delete left_100 best_124 (IntKind.i64.wrap (best_124 + 1))).bind fun r_156 => kk_L3 r_156 (list_104 ++ [e_130]) r_144.2.2)
  | x_128 :: l_129, k_120, best_124, least_125, h_126 => (m_order_Degree_1 h_126 x_128).bind fun r_170 => if (decide (r_170 < least_125)) = true then (m_order_by_v2f72_J2 k_120 (m_order_by_v2f72_L4 N left_100 list_104 kk_L3 l_129) (IntKind.i64.wrap ((k_120 : Int) + 1)) r_170 h_126) else (m_order_by_v2f72_J2 k_120 (m_order_by_v2f72_L4 N left_100 list_104 kk_L3 l_129) best_124 least_125 h_126)

def m_order_by_v2f72_L3 (N : Nat)  : Nat → (List Int) → (List Int) → (List (List Bool)) → Option ((List Int) × Int)
  | 0, _, _, _ => none
  | n_97 + 1, left_100, list_104, h_108 => if (decide (0 < (left_100.length : Int))) = true then ((at? left_100 0).bind fun e_110 => (m_order_Degree_1 h_108 e_110).bind fun r_112 => chk ((0 : Int) ≤ 1 ∧ 1 ≤ (left_100.length : Int)) (m_order_by_v2f72_L4 N left_100 list_104 (m_order_by_v2f72_L3 N n_97) (left_100.drop (Int.toNat 1)) 0 0 r_112 h_108)) else (some (list_104, 0))

def m_order_by_v2f72 (N : Nat) (p0_g : List (List Bool)) (p1_points : (List Int)) : Option ((List Int) × Int) :=
  (m_order_wrong p0_g p1_points).bind fun r_1 => if (!decide (r_1 = 0)) = true then (some (([] : List Int), r_1)) else ((m_order_copied N p0_g).bind fun r_5 => optC (r_5) ((m_slices_Values_int_int p1_points).bind fun r_16 => (m_slices_Sorted_int r_16).bind fun r_23 => m_order_by_v2f72_L1 N N r_23 ([] : List Int)) (fun t_12 => (m_slices_Values_int_int p1_points).bind fun r_82 => (m_slices_Sorted_int r_82).bind fun r_89 => m_order_by_v2f72_L3 N N r_89 ([] : List Int) t_12))

set_option maxRecDepth 100000 in
set_option maxHeartbeats 2000000 in
theorem c_order_by_v2f72 (N : Nat) (c1 : Nat) (col : Col) (w0 : World) (qc0 : Nat) (hqqc0 : qc0 ≠ 0) (o0 : GObj) (p0_g : List (List Bool)) (a1 : Option Addr) (cap1 : Nat) (p1_points : (List Int)) (h0 : GO 85 86 qc0 col w0 o0 p0_g) (h1 : Sl (Rep.int .i64) col w0 a1 cap1 p1_points) (r : ((List Int) × Int)) (hm : m_order_by_v2f72 N p0_g p1_points = some r) :
    Calls Try.prog 71 #[(.pointer (some ⟨o0.g, 0, none⟩)), (.slice a1 p1_points.length cap1), (.func (.func 72) #[] #[])] w0 (fun e w' => ∃ (col' : Col) (ra1 : Option Addr) (rc2 : Nat), e = .returned (.tuple #[(.slice ra1 r.1.length rc2), (.int .i64 r.2)]) ∧ Grow col w0 col' w' ∧ Own (Rep.int .i64) 3 c1 col' w' ra1 rc2 r.1) := by
  refine calls_of2 6 7 (m := 75) (args := [(.pointer (some ⟨o0.g, 0, none⟩)), (.slice a1 p1_points.length cap1), (.func (.func 72) #[] #[])]) Try.func71 rfl rfl rfl rfl rfl ?_
  rw [m_order_by_v2f72.eq_1] at hm
  have hst := St.start col w0
  replace h0 := h0.start0 hqqc0
  replace h1 := h1.keep (Stay.start col w0)
  refine wseq ?_
  refine wregion ?_
  refine lv (v := (.slice none (([] : List Int).length) 0)) rfl rfl (r_assign rfl) ?_
  refine lv (v := (.int .i64 0)) rfl rfl (r_assign rfl) ?_
  refine lnil ?_
  refine wseq ?_
  refine wseq ?_
  refine wregion ?_
  refine lv (v := (.pointer (some ⟨o0.g, 0, none⟩))) rfl rfl (r_move rfl) ?_
  refine lv (v := (.slice a1 p1_points.length cap1)) rfl rfl (r_move rfl) ?_
  obtain ⟨r_1, hr_2, hm⟩ := bind_some hm
  refine lc rfl rfl (r_call2 Try.call75 rfl rfl) (c_order_wrong (col0 col) _ 999 (by decide) o0 p0_g a1 cap1 p1_points h0 h1 r_1 hr_2) ?_
  rintro _ w_3 ⟨rfl, hg_4⟩
  refine ⟨_, rfl, ?_⟩
  replace hg_4 : Grow (col0 col) w0 (col0 col) w_3 := .of_below hg_4
  replace h0 := h0.gr hg_4
  replace h1 := h1.gr hg_4
  replace hst := hst.grow hg_4
  refine lv (v := (.int .i64 r_1)) rfl rfl (r_assign rfl) ?_
  refine lnil ?_
  refine wseq ?_
  refine wregion ?_
  refine lv (v := (.int .i64 r_1)) rfl rfl (r_move rfl) ?_
  refine lv (v := (.bool (!decide (r_1 = 0)))) rfl rfl (r_neq r_1 0 rfl rfl) ?_
  refine lnil ?_
  refine wcond (!decide (r_1 = 0)) rfl (fun hb => ?_) (fun hb => ?_)
  · rw [if_pos hb] at hm
    clear hb
    refine wseq ?_
    refine wregion ?_
    refine lv (v := (.int .i64 r_1)) rfl rfl (r_move rfl) ?_
    refine lv (v := (.slice none (([] : List Int).length) 0)) rfl rfl (r_assign rfl) ?_
    refine lv (v := (.int .i64 r_1)) rfl rfl (r_assign rfl) ?_
    refine lnil ?_
    refine wret ?_
    cases hm
    exact ⟨rfl, colF w0.heap.size col (col0 col) (fun n => 0), none, 0, rfl, hst.fin (fun n => 0), Own.nil⟩
  · rw [if_neg (by rw [hb]; decide)] at hm
    clear hb
    refine wskip ?_
    refine wseq ?_
    refine wregion ?_
    refine lv (v := (.pointer (some ⟨o0.g, 0, none⟩))) rfl rfl (r_move rfl) ?_
    obtain ⟨r_5, hr_6, hm⟩ := bind_some hm
    refine lc rfl rfl (r_call1 Try.call76 rfl) (c_order_copied N 1 (col0 col) _ 999 (by decide) o0 p0_g h0 r_5 hr_6) ?_
    rintro _ w_9 ⟨col_11, rv_7, rfl, hg_10, rh_8⟩
    refine ⟨_, rfl, ?_⟩
    replace h1 := h1.gr hg_10
    replace h0 := h0.gr hg_10
    replace hst := hst.grow hg_10
    cases hx_13 : r_5 with
    | none =>
      rw [hx_13] at hm rh_8
      replace hm := optC_none hm
      obtain rfl := optP_none rh_8
      clear rh_8
      refine lv (v := (.pointer none)) rfl rfl (r_assign rfl) ?_
      refine lnil ?_
      refine wseq ?_
      refine wregion ?_
      refine lv (v := (.slice a1 p1_points.length cap1)) rfl rfl (r_move rfl) ?_
      obtain ⟨r_16, hr_17, hm⟩ := bind_some hm
      refine lc rfl rfl (r_call1 Try.call80 rfl) (c_slices_Values_int_int col_11 _ a1 cap1 p1_points h1 r_16 hr_17) ?_
      rintro _ w_20 ⟨col_22, rv_18, rfl, hg_21, rh_19⟩
      refine ⟨_, rfl, ?_⟩
      replace h1 := h1.gr hg_21
      replace hst := hst.grow hg_21
      obtain ⟨r_23, hr_24, hm⟩ := bind_some hm
      refine lc rfl rfl (r_call1 Try.call55 rfl) (c_slices_Sorted_int 2 col_22 _ rv_18 r_16 rh_19 r_23 hr_24) ?_
      rintro _ w_28 ⟨col_30, ra_25, rc_26, rfl, hg_29, rh_27⟩
      refine ⟨_, rfl, ?_⟩
      replace rh_19 := rh_19.gr hg_29
      replace hst := hst.grow hg_29
      refine lv (v := (.slice ra_25 r_23.length rc_26)) rfl rfl (r_assign rfl) ?_
      refine lnil ?_
      refine wseq ?_
      refine wregion ?_
      refine lv (v := (.slice none (([] : List Int).length) 0)) rfl rfl (r_assign rfl) ?_
      refine lnil ?_
      refine wseq ?_
      refine wblock ?_
      refine wloop (fun n f w_32 => ∃ (col_33 : Col) (a_35 : Option Addr) (cap_36 : Nat) (left_34 : List Int) (a_39 : Option Addr) (cap_40 : Nat) (list_38 : List Int) (n_31 : Nat), n_31 = n ∧ m_order_by_v2f72_L1 N n_31 left_34 list_38 = some r ∧ St w0 (col0 col) col_33 w_32 ∧ Own (Rep.int .i64) 3 2 col_33 w_32 a_35 cap_36 left_34 ∧ Own (Rep.int .i64) 3 3 col_33 w_32 a_39 cap_40 list_38 ∧ f 10 = (.slice a_35 left_34.length cap_36) ∧ f 11 = (.slice a_39 list_38.length cap_40) ∧ f 2 = (.func (.func 72) #[] #[]) ∧ f 9 = (.pointer none) ∧ f 1000000 = (enc [])) N ⟨col_30, ra_25, rc_26, r_23, none, 0, ([] : List Int), N, rfl, hm, hst, rh_27, Own.nil, rfl, rfl, rfl, rfl, rfl⟩ ?_
      clear hm; intro n f w_32 hI
      obtain ⟨col_33, a_35, cap_36, left_34, a_39, cap_40, list_38, n_31, hn, hm, hst, h_37, h_41, hs10, hs11, hs2, hs9, hs1000000⟩ := hI
      subst hn
      refine .ld (d := 10) (v := (.slice a_35 left_34.length cap_36)) hs10 ?_
      refine .ld (d := 11) (v := (.slice a_39 list_38.length cap_40)) hs11 ?_
      refine .ld (d := 2) (v := (.func (.func 72) #[] #[])) hs2 ?_
      refine .ld (d := 9) (v := (.pointer none)) hs9 ?_
      refine .ld (d := 1000000) (v := (enc [])) hs1000000 ?_
      clear hs10 hs11 hs2 hs9 hs1000000
      cases n_31 with
      | zero => rw [m_order_by_v2f72_L1.eq_1] at hm; cases hm
      | succ n_31 =>
        rw [m_order_by_v2f72_L1.eq_2] at hm
        refine wseq ?_
        refine wseq ?_
        refine wregion ?_
        refine lv (v := (.slice a_35 left_34.length cap_36)) rfl rfl (r_move rfl) ?_
        refine lv (v := (.int .i64 (left_34.length : Int))) rfl rfl (r_len Try.underlying22 rfl) ?_
        refine lv (v := (.bool (decide (0 < (left_34.length : Int))))) rfl rfl (r_gtr (left_34.length : Int) 0 rfl rfl) ?_
        refine lnil ?_
        refine wcond (decide (0 < (left_34.length : Int))) rfl (fun hb => ?_) (fun hb => ?_)
        · rw [if_pos hb] at hm
          clear hb
          refine wskip ?_
          refine wblock ?_
          refine wseq ?_
          refine wregion ?_
          refine lv (v := (.func (.func 72) #[] #[])) rfl rfl (r_move rfl) ?_
          refine lv (v := (.pointer none)) rfl rfl (r_move rfl) ?_
          refine lv (v := (.slice a_35 left_34.length cap_36)) rfl rfl (r_move rfl) ?_
          obtain ⟨e_42, hj_43, hm⟩ := bind_some hm
          refine lv (v := (sptr a_35 (Int.toNat 0 * 1))) rfl rfl (r_idx Try.underlying22 Try.sizeOf3 rfl rfl (at?_some hj_43).1 (at?_some hj_43).2.1 (h_37.addr hj_43)) ?_
          refine lv (v := (.int .i64 e_42)) rfl rfl (r_ld Try.isAgg3 rfl (h_37.atInt hj_43)) ?_
          obtain ⟨r_44, hr_45, hm⟩ := bind_some hm
          refine lc rfl rfl (r_callv2 Try.call72 rfl rfl rfl) (c_order_Degree_1_v0n col_33 _ e_42 r_44 hr_45) ?_
          rintro _ w_46 ⟨rfl, hg_47⟩
          refine ⟨_, rfl, ?_⟩
          replace hg_47 : Grow col_33 w_32 col_33 w_46 := .of_below hg_47
          replace h_37 := h_37.gr hg_47
          replace h_41 := h_41.gr hg_47
          replace hst := hst.grow hg_47
          refine lv (v := (.int .i64 0)) rfl rfl (r_assign rfl) ?_
          refine lv (v := (.int .i64 r_44)) rfl rfl (r_assign rfl) ?_
          refine lnil ?_
          refine wseq ?_
          refine wseq ?_
          refine wregion ?_
          refine lv (v := (.slice a_35 left_34.length cap_36)) rfl rfl (r_move rfl) ?_
          obtain ⟨hb_48, hm⟩ := chk_some hm
          have h_51 := (h_37.que (NB.int (k := .i64))).drop (sz := 1) rfl (Int.toNat 1)
          refine lv (v := .slice (if cap_36 = (Int.toNat 1) then a_35 else a_35.map (·.add ((Int.toNat 1) * 1))) (left_34.length - (Int.toNat 1)) (cap_36 - (Int.toNat 1))) rfl rfl (r_sliceL Try.underlying22 Try.sizeOf3 rfl rfl hb_48.1 hb_48.2) ?_
          generalize (if cap_36 = (Int.toNat 1) then a_35 else a_35.map (·.add ((Int.toNat 1) * 1))) = a_49 at *
          refine .ld (d := 38) (v := (.slice a_49 ((left_34.drop (Int.toNat 1)).length) (cap_36 - (Int.toNat 1)))) (congrArg (fun n => Value.slice a_49 n (cap_36 - (Int.toNat 1))) (List.length_drop (i := (Int.toNat 1)) (l := left_34)).symm) ?_
          refine lv (v := (.int .i64 ((left_34.drop (Int.toNat 1)).length : Int))) rfl rfl (r_len Try.underlying22 rfl) ?_
          refine lv (v := (.int .i64 0)) rfl rfl (r_move rfl) ?_
          refine lnil ?_
          refine wblock ?_
          refine wloop (fun n f w_54 => ∃ (col_55 : Col) (best_56 : Int) (least_57 : Int) (k_52 : Nat) (l_53 : List Int), n = l_53.length ∧ (left_34.drop (Int.toNat 1)).drop k_52 = l_53 ∧ m_order_by_v2f72_L2 left_34 list_38 l_53 k_52 best_56 least_57 = some r ∧ St w0 (col0 col) col_55 w_54 ∧ Own (Rep.int .i64) 3 2 col_55 w_54 a_35 cap_36 left_34 ∧ Own (Rep.int .i64) 3 3 col_55 w_54 a_39 cap_40 list_38 ∧ Que (Rep.int .i64) 3 2 col_55 w_54 a_49 (cap_36 - (Int.toNat 1)) (left_34.drop (Int.toNat 1)) ∧ f 40 = (.int .i64 (k_52 : Int)) ∧ f 10 = (.slice a_35 left_34.length cap_36) ∧ f 11 = (.slice a_39 list_38.length cap_40) ∧ f 12 = (.int .i64 best_56) ∧ f 13 = (.int .i64 least_57) ∧ f 2 = (.func (.func 72) #[] #[]) ∧ f 38 = (.slice a_49 ((left_34.drop (Int.toNat 1)).length) (cap_36 - (Int.toNat 1))) ∧ f 39 = (.int .i64 ((left_34.drop (Int.toNat 1)).length : Int)) ∧ f 9 = (.pointer none) ∧ f 1000000 = (enc [])) (left_34.drop (Int.toNat 1)).length ⟨col_33, 0, r_44, 0, (left_34.drop (Int.toNat 1)), rfl, rfl, hm, hst, h_37, h_41, h_51, rfl, rfl, rfl, rfl, rfl, rfl, rfl, rfl, rfl, rfl⟩ ?_
          clear hm; intro n f w_54 hI
          obtain ⟨col_55, best_56, least_57, k_52, l_53, hn, hl, hm, hst, h_37, h_41, h_51, hs40, hs10, hs11, hs12, hs13, hs2, hs38, hs39, hs9, hs1000000⟩ := hI
          subst hn
          refine .ld (d := 40) (v := (.int .i64 (k_52 : Int))) hs40 ?_
          refine .ld (d := 10) (v := (.slice a_35 left_34.length cap_36)) hs10 ?_
          refine .ld (d := 11) (v := (.slice a_39 list_38.length cap_40)) hs11 ?_
          refine .ld (d := 12) (v := (.int .i64 best_56)) hs12 ?_
          refine .ld (d := 13) (v := (.int .i64 least_57)) hs13 ?_
          refine .ld (d := 2) (v := (.func (.func 72) #[] #[])) hs2 ?_
          refine .ld (d := 38) (v := (.slice a_49 ((left_34.drop (Int.toNat 1)).length) (cap_36 - (Int.toNat 1)))) hs38 ?_
          refine .ld (d := 39) (v := (.int .i64 ((left_34.drop (Int.toNat 1)).length : Int))) hs39 ?_
          refine .ld (d := 9) (v := (.pointer none)) hs9 ?_
          refine .ld (d := 1000000) (v := (enc [])) hs1000000 ?_
          clear hs40 hs10 hs11 hs12 hs13 hs2 hs38 hs39 hs9 hs1000000
          cases l_53 with
          | nil =>
            have hk : ¬ ((k_52 : Int) < ((left_34.drop (Int.toNat 1)).length : Int)) := by have := List.drop_eq_nil_iff.1 hl; omega
            have hkb := decide_eq_false hk
            rw [m_order_by_v2f72_L2.eq_1] at hm
            refine wseq ?_
            refine wregion ?_
            refine lv (v := (.bool (decide ((k_52 : Int) < ((left_34.drop (Int.toNat 1)).length : Int))))) rfl rfl (r_lss (k_52 : Int) ((left_34.drop (Int.toNat 1)).length : Int) rfl rfl) ?_
            refine lnil ?_
            refine wseq ?_
            refine wcondF (congrArg Value.bool hkb) ?_
            refine wexit (inB_hit ?_)
            refine wseq ?_
            refine wregion ?_
            refine lv (v := (.slice a_39 list_38.length cap_40)) rfl rfl (r_move rfl) ?_
            refine lv (v := (.slice a_35 left_34.length cap_36)) rfl rfl (r_move rfl) ?_
            refine lv (v := (.int .i64 best_56)) rfl rfl (r_move rfl) ?_
            obtain ⟨e_60, hj_61, hm⟩ := bind_some hm
            refine lv (v := (sptr a_35 (Int.toNat best_56 * 1))) rfl rfl (r_idx Try.underlying22 Try.sizeOf3 rfl rfl (at?_some hj_61).1 (at?_some hj_61).2.1 (h_37.addr hj_61)) ?_
            refine lv (v := (.int .i64 e_60)) rfl rfl (r_ld Try.isAgg3 rfl (h_37.atInt hj_61)) ?_
            refine l_lit (col := col_55) (r := (Rep.int .i64)) (xs := [e_60]) [(.int .i64 e_60)] 4 rfl Try.underlying22 el3_71V2F72 rfl rfl rfl rfl rfl rfl (by intro v hv; simp only [List.mem_cons, List.not_mem_nil, or_false] at hv; subst hv; rfl) (RowsH.ofF (Rows.consF (r := (Rep.int .i64)) (x := e_60) (cs := [(.int .i64 e_60)]) (rd_int .i64 e_60) Rows.nil0)) ?_
            intro a_62 w_63 col_64 hg_65 h_66
            replace h_37 := h_37.gr hg_65
            replace h_41 := h_41.gr hg_65
            replace hst := hst.grow hg_65
            obtain ⟨hb_67, hm⟩ := chk_some hm
            refine l_appendM (col := col_64) (w := w_63) (r := (Rep.int .i64)) (c := 3) (c2 := 3) (xs := list_38) (ys := [e_60]) h_41 (h_66.srcN (NB.int (k := .i64))) rfl Try.underlying22 el3_71V2F72 rfl rfl rfl hb_67.1 hb_67.2 (by decide) ?_
            intro a_68 cap_69 w_70 col_71 hk_72 h_73
            replace h_37 := h_37.kpp hk_72 rfl rfl
            replace h_66 := h_66.kpp hk_72 rfl rfl
            replace hst := hst.kpp hk_72 rfl rfl
            clear h_41
            refine lv (v := (.slice a_68 ((list_38 ++ [e_60]).length) cap_69)) rfl rfl (r_assign rfl) ?_
            refine lnil ?_
            refine wseq ?_
            refine wregion ?_
            refine lv (v := (.pointer none)) rfl rfl (r_move rfl) ?_
            refine lv (v := (.slice a_35 left_34.length cap_36)) rfl rfl (r_move rfl) ?_
            refine lv (v := (.int .i64 best_56)) rfl rfl (r_move rfl) ?_
            refine lv (v := (sptr a_35 (Int.toNat best_56 * 1))) rfl rfl (r_idx Try.underlying22 Try.sizeOf3 rfl rfl (at?_some hj_61).1 (at?_some hj_61).2.1 (h_37.addr hj_61)) ?_
            refine lv (v := (.int .i64 e_60)) rfl rfl (r_ld Try.isAgg3 rfl (h_37.atInt hj_61)) ?_
            cases hm
          | cons x_58 l_59 =>
            obtain ⟨hat, hl2, hlt⟩ := drop_get hl
            have hk : (k_52 : Int) < ((left_34.drop (Int.toNat 1)).length : Int) := by omega
            have hkb := decide_eq_true hk
            rw [m_order_by_v2f72_L2.eq_2] at hm
            refine wseq ?_
            refine wregion ?_
            refine lv (v := (.bool (decide ((k_52 : Int) < ((left_34.drop (Int.toNat 1)).length : Int))))) rfl rfl (r_lss (k_52 : Int) ((left_34.drop (Int.toNat 1)).length : Int) rfl rfl) ?_
            refine lnil ?_
            refine wseq ?_
            refine wcondT (congrArg Value.bool hkb) ?_
            refine wskip ?_
            refine wseq ?_
            refine Wp.cut (fun f w_74 => ∃ (col_75 : Col) (best_76 : Int) (least_77 : Int), m_order_by_v2f72_J1 k_52 (m_order_by_v2f72_L2 left_34 list_38 l_59) best_76 least_77 = some r ∧ St w0 (col0 col) col_75 w_74 ∧ Own (Rep.int .i64) 3 2 col_75 w_74 a_35 cap_36 left_34 ∧ Own (Rep.int .i64) 3 3 col_75 w_74 a_39 cap_40 list_38 ∧ Que (Rep.int .i64) 3 2 col_75 w_74 a_49 (cap_36 - (Int.toNat 1)) (left_34.drop (Int.toNat 1)) ∧ f 10 = (.slice a_35 left_34.length cap_36) ∧ f 11 = (.slice a_39 list_38.length cap_40) ∧ f 12 = (.int .i64 best_76) ∧ f 13 = (.int .i64 least_77) ∧ f 2 = (.func (.func 72) #[] #[]) ∧ f 38 = (.slice a_49 ((left_34.drop (Int.toNat 1)).length) (cap_36 - (Int.toNat 1))) ∧ f 39 = (.int .i64 ((left_34.drop (Int.toNat 1)).length : Int)) ∧ f 40 = (.int .i64 (k_52 : Int)) ∧ f 9 = (.pointer none) ∧ f 1000000 = (enc [])) ?_ ?_
            · intro f w_74 hJ
              obtain ⟨col_75, best_76, least_77, hm, hst, h_37, h_41, h_51, hs10, hs11, hs12, hs13, hs2, hs38, hs39, hs40, hs9, hs1000000⟩ := hJ
              rw [m_order_by_v2f72_J1.eq_1] at hm
              refine .ld (d := 10) (v := (.slice a_35 left_34.length cap_36)) hs10 ?_
              refine .ld (d := 11) (v := (.slice a_39 list_38.length cap_40)) hs11 ?_
              refine .ld (d := 12) (v := (.int .i64 best_76)) hs12 ?_
              refine .ld (d := 13) (v := (.int .i64 least_77)) hs13 ?_
              refine .ld (d := 2) (v := (.func (.func 72) #[] #[])) hs2 ?_
              refine .ld (d := 38) (v := (.slice a_49 ((left_34.drop (Int.toNat 1)).length) (cap_36 - (Int.toNat 1)))) hs38 ?_
              refine .ld (d := 39) (v := (.int .i64 ((left_34.drop (Int.toNat 1)).length : Int))) hs39 ?_
              refine .ld (d := 40) (v := (.int .i64 (k_52 : Int))) hs40 ?_
              refine .ld (d := 9) (v := (.pointer none)) hs9 ?_
              refine .ld (d := 1000000) (v := (enc [])) hs1000000 ?_
              clear hs10 hs11 hs12 hs13 hs2 hs38 hs39 hs40 hs9 hs1000000
              refine wregion ?_
              refine lv (v := (.int .i64 (IntKind.i64.wrap ((k_52 : Int) + 1)))) rfl rfl (r_add (k_52 : Int) 1 rfl rfl) ?_
              refine lv (v := (.int .i64 (IntKind.i64.wrap ((k_52 : Int) + 1)))) rfl rfl (r_move rfl) ?_
              refine lnil ?_
              exact ⟨l_59.length, by simp, ⟨col_75, best_76, least_77, (k_52 + 1), l_59, rfl, hl2, hm, hst, h_37, h_41, h_51, (congrArg (Value.int .i64) (wrap_succ (Nat.lt_of_lt_of_le hlt h_51.len))), rfl, rfl, rfl, rfl, rfl, rfl, rfl, rfl, rfl⟩⟩
            · refine wblock ?_
              refine wseq ?_
              refine wregion ?_
              refine lv (v := (.int .i64 (k_52 : Int))) rfl rfl (r_move rfl) ?_
              refine lv (v := (sptr a_49 (Int.toNat (k_52 : Int) * 1))) rfl rfl (r_idx Try.underlying22 Try.sizeOf3 rfl rfl (at?_some hat).1 (at?_some hat).2.1 (h_51.addr hat)) ?_
              refine lv (v := (.int .i64 x_58)) rfl rfl (r_ld Try.isAgg3 rfl (h_51.atInt hat)) ?_
              refine lv (v := (.int .i64 (k_52 : Int))) rfl rfl (r_assign rfl) ?_
              refine lv (v := (.int .i64 x_58)) rfl rfl (r_assign rfl) ?_
              refine lnil ?_
              refine wseq ?_
              refine wregion ?_
              refine lv (v := (.func (.func 72) #[] #[])) rfl rfl (r_move rfl) ?_
              refine lv (v := (.pointer none)) rfl rfl (r_move rfl) ?_
              refine lv (v := (.int .i64 x_58)) rfl rfl (r_move rfl) ?_
              obtain ⟨r_78, hr_79, hm⟩ := bind_some hm
              refine lc rfl rfl (r_callv2 Try.call72 rfl rfl rfl) (c_order_Degree_1_v0n col_55 _ x_58 r_78 hr_79) ?_
              rintro _ w_80 ⟨rfl, hg_81⟩
              refine ⟨_, rfl, ?_⟩
              replace hg_81 : Grow col_55 w_54 col_55 w_80 := .of_below hg_81
              replace h_37 := h_37.gr hg_81
              replace h_41 := h_41.gr hg_81
              replace h_51 := h_51.gr hg_81
              replace hst := hst.grow hg_81
              refine lv (v := (.int .i64 r_78)) rfl rfl (r_assign rfl) ?_
              refine lnil ?_
              refine wseq ?_
              refine wregion ?_
              refine lv (v := (.int .i64 r_78)) rfl rfl (r_move rfl) ?_
              refine lv (v := (.int .i64 least_57)) rfl rfl (r_move rfl) ?_
              refine lv (v := (.bool (decide (r_78 < least_57)))) rfl rfl (r_lss r_78 least_57 rfl rfl) ?_
              refine lnil ?_
              refine wcond (decide (r_78 < least_57)) rfl (fun hb => ?_) (fun hb => ?_)
              · rw [if_pos hb] at hm
                clear hb
                refine wregion ?_
                refine lv (v := (.int .i64 (k_52 : Int))) rfl rfl (r_move rfl) ?_
                refine lv (v := (.int .i64 (IntKind.i64.wrap ((k_52 : Int) + 1)))) rfl rfl (r_add (k_52 : Int) 1 rfl rfl) ?_
                refine lv (v := (.int .i64 r_78)) rfl rfl (r_move rfl) ?_
                refine lv (v := (.int .i64 (IntKind.i64.wrap ((k_52 : Int) + 1)))) rfl rfl (r_assign rfl) ?_
                refine lv (v := (.int .i64 r_78)) rfl rfl (r_assign rfl) ?_
                refine lnil ?_
                exact ⟨col_55, (IntKind.i64.wrap ((k_52 : Int) + 1)), r_78, hm, hst, h_37, h_41, h_51, rfl, rfl, rfl, rfl, rfl, rfl, rfl, rfl, rfl, rfl⟩
              · rw [if_neg (by rw [hb]; decide)] at hm
                clear hb
                refine wskip ?_
                exact ⟨col_55, best_56, least_57, hm, hst, h_37, h_41, h_51, rfl, rfl, rfl, rfl, rfl, rfl, rfl, rfl, rfl, rfl⟩
        · rw [if_neg (by rw [hb]; decide)] at hm
          clear hb
          refine wexit (inB_hit ?_)
          refine wseq ?_
          refine wregion ?_
          refine lv (v := (.slice a_39 list_38.length cap_40)) rfl rfl (r_move rfl) ?_
          refine lv (v := (.slice a_39 list_38.length cap_40)) rfl rfl (r_assign rfl) ?_
          refine lv (v := (.int .i64 0)) rfl rfl (r_assign rfl) ?_
          refine lnil ?_
          refine wret ?_
          cases hm
          exact ⟨rfl, colF w0.heap.size col col_33 (fun n => bif Nat.beq n 3 then c1 else 0), a_39, cap_40, rfl, hst.fin (fun n => bif Nat.beq n 3 then c1 else 0), hst.finOwn (g := (fun n => bif Nat.beq n 3 then c1 else 0)) rfl h_41 (by decide) (by decide) rfl⟩
    | some t_12 =>
      rw [hx_13] at hm rh_8
      replace hm := optC_some hm
      obtain ⟨o_14, rfl, hG_15⟩ := optP_some rh_8
      refine lv (v := (.pointer (some ⟨o_14.g, 0, none⟩))) rfl rfl (r_assign rfl) ?_
      refine lnil ?_
      refine wseq ?_
      refine wregion ?_
      refine lv (v := (.slice a1 p1_points.length cap1)) rfl rfl (r_move rfl) ?_
      obtain ⟨r_82, hr_83, hm⟩ := bind_some hm
      refine lc rfl rfl (r_call1 Try.call80 rfl) (c_slices_Values_int_int col_11 _ a1 cap1 p1_points h1 r_82 hr_83) ?_
      rintro _ w_86 ⟨col_88, rv_84, rfl, hg_87, rh_85⟩
      refine ⟨_, rfl, ?_⟩
      replace hG_15 := hG_15.gr hg_87
      replace h1 := h1.gr hg_87
      replace hst := hst.grow hg_87
      obtain ⟨r_89, hr_90, hm⟩ := bind_some hm
      refine lc rfl rfl (r_call1 Try.call55 rfl) (c_slices_Sorted_int 5 col_88 _ rv_84 r_82 rh_85 r_89 hr_90) ?_
      rintro _ w_94 ⟨col_96, ra_91, rc_92, rfl, hg_95, rh_93⟩
      refine ⟨_, rfl, ?_⟩
      replace hG_15 := hG_15.gr hg_95
      replace rh_85 := rh_85.gr hg_95
      replace hst := hst.grow hg_95
      refine lv (v := (.slice ra_91 r_89.length rc_92)) rfl rfl (r_assign rfl) ?_
      refine lnil ?_
      refine wseq ?_
      refine wregion ?_
      refine lv (v := (.slice none (([] : List Int).length) 0)) rfl rfl (r_assign rfl) ?_
      refine lnil ?_
      refine wseq ?_
      refine wblock ?_
      refine wloop (fun n f w_98 => ∃ (col_99 : Col) (a_101 : Option Addr) (cap_102 : Nat) (left_100 : List Int) (a_105 : Option Addr) (cap_106 : Nat) (list_104 : List Int) (h_108 : List (List Bool)) (n_97 : Nat), n_97 = n ∧ m_order_by_v2f72_L3 N n_97 left_100 list_104 h_108 = some r ∧ St w0 (col0 col) col_99 w_98 ∧ Own (Rep.int .i64) 3 5 col_99 w_98 a_101 cap_102 left_100 ∧ Own (Rep.int .i64) 3 6 col_99 w_98 a_105 cap_106 list_104 ∧ GO 85 86 1 col_99 w_98 o_14 h_108 ∧ f 10 = (.slice a_101 left_100.length cap_102) ∧ f 11 = (.slice a_105 list_104.length cap_106) ∧ f 2 = (.func (.func 72) #[] #[]) ∧ f 9 = (.pointer (some ⟨o_14.g, 0, none⟩)) ∧ f 1000000 = (enc [])) N ⟨col_96, ra_91, rc_92, r_89, none, 0, ([] : List Int), t_12, N, rfl, hm, hst, rh_93, Own.nil, hG_15, rfl, rfl, rfl, rfl, rfl⟩ ?_
      clear hm; intro n f w_98 hI
      obtain ⟨col_99, a_101, cap_102, left_100, a_105, cap_106, list_104, h_108, n_97, hn, hm, hst, h_103, h_107, h_109, hs10, hs11, hs2, hs9, hs1000000⟩ := hI
      subst hn
      refine .ld (d := 10) (v := (.slice a_101 left_100.length cap_102)) hs10 ?_
      refine .ld (d := 11) (v := (.slice a_105 list_104.length cap_106)) hs11 ?_
      refine .ld (d := 2) (v := (.func (.func 72) #[] #[])) hs2 ?_
      refine .ld (d := 9) (v := (.pointer (some ⟨o_14.g, 0, none⟩))) hs9 ?_
      refine .ld (d := 1000000) (v := (enc [])) hs1000000 ?_
      clear hs10 hs11 hs2 hs9 hs1000000
      cases n_97 with
      | zero => rw [m_order_by_v2f72_L3.eq_1] at hm; cases hm
      | succ n_97 =>
        rw [m_order_by_v2f72_L3.eq_2] at hm
        refine wseq ?_
        refine wseq ?_
        refine wregion ?_
        refine lv (v := (.slice a_101 left_100.length cap_102)) rfl rfl (r_move rfl) ?_
        refine lv (v := (.int .i64 (left_100.length : Int))) rfl rfl (r_len Try.underlying22 rfl) ?_
        refine lv (v := (.bool (decide (0 < (left_100.length : Int))))) rfl rfl (r_gtr (left_100.length : Int) 0 rfl rfl) ?_
        refine lnil ?_
        refine wcond (decide (0 < (left_100.length : Int))) rfl (fun hb => ?_) (fun hb => ?_)
        · rw [if_pos hb] at hm
          clear hb
          refine wskip ?_
          refine wblock ?_
          refine wseq ?_
          refine wregion ?_
          refine lv (v := (.func (.func 72) #[] #[])) rfl rfl (r_move rfl) ?_
          refine lv (v := (.pointer (some ⟨o_14.g, 0, none⟩))) rfl rfl (r_move rfl) ?_
          refine lv (v := (.slice a_101 left_100.length cap_102)) rfl rfl (r_move rfl) ?_
          obtain ⟨e_110, hj_111, hm⟩ := bind_some hm
          refine lv (v := (sptr a_101 (Int.toNat 0 * 1))) rfl rfl (r_idx Try.underlying22 Try.sizeOf3 rfl rfl (at?_some hj_111).1 (at?_some hj_111).2.1 (h_103.addr hj_111)) ?_
          refine lv (v := (.int .i64 e_110)) rfl rfl (r_ld Try.isAgg3 rfl (h_103.atInt hj_111)) ?_
          obtain ⟨r_112, hr_113, hm⟩ := bind_some hm
          refine lc rfl rfl (r_callv2 Try.call72 rfl rfl rfl) (c_order_Degree_1 col_99 _ 1 (by decide) o_14 h_108 e_110 h_109 r_112 hr_113) ?_
          rintro _ w_114 ⟨rfl, hg_115⟩
          refine ⟨_, rfl, ?_⟩
          replace hg_115 : Grow col_99 w_98 col_99 w_114 := .of_below hg_115
          replace h_103 := h_103.gr hg_115
          replace h_107 := h_107.gr hg_115
          replace h_109 := h_109.gr hg_115
          replace hst := hst.grow hg_115
          refine lv (v := (.int .i64 0)) rfl rfl (r_assign rfl) ?_
          refine lv (v := (.int .i64 r_112)) rfl rfl (r_assign rfl) ?_
          refine lnil ?_
          refine wseq ?_
          refine wseq ?_
          refine wregion ?_
          refine lv (v := (.slice a_101 left_100.length cap_102)) rfl rfl (r_move rfl) ?_
          obtain ⟨hb_116, hm⟩ := chk_some hm
          have h_119 := (h_103.que (NB.int (k := .i64))).drop (sz := 1) rfl (Int.toNat 1)
          refine lv (v := .slice (if cap_102 = (Int.toNat 1) then a_101 else a_101.map (·.add ((Int.toNat 1) * 1))) (left_100.length - (Int.toNat 1)) (cap_102 - (Int.toNat 1))) rfl rfl (r_sliceL Try.underlying22 Try.sizeOf3 rfl rfl hb_116.1 hb_116.2) ?_
          generalize (if cap_102 = (Int.toNat 1) then a_101 else a_101.map (·.add ((Int.toNat 1) * 1))) = a_117 at *
          refine .ld (d := 38) (v := (.slice a_117 ((left_100.drop (Int.toNat 1)).length) (cap_102 - (Int.toNat 1)))) (congrArg (fun n => Value.slice a_117 n (cap_102 - (Int.toNat 1))) (List.length_drop (i := (Int.toNat 1)) (l := left_100)).symm) ?_
          refine lv (v := (.int .i64 ((left_100.drop (Int.toNat 1)).length : Int))) rfl rfl (r_len Try.underlying22 rfl) ?_
          refine lv (v := (.int .i64 0)) rfl rfl (r_move rfl) ?_
          refine lnil ?_
          refine wblock ?_
          refine wloop (fun n f w_122 => ∃ (col_123 : Col) (best_124 : Int) (least_125 : Int) (k_120 : Nat) (h_126 : List (List Bool)) (l_121 : List Int), n = l_121.length ∧ (left_100.drop (Int.toNat 1)).drop k_120 = l_121 ∧ m_order_by_v2f72_L4 N left_100 list_104 (m_order_by_v2f72_L3 N n_97) l_121 k_120 best_124 least_125 h_126 = some r ∧ St w0 (col0 col) col_123 w_122 ∧ Own (Rep.int .i64) 3 5 col_123 w_122 a_101 cap_102 left_100 ∧ Own (Rep.int .i64) 3 6 col_123 w_122 a_105 cap_106 list_104 ∧ Que (Rep.int .i64) 3 5 col_123 w_122 a_117 (cap_102 - (Int.toNat 1)) (left_100.drop (Int.toNat 1)) ∧ GO 85 86 1 col_123 w_122 o_14 h_126 ∧ f 40 = (.int .i64 (k_120 : Int)) ∧ f 10 = (.slice a_101 left_100.length cap_102) ∧ f 11 = (.slice a_105 list_104.length cap_106) ∧ f 12 = (.int .i64 best_124) ∧ f 13 = (.int .i64 least_125) ∧ f 2 = (.func (.func 72) #[] #[]) ∧ f 38 = (.slice a_117 ((left_100.drop (Int.toNat 1)).length) (cap_102 - (Int.toNat 1))) ∧ f 39 = (.int .i64 ((left_100.drop (Int.toNat 1)).length : Int)) ∧ f 9 = (.pointer (some ⟨o_14.g, 0, none⟩)) ∧ f 1000000 = (enc [])) (left_100.drop (Int.toNat 1)).length ⟨col_99, 0, r_112, 0, h_108, (left_100.drop (Int.toNat 1)), rfl, rfl, hm, hst, h_103, h_107, h_119, h_109, rfl, rfl, rfl, rfl, rfl, rfl, rfl, rfl, rfl, rfl⟩ ?_
          clear hm; intro n f w_122 hI
          obtain ⟨col_123, best_124, least_125, k_120, h_126, l_121, hn, hl, hm, hst, h_103, h_107, h_119, h_127, hs40, hs10, hs11, hs12, hs13, hs2, hs38, hs39, hs9, hs1000000⟩ := hI
          subst hn
          refine .ld (d := 40) (v := (.int .i64 (k_120 : Int))) hs40 ?_
          refine .ld (d := 10) (v := (.slice a_101 left_100.length cap_102)) hs10 ?_
          refine .ld (d := 11) (v := (.slice a_105 list_104.length cap_106)) hs11 ?_
          refine .ld (d := 12) (v := (.int .i64 best_124)) hs12 ?_
          refine .ld (d := 13) (v := (.int .i64 least_125)) hs13 ?_
          refine .ld (d := 2) (v := (.func (.func 72) #[] #[])) hs2 ?_
          refine .ld (d := 38) (v := (.slice a_117 ((left_100.drop (Int.toNat 1)).length) (cap_102 - (Int.toNat 1)))) hs38 ?_
          refine .ld (d := 39) (v := (.int .i64 ((left_100.drop (Int.toNat 1)).length : Int))) hs39 ?_
          refine .ld (d := 9) (v := (.pointer (some ⟨o_14.g, 0, none⟩))) hs9 ?_
          refine .ld (d := 1000000) (v := (enc [])) hs1000000 ?_
          clear hs40 hs10 hs11 hs12 hs13 hs2 hs38 hs39 hs9 hs1000000
          cases l_121 with
          | nil =>
            have hk : ¬ ((k_120 : Int) < ((left_100.drop (Int.toNat 1)).length : Int)) := by have := List.drop_eq_nil_iff.1 hl; omega
            have hkb := decide_eq_false hk
            rw [m_order_by_v2f72_L4.eq_1] at hm
            refine wseq ?_
            refine wregion ?_
            refine lv (v := (.bool (decide ((k_120 : Int) < ((left_100.drop (Int.toNat 1)).length : Int))))) rfl rfl (r_lss (k_120 : Int) ((left_100.drop (Int.toNat 1)).length : Int) rfl rfl) ?_
            refine lnil ?_
            refine wseq ?_
            refine wcondF (congrArg Value.bool hkb) ?_
            refine wexit (inB_hit ?_)
            refine wseq ?_
            refine wregion ?_
            refine lv (v := (.slice a_105 list_104.length cap_106)) rfl rfl (r_move rfl) ?_
            refine lv (v := (.slice a_101 left_100.length cap_102)) rfl rfl (r_move rfl) ?_
            refine lv (v := (.int .i64 best_124)) rfl rfl (r_move rfl) ?_
            obtain ⟨e_130, hj_131, hm⟩ := bind_some hm
            refine lv (v := (sptr a_101 (Int.toNat best_124 * 1))) rfl rfl (r_idx Try.underlying22 Try.sizeOf3 rfl rfl (at?_some hj_131).1 (at?_some hj_131).2.1 (h_103.addr hj_131)) ?_
            refine lv (v := (.int .i64 e_130)) rfl rfl (r_ld Try.isAgg3 rfl (h_103.atInt hj_131)) ?_
            refine l_lit (col := col_123) (r := (Rep.int .i64)) (xs := [e_130]) [(.int .i64 e_130)] 7 rfl Try.underlying22 el3_71V2F72 rfl rfl rfl rfl rfl rfl (by intro v hv; simp only [List.mem_cons, List.not_mem_nil, or_false] at hv; subst hv; rfl) (RowsH.ofF (Rows.consF (r := (Rep.int .i64)) (x := e_130) (cs := [(.int .i64 e_130)]) (rd_int .i64 e_130) Rows.nil0)) ?_
            intro a_132 w_133 col_134 hg_135 h_136
            replace h_103 := h_103.gr hg_135
            replace h_127 := h_127.gr hg_135
            replace h_107 := h_107.gr hg_135
            replace hst := hst.grow hg_135
            obtain ⟨hb_137, hm⟩ := chk_some hm
            refine l_appendM (col := col_134) (w := w_133) (r := (Rep.int .i64)) (c := 6) (c2 := 6) (xs := list_104) (ys := [e_130]) h_107 (h_136.srcN (NB.int (k := .i64))) rfl Try.underlying22 el3_71V2F72 rfl rfl rfl hb_137.1 hb_137.2 (by decide) ?_
            intro a_138 cap_139 w_140 col_141 hk_142 h_143
            replace h_103 := h_103.kpp hk_142 rfl rfl
            replace h_127 := h_127.kpp hk_142 rfl rfl
            replace h_136 := h_136.kpp hk_142 rfl rfl
            replace hst := hst.kpp hk_142 rfl rfl
            clear h_107
            refine lv (v := (.slice a_138 ((list_104 ++ [e_130]).length) cap_139)) rfl rfl (r_assign rfl) ?_
            refine lnil ?_
            refine wseq ?_
            refine wregion ?_
            refine lv (v := (.pointer (some ⟨o_14.g, 0, none⟩))) rfl rfl (r_move rfl) ?_
            refine lv (v := (.slice a_101 left_100.length cap_102)) rfl rfl (r_move rfl) ?_
            refine lv (v := (.int .i64 best_124)) rfl rfl (r_move rfl) ?_
            refine lv (v := (sptr a_101 (Int.toNat best_124 * 1))) rfl rfl (r_idx Try.underlying22 Try.sizeOf3 rfl rfl (at?_some hj_131).1 (at?_some hj_131).2.1 (h_103.addr hj_131)) ?_
            refine lv (v := (.int .i64 e_130)) rfl rfl (r_ld Try.isAgg3 rfl (h_103.atInt hj_131)) ?_
            obtain ⟨r_144, hr_145, hm⟩ := bind_some hm
            refine lc rfl rfl (r_call2 Try.call17 rfl rfl) (c_graph_Graph_Remove N 8 9 col_141 _ 1 rfl o_14 h_126 e_130 h_127 r_144 hr_145) ?_
            rintro _ w_153 ⟨col_155, ra_146, rc_147, ra_149, rc_150, rfl, hg_154, rh_148, rh_151, oh_152⟩
            refine ⟨_, rfl, ?_⟩
            replace h_103 := h_103.kpp hg_154 rfl rfl
            replace h_143 := h_143.kpp hg_154 rfl rfl
            replace hst := hst.kpp hg_154 rfl rfl
            clear h_127
            refine lnil ?_
            refine wregion ?_
            refine lv (v := (.slice a_101 left_100.length cap_102)) rfl rfl (r_move rfl) ?_
            refine lv (v := (.int .i64 best_124)) rfl rfl (r_move rfl) ?_
            refine lv (v := (.int .i64 best_124)) rfl rfl (r_move rfl) ?_
            refine lv (v := (.int .i64 (IntKind.i64.wrap (best_124 + 1)))) rfl rfl (r_add best_124 1 rfl rfl) ?_
            obtain ⟨r_156, hr_157, hm⟩ := bind_some hm
            refine lc rfl rfl (r_call3 Try.call104 rfl rfl rfl) (c_delete 5 (by decide) col_155 _ a_101 cap_102 left_100 best_124 (IntKind.i64.wrap (best_124 + 1)) h_103 r_156 hr_157) ?_
            rintro _ w_158 ⟨col_159, a_160, cap_161, rfl, hk_162, h_163⟩
            refine ⟨_, rfl, ?_⟩
            replace oh_152 := oh_152.kpp hk_162 rfl rfl
            replace h_143 := h_143.kpp hk_162 rfl rfl
            replace hst := hst.kpp hk_162 rfl rfl
            clear h_103
            refine lv (v := (.slice a_160 r_156.length cap_161)) rfl rfl (r_assign rfl) ?_
            refine lnil ?_
            exact ⟨n_97, by omega, ⟨col_159, a_160, cap_161, r_156, a_138, cap_139, (list_104 ++ [e_130]), r_144.2.2, n_97, rfl, hm, hst, h_163, h_143, oh_152, rfl, rfl, rfl, rfl, rfl⟩⟩
          | cons x_128 l_129 =>
            obtain ⟨hat, hl2, hlt⟩ := drop_get hl
            have hk : (k_120 : Int) < ((left_100.drop (Int.toNat 1)).length : Int) := by omega
            have hkb := decide_eq_true hk
            rw [m_order_by_v2f72_L4.eq_2] at hm
            refine wseq ?_
            refine wregion ?_
            refine lv (v := (.bool (decide ((k_120 : Int) < ((left_100.drop (Int.toNat 1)).length : Int))))) rfl rfl (r_lss (k_120 : Int) ((left_100.drop (Int.toNat 1)).length : Int) rfl rfl) ?_
            refine lnil ?_
            refine wseq ?_
            refine wcondT (congrArg Value.bool hkb) ?_
            refine wskip ?_
            refine wseq ?_
            refine Wp.cut (fun f w_164 => ∃ (col_165 : Col) (best_166 : Int) (least_167 : Int) (h_168 : List (List Bool)), m_order_by_v2f72_J2 k_120 (m_order_by_v2f72_L4 N left_100 list_104 (m_order_by_v2f72_L3 N n_97) l_129) best_166 least_167 h_168 = some r ∧ St w0 (col0 col) col_165 w_164 ∧ Own (Rep.int .i64) 3 5 col_165 w_164 a_101 cap_102 left_100 ∧ Own (Rep.int .i64) 3 6 col_165 w_164 a_105 cap_106 list_104 ∧ Que (Rep.int .i64) 3 5 col_165 w_164 a_117 (cap_102 - (Int.toNat 1)) (left_100.drop (Int.toNat 1)) ∧ GO 85 86 1 col_165 w_164 o_14 h_168 ∧ f 10 = (.slice a_101 left_100.length cap_102) ∧ f 11 = (.slice a_105 list_104.length cap_106) ∧ f 12 = (.int .i64 best_166) ∧ f 13 = (.int .i64 least_167) ∧ f 2 = (.func (.func 72) #[] #[]) ∧ f 38 = (.slice a_117 ((left_100.drop (Int.toNat 1)).length) (cap_102 - (Int.toNat 1))) ∧ f 39 = (.int .i64 ((left_100.drop (Int.toNat 1)).length : Int)) ∧ f 40 = (.int .i64 (k_120 : Int)) ∧ f 9 = (.pointer (some ⟨o_14.g, 0, none⟩)) ∧ f 1000000 = (enc [])) ?_ ?_
            · intro f w_164 hJ
              obtain ⟨col_165, best_166, least_167, h_168, hm, hst, h_103, h_107, h_119, h_169, hs10, hs11, hs12, hs13, hs2, hs38, hs39, hs40, hs9, hs1000000⟩ := hJ
              rw [m_order_by_v2f72_J2.eq_1] at hm
              refine .ld (d := 10) (v := (.slice a_101 left_100.length cap_102)) hs10 ?_
              refine .ld (d := 11) (v := (.slice a_105 list_104.length cap_106)) hs11 ?_
              refine .ld (d := 12) (v := (.int .i64 best_166)) hs12 ?_
              refine .ld (d := 13) (v := (.int .i64 least_167)) hs13 ?_
              refine .ld (d := 2) (v := (.func (.func 72) #[] #[])) hs2 ?_
              refine .ld (d := 38) (v := (.slice a_117 ((left_100.drop (Int.toNat 1)).length) (cap_102 - (Int.toNat 1)))) hs38 ?_
              refine .ld (d := 39) (v := (.int .i64 ((left_100.drop (Int.toNat 1)).length : Int))) hs39 ?_
              refine .ld (d := 40) (v := (.int .i64 (k_120 : Int))) hs40 ?_
              refine .ld (d := 9) (v := (.pointer (some ⟨o_14.g, 0, none⟩))) hs9 ?_
              refine .ld (d := 1000000) (v := (enc [])) hs1000000 ?_
              clear hs10 hs11 hs12 hs13 hs2 hs38 hs39 hs40 hs9 hs1000000
              refine wregion ?_
              refine lv (v := (.int .i64 (IntKind.i64.wrap ((k_120 : Int) + 1)))) rfl rfl (r_add (k_120 : Int) 1 rfl rfl) ?_
              refine lv (v := (.int .i64 (IntKind.i64.wrap ((k_120 : Int) + 1)))) rfl rfl (r_move rfl) ?_
              refine lnil ?_
              exact ⟨l_129.length, by simp, ⟨col_165, best_166, least_167, (k_120 + 1), h_168, l_129, rfl, hl2, hm, hst, h_103, h_107, h_119, h_169, (congrArg (Value.int .i64) (wrap_succ (Nat.lt_of_lt_of_le hlt h_119.len))), rfl, rfl, rfl, rfl, rfl, rfl, rfl, rfl, rfl⟩⟩
            · refine wblock ?_
              refine wseq ?_
              refine wregion ?_
              refine lv (v := (.int .i64 (k_120 : Int))) rfl rfl (r_move rfl) ?_
              refine lv (v := (sptr a_117 (Int.toNat (k_120 : Int) * 1))) rfl rfl (r_idx Try.underlying22 Try.sizeOf3 rfl rfl (at?_some hat).1 (at?_some hat).2.1 (h_119.addr hat)) ?_
              refine lv (v := (.int .i64 x_128)) rfl rfl (r_ld Try.isAgg3 rfl (h_119.atInt hat)) ?_
              refine lv (v := (.int .i64 (k_120 : Int))) rfl rfl (r_assign rfl) ?_
              refine lv (v := (.int .i64 x_128)) rfl rfl (r_assign rfl) ?_
              refine lnil ?_
              refine wseq ?_
              refine wregion ?_
              refine lv (v := (.func (.func 72) #[] #[])) rfl rfl (r_move rfl) ?_
              refine lv (v := (.pointer (some ⟨o_14.g, 0, none⟩))) rfl rfl (r_move rfl) ?_
              refine lv (v := (.int .i64 x_128)) rfl rfl (r_move rfl) ?_
              obtain ⟨r_170, hr_171, hm⟩ := bind_some hm
              refine lc rfl rfl (r_callv2 Try.call72 rfl rfl rfl) (c_order_Degree_1 col_123 _ 1 (by decide) o_14 h_126 x_128 h_127 r_170 hr_171) ?_
              rintro _ w_172 ⟨rfl, hg_173⟩
              refine ⟨_, rfl, ?_⟩
              replace hg_173 : Grow col_123 w_122 col_123 w_172 := .of_below hg_173
              replace h_103 := h_103.gr hg_173
              replace h_107 := h_107.gr hg_173
              replace h_119 := h_119.gr hg_173
              replace h_127 := h_127.gr hg_173
              replace hst := hst.grow hg_173
              refine lv (v := (.int .i64 r_170)) rfl rfl (r_assign rfl) ?_
              refine lnil ?_
              refine wseq ?_
              refine wregion ?_
              refine lv (v := (.int .i64 r_170)) rfl rfl (r_move rfl) ?_
              refine lv (v := (.int .i64 least_125)) rfl rfl (r_move rfl) ?_
              refine lv (v := (.bool (decide (r_170 < least_125)))) rfl rfl (r_lss r_170 least_125 rfl rfl) ?_
              refine lnil ?_
              refine wcond (decide (r_170 < least_125)) rfl (fun hb => ?_) (fun hb => ?_)
              · rw [if_pos hb] at hm
                clear hb
                refine wregion ?_
                refine lv (v := (.int .i64 (k_120 : Int))) rfl rfl (r_move rfl) ?_
                refine lv (v := (.int .i64 (IntKind.i64.wrap ((k_120 : Int) + 1)))) rfl rfl (r_add (k_120 : Int) 1 rfl rfl) ?_
                refine lv (v := (.int .i64 r_170)) rfl rfl (r_move rfl) ?_
                refine lv (v := (.int .i64 (IntKind.i64.wrap ((k_120 : Int) + 1)))) rfl rfl (r_assign rfl) ?_
                refine lv (v := (.int .i64 r_170)) rfl rfl (r_assign rfl) ?_
                refine lnil ?_
                exact ⟨col_123, (IntKind.i64.wrap ((k_120 : Int) + 1)), r_170, h_126, hm, hst, h_103, h_107, h_119, h_127, rfl, rfl, rfl, rfl, rfl, rfl, rfl, rfl, rfl, rfl⟩
              · rw [if_neg (by rw [hb]; decide)] at hm
                clear hb
                refine wskip ?_
                exact ⟨col_123, best_124, least_125, h_126, hm, hst, h_103, h_107, h_119, h_127, rfl, rfl, rfl, rfl, rfl, rfl, rfl, rfl, rfl, rfl⟩
        · rw [if_neg (by rw [hb]; decide)] at hm
          clear hb
          refine wexit (inB_hit ?_)
          refine wseq ?_
          refine wregion ?_
          refine lv (v := (.slice a_105 list_104.length cap_106)) rfl rfl (r_move rfl) ?_
          refine lv (v := (.slice a_105 list_104.length cap_106)) rfl rfl (r_assign rfl) ?_
          refine lv (v := (.int .i64 0)) rfl rfl (r_assign rfl) ?_
          refine lnil ?_
          refine wret ?_
          cases hm
          exact ⟨rfl, colF w0.heap.size col col_99 (fun n => bif Nat.beq n 6 then c1 else 0), a_105, cap_106, rfl, hst.fin (fun n => bif Nat.beq n 6 then c1 else 0), hst.finOwn (g := (fun n => bif Nat.beq n 6 then c1 else 0)) rfl h_107 (by decide) (by decide) rfl⟩




def m_order_Degree (N : Nat) (p0_g : List (List Bool)) (p1_points : (List Int)) : Option ((List Int) × Int) :=
  (m_order_by_v2f72 N p0_g p1_points).bind fun r_1 => some (r_1.1, r_1.2)

set_option maxRecDepth 100000 in
set_option maxHeartbeats 2000000 in
theorem c_order_Degree (N : Nat) (c1 : Nat) (col : Col) (w0 : World) (qc0 : Nat) (hqqc0 : qc0 ≠ 0) (o0 : GObj) (p0_g : List (List Bool)) (a1 : Option Addr) (cap1 : Nat) (p1_points : (List Int)) (h0 : GO 85 86 qc0 col w0 o0 p0_g) (h1 : Sl (Rep.int .i64) col w0 a1 cap1 p1_points) (r : ((List Int) × Int)) (hm : m_order_Degree N p0_g p1_points = some r) :
    Calls Try.prog 33 #[(.pointer (some ⟨o0.g, 0, none⟩)), (.slice a1 p1_points.length cap1)] w0 (fun e w' => ∃ (col' : Col) (ra1 : Option Addr) (rc2 : Nat), e = .returned (.tuple #[(.slice ra1 r.1.length rc2), (.int .i64 r.2)]) ∧ Grow col w0 col' w' ∧ Own (Rep.int .i64) 3 c1 col' w' ra1 rc2 r.1) := by
  refine calls_of2 4 5 (m := 11) (args := [(.pointer (some ⟨o0.g, 0, none⟩)), (.slice a1 p1_points.length cap1)]) Try.func33 rfl rfl rfl rfl rfl ?_
  rw [m_order_Degree.eq_1] at hm
  have hst := St.start col w0
  replace h0 := h0.start0 hqqc0
  replace h1 := h1.keep (Stay.start col w0)
  refine wseq ?_
  refine wregion ?_
  refine lv (v := (.slice none (([] : List Int).length) 0)) rfl rfl (r_assign rfl) ?_
  refine lv (v := (.int .i64 0)) rfl rfl (r_assign rfl) ?_
  refine lnil ?_
  refine wseq ?_
  refine wregion ?_
  refine lv (v := (.pointer (some ⟨o0.g, 0, none⟩))) rfl rfl (r_move rfl) ?_
  refine lv (v := (.slice a1 p1_points.length cap1)) rfl rfl (r_move rfl) ?_
  obtain ⟨r_1, hr_2, hm⟩ := bind_some hm
  refine lc rfl rfl (r_call3 Try.call71 rfl rfl rfl) (c_order_by_v2f72 N 1 (col0 col) _ 999 (by decide) o0 p0_g a1 cap1 p1_points h0 h1 r_1 hr_2) ?_
  rintro _ w_6 ⟨col_8, ra_3, rc_4, rfl, hg_7, rh_5⟩
  refine ⟨_, rfl, ?_⟩
  replace h0 := h0.gr hg_7
  replace h1 := h1.gr hg_7
  replace hst := hst.grow hg_7
  refine lv (v := (.slice ra_3 r_1.1.length rc_4)) rfl rfl (r_extract rfl rfl) ?_
  refine lv (v := (.int .i64 r_1.2)) rfl rfl (r_extract rfl rfl) ?_
  refine lv (v := (.slice ra_3 r_1.1.length rc_4)) rfl rfl (r_assign rfl) ?_
  refine lv (v := (.int .i64 r_1.2)) rfl rfl (r_assign rfl) ?_
  refine lnil ?_
  refine wret ?_
  cases hm
  exact ⟨rfl, colF w0.heap.size col col_8 (fun n => bif Nat.beq n 1 then c1 else 0), ra_3, rc_4, rfl, hst.fin (fun n => bif Nat.beq n 1 then c1 else 0), hst.finOwn (g := (fun n => bif Nat.beq n 1 then c1 else 0)) rfl rh_5 (by decide) (by decide) rfl⟩



set_option maxRecDepth 100000 in
theorem el22_40 : ElemOk Try.prog 22 1 24 := ⟨Try.t22, _, rfl, rfl, rfl, rfl, rfl⟩

def m_order_Cliques_L1  : List Int → (List (List Int)) → Option ((List (List Int)) × Int)
  | [], all_20 => some (all_20, 0)
  | x_24 :: l_25, all_20 => none

def m_order_Cliques_L2 (N : Nat) : List Int → (List (List Bool)) → (List (List Int)) → Option ((List (List Int)) × Int)
  | [], h_30, all_32 => some (all_32, 0)
  | x_36 :: l_37, h_30, all_32 => (m_graph_Graph_Remove N h_30 x_36).bind fun r_38 => chk ((all_32.length + [r_38.1].length) * 24 ≤ 140737488355328 ∧ all_32.length + [r_38.1].length ≤ maxLen) ((m_order_Cliques_L2 N l_37) r_38.2.2 (all_32 ++ [r_38.1]))

def m_order_Cliques (N : Nat) (p0_g : List (List Bool)) (p1_order : (List Int)) : Option ((List (List Int)) × Int) :=
  (m_order_wrong p0_g p1_order).bind fun r_1 => if (!decide (r_1 = 0)) = true then (some (([] : List (List Int)), r_1)) else ((m_order_copied N p0_g).bind fun r_5 => optC (r_5) (m_order_Cliques_L1 p1_order ([] : List (List Int))) (fun t_12 => m_order_Cliques_L2 N p1_order t_12 ([] : List (List Int))))

set_option maxRecDepth 100000 in
set_option maxHeartbeats 2000000 in
theorem c_order_Cliques (N : Nat) (c1 : Nat) (col : Col) (w0 : World) (qc0 : Nat) (hqqc0 : qc0 ≠ 0) (o0 : GObj) (p0_g : List (List Bool)) (a1 : Option Addr) (cap1 : Nat) (p1_order : (List Int)) (h0 : GO 85 86 qc0 col w0 o0 p0_g) (h1 : Sl (Rep.int .i64) col w0 a1 cap1 p1_order) (r : ((List (List Int)) × Int)) (hm : m_order_Cliques N p0_g p1_order = some r) :
    Calls Try.prog 40 #[(.pointer (some ⟨o0.g, 0, none⟩)), (.slice a1 p1_order.length cap1)] w0 (fun e w' => ∃ (col' : Col) (ra1 : Option Addr) (rc2 : Nat), e = .returned (.tuple #[(.slice ra1 r.1.length rc2), (.int .i64 r.2)]) ∧ Grow col w0 col' w' ∧ Own (Rep.row 3 (Rep.int .i64)) 22 c1 col' w' ra1 rc2 r.1) := by
  refine calls_of2 4 5 (m := 39) (args := [(.pointer (some ⟨o0.g, 0, none⟩)), (.slice a1 p1_order.length cap1)]) Try.func40 rfl rfl rfl rfl rfl ?_
  rw [m_order_Cliques.eq_1] at hm
  have hst := St.start col w0
  replace h0 := h0.start0 hqqc0
  replace h1 := h1.keep (Stay.start col w0)
  refine wseq ?_
  refine wregion ?_
  refine lv (v := (.slice none (([] : List (List Int)).length) 0)) rfl rfl (r_assign rfl) ?_
  refine lv (v := (.int .i64 0)) rfl rfl (r_assign rfl) ?_
  refine lnil ?_
  refine wseq ?_
  refine wseq ?_
  refine wregion ?_
  refine lv (v := (.pointer (some ⟨o0.g, 0, none⟩))) rfl rfl (r_move rfl) ?_
  refine lv (v := (.slice a1 p1_order.length cap1)) rfl rfl (r_move rfl) ?_
  obtain ⟨r_1, hr_2, hm⟩ := bind_some hm
  refine lc rfl rfl (r_call2 Try.call75 rfl rfl) (c_order_wrong (col0 col) _ 999 (by decide) o0 p0_g a1 cap1 p1_order h0 h1 r_1 hr_2) ?_
  rintro _ w_3 ⟨rfl, hg_4⟩
  refine ⟨_, rfl, ?_⟩
  replace hg_4 : Grow (col0 col) w0 (col0 col) w_3 := .of_below hg_4
  replace h0 := h0.gr hg_4
  replace h1 := h1.gr hg_4
  replace hst := hst.grow hg_4
  refine lv (v := (.int .i64 r_1)) rfl rfl (r_assign rfl) ?_
  refine lnil ?_
  refine wseq ?_
  refine wregion ?_
  refine lv (v := (.int .i64 r_1)) rfl rfl (r_move rfl) ?_
  refine lv (v := (.bool (!decide (r_1 = 0)))) rfl rfl (r_neq r_1 0 rfl rfl) ?_
  refine lnil ?_
  refine wcond (!decide (r_1 = 0)) rfl (fun hb => ?_) (fun hb => ?_)
  · rw [if_pos hb] at hm
    clear hb
    refine wseq ?_
    refine wregion ?_
    refine lv (v := (.int .i64 r_1)) rfl rfl (r_move rfl) ?_
    refine lv (v := (.slice none (([] : List (List Int)).length) 0)) rfl rfl (r_assign rfl) ?_
    refine lv (v := (.int .i64 r_1)) rfl rfl (r_assign rfl) ?_
    refine lnil ?_
    refine wret ?_
    cases hm
    exact ⟨rfl, colF w0.heap.size col (col0 col) (fun n => 0), none, 0, rfl, hst.fin (fun n => 0), Own.nil⟩
  · rw [if_neg (by rw [hb]; decide)] at hm
    clear hb
    refine wskip ?_
    refine wseq ?_
    refine wregion ?_
    refine lv (v := (.pointer (some ⟨o0.g, 0, none⟩))) rfl rfl (r_move rfl) ?_
    obtain ⟨r_5, hr_6, hm⟩ := bind_some hm
    refine lc rfl rfl (r_call1 Try.call76 rfl) (c_order_copied N 1 (col0 col) _ 999 (by decide) o0 p0_g h0 r_5 hr_6) ?_
    rintro _ w_9 ⟨col_11, rv_7, rfl, hg_10, rh_8⟩
    refine ⟨_, rfl, ?_⟩
    replace h1 := h1.gr hg_10
    replace h0 := h0.gr hg_10
    replace hst := hst.grow hg_10
    cases hx_13 : r_5 with
    | none =>
      rw [hx_13] at hm rh_8
      replace hm := optC_none hm
      obtain rfl := optP_none rh_8
      clear rh_8
      refine lv (v := (.pointer none)) rfl rfl (r_assign rfl) ?_
      refine lnil ?_
      refine wseq ?_
      refine wregion ?_
      refine lv (v := (.slice none (([] : List (List Int)).length) 0)) rfl rfl (r_assign rfl) ?_
      refine lnil ?_
      refine wseq ?_
      refine wseq ?_
      refine wregion ?_
      refine lv (v := (.slice a1 p1_order.length cap1)) rfl rfl (r_move rfl) ?_
      refine lv (v := (.int .i64 (p1_order.length : Int))) rfl rfl (r_len Try.underlying22 rfl) ?_
      refine lv (v := (.int .i64 0)) rfl rfl (r_move rfl) ?_
      refine lnil ?_
      refine wblock ?_
      refine wloop (fun n f w_18 => ∃ (col_19 : Col) (k_16 : Nat) (a_21 : Option Addr) (cap_22 : Nat) (all_20 : List (List Int)) (l_17 : List Int), n = l_17.length ∧ p1_order.drop k_16 = l_17 ∧ m_order_Cliques_L1 l_17 all_20 = some r ∧ St w0 (col0 col) col_19 w_18 ∧ Sl (Rep.int .i64) col_19 w_18 a1 cap1 p1_order ∧ Own (Rep.row 3 (Rep.int .i64)) 22 2 col_19 w_18 a_21 cap_22 all_20 ∧ f 23 = (.int .i64 (k_16 : Int)) ∧ f 21 = (.slice a1 p1_order.length cap1) ∧ f 22 = (.int .i64 (p1_order.length : Int)) ∧ f 7 = (.pointer none) ∧ f 8 = (.slice a_21 all_20.length cap_22) ∧ f 1000000 = (enc [])) p1_order.length ⟨col_11, 0, none, 0, ([] : List (List Int)), p1_order, rfl, rfl, hm, hst, h1, Own.nil, rfl, rfl, rfl, rfl, rfl, rfl⟩ ?_
      clear hm; intro n f w_18 hI
      obtain ⟨col_19, k_16, a_21, cap_22, all_20, l_17, hn, hl, hm, hst, h1, h_23, hs23, hs21, hs22, hs7, hs8, hs1000000⟩ := hI
      subst hn
      refine .ld (d := 23) (v := (.int .i64 (k_16 : Int))) hs23 ?_
      refine .ld (d := 21) (v := (.slice a1 p1_order.length cap1)) hs21 ?_
      refine .ld (d := 22) (v := (.int .i64 (p1_order.length : Int))) hs22 ?_
      refine .ld (d := 7) (v := (.pointer none)) hs7 ?_
      refine .ld (d := 8) (v := (.slice a_21 all_20.length cap_22)) hs8 ?_
      refine .ld (d := 1000000) (v := (enc [])) hs1000000 ?_
      clear hs23 hs21 hs22 hs7 hs8 hs1000000
      cases l_17 with
      | nil =>
        have hk : ¬ ((k_16 : Int) < (p1_order.length : Int)) := by have := List.drop_eq_nil_iff.1 hl; omega
        have hkb := decide_eq_false hk
        rw [m_order_Cliques_L1.eq_1] at hm
        refine wseq ?_
        refine wregion ?_
        refine lv (v := (.bool (decide ((k_16 : Int) < (p1_order.length : Int))))) rfl rfl (r_lss (k_16 : Int) (p1_order.length : Int) rfl rfl) ?_
        refine lnil ?_
        refine wseq ?_
        refine wcondF (congrArg Value.bool hkb) ?_
        refine wexit (inB_hit ?_)
        refine wseq ?_
        refine wregion ?_
        refine lv (v := (.slice a_21 all_20.length cap_22)) rfl rfl (r_move rfl) ?_
        refine lv (v := (.slice a_21 all_20.length cap_22)) rfl rfl (r_assign rfl) ?_
        refine lv (v := (.int .i64 0)) rfl rfl (r_assign rfl) ?_
        refine lnil ?_
        refine wret ?_
        cases hm
        exact ⟨rfl, colF w0.heap.size col col_19 (fun n => bif Nat.beq n 2 then c1 else 0), a_21, cap_22, rfl, hst.fin (fun n => bif Nat.beq n 2 then c1 else 0), hst.finOwn (g := (fun n => bif Nat.beq n 2 then c1 else 0)) rfl h_23 (by decide) (by decide) rfl⟩
      | cons x_24 l_25 =>
        obtain ⟨hat, hl2, hlt⟩ := drop_get hl
        have hk : (k_16 : Int) < (p1_order.length : Int) := by omega
        have hkb := decide_eq_true hk
        rw [m_order_Cliques_L1.eq_2] at hm
        refine wseq ?_
        refine wregion ?_
        refine lv (v := (.bool (decide ((k_16 : Int) < (p1_order.length : Int))))) rfl rfl (r_lss (k_16 : Int) (p1_order.length : Int) rfl rfl) ?_
        refine lnil ?_
        refine wseq ?_
        refine wcondT (congrArg Value.bool hkb) ?_
        refine wskip ?_
        refine wseq ?_
        refine wblock ?_
        refine wseq ?_
        refine wregion ?_
        refine lv (v := (sptr a1 (Int.toNat (k_16 : Int) * 1))) rfl rfl (r_idx Try.underlying22 Try.sizeOf3 rfl rfl (at?_some hat).1 (at?_some hat).2.1 (h1.addr hat)) ?_
        refine lv (v := (.int .i64 x_24)) rfl rfl (r_ld Try.isAgg3 rfl (h1.atInt hat)) ?_
        refine lv (v := (.int .i64 x_24)) rfl rfl (r_assign rfl) ?_
        refine lnil ?_
        refine wseq ?_
        refine wregion ?_
        refine lv (v := (.pointer none)) rfl rfl (r_move rfl) ?_
        refine lv (v := (.int .i64 x_24)) rfl rfl (r_move rfl) ?_
        cases hm
    | some t_12 =>
      rw [hx_13] at hm rh_8
      replace hm := optC_some hm
      obtain ⟨o_14, rfl, hG_15⟩ := optP_some rh_8
      refine lv (v := (.pointer (some ⟨o_14.g, 0, none⟩))) rfl rfl (r_assign rfl) ?_
      refine lnil ?_
      refine wseq ?_
      refine wregion ?_
      refine lv (v := (.slice none (([] : List (List Int)).length) 0)) rfl rfl (r_assign rfl) ?_
      refine lnil ?_
      refine wseq ?_
      refine wseq ?_
      refine wregion ?_
      refine lv (v := (.slice a1 p1_order.length cap1)) rfl rfl (r_move rfl) ?_
      refine lv (v := (.int .i64 (p1_order.length : Int))) rfl rfl (r_len Try.underlying22 rfl) ?_
      refine lv (v := (.int .i64 0)) rfl rfl (r_move rfl) ?_
      refine lnil ?_
      refine wblock ?_
      refine wloop (fun n f w_28 => ∃ (col_29 : Col) (k_26 : Nat) (h_30 : List (List Bool)) (a_33 : Option Addr) (cap_34 : Nat) (all_32 : List (List Int)) (l_27 : List Int), n = l_27.length ∧ p1_order.drop k_26 = l_27 ∧ m_order_Cliques_L2 N l_27 h_30 all_32 = some r ∧ St w0 (col0 col) col_29 w_28 ∧ Sl (Rep.int .i64) col_29 w_28 a1 cap1 p1_order ∧ GO 85 86 1 col_29 w_28 o_14 h_30 ∧ Own (Rep.row 3 (Rep.int .i64)) 22 3 col_29 w_28 a_33 cap_34 all_32 ∧ f 23 = (.int .i64 (k_26 : Int)) ∧ f 21 = (.slice a1 p1_order.length cap1) ∧ f 22 = (.int .i64 (p1_order.length : Int)) ∧ f 7 = (.pointer (some ⟨o_14.g, 0, none⟩)) ∧ f 8 = (.slice a_33 all_32.length cap_34) ∧ f 1000000 = (enc [])) p1_order.length ⟨col_11, 0, t_12, none, 0, ([] : List (List Int)), p1_order, rfl, rfl, hm, hst, h1, hG_15, Own.nil, rfl, rfl, rfl, rfl, rfl, rfl⟩ ?_
      clear hm; intro n f w_28 hI
      obtain ⟨col_29, k_26, h_30, a_33, cap_34, all_32, l_27, hn, hl, hm, hst, h1, h_31, h_35, hs23, hs21, hs22, hs7, hs8, hs1000000⟩ := hI
      subst hn
      refine .ld (d := 23) (v := (.int .i64 (k_26 : Int))) hs23 ?_
      refine .ld (d := 21) (v := (.slice a1 p1_order.length cap1)) hs21 ?_
      refine .ld (d := 22) (v := (.int .i64 (p1_order.length : Int))) hs22 ?_
      refine .ld (d := 7) (v := (.pointer (some ⟨o_14.g, 0, none⟩))) hs7 ?_
      refine .ld (d := 8) (v := (.slice a_33 all_32.length cap_34)) hs8 ?_
      refine .ld (d := 1000000) (v := (enc [])) hs1000000 ?_
      clear hs23 hs21 hs22 hs7 hs8 hs1000000
      cases l_27 with
      | nil =>
        have hk : ¬ ((k_26 : Int) < (p1_order.length : Int)) := by have := List.drop_eq_nil_iff.1 hl; omega
        have hkb := decide_eq_false hk
        rw [m_order_Cliques_L2.eq_1] at hm
        refine wseq ?_
        refine wregion ?_
        refine lv (v := (.bool (decide ((k_26 : Int) < (p1_order.length : Int))))) rfl rfl (r_lss (k_26 : Int) (p1_order.length : Int) rfl rfl) ?_
        refine lnil ?_
        refine wseq ?_
        refine wcondF (congrArg Value.bool hkb) ?_
        refine wexit (inB_hit ?_)
        refine wseq ?_
        refine wregion ?_
        refine lv (v := (.slice a_33 all_32.length cap_34)) rfl rfl (r_move rfl) ?_
        refine lv (v := (.slice a_33 all_32.length cap_34)) rfl rfl (r_assign rfl) ?_
        refine lv (v := (.int .i64 0)) rfl rfl (r_assign rfl) ?_
        refine lnil ?_
        refine wret ?_
        cases hm
        exact ⟨rfl, colF w0.heap.size col col_29 (fun n => bif Nat.beq n 3 then c1 else 0), a_33, cap_34, rfl, hst.fin (fun n => bif Nat.beq n 3 then c1 else 0), hst.finOwn (g := (fun n => bif Nat.beq n 3 then c1 else 0)) rfl h_35 (by decide) (by decide) rfl⟩
      | cons x_36 l_37 =>
        obtain ⟨hat, hl2, hlt⟩ := drop_get hl
        have hk : (k_26 : Int) < (p1_order.length : Int) := by omega
        have hkb := decide_eq_true hk
        rw [m_order_Cliques_L2.eq_2] at hm
        refine wseq ?_
        refine wregion ?_
        refine lv (v := (.bool (decide ((k_26 : Int) < (p1_order.length : Int))))) rfl rfl (r_lss (k_26 : Int) (p1_order.length : Int) rfl rfl) ?_
        refine lnil ?_
        refine wseq ?_
        refine wcondT (congrArg Value.bool hkb) ?_
        refine wskip ?_
        refine wseq ?_
        refine wblock ?_
        refine wseq ?_
        refine wregion ?_
        refine lv (v := (sptr a1 (Int.toNat (k_26 : Int) * 1))) rfl rfl (r_idx Try.underlying22 Try.sizeOf3 rfl rfl (at?_some hat).1 (at?_some hat).2.1 (h1.addr hat)) ?_
        refine lv (v := (.int .i64 x_36)) rfl rfl (r_ld Try.isAgg3 rfl (h1.atInt hat)) ?_
        refine lv (v := (.int .i64 x_36)) rfl rfl (r_assign rfl) ?_
        refine lnil ?_
        refine wseq ?_
        refine wregion ?_
        refine lv (v := (.pointer (some ⟨o_14.g, 0, none⟩))) rfl rfl (r_move rfl) ?_
        refine lv (v := (.int .i64 x_36)) rfl rfl (r_move rfl) ?_
        obtain ⟨r_38, hr_39, hm⟩ := bind_some hm
        refine lc rfl rfl (r_call2 Try.call17 rfl rfl) (c_graph_Graph_Remove N 4 5 col_29 _ 1 rfl o_14 h_30 x_36 h_31 r_38 hr_39) ?_
        rintro _ w_47 ⟨col_49, ra_40, rc_41, ra_43, rc_44, rfl, hg_48, rh_42, rh_45, oh_46⟩
        refine ⟨_, rfl, ?_⟩
        replace h1 := h1.kpp hg_48 rfl
        replace h_35 := h_35.kpp hg_48 rfl rfl
        replace hst := hst.kpp hg_48 rfl rfl
        clear h_31
        refine lv (v := (.tuple #[(.slice ra_40 r_38.1.length rc_41), (.slice ra_43 r_38.2.1.length rc_44)])) rfl rfl (r_move rfl) ?_
        refine lv (v := (.slice ra_40 r_38.1.length rc_41)) rfl rfl (r_extract rfl rfl) ?_
        refine lv (v := (.slice ra_43 r_38.2.1.length rc_44)) rfl rfl (r_extract rfl rfl) ?_
        refine lv (v := (.slice ra_40 r_38.1.length rc_41)) rfl rfl (r_assign rfl) ?_
        refine lv (v := (.slice ra_43 r_38.2.1.length rc_44)) rfl rfl (r_assign rfl) ?_
        refine lnil ?_
        refine wregion ?_
        refine lv (v := (.slice a_33 all_32.length cap_34)) rfl rfl (r_move rfl) ?_
        refine lv (v := (.slice ra_40 r_38.1.length rc_41)) rfl rfl (r_move rfl) ?_
        refine l_lit (col := col_49) (r := (Rep.row 3 (Rep.int .i64))) (xs := [r_38.1]) [(.slice ra_40 r_38.1.length rc_41)] 4 rfl Try.underlying33 el22_40 rfl rfl rfl rfl rfl rfl (by intro v hv; simp only [List.mem_cons, List.not_mem_nil, or_false] at hv; subst hv; rfl) (RowsH.cons1 (cs := [(.slice ra_40 r_38.1.length rc_41)]) rh_42.has Rows.nil0) ?_
        intro a_50 w_51 col_52 hg_53 h_54
        replace h1 := h1.gr hg_53
        replace oh_46 := oh_46.gr hg_53
        replace h_35 := h_35.gr hg_53
        replace rh_42 := rh_42.gr hg_53
        replace hst := hst.grow hg_53
        obtain ⟨hb_55, hm⟩ := chk_some hm
        refine l_appendM (col := col_52) (w := w_51) (r := (Rep.row 3 (Rep.int .i64))) (c := 3) (c2 := 4) (xs := all_32) (ys := [r_38.1]) h_35 (h_54.srcC (by decide)) rfl Try.underlying33 el22_40 rfl rfl rfl hb_55.1 hb_55.2 (by decide) ?_
        intro a_56 cap_57 w_58 col_59 hk_60 h_61
        replace h1 := h1.kpp hk_60 rfl
        replace oh_46 := oh_46.kpp hk_60 rfl rfl
        clear h_54
        replace hst := hst.kpp hk_60 rfl rfl
        clear h_35
        refine lv (v := (.slice a_56 ((all_32 ++ [r_38.1]).length) cap_57)) rfl rfl (r_assign rfl) ?_
        refine lnil ?_
        refine wregion ?_
        refine lv (v := (.int .i64 (IntKind.i64.wrap ((k_26 : Int) + 1)))) rfl rfl (r_add (k_26 : Int) 1 rfl rfl) ?_
        refine lv (v := (.int .i64 (IntKind.i64.wrap ((k_26 : Int) + 1)))) rfl rfl (r_move rfl) ?_
        refine lnil ?_
        exact ⟨l_37.length, by simp, ⟨col_59, (k_26 + 1), r_38.2.2, a_56, cap_57, (all_32 ++ [r_38.1]), l_37, rfl, hl2, hm, hst, h1, oh_46, h_61, (congrArg (Value.int .i64) (wrap_succ (Nat.lt_of_lt_of_le hlt h1.1.1))), rfl, rfl, rfl, rfl, rfl⟩⟩




def m_order_Width_L1 (r_1 : ((List (List Int)) × Int)) : List (List Int) → Int → Option (Int × Int)
  | [], most_13 => some (IntKind.i64.wrap (most_13 - 1), r_1.2)
  | x_14 :: l_15, most_13 => (m_order_Width_L1 r_1 l_15) (if (x_14.length : Int) > most_13 then (x_14.length : Int) else most_13)

def m_order_Width (N : Nat) (p0_g : List (List Bool)) (p1_order : (List Int)) : Option (Int × Int) :=
  (m_order_Cliques N p0_g p1_order).bind fun r_1 => m_order_Width_L1 r_1 r_1.1 1

set_option maxRecDepth 100000 in
set_option maxHeartbeats 2000000 in
theorem c_order_Width (N : Nat) (col : Col) (w0 : World) (qc0 : Nat) (hqqc0 : qc0 ≠ 0) (o0 : GObj) (p0_g : List (List Bool)) (a1 : Option Addr) (cap1 : Nat) (p1_order : (List Int)) (h0 : GO 85 86 qc0 col w0 o0 p0_g) (h1 : Sl (Rep.int .i64) col w0 a1 cap1 p1_order) (r : (Int × Int)) (hm : m_order_Width N p0_g p1_order = some r) :
    Calls Try.prog 42 #[(.pointer (some ⟨o0.g, 0, none⟩)), (.slice a1 p1_order.length cap1)] w0 (fun e w' => e = .returned (.tuple #[(.int .i64 r.1), (.int .i64 r.2)]) ∧ Below w0.heap.size w0 w') := by
  refine calls_of2 4 5 (m := 31) (args := [(.pointer (some ⟨o0.g, 0, none⟩)), (.slice a1 p1_order.length cap1)]) Try.func42 rfl rfl rfl rfl rfl ?_
  rw [m_order_Width.eq_1] at hm
  have hst := St.start col w0
  replace h0 := h0.start0 hqqc0
  replace h1 := h1.keep (Stay.start col w0)
  refine wseq ?_
  refine wregion ?_
  refine lv (v := (.int .i64 0)) rfl rfl (r_assign rfl) ?_
  refine lv (v := (.int .i64 0)) rfl rfl (r_assign rfl) ?_
  refine lnil ?_
  refine wseq ?_
  refine wregion ?_
  refine lv (v := (.pointer (some ⟨o0.g, 0, none⟩))) rfl rfl (r_move rfl) ?_
  refine lv (v := (.slice a1 p1_order.length cap1)) rfl rfl (r_move rfl) ?_
  obtain ⟨r_1, hr_2, hm⟩ := bind_some hm
  refine lc rfl rfl (r_call2 Try.call40 rfl rfl) (c_order_Cliques N 1 (col0 col) _ 999 (by decide) o0 p0_g a1 cap1 p1_order h0 h1 r_1 hr_2) ?_
  rintro _ w_6 ⟨col_8, ra_3, rc_4, rfl, hg_7, rh_5⟩
  refine ⟨_, rfl, ?_⟩
  replace h0 := h0.gr hg_7
  replace h1 := h1.gr hg_7
  replace hst := hst.grow hg_7
  refine lv (v := (.tuple #[(.slice ra_3 r_1.1.length rc_4), (.int .i64 r_1.2)])) rfl rfl (r_move rfl) ?_
  refine lv (v := (.slice ra_3 r_1.1.length rc_4)) rfl rfl (r_extract rfl rfl) ?_
  refine lv (v := (.int .i64 r_1.2)) rfl rfl (r_extract rfl rfl) ?_
  refine lv (v := (.slice ra_3 r_1.1.length rc_4)) rfl rfl (r_assign rfl) ?_
  refine lv (v := (.int .i64 r_1.2)) rfl rfl (r_assign rfl) ?_
  refine lnil ?_
  refine wseq ?_
  refine wregion ?_
  refine lv (v := (.int .i64 1)) rfl rfl (r_assign rfl) ?_
  refine lnil ?_
  refine wseq ?_
  refine wseq ?_
  refine wregion ?_
  refine lv (v := (.slice ra_3 r_1.1.length rc_4)) rfl rfl (r_move rfl) ?_
  refine lv (v := (.int .i64 (r_1.1.length : Int))) rfl rfl (r_len Try.underlying33 rfl) ?_
  refine lv (v := (.int .i64 0)) rfl rfl (r_move rfl) ?_
  refine lnil ?_
  refine wblock ?_
  refine wloop (fun n f w_11 => ∃ (col_12 : Col) (k_9 : Nat) (most_13 : Int) (l_10 : List (List Int)), n = l_10.length ∧ r_1.1.drop k_9 = l_10 ∧ m_order_Width_L1 r_1 l_10 most_13 = some r ∧ St w0 (col0 col) col_12 w_11 ∧ Own (Rep.row 3 (Rep.int .i64)) 22 1 col_12 w_11 ra_3 rc_4 r_1.1 ∧ f 19 = (.int .i64 (k_9 : Int)) ∧ f 17 = (.slice ra_3 r_1.1.length rc_4) ∧ f 18 = (.int .i64 (r_1.1.length : Int)) ∧ f 7 = (.int .i64 r_1.2) ∧ f 8 = (.int .i64 most_13) ∧ f 1000000 = (enc [])) r_1.1.length ⟨col_8, 0, 1, r_1.1, rfl, rfl, hm, hst, rh_5, rfl, rfl, rfl, rfl, rfl, rfl⟩ ?_
  clear hm; intro n f w_11 hI
  obtain ⟨col_12, k_9, most_13, l_10, hn, hl, hm, hst, rh_5, hs19, hs17, hs18, hs7, hs8, hs1000000⟩ := hI
  subst hn
  refine .ld (d := 19) (v := (.int .i64 (k_9 : Int))) hs19 ?_
  refine .ld (d := 17) (v := (.slice ra_3 r_1.1.length rc_4)) hs17 ?_
  refine .ld (d := 18) (v := (.int .i64 (r_1.1.length : Int))) hs18 ?_
  refine .ld (d := 7) (v := (.int .i64 r_1.2)) hs7 ?_
  refine .ld (d := 8) (v := (.int .i64 most_13)) hs8 ?_
  refine .ld (d := 1000000) (v := (enc [])) hs1000000 ?_
  clear hs19 hs17 hs18 hs7 hs8 hs1000000
  cases l_10 with
  | nil =>
    have hk : ¬ ((k_9 : Int) < (r_1.1.length : Int)) := by have := List.drop_eq_nil_iff.1 hl; omega
    have hkb := decide_eq_false hk
    rw [m_order_Width_L1.eq_1] at hm
    refine wseq ?_
    refine wregion ?_
    refine lv (v := (.bool (decide ((k_9 : Int) < (r_1.1.length : Int))))) rfl rfl (r_lss (k_9 : Int) (r_1.1.length : Int) rfl rfl) ?_
    refine lnil ?_
    refine wseq ?_
    refine wcondF (congrArg Value.bool hkb) ?_
    refine wexit (inB_hit ?_)
    refine wseq ?_
    refine wregion ?_
    refine lv (v := (.int .i64 most_13)) rfl rfl (r_move rfl) ?_
    refine lv (v := (.int .i64 (IntKind.i64.wrap (most_13 - 1)))) rfl rfl (r_sub most_13 1 rfl rfl) ?_
    refine lv (v := (.int .i64 r_1.2)) rfl rfl (r_move rfl) ?_
    refine lv (v := (.int .i64 (IntKind.i64.wrap (most_13 - 1)))) rfl rfl (r_assign rfl) ?_
    refine lv (v := (.int .i64 r_1.2)) rfl rfl (r_assign rfl) ?_
    refine lnil ?_
    refine wret ?_
    cases hm
    exact ⟨rfl, rfl, hst.below⟩
  | cons x_14 l_15 =>
    obtain ⟨hat, hl2, hlt⟩ := drop_get hl
    have hk : (k_9 : Int) < (r_1.1.length : Int) := by omega
    have hkb := decide_eq_true hk
    rw [m_order_Width_L1.eq_2] at hm
    refine wseq ?_
    refine wregion ?_
    refine lv (v := (.bool (decide ((k_9 : Int) < (r_1.1.length : Int))))) rfl rfl (r_lss (k_9 : Int) (r_1.1.length : Int) rfl rfl) ?_
    refine lnil ?_
    refine wseq ?_
    refine wcondT (congrArg Value.bool hkb) ?_
    refine wskip ?_
    refine wseq ?_
    refine wblock ?_
    refine wseq ?_
    refine wregion ?_
    refine lv (v := (sptr ra_3 (Int.toNat (k_9 : Int) * 1))) rfl rfl (r_idx Try.underlying33 Try.sizeOf22 rfl rfl (at?_some hat).1 (at?_some hat).2.1 (rh_5.addr hat)) ?_
    obtain ⟨_, hr_16, hA_17⟩ := rh_5.atN hat
    obtain ⟨a_18, cap_19, rfl, h_20⟩ := hr_16.row
    refine lv (v := (.slice a_18 x_14.length cap_19)) rfl rfl (r_ld Try.isAgg22 rfl hA_17.one) ?_
    refine lv (v := (.slice a_18 x_14.length cap_19)) rfl rfl (r_assign rfl) ?_
    refine lnil ?_
    refine wregion ?_
    refine lv (v := (.int .i64 most_13)) rfl rfl (r_move rfl) ?_
    refine lv (v := (.slice a_18 x_14.length cap_19)) rfl rfl (r_move rfl) ?_
    refine lv (v := (.int .i64 (x_14.length : Int))) rfl rfl (r_len Try.underlying22 rfl) ?_
    refine lv (v := (.int .i64 (if (x_14.length : Int) > most_13 then (x_14.length : Int) else most_13))) rfl rfl (r_max most_13 (x_14.length : Int) rfl rfl) ?_
    refine lv (v := (.int .i64 (if (x_14.length : Int) > most_13 then (x_14.length : Int) else most_13))) rfl rfl (r_assign rfl) ?_
    refine lnil ?_
    refine wregion ?_
    refine lv (v := (.int .i64 (IntKind.i64.wrap ((k_9 : Int) + 1)))) rfl rfl (r_add (k_9 : Int) 1 rfl rfl) ?_
    refine lv (v := (.int .i64 (IntKind.i64.wrap ((k_9 : Int) + 1)))) rfl rfl (r_move rfl) ?_
    refine lnil ?_
    exact ⟨l_15.length, by simp, ⟨col_12, (k_9 + 1), (if (x_14.length : Int) > most_13 then (x_14.length : Int) else most_13), l_15, rfl, hl2, hm, hst, rh_5, (congrArg (Value.int .i64) (wrap_succ (Nat.lt_of_lt_of_le hlt rh_5.len))), rfl, rfl, rfl, rfl, rfl⟩⟩


end Go.Proofs.Ytgkofjmeopbkbaa
