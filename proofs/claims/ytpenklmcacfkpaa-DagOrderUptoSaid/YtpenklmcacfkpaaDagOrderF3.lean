/-
  What functions of the program compute, as plain Lean functions (m_..), and proofs that they compute it (c_..). Printed by a program of the author; no conditions.
-/
import Derived.Test.YtpenklmcacfkpaaQue
import Derived.Test.YtpenklmcacfkpaaProg
import Derived.Test.YtpenklmcacfkpaaDagOrderF2
set_option linter.unusedVariables false
namespace Go.Proofs.Ytpenklmcacfkpaa
open Go Go.RowKit


theorem el3_30 : ElemOk Try.prog 3 1 8 := ⟨Try.t3, _, rfl, rfl, rfl, rfl, rfl⟩

def m_dag_ring_J2 (kk_L2 : ((List Int) → (List (Int × Int)) → Option (List Int))) (next_61 : List Int) (far_66 : List (Int × Int)) : Option (List Int) :=
  kk_L2 next_61 far_66

def m_dag_ring_J3 (e_33 : Int) (next_50 : List Int) (far_55 : List (Int × Int)) (kk_L2 : ((List Int) → (List (Int × Int)) → Option (List Int))) (x_57 : Int) (v_71 : Bool) : Option (List Int) :=
  if v_71 = true then ((some (mput far_55 x_57 (IntKind.i64.wrap (((mget far_55 e_33).getD 0) + 1)))).bind fun es_76 => chk ((next_50.length + [x_57].length) * 8 ≤ 140737488355328 ∧ next_50.length + [x_57].length ≤ maxLen) (m_dag_ring_J2 kk_L2 (next_50 ++ [x_57]) es_76)) else (m_dag_ring_J2 kk_L2 next_50 far_55)

def m_dag_ring_L2 (p2_s : Int) (kk_L1 : ((List Int) → (List (Int × Int)) → Option (List Int))) (e_33 : Int) : List Int → (List Int) → (List (Int × Int)) → Option (List Int)
  | [], next_50, far_55 => kk_L1 next_50 far_55
  | x_57 :: l_58, next_50, far_55 => if (!((mget far_55 x_57).isSome)) = true then (m_dag_ring_J3 e_33 next_50 far_55 (m_dag_ring_L2 p2_s kk_L1 e_33 l_58) x_57 (decide (p2_s < x_57))) else (m_dag_ring_J3 e_33 next_50 far_55 (m_dag_ring_L2 p2_s kk_L1 e_33 l_58) x_57 false)

def m_dag_ring_J4 (kk_L5 : (Int → Option (List Int))) (least_146 : Int) : Option (List Int) :=
  kk_L5 least_146

def m_dag_ring_J5 (least_129 : Int) (kk_L5 : (Int → Option (List Int))) (x_130 : Int) (v_152 : Bool) : Option (List Int) :=
  if v_152 = true then (m_dag_ring_J4 kk_L5 x_130) else (m_dag_ring_J4 kk_L5 least_129)

def m_dag_ring_L5 (far_25 : List (Int × Int)) (best_102 : Int) (out_113 : List Int) (kk_L4 : ((List Int) → Int → Option (List Int))) : List Int → Int → Option (List Int)
  | [], least_129 => chk ((out_113.length + [least_129].length) * 8 ≤ 140737488355328 ∧ out_113.length + [least_129].length ≤ maxLen) (kk_L4 (out_113 ++ [least_129]) least_129)
  | x_130 :: l_131, least_129 => if ((mget far_25 x_130).isSome) = true then (if (decide (((mget far_25 x_130).getD 0) = (IntKind.i64.wrap (best_102 - (out_113.length : Int))))) = true then (if (decide (least_129 < 0)) = true then (m_dag_ring_J5 least_129 (m_dag_ring_L5 far_25 best_102 out_113 kk_L4 l_131) x_130 true) else (m_dag_ring_J5 least_129 (m_dag_ring_L5 far_25 best_102 out_113 kk_L4 l_131) x_130 (decide (x_130 < least_129)))) else (m_dag_ring_J5 least_129 (m_dag_ring_L5 far_25 best_102 out_113 kk_L4 l_131) x_130 false)) else (m_dag_ring_J5 least_129 (m_dag_ring_L5 far_25 best_102 out_113 kk_L4 l_131) x_130 false)

def m_dag_ring_L4 (N : Nat) (p0_parents : (List (List Int))) (far_25 : List (Int × Int)) (best_102 : Int) : Nat → (List Int) → Int → Option (List Int)
  | 0, _, _ => none
  | n_110 + 1, out_113, v_117 => if (decide ((out_113.length : Int) < best_102)) = true then ((at? p0_parents v_117).bind fun e_118 => m_dag_ring_L5 far_25 best_102 out_113 (m_dag_ring_L4 N p0_parents far_25 best_102 n_110) e_118 (-1)) else (chk (out_113 ≠ []) (some out_113))

def m_dag_ring_J6 (kk_L3 : (Int → Option (List Int))) (best_158 : Int) : Option (List Int) :=
  kk_L3 best_158

def m_dag_ring_L3 (N : Nat) (p0_parents : (List (List Int))) (p2_s : Int) (p3_most : Int) (far_25 : List (Int × Int)) : List Int → Int → Option (List Int)
  | [], best_102 => if (decide (best_102 = p3_most)) = true then (some ([] : List Int)) else (m_dag_ring_L4 N p0_parents far_25 best_102 N [p2_s] p2_s)
  | x_103 :: l_104, best_102 => if ((mget far_25 x_103).isSome) = true then (m_dag_ring_J6 (m_dag_ring_L3 N p0_parents p2_s p3_most far_25 l_104) (if (IntKind.i64.wrap (((mget far_25 x_103).getD 0) + 1)) < best_102 then (IntKind.i64.wrap (((mget far_25 x_103).getD 0) + 1)) else best_102)) else (m_dag_ring_J6 (m_dag_ring_L3 N p0_parents p2_s p3_most far_25 l_104) best_102)

def m_dag_ring_J1 (N : Nat) (p0_parents : (List (List Int))) (p1_down : (List (List Int))) (p2_s : Int) (p3_most : Int) (next_20 : List Int) (far_25 : List (Int × Int)) (kk_L1 : ((List Int) → (List (Int × Int)) → Option (List Int))) (v_32 : Bool) : Option (List Int) :=
  if v_32 = true then ((at? next_20 0).bind fun e_33 => chk ((0 : Int) ≤ 1 ∧ 1 ≤ (next_20.length : Int)) ((at? p1_down e_33).bind fun e_39 => m_dag_ring_L2 p2_s kk_L1 e_33 e_39 (next_20.drop (Int.toNat 1)) far_25)) else ((at? p0_parents p2_s).bind fun e_91 => m_dag_ring_L3 N p0_parents p2_s p3_most far_25 e_91 p3_most)

def m_dag_ring_L1 (N : Nat) (p0_parents : (List (List Int))) (p1_down : (List (List Int))) (p2_s : Int) (p3_most : Int) : Nat → (List Int) → (List (Int × Int)) → Option (List Int)
  | 0, _, _ => none
  | n_17 + 1, next_20, far_25 => if (decide (0 < (next_20.length : Int))) = true then ((at? next_20 0).bind fun e_160 => m_dag_ring_J1 N p0_parents p1_down p2_s p3_most next_20 far_25 (m_dag_ring_L1 N p0_parents p1_down p2_s p3_most n_17) (decide (((mget far_25 e_160).getD 0) < (IntKind.i64.wrap (p3_most - 1))))) else (m_dag_ring_J1 N p0_parents p1_down p2_s p3_most next_20 far_25 (m_dag_ring_L1 N p0_parents p1_down p2_s p3_most n_17) false)

def m_dag_ring (N : Nat) (p0_parents : (List (List Int))) (p1_down : (List (List Int))) (p2_s : Int) (p3_most : Int) : Option (List Int) :=
  (some (mput ([] : List (Int × Int)) p2_s 0)).bind fun es_10 => m_dag_ring_L1 N p0_parents p1_down p2_s p3_most N [p2_s] es_10

set_option maxRecDepth 100000 in
theorem c_dag_ring (N : Nat) (c1 : Nat) (col : Col) (w0 : World) (a0 : Option Addr) (cap0 : Nat) (p0_parents : (List (List Int))) (a1 : Option Addr) (cap1 : Nat) (p1_down : (List (List Int))) (p2_s : Int) (p3_most : Int) (h0 : Sl (Rep.slice (Rep.int .i64)) col w0 a0 cap0 p0_parents) (h1 : Sl (Rep.slice (Rep.int .i64)) col w0 a1 cap1 p1_down) (r : (List Int)) (hm : m_dag_ring N p0_parents p1_down p2_s p3_most = some r) :
    Calls Try.prog 30 #[(.slice a0 p0_parents.length cap0), (.slice a1 p1_down.length cap1), (.int .i64 p2_s), (.int .i64 p3_most)] w0 (fun e w' => ∃ (col' : Col) (ra1 : Option Addr) (rc2 : Nat), e = .returned ((.slice ra1 r.length rc2)) ∧ Grow col w0 col' w' ∧ Own (Rep.int .i64) 3 c1 col' w' ra1 rc2 r ∧ (r = [] → ra1 = none)) := by
  refine calls_of1 8 (m := 157) (args := [(.slice a0 p0_parents.length cap0), (.slice a1 p1_down.length cap1), (.int .i64 p2_s), (.int .i64 p3_most)]) Try.func30 rfl rfl rfl rfl rfl ?_
  rw [m_dag_ring.eq_1] at hm
  have hst := St.start col w0
  replace h0 := h0.keep (Stay.start col w0)
  replace h1 := h1.keep (Stay.start col w0)
  refine wseq ?_
  refine wregion ?_
  refine lv (v := (.slice none (([] : List Int).length) 0)) rfl rfl (r_assign rfl) ?_
  refine lnil ?_
  refine wseq ?_
  refine wregion ?_
  refine l_makeMap (col := (col0 col)) (fk := (Value.int .i64)) (fv := (Value.int .i64)) 1 rfl ?_
  intro g_1 w_2 col_3 hg_4 h_5
  replace h0 := h0.gr hg_4
  replace h1 := h1.gr hg_4
  replace hst := hst.grow hg_4
  refine lv (v := (.int .i64 p2_s)) rfl rfl (r_move rfl) ?_
  obtain ⟨es_10, hz_11, hm⟩ := bind_some hm
  have hz_11 : es_10 = mput ([] : List (Int × Int)) p2_s 0 := (Option.some.inj hz_11).symm
  refine l_mapUpdateI (k := p2_s) (v := 0) KeyD.int h_5 Try.underlying51 Try.underlying3 rfl rfl rfl ?_
  intro w_6 hk_7 hs_8 h_9
  rw [← hz_11] at h_9
  clear hz_11
  replace h0 := h0.kp hk_7 (by decide)
  replace h1 := h1.kp hk_7 (by decide)
  replace hst := hst.kp hk_7 hs_8 (by decide) (by decide)
  clear h_5
  refine lv (v := (.map (some g_1))) rfl rfl (r_move rfl) ?_
  refine lv (v := (.map (some g_1))) rfl rfl (r_assign rfl) ?_
  refine lnil ?_
  refine wseq ?_
  refine wseq ?_
  refine wregion ?_
  refine lv (v := (.int .i64 p2_s)) rfl rfl (r_move rfl) ?_
  refine l_lit (col := col_3) (r := (Rep.int .i64)) (xs := [p2_s]) [(.int .i64 p2_s)] 2 rfl Try.underlying31 el3_30 rfl rfl rfl rfl rfl rfl (by intro v hv; simp only [List.mem_cons, List.not_mem_nil, or_false] at hv; subst hv; rfl) (RowsH.ofF (Rows.consF (r := (Rep.int .i64)) (x := p2_s) (cs := [(.int .i64 p2_s)]) (rd_int .i64 p2_s) Rows.nil0)) ?_
  intro a_12 w_13 col_14 hg_15 h_16
  replace h0 := h0.gr hg_15
  replace h1 := h1.gr hg_15
  replace h_9 := h_9.gr hg_15
  replace hst := hst.grow hg_15
  refine lv (v := (.slice a_12 ([p2_s].length) 1)) rfl rfl (r_assign rfl) ?_
  refine lnil ?_
  refine wblock ?_
  refine wloop (fun n f w_18 => ∃ (col_19 : Col) (a_21 : Option Addr) (cap_22 : Nat) (next_20 : List Int) (g_24 : Nat) (far_25 : List (Int × Int)) (n_17 : Nat), n_17 = n ∧ m_dag_ring_L1 N p0_parents p1_down p2_s p3_most n_17 next_20 far_25 = some r ∧ St w0 (col0 col) col_19 w_18 ∧ Sl (Rep.slice (Rep.int .i64)) col_19 w_18 a0 cap0 p0_parents ∧ Sl (Rep.slice (Rep.int .i64)) col_19 w_18 a1 cap1 p1_down ∧ Que (Rep.int .i64) 3 2 col_19 w_18 a_21 cap_22 next_20 ∧ MapO (Value.int .i64) (Value.int .i64) 1 col_19 w_18 g_24 far_25 ∧ f 0 = (.slice a0 p0_parents.length cap0) ∧ f 1 = (.slice a1 p1_down.length cap1) ∧ f 10 = (.slice a_21 next_20.length cap_22) ∧ f 2 = (.int .i64 p2_s) ∧ f 3 = (.int .i64 p3_most) ∧ f 9 = (.map (some g_24)) ∧ f 1000000 = (enc [])) N ⟨col_14, a_12, 1, [p2_s], g_1, es_10, N, rfl, hm, hst, h0, h1, (h_16.que (NB.int (k := .i64))), h_9, rfl, rfl, rfl, rfl, rfl, rfl, rfl⟩ ?_
  clear hm; intro n f w_18 hI
  obtain ⟨col_19, a_21, cap_22, next_20, g_24, far_25, n_17, hn, hm, hst, h0, h1, h_23, h_26, hs0, hs1, hs10, hs2, hs3, hs9, hs1000000⟩ := hI
  subst hn
  refine .ld (d := 0) (v := (.slice a0 p0_parents.length cap0)) hs0 ?_
  refine .ld (d := 1) (v := (.slice a1 p1_down.length cap1)) hs1 ?_
  refine .ld (d := 10) (v := (.slice a_21 next_20.length cap_22)) hs10 ?_
  refine .ld (d := 2) (v := (.int .i64 p2_s)) hs2 ?_
  refine .ld (d := 3) (v := (.int .i64 p3_most)) hs3 ?_
  refine .ld (d := 9) (v := (.map (some g_24))) hs9 ?_
  refine .ld (d := 1000000) (v := (enc [])) hs1000000 ?_
  clear hs0 hs1 hs10 hs2 hs3 hs9 hs1000000
  cases n_17 with
  | zero => rw [m_dag_ring_L1.eq_1] at hm; cases hm
  | succ n_17 =>
    rw [m_dag_ring_L1.eq_2] at hm
    refine wseq ?_
    refine wseq ?_
    refine Wp.cut (fun f w_30 => ∃ (col_31 : Col) (v_32 : Bool), m_dag_ring_J1 N p0_parents p1_down p2_s p3_most next_20 far_25 (m_dag_ring_L1 N p0_parents p1_down p2_s p3_most n_17) v_32 = some r ∧ St w0 (col0 col) col_31 w_30 ∧ Sl (Rep.slice (Rep.int .i64)) col_31 w_30 a0 cap0 p0_parents ∧ Sl (Rep.slice (Rep.int .i64)) col_31 w_30 a1 cap1 p1_down ∧ Que (Rep.int .i64) 3 2 col_31 w_30 a_21 cap_22 next_20 ∧ MapO (Value.int .i64) (Value.int .i64) 1 col_31 w_30 g_24 far_25 ∧ f 0 = (.slice a0 p0_parents.length cap0) ∧ f 1 = (.slice a1 p1_down.length cap1) ∧ f 10 = (.slice a_21 next_20.length cap_22) ∧ f 2 = (.int .i64 p2_s) ∧ f 3 = (.int .i64 p3_most) ∧ f 45 = (.bool v_32) ∧ f 9 = (.map (some g_24)) ∧ f 1000000 = (enc [])) ?_ ?_
    · intro f w_30 hJ
      obtain ⟨col_31, v_32, hm, hst, h0, h1, h_23, h_26, hs0, hs1, hs10, hs2, hs3, hs45, hs9, hs1000000⟩ := hJ
      rw [m_dag_ring_J1.eq_1] at hm
      refine .ld (d := 0) (v := (.slice a0 p0_parents.length cap0)) hs0 ?_
      refine .ld (d := 1) (v := (.slice a1 p1_down.length cap1)) hs1 ?_
      refine .ld (d := 10) (v := (.slice a_21 next_20.length cap_22)) hs10 ?_
      refine .ld (d := 2) (v := (.int .i64 p2_s)) hs2 ?_
      refine .ld (d := 3) (v := (.int .i64 p3_most)) hs3 ?_
      refine .ld (d := 45) (v := (.bool v_32)) hs45 ?_
      refine .ld (d := 9) (v := (.map (some g_24))) hs9 ?_
      refine .ld (d := 1000000) (v := (enc [])) hs1000000 ?_
      clear hs0 hs1 hs10 hs2 hs3 hs45 hs9 hs1000000
      refine wcond (v_32) rfl (fun hb => ?_) (fun hb => ?_)
      · rw [if_pos hb] at hm
        clear hb
        refine wskip ?_
        refine wblock ?_
        refine wseq ?_
        refine wregion ?_
        refine lv (v := (.slice a_21 next_20.length cap_22)) rfl rfl (r_move rfl) ?_
        obtain ⟨e_33, hj_34, hm⟩ := bind_some hm
        refine lv (v := (sptr a_21 (Int.toNat 0 * 1))) rfl rfl (r_idx Try.underlying31 Try.sizeOf3 rfl rfl (at?_some hj_34).1 (at?_some hj_34).2.1 (h_23.addr hj_34)) ?_
        refine lv (v := (.int .i64 e_33)) rfl rfl (r_ld Try.isAgg3 rfl (h_23.atInt hj_34)) ?_
        refine lv (v := (.int .i64 e_33)) rfl rfl (r_assign rfl) ?_
        refine lnil ?_
        refine wseq ?_
        refine wregion ?_
        refine lv (v := (.slice a_21 next_20.length cap_22)) rfl rfl (r_move rfl) ?_
        obtain ⟨hb_35, hm⟩ := chk_some hm
        have h_38 := h_23.drop (sz := 1) rfl (Int.toNat 1)
        clear h_23
        refine lv (v := .slice (if cap_22 = (Int.toNat 1) then a_21 else a_21.map (·.add ((Int.toNat 1) * 1))) (next_20.length - (Int.toNat 1)) (cap_22 - (Int.toNat 1))) rfl rfl (r_sliceL Try.underlying31 Try.sizeOf3 rfl rfl hb_35.1 hb_35.2) ?_
        generalize (if cap_22 = (Int.toNat 1) then a_21 else a_21.map (·.add ((Int.toNat 1) * 1))) = a_36 at *
        refine .ld (d := 50) (v := (.slice a_36 ((next_20.drop (Int.toNat 1)).length) (cap_22 - (Int.toNat 1)))) (congrArg (fun n => Value.slice a_36 n (cap_22 - (Int.toNat 1))) (List.length_drop (i := (Int.toNat 1)) (l := next_20)).symm) ?_
        refine lv (v := (.slice a_36 ((next_20.drop (Int.toNat 1)).length) (cap_22 - (Int.toNat 1)))) rfl rfl (r_assign rfl) ?_
        refine lnil ?_
        refine wseq ?_
        refine wregion ?_
        refine lv (v := (.slice a1 p1_down.length cap1)) rfl rfl (r_move rfl) ?_
        refine lv (v := (.int .i64 e_33)) rfl rfl (r_move rfl) ?_
        obtain ⟨e_39, hj_40, hm⟩ := bind_some hm
        refine lv (v := (sptr a1 (Int.toNat e_33 * 1))) rfl rfl (r_idx Try.underlying22 Try.sizeOf31 rfl rfl (at?_some hj_40).1 (at?_some hj_40).2.1 (h1.addr hj_40)) ?_
        obtain ⟨_, hr_41, hA_42⟩ := h1.atN hj_40
        obtain ⟨⟨a_43, cap_44, rfl, h_45⟩, _⟩ := hr_41
        refine lv (v := (.slice a_43 e_39.length cap_44)) rfl rfl (r_ld Try.isAgg31 rfl hA_42.one) ?_
        refine lv (v := (.int .i64 (e_39.length : Int))) rfl rfl (r_len Try.underlying31 rfl) ?_
        refine lv (v := (.int .i64 0)) rfl rfl (r_move rfl) ?_
        refine lnil ?_
        refine wblock ?_
        refine wloop (fun n f w_48 => ∃ (col_49 : Col) (a_51 : Option Addr) (cap_52 : Nat) (next_50 : List Int) (k_46 : Nat) (g_54 : Nat) (far_55 : List (Int × Int)) (l_47 : List Int), n = l_47.length ∧ e_39.drop k_46 = l_47 ∧ m_dag_ring_L2 p2_s (m_dag_ring_L1 N p0_parents p1_down p2_s p3_most n_17) e_33 l_47 next_50 far_55 = some r ∧ St w0 (col0 col) col_49 w_48 ∧ Sl (Rep.slice (Rep.int .i64)) col_49 w_48 a0 cap0 p0_parents ∧ Sl (Rep.slice (Rep.int .i64)) col_49 w_48 a1 cap1 p1_down ∧ Que (Rep.int .i64) 3 2 col_49 w_48 a_51 cap_52 next_50 ∧ Sl (Rep.int .i64) col_49 w_48 a_43 cap_44 e_39 ∧ MapO (Value.int .i64) (Value.int .i64) 1 col_49 w_48 g_54 far_55 ∧ f 56 = (.int .i64 (k_46 : Int)) ∧ f 0 = (.slice a0 p0_parents.length cap0) ∧ f 1 = (.slice a1 p1_down.length cap1) ∧ f 10 = (.slice a_51 next_50.length cap_52) ∧ f 11 = (.int .i64 e_33) ∧ f 2 = (.int .i64 p2_s) ∧ f 3 = (.int .i64 p3_most) ∧ f 54 = (.slice a_43 e_39.length cap_44) ∧ f 55 = (.int .i64 (e_39.length : Int)) ∧ f 9 = (.map (some g_54)) ∧ f 1000000 = (enc [])) e_39.length ⟨col_31, a_36, (cap_22 - (Int.toNat 1)), (next_20.drop (Int.toNat 1)), 0, g_24, far_25, e_39, rfl, rfl, hm, hst, h0, h1, h_38, h_45, h_26, rfl, rfl, rfl, rfl, rfl, rfl, rfl, rfl, rfl, rfl, rfl⟩ ?_
        clear hm; intro n f w_48 hI
        obtain ⟨col_49, a_51, cap_52, next_50, k_46, g_54, far_55, l_47, hn, hl, hm, hst, h0, h1, h_53, h_45, h_56, hs56, hs0, hs1, hs10, hs11, hs2, hs3, hs54, hs55, hs9, hs1000000⟩ := hI
        subst hn
        refine .ld (d := 56) (v := (.int .i64 (k_46 : Int))) hs56 ?_
        refine .ld (d := 0) (v := (.slice a0 p0_parents.length cap0)) hs0 ?_
        refine .ld (d := 1) (v := (.slice a1 p1_down.length cap1)) hs1 ?_
        refine .ld (d := 10) (v := (.slice a_51 next_50.length cap_52)) hs10 ?_
        refine .ld (d := 11) (v := (.int .i64 e_33)) hs11 ?_
        refine .ld (d := 2) (v := (.int .i64 p2_s)) hs2 ?_
        refine .ld (d := 3) (v := (.int .i64 p3_most)) hs3 ?_
        refine .ld (d := 54) (v := (.slice a_43 e_39.length cap_44)) hs54 ?_
        refine .ld (d := 55) (v := (.int .i64 (e_39.length : Int))) hs55 ?_
        refine .ld (d := 9) (v := (.map (some g_54))) hs9 ?_
        refine .ld (d := 1000000) (v := (enc [])) hs1000000 ?_
        clear hs56 hs0 hs1 hs10 hs11 hs2 hs3 hs54 hs55 hs9 hs1000000
        cases l_47 with
        | nil =>
          have hk : ¬ ((k_46 : Int) < (e_39.length : Int)) := by have := List.drop_eq_nil_iff.1 hl; omega
          have hkb := decide_eq_false hk
          rw [m_dag_ring_L2.eq_1] at hm
          refine wseq ?_
          refine wregion ?_
          refine lv (v := (.bool (decide ((k_46 : Int) < (e_39.length : Int))))) rfl rfl (r_lss (k_46 : Int) (e_39.length : Int) rfl rfl) ?_
          refine lnil ?_
          refine wseq ?_
          refine wcondF (congrArg Value.bool hkb) ?_
          refine wexit (inB_hit ?_)
          exact ⟨n_17, by omega, ⟨col_49, a_51, cap_52, next_50, g_54, far_55, n_17, rfl, hm, hst, h0, h1, h_53, h_56, rfl, rfl, rfl, rfl, rfl, rfl, rfl⟩⟩
        | cons x_57 l_58 =>
          obtain ⟨hat, hl2, hlt⟩ := drop_get hl
          have hk : (k_46 : Int) < (e_39.length : Int) := by omega
          have hkb := decide_eq_true hk
          rw [m_dag_ring_L2.eq_2] at hm
          refine wseq ?_
          refine wregion ?_
          refine lv (v := (.bool (decide ((k_46 : Int) < (e_39.length : Int))))) rfl rfl (r_lss (k_46 : Int) (e_39.length : Int) rfl rfl) ?_
          refine lnil ?_
          refine wseq ?_
          refine wcondT (congrArg Value.bool hkb) ?_
          refine wskip ?_
          refine wseq ?_
          refine Wp.cut (fun f w_59 => ∃ (col_60 : Col) (a_62 : Option Addr) (cap_63 : Nat) (next_61 : List Int) (g_65 : Nat) (far_66 : List (Int × Int)), m_dag_ring_J2 (m_dag_ring_L2 p2_s (m_dag_ring_L1 N p0_parents p1_down p2_s p3_most n_17) e_33 l_58) next_61 far_66 = some r ∧ St w0 (col0 col) col_60 w_59 ∧ Sl (Rep.slice (Rep.int .i64)) col_60 w_59 a0 cap0 p0_parents ∧ Sl (Rep.slice (Rep.int .i64)) col_60 w_59 a1 cap1 p1_down ∧ Que (Rep.int .i64) 3 2 col_60 w_59 a_62 cap_63 next_61 ∧ Sl (Rep.int .i64) col_60 w_59 a_43 cap_44 e_39 ∧ MapO (Value.int .i64) (Value.int .i64) 1 col_60 w_59 g_65 far_66 ∧ f 0 = (.slice a0 p0_parents.length cap0) ∧ f 1 = (.slice a1 p1_down.length cap1) ∧ f 10 = (.slice a_62 next_61.length cap_63) ∧ f 11 = (.int .i64 e_33) ∧ f 2 = (.int .i64 p2_s) ∧ f 3 = (.int .i64 p3_most) ∧ f 54 = (.slice a_43 e_39.length cap_44) ∧ f 55 = (.int .i64 (e_39.length : Int)) ∧ f 56 = (.int .i64 (k_46 : Int)) ∧ f 9 = (.map (some g_65)) ∧ f 1000000 = (enc [])) ?_ ?_
          · intro f w_59 hJ
            obtain ⟨col_60, a_62, cap_63, next_61, g_65, far_66, hm, hst, h0, h1, h_64, h_45, h_67, hs0, hs1, hs10, hs11, hs2, hs3, hs54, hs55, hs56, hs9, hs1000000⟩ := hJ
            rw [m_dag_ring_J2.eq_1] at hm
            refine .ld (d := 0) (v := (.slice a0 p0_parents.length cap0)) hs0 ?_
            refine .ld (d := 1) (v := (.slice a1 p1_down.length cap1)) hs1 ?_
            refine .ld (d := 10) (v := (.slice a_62 next_61.length cap_63)) hs10 ?_
            refine .ld (d := 11) (v := (.int .i64 e_33)) hs11 ?_
            refine .ld (d := 2) (v := (.int .i64 p2_s)) hs2 ?_
            refine .ld (d := 3) (v := (.int .i64 p3_most)) hs3 ?_
            refine .ld (d := 54) (v := (.slice a_43 e_39.length cap_44)) hs54 ?_
            refine .ld (d := 55) (v := (.int .i64 (e_39.length : Int))) hs55 ?_
            refine .ld (d := 56) (v := (.int .i64 (k_46 : Int))) hs56 ?_
            refine .ld (d := 9) (v := (.map (some g_65))) hs9 ?_
            refine .ld (d := 1000000) (v := (enc [])) hs1000000 ?_
            clear hs0 hs1 hs10 hs11 hs2 hs3 hs54 hs55 hs56 hs9 hs1000000
            refine wregion ?_
            refine lv (v := (.int .i64 (IntKind.i64.wrap ((k_46 : Int) + 1)))) rfl rfl (r_add (k_46 : Int) 1 rfl rfl) ?_
            refine lv (v := (.int .i64 (IntKind.i64.wrap ((k_46 : Int) + 1)))) rfl rfl (r_move rfl) ?_
            refine lnil ?_
            exact ⟨l_58.length, by simp, ⟨col_60, a_62, cap_63, next_61, (k_46 + 1), g_65, far_66, l_58, rfl, hl2, hm, hst, h0, h1, h_64, h_45, h_67, (congrArg (Value.int .i64) (wrap_succ (Nat.lt_of_lt_of_le hlt h_45.1.1))), rfl, rfl, rfl, rfl, rfl, rfl, rfl, rfl, rfl, rfl⟩⟩
          · refine wblock ?_
            refine wseq ?_
            refine wregion ?_
            refine lv (v := (sptr a_43 (Int.toNat (k_46 : Int) * 1))) rfl rfl (r_idx Try.underlying31 Try.sizeOf3 rfl rfl (at?_some hat).1 (at?_some hat).2.1 (h_45.addr hat)) ?_
            refine lv (v := (.int .i64 x_57)) rfl rfl (r_ld Try.isAgg3 rfl (h_45.atInt hat)) ?_
            refine lv (v := (.int .i64 x_57)) rfl rfl (r_assign rfl) ?_
            refine lnil ?_
            refine wseq ?_
            refine wregion ?_
            refine lv (v := (.map (some g_54))) rfl rfl (r_move rfl) ?_
            refine lv (v := (.int .i64 x_57)) rfl rfl (r_move rfl) ?_
            refine lv (v := (.tuple #[(.int .i64 ((mget far_55 x_57).getD 0)), (.bool ((mget far_55 x_57).isSome))])) rfl rfl (r_lookupOk KeyD.int h_56 Try.underlying51 Try.underlying3 Try.zeroValue3 rfl rfl) ?_
            refine lv (v := (.tuple #[(.int .i64 ((mget far_55 x_57).getD 0)), (.bool ((mget far_55 x_57).isSome))])) rfl rfl (r_move rfl) ?_
            refine lv (v := (.int .i64 ((mget far_55 x_57).getD 0))) rfl rfl (r_extract rfl rfl) ?_
            refine lv (v := (.bool ((mget far_55 x_57).isSome))) rfl rfl (r_extract rfl rfl) ?_
            refine lv (v := (.int .i64 ((mget far_55 x_57).getD 0))) rfl rfl (r_assign rfl) ?_
            refine lv (v := (.bool ((mget far_55 x_57).isSome))) rfl rfl (r_assign rfl) ?_
            refine lnil ?_
            refine wseq ?_
            refine Wp.cut (fun f w_69 => ∃ (col_70 : Col) (v_71 : Bool), m_dag_ring_J3 e_33 next_50 far_55 (m_dag_ring_L2 p2_s (m_dag_ring_L1 N p0_parents p1_down p2_s p3_most n_17) e_33 l_58) x_57 v_71 = some r ∧ St w0 (col0 col) col_70 w_69 ∧ Sl (Rep.slice (Rep.int .i64)) col_70 w_69 a0 cap0 p0_parents ∧ Sl (Rep.slice (Rep.int .i64)) col_70 w_69 a1 cap1 p1_down ∧ Que (Rep.int .i64) 3 2 col_70 w_69 a_51 cap_52 next_50 ∧ Sl (Rep.int .i64) col_70 w_69 a_43 cap_44 e_39 ∧ MapO (Value.int .i64) (Value.int .i64) 1 col_70 w_69 g_54 far_55 ∧ f 0 = (.slice a0 p0_parents.length cap0) ∧ f 1 = (.slice a1 p1_down.length cap1) ∧ f 10 = (.slice a_51 next_50.length cap_52) ∧ f 11 = (.int .i64 e_33) ∧ f 13 = (.int .i64 x_57) ∧ f 2 = (.int .i64 p2_s) ∧ f 3 = (.int .i64 p3_most) ∧ f 54 = (.slice a_43 e_39.length cap_44) ∧ f 55 = (.int .i64 (e_39.length : Int)) ∧ f 56 = (.int .i64 (k_46 : Int)) ∧ f 72 = (.bool v_71) ∧ f 9 = (.map (some g_54)) ∧ f 1000000 = (enc [])) ?_ ?_
            · intro f w_69 hJ
              obtain ⟨col_70, v_71, hm, hst, h0, h1, h_53, h_45, h_56, hs0, hs1, hs10, hs11, hs13, hs2, hs3, hs54, hs55, hs56, hs72, hs9, hs1000000⟩ := hJ
              rw [m_dag_ring_J3.eq_1] at hm
              refine .ld (d := 0) (v := (.slice a0 p0_parents.length cap0)) hs0 ?_
              refine .ld (d := 1) (v := (.slice a1 p1_down.length cap1)) hs1 ?_
              refine .ld (d := 10) (v := (.slice a_51 next_50.length cap_52)) hs10 ?_
              refine .ld (d := 11) (v := (.int .i64 e_33)) hs11 ?_
              refine .ld (d := 13) (v := (.int .i64 x_57)) hs13 ?_
              refine .ld (d := 2) (v := (.int .i64 p2_s)) hs2 ?_
              refine .ld (d := 3) (v := (.int .i64 p3_most)) hs3 ?_
              refine .ld (d := 54) (v := (.slice a_43 e_39.length cap_44)) hs54 ?_
              refine .ld (d := 55) (v := (.int .i64 (e_39.length : Int))) hs55 ?_
              refine .ld (d := 56) (v := (.int .i64 (k_46 : Int))) hs56 ?_
              refine .ld (d := 72) (v := (.bool v_71)) hs72 ?_
              refine .ld (d := 9) (v := (.map (some g_54))) hs9 ?_
              refine .ld (d := 1000000) (v := (enc [])) hs1000000 ?_
              clear hs0 hs1 hs10 hs11 hs13 hs2 hs3 hs54 hs55 hs56 hs72 hs9 hs1000000
              refine wcond (v_71) rfl (fun hb => ?_) (fun hb => ?_)
              · rw [if_pos hb] at hm
                clear hb
                refine wseq ?_
                refine wregion ?_
                refine lv (v := (.map (some g_54))) rfl rfl (r_move rfl) ?_
                refine lv (v := (.int .i64 x_57)) rfl rfl (r_move rfl) ?_
                refine lv (v := (.map (some g_54))) rfl rfl (r_move rfl) ?_
                refine lv (v := (.int .i64 e_33)) rfl rfl (r_move rfl) ?_
                refine lv (v := (.int .i64 ((mget far_55 e_33).getD 0))) rfl rfl (r_lookup KeyD.int h_56 Try.underlying51 Try.underlying3 Try.zeroValue3 rfl rfl) ?_
                refine lv (v := (.int .i64 (IntKind.i64.wrap (((mget far_55 e_33).getD 0) + 1)))) rfl rfl (r_add ((mget far_55 e_33).getD 0) 1 rfl rfl) ?_
                obtain ⟨es_76, hz_77, hm⟩ := bind_some hm
                have hz_77 : es_76 = mput far_55 x_57 (IntKind.i64.wrap (((mget far_55 e_33).getD 0) + 1)) := (Option.some.inj hz_77).symm
                refine l_mapUpdate (k := x_57) (v := (IntKind.i64.wrap (((mget far_55 e_33).getD 0) + 1))) KeyD.int h_56 Try.underlying51 Try.underlying3 rfl rfl rfl ?_
                intro w_72 hk_73 hs_74 h_75
                rw [← hz_77] at h_75
                clear hz_77
                replace h0 := h0.kp hk_73 (by decide)
                replace h1 := h1.kp hk_73 (by decide)
                replace h_53 := h_53.kp hk_73 (by decide) (by decide)
                replace h_45 := h_45.kp hk_73 (by decide)
                replace hst := hst.kp hk_73 hs_74 (by decide) (by decide)
                clear h_56
                refine lnil ?_
                refine wregion ?_
                refine lv (v := (.slice a_51 next_50.length cap_52)) rfl rfl (r_move rfl) ?_
                refine lv (v := (.int .i64 x_57)) rfl rfl (r_move rfl) ?_
                refine l_lit (col := col_70) (r := (Rep.int .i64)) (xs := [x_57]) [(.int .i64 x_57)] 3 rfl Try.underlying31 el3_30 rfl rfl rfl rfl rfl rfl (by intro v hv; simp only [List.mem_cons, List.not_mem_nil, or_false] at hv; subst hv; rfl) (RowsH.ofF (Rows.consF (r := (Rep.int .i64)) (x := x_57) (cs := [(.int .i64 x_57)]) (rd_int .i64 x_57) Rows.nil0)) ?_
                intro a_78 w_79 col_80 hg_81 h_82
                replace h0 := h0.gr hg_81
                replace h1 := h1.gr hg_81
                replace h_45 := h_45.gr hg_81
                replace h_75 := h_75.gr hg_81
                replace h_53 := h_53.gr hg_81
                replace hst := hst.grow hg_81
                obtain ⟨hb_83, hm⟩ := chk_some hm
                refine l_appendQ (col := col_80) (w := w_79) (r := (Rep.int .i64)) (c := 2) (c2 := 2) (xs := next_50) (ys := [x_57]) h_53 (NB.int (k := .i64)) (h_82.srcN (NB.int (k := .i64))) rfl Try.underlying31 el3_30 rfl rfl rfl hb_83.1 hb_83.2 (by decide) ?_
                intro a_84 cap_85 w_86 col_87 hk_88 h_89
                replace h0 := h0.kpp hk_88 rfl
                replace h1 := h1.kpp hk_88 rfl
                replace h_45 := h_45.kpp hk_88 rfl
                replace h_75 := h_75.kpp hk_88 rfl
                replace h_82 := h_82.kpp hk_88 rfl rfl
                replace hst := hst.kpp hk_88 rfl rfl
                clear h_53
                refine lv (v := (.slice a_84 ((next_50 ++ [x_57]).length) cap_85)) rfl rfl (r_assign rfl) ?_
                refine lnil ?_
                exact ⟨col_87, a_84, cap_85, (next_50 ++ [x_57]), g_54, es_76, hm, hst, h0, h1, h_89, h_45, h_75, rfl, rfl, rfl, rfl, rfl, rfl, rfl, rfl, rfl, rfl, rfl⟩
              · rw [if_neg (by rw [hb]; decide)] at hm
                clear hb
                refine wskip ?_
                exact ⟨col_70, a_51, cap_52, next_50, g_54, far_55, hm, hst, h0, h1, h_53, h_45, h_56, rfl, rfl, rfl, rfl, rfl, rfl, rfl, rfl, rfl, rfl, rfl⟩
            · refine wregion ?_
              refine lv (v := (.bool ((mget far_55 x_57).isSome))) rfl rfl (r_move rfl) ?_
              refine lv (v := (.bool (!((mget far_55 x_57).isSome)))) rfl rfl (r_not ((mget far_55 x_57).isSome) rfl) ?_
              refine lv (v := (.bool (!((mget far_55 x_57).isSome)))) rfl rfl (r_move rfl) ?_
              by_cases hg_90 : (!((mget far_55 x_57).isSome)) = true
              · rw [if_pos hg_90] at hm
                refine lg (b := !((mget far_55 x_57).isSome)) 68 rfl rfl rfl (by rw [hg_90]; rfl) ?_
                refine lv (v := (.int .i64 x_57)) rfl rfl (r_move rfl) ?_
                refine lg (b := !((mget far_55 x_57).isSome)) 68 rfl rfl rfl (by rw [hg_90]; rfl) ?_
                refine lv (v := (.int .i64 p2_s)) rfl rfl (r_move rfl) ?_
                refine lg (b := !((mget far_55 x_57).isSome)) 68 rfl rfl rfl (by rw [hg_90]; rfl) ?_
                refine lv (v := (.bool (decide (p2_s < x_57)))) rfl rfl (r_gtr x_57 p2_s rfl rfl) ?_
                refine lv (v := (.bool (decide (p2_s < x_57)))) rfl rfl (r_pickT (congrArg Value.bool hg_90) rfl) ?_
                refine lnil ?_
                exact ⟨col_49, (decide (p2_s < x_57)), hm, hst, h0, h1, h_53, h_45, h_56, rfl, rfl, rfl, rfl, rfl, rfl, rfl, rfl, rfl, rfl, rfl, rfl, rfl⟩
              · rw [if_neg hg_90] at hm
                replace hg_90 := Bool.eq_false_iff.2 hg_90
                refine lp (b := !((mget far_55 x_57).isSome)) 68 rfl rfl rfl rfl (by rw [hg_90]; rfl) ?_
                refine lp (b := !((mget far_55 x_57).isSome)) 68 rfl rfl rfl rfl (by rw [hg_90]; rfl) ?_
                refine lp (b := !((mget far_55 x_57).isSome)) 68 rfl rfl rfl rfl (by rw [hg_90]; rfl) ?_
                refine lv (v := (.bool false)) rfl rfl (r_pickF (congrArg Value.bool hg_90) rfl) ?_
                refine lnil ?_
                exact ⟨col_49, false, hm, hst, h0, h1, h_53, h_45, h_56, rfl, rfl, rfl, rfl, rfl, rfl, rfl, rfl, rfl, rfl, rfl, rfl, rfl⟩
      · rw [if_neg (by rw [hb]; decide)] at hm
        clear hb
        refine wexit (inB_hit ?_)
        refine wseq ?_
        refine wregion ?_
        refine lv (v := (.int .i64 p3_most)) rfl rfl (r_move rfl) ?_
        refine lv (v := (.int .i64 p3_most)) rfl rfl (r_assign rfl) ?_
        refine lnil ?_
        refine wseq ?_
        refine wseq ?_
        refine wregion ?_
        refine lv (v := (.slice a0 p0_parents.length cap0)) rfl rfl (r_move rfl) ?_
        refine lv (v := (.int .i64 p2_s)) rfl rfl (r_move rfl) ?_
        obtain ⟨e_91, hj_92, hm⟩ := bind_some hm
        refine lv (v := (sptr a0 (Int.toNat p2_s * 1))) rfl rfl (r_idx Try.underlying22 Try.sizeOf31 rfl rfl (at?_some hj_92).1 (at?_some hj_92).2.1 (h0.addr hj_92)) ?_
        obtain ⟨_, hr_93, hA_94⟩ := h0.atN hj_92
        obtain ⟨⟨a_95, cap_96, rfl, h_97⟩, _⟩ := hr_93
        refine lv (v := (.slice a_95 e_91.length cap_96)) rfl rfl (r_ld Try.isAgg31 rfl hA_94.one) ?_
        refine lv (v := (.int .i64 (e_91.length : Int))) rfl rfl (r_len Try.underlying31 rfl) ?_
        refine lv (v := (.int .i64 0)) rfl rfl (r_move rfl) ?_
        refine lnil ?_
        refine wblock ?_
        refine wloop (fun n f w_100 => ∃ (col_101 : Col) (best_102 : Int) (k_98 : Nat) (l_99 : List Int), n = l_99.length ∧ e_91.drop k_98 = l_99 ∧ m_dag_ring_L3 N p0_parents p2_s p3_most far_25 l_99 best_102 = some r ∧ St w0 (col0 col) col_101 w_100 ∧ Sl (Rep.slice (Rep.int .i64)) col_101 w_100 a0 cap0 p0_parents ∧ Sl (Rep.int .i64) col_101 w_100 a_95 cap_96 e_91 ∧ MapO (Value.int .i64) (Value.int .i64) 1 col_101 w_100 g_24 far_25 ∧ f 90 = (.int .i64 (k_98 : Int)) ∧ f 0 = (.slice a0 p0_parents.length cap0) ∧ f 16 = (.int .i64 best_102) ∧ f 2 = (.int .i64 p2_s) ∧ f 3 = (.int .i64 p3_most) ∧ f 88 = (.slice a_95 e_91.length cap_96) ∧ f 89 = (.int .i64 (e_91.length : Int)) ∧ f 9 = (.map (some g_24)) ∧ f 1000000 = (enc [])) e_91.length ⟨col_31, p3_most, 0, e_91, rfl, rfl, hm, hst, h0, h_97, h_26, rfl, rfl, rfl, rfl, rfl, rfl, rfl, rfl, rfl⟩ ?_
        clear hm; intro n f w_100 hI
        obtain ⟨col_101, best_102, k_98, l_99, hn, hl, hm, hst, h0, h_97, h_26, hs90, hs0, hs16, hs2, hs3, hs88, hs89, hs9, hs1000000⟩ := hI
        subst hn
        refine .ld (d := 90) (v := (.int .i64 (k_98 : Int))) hs90 ?_
        refine .ld (d := 0) (v := (.slice a0 p0_parents.length cap0)) hs0 ?_
        refine .ld (d := 16) (v := (.int .i64 best_102)) hs16 ?_
        refine .ld (d := 2) (v := (.int .i64 p2_s)) hs2 ?_
        refine .ld (d := 3) (v := (.int .i64 p3_most)) hs3 ?_
        refine .ld (d := 88) (v := (.slice a_95 e_91.length cap_96)) hs88 ?_
        refine .ld (d := 89) (v := (.int .i64 (e_91.length : Int))) hs89 ?_
        refine .ld (d := 9) (v := (.map (some g_24))) hs9 ?_
        refine .ld (d := 1000000) (v := (enc [])) hs1000000 ?_
        clear hs90 hs0 hs16 hs2 hs3 hs88 hs89 hs9 hs1000000
        cases l_99 with
        | nil =>
          have hk : ¬ ((k_98 : Int) < (e_91.length : Int)) := by have := List.drop_eq_nil_iff.1 hl; omega
          have hkb := decide_eq_false hk
          rw [m_dag_ring_L3.eq_1] at hm
          refine wseq ?_
          refine wregion ?_
          refine lv (v := (.bool (decide ((k_98 : Int) < (e_91.length : Int))))) rfl rfl (r_lss (k_98 : Int) (e_91.length : Int) rfl rfl) ?_
          refine lnil ?_
          refine wseq ?_
          refine wcondF (congrArg Value.bool hkb) ?_
          refine wexit (inB_hit ?_)
          refine wseq ?_
          refine wseq ?_
          refine wregion ?_
          refine lv (v := (.int .i64 best_102)) rfl rfl (r_move rfl) ?_
          refine lv (v := (.int .i64 p3_most)) rfl rfl (r_move rfl) ?_
          refine lv (v := (.bool (decide (best_102 = p3_most)))) rfl rfl (r_eql best_102 p3_most rfl rfl) ?_
          refine lnil ?_
          refine wcond (decide (best_102 = p3_most)) rfl (fun hb => ?_) (fun hb => ?_)
          · rw [if_pos hb] at hm
            clear hb
            refine wseq ?_
            refine wregion ?_
            refine lv (v := (.slice none (([] : List Int).length) 0)) rfl rfl (r_assign rfl) ?_
            refine lnil ?_
            refine wret ?_
            cases hm
            exact ⟨rfl, colF w0.heap.size col col_101 (fun n => 0), none, 0, rfl, hst.fin (fun n => 0), Own.nil, (fun _ => rfl)⟩
          · rw [if_neg (by rw [hb]; decide)] at hm
            clear hb
            refine wskip ?_
            refine wseq ?_
            refine wregion ?_
            refine lv (v := (.int .i64 p2_s)) rfl rfl (r_move rfl) ?_
            refine l_lit (col := col_101) (r := (Rep.int .i64)) (xs := [p2_s]) [(.int .i64 p2_s)] 4 rfl Try.underlying31 el3_30 rfl rfl rfl rfl rfl rfl (by intro v hv; simp only [List.mem_cons, List.not_mem_nil, or_false] at hv; subst hv; rfl) (RowsH.ofF (Rows.consF (r := (Rep.int .i64)) (x := p2_s) (cs := [(.int .i64 p2_s)]) (rd_int .i64 p2_s) Rows.nil0)) ?_
            intro a_105 w_106 col_107 hg_108 h_109
            replace h0 := h0.gr hg_108
            replace h_26 := h_26.gr hg_108
            replace hst := hst.grow hg_108
            refine lv (v := (.slice a_105 ([p2_s].length) 1)) rfl rfl (r_assign rfl) ?_
            refine lnil ?_
            refine wseq ?_
            refine wseq ?_
            refine wregion ?_
            refine lv (v := (.int .i64 p2_s)) rfl rfl (r_move rfl) ?_
            refine lv (v := (.int .i64 p2_s)) rfl rfl (r_assign rfl) ?_
            refine lnil ?_
            refine wblock ?_
            refine wloop (fun n f w_111 => ∃ (col_112 : Col) (a_114 : Option Addr) (cap_115 : Nat) (out_113 : List Int) (v_117 : Int) (n_110 : Nat), n_110 = n ∧ m_dag_ring_L4 N p0_parents far_25 best_102 n_110 out_113 v_117 = some r ∧ St w0 (col0 col) col_112 w_111 ∧ Sl (Rep.slice (Rep.int .i64)) col_112 w_111 a0 cap0 p0_parents ∧ Own (Rep.int .i64) 3 4 col_112 w_111 a_114 cap_115 out_113 ∧ MapO (Value.int .i64) (Value.int .i64) 1 col_112 w_111 g_24 far_25 ∧ f 0 = (.slice a0 p0_parents.length cap0) ∧ f 16 = (.int .i64 best_102) ∧ f 21 = (.slice a_114 out_113.length cap_115) ∧ f 22 = (.int .i64 v_117) ∧ f 9 = (.map (some g_24)) ∧ f 1000000 = (enc [])) N ⟨col_107, a_105, 1, [p2_s], p2_s, N, rfl, hm, hst, h0, h_109, h_26, rfl, rfl, rfl, rfl, rfl, rfl⟩ ?_
            clear hm; intro n f w_111 hI
            obtain ⟨col_112, a_114, cap_115, out_113, v_117, n_110, hn, hm, hst, h0, h_116, h_26, hs0, hs16, hs21, hs22, hs9, hs1000000⟩ := hI
            subst hn
            refine .ld (d := 0) (v := (.slice a0 p0_parents.length cap0)) hs0 ?_
            refine .ld (d := 16) (v := (.int .i64 best_102)) hs16 ?_
            refine .ld (d := 21) (v := (.slice a_114 out_113.length cap_115)) hs21 ?_
            refine .ld (d := 22) (v := (.int .i64 v_117)) hs22 ?_
            refine .ld (d := 9) (v := (.map (some g_24))) hs9 ?_
            refine .ld (d := 1000000) (v := (enc [])) hs1000000 ?_
            clear hs0 hs16 hs21 hs22 hs9 hs1000000
            cases n_110 with
            | zero => rw [m_dag_ring_L4.eq_1] at hm; cases hm
            | succ n_110 =>
              rw [m_dag_ring_L4.eq_2] at hm
              refine wseq ?_
              refine wseq ?_
              refine wregion ?_
              refine lv (v := (.slice a_114 out_113.length cap_115)) rfl rfl (r_move rfl) ?_
              refine lv (v := (.int .i64 (out_113.length : Int))) rfl rfl (r_len Try.underlying31 rfl) ?_
              refine lv (v := (.int .i64 best_102)) rfl rfl (r_move rfl) ?_
              refine lv (v := (.bool (decide ((out_113.length : Int) < best_102)))) rfl rfl (r_lss (out_113.length : Int) best_102 rfl rfl) ?_
              refine lnil ?_
              refine wcond (decide ((out_113.length : Int) < best_102)) rfl (fun hb => ?_) (fun hb => ?_)
              · rw [if_pos hb] at hm
                clear hb
                refine wskip ?_
                refine wblock ?_
                refine wseq ?_
                refine wregion ?_
                refine lv (v := (.int .i64 (-1))) rfl rfl (r_assign rfl) ?_
                refine lnil ?_
                refine wseq ?_
                refine wseq ?_
                refine wregion ?_
                refine lv (v := (.slice a0 p0_parents.length cap0)) rfl rfl (r_move rfl) ?_
                refine lv (v := (.int .i64 v_117)) rfl rfl (r_move rfl) ?_
                obtain ⟨e_118, hj_119, hm⟩ := bind_some hm
                refine lv (v := (sptr a0 (Int.toNat v_117 * 1))) rfl rfl (r_idx Try.underlying22 Try.sizeOf31 rfl rfl (at?_some hj_119).1 (at?_some hj_119).2.1 (h0.addr hj_119)) ?_
                obtain ⟨_, hr_120, hA_121⟩ := h0.atN hj_119
                obtain ⟨⟨a_122, cap_123, rfl, h_124⟩, _⟩ := hr_120
                refine lv (v := (.slice a_122 e_118.length cap_123)) rfl rfl (r_ld Try.isAgg31 rfl hA_121.one) ?_
                refine lv (v := (.int .i64 (e_118.length : Int))) rfl rfl (r_len Try.underlying31 rfl) ?_
                refine lv (v := (.int .i64 0)) rfl rfl (r_move rfl) ?_
                refine lnil ?_
                refine wblock ?_
                refine wloop (fun n f w_127 => ∃ (col_128 : Col) (k_125 : Nat) (least_129 : Int) (l_126 : List Int), n = l_126.length ∧ e_118.drop k_125 = l_126 ∧ m_dag_ring_L5 far_25 best_102 out_113 (m_dag_ring_L4 N p0_parents far_25 best_102 n_110) l_126 least_129 = some r ∧ St w0 (col0 col) col_128 w_127 ∧ Sl (Rep.slice (Rep.int .i64)) col_128 w_127 a0 cap0 p0_parents ∧ Sl (Rep.int .i64) col_128 w_127 a_122 cap_123 e_118 ∧ Own (Rep.int .i64) 3 4 col_128 w_127 a_114 cap_115 out_113 ∧ MapO (Value.int .i64) (Value.int .i64) 1 col_128 w_127 g_24 far_25 ∧ f 121 = (.int .i64 (k_125 : Int)) ∧ f 0 = (.slice a0 p0_parents.length cap0) ∧ f 119 = (.slice a_122 e_118.length cap_123) ∧ f 120 = (.int .i64 (e_118.length : Int)) ∧ f 16 = (.int .i64 best_102) ∧ f 21 = (.slice a_114 out_113.length cap_115) ∧ f 23 = (.int .i64 least_129) ∧ f 9 = (.map (some g_24)) ∧ f 1000000 = (enc [])) e_118.length ⟨col_112, 0, (-1), e_118, rfl, rfl, hm, hst, h0, h_124, h_116, h_26, rfl, rfl, rfl, rfl, rfl, rfl, rfl, rfl, rfl⟩ ?_
                clear hm; intro n f w_127 hI
                obtain ⟨col_128, k_125, least_129, l_126, hn, hl, hm, hst, h0, h_124, h_116, h_26, hs121, hs0, hs119, hs120, hs16, hs21, hs23, hs9, hs1000000⟩ := hI
                subst hn
                refine .ld (d := 121) (v := (.int .i64 (k_125 : Int))) hs121 ?_
                refine .ld (d := 0) (v := (.slice a0 p0_parents.length cap0)) hs0 ?_
                refine .ld (d := 119) (v := (.slice a_122 e_118.length cap_123)) hs119 ?_
                refine .ld (d := 120) (v := (.int .i64 (e_118.length : Int))) hs120 ?_
                refine .ld (d := 16) (v := (.int .i64 best_102)) hs16 ?_
                refine .ld (d := 21) (v := (.slice a_114 out_113.length cap_115)) hs21 ?_
                refine .ld (d := 23) (v := (.int .i64 least_129)) hs23 ?_
                refine .ld (d := 9) (v := (.map (some g_24))) hs9 ?_
                refine .ld (d := 1000000) (v := (enc [])) hs1000000 ?_
                clear hs121 hs0 hs119 hs120 hs16 hs21 hs23 hs9 hs1000000
                cases l_126 with
                | nil =>
                  have hk : ¬ ((k_125 : Int) < (e_118.length : Int)) := by have := List.drop_eq_nil_iff.1 hl; omega
                  have hkb := decide_eq_false hk
                  rw [m_dag_ring_L5.eq_1] at hm
                  refine wseq ?_
                  refine wregion ?_
                  refine lv (v := (.bool (decide ((k_125 : Int) < (e_118.length : Int))))) rfl rfl (r_lss (k_125 : Int) (e_118.length : Int) rfl rfl) ?_
                  refine lnil ?_
                  refine wseq ?_
                  refine wcondF (congrArg Value.bool hkb) ?_
                  refine wexit (inB_hit ?_)
                  refine wseq ?_
                  refine wregion ?_
                  refine lv (v := (.int .i64 least_129)) rfl rfl (r_move rfl) ?_
                  refine lv (v := (.int .i64 least_129)) rfl rfl (r_assign rfl) ?_
                  refine lnil ?_
                  refine wregion ?_
                  refine lv (v := (.slice a_114 out_113.length cap_115)) rfl rfl (r_move rfl) ?_
                  refine lv (v := (.int .i64 least_129)) rfl rfl (r_move rfl) ?_
                  refine l_lit (col := col_128) (r := (Rep.int .i64)) (xs := [least_129]) [(.int .i64 least_129)] 5 rfl Try.underlying31 el3_30 rfl rfl rfl rfl rfl rfl (by intro v hv; simp only [List.mem_cons, List.not_mem_nil, or_false] at hv; subst hv; rfl) (RowsH.ofF (Rows.consF (r := (Rep.int .i64)) (x := least_129) (cs := [(.int .i64 least_129)]) (rd_int .i64 least_129) Rows.nil0)) ?_
                  intro a_132 w_133 col_134 hg_135 h_136
                  replace h0 := h0.gr hg_135
                  replace h_26 := h_26.gr hg_135
                  replace h_116 := h_116.gr hg_135
                  replace hst := hst.grow hg_135
                  obtain ⟨hb_137, hm⟩ := chk_some hm
                  refine l_appendM (col := col_134) (w := w_133) (r := (Rep.int .i64)) (c := 4) (c2 := 4) (xs := out_113) (ys := [least_129]) h_116 (h_136.srcN (NB.int (k := .i64))) rfl Try.underlying31 el3_30 rfl rfl rfl hb_137.1 hb_137.2 (by decide) ?_
                  intro a_138 cap_139 w_140 col_141 hk_142 h_143
                  replace h0 := h0.kpp hk_142 rfl
                  replace h_26 := h_26.kpp hk_142 rfl
                  replace h_136 := h_136.kpp hk_142 rfl rfl
                  replace hst := hst.kpp hk_142 rfl rfl
                  clear h_116
                  refine lv (v := (.slice a_138 ((out_113 ++ [least_129]).length) cap_139)) rfl rfl (r_assign rfl) ?_
                  refine lnil ?_
                  exact ⟨n_110, by omega, ⟨col_141, a_138, cap_139, (out_113 ++ [least_129]), least_129, n_110, rfl, hm, hst, h0, h_143, h_26, rfl, rfl, rfl, rfl, rfl, rfl⟩⟩
                | cons x_130 l_131 =>
                  obtain ⟨hat, hl2, hlt⟩ := drop_get hl
                  have hk : (k_125 : Int) < (e_118.length : Int) := by omega
                  have hkb := decide_eq_true hk
                  rw [m_dag_ring_L5.eq_2] at hm
                  refine wseq ?_
                  refine wregion ?_
                  refine lv (v := (.bool (decide ((k_125 : Int) < (e_118.length : Int))))) rfl rfl (r_lss (k_125 : Int) (e_118.length : Int) rfl rfl) ?_
                  refine lnil ?_
                  refine wseq ?_
                  refine wcondT (congrArg Value.bool hkb) ?_
                  refine wskip ?_
                  refine wseq ?_
                  refine Wp.cut (fun f w_144 => ∃ (col_145 : Col) (least_146 : Int), m_dag_ring_J4 (m_dag_ring_L5 far_25 best_102 out_113 (m_dag_ring_L4 N p0_parents far_25 best_102 n_110) l_131) least_146 = some r ∧ St w0 (col0 col) col_145 w_144 ∧ Sl (Rep.slice (Rep.int .i64)) col_145 w_144 a0 cap0 p0_parents ∧ Sl (Rep.int .i64) col_145 w_144 a_122 cap_123 e_118 ∧ Own (Rep.int .i64) 3 4 col_145 w_144 a_114 cap_115 out_113 ∧ MapO (Value.int .i64) (Value.int .i64) 1 col_145 w_144 g_24 far_25 ∧ f 0 = (.slice a0 p0_parents.length cap0) ∧ f 119 = (.slice a_122 e_118.length cap_123) ∧ f 120 = (.int .i64 (e_118.length : Int)) ∧ f 121 = (.int .i64 (k_125 : Int)) ∧ f 16 = (.int .i64 best_102) ∧ f 21 = (.slice a_114 out_113.length cap_115) ∧ f 23 = (.int .i64 least_146) ∧ f 9 = (.map (some g_24)) ∧ f 1000000 = (enc [])) ?_ ?_
                  · intro f w_144 hJ
                    obtain ⟨col_145, least_146, hm, hst, h0, h_124, h_116, h_26, hs0, hs119, hs120, hs121, hs16, hs21, hs23, hs9, hs1000000⟩ := hJ
                    rw [m_dag_ring_J4.eq_1] at hm
                    refine .ld (d := 0) (v := (.slice a0 p0_parents.length cap0)) hs0 ?_
                    refine .ld (d := 119) (v := (.slice a_122 e_118.length cap_123)) hs119 ?_
                    refine .ld (d := 120) (v := (.int .i64 (e_118.length : Int))) hs120 ?_
                    refine .ld (d := 121) (v := (.int .i64 (k_125 : Int))) hs121 ?_
                    refine .ld (d := 16) (v := (.int .i64 best_102)) hs16 ?_
                    refine .ld (d := 21) (v := (.slice a_114 out_113.length cap_115)) hs21 ?_
                    refine .ld (d := 23) (v := (.int .i64 least_146)) hs23 ?_
                    refine .ld (d := 9) (v := (.map (some g_24))) hs9 ?_
                    refine .ld (d := 1000000) (v := (enc [])) hs1000000 ?_
                    clear hs0 hs119 hs120 hs121 hs16 hs21 hs23 hs9 hs1000000
                    refine wregion ?_
                    refine lv (v := (.int .i64 (IntKind.i64.wrap ((k_125 : Int) + 1)))) rfl rfl (r_add (k_125 : Int) 1 rfl rfl) ?_
                    refine lv (v := (.int .i64 (IntKind.i64.wrap ((k_125 : Int) + 1)))) rfl rfl (r_move rfl) ?_
                    refine lnil ?_
                    exact ⟨l_131.length, by simp, ⟨col_145, (k_125 + 1), least_146, l_131, rfl, hl2, hm, hst, h0, h_124, h_116, h_26, (congrArg (Value.int .i64) (wrap_succ (Nat.lt_of_lt_of_le hlt h_124.1.1))), rfl, rfl, rfl, rfl, rfl, rfl, rfl, rfl⟩⟩
                  · refine wblock ?_
                    refine wseq ?_
                    refine wregion ?_
                    refine lv (v := (sptr a_122 (Int.toNat (k_125 : Int) * 1))) rfl rfl (r_idx Try.underlying31 Try.sizeOf3 rfl rfl (at?_some hat).1 (at?_some hat).2.1 (h_124.addr hat)) ?_
                    refine lv (v := (.int .i64 x_130)) rfl rfl (r_ld Try.isAgg3 rfl (h_124.atInt hat)) ?_
                    refine lv (v := (.int .i64 x_130)) rfl rfl (r_assign rfl) ?_
                    refine lnil ?_
                    refine wseq ?_
                    refine wregion ?_
                    refine lv (v := (.map (some g_24))) rfl rfl (r_move rfl) ?_
                    refine lv (v := (.int .i64 x_130)) rfl rfl (r_move rfl) ?_
                    refine lv (v := (.tuple #[(.int .i64 ((mget far_25 x_130).getD 0)), (.bool ((mget far_25 x_130).isSome))])) rfl rfl (r_lookupOk KeyD.int h_26 Try.underlying51 Try.underlying3 Try.zeroValue3 rfl rfl) ?_
                    refine lv (v := (.tuple #[(.int .i64 ((mget far_25 x_130).getD 0)), (.bool ((mget far_25 x_130).isSome))])) rfl rfl (r_move rfl) ?_
                    refine lv (v := (.int .i64 ((mget far_25 x_130).getD 0))) rfl rfl (r_extract rfl rfl) ?_
                    refine lv (v := (.bool ((mget far_25 x_130).isSome))) rfl rfl (r_extract rfl rfl) ?_
                    refine lv (v := (.int .i64 ((mget far_25 x_130).getD 0))) rfl rfl (r_assign rfl) ?_
                    refine lv (v := (.bool ((mget far_25 x_130).isSome))) rfl rfl (r_assign rfl) ?_
                    refine lnil ?_
                    refine wseq ?_
                    refine Wp.cut (fun f w_150 => ∃ (col_151 : Col) (v_152 : Bool), m_dag_ring_J5 least_129 (m_dag_ring_L5 far_25 best_102 out_113 (m_dag_ring_L4 N p0_parents far_25 best_102 n_110) l_131) x_130 v_152 = some r ∧ St w0 (col0 col) col_151 w_150 ∧ Sl (Rep.slice (Rep.int .i64)) col_151 w_150 a0 cap0 p0_parents ∧ Sl (Rep.int .i64) col_151 w_150 a_122 cap_123 e_118 ∧ Own (Rep.int .i64) 3 4 col_151 w_150 a_114 cap_115 out_113 ∧ MapO (Value.int .i64) (Value.int .i64) 1 col_151 w_150 g_24 far_25 ∧ f 0 = (.slice a0 p0_parents.length cap0) ∧ f 119 = (.slice a_122 e_118.length cap_123) ∧ f 120 = (.int .i64 (e_118.length : Int)) ∧ f 121 = (.int .i64 (k_125 : Int)) ∧ f 148 = (.bool v_152) ∧ f 16 = (.int .i64 best_102) ∧ f 21 = (.slice a_114 out_113.length cap_115) ∧ f 23 = (.int .i64 least_129) ∧ f 25 = (.int .i64 x_130) ∧ f 9 = (.map (some g_24)) ∧ f 1000000 = (enc [])) ?_ ?_
                    · intro f w_150 hJ
                      obtain ⟨col_151, v_152, hm, hst, h0, h_124, h_116, h_26, hs0, hs119, hs120, hs121, hs148, hs16, hs21, hs23, hs25, hs9, hs1000000⟩ := hJ
                      rw [m_dag_ring_J5.eq_1] at hm
                      refine .ld (d := 0) (v := (.slice a0 p0_parents.length cap0)) hs0 ?_
                      refine .ld (d := 119) (v := (.slice a_122 e_118.length cap_123)) hs119 ?_
                      refine .ld (d := 120) (v := (.int .i64 (e_118.length : Int))) hs120 ?_
                      refine .ld (d := 121) (v := (.int .i64 (k_125 : Int))) hs121 ?_
                      refine .ld (d := 148) (v := (.bool v_152)) hs148 ?_
                      refine .ld (d := 16) (v := (.int .i64 best_102)) hs16 ?_
                      refine .ld (d := 21) (v := (.slice a_114 out_113.length cap_115)) hs21 ?_
                      refine .ld (d := 23) (v := (.int .i64 least_129)) hs23 ?_
                      refine .ld (d := 25) (v := (.int .i64 x_130)) hs25 ?_
                      refine .ld (d := 9) (v := (.map (some g_24))) hs9 ?_
                      refine .ld (d := 1000000) (v := (enc [])) hs1000000 ?_
                      clear hs0 hs119 hs120 hs121 hs148 hs16 hs21 hs23 hs25 hs9 hs1000000
                      refine wcond (v_152) rfl (fun hb => ?_) (fun hb => ?_)
                      · rw [if_pos hb] at hm
                        clear hb
                        refine wregion ?_
                        refine lv (v := (.int .i64 x_130)) rfl rfl (r_move rfl) ?_
                        refine lv (v := (.int .i64 x_130)) rfl rfl (r_assign rfl) ?_
                        refine lnil ?_
                        exact ⟨col_151, x_130, hm, hst, h0, h_124, h_116, h_26, rfl, rfl, rfl, rfl, rfl, rfl, rfl, rfl, rfl⟩
                      · rw [if_neg (by rw [hb]; decide)] at hm
                        clear hb
                        refine wskip ?_
                        exact ⟨col_151, least_129, hm, hst, h0, h_124, h_116, h_26, rfl, rfl, rfl, rfl, rfl, rfl, rfl, rfl, rfl⟩
                    · refine wregion ?_
                      refine lv (v := (.bool ((mget far_25 x_130).isSome))) rfl rfl (r_move rfl) ?_
                      refine lv (v := (.bool ((mget far_25 x_130).isSome))) rfl rfl (r_move rfl) ?_
                      by_cases hg_153 : ((mget far_25 x_130).isSome) = true
                      · rw [if_pos hg_153] at hm
                        refine lg (b := (mget far_25 x_130).isSome) 132 rfl rfl rfl (by rw [hg_153]; rfl) ?_
                        refine lv (v := (.int .i64 ((mget far_25 x_130).getD 0))) rfl rfl (r_move rfl) ?_
                        refine lg (b := (mget far_25 x_130).isSome) 132 rfl rfl rfl (by rw [hg_153]; rfl) ?_
                        refine lv (v := (.int .i64 best_102)) rfl rfl (r_move rfl) ?_
                        refine lg (b := (mget far_25 x_130).isSome) 132 rfl rfl rfl (by rw [hg_153]; rfl) ?_
                        refine lv (v := (.slice a_114 out_113.length cap_115)) rfl rfl (r_move rfl) ?_
                        refine lg (b := (mget far_25 x_130).isSome) 132 rfl rfl rfl (by rw [hg_153]; rfl) ?_
                        refine lv (v := (.int .i64 (out_113.length : Int))) rfl rfl (r_len Try.underlying31 rfl) ?_
                        refine lg (b := (mget far_25 x_130).isSome) 132 rfl rfl rfl (by rw [hg_153]; rfl) ?_
                        refine lv (v := (.int .i64 (IntKind.i64.wrap (best_102 - (out_113.length : Int))))) rfl rfl (r_sub best_102 (out_113.length : Int) rfl rfl) ?_
                        refine lg (b := (mget far_25 x_130).isSome) 132 rfl rfl rfl (by rw [hg_153]; rfl) ?_
                        refine lv (v := (.bool (decide (((mget far_25 x_130).getD 0) = (IntKind.i64.wrap (best_102 - (out_113.length : Int))))))) rfl rfl (r_eql ((mget far_25 x_130).getD 0) (IntKind.i64.wrap (best_102 - (out_113.length : Int))) rfl rfl) ?_
                        refine lv (v := (.bool (decide (((mget far_25 x_130).getD 0) = (IntKind.i64.wrap (best_102 - (out_113.length : Int))))))) rfl rfl (r_pickT (congrArg Value.bool hg_153) rfl) ?_
                        refine lv (v := (.bool (decide (((mget far_25 x_130).getD 0) = (IntKind.i64.wrap (best_102 - (out_113.length : Int))))))) rfl rfl (r_move rfl) ?_
                        by_cases hg_154 : (decide (((mget far_25 x_130).getD 0) = (IntKind.i64.wrap (best_102 - (out_113.length : Int))))) = true
                        · rw [if_pos hg_154] at hm
                          refine lg (b := decide (((mget far_25 x_130).getD 0) = (IntKind.i64.wrap (best_102 - (out_113.length : Int))))) 140 rfl rfl rfl (by rw [hg_154]; rfl) ?_
                          refine lv (v := (.int .i64 least_129)) rfl rfl (r_move rfl) ?_
                          refine lg (b := decide (((mget far_25 x_130).getD 0) = (IntKind.i64.wrap (best_102 - (out_113.length : Int))))) 140 rfl rfl rfl (by rw [hg_154]; rfl) ?_
                          refine lv (v := (.bool (decide (least_129 < 0)))) rfl rfl (r_lss least_129 0 rfl rfl) ?_
                          refine lg (b := decide (((mget far_25 x_130).getD 0) = (IntKind.i64.wrap (best_102 - (out_113.length : Int))))) 140 rfl rfl rfl (by rw [hg_154]; rfl) ?_
                          refine lv (v := (.bool (decide (least_129 < 0)))) rfl rfl (r_move rfl) ?_
                          by_cases hg_155 : (decide (least_129 < 0)) = true
                          · rw [if_pos hg_155] at hm
                            refine lp (b := decide (least_129 < 0)) 143 rfl rfl rfl rfl (by rw [hg_155]; rfl) ?_
                            refine lp (b := decide (least_129 < 0)) 143 rfl rfl rfl rfl (by rw [hg_155]; rfl) ?_
                            refine lp (b := decide (least_129 < 0)) 143 rfl rfl rfl rfl (by rw [hg_155]; rfl) ?_
                            refine lg (b := decide (((mget far_25 x_130).getD 0) = (IntKind.i64.wrap (best_102 - (out_113.length : Int))))) 140 rfl rfl rfl (by rw [hg_154]; rfl) ?_
                            refine lv (v := (.bool true)) rfl rfl (r_pickT (congrArg Value.bool hg_155) rfl) ?_
                            refine lv (v := (.bool true)) rfl rfl (r_pickT (congrArg Value.bool hg_154) rfl) ?_
                            refine lnil ?_
                            exact ⟨col_128, true, hm, hst, h0, h_124, h_116, h_26, rfl, rfl, rfl, rfl, rfl, rfl, rfl, rfl, rfl, rfl, rfl⟩
                          · rw [if_neg hg_155] at hm
                            replace hg_155 := Bool.eq_false_iff.2 hg_155
                            refine lg (b := decide (least_129 < 0)) 143 rfl rfl rfl (by rw [hg_155]; rfl) ?_
                            refine lv (v := (.int .i64 x_130)) rfl rfl (r_move rfl) ?_
                            refine lg (b := decide (least_129 < 0)) 143 rfl rfl rfl (by rw [hg_155]; rfl) ?_
                            refine lv (v := (.int .i64 least_129)) rfl rfl (r_move rfl) ?_
                            refine lg (b := decide (least_129 < 0)) 143 rfl rfl rfl (by rw [hg_155]; rfl) ?_
                            refine lv (v := (.bool (decide (x_130 < least_129)))) rfl rfl (r_lss x_130 least_129 rfl rfl) ?_
                            refine lg (b := decide (((mget far_25 x_130).getD 0) = (IntKind.i64.wrap (best_102 - (out_113.length : Int))))) 140 rfl rfl rfl (by rw [hg_154]; rfl) ?_
                            refine lv (v := (.bool (decide (x_130 < least_129)))) rfl rfl (r_pickF (congrArg Value.bool hg_155) rfl) ?_
                            refine lv (v := (.bool (decide (x_130 < least_129)))) rfl rfl (r_pickT (congrArg Value.bool hg_154) rfl) ?_
                            refine lnil ?_
                            exact ⟨col_128, (decide (x_130 < least_129)), hm, hst, h0, h_124, h_116, h_26, rfl, rfl, rfl, rfl, rfl, rfl, rfl, rfl, rfl, rfl, rfl⟩
                        · rw [if_neg hg_154] at hm
                          replace hg_154 := Bool.eq_false_iff.2 hg_154
                          refine lp (b := decide (((mget far_25 x_130).getD 0) = (IntKind.i64.wrap (best_102 - (out_113.length : Int))))) 140 rfl rfl rfl rfl (by rw [hg_154]; rfl) ?_
                          refine lp (b := decide (((mget far_25 x_130).getD 0) = (IntKind.i64.wrap (best_102 - (out_113.length : Int))))) 140 rfl rfl rfl rfl (by rw [hg_154]; rfl) ?_
                          refine lp (b := decide (((mget far_25 x_130).getD 0) = (IntKind.i64.wrap (best_102 - (out_113.length : Int))))) 140 rfl rfl rfl rfl (by rw [hg_154]; rfl) ?_
                          refine lpU 143 rfl rfl rfl rfl ?_
                          refine lpU 143 rfl rfl rfl rfl ?_
                          refine lpU 143 rfl rfl rfl rfl ?_
                          refine lp (b := decide (((mget far_25 x_130).getD 0) = (IntKind.i64.wrap (best_102 - (out_113.length : Int))))) 140 rfl rfl rfl rfl (by rw [hg_154]; rfl) ?_
                          refine lv (v := (.bool false)) rfl rfl (r_pickF (congrArg Value.bool hg_154) rfl) ?_
                          refine lnil ?_
                          exact ⟨col_128, false, hm, hst, h0, h_124, h_116, h_26, rfl, rfl, rfl, rfl, rfl, rfl, rfl, rfl, rfl, rfl, rfl⟩
                      · rw [if_neg hg_153] at hm
                        replace hg_153 := Bool.eq_false_iff.2 hg_153
                        refine lp (b := (mget far_25 x_130).isSome) 132 rfl rfl rfl rfl (by rw [hg_153]; rfl) ?_
                        refine lp (b := (mget far_25 x_130).isSome) 132 rfl rfl rfl rfl (by rw [hg_153]; rfl) ?_
                        refine lp (b := (mget far_25 x_130).isSome) 132 rfl rfl rfl rfl (by rw [hg_153]; rfl) ?_
                        refine lp (b := (mget far_25 x_130).isSome) 132 rfl rfl rfl rfl (by rw [hg_153]; rfl) ?_
                        refine lp (b := (mget far_25 x_130).isSome) 132 rfl rfl rfl rfl (by rw [hg_153]; rfl) ?_
                        refine lp (b := (mget far_25 x_130).isSome) 132 rfl rfl rfl rfl (by rw [hg_153]; rfl) ?_
                        refine lv (v := (.bool false)) rfl rfl (r_pickF (congrArg Value.bool hg_153) rfl) ?_
                        refine lv (v := (.bool false)) rfl rfl (r_move rfl) ?_
                        refine lp (b := false) 140 rfl rfl rfl rfl rfl ?_
                        refine lp (b := false) 140 rfl rfl rfl rfl rfl ?_
                        refine lp (b := false) 140 rfl rfl rfl rfl rfl ?_
                        refine lpU 143 rfl rfl rfl rfl ?_
                        refine lpU 143 rfl rfl rfl rfl ?_
                        refine lpU 143 rfl rfl rfl rfl ?_
                        refine lp (b := false) 140 rfl rfl rfl rfl rfl ?_
                        refine lv (v := (.bool false)) rfl rfl (r_pickF rfl rfl) ?_
                        refine lnil ?_
                        exact ⟨col_128, false, hm, hst, h0, h_124, h_116, h_26, rfl, rfl, rfl, rfl, rfl, rfl, rfl, rfl, rfl, rfl, rfl⟩
              · rw [if_neg (by rw [hb]; decide)] at hm
                clear hb
                refine wexit (inB_hit ?_)
                refine wseq ?_
                refine wregion ?_
                refine lv (v := (.slice a_114 out_113.length cap_115)) rfl rfl (r_move rfl) ?_
                refine lv (v := (.slice a_114 out_113.length cap_115)) rfl rfl (r_assign rfl) ?_
                refine lnil ?_
                refine wret ?_
                obtain ⟨hnn, hm⟩ := chk_some hm
                cases hm
                exact ⟨rfl, colF w0.heap.size col col_112 (fun n => bif Nat.beq n 4 then c1 else 0), a_114, cap_115, rfl, hst.fin (fun n => bif Nat.beq n 4 then c1 else 0), hst.finOwn (g := (fun n => bif Nat.beq n 4 then c1 else 0)) rfl h_116 (by decide) (by decide) rfl, (fun h => absurd h hnn)⟩
        | cons x_103 l_104 =>
          obtain ⟨hat, hl2, hlt⟩ := drop_get hl
          have hk : (k_98 : Int) < (e_91.length : Int) := by omega
          have hkb := decide_eq_true hk
          rw [m_dag_ring_L3.eq_2] at hm
          refine wseq ?_
          refine wregion ?_
          refine lv (v := (.bool (decide ((k_98 : Int) < (e_91.length : Int))))) rfl rfl (r_lss (k_98 : Int) (e_91.length : Int) rfl rfl) ?_
          refine lnil ?_
          refine wseq ?_
          refine wcondT (congrArg Value.bool hkb) ?_
          refine wskip ?_
          refine wseq ?_
          refine Wp.cut (fun f w_156 => ∃ (col_157 : Col) (best_158 : Int), m_dag_ring_J6 (m_dag_ring_L3 N p0_parents p2_s p3_most far_25 l_104) best_158 = some r ∧ St w0 (col0 col) col_157 w_156 ∧ Sl (Rep.slice (Rep.int .i64)) col_157 w_156 a0 cap0 p0_parents ∧ Sl (Rep.int .i64) col_157 w_156 a_95 cap_96 e_91 ∧ MapO (Value.int .i64) (Value.int .i64) 1 col_157 w_156 g_24 far_25 ∧ f 0 = (.slice a0 p0_parents.length cap0) ∧ f 16 = (.int .i64 best_158) ∧ f 2 = (.int .i64 p2_s) ∧ f 3 = (.int .i64 p3_most) ∧ f 88 = (.slice a_95 e_91.length cap_96) ∧ f 89 = (.int .i64 (e_91.length : Int)) ∧ f 9 = (.map (some g_24)) ∧ f 90 = (.int .i64 (k_98 : Int)) ∧ f 1000000 = (enc [])) ?_ ?_
          · intro f w_156 hJ
            obtain ⟨col_157, best_158, hm, hst, h0, h_97, h_26, hs0, hs16, hs2, hs3, hs88, hs89, hs9, hs90, hs1000000⟩ := hJ
            rw [m_dag_ring_J6.eq_1] at hm
            refine .ld (d := 0) (v := (.slice a0 p0_parents.length cap0)) hs0 ?_
            refine .ld (d := 16) (v := (.int .i64 best_158)) hs16 ?_
            refine .ld (d := 2) (v := (.int .i64 p2_s)) hs2 ?_
            refine .ld (d := 3) (v := (.int .i64 p3_most)) hs3 ?_
            refine .ld (d := 88) (v := (.slice a_95 e_91.length cap_96)) hs88 ?_
            refine .ld (d := 89) (v := (.int .i64 (e_91.length : Int))) hs89 ?_
            refine .ld (d := 9) (v := (.map (some g_24))) hs9 ?_
            refine .ld (d := 90) (v := (.int .i64 (k_98 : Int))) hs90 ?_
            refine .ld (d := 1000000) (v := (enc [])) hs1000000 ?_
            clear hs0 hs16 hs2 hs3 hs88 hs89 hs9 hs90 hs1000000
            refine wregion ?_
            refine lv (v := (.int .i64 (IntKind.i64.wrap ((k_98 : Int) + 1)))) rfl rfl (r_add (k_98 : Int) 1 rfl rfl) ?_
            refine lv (v := (.int .i64 (IntKind.i64.wrap ((k_98 : Int) + 1)))) rfl rfl (r_move rfl) ?_
            refine lnil ?_
            exact ⟨l_104.length, by simp, ⟨col_157, best_158, (k_98 + 1), l_104, rfl, hl2, hm, hst, h0, h_97, h_26, (congrArg (Value.int .i64) (wrap_succ (Nat.lt_of_lt_of_le hlt h_97.1.1))), rfl, rfl, rfl, rfl, rfl, rfl, rfl, rfl⟩⟩
          · refine wblock ?_
            refine wseq ?_
            refine wregion ?_
            refine lv (v := (sptr a_95 (Int.toNat (k_98 : Int) * 1))) rfl rfl (r_idx Try.underlying31 Try.sizeOf3 rfl rfl (at?_some hat).1 (at?_some hat).2.1 (h_97.addr hat)) ?_
            refine lv (v := (.int .i64 x_103)) rfl rfl (r_ld Try.isAgg3 rfl (h_97.atInt hat)) ?_
            refine lv (v := (.int .i64 x_103)) rfl rfl (r_assign rfl) ?_
            refine lnil ?_
            refine wseq ?_
            refine wregion ?_
            refine lv (v := (.map (some g_24))) rfl rfl (r_move rfl) ?_
            refine lv (v := (.int .i64 x_103)) rfl rfl (r_move rfl) ?_
            refine lv (v := (.tuple #[(.int .i64 ((mget far_25 x_103).getD 0)), (.bool ((mget far_25 x_103).isSome))])) rfl rfl (r_lookupOk KeyD.int h_26 Try.underlying51 Try.underlying3 Try.zeroValue3 rfl rfl) ?_
            refine lv (v := (.tuple #[(.int .i64 ((mget far_25 x_103).getD 0)), (.bool ((mget far_25 x_103).isSome))])) rfl rfl (r_move rfl) ?_
            refine lv (v := (.int .i64 ((mget far_25 x_103).getD 0))) rfl rfl (r_extract rfl rfl) ?_
            refine lv (v := (.bool ((mget far_25 x_103).isSome))) rfl rfl (r_extract rfl rfl) ?_
            refine lv (v := (.int .i64 ((mget far_25 x_103).getD 0))) rfl rfl (r_assign rfl) ?_
            refine lv (v := (.bool ((mget far_25 x_103).isSome))) rfl rfl (r_assign rfl) ?_
            refine lnil ?_
            refine wseq ?_
            refine wregion ?_
            refine lv (v := (.bool ((mget far_25 x_103).isSome))) rfl rfl (r_move rfl) ?_
            refine lnil ?_
            refine wcond ((mget far_25 x_103).isSome) rfl (fun hb => ?_) (fun hb => ?_)
            · rw [if_pos hb] at hm
              clear hb
              refine wregion ?_
              refine lv (v := (.int .i64 best_102)) rfl rfl (r_move rfl) ?_
              refine lv (v := (.int .i64 ((mget far_25 x_103).getD 0))) rfl rfl (r_move rfl) ?_
              refine lv (v := (.int .i64 (IntKind.i64.wrap (((mget far_25 x_103).getD 0) + 1)))) rfl rfl (r_add ((mget far_25 x_103).getD 0) 1 rfl rfl) ?_
              refine lv (v := (.int .i64 (if (IntKind.i64.wrap (((mget far_25 x_103).getD 0) + 1)) < best_102 then (IntKind.i64.wrap (((mget far_25 x_103).getD 0) + 1)) else best_102))) rfl rfl (r_min best_102 (IntKind.i64.wrap (((mget far_25 x_103).getD 0) + 1)) rfl rfl) ?_
              refine lv (v := (.int .i64 (if (IntKind.i64.wrap (((mget far_25 x_103).getD 0) + 1)) < best_102 then (IntKind.i64.wrap (((mget far_25 x_103).getD 0) + 1)) else best_102))) rfl rfl (r_assign rfl) ?_
              refine lnil ?_
              exact ⟨col_101, (if (IntKind.i64.wrap (((mget far_25 x_103).getD 0) + 1)) < best_102 then (IntKind.i64.wrap (((mget far_25 x_103).getD 0) + 1)) else best_102), hm, hst, h0, h_97, h_26, rfl, rfl, rfl, rfl, rfl, rfl, rfl, rfl, rfl⟩
            · rw [if_neg (by rw [hb]; decide)] at hm
              clear hb
              refine wskip ?_
              exact ⟨col_101, best_102, hm, hst, h0, h_97, h_26, rfl, rfl, rfl, rfl, rfl, rfl, rfl, rfl, rfl⟩
    · refine wregion ?_
      refine lv (v := (.slice a_21 next_20.length cap_22)) rfl rfl (r_move rfl) ?_
      refine lv (v := (.int .i64 (next_20.length : Int))) rfl rfl (r_len Try.underlying31 rfl) ?_
      refine lv (v := (.bool (decide (0 < (next_20.length : Int))))) rfl rfl (r_gtr (next_20.length : Int) 0 rfl rfl) ?_
      refine lv (v := (.bool (decide (0 < (next_20.length : Int))))) rfl rfl (r_move rfl) ?_
      by_cases hg_159 : (decide (0 < (next_20.length : Int))) = true
      · rw [if_pos hg_159] at hm
        refine lg (b := decide (0 < (next_20.length : Int))) 36 rfl rfl rfl (by rw [hg_159]; rfl) ?_
        refine lv (v := (.map (some g_24))) rfl rfl (r_move rfl) ?_
        refine lg (b := decide (0 < (next_20.length : Int))) 36 rfl rfl rfl (by rw [hg_159]; rfl) ?_
        refine lv (v := (.slice a_21 next_20.length cap_22)) rfl rfl (r_move rfl) ?_
        refine lg (b := decide (0 < (next_20.length : Int))) 36 rfl rfl rfl (by rw [hg_159]; rfl) ?_
        obtain ⟨e_160, hj_161, hm⟩ := bind_some hm
        refine lv (v := (sptr a_21 (Int.toNat 0 * 1))) rfl rfl (r_idx Try.underlying31 Try.sizeOf3 rfl rfl (at?_some hj_161).1 (at?_some hj_161).2.1 (h_23.addr hj_161)) ?_
        refine lg (b := decide (0 < (next_20.length : Int))) 36 rfl rfl rfl (by rw [hg_159]; rfl) ?_
        refine lv (v := (.int .i64 e_160)) rfl rfl (r_ld Try.isAgg3 rfl (h_23.atInt hj_161)) ?_
        refine lg (b := decide (0 < (next_20.length : Int))) 36 rfl rfl rfl (by rw [hg_159]; rfl) ?_
        refine lv (v := (.int .i64 ((mget far_25 e_160).getD 0))) rfl rfl (r_lookup KeyD.int h_26 Try.underlying51 Try.underlying3 Try.zeroValue3 rfl rfl) ?_
        refine lg (b := decide (0 < (next_20.length : Int))) 36 rfl rfl rfl (by rw [hg_159]; rfl) ?_
        refine lv (v := (.int .i64 p3_most)) rfl rfl (r_move rfl) ?_
        refine lg (b := decide (0 < (next_20.length : Int))) 36 rfl rfl rfl (by rw [hg_159]; rfl) ?_
        refine lv (v := (.int .i64 (IntKind.i64.wrap (p3_most - 1)))) rfl rfl (r_sub p3_most 1 rfl rfl) ?_
        refine lg (b := decide (0 < (next_20.length : Int))) 36 rfl rfl rfl (by rw [hg_159]; rfl) ?_
        refine lv (v := (.bool (decide (((mget far_25 e_160).getD 0) < (IntKind.i64.wrap (p3_most - 1)))))) rfl rfl (r_lss ((mget far_25 e_160).getD 0) (IntKind.i64.wrap (p3_most - 1)) rfl rfl) ?_
        refine lv (v := (.bool (decide (((mget far_25 e_160).getD 0) < (IntKind.i64.wrap (p3_most - 1)))))) rfl rfl (r_pickT (congrArg Value.bool hg_159) rfl) ?_
        refine lnil ?_
        exact ⟨col_19, (decide (((mget far_25 e_160).getD 0) < (IntKind.i64.wrap (p3_most - 1)))), hm, hst, h0, h1, h_23, h_26, rfl, rfl, rfl, rfl, rfl, rfl, rfl, rfl⟩
      · rw [if_neg hg_159] at hm
        replace hg_159 := Bool.eq_false_iff.2 hg_159
        refine lp (b := decide (0 < (next_20.length : Int))) 36 rfl rfl rfl rfl (by rw [hg_159]; rfl) ?_
        refine lp (b := decide (0 < (next_20.length : Int))) 36 rfl rfl rfl rfl (by rw [hg_159]; rfl) ?_
        refine lp (b := decide (0 < (next_20.length : Int))) 36 rfl rfl rfl rfl (by rw [hg_159]; rfl) ?_
        refine lp (b := decide (0 < (next_20.length : Int))) 36 rfl rfl rfl rfl (by rw [hg_159]; rfl) ?_
        refine lp (b := decide (0 < (next_20.length : Int))) 36 rfl rfl rfl rfl (by rw [hg_159]; rfl) ?_
        refine lp (b := decide (0 < (next_20.length : Int))) 36 rfl rfl rfl rfl (by rw [hg_159]; rfl) ?_
        refine lp (b := decide (0 < (next_20.length : Int))) 36 rfl rfl rfl rfl (by rw [hg_159]; rfl) ?_
        refine lp (b := decide (0 < (next_20.length : Int))) 36 rfl rfl rfl rfl (by rw [hg_159]; rfl) ?_
        refine lv (v := (.bool false)) rfl rfl (r_pickF (congrArg Value.bool hg_159) rfl) ?_
        refine lnil ?_
        exact ⟨col_19, false, hm, hst, h0, h1, h_23, h_26, rfl, rfl, rfl, rfl, rfl, rfl, rfl, rfl⟩




def m_dag_Cycle_J1 (k_36 : Nat) (kk_L2 : (Nat → (List Int) → Int → Option (List Int))) (best_49 : List Int) (most_53 : Int) : Option (List Int) :=
  kk_L2 (k_36 + 1) best_49 most_53

def m_dag_Cycle_L2 (N : Nat) (p0_parents : (List (List Int))) (r_5 : (List (List Int))) (out_32 : List (Int × Int)) : List (List Int) → Nat → (List Int) → Int → Option (List Int)
  | [], k_36, best_40, most_44 => some best_40
  | x_45 :: l_46, k_36, best_40, most_44 => if (decide (0 < ((mget out_32 (k_36 : Int)).getD 0))) = true then (m_dag_Cycle_J1 k_36 (m_dag_Cycle_L2 N p0_parents r_5 out_32 l_46) best_40 most_44) else ((m_dag_ring N p0_parents r_5 (k_36 : Int) most_44).bind fun r_54 => if (!decide (r_54 = [])) = true then (m_dag_Cycle_J1 k_36 (m_dag_Cycle_L2 N p0_parents r_5 out_32 l_46) r_54 (r_54.length : Int)) else (m_dag_Cycle_J1 k_36 (m_dag_Cycle_L2 N p0_parents r_5 out_32 l_46) best_40 most_44))

def m_dag_Cycle_L1 (N : Nat) (p0_parents : (List (List Int))) (r_5 : (List (List Int))) : List Int → (List (Int × Int)) → Option (List Int)
  | [], out_32 => m_dag_Cycle_L2 N p0_parents r_5 out_32 p0_parents 0 ([] : List Int) (IntKind.i64.wrap ((p0_parents.length : Int) + 1))
  | x_34 :: l_35, out_32 => (some (mput out_32 x_34 1)).bind fun es_68 => (m_dag_Cycle_L1 N p0_parents r_5 l_35) es_68

def m_dag_Cycle (N : Nat) (p0_parents : (List (List Int))) : Option (List Int) :=
  (m_dag_Check N p0_parents).bind fun r_1 => if (!decide (r_1 = 42)) = true then (some ([] : List Int)) else ((m_dag_children p0_parents).bind fun r_5 => (m_dag_sorted N p0_parents r_5).bind fun r_18 => m_dag_Cycle_L1 N p0_parents r_5 r_18 ([] : List (Int × Int)))

set_option maxRecDepth 100000 in
theorem c_dag_Cycle (N : Nat) (c1 : Nat) (col : Col) (w0 : World) (a0 : Option Addr) (cap0 : Nat) (p0_parents : (List (List Int))) (h0 : Sl (Rep.slice (Rep.int .i64)) col w0 a0 cap0 p0_parents) (r : (List Int)) (hm : m_dag_Cycle N p0_parents = some r) :
    Calls Try.prog 17 #[(.slice a0 p0_parents.length cap0)] w0 (fun e w' => ∃ (col' : Col) (ra1 : Option Addr) (rc2 : Nat), e = .returned ((.slice ra1 r.length rc2)) ∧ Grow col w0 col' w' ∧ Own (Rep.int .i64) 3 c1 col' w' ra1 rc2 r) := by
  refine calls_of1 2 (m := 54) (args := [(.slice a0 p0_parents.length cap0)]) Try.func17 rfl rfl rfl rfl rfl ?_
  rw [m_dag_Cycle.eq_1] at hm
  have hst := St.start col w0
  replace h0 := h0.keep (Stay.start col w0)
  refine wseq ?_
  refine wregion ?_
  refine lv (v := (.slice none (([] : List Int).length) 0)) rfl rfl (r_assign rfl) ?_
  refine lnil ?_
  refine wseq ?_
  refine wseq ?_
  refine wregion ?_
  refine lv (v := (.slice a0 p0_parents.length cap0)) rfl rfl (r_move rfl) ?_
  obtain ⟨r_1, hr_2, hm⟩ := bind_some hm
  refine lc rfl rfl (r_call1 Try.call18 rfl) (c_dag_Check N (col0 col) _ a0 cap0 p0_parents h0 r_1 hr_2) ?_
  rintro _ w_3 ⟨rfl, hg_4⟩
  refine ⟨_, rfl, ?_⟩
  replace hg_4 : Grow (col0 col) w0 (col0 col) w_3 := .of_below hg_4
  replace h0 := h0.gr hg_4
  replace hst := hst.grow hg_4
  refine lv (v := (.bool (!decide (r_1 = 42)))) rfl rfl (r_neq r_1 42 rfl rfl) ?_
  refine lnil ?_
  refine wcond (!decide (r_1 = 42)) rfl (fun hb => ?_) (fun hb => ?_)
  · rw [if_pos hb] at hm
    clear hb
    refine wseq ?_
    refine wregion ?_
    refine lv (v := (.slice none (([] : List Int).length) 0)) rfl rfl (r_assign rfl) ?_
    refine lnil ?_
    refine wret ?_
    cases hm
    exact ⟨rfl, colF w0.heap.size col (col0 col) (fun n => 0), none, 0, rfl, hst.fin (fun n => 0), Own.nil⟩
  · rw [if_neg (by rw [hb]; decide)] at hm
    clear hb
    refine wskip ?_
    refine wseq ?_
    refine wregion ?_
    refine lv (v := (.slice a0 p0_parents.length cap0)) rfl rfl (r_move rfl) ?_
    obtain ⟨r_5, hr_6, hm⟩ := bind_some hm
    refine lc rfl rfl (r_call1 Try.call29 rfl) (c_dag_children 1 (col0 col) _ a0 cap0 p0_parents h0 r_5 hr_6) ?_
    rintro _ w_10 ⟨col_12, ra_7, rc_8, rfl, hg_11, rh_9⟩
    refine ⟨_, rfl, ?_⟩
    replace h0 := h0.gr hg_11
    replace hst := hst.grow hg_11
    refine lv (v := (.slice ra_7 r_5.length rc_8)) rfl rfl (r_assign rfl) ?_
    refine lnil ?_
    refine wseq ?_
    refine wregion ?_
    refine lv (v := (.slice a0 p0_parents.length cap0)) rfl rfl (r_move rfl) ?_
    refine lv (v := (.int .i64 (p0_parents.length : Int))) rfl rfl (r_len Try.underlying22 rfl) ?_
    refine l_makeMapN (col := col_12) (fk := (Value.int .i64)) (fv := (Value.int .i64)) 2 rfl Try.underlying51 rfl ?_
    intro g_13 w_14 col_15 hg_16 h_17
    replace h0 := h0.gr hg_16
    replace rh_9 := rh_9.gr hg_16
    replace hst := hst.grow hg_16
    refine lv (v := (.map (some g_13))) rfl rfl (r_assign rfl) ?_
    refine lnil ?_
    refine wseq ?_
    refine wseq ?_
    refine wregion ?_
    refine lv (v := (.slice a0 p0_parents.length cap0)) rfl rfl (r_move rfl) ?_
    refine lv (v := (.slice ra_7 r_5.length rc_8)) rfl rfl (r_move rfl) ?_
    obtain ⟨r_18, hr_19, hm⟩ := bind_some hm
    refine lc rfl rfl (r_call2 Try.call28 rfl rfl) (c_dag_sorted N 3 (frC 1 col_15) _ a0 cap0 p0_parents ra_7 rc_8 r_5 (h0.froz 1) (rh_9.toSlF (Froz.row (Froz.int .i64))) r_18 hr_19) ?_
    rintro _ w_23 ⟨col_25, ra_20, rc_21, rfl, hg_24, rh_22⟩
    refine ⟨_, rfl, ?_⟩
    replace rh_22 := rh_22.thaw (flat_int .i64) hg_24 ((Fz.refl (col := col_15)).froz 1) (by decide)
    replace hg_24 := hg_24.thawR (col := col_15)
    generalize colR w_14.heap.size col_15 col_25 = col_26 at *
    replace h0 := h0.gr hg_24
    replace rh_9 := rh_9.gr hg_24
    replace h_17 := h_17.gr hg_24
    replace hst := hst.grow hg_24
    refine lv (v := (.int .i64 (r_18.length : Int))) rfl rfl (r_len Try.underlying31 rfl) ?_
    refine lv (v := (.int .i64 0)) rfl rfl (r_move rfl) ?_
    refine lnil ?_
    refine wblock ?_
    refine wloop (fun n f w_29 => ∃ (col_30 : Col) (k_27 : Nat) (g_31 : Nat) (out_32 : List (Int × Int)) (l_28 : List Int), n = l_28.length ∧ r_18.drop k_27 = l_28 ∧ m_dag_Cycle_L1 N p0_parents r_5 l_28 out_32 = some r ∧ St w0 (col0 col) col_30 w_29 ∧ Sl (Rep.slice (Rep.int .i64)) col_30 w_29 a0 cap0 p0_parents ∧ Own (Rep.int .i64) 3 3 col_30 w_29 ra_20 rc_21 r_18 ∧ Own (Rep.row 3 (Rep.int .i64)) 31 1 col_30 w_29 ra_7 rc_8 r_5 ∧ MapO (Value.int .i64) (Value.int .i64) 2 col_30 w_29 g_31 out_32 ∧ f 23 = (.int .i64 (k_27 : Int)) ∧ f 0 = (.slice a0 p0_parents.length cap0) ∧ f 21 = (.slice ra_20 r_18.length rc_21) ∧ f 22 = (.int .i64 (r_18.length : Int)) ∧ f 3 = (.slice ra_7 r_5.length rc_8) ∧ f 4 = (.map (some g_31)) ∧ f 1000000 = (enc [])) r_18.length ⟨col_26, 0, g_13, ([] : List (Int × Int)), r_18, rfl, rfl, hm, hst, h0, rh_22, rh_9, h_17, rfl, rfl, rfl, rfl, rfl, rfl, rfl⟩ ?_
    clear hm; intro n f w_29 hI
    obtain ⟨col_30, k_27, g_31, out_32, l_28, hn, hl, hm, hst, h0, rh_22, rh_9, h_33, hs23, hs0, hs21, hs22, hs3, hs4, hs1000000⟩ := hI
    subst hn
    refine .ld (d := 23) (v := (.int .i64 (k_27 : Int))) hs23 ?_
    refine .ld (d := 0) (v := (.slice a0 p0_parents.length cap0)) hs0 ?_
    refine .ld (d := 21) (v := (.slice ra_20 r_18.length rc_21)) hs21 ?_
    refine .ld (d := 22) (v := (.int .i64 (r_18.length : Int))) hs22 ?_
    refine .ld (d := 3) (v := (.slice ra_7 r_5.length rc_8)) hs3 ?_
    refine .ld (d := 4) (v := (.map (some g_31))) hs4 ?_
    refine .ld (d := 1000000) (v := (enc [])) hs1000000 ?_
    clear hs23 hs0 hs21 hs22 hs3 hs4 hs1000000
    cases l_28 with
    | nil =>
      have hk : ¬ ((k_27 : Int) < (r_18.length : Int)) := by have := List.drop_eq_nil_iff.1 hl; omega
      have hkb := decide_eq_false hk
      rw [m_dag_Cycle_L1.eq_1] at hm
      refine wseq ?_
      refine wregion ?_
      refine lv (v := (.bool (decide ((k_27 : Int) < (r_18.length : Int))))) rfl rfl (r_lss (k_27 : Int) (r_18.length : Int) rfl rfl) ?_
      refine lnil ?_
      refine wseq ?_
      refine wcondF (congrArg Value.bool hkb) ?_
      refine wexit (inB_hit ?_)
      refine wseq ?_
      refine wregion ?_
      refine lv (v := (.slice none (([] : List Int).length) 0)) rfl rfl (r_assign rfl) ?_
      refine lnil ?_
      refine wseq ?_
      refine wregion ?_
      refine lv (v := (.slice a0 p0_parents.length cap0)) rfl rfl (r_move rfl) ?_
      refine lv (v := (.int .i64 (p0_parents.length : Int))) rfl rfl (r_len Try.underlying22 rfl) ?_
      refine lv (v := (.int .i64 (IntKind.i64.wrap ((p0_parents.length : Int) + 1)))) rfl rfl (r_add (p0_parents.length : Int) 1 rfl rfl) ?_
      refine lv (v := (.int .i64 (IntKind.i64.wrap ((p0_parents.length : Int) + 1)))) rfl rfl (r_assign rfl) ?_
      refine lnil ?_
      refine wseq ?_
      refine wseq ?_
      refine wregion ?_
      refine lv (v := (.slice a0 p0_parents.length cap0)) rfl rfl (r_move rfl) ?_
      refine lv (v := (.int .i64 (p0_parents.length : Int))) rfl rfl (r_len Try.underlying22 rfl) ?_
      refine lv (v := (.int .i64 0)) rfl rfl (r_move rfl) ?_
      refine lnil ?_
      refine wblock ?_
      refine wloop (fun n f w_38 => ∃ (col_39 : Col) (k_36 : Nat) (a_41 : Option Addr) (cap_42 : Nat) (best_40 : List Int) (most_44 : Int) (l_37 : List (List Int)), n = l_37.length ∧ p0_parents.drop k_36 = l_37 ∧ m_dag_Cycle_L2 N p0_parents r_5 out_32 l_37 k_36 best_40 most_44 = some r ∧ St w0 (col0 col) col_39 w_38 ∧ Sl (Rep.slice (Rep.int .i64)) col_39 w_38 a0 cap0 p0_parents ∧ Own (Rep.row 3 (Rep.int .i64)) 31 1 col_39 w_38 ra_7 rc_8 r_5 ∧ MapO (Value.int .i64) (Value.int .i64) 2 col_39 w_38 g_31 out_32 ∧ Own (Rep.int .i64) 3 4 col_39 w_38 a_41 cap_42 best_40 ∧ f 35 = (.int .i64 (k_36 : Int)) ∧ f 0 = (.slice a0 p0_parents.length cap0) ∧ f 3 = (.slice ra_7 r_5.length rc_8) ∧ f 34 = (.int .i64 (p0_parents.length : Int)) ∧ f 4 = (.map (some g_31)) ∧ f 7 = (.slice a_41 best_40.length cap_42) ∧ f 8 = (.int .i64 most_44) ∧ f 1000000 = (enc [])) p0_parents.length ⟨col_30, 0, none, 0, ([] : List Int), (IntKind.i64.wrap ((p0_parents.length : Int) + 1)), p0_parents, rfl, rfl, hm, hst, h0, rh_9, h_33, Own.nil, rfl, rfl, rfl, rfl, rfl, rfl, rfl, rfl⟩ ?_
      clear hm; intro n f w_38 hI
      obtain ⟨col_39, k_36, a_41, cap_42, best_40, most_44, l_37, hn, hl, hm, hst, h0, rh_9, h_33, h_43, hs35, hs0, hs3, hs34, hs4, hs7, hs8, hs1000000⟩ := hI
      subst hn
      refine .ld (d := 35) (v := (.int .i64 (k_36 : Int))) hs35 ?_
      refine .ld (d := 0) (v := (.slice a0 p0_parents.length cap0)) hs0 ?_
      refine .ld (d := 3) (v := (.slice ra_7 r_5.length rc_8)) hs3 ?_
      refine .ld (d := 34) (v := (.int .i64 (p0_parents.length : Int))) hs34 ?_
      refine .ld (d := 4) (v := (.map (some g_31))) hs4 ?_
      refine .ld (d := 7) (v := (.slice a_41 best_40.length cap_42)) hs7 ?_
      refine .ld (d := 8) (v := (.int .i64 most_44)) hs8 ?_
      refine .ld (d := 1000000) (v := (enc [])) hs1000000 ?_
      clear hs35 hs0 hs3 hs34 hs4 hs7 hs8 hs1000000
      cases l_37 with
      | nil =>
        have hk : ¬ ((k_36 : Int) < (p0_parents.length : Int)) := by have := List.drop_eq_nil_iff.1 hl; omega
        have hkb := decide_eq_false hk
        rw [m_dag_Cycle_L2.eq_1] at hm
        refine wseq ?_
        refine wregion ?_
        refine lv (v := (.bool (decide ((k_36 : Int) < (p0_parents.length : Int))))) rfl rfl (r_lss (k_36 : Int) (p0_parents.length : Int) rfl rfl) ?_
        refine lnil ?_
        refine wseq ?_
        refine wcondF (congrArg Value.bool hkb) ?_
        refine wexit (inB_hit ?_)
        refine wseq ?_
        refine wregion ?_
        refine lv (v := (.slice a_41 best_40.length cap_42)) rfl rfl (r_move rfl) ?_
        refine lv (v := (.slice a_41 best_40.length cap_42)) rfl rfl (r_assign rfl) ?_
        refine lnil ?_
        refine wret ?_
        cases hm
        exact ⟨rfl, colF w0.heap.size col col_39 (fun n => bif Nat.beq n 4 then c1 else 0), a_41, cap_42, rfl, hst.fin (fun n => bif Nat.beq n 4 then c1 else 0), hst.finOwn (g := (fun n => bif Nat.beq n 4 then c1 else 0)) rfl h_43 (by decide) (by decide) rfl⟩
      | cons x_45 l_46 =>
        obtain ⟨hat, hl2, hlt⟩ := drop_get hl
        have hk : (k_36 : Int) < (p0_parents.length : Int) := by omega
        have hkb := decide_eq_true hk
        rw [m_dag_Cycle_L2.eq_2] at hm
        refine wseq ?_
        refine wregion ?_
        refine lv (v := (.bool (decide ((k_36 : Int) < (p0_parents.length : Int))))) rfl rfl (r_lss (k_36 : Int) (p0_parents.length : Int) rfl rfl) ?_
        refine lnil ?_
        refine wseq ?_
        refine wcondT (congrArg Value.bool hkb) ?_
        refine wskip ?_
        refine wseq ?_
        refine Wp.cut (fun f w_47 => ∃ (col_48 : Col) (a_50 : Option Addr) (cap_51 : Nat) (best_49 : List Int) (most_53 : Int), m_dag_Cycle_J1 k_36 (m_dag_Cycle_L2 N p0_parents r_5 out_32 l_46) best_49 most_53 = some r ∧ St w0 (col0 col) col_48 w_47 ∧ Sl (Rep.slice (Rep.int .i64)) col_48 w_47 a0 cap0 p0_parents ∧ Own (Rep.row 3 (Rep.int .i64)) 31 1 col_48 w_47 ra_7 rc_8 r_5 ∧ MapO (Value.int .i64) (Value.int .i64) 2 col_48 w_47 g_31 out_32 ∧ Own (Rep.int .i64) 3 4 col_48 w_47 a_50 cap_51 best_49 ∧ f 0 = (.slice a0 p0_parents.length cap0) ∧ f 3 = (.slice ra_7 r_5.length rc_8) ∧ f 34 = (.int .i64 (p0_parents.length : Int)) ∧ f 35 = (.int .i64 (k_36 : Int)) ∧ f 4 = (.map (some g_31)) ∧ f 7 = (.slice a_50 best_49.length cap_51) ∧ f 8 = (.int .i64 most_53) ∧ f 1000000 = (enc [])) ?_ ?_
        · intro f w_47 hJ
          obtain ⟨col_48, a_50, cap_51, best_49, most_53, hm, hst, h0, rh_9, h_33, h_52, hs0, hs3, hs34, hs35, hs4, hs7, hs8, hs1000000⟩ := hJ
          rw [m_dag_Cycle_J1.eq_1] at hm
          refine .ld (d := 0) (v := (.slice a0 p0_parents.length cap0)) hs0 ?_
          refine .ld (d := 3) (v := (.slice ra_7 r_5.length rc_8)) hs3 ?_
          refine .ld (d := 34) (v := (.int .i64 (p0_parents.length : Int))) hs34 ?_
          refine .ld (d := 35) (v := (.int .i64 (k_36 : Int))) hs35 ?_
          refine .ld (d := 4) (v := (.map (some g_31))) hs4 ?_
          refine .ld (d := 7) (v := (.slice a_50 best_49.length cap_51)) hs7 ?_
          refine .ld (d := 8) (v := (.int .i64 most_53)) hs8 ?_
          refine .ld (d := 1000000) (v := (enc [])) hs1000000 ?_
          clear hs0 hs3 hs34 hs35 hs4 hs7 hs8 hs1000000
          refine wregion ?_
          refine lv (v := (.int .i64 (IntKind.i64.wrap ((k_36 : Int) + 1)))) rfl rfl (r_add (k_36 : Int) 1 rfl rfl) ?_
          refine lv (v := (.int .i64 (IntKind.i64.wrap ((k_36 : Int) + 1)))) rfl rfl (r_move rfl) ?_
          refine lnil ?_
          exact ⟨l_46.length, by simp, ⟨col_48, (k_36 + 1), a_50, cap_51, best_49, most_53, l_46, rfl, hl2, hm, hst, h0, rh_9, h_33, h_52, (congrArg (Value.int .i64) (wrap_succ (Nat.lt_of_lt_of_le hlt h0.1.1))), rfl, rfl, rfl, rfl, rfl, rfl, rfl⟩⟩
        · refine wblock ?_
          refine wseq ?_
          refine wregion ?_
          refine lv (v := (.int .i64 (k_36 : Int))) rfl rfl (r_move rfl) ?_
          refine lv (v := (.int .i64 (k_36 : Int))) rfl rfl (r_assign rfl) ?_
          refine lnil ?_
          refine wseq ?_
          refine wseq ?_
          refine wregion ?_
          refine lv (v := (.map (some g_31))) rfl rfl (r_move rfl) ?_
          refine lv (v := (.int .i64 (k_36 : Int))) rfl rfl (r_move rfl) ?_
          refine lv (v := (.int .i64 ((mget out_32 (k_36 : Int)).getD 0))) rfl rfl (r_lookup KeyD.int h_33 Try.underlying51 Try.underlying3 Try.zeroValue3 rfl rfl) ?_
          refine lv (v := (.bool (decide (0 < ((mget out_32 (k_36 : Int)).getD 0))))) rfl rfl (r_gtr ((mget out_32 (k_36 : Int)).getD 0) 0 rfl rfl) ?_
          refine lnil ?_
          refine wcond (decide (0 < ((mget out_32 (k_36 : Int)).getD 0))) rfl (fun hb => ?_) (fun hb => ?_)
          · rw [if_pos hb] at hm
            clear hb
            refine wexit (inB_hit ?_)
            exact ⟨col_39, a_41, cap_42, best_40, most_44, hm, hst, h0, rh_9, h_33, h_43, rfl, rfl, rfl, rfl, rfl, rfl, rfl, rfl⟩
          · rw [if_neg (by rw [hb]; decide)] at hm
            clear hb
            refine wskip ?_
            refine wseq ?_
            refine wregion ?_
            refine lv (v := (.slice a0 p0_parents.length cap0)) rfl rfl (r_move rfl) ?_
            refine lv (v := (.slice ra_7 r_5.length rc_8)) rfl rfl (r_move rfl) ?_
            refine lv (v := (.int .i64 (k_36 : Int))) rfl rfl (r_move rfl) ?_
            refine lv (v := (.int .i64 most_44)) rfl rfl (r_move rfl) ?_
            obtain ⟨r_54, hr_55, hm⟩ := bind_some hm
            refine lc rfl rfl (r_call4 Try.call30 rfl rfl rfl rfl) (c_dag_ring N 5 (frC 1 col_39) _ a0 cap0 p0_parents ra_7 rc_8 r_5 (k_36 : Int) most_44 (h0.froz 1) (rh_9.toSlF (Froz.row (Froz.int .i64))) r_54 hr_55) ?_
            rintro _ w_60 ⟨col_62, ra_56, rc_57, rfl, hg_61, rh_58, hnn_59⟩
            refine ⟨_, rfl, ?_⟩
            replace rh_58 := rh_58.thaw (flat_int .i64) hg_61 ((Fz.refl (col := col_39)).froz 1) (by decide)
            replace hg_61 := hg_61.thawR (col := col_39)
            generalize colR w_38.heap.size col_39 col_62 = col_63 at *
            replace h0 := h0.gr hg_61
            replace rh_9 := rh_9.gr hg_61
            replace h_33 := h_33.gr hg_61
            replace h_43 := h_43.gr hg_61
            replace hst := hst.grow hg_61
            refine lv (v := (.slice ra_56 r_54.length rc_57)) rfl rfl (r_assign rfl) ?_
            refine lnil ?_
            refine wseq ?_
            refine wregion ?_
            refine lv (v := (.slice ra_56 r_54.length rc_57)) rfl rfl (r_move rfl) ?_
            refine lv (v := .bool (!ra_56.isNone)) rfl rfl (r_neqNil Try.underlying31 rfl) ?_
            refine .ld (d := 48) (v := .bool (!decide (r_54 = []))) (congrArg (fun b => Value.bool (!b)) (nil_nnO rh_58 hnn_59)) ?_
            refine lnil ?_
            refine wcond (!decide (r_54 = [])) rfl (fun hb => ?_) (fun hb => ?_)
            · rw [if_pos hb] at hm
              clear hb
              refine wregion ?_
              refine lv (v := (.slice ra_56 r_54.length rc_57)) rfl rfl (r_move rfl) ?_
              refine lv (v := (.slice ra_56 r_54.length rc_57)) rfl rfl (r_move rfl) ?_
              refine lv (v := (.int .i64 (r_54.length : Int))) rfl rfl (r_len Try.underlying31 rfl) ?_
              refine lv (v := (.slice ra_56 r_54.length rc_57)) rfl rfl (r_assign rfl) ?_
              refine lv (v := (.int .i64 (r_54.length : Int))) rfl rfl (r_assign rfl) ?_
              refine lnil ?_
              replace h0 := h0.recol 5 4 (by decide)
              replace rh_9 := rh_9.recol 5 4 (by decide)
              replace h_33 := h_33.recol 5 4 (by decide)
              replace rh_58 := rh_58.recolSelf 4 (by decide)
              replace hst := hst.recol 5 4 (by decide) (by decide)
              exact ⟨(rcC 5 4 col_63), ra_56, rc_57, r_54, (r_54.length : Int), hm, hst, h0, rh_9, h_33, rh_58, rfl, rfl, rfl, rfl, rfl, rfl, rfl, rfl⟩
            · rw [if_neg (by rw [hb]; decide)] at hm
              clear hb
              refine wskip ?_
              exact ⟨col_63, a_41, cap_42, best_40, most_44, hm, hst, h0, rh_9, h_33, h_43, rfl, rfl, rfl, rfl, rfl, rfl, rfl, rfl⟩
    | cons x_34 l_35 =>
      obtain ⟨hat, hl2, hlt⟩ := drop_get hl
      have hk : (k_27 : Int) < (r_18.length : Int) := by omega
      have hkb := decide_eq_true hk
      rw [m_dag_Cycle_L1.eq_2] at hm
      refine wseq ?_
      refine wregion ?_
      refine lv (v := (.bool (decide ((k_27 : Int) < (r_18.length : Int))))) rfl rfl (r_lss (k_27 : Int) (r_18.length : Int) rfl rfl) ?_
      refine lnil ?_
      refine wseq ?_
      refine wcondT (congrArg Value.bool hkb) ?_
      refine wskip ?_
      refine wseq ?_
      refine wblock ?_
      refine wseq ?_
      refine wregion ?_
      refine lv (v := (sptr ra_20 (Int.toNat (k_27 : Int) * 1))) rfl rfl (r_idx Try.underlying31 Try.sizeOf3 rfl rfl (at?_some hat).1 (at?_some hat).2.1 (rh_22.addr hat)) ?_
      refine lv (v := (.int .i64 x_34)) rfl rfl (r_ld Try.isAgg3 rfl (rh_22.atInt hat)) ?_
      refine lv (v := (.int .i64 x_34)) rfl rfl (r_assign rfl) ?_
      refine lnil ?_
      refine wregion ?_
      refine lv (v := (.map (some g_31))) rfl rfl (r_move rfl) ?_
      refine lv (v := (.int .i64 x_34)) rfl rfl (r_move rfl) ?_
      obtain ⟨es_68, hz_69, hm⟩ := bind_some hm
      have hz_69 : es_68 = mput out_32 x_34 1 := (Option.some.inj hz_69).symm
      refine l_mapUpdate (k := x_34) (v := 1) KeyD.int h_33 Try.underlying51 Try.underlying3 rfl rfl rfl ?_
      intro w_64 hk_65 hs_66 h_67
      rw [← hz_69] at h_67
      clear hz_69
      replace h0 := h0.kp hk_65 (by decide)
      replace rh_22 := rh_22.kp hk_65 (by decide) (by decide)
      replace rh_9 := rh_9.kp hk_65 (by decide) (by decide)
      replace hst := hst.kp hk_65 hs_66 (by decide) (by decide)
      clear h_33
      refine lnil ?_
      refine wregion ?_
      refine lv (v := (.int .i64 (IntKind.i64.wrap ((k_27 : Int) + 1)))) rfl rfl (r_add (k_27 : Int) 1 rfl rfl) ?_
      refine lv (v := (.int .i64 (IntKind.i64.wrap ((k_27 : Int) + 1)))) rfl rfl (r_move rfl) ?_
      refine lnil ?_
      exact ⟨l_35.length, by simp, ⟨col_30, (k_27 + 1), g_31, es_68, l_35, rfl, hl2, hm, hst, h0, rh_22, rh_9, h_67, (congrArg (Value.int .i64) (wrap_succ (Nat.lt_of_lt_of_le hlt rh_22.len))), rfl, rfl, rfl, rfl, rfl, rfl⟩⟩



theorem el3_15 : ElemOk Try.prog 3 1 8 := ⟨Try.t3, _, rfl, rfl, rfl, rfl, rfl⟩
theorem el31_15 : ElemOk Try.prog 31 1 24 := ⟨Try.t31, _, rfl, rfl, rfl, rfl, rfl⟩

def m_credencelaw14_alive_J1 (v_144 : Bool) : Option Bool :=
  some v_144

def m_credencelaw14_alive (N : Nat)  : Option Bool :=
  (m_dag_Order N [([] : List Int), [0], [0], [2, 1]]).bind fun r_29 => (m_dag_Above N [([] : List Int), [0], [0], [2, 1]] [1, 2]).bind fun r_71 => (m_dag_Cycle N [[1], [2], [0]]).bind fun r_102 => if (decide (r_29.2 = 0)) = true then (if (decide (r_71.2 = 0)) = true then ((m_credenceref14_Same N r_29.1 [0, 1, 2, 3]).bind fun r_152 => if r_152 = true then ((m_credenceref14_Same N r_71.1 [0, 1, 2]).bind fun r_162 => if r_162 = true then ((m_credenceref14_Same N r_102 [0, 1, 2]).bind fun r_172 => m_credencelaw14_alive_J1 r_172) else (m_credencelaw14_alive_J1 false)) else (m_credencelaw14_alive_J1 false)) else (m_credencelaw14_alive_J1 false)) else (m_credencelaw14_alive_J1 false)

set_option maxRecDepth 100000 in
theorem c_credencelaw14_alive (N : Nat) (col : Col) (w0 : World)  (r : Bool) (hm : m_credencelaw14_alive N = some r) :
    Calls Try.prog 15 #[] w0 (fun e w' => e = .returned ((.bool r)) ∧ Below w0.heap.size w0 w') := by
  refine calls_of1 0 (m := 51) (args := []) Try.func15 rfl rfl rfl rfl rfl ?_
  rw [m_credencelaw14_alive.eq_1] at hm
  have hst := St.start col w0
  refine wseq ?_
  refine wregion ?_
  refine lv (v := (.bool false)) rfl rfl (r_assign rfl) ?_
  refine lnil ?_
  refine wseq ?_
  refine wregion ?_
  refine l_lit0 (col := (col0 col)) (r := (Rep.int .i64)) 1 rfl Try.underlying31 el3_15 rfl ?_
  intro a_1 w_2 col_3 hg_4 h_5
  replace hst := hst.grow hg_4
  refine l_lit (col := col_3) (r := (Rep.int .i64)) (xs := [0]) [(.int .i64 0)] 2 rfl Try.underlying31 el3_15 rfl rfl rfl rfl rfl rfl (by intro v hv; simp only [List.mem_cons, List.not_mem_nil, or_false] at hv; subst hv; rfl) (RowsH.ofF (Rows.consF (r := (Rep.int .i64)) (x := 0) (cs := [(.int .i64 0)]) (rd_int .i64 0) Rows.nil0)) ?_
  intro a_6 w_7 col_8 hg_9 h_10
  replace h_5 := h_5.gr hg_9
  replace hst := hst.grow hg_9
  refine l_lit (col := col_8) (r := (Rep.int .i64)) (xs := [0]) [(.int .i64 0)] 3 rfl Try.underlying31 el3_15 rfl rfl rfl rfl rfl rfl (by intro v hv; simp only [List.mem_cons, List.not_mem_nil, or_false] at hv; subst hv; rfl) (RowsH.ofF (Rows.consF (r := (Rep.int .i64)) (x := 0) (cs := [(.int .i64 0)]) (rd_int .i64 0) Rows.nil0)) ?_
  intro a_11 w_12 col_13 hg_14 h_15
  replace h_5 := h_5.gr hg_14
  replace h_10 := h_10.gr hg_14
  replace hst := hst.grow hg_14
  refine l_lit (col := col_13) (r := (Rep.int .i64)) (xs := [2, 1]) [(.int .i64 2), (.int .i64 1)] 4 rfl Try.underlying31 el3_15 rfl rfl rfl rfl rfl rfl (by intro v hv; simp only [List.mem_cons, List.not_mem_nil, or_false] at hv; rcases hv with rfl | rfl <;> rfl) (RowsH.ofF (Rows.consF (r := (Rep.int .i64)) (x := 2) (cs := [(.int .i64 2)]) (rd_int .i64 2) (Rows.consF (r := (Rep.int .i64)) (x := 1) (cs := [(.int .i64 1)]) (rd_int .i64 1) Rows.nil0))) ?_
  intro a_16 w_17 col_18 hg_19 h_20
  replace h_5 := h_5.gr hg_19
  replace h_10 := h_10.gr hg_19
  replace h_15 := h_15.gr hg_19
  replace hst := hst.grow hg_19
  have hx_21 := RowsH.cons (cs := [(.slice a_11 ([0].length) 1)]) h_15.has (RowsH.cons1 (cs := [(.slice a_16 ([2, 1].length) 2)]) h_20.has Rows.nil0) (by decide) (by decide)
  replace h_5 := h_5.recol 3 4 (by decide)
  replace h_10 := h_10.recol 3 4 (by decide)
  replace h_15 := h_15.recolSelf 4 (by decide)
  replace h_20 := h_20.recol 3 4 (by decide)
  replace hst := hst.recol 3 4 (by decide) (by decide)
  have hx_22 := RowsH.cons (cs := [(.slice a_6 ([0].length) 1)]) h_10.has hx_21 (by decide) (by decide)
  replace h_5 := h_5.recol 2 4 (by decide)
  replace h_10 := h_10.recolSelf 4 (by decide)
  replace h_15 := h_15.recol 2 4 (by decide)
  replace h_20 := h_20.recol 2 4 (by decide)
  replace hst := hst.recol 2 4 (by decide) (by decide)
  have hx_23 := RowsH.cons (cs := [(.slice a_1 (([] : List Int).length) 0)]) h_5.has hx_22 (by decide) (by decide)
  replace h_5 := h_5.recolSelf 4 (by decide)
  replace h_10 := h_10.recol 1 4 (by decide)
  replace h_15 := h_15.recol 1 4 (by decide)
  replace h_20 := h_20.recol 1 4 (by decide)
  replace hst := hst.recol 1 4 (by decide) (by decide)
  refine l_lit (col := (rcC 1 4 (rcC 2 4 (rcC 3 4 col_18)))) (r := (Rep.row 3 (Rep.int .i64))) (xs := [([] : List Int), [0], [0], [2, 1]]) [(.slice a_1 (([] : List Int).length) 0), (.slice a_6 ([0].length) 1), (.slice a_11 ([0].length) 1), (.slice a_16 ([2, 1].length) 2)] 4 rfl Try.underlying22 el31_15 rfl rfl rfl rfl rfl rfl (by intro v hv; simp only [List.mem_cons, List.not_mem_nil, or_false] at hv; rcases hv with rfl | rfl | rfl | rfl <;> rfl) hx_23 ?_
  intro a_24 w_25 col_26 hg_27 h_28
  replace h_5 := h_5.gr hg_27
  replace h_10 := h_10.gr hg_27
  replace h_15 := h_15.gr hg_27
  replace h_20 := h_20.gr hg_27
  replace hst := hst.grow hg_27
  obtain ⟨r_29, hr_30, hm⟩ := bind_some hm
  refine lc rfl rfl (r_call1 Try.call16 rfl) (c_dag_Order N 5 (frC 4 col_26) _ a_24 4 [([] : List Int), [0], [0], [2, 1]] (h_28.toSlF (Froz.row (Froz.int .i64))) r_29 hr_30) ?_
  rintro _ w_34 ⟨col_36, ra_31, rc_32, rfl, hg_35, rh_33⟩
  refine ⟨_, rfl, ?_⟩
  replace rh_33 := rh_33.thaw (flat_int .i64) hg_35 ((Fz.refl (col := col_26)).froz 4) (by decide)
  replace hg_35 := hg_35.thawR (col := col_26)
  generalize colR w_25.heap.size col_26 col_36 = col_37 at *
  replace h_28 := h_28.gr hg_35
  replace hst := hst.grow hg_35
  refine lv (v := (.tuple #[(.slice ra_31 r_29.1.length rc_32), (.int .i64 r_29.2)])) rfl rfl (r_move rfl) ?_
  refine lv (v := (.slice ra_31 r_29.1.length rc_32)) rfl rfl (r_extract rfl rfl) ?_
  refine lv (v := (.int .i64 r_29.2)) rfl rfl (r_extract rfl rfl) ?_
  refine lv (v := (.slice ra_31 r_29.1.length rc_32)) rfl rfl (r_assign rfl) ?_
  refine lv (v := (.int .i64 r_29.2)) rfl rfl (r_assign rfl) ?_
  refine lnil ?_
  refine wseq ?_
  refine wregion ?_
  refine l_lit0 (col := col_37) (r := (Rep.int .i64)) 6 rfl Try.underlying31 el3_15 rfl ?_
  intro a_38 w_39 col_40 hg_41 h_42
  replace rh_33 := rh_33.gr hg_41
  replace hst := hst.grow hg_41
  refine l_lit (col := col_40) (r := (Rep.int .i64)) (xs := [0]) [(.int .i64 0)] 7 rfl Try.underlying31 el3_15 rfl rfl rfl rfl rfl rfl (by intro v hv; simp only [List.mem_cons, List.not_mem_nil, or_false] at hv; subst hv; rfl) (RowsH.ofF (Rows.consF (r := (Rep.int .i64)) (x := 0) (cs := [(.int .i64 0)]) (rd_int .i64 0) Rows.nil0)) ?_
  intro a_43 w_44 col_45 hg_46 h_47
  replace rh_33 := rh_33.gr hg_46
  replace h_42 := h_42.gr hg_46
  replace hst := hst.grow hg_46
  refine l_lit (col := col_45) (r := (Rep.int .i64)) (xs := [0]) [(.int .i64 0)] 8 rfl Try.underlying31 el3_15 rfl rfl rfl rfl rfl rfl (by intro v hv; simp only [List.mem_cons, List.not_mem_nil, or_false] at hv; subst hv; rfl) (RowsH.ofF (Rows.consF (r := (Rep.int .i64)) (x := 0) (cs := [(.int .i64 0)]) (rd_int .i64 0) Rows.nil0)) ?_
  intro a_48 w_49 col_50 hg_51 h_52
  replace rh_33 := rh_33.gr hg_51
  replace h_42 := h_42.gr hg_51
  replace h_47 := h_47.gr hg_51
  replace hst := hst.grow hg_51
  refine l_lit (col := col_50) (r := (Rep.int .i64)) (xs := [2, 1]) [(.int .i64 2), (.int .i64 1)] 9 rfl Try.underlying31 el3_15 rfl rfl rfl rfl rfl rfl (by intro v hv; simp only [List.mem_cons, List.not_mem_nil, or_false] at hv; rcases hv with rfl | rfl <;> rfl) (RowsH.ofF (Rows.consF (r := (Rep.int .i64)) (x := 2) (cs := [(.int .i64 2)]) (rd_int .i64 2) (Rows.consF (r := (Rep.int .i64)) (x := 1) (cs := [(.int .i64 1)]) (rd_int .i64 1) Rows.nil0))) ?_
  intro a_53 w_54 col_55 hg_56 h_57
  replace rh_33 := rh_33.gr hg_56
  replace h_42 := h_42.gr hg_56
  replace h_47 := h_47.gr hg_56
  replace h_52 := h_52.gr hg_56
  replace hst := hst.grow hg_56
  have hx_58 := RowsH.cons (cs := [(.slice a_48 ([0].length) 1)]) h_52.has (RowsH.cons1 (cs := [(.slice a_53 ([2, 1].length) 2)]) h_57.has Rows.nil0) (by decide) (by decide)
  replace rh_33 := rh_33.recol 8 9 (by decide)
  replace h_42 := h_42.recol 8 9 (by decide)
  replace h_47 := h_47.recol 8 9 (by decide)
  replace h_52 := h_52.recolSelf 9 (by decide)
  replace h_57 := h_57.recol 8 9 (by decide)
  replace hst := hst.recol 8 9 (by decide) (by decide)
  have hx_59 := RowsH.cons (cs := [(.slice a_43 ([0].length) 1)]) h_47.has hx_58 (by decide) (by decide)
  replace rh_33 := rh_33.recol 7 9 (by decide)
  replace h_42 := h_42.recol 7 9 (by decide)
  replace h_47 := h_47.recolSelf 9 (by decide)
  replace h_52 := h_52.recol 7 9 (by decide)
  replace h_57 := h_57.recol 7 9 (by decide)
  replace hst := hst.recol 7 9 (by decide) (by decide)
  have hx_60 := RowsH.cons (cs := [(.slice a_38 (([] : List Int).length) 0)]) h_42.has hx_59 (by decide) (by decide)
  replace rh_33 := rh_33.recol 6 9 (by decide)
  replace h_42 := h_42.recolSelf 9 (by decide)
  replace h_47 := h_47.recol 6 9 (by decide)
  replace h_52 := h_52.recol 6 9 (by decide)
  replace h_57 := h_57.recol 6 9 (by decide)
  replace hst := hst.recol 6 9 (by decide) (by decide)
  refine l_lit (col := (rcC 6 9 (rcC 7 9 (rcC 8 9 col_55)))) (r := (Rep.row 3 (Rep.int .i64))) (xs := [([] : List Int), [0], [0], [2, 1]]) [(.slice a_38 (([] : List Int).length) 0), (.slice a_43 ([0].length) 1), (.slice a_48 ([0].length) 1), (.slice a_53 ([2, 1].length) 2)] 9 rfl Try.underlying22 el31_15 rfl rfl rfl rfl rfl rfl (by intro v hv; simp only [List.mem_cons, List.not_mem_nil, or_false] at hv; rcases hv with rfl | rfl | rfl | rfl <;> rfl) hx_60 ?_
  intro a_61 w_62 col_63 hg_64 h_65
  replace rh_33 := rh_33.gr hg_64
  replace h_42 := h_42.gr hg_64
  replace h_47 := h_47.gr hg_64
  replace h_52 := h_52.gr hg_64
  replace h_57 := h_57.gr hg_64
  replace hst := hst.grow hg_64
  refine l_lit (col := col_63) (r := (Rep.int .i64)) (xs := [1, 2]) [(.int .i64 1), (.int .i64 2)] 10 rfl Try.underlying31 el3_15 rfl rfl rfl rfl rfl rfl (by intro v hv; simp only [List.mem_cons, List.not_mem_nil, or_false] at hv; rcases hv with rfl | rfl <;> rfl) (RowsH.ofF (Rows.consF (r := (Rep.int .i64)) (x := 1) (cs := [(.int .i64 1)]) (rd_int .i64 1) (Rows.consF (r := (Rep.int .i64)) (x := 2) (cs := [(.int .i64 2)]) (rd_int .i64 2) Rows.nil0))) ?_
  intro a_66 w_67 col_68 hg_69 h_70
  replace rh_33 := rh_33.gr hg_69
  replace h_65 := h_65.gr hg_69
  replace hst := hst.grow hg_69
  obtain ⟨r_71, hr_72, hm⟩ := bind_some hm
  refine lc rfl rfl (r_call2 Try.call24 rfl rfl) (c_dag_Above N 11 (frC 10 (frC 9 col_68)) _ a_61 4 [([] : List Int), [0], [0], [2, 1]] a_66 2 [1, 2] ((h_65.toSlF (Froz.row (Froz.int .i64))).froz 10) ((h_70.froz 9 (by decide)).toSlF (Froz.int .i64)) r_71 hr_72) ?_
  rintro _ w_76 ⟨col_78, ra_73, rc_74, rfl, hg_77, rh_75⟩
  refine ⟨_, rfl, ?_⟩
  replace rh_75 := rh_75.thaw (flat_int .i64) hg_77 (((Fz.refl (col := col_68)).froz 9).froz 10) (by decide)
  replace hg_77 := hg_77.thawR (col := col_68)
  generalize colR w_67.heap.size col_68 col_78 = col_79 at *
  replace rh_33 := rh_33.gr hg_77
  replace h_65 := h_65.gr hg_77
  replace h_70 := h_70.gr hg_77
  replace hst := hst.grow hg_77
  refine lv (v := (.tuple #[(.slice ra_73 r_71.1.length rc_74), (.int .i64 r_71.2)])) rfl rfl (r_move rfl) ?_
  refine lv (v := (.slice ra_73 r_71.1.length rc_74)) rfl rfl (r_extract rfl rfl) ?_
  refine lv (v := (.int .i64 r_71.2)) rfl rfl (r_extract rfl rfl) ?_
  refine lv (v := (.slice ra_73 r_71.1.length rc_74)) rfl rfl (r_assign rfl) ?_
  refine lv (v := (.int .i64 r_71.2)) rfl rfl (r_assign rfl) ?_
  refine lnil ?_
  refine wseq ?_
  refine wregion ?_
  refine l_lit (col := col_79) (r := (Rep.int .i64)) (xs := [1]) [(.int .i64 1)] 12 rfl Try.underlying31 el3_15 rfl rfl rfl rfl rfl rfl (by intro v hv; simp only [List.mem_cons, List.not_mem_nil, or_false] at hv; subst hv; rfl) (RowsH.ofF (Rows.consF (r := (Rep.int .i64)) (x := 1) (cs := [(.int .i64 1)]) (rd_int .i64 1) Rows.nil0)) ?_
  intro a_80 w_81 col_82 hg_83 h_84
  replace rh_33 := rh_33.gr hg_83
  replace rh_75 := rh_75.gr hg_83
  replace hst := hst.grow hg_83
  refine l_lit (col := col_82) (r := (Rep.int .i64)) (xs := [2]) [(.int .i64 2)] 13 rfl Try.underlying31 el3_15 rfl rfl rfl rfl rfl rfl (by intro v hv; simp only [List.mem_cons, List.not_mem_nil, or_false] at hv; subst hv; rfl) (RowsH.ofF (Rows.consF (r := (Rep.int .i64)) (x := 2) (cs := [(.int .i64 2)]) (rd_int .i64 2) Rows.nil0)) ?_
  intro a_85 w_86 col_87 hg_88 h_89
  replace rh_33 := rh_33.gr hg_88
  replace rh_75 := rh_75.gr hg_88
  replace h_84 := h_84.gr hg_88
  replace hst := hst.grow hg_88
  refine l_lit (col := col_87) (r := (Rep.int .i64)) (xs := [0]) [(.int .i64 0)] 14 rfl Try.underlying31 el3_15 rfl rfl rfl rfl rfl rfl (by intro v hv; simp only [List.mem_cons, List.not_mem_nil, or_false] at hv; subst hv; rfl) (RowsH.ofF (Rows.consF (r := (Rep.int .i64)) (x := 0) (cs := [(.int .i64 0)]) (rd_int .i64 0) Rows.nil0)) ?_
  intro a_90 w_91 col_92 hg_93 h_94
  replace rh_33 := rh_33.gr hg_93
  replace rh_75 := rh_75.gr hg_93
  replace h_84 := h_84.gr hg_93
  replace h_89 := h_89.gr hg_93
  replace hst := hst.grow hg_93
  have hx_95 := RowsH.cons (cs := [(.slice a_85 ([2].length) 1)]) h_89.has (RowsH.cons1 (cs := [(.slice a_90 ([0].length) 1)]) h_94.has Rows.nil0) (by decide) (by decide)
  replace rh_33 := rh_33.recol 13 14 (by decide)
  replace rh_75 := rh_75.recol 13 14 (by decide)
  replace h_84 := h_84.recol 13 14 (by decide)
  replace h_89 := h_89.recolSelf 14 (by decide)
  replace h_94 := h_94.recol 13 14 (by decide)
  replace hst := hst.recol 13 14 (by decide) (by decide)
  have hx_96 := RowsH.cons (cs := [(.slice a_80 ([1].length) 1)]) h_84.has hx_95 (by decide) (by decide)
  replace rh_33 := rh_33.recol 12 14 (by decide)
  replace rh_75 := rh_75.recol 12 14 (by decide)
  replace h_84 := h_84.recolSelf 14 (by decide)
  replace h_89 := h_89.recol 12 14 (by decide)
  replace h_94 := h_94.recol 12 14 (by decide)
  replace hst := hst.recol 12 14 (by decide) (by decide)
  refine l_lit (col := (rcC 12 14 (rcC 13 14 col_92))) (r := (Rep.row 3 (Rep.int .i64))) (xs := [[1], [2], [0]]) [(.slice a_80 ([1].length) 1), (.slice a_85 ([2].length) 1), (.slice a_90 ([0].length) 1)] 14 rfl Try.underlying22 el31_15 rfl rfl rfl rfl rfl rfl (by intro v hv; simp only [List.mem_cons, List.not_mem_nil, or_false] at hv; rcases hv with rfl | rfl | rfl <;> rfl) hx_96 ?_
  intro a_97 w_98 col_99 hg_100 h_101
  replace rh_33 := rh_33.gr hg_100
  replace rh_75 := rh_75.gr hg_100
  replace h_84 := h_84.gr hg_100
  replace h_89 := h_89.gr hg_100
  replace h_94 := h_94.gr hg_100
  replace hst := hst.grow hg_100
  obtain ⟨r_102, hr_103, hm⟩ := bind_some hm
  refine lc rfl rfl (r_call1 Try.call17 rfl) (c_dag_Cycle N 15 (frC 14 col_99) _ a_97 3 [[1], [2], [0]] (h_101.toSlF (Froz.row (Froz.int .i64))) r_102 hr_103) ?_
  rintro _ w_107 ⟨col_109, ra_104, rc_105, rfl, hg_108, rh_106⟩
  refine ⟨_, rfl, ?_⟩
  replace rh_106 := rh_106.thaw (flat_int .i64) hg_108 ((Fz.refl (col := col_99)).froz 14) (by decide)
  replace hg_108 := hg_108.thawR (col := col_99)
  generalize colR w_98.heap.size col_99 col_109 = col_110 at *
  replace rh_33 := rh_33.gr hg_108
  replace rh_75 := rh_75.gr hg_108
  replace h_101 := h_101.gr hg_108
  replace hst := hst.grow hg_108
  refine lv (v := (.slice ra_104 r_102.length rc_105)) rfl rfl (r_assign rfl) ?_
  refine lnil ?_
  refine wseq ?_
  refine Wp.cut (fun f w_142 => ∃ (col_143 : Col) (v_144 : Bool), m_credencelaw14_alive_J1 v_144 = some r ∧ St w0 (col0 col) col_143 w_142 ∧ f 0 = (.bool v_144) ∧ f 1000000 = (enc [])) ?_ ?_
  · intro f w_142 hJ
    obtain ⟨col_143, v_144, hm, hst, hs0, hs1000000⟩ := hJ
    rw [m_credencelaw14_alive_J1.eq_1] at hm
    refine .ld (d := 0) (v := (.bool v_144)) hs0 ?_
    refine .ld (d := 1000000) (v := (enc [])) hs1000000 ?_
    clear hs0 hs1000000
    refine wret ?_
    cases hm
    exact ⟨rfl, rfl, hst.below⟩
  · refine wregion ?_
    refine lv (v := (.int .i64 r_29.2)) rfl rfl (r_move rfl) ?_
    refine lv (v := (.bool (decide (r_29.2 = 0)))) rfl rfl (r_eql r_29.2 0 rfl rfl) ?_
    refine lv (v := (.bool (decide (r_29.2 = 0)))) rfl rfl (r_move rfl) ?_
    by_cases hg_145 : (decide (r_29.2 = 0)) = true
    · rw [if_pos hg_145] at hm
      refine lg (b := decide (r_29.2 = 0)) 32 rfl rfl rfl (by rw [hg_145]; rfl) ?_
      refine lv (v := (.int .i64 r_71.2)) rfl rfl (r_move rfl) ?_
      refine lg (b := decide (r_29.2 = 0)) 32 rfl rfl rfl (by rw [hg_145]; rfl) ?_
      refine lv (v := (.bool (decide (r_71.2 = 0)))) rfl rfl (r_eql r_71.2 0 rfl rfl) ?_
      refine lv (v := (.bool (decide (r_71.2 = 0)))) rfl rfl (r_pickT (congrArg Value.bool hg_145) rfl) ?_
      refine lv (v := (.bool (decide (r_71.2 = 0)))) rfl rfl (r_move rfl) ?_
      by_cases hg_146 : (decide (r_71.2 = 0)) = true
      · rw [if_pos hg_146] at hm
        refine lg (b := decide (r_71.2 = 0)) 36 rfl rfl rfl (by rw [hg_146]; rfl) ?_
        refine lv (v := (.slice ra_31 r_29.1.length rc_32)) rfl rfl (r_move rfl) ?_
        refine lg (b := decide (r_71.2 = 0)) 36 rfl rfl rfl (by rw [hg_146]; rfl) ?_
        refine l_lit (col := col_110) (r := (Rep.int .i64)) (xs := [0, 1, 2, 3]) [(.int .i64 0), (.int .i64 1), (.int .i64 2), (.int .i64 3)] 19 rfl Try.underlying31 el3_15 rfl rfl rfl rfl rfl rfl (by intro v hv; simp only [List.mem_cons, List.not_mem_nil, or_false] at hv; rcases hv with rfl | rfl | rfl | rfl <;> rfl) (RowsH.ofF (Rows.consF (r := (Rep.int .i64)) (x := 0) (cs := [(.int .i64 0)]) (rd_int .i64 0) (Rows.consF (r := (Rep.int .i64)) (x := 1) (cs := [(.int .i64 1)]) (rd_int .i64 1) (Rows.consF (r := (Rep.int .i64)) (x := 2) (cs := [(.int .i64 2)]) (rd_int .i64 2) (Rows.consF (r := (Rep.int .i64)) (x := 3) (cs := [(.int .i64 3)]) (rd_int .i64 3) Rows.nil0))))) ?_
        intro a_147 w_148 col_149 hg_150 h_151
        replace rh_75 := rh_75.gr hg_150
        replace rh_106 := rh_106.gr hg_150
        replace rh_33 := rh_33.gr hg_150
        replace hst := hst.grow hg_150
        refine lg (b := decide (r_71.2 = 0)) 36 rfl rfl rfl (by rw [hg_146]; rfl) ?_
        obtain ⟨r_152, hr_153, hm⟩ := bind_some hm
        refine lc rfl rfl (r_call2 Try.call12 rfl rfl) (c_credenceref14_Same N (frC 19 (frC 5 col_149)) _ ra_31 rc_32 r_29.1 a_147 4 [0, 1, 2, 3] ((rh_33.toSlF (Froz.int .i64)).froz 19) ((h_151.froz 5 (by decide)).toSlF (Froz.int .i64)) r_152 hr_153) ?_
        rintro _ w_154 ⟨rfl, hg_155⟩
        refine ⟨_, rfl, ?_⟩
        replace hg_155 : Grow col_149 w_148 col_149 w_154 := .of_below hg_155
        replace rh_75 := rh_75.gr hg_155
        replace rh_106 := rh_106.gr hg_155
        replace rh_33 := rh_33.gr hg_155
        replace h_151 := h_151.gr hg_155
        replace hst := hst.grow hg_155
        refine lv (v := (.bool r_152)) rfl rfl (r_pickT (congrArg Value.bool hg_146) rfl) ?_
        refine lv (v := (.bool r_152)) rfl rfl (r_move rfl) ?_
        by_cases hg_156 : r_152 = true
        · rw [if_pos hg_156] at hm
          refine lg (b := r_152) 41 rfl rfl rfl (by rw [hg_156]; rfl) ?_
          refine lv (v := (.slice ra_73 r_71.1.length rc_74)) rfl rfl (r_move rfl) ?_
          refine lg (b := r_152) 41 rfl rfl rfl (by rw [hg_156]; rfl) ?_
          refine l_lit (col := col_149) (r := (Rep.int .i64)) (xs := [0, 1, 2]) [(.int .i64 0), (.int .i64 1), (.int .i64 2)] 20 rfl Try.underlying31 el3_15 rfl rfl rfl rfl rfl rfl (by intro v hv; simp only [List.mem_cons, List.not_mem_nil, or_false] at hv; rcases hv with rfl | rfl | rfl <;> rfl) (RowsH.ofF (Rows.consF (r := (Rep.int .i64)) (x := 0) (cs := [(.int .i64 0)]) (rd_int .i64 0) (Rows.consF (r := (Rep.int .i64)) (x := 1) (cs := [(.int .i64 1)]) (rd_int .i64 1) (Rows.consF (r := (Rep.int .i64)) (x := 2) (cs := [(.int .i64 2)]) (rd_int .i64 2) Rows.nil0)))) ?_
          intro a_157 w_158 col_159 hg_160 h_161
          replace rh_106 := rh_106.gr hg_160
          replace rh_75 := rh_75.gr hg_160
          replace hst := hst.grow hg_160
          refine lg (b := r_152) 41 rfl rfl rfl (by rw [hg_156]; rfl) ?_
          obtain ⟨r_162, hr_163, hm⟩ := bind_some hm
          refine lc rfl rfl (r_call2 Try.call12 rfl rfl) (c_credenceref14_Same N (frC 20 (frC 11 col_159)) _ ra_73 rc_74 r_71.1 a_157 3 [0, 1, 2] ((rh_75.toSlF (Froz.int .i64)).froz 20) ((h_161.froz 11 (by decide)).toSlF (Froz.int .i64)) r_162 hr_163) ?_
          rintro _ w_164 ⟨rfl, hg_165⟩
          refine ⟨_, rfl, ?_⟩
          replace hg_165 : Grow col_159 w_158 col_159 w_164 := .of_below hg_165
          replace rh_106 := rh_106.gr hg_165
          replace rh_75 := rh_75.gr hg_165
          replace h_161 := h_161.gr hg_165
          replace hst := hst.grow hg_165
          refine lv (v := (.bool r_162)) rfl rfl (r_pickT (congrArg Value.bool hg_156) rfl) ?_
          refine lv (v := (.bool r_162)) rfl rfl (r_move rfl) ?_
          by_cases hg_166 : r_162 = true
          · rw [if_pos hg_166] at hm
            refine lg (b := r_162) 46 rfl rfl rfl (by rw [hg_166]; rfl) ?_
            refine lv (v := (.slice ra_104 r_102.length rc_105)) rfl rfl (r_move rfl) ?_
            refine lg (b := r_162) 46 rfl rfl rfl (by rw [hg_166]; rfl) ?_
            refine l_lit (col := col_159) (r := (Rep.int .i64)) (xs := [0, 1, 2]) [(.int .i64 0), (.int .i64 1), (.int .i64 2)] 21 rfl Try.underlying31 el3_15 rfl rfl rfl rfl rfl rfl (by intro v hv; simp only [List.mem_cons, List.not_mem_nil, or_false] at hv; rcases hv with rfl | rfl | rfl <;> rfl) (RowsH.ofF (Rows.consF (r := (Rep.int .i64)) (x := 0) (cs := [(.int .i64 0)]) (rd_int .i64 0) (Rows.consF (r := (Rep.int .i64)) (x := 1) (cs := [(.int .i64 1)]) (rd_int .i64 1) (Rows.consF (r := (Rep.int .i64)) (x := 2) (cs := [(.int .i64 2)]) (rd_int .i64 2) Rows.nil0)))) ?_
            intro a_167 w_168 col_169 hg_170 h_171
            replace rh_106 := rh_106.gr hg_170
            replace hst := hst.grow hg_170
            refine lg (b := r_162) 46 rfl rfl rfl (by rw [hg_166]; rfl) ?_
            obtain ⟨r_172, hr_173, hm⟩ := bind_some hm
            refine lc rfl rfl (r_call2 Try.call12 rfl rfl) (c_credenceref14_Same N (frC 21 (frC 15 col_169)) _ ra_104 rc_105 r_102 a_167 3 [0, 1, 2] ((rh_106.toSlF (Froz.int .i64)).froz 21) ((h_171.froz 15 (by decide)).toSlF (Froz.int .i64)) r_172 hr_173) ?_
            rintro _ w_174 ⟨rfl, hg_175⟩
            refine ⟨_, rfl, ?_⟩
            replace hg_175 : Grow col_169 w_168 col_169 w_174 := .of_below hg_175
            replace rh_106 := rh_106.gr hg_175
            replace h_171 := h_171.gr hg_175
            replace hst := hst.grow hg_175
            refine lv (v := (.bool r_172)) rfl rfl (r_pickT (congrArg Value.bool hg_166) rfl) ?_
            refine lv (v := (.bool r_172)) rfl rfl (r_assign rfl) ?_
            refine lnil ?_
            exact ⟨col_169, r_172, hm, hst, rfl, rfl⟩
          · rw [if_neg hg_166] at hm
            replace hg_166 := Bool.eq_false_iff.2 hg_166
            refine lp (b := r_162) 46 rfl rfl rfl rfl (by rw [hg_166]; rfl) ?_
            refine lp (b := r_162) 46 rfl rfl rfl rfl (by rw [hg_166]; rfl) ?_
            refine lp (b := r_162) 46 rfl rfl rfl rfl (by rw [hg_166]; rfl) ?_
            refine lv (v := (.bool false)) rfl rfl (r_pickF (congrArg Value.bool hg_166) rfl) ?_
            refine lv (v := (.bool false)) rfl rfl (r_assign rfl) ?_
            refine lnil ?_
            exact ⟨col_159, false, hm, hst, rfl, rfl⟩
        · rw [if_neg hg_156] at hm
          replace hg_156 := Bool.eq_false_iff.2 hg_156
          refine lp (b := r_152) 41 rfl rfl rfl rfl (by rw [hg_156]; rfl) ?_
          refine lp (b := r_152) 41 rfl rfl rfl rfl (by rw [hg_156]; rfl) ?_
          refine lp (b := r_152) 41 rfl rfl rfl rfl (by rw [hg_156]; rfl) ?_
          refine lv (v := (.bool false)) rfl rfl (r_pickF (congrArg Value.bool hg_156) rfl) ?_
          refine lv (v := (.bool false)) rfl rfl (r_move rfl) ?_
          refine lp (b := false) 46 rfl rfl rfl rfl rfl ?_
          refine lp (b := false) 46 rfl rfl rfl rfl rfl ?_
          refine lp (b := false) 46 rfl rfl rfl rfl rfl ?_
          refine lv (v := (.bool false)) rfl rfl (r_pickF rfl rfl) ?_
          refine lv (v := (.bool false)) rfl rfl (r_assign rfl) ?_
          refine lnil ?_
          exact ⟨col_149, false, hm, hst, rfl, rfl⟩
      · rw [if_neg hg_146] at hm
        replace hg_146 := Bool.eq_false_iff.2 hg_146
        refine lp (b := decide (r_71.2 = 0)) 36 rfl rfl rfl rfl (by rw [hg_146]; rfl) ?_
        refine lp (b := decide (r_71.2 = 0)) 36 rfl rfl rfl rfl (by rw [hg_146]; rfl) ?_
        refine lp (b := decide (r_71.2 = 0)) 36 rfl rfl rfl rfl (by rw [hg_146]; rfl) ?_
        refine lv (v := (.bool false)) rfl rfl (r_pickF (congrArg Value.bool hg_146) rfl) ?_
        refine lv (v := (.bool false)) rfl rfl (r_move rfl) ?_
        refine lp (b := false) 41 rfl rfl rfl rfl rfl ?_
        refine lp (b := false) 41 rfl rfl rfl rfl rfl ?_
        refine lp (b := false) 41 rfl rfl rfl rfl rfl ?_
        refine lv (v := (.bool false)) rfl rfl (r_pickF rfl rfl) ?_
        refine lv (v := (.bool false)) rfl rfl (r_move rfl) ?_
        refine lp (b := false) 46 rfl rfl rfl rfl rfl ?_
        refine lp (b := false) 46 rfl rfl rfl rfl rfl ?_
        refine lp (b := false) 46 rfl rfl rfl rfl rfl ?_
        refine lv (v := (.bool false)) rfl rfl (r_pickF rfl rfl) ?_
        refine lv (v := (.bool false)) rfl rfl (r_assign rfl) ?_
        refine lnil ?_
        exact ⟨col_110, false, hm, hst, rfl, rfl⟩
    · rw [if_neg hg_145] at hm
      replace hg_145 := Bool.eq_false_iff.2 hg_145
      refine lp (b := decide (r_29.2 = 0)) 32 rfl rfl rfl rfl (by rw [hg_145]; rfl) ?_
      refine lp (b := decide (r_29.2 = 0)) 32 rfl rfl rfl rfl (by rw [hg_145]; rfl) ?_
      refine lv (v := (.bool false)) rfl rfl (r_pickF (congrArg Value.bool hg_145) rfl) ?_
      refine lv (v := (.bool false)) rfl rfl (r_move rfl) ?_
      refine lp (b := false) 36 rfl rfl rfl rfl rfl ?_
      refine lp (b := false) 36 rfl rfl rfl rfl rfl ?_
      refine lp (b := false) 36 rfl rfl rfl rfl rfl ?_
      refine lv (v := (.bool false)) rfl rfl (r_pickF rfl rfl) ?_
      refine lv (v := (.bool false)) rfl rfl (r_move rfl) ?_
      refine lp (b := false) 41 rfl rfl rfl rfl rfl ?_
      refine lp (b := false) 41 rfl rfl rfl rfl rfl ?_
      refine lp (b := false) 41 rfl rfl rfl rfl rfl ?_
      refine lv (v := (.bool false)) rfl rfl (r_pickF rfl rfl) ?_
      refine lv (v := (.bool false)) rfl rfl (r_move rfl) ?_
      refine lp (b := false) 46 rfl rfl rfl rfl rfl ?_
      refine lp (b := false) 46 rfl rfl rfl rfl rfl ?_
      refine lp (b := false) 46 rfl rfl rfl rfl rfl ?_
      refine lv (v := (.bool false)) rfl rfl (r_pickF rfl rfl) ?_
      refine lv (v := (.bool false)) rfl rfl (r_assign rfl) ?_
      refine lnil ?_
      exact ⟨col_110, false, hm, hst, rfl, rfl⟩




def m_dag_Children (N : Nat) (p0_parents : (List (List Int))) : Option ((List (List Int)) × Int) :=
  (m_dag_Check N p0_parents).bind fun r_1 => if (!decide (r_1 = 0)) = true then (some (([] : List (List Int)), r_1)) else ((m_dag_children p0_parents).bind fun r_5 => some (r_5, 0))

set_option maxRecDepth 100000 in
theorem c_dag_Children (N : Nat) (c1 : Nat) (col : Col) (w0 : World) (a0 : Option Addr) (cap0 : Nat) (p0_parents : (List (List Int))) (h0 : Sl (Rep.slice (Rep.int .i64)) col w0 a0 cap0 p0_parents) (r : ((List (List Int)) × Int)) (hm : m_dag_Children N p0_parents = some r) :
    Calls Try.prog 23 #[(.slice a0 p0_parents.length cap0)] w0 (fun e w' => ∃ (col' : Col) (ra1 : Option Addr) (rc2 : Nat), e = .returned (.tuple #[(.slice ra1 r.1.length rc2), (.int .i64 r.2)]) ∧ Grow col w0 col' w' ∧ Own (Rep.row 3 (Rep.int .i64)) 31 c1 col' w' ra1 rc2 r.1) := by
  refine calls_of2 2 3 (m := 12) (args := [(.slice a0 p0_parents.length cap0)]) Try.func23 rfl rfl rfl rfl rfl ?_
  rw [m_dag_Children.eq_1] at hm
  have hst := St.start col w0
  replace h0 := h0.keep (Stay.start col w0)
  refine wseq ?_
  refine wregion ?_
  refine lv (v := (.slice none (([] : List (List Int)).length) 0)) rfl rfl (r_assign rfl) ?_
  refine lv (v := (.int .i64 0)) rfl rfl (r_assign rfl) ?_
  refine lnil ?_
  refine wseq ?_
  refine wseq ?_
  refine wregion ?_
  refine lv (v := (.slice a0 p0_parents.length cap0)) rfl rfl (r_move rfl) ?_
  obtain ⟨r_1, hr_2, hm⟩ := bind_some hm
  refine lc rfl rfl (r_call1 Try.call18 rfl) (c_dag_Check N (col0 col) _ a0 cap0 p0_parents h0 r_1 hr_2) ?_
  rintro _ w_3 ⟨rfl, hg_4⟩
  refine ⟨_, rfl, ?_⟩
  replace hg_4 : Grow (col0 col) w0 (col0 col) w_3 := .of_below hg_4
  replace h0 := h0.gr hg_4
  replace hst := hst.grow hg_4
  refine lv (v := (.int .i64 r_1)) rfl rfl (r_assign rfl) ?_
  refine lnil ?_
  refine wseq ?_
  refine wregion ?_
  refine lv (v := (.int .i64 r_1)) rfl rfl (r_move rfl) ?_
  refine lv (v := (.bool (!decide (r_1 = 0)))) rfl rfl (r_neq r_1 0 rfl rfl) ?_
  refine lnil ?_
  refine wcond (!decide (r_1 = 0)) rfl (fun hb => ?_) (fun hb => ?_)
  · rw [if_pos hb] at hm
    clear hb
    refine wseq ?_
    refine wregion ?_
    refine lv (v := (.int .i64 r_1)) rfl rfl (r_move rfl) ?_
    refine lv (v := (.slice none (([] : List (List Int)).length) 0)) rfl rfl (r_assign rfl) ?_
    refine lv (v := (.int .i64 r_1)) rfl rfl (r_assign rfl) ?_
    refine lnil ?_
    refine wret ?_
    cases hm
    exact ⟨rfl, colF w0.heap.size col (col0 col) (fun n => 0), none, 0, rfl, hst.fin (fun n => 0), Own.nil⟩
  · rw [if_neg (by rw [hb]; decide)] at hm
    clear hb
    refine wskip ?_
    refine wseq ?_
    refine wregion ?_
    refine lv (v := (.slice a0 p0_parents.length cap0)) rfl rfl (r_move rfl) ?_
    obtain ⟨r_5, hr_6, hm⟩ := bind_some hm
    refine lc rfl rfl (r_call1 Try.call29 rfl) (c_dag_children 1 (col0 col) _ a0 cap0 p0_parents h0 r_5 hr_6) ?_
    rintro _ w_10 ⟨col_12, ra_7, rc_8, rfl, hg_11, rh_9⟩
    refine ⟨_, rfl, ?_⟩
    replace h0 := h0.gr hg_11
    replace hst := hst.grow hg_11
    refine lv (v := (.slice ra_7 r_5.length rc_8)) rfl rfl (r_assign rfl) ?_
    refine lv (v := (.int .i64 0)) rfl rfl (r_assign rfl) ?_
    refine lnil ?_
    refine wret ?_
    cases hm
    exact ⟨rfl, colF w0.heap.size col col_12 (fun n => bif Nat.beq n 1 then c1 else 0), ra_7, rc_8, rfl, hst.fin (fun n => bif Nat.beq n 1 then c1 else 0), hst.finOwn (g := (fun n => bif Nat.beq n 1 then c1 else 0)) rfl rh_9 (by decide) (by decide) rfl⟩




def m_credencelaw14_in_L1 (N : Nat) (p0_l : (List Int)) (p1_x : Int) : Nat → Int → Option Bool
  | 0, _ => none
  | n_1 + 1, i_4 => if (decide (i_4 < (p0_l.length : Int))) = true then ((at? p0_l i_4).bind fun e_5 => if (decide (e_5 = p1_x)) = true then (some true) else ((m_credencelaw14_in_L1 N p0_l p1_x n_1) (IntKind.i64.wrap (i_4 + 1)))) else (some false)

def m_credencelaw14_in (N : Nat) (p0_l : (List Int)) (p1_x : Int) : Option Bool :=
  m_credencelaw14_in_L1 N p0_l p1_x N 0

set_option maxRecDepth 100000 in
theorem c_credencelaw14_in (N : Nat) (col : Col) (w0 : World) (a0 : Option Addr) (cap0 : Nat) (p0_l : (List Int)) (p1_x : Int) (h0 : Sl (Rep.int .i64) col w0 a0 cap0 p0_l) (r : Bool) (hm : m_credencelaw14_in N p0_l p1_x = some r) :
    Calls Try.prog 20 #[(.slice a0 p0_l.length cap0), (.int .i64 p1_x)] w0 (fun e w' => e = .returned ((.bool r)) ∧ Below w0.heap.size w0 w') := by
  refine calls_of1 4 (m := 18) (args := [(.slice a0 p0_l.length cap0), (.int .i64 p1_x)]) Try.func20 rfl rfl rfl rfl rfl ?_
  rw [m_credencelaw14_in.eq_1] at hm
  have hst := St.start col w0
  replace h0 := h0.keep (Stay.start col w0)
  refine wseq ?_
  refine wregion ?_
  refine lv (v := (.bool false)) rfl rfl (r_assign rfl) ?_
  refine lnil ?_
  refine wseq ?_
  refine wseq ?_
  refine wregion ?_
  refine lv (v := (.int .i64 0)) rfl rfl (r_assign rfl) ?_
  refine lnil ?_
  refine wblock ?_
  refine wloop (fun n f w_2 => ∃ (col_3 : Col) (i_4 : Int) (n_1 : Nat), n_1 = n ∧ m_credencelaw14_in_L1 N p0_l p1_x n_1 i_4 = some r ∧ St w0 (col0 col) col_3 w_2 ∧ Sl (Rep.int .i64) col_3 w_2 a0 cap0 p0_l ∧ f 0 = (.slice a0 p0_l.length cap0) ∧ f 1 = (.int .i64 p1_x) ∧ f 5 = (.int .i64 i_4) ∧ f 1000000 = (enc [])) N ⟨(col0 col), 0, N, rfl, hm, hst, h0, rfl, rfl, rfl, rfl⟩ ?_
  clear hm; intro n f w_2 hI
  obtain ⟨col_3, i_4, n_1, hn, hm, hst, h0, hs0, hs1, hs5, hs1000000⟩ := hI
  subst hn
  refine .ld (d := 0) (v := (.slice a0 p0_l.length cap0)) hs0 ?_
  refine .ld (d := 1) (v := (.int .i64 p1_x)) hs1 ?_
  refine .ld (d := 5) (v := (.int .i64 i_4)) hs5 ?_
  refine .ld (d := 1000000) (v := (enc [])) hs1000000 ?_
  clear hs0 hs1 hs5 hs1000000
  cases n_1 with
  | zero => rw [m_credencelaw14_in_L1.eq_1] at hm; cases hm
  | succ n_1 =>
    rw [m_credencelaw14_in_L1.eq_2] at hm
    refine wseq ?_
    refine wseq ?_
    refine wregion ?_
    refine lv (v := (.int .i64 i_4)) rfl rfl (r_move rfl) ?_
    refine lv (v := (.slice a0 p0_l.length cap0)) rfl rfl (r_move rfl) ?_
    refine lv (v := (.int .i64 (p0_l.length : Int))) rfl rfl (r_len Try.underlying31 rfl) ?_
    refine lv (v := (.bool (decide (i_4 < (p0_l.length : Int))))) rfl rfl (r_lss i_4 (p0_l.length : Int) rfl rfl) ?_
    refine lnil ?_
    refine wcond (decide (i_4 < (p0_l.length : Int))) rfl (fun hb => ?_) (fun hb => ?_)
    · rw [if_pos hb] at hm
      clear hb
      refine wskip ?_
      refine wseq ?_
      refine wblock ?_
      refine wseq ?_
      refine wregion ?_
      refine lv (v := (.slice a0 p0_l.length cap0)) rfl rfl (r_move rfl) ?_
      refine lv (v := (.int .i64 i_4)) rfl rfl (r_move rfl) ?_
      obtain ⟨e_5, hj_6, hm⟩ := bind_some hm
      refine lv (v := (sptr a0 (Int.toNat i_4 * 1))) rfl rfl (r_idx Try.underlying31 Try.sizeOf3 rfl rfl (at?_some hj_6).1 (at?_some hj_6).2.1 (h0.addr hj_6)) ?_
      refine lv (v := (.int .i64 e_5)) rfl rfl (r_ld Try.isAgg3 rfl (h0.atInt hj_6)) ?_
      refine lv (v := (.int .i64 p1_x)) rfl rfl (r_move rfl) ?_
      refine lv (v := (.bool (decide (e_5 = p1_x)))) rfl rfl (r_eql e_5 p1_x rfl rfl) ?_
      refine lnil ?_
      refine wcond (decide (e_5 = p1_x)) rfl (fun hb => ?_) (fun hb => ?_)
      · rw [if_pos hb] at hm
        clear hb
        refine wseq ?_
        refine wregion ?_
        refine lv (v := (.bool true)) rfl rfl (r_assign rfl) ?_
        refine lnil ?_
        refine wret ?_
        cases hm
        exact ⟨rfl, rfl, hst.below⟩
      · rw [if_neg (by rw [hb]; decide)] at hm
        clear hb
        refine wskip ?_
        refine wregion ?_
        refine lv (v := (.int .i64 i_4)) rfl rfl (r_move rfl) ?_
        refine lv (v := (.int .i64 (IntKind.i64.wrap (i_4 + 1)))) rfl rfl (r_add i_4 1 rfl rfl) ?_
        refine lv (v := (.int .i64 (IntKind.i64.wrap (i_4 + 1)))) rfl rfl (r_assign rfl) ?_
        refine lnil ?_
        exact ⟨n_1, by omega, ⟨col_3, (IntKind.i64.wrap (i_4 + 1)), n_1, rfl, hm, hst, h0, rfl, rfl, rfl, rfl⟩⟩
    · rw [if_neg (by rw [hb]; decide)] at hm
      clear hb
      refine wexit (inB_hit ?_)
      refine wseq ?_
      refine wregion ?_
      refine lv (v := (.bool false)) rfl rfl (r_assign rfl) ?_
      refine lnil ?_
      refine wret ?_
      cases hm
      exact ⟨rfl, rfl, hst.below⟩




def m_dag_Below (N : Nat) (p0_parents : (List (List Int))) (p1_points : (List Int)) : Option ((List Int) × Int) :=
  (m_dag_Check N p0_parents).bind fun r_1 => if (!decide (r_1 = 0)) = true then (some (([] : List Int), r_1)) else ((m_dag_children p0_parents).bind fun r_5 => (m_dag_reach N r_5 p1_points).bind fun r_13 => some (r_13.1, r_13.2))

set_option maxRecDepth 100000 in
theorem c_dag_Below (N : Nat) (c1 : Nat) (col : Col) (w0 : World) (a0 : Option Addr) (cap0 : Nat) (p0_parents : (List (List Int))) (a1 : Option Addr) (cap1 : Nat) (p1_points : (List Int)) (h0 : Sl (Rep.slice (Rep.int .i64)) col w0 a0 cap0 p0_parents) (h1 : Sl (Rep.int .i64) col w0 a1 cap1 p1_points) (r : ((List Int) × Int)) (hm : m_dag_Below N p0_parents p1_points = some r) :
    Calls Try.prog 25 #[(.slice a0 p0_parents.length cap0), (.slice a1 p1_points.length cap1)] w0 (fun e w' => ∃ (col' : Col) (ra1 : Option Addr) (rc2 : Nat), e = .returned (.tuple #[(.slice ra1 r.1.length rc2), (.int .i64 r.2)]) ∧ Grow col w0 col' w' ∧ Own (Rep.int .i64) 3 c1 col' w' ra1 rc2 r.1) := by
  refine calls_of2 4 5 (m := 18) (args := [(.slice a0 p0_parents.length cap0), (.slice a1 p1_points.length cap1)]) Try.func25 rfl rfl rfl rfl rfl ?_
  rw [m_dag_Below.eq_1] at hm
  have hst := St.start col w0
  replace h0 := h0.keep (Stay.start col w0)
  replace h1 := h1.keep (Stay.start col w0)
  refine wseq ?_
  refine wregion ?_
  refine lv (v := (.slice none (([] : List Int).length) 0)) rfl rfl (r_assign rfl) ?_
  refine lv (v := (.int .i64 0)) rfl rfl (r_assign rfl) ?_
  refine lnil ?_
  refine wseq ?_
  refine wseq ?_
  refine wregion ?_
  refine lv (v := (.slice a0 p0_parents.length cap0)) rfl rfl (r_move rfl) ?_
  obtain ⟨r_1, hr_2, hm⟩ := bind_some hm
  refine lc rfl rfl (r_call1 Try.call18 rfl) (c_dag_Check N (col0 col) _ a0 cap0 p0_parents h0 r_1 hr_2) ?_
  rintro _ w_3 ⟨rfl, hg_4⟩
  refine ⟨_, rfl, ?_⟩
  replace hg_4 : Grow (col0 col) w0 (col0 col) w_3 := .of_below hg_4
  replace h0 := h0.gr hg_4
  replace h1 := h1.gr hg_4
  replace hst := hst.grow hg_4
  refine lv (v := (.int .i64 r_1)) rfl rfl (r_assign rfl) ?_
  refine lnil ?_
  refine wseq ?_
  refine wregion ?_
  refine lv (v := (.int .i64 r_1)) rfl rfl (r_move rfl) ?_
  refine lv (v := (.bool (!decide (r_1 = 0)))) rfl rfl (r_neq r_1 0 rfl rfl) ?_
  refine lnil ?_
  refine wcond (!decide (r_1 = 0)) rfl (fun hb => ?_) (fun hb => ?_)
  · rw [if_pos hb] at hm
    clear hb
    refine wseq ?_
    refine wregion ?_
    refine lv (v := (.int .i64 r_1)) rfl rfl (r_move rfl) ?_
    refine lv (v := (.slice none (([] : List Int).length) 0)) rfl rfl (r_assign rfl) ?_
    refine lv (v := (.int .i64 r_1)) rfl rfl (r_assign rfl) ?_
    refine lnil ?_
    refine wret ?_
    cases hm
    exact ⟨rfl, colF w0.heap.size col (col0 col) (fun n => 0), none, 0, rfl, hst.fin (fun n => 0), Own.nil⟩
  · rw [if_neg (by rw [hb]; decide)] at hm
    clear hb
    refine wskip ?_
    refine wseq ?_
    refine wregion ?_
    refine lv (v := (.slice a0 p0_parents.length cap0)) rfl rfl (r_move rfl) ?_
    obtain ⟨r_5, hr_6, hm⟩ := bind_some hm
    refine lc rfl rfl (r_call1 Try.call29 rfl) (c_dag_children 1 (col0 col) _ a0 cap0 p0_parents h0 r_5 hr_6) ?_
    rintro _ w_10 ⟨col_12, ra_7, rc_8, rfl, hg_11, rh_9⟩
    refine ⟨_, rfl, ?_⟩
    replace h1 := h1.gr hg_11
    replace h0 := h0.gr hg_11
    replace hst := hst.grow hg_11
    refine lv (v := (.slice a1 p1_points.length cap1)) rfl rfl (r_move rfl) ?_
    obtain ⟨r_13, hr_14, hm⟩ := bind_some hm
    refine lc rfl rfl (r_call2 Try.call38 rfl rfl) (c_dag_reach N 2 (frC 1 col_12) _ ra_7 rc_8 r_5 a1 cap1 p1_points (rh_9.toSlF (Froz.row (Froz.int .i64))) (h1.froz 1) r_13 hr_14) ?_
    rintro _ w_18 ⟨col_20, ra_15, rc_16, rfl, hg_19, rh_17⟩
    refine ⟨_, rfl, ?_⟩
    replace rh_17 := rh_17.thaw (flat_int .i64) hg_19 ((Fz.refl (col := col_12)).froz 1) (by decide)
    replace hg_19 := hg_19.thawR (col := col_12)
    generalize colR w_10.heap.size col_12 col_20 = col_21 at *
    replace rh_9 := rh_9.gr hg_19
    replace h1 := h1.gr hg_19
    replace hst := hst.grow hg_19
    refine lv (v := (.slice ra_15 r_13.1.length rc_16)) rfl rfl (r_extract rfl rfl) ?_
    refine lv (v := (.int .i64 r_13.2)) rfl rfl (r_extract rfl rfl) ?_
    refine lv (v := (.slice ra_15 r_13.1.length rc_16)) rfl rfl (r_assign rfl) ?_
    refine lv (v := (.int .i64 r_13.2)) rfl rfl (r_assign rfl) ?_
    refine lnil ?_
    refine wret ?_
    cases hm
    exact ⟨rfl, colF w0.heap.size col col_21 (fun n => bif Nat.beq n 2 then c1 else 0), ra_15, rc_16, rfl, hst.fin (fun n => bif Nat.beq n 2 then c1 else 0), hst.finOwn (g := (fun n => bif Nat.beq n 2 then c1 else 0)) rfl rh_17 (by decide) (by decide) rfl⟩



theorem el3_7 : ElemOk Try.prog 3 1 8 := ⟨Try.t3, _, rfl, rfl, rfl, rfl, rfl⟩

def m_credencelaw14_DagMirror_J4 (k_77 : Int) (kk_L2 : (Int → Option Bool)) (v_121 : Bool) : Option Bool :=
  if v_121 = true then (some false) else (kk_L2 (IntKind.i64.wrap (k_77 + 1)))

def m_credencelaw14_DagMirror_L2 (N : Nat) (p0_parents : (List (List Int))) (r_18 : ((List (List Int)) × Int)) (n_43 : Int) (i_44 : Int) (kk_L1 : (Int → Int → Option Bool)) (e_45 : (List Int)) (r_57 : ((List Int) × Int)) : Nat → Int → Option Bool
  | 0, _ => none
  | n_74 + 1, k_77 => if (decide (k_77 < (p0_parents.length : Int))) = true then ((m_dag_Below N p0_parents [k_77]).bind fun r_83 => if (!decide (r_83.2 = 0)) = true then (m_credencelaw14_DagMirror_J4 k_77 (m_credencelaw14_DagMirror_L2 N p0_parents r_18 n_43 i_44 kk_L1 e_45 r_57 n_74) true) else ((m_credencelaw14_in N r_57.1 k_77).bind fun r_124 => (m_credencelaw14_in N r_83.1 i_44).bind fun r_126 => if (!decide (r_124 = r_126)) = true then (m_credencelaw14_DagMirror_J4 k_77 (m_credencelaw14_DagMirror_L2 N p0_parents r_18 n_43 i_44 kk_L1 e_45 r_57 n_74) true) else ((at? r_18.1 i_44).bind fun e_130 => (m_credencelaw14_in N e_130 k_77).bind fun r_137 => (at? p0_parents k_77).bind fun e_139 => (m_credencelaw14_in N e_139 i_44).bind fun r_146 => m_credencelaw14_DagMirror_J4 k_77 (m_credencelaw14_DagMirror_L2 N p0_parents r_18 n_43 i_44 kk_L1 e_45 r_57 n_74) (!decide (r_137 = r_146))))) else (kk_L1 (IntKind.i64.wrap (n_43 + (e_45.length : Int))) (IntKind.i64.wrap (i_44 + 1)))

def m_credencelaw14_DagMirror_J3 (N : Nat) (p0_parents : (List (List Int))) (r_18 : ((List (List Int)) × Int)) (n_43 : Int) (i_44 : Int) (kk_L1 : (Int → Int → Option Bool)) (e_45 : (List Int)) (r_57 : ((List Int) × Int)) (v_73 : Bool) : Option Bool :=
  if v_73 = true then (some false) else (m_credencelaw14_DagMirror_L2 N p0_parents r_18 n_43 i_44 kk_L1 e_45 r_57 N 0)

def m_credencelaw14_DagMirror_J5 (v_165 : Bool) : Option Bool :=
  some v_165

def m_credencelaw14_DagMirror_J6 (i_175 : Int) (kk_L4 : (Bool → Int → Option Bool)) (some_178 : Bool) : Option Bool :=
  kk_L4 some_178 (IntKind.i64.wrap (i_175 + 1))

def m_credencelaw14_DagMirror_L4 (N : Nat) (p0_parents : (List (List Int))) (p1_points : (List Int)) (r_154 : ((List Int) × Int)) (k_170 : Int) (kk_L3 : (Int → Option Bool)) : Nat → Bool → Int → Option Bool
  | 0, _, _ => none
  | n_171 + 1, some_174, i_175 => if (decide (i_175 < (p1_points.length : Int))) = true then ((at? p1_points i_175).bind fun e_179 => (m_dag_Above N p0_parents [e_179]).bind fun r_186 => if some_174 = true then (m_credencelaw14_DagMirror_J6 i_175 (m_credencelaw14_DagMirror_L4 N p0_parents p1_points r_154 k_170 kk_L3 n_171) true) else ((m_credencelaw14_in N r_186.1 k_170).bind fun r_196 => m_credencelaw14_DagMirror_J6 i_175 (m_credencelaw14_DagMirror_L4 N p0_parents p1_points r_154 k_170 kk_L3 n_171) r_196)) else ((m_credencelaw14_in N r_154.1 k_170).bind fun r_200 => if (!decide (some_174 = r_200)) = true then (some false) else (kk_L3 (IntKind.i64.wrap (k_170 + 1))))

def m_credencelaw14_DagMirror_L3 (N : Nat) (p0_parents : (List (List Int))) (p1_points : (List Int)) (r_26 : ((List (Int × Int)) × Int)) (n_43 : Int) (r_154 : ((List Int) × Int)) : Nat → Int → Option Bool
  | 0, _ => none
  | n_167 + 1, k_170 => if (decide (k_170 < (p0_parents.length : Int))) = true then (m_credencelaw14_DagMirror_L4 N p0_parents p1_points r_154 k_170 (m_credencelaw14_DagMirror_L3 N p0_parents p1_points r_26 n_43 r_154 n_167) N false 0) else (some (decide (n_43 = (r_26.1.length : Int))))

def m_credencelaw14_DagMirror_L1 (N : Nat) (p0_parents : (List (List Int))) (p1_points : (List Int)) (r_18 : ((List (List Int)) × Int)) (r_26 : ((List (Int × Int)) × Int)) : Nat → Int → Int → Option Bool
  | 0, _, _ => none
  | n_40 + 1, n_43, i_44 => if (decide (i_44 < (p0_parents.length : Int))) = true then ((at? p0_parents i_44).bind fun e_45 => (m_dag_Above N p0_parents [i_44]).bind fun r_57 => if (!decide (r_57.2 = 0)) = true then (m_credencelaw14_DagMirror_J3 N p0_parents r_18 n_43 i_44 (m_credencelaw14_DagMirror_L1 N p0_parents p1_points r_18 r_26 n_40) e_45 r_57 true) else ((m_credencelaw14_in N r_57.1 i_44).bind fun r_150 => m_credencelaw14_DagMirror_J3 N p0_parents r_18 n_43 i_44 (m_credencelaw14_DagMirror_L1 N p0_parents p1_points r_18 r_26 n_40) e_45 r_57 (!r_150))) else ((m_dag_Above N p0_parents p1_points).bind fun r_154 => if (!decide (r_154.2 = 0)) = true then (if (decide (r_154.2 = 3)) = true then (m_credencelaw14_DagMirror_J5 (decide (n_43 = (r_26.1.length : Int)))) else (m_credencelaw14_DagMirror_J5 false)) else (m_credencelaw14_DagMirror_L3 N p0_parents p1_points r_26 n_43 r_154 N 0))

def m_credencelaw14_DagMirror_J2 (N : Nat) (p0_parents : (List (List Int))) (p1_points : (List Int)) (r_18 : ((List (List Int)) × Int)) (r_26 : ((List (Int × Int)) × Int)) (v_39 : Bool) : Option Bool :=
  if v_39 = true then (some false) else (m_credencelaw14_DagMirror_L1 N p0_parents p1_points r_18 r_26 N 0 0)

def m_credencelaw14_DagMirror_J1 (N : Nat) (p0_parents : (List (List Int))) (p1_points : (List Int)) (r_1 : Bool) (v_17 : Bool) : Option Bool :=
  if v_17 = true then (some r_1) else ((m_dag_Children N p0_parents).bind fun r_18 => (m_dag_Edges N p0_parents).bind fun r_26 => if (!r_1) = true then (m_credencelaw14_DagMirror_J2 N p0_parents p1_points r_18 r_26 true) else (if (!decide (r_18.2 = 0)) = true then (m_credencelaw14_DagMirror_J2 N p0_parents p1_points r_18 r_26 true) else (if (!decide (r_26.2 = 0)) = true then (m_credencelaw14_DagMirror_J2 N p0_parents p1_points r_18 r_26 true) else (m_credencelaw14_DagMirror_J2 N p0_parents p1_points r_18 r_26 (!decide ((r_18.1.length : Int) = (p0_parents.length : Int)))))))

def m_credencelaw14_DagMirror (N : Nat) (p0_parents : (List (List Int))) (p1_points : (List Int)) : Option Bool :=
  (m_credencelaw14_alive N).bind fun r_1 => (m_credencelaw14_many N p0_parents).bind fun r_207 => if r_207 = true then (m_credencelaw14_DagMirror_J1 N p0_parents p1_points r_1 true) else (if (decide (40 < (p0_parents.length : Int))) = true then (m_credencelaw14_DagMirror_J1 N p0_parents p1_points r_1 true) else ((m_dag_Check N p0_parents).bind fun r_213 => m_credencelaw14_DagMirror_J1 N p0_parents p1_points r_1 (!decide (r_213 = 0))))

set_option maxRecDepth 100000 in
theorem c_credencelaw14_DagMirror (N : Nat) (col : Col) (w0 : World) (a0 : Option Addr) (cap0 : Nat) (p0_parents : (List (List Int))) (a1 : Option Addr) (cap1 : Nat) (p1_points : (List Int)) (h0 : Sl (Rep.slice (Rep.int .i64)) col w0 a0 cap0 p0_parents) (h1 : Sl (Rep.int .i64) col w0 a1 cap1 p1_points) (r : Bool) (hm : m_credencelaw14_DagMirror N p0_parents p1_points = some r) :
    Calls Try.prog 7 #[(.slice a0 p0_parents.length cap0), (.slice a1 p1_points.length cap1)] w0 (fun e w' => e = .returned ((.bool r)) ∧ Below w0.heap.size w0 w') := by
  refine calls_of1 4 (m := 185) (args := [(.slice a0 p0_parents.length cap0), (.slice a1 p1_points.length cap1)]) Try.func7 rfl rfl rfl rfl rfl ?_
  rw [m_credencelaw14_DagMirror.eq_1] at hm
  have hst := St.start col w0
  replace h0 := h0.keep (Stay.start col w0)
  replace h1 := h1.keep (Stay.start col w0)
  refine wseq ?_
  refine wregion ?_
  refine lv (v := (.bool false)) rfl rfl (r_assign rfl) ?_
  refine lnil ?_
  refine wseq ?_
  refine wregion ?_
  obtain ⟨r_1, hr_2, hm⟩ := bind_some hm
  refine lc rfl rfl (r_call0 Try.call15 ) (c_credencelaw14_alive N (col0 col) _ r_1 hr_2) ?_
  rintro _ w_3 ⟨rfl, hg_4⟩
  refine ⟨_, rfl, ?_⟩
  replace hg_4 : Grow (col0 col) w0 (col0 col) w_3 := .of_below hg_4
  replace h0 := h0.gr hg_4
  replace h1 := h1.gr hg_4
  replace hst := hst.grow hg_4
  refine lv (v := (.bool r_1)) rfl rfl (r_assign rfl) ?_
  refine lnil ?_
  refine wseq ?_
  refine wseq ?_
  refine Wp.cut (fun f w_15 => ∃ (col_16 : Col) (v_17 : Bool), m_credencelaw14_DagMirror_J1 N p0_parents p1_points r_1 v_17 = some r ∧ St w0 (col0 col) col_16 w_15 ∧ Sl (Rep.slice (Rep.int .i64)) col_16 w_15 a0 cap0 p0_parents ∧ Sl (Rep.int .i64) col_16 w_15 a1 cap1 p1_points ∧ f 0 = (.slice a0 p0_parents.length cap0) ∧ f 1 = (.slice a1 p1_points.length cap1) ∧ f 36 = (.bool v_17) ∧ f 5 = (.bool r_1) ∧ f 1000000 = (enc [])) ?_ ?_
  · intro f w_15 hJ
    obtain ⟨col_16, v_17, hm, hst, h0, h1, hs0, hs1, hs36, hs5, hs1000000⟩ := hJ
    rw [m_credencelaw14_DagMirror_J1.eq_1] at hm
    refine .ld (d := 0) (v := (.slice a0 p0_parents.length cap0)) hs0 ?_
    refine .ld (d := 1) (v := (.slice a1 p1_points.length cap1)) hs1 ?_
    refine .ld (d := 36) (v := (.bool v_17)) hs36 ?_
    refine .ld (d := 5) (v := (.bool r_1)) hs5 ?_
    refine .ld (d := 1000000) (v := (enc [])) hs1000000 ?_
    clear hs0 hs1 hs36 hs5 hs1000000
    refine wcond (v_17) rfl (fun hb => ?_) (fun hb => ?_)
    · rw [if_pos hb] at hm
      clear hb
      refine wseq ?_
      refine wregion ?_
      refine lv (v := (.bool r_1)) rfl rfl (r_move rfl) ?_
      refine lv (v := (.bool r_1)) rfl rfl (r_assign rfl) ?_
      refine lnil ?_
      refine wret ?_
      cases hm
      exact ⟨rfl, rfl, hst.below⟩
    · rw [if_neg (by rw [hb]; decide)] at hm
      clear hb
      refine wskip ?_
      refine wseq ?_
      refine wregion ?_
      refine lv (v := (.slice a0 p0_parents.length cap0)) rfl rfl (r_move rfl) ?_
      obtain ⟨r_18, hr_19, hm⟩ := bind_some hm
      refine lc rfl rfl (r_call1 Try.call23 rfl) (c_dag_Children N 1 col_16 _ a0 cap0 p0_parents h0 r_18 hr_19) ?_
      rintro _ w_23 ⟨col_25, ra_20, rc_21, rfl, hg_24, rh_22⟩
      refine ⟨_, rfl, ?_⟩
      replace h0 := h0.gr hg_24
      replace h1 := h1.gr hg_24
      replace hst := hst.grow hg_24
      refine lv (v := (.tuple #[(.slice ra_20 r_18.1.length rc_21), (.int .i64 r_18.2)])) rfl rfl (r_move rfl) ?_
      refine lv (v := (.slice ra_20 r_18.1.length rc_21)) rfl rfl (r_extract rfl rfl) ?_
      refine lv (v := (.int .i64 r_18.2)) rfl rfl (r_extract rfl rfl) ?_
      refine lv (v := (.slice ra_20 r_18.1.length rc_21)) rfl rfl (r_assign rfl) ?_
      refine lv (v := (.int .i64 r_18.2)) rfl rfl (r_assign rfl) ?_
      refine lnil ?_
      refine wseq ?_
      refine wregion ?_
      refine lv (v := (.slice a0 p0_parents.length cap0)) rfl rfl (r_move rfl) ?_
      obtain ⟨r_26, hr_27, hm⟩ := bind_some hm
      refine lc rfl rfl (r_call1 Try.call11 rfl) (c_dag_Edges N 2 col_25 _ a0 cap0 p0_parents h0 r_26 hr_27) ?_
      rintro _ w_31 ⟨col_33, ra_28, rc_29, rfl, hg_32, rh_30⟩
      refine ⟨_, rfl, ?_⟩
      replace h0 := h0.gr hg_32
      replace h1 := h1.gr hg_32
      replace rh_22 := rh_22.gr hg_32
      replace hst := hst.grow hg_32
      refine lv (v := (.tuple #[(.slice ra_28 r_26.1.length rc_29), (.int .i64 r_26.2)])) rfl rfl (r_move rfl) ?_
      refine lv (v := (.slice ra_28 r_26.1.length rc_29)) rfl rfl (r_extract rfl rfl) ?_
      refine lv (v := (.int .i64 r_26.2)) rfl rfl (r_extract rfl rfl) ?_
      refine lv (v := (.slice ra_28 r_26.1.length rc_29)) rfl rfl (r_assign rfl) ?_
      refine lv (v := (.int .i64 r_26.2)) rfl rfl (r_assign rfl) ?_
      refine lnil ?_
      refine wseq ?_
      refine wseq ?_
      refine Wp.cut (fun f w_37 => ∃ (col_38 : Col) (v_39 : Bool), m_credencelaw14_DagMirror_J2 N p0_parents p1_points r_18 r_26 v_39 = some r ∧ St w0 (col0 col) col_38 w_37 ∧ Sl (Rep.slice (Rep.int .i64)) col_38 w_37 a0 cap0 p0_parents ∧ Sl (Rep.int .i64) col_38 w_37 a1 cap1 p1_points ∧ Own (Rep.row 3 (Rep.int .i64)) 31 1 col_38 w_37 ra_20 rc_21 r_18.1 ∧ Own (Rep.pair (Rep.int .i64) (Rep.int .i64)) 35 2 col_38 w_37 ra_28 rc_29 r_26.1 ∧ f 0 = (.slice a0 p0_parents.length cap0) ∧ f 1 = (.slice a1 p1_points.length cap1) ∧ f 6 = (.slice ra_20 r_18.1.length rc_21) ∧ f 64 = (.bool v_39) ∧ f 8 = (.slice ra_28 r_26.1.length rc_29) ∧ f 1000000 = (enc [])) ?_ ?_
      · intro f w_37 hJ
        obtain ⟨col_38, v_39, hm, hst, h0, h1, rh_22, rh_30, hs0, hs1, hs6, hs64, hs8, hs1000000⟩ := hJ
        rw [m_credencelaw14_DagMirror_J2.eq_1] at hm
        refine .ld (d := 0) (v := (.slice a0 p0_parents.length cap0)) hs0 ?_
        refine .ld (d := 1) (v := (.slice a1 p1_points.length cap1)) hs1 ?_
        refine .ld (d := 6) (v := (.slice ra_20 r_18.1.length rc_21)) hs6 ?_
        refine .ld (d := 64) (v := (.bool v_39)) hs64 ?_
        refine .ld (d := 8) (v := (.slice ra_28 r_26.1.length rc_29)) hs8 ?_
        refine .ld (d := 1000000) (v := (enc [])) hs1000000 ?_
        clear hs0 hs1 hs6 hs64 hs8 hs1000000
        refine wcond (v_39) rfl (fun hb => ?_) (fun hb => ?_)
        · rw [if_pos hb] at hm
          clear hb
          refine wseq ?_
          refine wregion ?_
          refine lv (v := (.bool false)) rfl rfl (r_assign rfl) ?_
          refine lnil ?_
          refine wret ?_
          cases hm
          exact ⟨rfl, rfl, hst.below⟩
        · rw [if_neg (by rw [hb]; decide)] at hm
          clear hb
          refine wskip ?_
          refine wseq ?_
          refine wregion ?_
          refine lv (v := (.int .i64 0)) rfl rfl (r_assign rfl) ?_
          refine lnil ?_
          refine wseq ?_
          refine wseq ?_
          refine wregion ?_
          refine lv (v := (.int .i64 0)) rfl rfl (r_assign rfl) ?_
          refine lnil ?_
          refine wblock ?_
          refine wloop (fun n f w_41 => ∃ (col_42 : Col) (n_43 : Int) (i_44 : Int) (n_40 : Nat), n_40 = n ∧ m_credencelaw14_DagMirror_L1 N p0_parents p1_points r_18 r_26 n_40 n_43 i_44 = some r ∧ St w0 (col0 col) col_42 w_41 ∧ Sl (Rep.slice (Rep.int .i64)) col_42 w_41 a0 cap0 p0_parents ∧ Sl (Rep.int .i64) col_42 w_41 a1 cap1 p1_points ∧ Own (Rep.row 3 (Rep.int .i64)) 31 1 col_42 w_41 ra_20 rc_21 r_18.1 ∧ Own (Rep.pair (Rep.int .i64) (Rep.int .i64)) 35 2 col_42 w_41 ra_28 rc_29 r_26.1 ∧ f 0 = (.slice a0 p0_parents.length cap0) ∧ f 1 = (.slice a1 p1_points.length cap1) ∧ f 10 = (.int .i64 n_43) ∧ f 11 = (.int .i64 i_44) ∧ f 6 = (.slice ra_20 r_18.1.length rc_21) ∧ f 8 = (.slice ra_28 r_26.1.length rc_29) ∧ f 1000000 = (enc [])) N ⟨col_38, 0, 0, N, rfl, hm, hst, h0, h1, rh_22, rh_30, rfl, rfl, rfl, rfl, rfl, rfl, rfl⟩ ?_
          clear hm; intro n f w_41 hI
          obtain ⟨col_42, n_43, i_44, n_40, hn, hm, hst, h0, h1, rh_22, rh_30, hs0, hs1, hs10, hs11, hs6, hs8, hs1000000⟩ := hI
          subst hn
          refine .ld (d := 0) (v := (.slice a0 p0_parents.length cap0)) hs0 ?_
          refine .ld (d := 1) (v := (.slice a1 p1_points.length cap1)) hs1 ?_
          refine .ld (d := 10) (v := (.int .i64 n_43)) hs10 ?_
          refine .ld (d := 11) (v := (.int .i64 i_44)) hs11 ?_
          refine .ld (d := 6) (v := (.slice ra_20 r_18.1.length rc_21)) hs6 ?_
          refine .ld (d := 8) (v := (.slice ra_28 r_26.1.length rc_29)) hs8 ?_
          refine .ld (d := 1000000) (v := (enc [])) hs1000000 ?_
          clear hs0 hs1 hs10 hs11 hs6 hs8 hs1000000
          cases n_40 with
          | zero => rw [m_credencelaw14_DagMirror_L1.eq_1] at hm; cases hm
          | succ n_40 =>
            rw [m_credencelaw14_DagMirror_L1.eq_2] at hm
            refine wseq ?_
            refine wseq ?_
            refine wregion ?_
            refine lv (v := (.int .i64 i_44)) rfl rfl (r_move rfl) ?_
            refine lv (v := (.slice a0 p0_parents.length cap0)) rfl rfl (r_move rfl) ?_
            refine lv (v := (.int .i64 (p0_parents.length : Int))) rfl rfl (r_len Try.underlying22 rfl) ?_
            refine lv (v := (.bool (decide (i_44 < (p0_parents.length : Int))))) rfl rfl (r_lss i_44 (p0_parents.length : Int) rfl rfl) ?_
            refine lnil ?_
            refine wcond (decide (i_44 < (p0_parents.length : Int))) rfl (fun hb => ?_) (fun hb => ?_)
            · rw [if_pos hb] at hm
              clear hb
              refine wskip ?_
              refine wseq ?_
              refine wblock ?_
              refine wseq ?_
              refine wregion ?_
              refine lv (v := (.int .i64 n_43)) rfl rfl (r_move rfl) ?_
              refine lv (v := (.slice a0 p0_parents.length cap0)) rfl rfl (r_move rfl) ?_
              refine lv (v := (.int .i64 i_44)) rfl rfl (r_move rfl) ?_
              obtain ⟨e_45, hj_46, hm⟩ := bind_some hm
              refine lv (v := (sptr a0 (Int.toNat i_44 * 1))) rfl rfl (r_idx Try.underlying22 Try.sizeOf31 rfl rfl (at?_some hj_46).1 (at?_some hj_46).2.1 (h0.addr hj_46)) ?_
              obtain ⟨_, hr_47, hA_48⟩ := h0.atN hj_46
              obtain ⟨⟨a_49, cap_50, rfl, h_51⟩, _⟩ := hr_47
              refine lv (v := (.slice a_49 e_45.length cap_50)) rfl rfl (r_ld Try.isAgg31 rfl hA_48.one) ?_
              refine lv (v := (.int .i64 (e_45.length : Int))) rfl rfl (r_len Try.underlying31 rfl) ?_
              refine lv (v := (.int .i64 (IntKind.i64.wrap (n_43 + (e_45.length : Int))))) rfl rfl (r_add n_43 (e_45.length : Int) rfl rfl) ?_
              refine lv (v := (.int .i64 (IntKind.i64.wrap (n_43 + (e_45.length : Int))))) rfl rfl (r_assign rfl) ?_
              refine lnil ?_
              refine wseq ?_
              refine wregion ?_
              refine lv (v := (.slice a0 p0_parents.length cap0)) rfl rfl (r_move rfl) ?_
              refine lv (v := (.int .i64 i_44)) rfl rfl (r_move rfl) ?_
              refine l_lit (col := col_42) (r := (Rep.int .i64)) (xs := [i_44]) [(.int .i64 i_44)] 3 rfl Try.underlying31 el3_7 rfl rfl rfl rfl rfl rfl (by intro v hv; simp only [List.mem_cons, List.not_mem_nil, or_false] at hv; subst hv; rfl) (RowsH.ofF (Rows.consF (r := (Rep.int .i64)) (x := i_44) (cs := [(.int .i64 i_44)]) (rd_int .i64 i_44) Rows.nil0)) ?_
              intro a_52 w_53 col_54 hg_55 h_56
              replace h0 := h0.gr hg_55
              replace h1 := h1.gr hg_55
              replace rh_22 := rh_22.gr hg_55
              replace rh_30 := rh_30.gr hg_55
              replace hst := hst.grow hg_55
              obtain ⟨r_57, hr_58, hm⟩ := bind_some hm
              refine lc rfl rfl (r_call2 Try.call24 rfl rfl) (c_dag_Above N 4 (frC 3 col_54) _ a0 cap0 p0_parents a_52 1 [i_44] (h0.froz 3) (h_56.toSlF (Froz.int .i64)) r_57 hr_58) ?_
              rintro _ w_62 ⟨col_64, ra_59, rc_60, rfl, hg_63, rh_61⟩
              refine ⟨_, rfl, ?_⟩
              replace rh_61 := rh_61.thaw (flat_int .i64) hg_63 ((Fz.refl (col := col_54)).froz 3) (by decide)
              replace hg_63 := hg_63.thawR (col := col_54)
              generalize colR w_53.heap.size col_54 col_64 = col_65 at *
              replace h0 := h0.gr hg_63
              replace h1 := h1.gr hg_63
              replace rh_22 := rh_22.gr hg_63
              replace rh_30 := rh_30.gr hg_63
              replace h_56 := h_56.gr hg_63
              replace hst := hst.grow hg_63
              refine lv (v := (.tuple #[(.slice ra_59 r_57.1.length rc_60), (.int .i64 r_57.2)])) rfl rfl (r_move rfl) ?_
              refine lv (v := (.slice ra_59 r_57.1.length rc_60)) rfl rfl (r_extract rfl rfl) ?_
              refine lv (v := (.int .i64 r_57.2)) rfl rfl (r_extract rfl rfl) ?_
              refine lv (v := (.slice ra_59 r_57.1.length rc_60)) rfl rfl (r_assign rfl) ?_
              refine lv (v := (.int .i64 r_57.2)) rfl rfl (r_assign rfl) ?_
              refine lnil ?_
              refine wseq ?_
              refine wseq ?_
              refine Wp.cut (fun f w_71 => ∃ (col_72 : Col) (v_73 : Bool), m_credencelaw14_DagMirror_J3 N p0_parents r_18 n_43 i_44 (m_credencelaw14_DagMirror_L1 N p0_parents p1_points r_18 r_26 n_40) e_45 r_57 v_73 = some r ∧ St w0 (col0 col) col_72 w_71 ∧ Sl (Rep.slice (Rep.int .i64)) col_72 w_71 a0 cap0 p0_parents ∧ Sl (Rep.int .i64) col_72 w_71 a1 cap1 p1_points ∧ Own (Rep.int .i64) 3 4 col_72 w_71 ra_59 rc_60 r_57.1 ∧ Own (Rep.row 3 (Rep.int .i64)) 31 1 col_72 w_71 ra_20 rc_21 r_18.1 ∧ Own (Rep.pair (Rep.int .i64) (Rep.int .i64)) 35 2 col_72 w_71 ra_28 rc_29 r_26.1 ∧ f 0 = (.slice a0 p0_parents.length cap0) ∧ f 1 = (.slice a1 p1_points.length cap1) ∧ f 10 = (.int .i64 (IntKind.i64.wrap (n_43 + (e_45.length : Int)))) ∧ f 11 = (.int .i64 i_44) ∧ f 12 = (.slice ra_59 r_57.1.length rc_60) ∧ f 6 = (.slice ra_20 r_18.1.length rc_21) ∧ f 8 = (.slice ra_28 r_26.1.length rc_29) ∧ f 92 = (.bool v_73) ∧ f 1000000 = (enc [])) ?_ ?_
              · intro f w_71 hJ
                obtain ⟨col_72, v_73, hm, hst, h0, h1, rh_61, rh_22, rh_30, hs0, hs1, hs10, hs11, hs12, hs6, hs8, hs92, hs1000000⟩ := hJ
                rw [m_credencelaw14_DagMirror_J3.eq_1] at hm
                refine .ld (d := 0) (v := (.slice a0 p0_parents.length cap0)) hs0 ?_
                refine .ld (d := 1) (v := (.slice a1 p1_points.length cap1)) hs1 ?_
                refine .ld (d := 10) (v := (.int .i64 (IntKind.i64.wrap (n_43 + (e_45.length : Int))))) hs10 ?_
                refine .ld (d := 11) (v := (.int .i64 i_44)) hs11 ?_
                refine .ld (d := 12) (v := (.slice ra_59 r_57.1.length rc_60)) hs12 ?_
                refine .ld (d := 6) (v := (.slice ra_20 r_18.1.length rc_21)) hs6 ?_
                refine .ld (d := 8) (v := (.slice ra_28 r_26.1.length rc_29)) hs8 ?_
                refine .ld (d := 92) (v := (.bool v_73)) hs92 ?_
                refine .ld (d := 1000000) (v := (enc [])) hs1000000 ?_
                clear hs0 hs1 hs10 hs11 hs12 hs6 hs8 hs92 hs1000000
                refine wcond (v_73) rfl (fun hb => ?_) (fun hb => ?_)
                · rw [if_pos hb] at hm
                  clear hb
                  refine wseq ?_
                  refine wregion ?_
                  refine lv (v := (.bool false)) rfl rfl (r_assign rfl) ?_
                  refine lnil ?_
                  refine wret ?_
                  cases hm
                  exact ⟨rfl, rfl, hst.below⟩
                · rw [if_neg (by rw [hb]; decide)] at hm
                  clear hb
                  refine wskip ?_
                  refine wseq ?_
                  refine wregion ?_
                  refine lv (v := (.int .i64 0)) rfl rfl (r_assign rfl) ?_
                  refine lnil ?_
                  refine wblock ?_
                  refine wloop (fun n f w_75 => ∃ (col_76 : Col) (k_77 : Int) (n_74 : Nat), n_74 = n ∧ m_credencelaw14_DagMirror_L2 N p0_parents r_18 n_43 i_44 (m_credencelaw14_DagMirror_L1 N p0_parents p1_points r_18 r_26 n_40) e_45 r_57 n_74 k_77 = some r ∧ St w0 (col0 col) col_76 w_75 ∧ Sl (Rep.slice (Rep.int .i64)) col_76 w_75 a0 cap0 p0_parents ∧ Sl (Rep.int .i64) col_76 w_75 a1 cap1 p1_points ∧ Own (Rep.int .i64) 3 4 col_76 w_75 ra_59 rc_60 r_57.1 ∧ Own (Rep.row 3 (Rep.int .i64)) 31 1 col_76 w_75 ra_20 rc_21 r_18.1 ∧ Own (Rep.pair (Rep.int .i64) (Rep.int .i64)) 35 2 col_76 w_75 ra_28 rc_29 r_26.1 ∧ f 0 = (.slice a0 p0_parents.length cap0) ∧ f 1 = (.slice a1 p1_points.length cap1) ∧ f 10 = (.int .i64 (IntKind.i64.wrap (n_43 + (e_45.length : Int)))) ∧ f 11 = (.int .i64 i_44) ∧ f 12 = (.slice ra_59 r_57.1.length rc_60) ∧ f 14 = (.int .i64 k_77) ∧ f 6 = (.slice ra_20 r_18.1.length rc_21) ∧ f 8 = (.slice ra_28 r_26.1.length rc_29) ∧ f 1000000 = (enc [])) N ⟨col_72, 0, N, rfl, hm, hst, h0, h1, rh_61, rh_22, rh_30, rfl, rfl, rfl, rfl, rfl, rfl, rfl, rfl, rfl⟩ ?_
                  clear hm; intro n f w_75 hI
                  obtain ⟨col_76, k_77, n_74, hn, hm, hst, h0, h1, rh_61, rh_22, rh_30, hs0, hs1, hs10, hs11, hs12, hs14, hs6, hs8, hs1000000⟩ := hI
                  subst hn
                  refine .ld (d := 0) (v := (.slice a0 p0_parents.length cap0)) hs0 ?_
                  refine .ld (d := 1) (v := (.slice a1 p1_points.length cap1)) hs1 ?_
                  refine .ld (d := 10) (v := (.int .i64 (IntKind.i64.wrap (n_43 + (e_45.length : Int))))) hs10 ?_
                  refine .ld (d := 11) (v := (.int .i64 i_44)) hs11 ?_
                  refine .ld (d := 12) (v := (.slice ra_59 r_57.1.length rc_60)) hs12 ?_
                  refine .ld (d := 14) (v := (.int .i64 k_77)) hs14 ?_
                  refine .ld (d := 6) (v := (.slice ra_20 r_18.1.length rc_21)) hs6 ?_
                  refine .ld (d := 8) (v := (.slice ra_28 r_26.1.length rc_29)) hs8 ?_
                  refine .ld (d := 1000000) (v := (enc [])) hs1000000 ?_
                  clear hs0 hs1 hs10 hs11 hs12 hs14 hs6 hs8 hs1000000
                  cases n_74 with
                  | zero => rw [m_credencelaw14_DagMirror_L2.eq_1] at hm; cases hm
                  | succ n_74 =>
                    rw [m_credencelaw14_DagMirror_L2.eq_2] at hm
                    refine wseq ?_
                    refine wseq ?_
                    refine wregion ?_
                    refine lv (v := (.int .i64 k_77)) rfl rfl (r_move rfl) ?_
                    refine lv (v := (.slice a0 p0_parents.length cap0)) rfl rfl (r_move rfl) ?_
                    refine lv (v := (.int .i64 (p0_parents.length : Int))) rfl rfl (r_len Try.underlying22 rfl) ?_
                    refine lv (v := (.bool (decide (k_77 < (p0_parents.length : Int))))) rfl rfl (r_lss k_77 (p0_parents.length : Int) rfl rfl) ?_
                    refine lnil ?_
                    refine wcond (decide (k_77 < (p0_parents.length : Int))) rfl (fun hb => ?_) (fun hb => ?_)
                    · rw [if_pos hb] at hm
                      clear hb
                      refine wskip ?_
                      refine wseq ?_
                      refine wblock ?_
                      refine wseq ?_
                      refine wregion ?_
                      refine lv (v := (.slice a0 p0_parents.length cap0)) rfl rfl (r_move rfl) ?_
                      refine lv (v := (.int .i64 k_77)) rfl rfl (r_move rfl) ?_
                      refine l_lit (col := col_76) (r := (Rep.int .i64)) (xs := [k_77]) [(.int .i64 k_77)] 5 rfl Try.underlying31 el3_7 rfl rfl rfl rfl rfl rfl (by intro v hv; simp only [List.mem_cons, List.not_mem_nil, or_false] at hv; subst hv; rfl) (RowsH.ofF (Rows.consF (r := (Rep.int .i64)) (x := k_77) (cs := [(.int .i64 k_77)]) (rd_int .i64 k_77) Rows.nil0)) ?_
                      intro a_78 w_79 col_80 hg_81 h_82
                      replace h0 := h0.gr hg_81
                      replace h1 := h1.gr hg_81
                      replace rh_61 := rh_61.gr hg_81
                      replace rh_22 := rh_22.gr hg_81
                      replace rh_30 := rh_30.gr hg_81
                      replace hst := hst.grow hg_81
                      obtain ⟨r_83, hr_84, hm⟩ := bind_some hm
                      refine lc rfl rfl (r_call2 Try.call25 rfl rfl) (c_dag_Below N 6 (frC 5 col_80) _ a0 cap0 p0_parents a_78 1 [k_77] (h0.froz 5) (h_82.toSlF (Froz.int .i64)) r_83 hr_84) ?_
                      rintro _ w_88 ⟨col_90, ra_85, rc_86, rfl, hg_89, rh_87⟩
                      refine ⟨_, rfl, ?_⟩
                      replace rh_87 := rh_87.thaw (flat_int .i64) hg_89 ((Fz.refl (col := col_80)).froz 5) (by decide)
                      replace hg_89 := hg_89.thawR (col := col_80)
                      generalize colR w_79.heap.size col_80 col_90 = col_91 at *
                      replace h0 := h0.gr hg_89
                      replace h1 := h1.gr hg_89
                      replace rh_61 := rh_61.gr hg_89
                      replace rh_22 := rh_22.gr hg_89
                      replace rh_30 := rh_30.gr hg_89
                      replace h_82 := h_82.gr hg_89
                      replace hst := hst.grow hg_89
                      refine lv (v := (.tuple #[(.slice ra_85 r_83.1.length rc_86), (.int .i64 r_83.2)])) rfl rfl (r_move rfl) ?_
                      refine lv (v := (.slice ra_85 r_83.1.length rc_86)) rfl rfl (r_extract rfl rfl) ?_
                      refine lv (v := (.int .i64 r_83.2)) rfl rfl (r_extract rfl rfl) ?_
                      refine lv (v := (.slice ra_85 r_83.1.length rc_86)) rfl rfl (r_assign rfl) ?_
                      refine lv (v := (.int .i64 r_83.2)) rfl rfl (r_assign rfl) ?_
                      refine lnil ?_
                      refine wseq ?_
                      refine Wp.cut (fun f w_119 => ∃ (col_120 : Col) (v_121 : Bool), m_credencelaw14_DagMirror_J4 k_77 (m_credencelaw14_DagMirror_L2 N p0_parents r_18 n_43 i_44 (m_credencelaw14_DagMirror_L1 N p0_parents p1_points r_18 r_26 n_40) e_45 r_57 n_74) v_121 = some r ∧ St w0 (col0 col) col_120 w_119 ∧ Sl (Rep.slice (Rep.int .i64)) col_120 w_119 a0 cap0 p0_parents ∧ Sl (Rep.int .i64) col_120 w_119 a1 cap1 p1_points ∧ Own (Rep.int .i64) 3 4 col_120 w_119 ra_59 rc_60 r_57.1 ∧ Own (Rep.row 3 (Rep.int .i64)) 31 1 col_120 w_119 ra_20 rc_21 r_18.1 ∧ Own (Rep.pair (Rep.int .i64) (Rep.int .i64)) 35 2 col_120 w_119 ra_28 rc_29 r_26.1 ∧ f 0 = (.slice a0 p0_parents.length cap0) ∧ f 1 = (.slice a1 p1_points.length cap1) ∧ f 10 = (.int .i64 (IntKind.i64.wrap (n_43 + (e_45.length : Int)))) ∧ f 11 = (.int .i64 i_44) ∧ f 12 = (.slice ra_59 r_57.1.length rc_60) ∧ f 131 = (.bool v_121) ∧ f 14 = (.int .i64 k_77) ∧ f 6 = (.slice ra_20 r_18.1.length rc_21) ∧ f 8 = (.slice ra_28 r_26.1.length rc_29) ∧ f 1000000 = (enc [])) ?_ ?_
                      · intro f w_119 hJ
                        obtain ⟨col_120, v_121, hm, hst, h0, h1, rh_61, rh_22, rh_30, hs0, hs1, hs10, hs11, hs12, hs131, hs14, hs6, hs8, hs1000000⟩ := hJ
                        rw [m_credencelaw14_DagMirror_J4.eq_1] at hm
                        refine .ld (d := 0) (v := (.slice a0 p0_parents.length cap0)) hs0 ?_
                        refine .ld (d := 1) (v := (.slice a1 p1_points.length cap1)) hs1 ?_
                        refine .ld (d := 10) (v := (.int .i64 (IntKind.i64.wrap (n_43 + (e_45.length : Int))))) hs10 ?_
                        refine .ld (d := 11) (v := (.int .i64 i_44)) hs11 ?_
                        refine .ld (d := 12) (v := (.slice ra_59 r_57.1.length rc_60)) hs12 ?_
                        refine .ld (d := 131) (v := (.bool v_121)) hs131 ?_
                        refine .ld (d := 14) (v := (.int .i64 k_77)) hs14 ?_
                        refine .ld (d := 6) (v := (.slice ra_20 r_18.1.length rc_21)) hs6 ?_
                        refine .ld (d := 8) (v := (.slice ra_28 r_26.1.length rc_29)) hs8 ?_
                        refine .ld (d := 1000000) (v := (enc [])) hs1000000 ?_
                        clear hs0 hs1 hs10 hs11 hs12 hs131 hs14 hs6 hs8 hs1000000
                        refine wcond (v_121) rfl (fun hb => ?_) (fun hb => ?_)
                        · rw [if_pos hb] at hm
                          clear hb
                          refine wseq ?_
                          refine wregion ?_
                          refine lv (v := (.bool false)) rfl rfl (r_assign rfl) ?_
                          refine lnil ?_
                          refine wret ?_
                          cases hm
                          exact ⟨rfl, rfl, hst.below⟩
                        · rw [if_neg (by rw [hb]; decide)] at hm
                          clear hb
                          refine wskip ?_
                          refine wregion ?_
                          refine lv (v := (.int .i64 k_77)) rfl rfl (r_move rfl) ?_
                          refine lv (v := (.int .i64 (IntKind.i64.wrap (k_77 + 1)))) rfl rfl (r_add k_77 1 rfl rfl) ?_
                          refine lv (v := (.int .i64 (IntKind.i64.wrap (k_77 + 1)))) rfl rfl (r_assign rfl) ?_
                          refine lnil ?_
                          exact ⟨n_74, by omega, ⟨col_120, (IntKind.i64.wrap (k_77 + 1)), n_74, rfl, hm, hst, h0, h1, rh_61, rh_22, rh_30, rfl, rfl, rfl, rfl, rfl, rfl, rfl, rfl, rfl⟩⟩
                      · refine wquiet (col := col_91) (by kernel_rfl) (by kernel_rfl) ?_
                        refine qv (v := (.int .i64 r_83.2)) rfl (fun _ hC => r_move rfl) ?_
                        refine qv (v := (.bool (!decide (r_83.2 = 0)))) rfl (fun _ hC => r_neq r_83.2 0 rfl rfl) ?_
                        refine qv (v := (.bool (!decide (r_83.2 = 0)))) rfl (fun _ hC => r_move rfl) ?_
                        by_cases hg_122 : (!decide (r_83.2 = 0)) = true
                        · rw [if_pos hg_122] at hm
                          refine qp (b := !decide (r_83.2 = 0)) 108 rfl rfl rfl rfl (by rw [hg_122]; rfl) ?_
                          refine qp (b := !decide (r_83.2 = 0)) 108 rfl rfl rfl rfl (by rw [hg_122]; rfl) ?_
                          refine qp (b := !decide (r_83.2 = 0)) 108 rfl rfl rfl rfl (by rw [hg_122]; rfl) ?_
                          refine qp (b := !decide (r_83.2 = 0)) 108 rfl rfl rfl rfl (by rw [hg_122]; rfl) ?_
                          refine qp (b := !decide (r_83.2 = 0)) 108 rfl rfl rfl rfl (by rw [hg_122]; rfl) ?_
                          refine qp (b := !decide (r_83.2 = 0)) 108 rfl rfl rfl rfl (by rw [hg_122]; rfl) ?_
                          refine qp (b := !decide (r_83.2 = 0)) 108 rfl rfl rfl rfl (by rw [hg_122]; rfl) ?_
                          refine qv (v := (.bool true)) rfl (fun _ hC => r_pickT (congrArg Value.bool hg_122) rfl) ?_
                          refine qv (v := (.bool true)) rfl (fun _ hC => r_move rfl) ?_
                          refine qp (b := true) 117 rfl rfl rfl rfl rfl ?_
                          refine qp (b := true) 117 rfl rfl rfl rfl rfl ?_
                          refine qp (b := true) 117 rfl rfl rfl rfl rfl ?_
                          refine qp (b := true) 117 rfl rfl rfl rfl rfl ?_
                          refine qp (b := true) 117 rfl rfl rfl rfl rfl ?_
                          refine qp (b := true) 117 rfl rfl rfl rfl rfl ?_
                          refine qp (b := true) 117 rfl rfl rfl rfl rfl ?_
                          refine qp (b := true) 117 rfl rfl rfl rfl rfl ?_
                          refine qp (b := true) 117 rfl rfl rfl rfl rfl ?_
                          refine qp (b := true) 117 rfl rfl rfl rfl rfl ?_
                          refine qp (b := true) 117 rfl rfl rfl rfl rfl ?_
                          refine qp (b := true) 117 rfl rfl rfl rfl rfl ?_
                          refine qp (b := true) 117 rfl rfl rfl rfl rfl ?_
                          refine qv (v := (.bool true)) rfl (fun _ hC => r_pickT rfl rfl) ?_
                          refine qnil ?_
                          intro w_123 hC
                          replace hC : Grow col_91 w_88 col_91 w_123 := .of_below hC.below
                          replace h0 := h0.gr hC
                          replace h1 := h1.gr hC
                          replace rh_61 := rh_61.gr hC
                          replace rh_22 := rh_22.gr hC
                          replace rh_30 := rh_30.gr hC
                          replace hst := hst.grow hC
                          exact ⟨col_91, true, hm, hst, h0, h1, rh_61, rh_22, rh_30, rfl, rfl, rfl, rfl, rfl, rfl, rfl, rfl, rfl, rfl⟩
                        · rw [if_neg hg_122] at hm
                          replace hg_122 := Bool.eq_false_iff.2 hg_122
                          refine qg (b := !decide (r_83.2 = 0)) 108 rfl rfl rfl (by rw [hg_122]; rfl) ?_
                          refine qv (v := (.slice ra_59 r_57.1.length rc_60)) rfl (fun _ hC => r_move rfl) ?_
                          refine qg (b := !decide (r_83.2 = 0)) 108 rfl rfl rfl (by rw [hg_122]; rfl) ?_
                          refine qv (v := (.int .i64 k_77)) rfl (fun _ hC => r_move rfl) ?_
                          refine qg (b := !decide (r_83.2 = 0)) 108 rfl rfl rfl (by rw [hg_122]; rfl) ?_
                          obtain ⟨r_124, hr_125, hm⟩ := bind_some hm
                          refine qc (v := (.bool r_124)) rfl (fun _ hC => ⟨_, _, r_call2 Try.call20 rfl rfl, (c_credencelaw14_in N (frC 4 col_91) _ ra_59 rc_60 r_57.1 k_77 ((rh_61.gr (Grow.of_below (col := col_91) hC.below)).toSlF (Froz.int .i64)) r_124 hr_125).mono fun _ _ h => ⟨h.1, hC.trans (.of_below h.2)⟩⟩) ?_
                          refine qg (b := !decide (r_83.2 = 0)) 108 rfl rfl rfl (by rw [hg_122]; rfl) ?_
                          refine qv (v := (.slice ra_85 r_83.1.length rc_86)) rfl (fun _ hC => r_move rfl) ?_
                          refine qg (b := !decide (r_83.2 = 0)) 108 rfl rfl rfl (by rw [hg_122]; rfl) ?_
                          refine qv (v := (.int .i64 i_44)) rfl (fun _ hC => r_move rfl) ?_
                          refine qg (b := !decide (r_83.2 = 0)) 108 rfl rfl rfl (by rw [hg_122]; rfl) ?_
                          obtain ⟨r_126, hr_127, hm⟩ := bind_some hm
                          refine qc (v := (.bool r_126)) rfl (fun _ hC => ⟨_, _, r_call2 Try.call20 rfl rfl, (c_credencelaw14_in N (frC 6 col_91) _ ra_85 rc_86 r_83.1 i_44 ((rh_87.gr (Grow.of_below (col := col_91) hC.below)).toSlF (Froz.int .i64)) r_126 hr_127).mono fun _ _ h => ⟨h.1, hC.trans (.of_below h.2)⟩⟩) ?_
                          refine qg (b := !decide (r_83.2 = 0)) 108 rfl rfl rfl (by rw [hg_122]; rfl) ?_
                          refine qv (v := (.bool (!decide (r_124 = r_126)))) rfl (fun _ hC => r_neqB r_124 r_126 Try.underlying4 rfl rfl) ?_
                          refine qv (v := (.bool (!decide (r_124 = r_126)))) rfl (fun _ hC => r_pickF (congrArg Value.bool hg_122) rfl) ?_
                          refine qv (v := (.bool (!decide (r_124 = r_126)))) rfl (fun _ hC => r_move rfl) ?_
                          by_cases hg_128 : (!decide (r_124 = r_126)) = true
                          · rw [if_pos hg_128] at hm
                            refine qp (b := !decide (r_124 = r_126)) 117 rfl rfl rfl rfl (by rw [hg_128]; rfl) ?_
                            refine qp (b := !decide (r_124 = r_126)) 117 rfl rfl rfl rfl (by rw [hg_128]; rfl) ?_
                            refine qp (b := !decide (r_124 = r_126)) 117 rfl rfl rfl rfl (by rw [hg_128]; rfl) ?_
                            refine qp (b := !decide (r_124 = r_126)) 117 rfl rfl rfl rfl (by rw [hg_128]; rfl) ?_
                            refine qp (b := !decide (r_124 = r_126)) 117 rfl rfl rfl rfl (by rw [hg_128]; rfl) ?_
                            refine qp (b := !decide (r_124 = r_126)) 117 rfl rfl rfl rfl (by rw [hg_128]; rfl) ?_
                            refine qp (b := !decide (r_124 = r_126)) 117 rfl rfl rfl rfl (by rw [hg_128]; rfl) ?_
                            refine qp (b := !decide (r_124 = r_126)) 117 rfl rfl rfl rfl (by rw [hg_128]; rfl) ?_
                            refine qp (b := !decide (r_124 = r_126)) 117 rfl rfl rfl rfl (by rw [hg_128]; rfl) ?_
                            refine qp (b := !decide (r_124 = r_126)) 117 rfl rfl rfl rfl (by rw [hg_128]; rfl) ?_
                            refine qp (b := !decide (r_124 = r_126)) 117 rfl rfl rfl rfl (by rw [hg_128]; rfl) ?_
                            refine qp (b := !decide (r_124 = r_126)) 117 rfl rfl rfl rfl (by rw [hg_128]; rfl) ?_
                            refine qp (b := !decide (r_124 = r_126)) 117 rfl rfl rfl rfl (by rw [hg_128]; rfl) ?_
                            refine qv (v := (.bool true)) rfl (fun _ hC => r_pickT (congrArg Value.bool hg_128) rfl) ?_
                            refine qnil ?_
                            intro w_129 hC
                            replace hC : Grow col_91 w_88 col_91 w_129 := .of_below hC.below
                            replace h0 := h0.gr hC
                            replace h1 := h1.gr hC
                            replace rh_61 := rh_61.gr hC
                            replace rh_22 := rh_22.gr hC
                            replace rh_30 := rh_30.gr hC
                            replace hst := hst.grow hC
                            exact ⟨col_91, true, hm, hst, h0, h1, rh_61, rh_22, rh_30, rfl, rfl, rfl, rfl, rfl, rfl, rfl, rfl, rfl, rfl⟩
                          · rw [if_neg hg_128] at hm
                            replace hg_128 := Bool.eq_false_iff.2 hg_128
                            refine qg (b := !decide (r_124 = r_126)) 117 rfl rfl rfl (by rw [hg_128]; rfl) ?_
                            refine qv (v := (.slice ra_20 r_18.1.length rc_21)) rfl (fun _ hC => r_move rfl) ?_
                            refine qg (b := !decide (r_124 = r_126)) 117 rfl rfl rfl (by rw [hg_128]; rfl) ?_
                            refine qv (v := (.int .i64 i_44)) rfl (fun _ hC => r_move rfl) ?_
                            refine qg (b := !decide (r_124 = r_126)) 117 rfl rfl rfl (by rw [hg_128]; rfl) ?_
                            obtain ⟨e_130, hj_131, hm⟩ := bind_some hm
                            refine qv (v := (sptr ra_20 (Int.toNat i_44 * 1))) rfl (fun _ hC => r_idx Try.underlying22 Try.sizeOf31 rfl rfl (at?_some hj_131).1 (at?_some hj_131).2.1 (rh_22.addr hj_131)) ?_
                            refine qg (b := !decide (r_124 = r_126)) 117 rfl rfl rfl (by rw [hg_128]; rfl) ?_
                            obtain ⟨_, hr_132, hA_133⟩ := rh_22.atN hj_131
                            obtain ⟨a_134, cap_135, rfl, h_136⟩ := hr_132.row
                            refine qv (v := (.slice a_134 e_130.length cap_135)) rfl (fun _ hC => r_ld Try.isAgg31 rfl (hA_133.one.gr (Grow.of_below (col := col_91) hC.below))) ?_
                            refine qg (b := !decide (r_124 = r_126)) 117 rfl rfl rfl (by rw [hg_128]; rfl) ?_
                            refine qv (v := (.int .i64 k_77)) rfl (fun _ hC => r_move rfl) ?_
                            refine qg (b := !decide (r_124 = r_126)) 117 rfl rfl rfl (by rw [hg_128]; rfl) ?_
                            obtain ⟨r_137, hr_138, hm⟩ := bind_some hm
                            refine qc (v := (.bool r_137)) rfl (fun _ hC => ⟨_, _, r_call2 Try.call20 rfl rfl, (c_credencelaw14_in N (frC 1 col_91) _ a_134 cap_135 e_130 k_77 ((h_136.gr (Grow.of_below (col := col_91) hC.below)).toSlF (Froz.int .i64)) r_137 hr_138).mono fun _ _ h => ⟨h.1, hC.trans (.of_below h.2)⟩⟩) ?_
                            refine qg (b := !decide (r_124 = r_126)) 117 rfl rfl rfl (by rw [hg_128]; rfl) ?_
                            refine qv (v := (.slice a0 p0_parents.length cap0)) rfl (fun _ hC => r_move rfl) ?_
                            refine qg (b := !decide (r_124 = r_126)) 117 rfl rfl rfl (by rw [hg_128]; rfl) ?_
                            refine qv (v := (.int .i64 k_77)) rfl (fun _ hC => r_move rfl) ?_
                            refine qg (b := !decide (r_124 = r_126)) 117 rfl rfl rfl (by rw [hg_128]; rfl) ?_
                            obtain ⟨e_139, hj_140, hm⟩ := bind_some hm
                            refine qv (v := (sptr a0 (Int.toNat k_77 * 1))) rfl (fun _ hC => r_idx Try.underlying22 Try.sizeOf31 rfl rfl (at?_some hj_140).1 (at?_some hj_140).2.1 (h0.addr hj_140)) ?_
                            refine qg (b := !decide (r_124 = r_126)) 117 rfl rfl rfl (by rw [hg_128]; rfl) ?_
                            obtain ⟨_, hr_141, hA_142⟩ := h0.atN hj_140
                            obtain ⟨⟨a_143, cap_144, rfl, h_145⟩, _⟩ := hr_141
                            refine qv (v := (.slice a_143 e_139.length cap_144)) rfl (fun _ hC => r_ld Try.isAgg31 rfl (hA_142.one.gr (Grow.of_below (col := col_91) hC.below))) ?_
                            refine qg (b := !decide (r_124 = r_126)) 117 rfl rfl rfl (by rw [hg_128]; rfl) ?_
                            refine qv (v := (.int .i64 i_44)) rfl (fun _ hC => r_move rfl) ?_
                            refine qg (b := !decide (r_124 = r_126)) 117 rfl rfl rfl (by rw [hg_128]; rfl) ?_
                            obtain ⟨r_146, hr_147, hm⟩ := bind_some hm
                            refine qc (v := (.bool r_146)) rfl (fun _ hC => ⟨_, _, r_call2 Try.call20 rfl rfl, (c_credencelaw14_in N col_91 _ a_143 cap_144 e_139 i_44 (h_145.gr (Grow.of_below (col := col_91) hC.below)) r_146 hr_147).mono fun _ _ h => ⟨h.1, hC.trans (.of_below h.2)⟩⟩) ?_
                            refine qg (b := !decide (r_124 = r_126)) 117 rfl rfl rfl (by rw [hg_128]; rfl) ?_
                            refine qv (v := (.bool (!decide (r_137 = r_146)))) rfl (fun _ hC => r_neqB r_137 r_146 Try.underlying4 rfl rfl) ?_
                            refine qv (v := (.bool (!decide (r_137 = r_146)))) rfl (fun _ hC => r_pickF (congrArg Value.bool hg_128) rfl) ?_
                            refine qnil ?_
                            intro w_148 hC
                            replace hC : Grow col_91 w_88 col_91 w_148 := .of_below hC.below
                            replace h0 := h0.gr hC
                            replace h1 := h1.gr hC
                            replace rh_61 := rh_61.gr hC
                            replace rh_22 := rh_22.gr hC
                            replace rh_30 := rh_30.gr hC
                            replace hst := hst.grow hC
                            exact ⟨col_91, (!decide (r_137 = r_146)), hm, hst, h0, h1, rh_61, rh_22, rh_30, rfl, rfl, rfl, rfl, rfl, rfl, rfl, rfl, rfl, rfl⟩
                    · rw [if_neg (by rw [hb]; decide)] at hm
                      clear hb
                      refine wexit (inB_hit ?_)
                      refine wregion ?_
                      refine lv (v := (.int .i64 i_44)) rfl rfl (r_move rfl) ?_
                      refine lv (v := (.int .i64 (IntKind.i64.wrap (i_44 + 1)))) rfl rfl (r_add i_44 1 rfl rfl) ?_
                      refine lv (v := (.int .i64 (IntKind.i64.wrap (i_44 + 1)))) rfl rfl (r_assign rfl) ?_
                      refine lnil ?_
                      exact ⟨n_40, by omega, ⟨col_76, (IntKind.i64.wrap (n_43 + (e_45.length : Int))), (IntKind.i64.wrap (i_44 + 1)), n_40, rfl, hm, hst, h0, h1, rh_22, rh_30, rfl, rfl, rfl, rfl, rfl, rfl, rfl⟩⟩
              · refine wregion ?_
                refine lv (v := (.int .i64 r_57.2)) rfl rfl (r_move rfl) ?_
                refine lv (v := (.bool (!decide (r_57.2 = 0)))) rfl rfl (r_neq r_57.2 0 rfl rfl) ?_
                refine lv (v := (.bool (!decide (r_57.2 = 0)))) rfl rfl (r_move rfl) ?_
                by_cases hg_149 : (!decide (r_57.2 = 0)) = true
                · rw [if_pos hg_149] at hm
                  refine lp (b := !decide (r_57.2 = 0)) 87 rfl rfl rfl rfl (by rw [hg_149]; rfl) ?_
                  refine lp (b := !decide (r_57.2 = 0)) 87 rfl rfl rfl rfl (by rw [hg_149]; rfl) ?_
                  refine lp (b := !decide (r_57.2 = 0)) 87 rfl rfl rfl rfl (by rw [hg_149]; rfl) ?_
                  refine lp (b := !decide (r_57.2 = 0)) 87 rfl rfl rfl rfl (by rw [hg_149]; rfl) ?_
                  refine lv (v := (.bool true)) rfl rfl (r_pickT (congrArg Value.bool hg_149) rfl) ?_
                  refine lnil ?_
                  exact ⟨col_65, true, hm, hst, h0, h1, rh_61, rh_22, rh_30, rfl, rfl, rfl, rfl, rfl, rfl, rfl, rfl, rfl⟩
                · rw [if_neg hg_149] at hm
                  replace hg_149 := Bool.eq_false_iff.2 hg_149
                  refine lg (b := !decide (r_57.2 = 0)) 87 rfl rfl rfl (by rw [hg_149]; rfl) ?_
                  refine lv (v := (.slice ra_59 r_57.1.length rc_60)) rfl rfl (r_move rfl) ?_
                  refine lg (b := !decide (r_57.2 = 0)) 87 rfl rfl rfl (by rw [hg_149]; rfl) ?_
                  refine lv (v := (.int .i64 i_44)) rfl rfl (r_move rfl) ?_
                  refine lg (b := !decide (r_57.2 = 0)) 87 rfl rfl rfl (by rw [hg_149]; rfl) ?_
                  obtain ⟨r_150, hr_151, hm⟩ := bind_some hm
                  refine lc rfl rfl (r_call2 Try.call20 rfl rfl) (c_credencelaw14_in N (frC 4 col_65) _ ra_59 rc_60 r_57.1 i_44 (rh_61.toSlF (Froz.int .i64)) r_150 hr_151) ?_
                  rintro _ w_152 ⟨rfl, hg_153⟩
                  refine ⟨_, rfl, ?_⟩
                  replace hg_153 : Grow col_65 w_62 col_65 w_152 := .of_below hg_153
                  replace h0 := h0.gr hg_153
                  replace h1 := h1.gr hg_153
                  replace rh_22 := rh_22.gr hg_153
                  replace rh_30 := rh_30.gr hg_153
                  replace rh_61 := rh_61.gr hg_153
                  replace hst := hst.grow hg_153
                  refine lg (b := !decide (r_57.2 = 0)) 87 rfl rfl rfl (by rw [hg_149]; rfl) ?_
                  refine lv (v := (.bool (!r_150))) rfl rfl (r_not r_150 rfl) ?_
                  refine lv (v := (.bool (!r_150))) rfl rfl (r_pickF (congrArg Value.bool hg_149) rfl) ?_
                  refine lnil ?_
                  exact ⟨col_65, (!r_150), hm, hst, h0, h1, rh_61, rh_22, rh_30, rfl, rfl, rfl, rfl, rfl, rfl, rfl, rfl, rfl⟩
            · rw [if_neg (by rw [hb]; decide)] at hm
              clear hb
              refine wexit (inB_hit ?_)
              refine wseq ?_
              refine wregion ?_
              refine lv (v := (.slice a0 p0_parents.length cap0)) rfl rfl (r_move rfl) ?_
              refine lv (v := (.slice a1 p1_points.length cap1)) rfl rfl (r_move rfl) ?_
              obtain ⟨r_154, hr_155, hm⟩ := bind_some hm
              refine lc rfl rfl (r_call2 Try.call24 rfl rfl) (c_dag_Above N 7 col_42 _ a0 cap0 p0_parents a1 cap1 p1_points h0 h1 r_154 hr_155) ?_
              rintro _ w_159 ⟨col_161, ra_156, rc_157, rfl, hg_160, rh_158⟩
              refine ⟨_, rfl, ?_⟩
              replace h0 := h0.gr hg_160
              replace h1 := h1.gr hg_160
              replace rh_30 := rh_30.gr hg_160
              replace hst := hst.grow hg_160
              refine lv (v := (.tuple #[(.slice ra_156 r_154.1.length rc_157), (.int .i64 r_154.2)])) rfl rfl (r_move rfl) ?_
              refine lv (v := (.slice ra_156 r_154.1.length rc_157)) rfl rfl (r_extract rfl rfl) ?_
              refine lv (v := (.int .i64 r_154.2)) rfl rfl (r_extract rfl rfl) ?_
              refine lv (v := (.slice ra_156 r_154.1.length rc_157)) rfl rfl (r_assign rfl) ?_
              refine lv (v := (.int .i64 r_154.2)) rfl rfl (r_assign rfl) ?_
              refine lnil ?_
              refine wseq ?_
              refine wseq ?_
              refine wregion ?_
              refine lv (v := (.int .i64 r_154.2)) rfl rfl (r_move rfl) ?_
              refine lv (v := (.bool (!decide (r_154.2 = 0)))) rfl rfl (r_neq r_154.2 0 rfl rfl) ?_
              refine lnil ?_
              refine wcond (!decide (r_154.2 = 0)) rfl (fun hb => ?_) (fun hb => ?_)
              · rw [if_pos hb] at hm
                clear hb
                refine wseq ?_
                refine Wp.cut (fun f w_163 => ∃ (col_164 : Col) (v_165 : Bool), m_credencelaw14_DagMirror_J5 v_165 = some r ∧ St w0 (col0 col) col_164 w_163 ∧ f 4 = (.bool v_165) ∧ f 1000000 = (enc [])) ?_ ?_
                · intro f w_163 hJ
                  obtain ⟨col_164, v_165, hm, hst, hs4, hs1000000⟩ := hJ
                  rw [m_credencelaw14_DagMirror_J5.eq_1] at hm
                  refine .ld (d := 4) (v := (.bool v_165)) hs4 ?_
                  refine .ld (d := 1000000) (v := (enc [])) hs1000000 ?_
                  clear hs4 hs1000000
                  refine wret ?_
                  cases hm
                  exact ⟨rfl, rfl, hst.below⟩
                · refine wregion ?_
                  refine lv (v := (.int .i64 r_154.2)) rfl rfl (r_move rfl) ?_
                  refine lv (v := (.bool (decide (r_154.2 = 3)))) rfl rfl (r_eql r_154.2 3 rfl rfl) ?_
                  refine lv (v := (.bool (decide (r_154.2 = 3)))) rfl rfl (r_move rfl) ?_
                  by_cases hg_166 : (decide (r_154.2 = 3)) = true
                  · rw [if_pos hg_166] at hm
                    refine lg (b := decide (r_154.2 = 3)) 142 rfl rfl rfl (by rw [hg_166]; rfl) ?_
                    refine lv (v := (.int .i64 n_43)) rfl rfl (r_move rfl) ?_
                    refine lg (b := decide (r_154.2 = 3)) 142 rfl rfl rfl (by rw [hg_166]; rfl) ?_
                    refine lv (v := (.slice ra_28 r_26.1.length rc_29)) rfl rfl (r_move rfl) ?_
                    refine lg (b := decide (r_154.2 = 3)) 142 rfl rfl rfl (by rw [hg_166]; rfl) ?_
                    refine lv (v := (.int .i64 (r_26.1.length : Int))) rfl rfl (r_len Try.underlying24 rfl) ?_
                    refine lg (b := decide (r_154.2 = 3)) 142 rfl rfl rfl (by rw [hg_166]; rfl) ?_
                    refine lv (v := (.bool (decide (n_43 = (r_26.1.length : Int))))) rfl rfl (r_eql n_43 (r_26.1.length : Int) rfl rfl) ?_
                    refine lv (v := (.bool (decide (n_43 = (r_26.1.length : Int))))) rfl rfl (r_pickT (congrArg Value.bool hg_166) rfl) ?_
                    refine lv (v := (.bool (decide (n_43 = (r_26.1.length : Int))))) rfl rfl (r_assign rfl) ?_
                    refine lnil ?_
                    exact ⟨col_161, (decide (n_43 = (r_26.1.length : Int))), hm, hst, rfl, rfl⟩
                  · rw [if_neg hg_166] at hm
                    replace hg_166 := Bool.eq_false_iff.2 hg_166
                    refine lp (b := decide (r_154.2 = 3)) 142 rfl rfl rfl rfl (by rw [hg_166]; rfl) ?_
                    refine lp (b := decide (r_154.2 = 3)) 142 rfl rfl rfl rfl (by rw [hg_166]; rfl) ?_
                    refine lp (b := decide (r_154.2 = 3)) 142 rfl rfl rfl rfl (by rw [hg_166]; rfl) ?_
                    refine lp (b := decide (r_154.2 = 3)) 142 rfl rfl rfl rfl (by rw [hg_166]; rfl) ?_
                    refine lv (v := (.bool false)) rfl rfl (r_pickF (congrArg Value.bool hg_166) rfl) ?_
                    refine lv (v := (.bool false)) rfl rfl (r_assign rfl) ?_
                    refine lnil ?_
                    exact ⟨col_161, false, hm, hst, rfl, rfl⟩
              · rw [if_neg (by rw [hb]; decide)] at hm
                clear hb
                refine wskip ?_
                refine wseq ?_
                refine wseq ?_
                refine wregion ?_
                refine lv (v := (.int .i64 0)) rfl rfl (r_assign rfl) ?_
                refine lnil ?_
                refine wblock ?_
                refine wloop (fun n f w_168 => ∃ (col_169 : Col) (k_170 : Int) (n_167 : Nat), n_167 = n ∧ m_credencelaw14_DagMirror_L3 N p0_parents p1_points r_26 n_43 r_154 n_167 k_170 = some r ∧ St w0 (col0 col) col_169 w_168 ∧ Sl (Rep.slice (Rep.int .i64)) col_169 w_168 a0 cap0 p0_parents ∧ Sl (Rep.int .i64) col_169 w_168 a1 cap1 p1_points ∧ Own (Rep.int .i64) 3 7 col_169 w_168 ra_156 rc_157 r_154.1 ∧ Own (Rep.pair (Rep.int .i64) (Rep.int .i64)) 35 2 col_169 w_168 ra_28 rc_29 r_26.1 ∧ f 0 = (.slice a0 p0_parents.length cap0) ∧ f 1 = (.slice a1 p1_points.length cap1) ∧ f 10 = (.int .i64 n_43) ∧ f 17 = (.slice ra_156 r_154.1.length rc_157) ∧ f 19 = (.int .i64 k_170) ∧ f 8 = (.slice ra_28 r_26.1.length rc_29) ∧ f 1000000 = (enc [])) N ⟨col_161, 0, N, rfl, hm, hst, h0, h1, rh_158, rh_30, rfl, rfl, rfl, rfl, rfl, rfl, rfl⟩ ?_
                clear hm; intro n f w_168 hI
                obtain ⟨col_169, k_170, n_167, hn, hm, hst, h0, h1, rh_158, rh_30, hs0, hs1, hs10, hs17, hs19, hs8, hs1000000⟩ := hI
                subst hn
                refine .ld (d := 0) (v := (.slice a0 p0_parents.length cap0)) hs0 ?_
                refine .ld (d := 1) (v := (.slice a1 p1_points.length cap1)) hs1 ?_
                refine .ld (d := 10) (v := (.int .i64 n_43)) hs10 ?_
                refine .ld (d := 17) (v := (.slice ra_156 r_154.1.length rc_157)) hs17 ?_
                refine .ld (d := 19) (v := (.int .i64 k_170)) hs19 ?_
                refine .ld (d := 8) (v := (.slice ra_28 r_26.1.length rc_29)) hs8 ?_
                refine .ld (d := 1000000) (v := (enc [])) hs1000000 ?_
                clear hs0 hs1 hs10 hs17 hs19 hs8 hs1000000
                cases n_167 with
                | zero => rw [m_credencelaw14_DagMirror_L3.eq_1] at hm; cases hm
                | succ n_167 =>
                  rw [m_credencelaw14_DagMirror_L3.eq_2] at hm
                  refine wseq ?_
                  refine wseq ?_
                  refine wregion ?_
                  refine lv (v := (.int .i64 k_170)) rfl rfl (r_move rfl) ?_
                  refine lv (v := (.slice a0 p0_parents.length cap0)) rfl rfl (r_move rfl) ?_
                  refine lv (v := (.int .i64 (p0_parents.length : Int))) rfl rfl (r_len Try.underlying22 rfl) ?_
                  refine lv (v := (.bool (decide (k_170 < (p0_parents.length : Int))))) rfl rfl (r_lss k_170 (p0_parents.length : Int) rfl rfl) ?_
                  refine lnil ?_
                  refine wcond (decide (k_170 < (p0_parents.length : Int))) rfl (fun hb => ?_) (fun hb => ?_)
                  · rw [if_pos hb] at hm
                    clear hb
                    refine wskip ?_
                    refine wseq ?_
                    refine wblock ?_
                    refine wseq ?_
                    refine wregion ?_
                    refine lv (v := (.bool false)) rfl rfl (r_assign rfl) ?_
                    refine lnil ?_
                    refine wseq ?_
                    refine wseq ?_
                    refine wregion ?_
                    refine lv (v := (.int .i64 0)) rfl rfl (r_assign rfl) ?_
                    refine lnil ?_
                    refine wblock ?_
                    refine wloop (fun n f w_172 => ∃ (col_173 : Col) (some_174 : Bool) (i_175 : Int) (n_171 : Nat), n_171 = n ∧ m_credencelaw14_DagMirror_L4 N p0_parents p1_points r_154 k_170 (m_credencelaw14_DagMirror_L3 N p0_parents p1_points r_26 n_43 r_154 n_167) n_171 some_174 i_175 = some r ∧ St w0 (col0 col) col_173 w_172 ∧ Sl (Rep.slice (Rep.int .i64)) col_173 w_172 a0 cap0 p0_parents ∧ Sl (Rep.int .i64) col_173 w_172 a1 cap1 p1_points ∧ Own (Rep.int .i64) 3 7 col_173 w_172 ra_156 rc_157 r_154.1 ∧ Own (Rep.pair (Rep.int .i64) (Rep.int .i64)) 35 2 col_173 w_172 ra_28 rc_29 r_26.1 ∧ f 0 = (.slice a0 p0_parents.length cap0) ∧ f 1 = (.slice a1 p1_points.length cap1) ∧ f 10 = (.int .i64 n_43) ∧ f 17 = (.slice ra_156 r_154.1.length rc_157) ∧ f 19 = (.int .i64 k_170) ∧ f 20 = (.bool some_174) ∧ f 21 = (.int .i64 i_175) ∧ f 8 = (.slice ra_28 r_26.1.length rc_29) ∧ f 1000000 = (enc [])) N ⟨col_169, false, 0, N, rfl, hm, hst, h0, h1, rh_158, rh_30, rfl, rfl, rfl, rfl, rfl, rfl, rfl, rfl, rfl⟩ ?_
                    clear hm; intro n f w_172 hI
                    obtain ⟨col_173, some_174, i_175, n_171, hn, hm, hst, h0, h1, rh_158, rh_30, hs0, hs1, hs10, hs17, hs19, hs20, hs21, hs8, hs1000000⟩ := hI
                    subst hn
                    refine .ld (d := 0) (v := (.slice a0 p0_parents.length cap0)) hs0 ?_
                    refine .ld (d := 1) (v := (.slice a1 p1_points.length cap1)) hs1 ?_
                    refine .ld (d := 10) (v := (.int .i64 n_43)) hs10 ?_
                    refine .ld (d := 17) (v := (.slice ra_156 r_154.1.length rc_157)) hs17 ?_
                    refine .ld (d := 19) (v := (.int .i64 k_170)) hs19 ?_
                    refine .ld (d := 20) (v := (.bool some_174)) hs20 ?_
                    refine .ld (d := 21) (v := (.int .i64 i_175)) hs21 ?_
                    refine .ld (d := 8) (v := (.slice ra_28 r_26.1.length rc_29)) hs8 ?_
                    refine .ld (d := 1000000) (v := (enc [])) hs1000000 ?_
                    clear hs0 hs1 hs10 hs17 hs19 hs20 hs21 hs8 hs1000000
                    cases n_171 with
                    | zero => rw [m_credencelaw14_DagMirror_L4.eq_1] at hm; cases hm
                    | succ n_171 =>
                      rw [m_credencelaw14_DagMirror_L4.eq_2] at hm
                      refine wseq ?_
                      refine wseq ?_
                      refine wregion ?_
                      refine lv (v := (.int .i64 i_175)) rfl rfl (r_move rfl) ?_
                      refine lv (v := (.slice a1 p1_points.length cap1)) rfl rfl (r_move rfl) ?_
                      refine lv (v := (.int .i64 (p1_points.length : Int))) rfl rfl (r_len Try.underlying31 rfl) ?_
                      refine lv (v := (.bool (decide (i_175 < (p1_points.length : Int))))) rfl rfl (r_lss i_175 (p1_points.length : Int) rfl rfl) ?_
                      refine lnil ?_
                      refine wcond (decide (i_175 < (p1_points.length : Int))) rfl (fun hb => ?_) (fun hb => ?_)
                      · rw [if_pos hb] at hm
                        clear hb
                        refine wskip ?_
                        refine wseq ?_
                        refine Wp.cut (fun f w_176 => ∃ (col_177 : Col) (some_178 : Bool), m_credencelaw14_DagMirror_J6 i_175 (m_credencelaw14_DagMirror_L4 N p0_parents p1_points r_154 k_170 (m_credencelaw14_DagMirror_L3 N p0_parents p1_points r_26 n_43 r_154 n_167) n_171) some_178 = some r ∧ St w0 (col0 col) col_177 w_176 ∧ Sl (Rep.slice (Rep.int .i64)) col_177 w_176 a0 cap0 p0_parents ∧ Sl (Rep.int .i64) col_177 w_176 a1 cap1 p1_points ∧ Own (Rep.int .i64) 3 7 col_177 w_176 ra_156 rc_157 r_154.1 ∧ Own (Rep.pair (Rep.int .i64) (Rep.int .i64)) 35 2 col_177 w_176 ra_28 rc_29 r_26.1 ∧ f 0 = (.slice a0 p0_parents.length cap0) ∧ f 1 = (.slice a1 p1_points.length cap1) ∧ f 10 = (.int .i64 n_43) ∧ f 17 = (.slice ra_156 r_154.1.length rc_157) ∧ f 19 = (.int .i64 k_170) ∧ f 20 = (.bool some_178) ∧ f 21 = (.int .i64 i_175) ∧ f 8 = (.slice ra_28 r_26.1.length rc_29) ∧ f 1000000 = (enc [])) ?_ ?_
                        · intro f w_176 hJ
                          obtain ⟨col_177, some_178, hm, hst, h0, h1, rh_158, rh_30, hs0, hs1, hs10, hs17, hs19, hs20, hs21, hs8, hs1000000⟩ := hJ
                          rw [m_credencelaw14_DagMirror_J6.eq_1] at hm
                          refine .ld (d := 0) (v := (.slice a0 p0_parents.length cap0)) hs0 ?_
                          refine .ld (d := 1) (v := (.slice a1 p1_points.length cap1)) hs1 ?_
                          refine .ld (d := 10) (v := (.int .i64 n_43)) hs10 ?_
                          refine .ld (d := 17) (v := (.slice ra_156 r_154.1.length rc_157)) hs17 ?_
                          refine .ld (d := 19) (v := (.int .i64 k_170)) hs19 ?_
                          refine .ld (d := 20) (v := (.bool some_178)) hs20 ?_
                          refine .ld (d := 21) (v := (.int .i64 i_175)) hs21 ?_
                          refine .ld (d := 8) (v := (.slice ra_28 r_26.1.length rc_29)) hs8 ?_
                          refine .ld (d := 1000000) (v := (enc [])) hs1000000 ?_
                          clear hs0 hs1 hs10 hs17 hs19 hs20 hs21 hs8 hs1000000
                          refine wregion ?_
                          refine lv (v := (.int .i64 i_175)) rfl rfl (r_move rfl) ?_
                          refine lv (v := (.int .i64 (IntKind.i64.wrap (i_175 + 1)))) rfl rfl (r_add i_175 1 rfl rfl) ?_
                          refine lv (v := (.int .i64 (IntKind.i64.wrap (i_175 + 1)))) rfl rfl (r_assign rfl) ?_
                          refine lnil ?_
                          exact ⟨n_171, by omega, ⟨col_177, some_178, (IntKind.i64.wrap (i_175 + 1)), n_171, rfl, hm, hst, h0, h1, rh_158, rh_30, rfl, rfl, rfl, rfl, rfl, rfl, rfl, rfl, rfl⟩⟩
                        · refine wblock ?_
                          refine wseq ?_
                          refine wregion ?_
                          refine lv (v := (.slice a0 p0_parents.length cap0)) rfl rfl (r_move rfl) ?_
                          refine lv (v := (.slice a1 p1_points.length cap1)) rfl rfl (r_move rfl) ?_
                          refine lv (v := (.int .i64 i_175)) rfl rfl (r_move rfl) ?_
                          obtain ⟨e_179, hj_180, hm⟩ := bind_some hm
                          refine lv (v := (sptr a1 (Int.toNat i_175 * 1))) rfl rfl (r_idx Try.underlying31 Try.sizeOf3 rfl rfl (at?_some hj_180).1 (at?_some hj_180).2.1 (h1.addr hj_180)) ?_
                          refine lv (v := (.int .i64 e_179)) rfl rfl (r_ld Try.isAgg3 rfl (h1.atInt hj_180)) ?_
                          refine l_lit (col := col_173) (r := (Rep.int .i64)) (xs := [e_179]) [(.int .i64 e_179)] 8 rfl Try.underlying31 el3_7 rfl rfl rfl rfl rfl rfl (by intro v hv; simp only [List.mem_cons, List.not_mem_nil, or_false] at hv; subst hv; rfl) (RowsH.ofF (Rows.consF (r := (Rep.int .i64)) (x := e_179) (cs := [(.int .i64 e_179)]) (rd_int .i64 e_179) Rows.nil0)) ?_
                          intro a_181 w_182 col_183 hg_184 h_185
                          replace h0 := h0.gr hg_184
                          replace h1 := h1.gr hg_184
                          replace rh_158 := rh_158.gr hg_184
                          replace rh_30 := rh_30.gr hg_184
                          replace hst := hst.grow hg_184
                          obtain ⟨r_186, hr_187, hm⟩ := bind_some hm
                          refine lc rfl rfl (r_call2 Try.call24 rfl rfl) (c_dag_Above N 9 (frC 8 col_183) _ a0 cap0 p0_parents a_181 1 [e_179] (h0.froz 8) (h_185.toSlF (Froz.int .i64)) r_186 hr_187) ?_
                          rintro _ w_191 ⟨col_193, ra_188, rc_189, rfl, hg_192, rh_190⟩
                          refine ⟨_, rfl, ?_⟩
                          replace rh_190 := rh_190.thaw (flat_int .i64) hg_192 ((Fz.refl (col := col_183)).froz 8) (by decide)
                          replace hg_192 := hg_192.thawR (col := col_183)
                          generalize colR w_182.heap.size col_183 col_193 = col_194 at *
                          replace h0 := h0.gr hg_192
                          replace h1 := h1.gr hg_192
                          replace rh_158 := rh_158.gr hg_192
                          replace rh_30 := rh_30.gr hg_192
                          replace h_185 := h_185.gr hg_192
                          replace hst := hst.grow hg_192
                          refine lv (v := (.tuple #[(.slice ra_188 r_186.1.length rc_189), (.int .i64 r_186.2)])) rfl rfl (r_move rfl) ?_
                          refine lv (v := (.slice ra_188 r_186.1.length rc_189)) rfl rfl (r_extract rfl rfl) ?_
                          refine lv (v := (.int .i64 r_186.2)) rfl rfl (r_extract rfl rfl) ?_
                          refine lv (v := (.slice ra_188 r_186.1.length rc_189)) rfl rfl (r_assign rfl) ?_
                          refine lv (v := (.int .i64 r_186.2)) rfl rfl (r_assign rfl) ?_
                          refine lnil ?_
                          refine wregion ?_
                          refine lv (v := (.bool some_174)) rfl rfl (r_move rfl) ?_
                          refine lv (v := (.bool some_174)) rfl rfl (r_move rfl) ?_
                          by_cases hg_195 : some_174 = true
                          · rw [if_pos hg_195] at hm
                            refine lp (b := some_174) 171 rfl rfl rfl rfl (by rw [hg_195]; rfl) ?_
                            refine lp (b := some_174) 171 rfl rfl rfl rfl (by rw [hg_195]; rfl) ?_
                            refine lp (b := some_174) 171 rfl rfl rfl rfl (by rw [hg_195]; rfl) ?_
                            refine lv (v := (.bool true)) rfl rfl (r_pickT (congrArg Value.bool hg_195) rfl) ?_
                            refine lv (v := (.bool true)) rfl rfl (r_assign rfl) ?_
                            refine lnil ?_
                            exact ⟨col_194, true, hm, hst, h0, h1, rh_158, rh_30, rfl, rfl, rfl, rfl, rfl, rfl, rfl, rfl, rfl⟩
                          · rw [if_neg hg_195] at hm
                            replace hg_195 := Bool.eq_false_iff.2 hg_195
                            refine lg (b := some_174) 171 rfl rfl rfl (by rw [hg_195]; rfl) ?_
                            refine lv (v := (.slice ra_188 r_186.1.length rc_189)) rfl rfl (r_move rfl) ?_
                            refine lg (b := some_174) 171 rfl rfl rfl (by rw [hg_195]; rfl) ?_
                            refine lv (v := (.int .i64 k_170)) rfl rfl (r_move rfl) ?_
                            refine lg (b := some_174) 171 rfl rfl rfl (by rw [hg_195]; rfl) ?_
                            obtain ⟨r_196, hr_197, hm⟩ := bind_some hm
                            refine lc rfl rfl (r_call2 Try.call20 rfl rfl) (c_credencelaw14_in N (frC 9 col_194) _ ra_188 rc_189 r_186.1 k_170 (rh_190.toSlF (Froz.int .i64)) r_196 hr_197) ?_
                            rintro _ w_198 ⟨rfl, hg_199⟩
                            refine ⟨_, rfl, ?_⟩
                            replace hg_199 : Grow col_194 w_191 col_194 w_198 := .of_below hg_199
                            replace h0 := h0.gr hg_199
                            replace h1 := h1.gr hg_199
                            replace rh_158 := rh_158.gr hg_199
                            replace rh_30 := rh_30.gr hg_199
                            replace rh_190 := rh_190.gr hg_199
                            replace hst := hst.grow hg_199
                            refine lv (v := (.bool r_196)) rfl rfl (r_pickF (congrArg Value.bool hg_195) rfl) ?_
                            refine lv (v := (.bool r_196)) rfl rfl (r_assign rfl) ?_
                            refine lnil ?_
                            exact ⟨col_194, r_196, hm, hst, h0, h1, rh_158, rh_30, rfl, rfl, rfl, rfl, rfl, rfl, rfl, rfl, rfl⟩
                      · rw [if_neg (by rw [hb]; decide)] at hm
                        clear hb
                        refine wexit (inB_hit ?_)
                        refine wseq ?_
                        refine wregion ?_
                        refine lv (v := (.bool some_174)) rfl rfl (r_move rfl) ?_
                        refine lv (v := (.slice ra_156 r_154.1.length rc_157)) rfl rfl (r_move rfl) ?_
                        refine lv (v := (.int .i64 k_170)) rfl rfl (r_move rfl) ?_
                        obtain ⟨r_200, hr_201, hm⟩ := bind_some hm
                        refine lc rfl rfl (r_call2 Try.call20 rfl rfl) (c_credencelaw14_in N (frC 7 col_173) _ ra_156 rc_157 r_154.1 k_170 (rh_158.toSlF (Froz.int .i64)) r_200 hr_201) ?_
                        rintro _ w_202 ⟨rfl, hg_203⟩
                        refine ⟨_, rfl, ?_⟩
                        replace hg_203 : Grow col_173 w_172 col_173 w_202 := .of_below hg_203
                        replace h0 := h0.gr hg_203
                        replace h1 := h1.gr hg_203
                        replace rh_158 := rh_158.gr hg_203
                        replace rh_30 := rh_30.gr hg_203
                        replace hst := hst.grow hg_203
                        refine lv (v := (.bool (!decide (some_174 = r_200)))) rfl rfl (r_neqB some_174 r_200 Try.underlying4 rfl rfl) ?_
                        refine lnil ?_
                        refine wcond (!decide (some_174 = r_200)) rfl (fun hb => ?_) (fun hb => ?_)
                        · rw [if_pos hb] at hm
                          clear hb
                          refine wseq ?_
                          refine wregion ?_
                          refine lv (v := (.bool false)) rfl rfl (r_assign rfl) ?_
                          refine lnil ?_
                          refine wret ?_
                          cases hm
                          exact ⟨rfl, rfl, hst.below⟩
                        · rw [if_neg (by rw [hb]; decide)] at hm
                          clear hb
                          refine wskip ?_
                          refine wregion ?_
                          refine lv (v := (.int .i64 k_170)) rfl rfl (r_move rfl) ?_
                          refine lv (v := (.int .i64 (IntKind.i64.wrap (k_170 + 1)))) rfl rfl (r_add k_170 1 rfl rfl) ?_
                          refine lv (v := (.int .i64 (IntKind.i64.wrap (k_170 + 1)))) rfl rfl (r_assign rfl) ?_
                          refine lnil ?_
                          exact ⟨n_167, by omega, ⟨col_173, (IntKind.i64.wrap (k_170 + 1)), n_167, rfl, hm, hst, h0, h1, rh_158, rh_30, rfl, rfl, rfl, rfl, rfl, rfl, rfl⟩⟩
                  · rw [if_neg (by rw [hb]; decide)] at hm
                    clear hb
                    refine wexit (inB_hit ?_)
                    refine wseq ?_
                    refine wregion ?_
                    refine lv (v := (.int .i64 n_43)) rfl rfl (r_move rfl) ?_
                    refine lv (v := (.slice ra_28 r_26.1.length rc_29)) rfl rfl (r_move rfl) ?_
                    refine lv (v := (.int .i64 (r_26.1.length : Int))) rfl rfl (r_len Try.underlying24 rfl) ?_
                    refine lv (v := (.bool (decide (n_43 = (r_26.1.length : Int))))) rfl rfl (r_eql n_43 (r_26.1.length : Int) rfl rfl) ?_
                    refine lv (v := (.bool (decide (n_43 = (r_26.1.length : Int))))) rfl rfl (r_assign rfl) ?_
                    refine lnil ?_
                    refine wret ?_
                    cases hm
                    exact ⟨rfl, rfl, hst.below⟩
      · refine wregion ?_
        refine lv (v := (.bool r_1)) rfl rfl (r_move rfl) ?_
        refine lv (v := (.bool (!r_1))) rfl rfl (r_not r_1 rfl) ?_
        refine lv (v := (.bool (!r_1))) rfl rfl (r_move rfl) ?_
        by_cases hg_204 : (!r_1) = true
        · rw [if_pos hg_204] at hm
          refine lp (b := !r_1) 50 rfl rfl rfl rfl (by rw [hg_204]; rfl) ?_
          refine lp (b := !r_1) 50 rfl rfl rfl rfl (by rw [hg_204]; rfl) ?_
          refine lv (v := (.bool true)) rfl rfl (r_pickT (congrArg Value.bool hg_204) rfl) ?_
          refine lv (v := (.bool true)) rfl rfl (r_move rfl) ?_
          refine lp (b := true) 54 rfl rfl rfl rfl rfl ?_
          refine lp (b := true) 54 rfl rfl rfl rfl rfl ?_
          refine lv (v := (.bool true)) rfl rfl (r_pickT rfl rfl) ?_
          refine lv (v := (.bool true)) rfl rfl (r_move rfl) ?_
          refine lp (b := true) 58 rfl rfl rfl rfl rfl ?_
          refine lp (b := true) 58 rfl rfl rfl rfl rfl ?_
          refine lp (b := true) 58 rfl rfl rfl rfl rfl ?_
          refine lp (b := true) 58 rfl rfl rfl rfl rfl ?_
          refine lp (b := true) 58 rfl rfl rfl rfl rfl ?_
          refine lv (v := (.bool true)) rfl rfl (r_pickT rfl rfl) ?_
          refine lnil ?_
          exact ⟨col_33, true, hm, hst, h0, h1, rh_22, rh_30, rfl, rfl, rfl, rfl, rfl, rfl⟩
        · rw [if_neg hg_204] at hm
          replace hg_204 := Bool.eq_false_iff.2 hg_204
          refine lg (b := !r_1) 50 rfl rfl rfl (by rw [hg_204]; rfl) ?_
          refine lv (v := (.int .i64 r_18.2)) rfl rfl (r_move rfl) ?_
          refine lg (b := !r_1) 50 rfl rfl rfl (by rw [hg_204]; rfl) ?_
          refine lv (v := (.bool (!decide (r_18.2 = 0)))) rfl rfl (r_neq r_18.2 0 rfl rfl) ?_
          refine lv (v := (.bool (!decide (r_18.2 = 0)))) rfl rfl (r_pickF (congrArg Value.bool hg_204) rfl) ?_
          refine lv (v := (.bool (!decide (r_18.2 = 0)))) rfl rfl (r_move rfl) ?_
          by_cases hg_205 : (!decide (r_18.2 = 0)) = true
          · rw [if_pos hg_205] at hm
            refine lp (b := !decide (r_18.2 = 0)) 54 rfl rfl rfl rfl (by rw [hg_205]; rfl) ?_
            refine lp (b := !decide (r_18.2 = 0)) 54 rfl rfl rfl rfl (by rw [hg_205]; rfl) ?_
            refine lv (v := (.bool true)) rfl rfl (r_pickT (congrArg Value.bool hg_205) rfl) ?_
            refine lv (v := (.bool true)) rfl rfl (r_move rfl) ?_
            refine lp (b := true) 58 rfl rfl rfl rfl rfl ?_
            refine lp (b := true) 58 rfl rfl rfl rfl rfl ?_
            refine lp (b := true) 58 rfl rfl rfl rfl rfl ?_
            refine lp (b := true) 58 rfl rfl rfl rfl rfl ?_
            refine lp (b := true) 58 rfl rfl rfl rfl rfl ?_
            refine lv (v := (.bool true)) rfl rfl (r_pickT rfl rfl) ?_
            refine lnil ?_
            exact ⟨col_33, true, hm, hst, h0, h1, rh_22, rh_30, rfl, rfl, rfl, rfl, rfl, rfl⟩
          · rw [if_neg hg_205] at hm
            replace hg_205 := Bool.eq_false_iff.2 hg_205
            refine lg (b := !decide (r_18.2 = 0)) 54 rfl rfl rfl (by rw [hg_205]; rfl) ?_
            refine lv (v := (.int .i64 r_26.2)) rfl rfl (r_move rfl) ?_
            refine lg (b := !decide (r_18.2 = 0)) 54 rfl rfl rfl (by rw [hg_205]; rfl) ?_
            refine lv (v := (.bool (!decide (r_26.2 = 0)))) rfl rfl (r_neq r_26.2 0 rfl rfl) ?_
            refine lv (v := (.bool (!decide (r_26.2 = 0)))) rfl rfl (r_pickF (congrArg Value.bool hg_205) rfl) ?_
            refine lv (v := (.bool (!decide (r_26.2 = 0)))) rfl rfl (r_move rfl) ?_
            by_cases hg_206 : (!decide (r_26.2 = 0)) = true
            · rw [if_pos hg_206] at hm
              refine lp (b := !decide (r_26.2 = 0)) 58 rfl rfl rfl rfl (by rw [hg_206]; rfl) ?_
              refine lp (b := !decide (r_26.2 = 0)) 58 rfl rfl rfl rfl (by rw [hg_206]; rfl) ?_
              refine lp (b := !decide (r_26.2 = 0)) 58 rfl rfl rfl rfl (by rw [hg_206]; rfl) ?_
              refine lp (b := !decide (r_26.2 = 0)) 58 rfl rfl rfl rfl (by rw [hg_206]; rfl) ?_
              refine lp (b := !decide (r_26.2 = 0)) 58 rfl rfl rfl rfl (by rw [hg_206]; rfl) ?_
              refine lv (v := (.bool true)) rfl rfl (r_pickT (congrArg Value.bool hg_206) rfl) ?_
              refine lnil ?_
              exact ⟨col_33, true, hm, hst, h0, h1, rh_22, rh_30, rfl, rfl, rfl, rfl, rfl, rfl⟩
            · rw [if_neg hg_206] at hm
              replace hg_206 := Bool.eq_false_iff.2 hg_206
              refine lg (b := !decide (r_26.2 = 0)) 58 rfl rfl rfl (by rw [hg_206]; rfl) ?_
              refine lv (v := (.slice ra_20 r_18.1.length rc_21)) rfl rfl (r_move rfl) ?_
              refine lg (b := !decide (r_26.2 = 0)) 58 rfl rfl rfl (by rw [hg_206]; rfl) ?_
              refine lv (v := (.int .i64 (r_18.1.length : Int))) rfl rfl (r_len Try.underlying22 rfl) ?_
              refine lg (b := !decide (r_26.2 = 0)) 58 rfl rfl rfl (by rw [hg_206]; rfl) ?_
              refine lv (v := (.slice a0 p0_parents.length cap0)) rfl rfl (r_move rfl) ?_
              refine lg (b := !decide (r_26.2 = 0)) 58 rfl rfl rfl (by rw [hg_206]; rfl) ?_
              refine lv (v := (.int .i64 (p0_parents.length : Int))) rfl rfl (r_len Try.underlying22 rfl) ?_
              refine lg (b := !decide (r_26.2 = 0)) 58 rfl rfl rfl (by rw [hg_206]; rfl) ?_
              refine lv (v := (.bool (!decide ((r_18.1.length : Int) = (p0_parents.length : Int))))) rfl rfl (r_neq (r_18.1.length : Int) (p0_parents.length : Int) rfl rfl) ?_
              refine lv (v := (.bool (!decide ((r_18.1.length : Int) = (p0_parents.length : Int))))) rfl rfl (r_pickF (congrArg Value.bool hg_206) rfl) ?_
              refine lnil ?_
              exact ⟨col_33, (!decide ((r_18.1.length : Int) = (p0_parents.length : Int))), hm, hst, h0, h1, rh_22, rh_30, rfl, rfl, rfl, rfl, rfl, rfl⟩
  · refine wregion ?_
    refine lv (v := (.slice a0 p0_parents.length cap0)) rfl rfl (r_move rfl) ?_
    obtain ⟨r_207, hr_208, hm⟩ := bind_some hm
    refine lc rfl rfl (r_call1 Try.call8 rfl) (c_credencelaw14_many N (col0 col) _ a0 cap0 p0_parents h0 r_207 hr_208) ?_
    rintro _ w_209 ⟨rfl, hg_210⟩
    refine ⟨_, rfl, ?_⟩
    replace hg_210 : Grow (col0 col) w_3 (col0 col) w_209 := .of_below hg_210
    replace h0 := h0.gr hg_210
    replace h1 := h1.gr hg_210
    replace hst := hst.grow hg_210
    refine lv (v := (.bool r_207)) rfl rfl (r_move rfl) ?_
    by_cases hg_211 : r_207 = true
    · rw [if_pos hg_211] at hm
      refine lp (b := r_207) 27 rfl rfl rfl rfl (by rw [hg_211]; rfl) ?_
      refine lp (b := r_207) 27 rfl rfl rfl rfl (by rw [hg_211]; rfl) ?_
      refine lp (b := r_207) 27 rfl rfl rfl rfl (by rw [hg_211]; rfl) ?_
      refine lv (v := (.bool true)) rfl rfl (r_pickT (congrArg Value.bool hg_211) rfl) ?_
      refine lv (v := (.bool true)) rfl rfl (r_move rfl) ?_
      refine lp (b := true) 32 rfl rfl rfl rfl rfl ?_
      refine lp (b := true) 32 rfl rfl rfl rfl rfl ?_
      refine lp (b := true) 32 rfl rfl rfl rfl rfl ?_
      refine lv (v := (.bool true)) rfl rfl (r_pickT rfl rfl) ?_
      refine lnil ?_
      exact ⟨(col0 col), true, hm, hst, h0, h1, rfl, rfl, rfl, rfl, rfl⟩
    · rw [if_neg hg_211] at hm
      replace hg_211 := Bool.eq_false_iff.2 hg_211
      refine lg (b := r_207) 27 rfl rfl rfl (by rw [hg_211]; rfl) ?_
      refine lv (v := (.slice a0 p0_parents.length cap0)) rfl rfl (r_move rfl) ?_
      refine lg (b := r_207) 27 rfl rfl rfl (by rw [hg_211]; rfl) ?_
      refine lv (v := (.int .i64 (p0_parents.length : Int))) rfl rfl (r_len Try.underlying22 rfl) ?_
      refine lg (b := r_207) 27 rfl rfl rfl (by rw [hg_211]; rfl) ?_
      refine lv (v := (.bool (decide (40 < (p0_parents.length : Int))))) rfl rfl (r_gtr (p0_parents.length : Int) 40 rfl rfl) ?_
      refine lv (v := (.bool (decide (40 < (p0_parents.length : Int))))) rfl rfl (r_pickF (congrArg Value.bool hg_211) rfl) ?_
      refine lv (v := (.bool (decide (40 < (p0_parents.length : Int))))) rfl rfl (r_move rfl) ?_
      by_cases hg_212 : (decide (40 < (p0_parents.length : Int))) = true
      · rw [if_pos hg_212] at hm
        refine lp (b := decide (40 < (p0_parents.length : Int))) 32 rfl rfl rfl rfl (by rw [hg_212]; rfl) ?_
        refine lp (b := decide (40 < (p0_parents.length : Int))) 32 rfl rfl rfl rfl (by rw [hg_212]; rfl) ?_
        refine lp (b := decide (40 < (p0_parents.length : Int))) 32 rfl rfl rfl rfl (by rw [hg_212]; rfl) ?_
        refine lv (v := (.bool true)) rfl rfl (r_pickT (congrArg Value.bool hg_212) rfl) ?_
        refine lnil ?_
        exact ⟨(col0 col), true, hm, hst, h0, h1, rfl, rfl, rfl, rfl, rfl⟩
      · rw [if_neg hg_212] at hm
        replace hg_212 := Bool.eq_false_iff.2 hg_212
        refine lg (b := decide (40 < (p0_parents.length : Int))) 32 rfl rfl rfl (by rw [hg_212]; rfl) ?_
        refine lv (v := (.slice a0 p0_parents.length cap0)) rfl rfl (r_move rfl) ?_
        refine lg (b := decide (40 < (p0_parents.length : Int))) 32 rfl rfl rfl (by rw [hg_212]; rfl) ?_
        obtain ⟨r_213, hr_214, hm⟩ := bind_some hm
        refine lc rfl rfl (r_call1 Try.call18 rfl) (c_dag_Check N (col0 col) _ a0 cap0 p0_parents h0 r_213 hr_214) ?_
        rintro _ w_215 ⟨rfl, hg_216⟩
        refine ⟨_, rfl, ?_⟩
        replace hg_216 : Grow (col0 col) w_209 (col0 col) w_215 := .of_below hg_216
        replace h0 := h0.gr hg_216
        replace h1 := h1.gr hg_216
        replace hst := hst.grow hg_216
        refine lg (b := decide (40 < (p0_parents.length : Int))) 32 rfl rfl rfl (by rw [hg_212]; rfl) ?_
        refine lv (v := (.bool (!decide (r_213 = 0)))) rfl rfl (r_neq r_213 0 rfl rfl) ?_
        refine lv (v := (.bool (!decide (r_213 = 0)))) rfl rfl (r_pickF (congrArg Value.bool hg_212) rfl) ?_
        refine lnil ?_
        exact ⟨(col0 col), (!decide (r_213 = 0)), hm, hst, h0, h1, rfl, rfl, rfl, rfl, rfl⟩



theorem in_L1 (N : Nat) (l : List Int) (x : Int) (hl : l.length ≤ 1048576) : ∀ (n k : Nat), l.length < n + k → k ≤ l.length → m_credencelaw14_in_L1 N l x n (k : Int) = some (decide (x ∈ l.drop k))
  | 0, k, h, hk => by omega
  | n + 1, k, h, hk => by
    rw [m_credencelaw14_in_L1.eq_2]
    by_cases hlt : k < l.length
    · rw [if_pos (by simpa using hlt), at?_lt hlt, Option.bind_some, wS (by omega), in_L1 N l x hl n (k + 1) (by omega) (by omega), List.drop_eq_getElem_cons hlt]
      by_cases he : l[k] = x
      · rw [if_pos (by simpa using he), decide_eq_true (by rw [he]; exact List.mem_cons_self)]
      · rw [if_neg (by simpa using he)]
        exact congrArg some (decide_eq_decide.2 ⟨fun h => List.mem_cons_of_mem _ h, fun h => (List.mem_cons.1 h).resolve_left (Ne.symm he)⟩)
    · rw [if_neg (by simpa using hlt), List.drop_eq_nil_of_le (by omega)]; simp
theorem in_eq {N : Nat} {l : List Int} {x : Int} (hl : l.length ≤ 1048576) (hN : 1048576 < N) : m_credencelaw14_in N l x = some (decide (x ∈ l)) := by
  rw [m_credencelaw14_in]; simpa using in_L1 N l x hl N 0 (by omega) (by omega)

/-- What the law's calls answer where the parents may be. -/
structure Good (N : Nat) (P D : List (List Int)) : Prop where
  sml : Sml P
  ir : ∀ l ∈ P, InR P.length l
  chk : m_dag_Check N P = some 0
  kids : m_dag_children P = some D
  klen : D.length = P.length
  kid : ∀ p : Nat, p < P.length → D.getD p [] = kidsL 0 P p
theorem good {N : Nat} {P : List (List Int)} (h : Sml P) (hN : 2000000 < N) (hc : m_dag_Check N P = some 0) : ∃ D, Good N P D := by
  have hn := h.n
  have ht := h.t
  have hI : insideB P.length P = true := by
    rw [m_dag_Check] at hc
    rcases says h hN with ⟨e, D, R, hne⟩ | ⟨I, _⟩ | ⟨I, _⟩
    · rw [D] at hc
      have : e = 0 := by simpa using hc
      omega
    · exact I
    · exact I
  obtain ⟨D, h4, h5, h6⟩ := children_eq (P := P) (by omega) (by omega) (inside_InR hI)
  exact ⟨D, h, inside_InR hI, hc, h4, h5, h6⟩
namespace Good
variable {N : Nat} {P D : List (List Int)} (g : Good N P D) (hN : 2000000 < N)
include g
theorem kid_mem (p c : Nat) (hp : p < P.length) : (c : Int) ∈ D.getD p [] ↔ (p : Int) ∈ P.getD c [] := by
  rw [g.kid p hp, ← List.count_pos_iff, kids_count (p : Int) 0 P c, if_pos (Nat.zero_le _), Nat.sub_zero, List.count_pos_iff]
theorem kid_ir : ∀ l ∈ D, InR P.length l := by
  intro l hl x hx
  obtain ⟨p, hp, rfl⟩ := List.getElem_of_mem hl
  have hp' : p < P.length := by have := g.klen; omega
  rw [← lgetD_lt (d := []) hp, g.kid p hp'] at hx
  obtain ⟨c, h1, _, h2⟩ := kids_mem (p : Int) 0 P x hx
  omega
include hN
theorem above (pts : List Int) (h : InR P.length pts) : ∃ r, m_dag_Above N P pts = some (isort r, 0) ∧ r.length ≤ P.length ∧ ∀ x, x ∈ r ↔ ∃ p ∈ pts, Reach P p x := by
  obtain ⟨r, h1, h2, h3, h4⟩ := (reach_eq (N := N) (W := P) rfl g.sml.n g.ir hN pts).1 h
  exact ⟨r, by rw [m_dag_Above, g.chk, Option.bind_some, if_neg (by decide), h1]; rfl, h3.len h2, h4⟩
theorem above_err (pts : List Int) (h : ¬ InR P.length pts) : m_dag_Above N P pts = some ([], 3) := by
  rw [m_dag_Above, g.chk, Option.bind_some, if_neg (by decide), (reach_eq (N := N) (W := P) rfl g.sml.n g.ir hN pts).2 h]; rfl
theorem below (pts : List Int) (h : InR P.length pts) : ∃ r, m_dag_Below N P pts = some (isort r, 0) ∧ r.length ≤ P.length ∧ ∀ x, x ∈ r ↔ ∃ p ∈ pts, Reach D p x := by
  obtain ⟨r, h1, h2, h3, h4⟩ := (reach_eq (N := N) (W := D) g.klen g.sml.n g.kid_ir hN pts).1 h
  exact ⟨r, by rw [m_dag_Below, g.chk, Option.bind_some, if_neg (by decide), g.kids, Option.bind_some, h1]; rfl, h3.len h2, h4⟩
omit hN
theorem way_ir (x y : Int) (h : y ∈ way P x) : 0 ≤ y ∧ y < (P.length : Int) := by
  unfold way at h
  by_cases hx : x.toNat < P.length
  · rw [lgetD_lt hx] at h; exact g.ir _ (List.getElem_mem hx) y h
  · rw [List.getD_eq_getElem?_getD, List.getElem?_eq_none (by omega)] at h; simp at h
theorem way_irD (x y : Int) (h : y ∈ way D x) : 0 ≤ y ∧ y < (P.length : Int) := by
  unfold way at h
  have hk := g.klen
  by_cases hx : x.toNat < D.length
  · rw [lgetD_lt hx] at h; exact g.kid_ir _ (List.getElem_mem hx) y h
  · rw [List.getD_eq_getElem?_getD, List.getElem?_eq_none (by omega)] at h; simp at h
theorem turn (x y : Int) (hx : 0 ≤ x ∧ x < (P.length : Int)) (hy : 0 ≤ y ∧ y < (P.length : Int)) : y ∈ way P x ↔ x ∈ way D y := by
  have := g.kid_mem y.toNat x.toNat (by omega)
  rw [show ((x.toNat : Nat) : Int) = x by omega, show ((y.toNat : Nat) : Int) = y by omega] at this
  exact this.symm
theorem mirror (x y : Int) (hx : 0 ≤ x ∧ x < (P.length : Int)) (hy : 0 ≤ y ∧ y < (P.length : Int)) : Reach P x y ↔ Reach D y x := by
  constructor
  · intro h
    have : ∀ z, Reach P x z → (0 ≤ z ∧ z < (P.length : Int)) ∧ Reach D z x := fun z hz => by
      induction hz with
      | refl => exact ⟨hx, .refl⟩
      | step _ hz ih =>
        have h1 := g.way_ir _ _ hz
        exact ⟨h1, (Reach.step .refl ((g.turn _ _ ih.1 h1).1 hz)).trans ih.2⟩
    exact (this y h).2
  · intro h
    have : ∀ z, Reach D y z → (0 ≤ z ∧ z < (P.length : Int)) ∧ Reach P z y := fun z hz => by
      induction hz with
      | refl => exact ⟨hy, .refl⟩
      | step _ hz ih =>
        have h1 := g.way_irD _ _ hz
        exact ⟨h1, (Reach.step .refl ((g.turn _ _ h1 ih.1).2 hz)).trans ih.2⟩
    exact (this x h).2
end Good
theorem isort_mem (x : Int) (l : List Int) : x ∈ isort l ↔ x ∈ l := (isort_perm l).mem_iff
theorem isort_len (l : List Int) : (isort l).length = l.length := (isort_perm l).length_eq
theorem inR_one {n k : Nat} (h : k < n) : InR n [(k : Int)] := fun x hx => by rw [List.mem_singleton] at hx; omega

section
variable {N : Nat} {P D : List (List Int)} (g : Good N P D) (hN : 2000000 < N)
include g hN
theorem DM_L2 (i : Nat) (hi : i < P.length) (a : List Int) (hal : a.length ≤ P.length) (ha : ∀ x, x ∈ a ↔ Reach P i x) (e0 : Int) (n0 : Nat) (hn0 : n0 + P[i].length ≤ 9000000) (kk : Int → Int → Option Bool) : ∀ (n k : Nat), P.length < n + k → k ≤ P.length →
    m_credencelaw14_DagMirror_L2 N P (D, e0) (n0 : Int) (i : Int) kk P[i] (isort a, 0) n (k : Int) = kk ((n0 + P[i].length : Nat) : Int) ((i + 1 : Nat) : Int)
  | 0, k, hn, hk => by omega
  | n + 1, k, hn, hk => by
    have hPn := g.sml.n
    rw [m_credencelaw14_DagMirror_L2.eq_2]
    by_cases hlt : k < P.length
    · obtain ⟨b, h1, h2, h3⟩ := g.below hN [(k : Int)] (inR_one hlt)
      have hkd : k < D.length := by have := g.klen; omega
      have hid : i < D.length := by have := g.klen; omega
      have hdl : (D.getD i []).length ≤ 1000000 := by
        rw [g.kid i hi]
        exact Nat.le_trans (kidsL_length_le (i : Int) 0 P) g.sml.t
      have e1 : decide ((k : Int) ∈ isort a) = decide ((i : Int) ∈ isort b) := decide_eq_decide.2 (by
        rw [isort_mem, isort_mem, ha, h3, g.mirror _ _ (by omega) (by omega)]
        exact ⟨fun h => ⟨k, by simp, h⟩, fun ⟨p, hp, h⟩ => by rw [List.mem_singleton] at hp; rw [← hp]; exact h⟩)
      have e2 : decide ((k : Int) ∈ D.getD i []) = decide ((i : Int) ∈ P.getD k []) := decide_eq_decide.2 (g.kid_mem i k hi)
      have hls := g.sml.ls _ (List.getElem_mem hlt)
      rw [if_pos (by simpa using hlt), h1, Option.bind_some, if_neg (by simp), in_eq (by rw [isort_len]; omega) (by omega), Option.bind_some, in_eq (by rw [isort_len]; omega) (by omega), Option.bind_some, e1, if_neg (by simp)]
      rw [at?_getD [] hid, Option.bind_some, in_eq (by omega) (by omega), Option.bind_some, at?_getD [] hlt, Option.bind_some, in_eq (by rw [lgetD_lt hlt]; omega) (by omega), Option.bind_some, e2, m_credencelaw14_DagMirror_J4, if_neg (by simp), wS (by omega)]
      exact DM_L2 i hi a hal ha e0 n0 hn0 kk n (k + 1) (by omega) (by omega)
    · rw [if_neg (by simpa using hlt), wS (by omega), w64 (by omega), show ((n0 : Int) + (P[i].length : Int)) = ((n0 + P[i].length : Nat) : Int) by omega]
theorem DM_L4 (pts : List Int) (hpt : InR P.length pts) (hpl : pts.length ≤ 1048576) (r : List Int) (hrl : r.length ≤ P.length) (hr : ∀ x, x ∈ r ↔ ∃ p ∈ pts, Reach P p x) (k : Nat) (hk : k < P.length) (kk : Int → Option Bool) : ∀ (n i : Nat) (b : Bool), pts.length < n + i → i ≤ pts.length → (b = true ↔ ∃ p ∈ pts.take i, Reach P p (k : Int)) →
    m_credencelaw14_DagMirror_L4 N P pts (isort r, 0) (k : Int) kk n b (i : Int) = kk ((k + 1 : Nat) : Int)
  | 0, i, b, hn, hi, hb => by omega
  | n + 1, i, b, hn, hi, hb => by
    have hPn := g.sml.n
    rw [m_credencelaw14_DagMirror_L4.eq_2]
    by_cases hlt : i < pts.length
    · have hpi := hpt _ (List.getElem_mem hlt)
      obtain ⟨a, h1, h2, h3⟩ := g.above hN [pts[i]] (fun x hx => by rw [List.mem_singleton] at hx; rw [hx]; exact hpi)
      have h3' : (k : Int) ∈ a ↔ Reach P pts[i] (k : Int) := by
        rw [h3]; exact ⟨fun ⟨p, hp, h⟩ => by rw [List.mem_singleton] at hp; rw [← hp]; exact h, fun h => ⟨_, by simp, h⟩⟩
      have hstep : (∃ p ∈ pts.take (i + 1), Reach P p (k : Int)) ↔ (∃ p ∈ pts.take i, Reach P p (k : Int)) ∨ Reach P pts[i] (k : Int) := by
        rw [List.take_succ_eq_append_getElem hlt]
        constructor
        · rintro ⟨p, hp, h⟩
          rcases List.mem_append.1 hp with hp | hp
          · exact .inl ⟨p, hp, h⟩
          · rw [List.mem_singleton] at hp; rw [← hp]; exact .inr h
        · rintro (⟨p, hp, h⟩ | h)
          · exact ⟨p, List.mem_append_left _ hp, h⟩
          · exact ⟨_, List.mem_append_right _ (by simp), h⟩
      rw [if_pos (by simpa using hlt), at?_lt hlt, Option.bind_some, h1, Option.bind_some, in_eq (by rw [isort_len]; omega) (by omega), Option.bind_some, m_credencelaw14_DagMirror_J6, m_credencelaw14_DagMirror_J6, wS (by omega)]
      cases b
      · rw [if_neg (by decide)]
        refine DM_L4 pts hpt hpl r hrl hr k hk kk n (i + 1) _ (by omega) (by omega) ?_
        rw [hstep, decide_eq_true_eq, isort_mem, h3']
        exact ⟨.inr, fun h => h.resolve_left fun h => by have := hb.2 h; cases this⟩
      · rw [if_pos rfl]
        refine DM_L4 pts hpt hpl r hrl hr k hk kk n (i + 1) _ (by omega) (by omega) ?_
        rw [hstep]
        exact ⟨fun _ => .inl (hb.1 rfl), fun _ => rfl⟩
    · rw [List.take_of_length_le (by omega)] at hb
      have e : b = decide ((k : Int) ∈ isort r) := by
        rw [Bool.eq_iff_iff, hb, decide_eq_true_eq, isort_mem, hr]
      rw [if_neg (by simpa using hlt), in_eq (by rw [isort_len]; omega) (by omega), Option.bind_some, e, if_neg (by simp), wS (by omega)]
theorem DM_L3 (pts : List Int) (hpt : InR P.length pts) (hpl : pts.length ≤ 1048576) (r : List Int) (hrl : r.length ≤ P.length) (hr : ∀ x, x ∈ r ↔ ∃ p ∈ pts, Reach P p x) (E : List (Int × Int)) (e0 : Int) : ∀ (n k : Nat), P.length < n + k → k ≤ P.length →
    m_credencelaw14_DagMirror_L3 N P pts (E, e0) (E.length : Int) (isort r, 0) n (k : Int) = some true
  | 0, k, hn, hk => by omega
  | n + 1, k, hn, hk => by
    rw [m_credencelaw14_DagMirror_L3.eq_2]
    by_cases hlt : k < P.length
    · have h1 := DM_L4 g hN pts hpt hpl r hrl hr k hlt (m_credencelaw14_DagMirror_L3 N P pts (E, e0) (E.length : Int) (isort r, 0) n) N 0 false (by omega) (Nat.zero_le _) (by simp)
      rw [if_pos (by simpa using hlt)]
      exact h1.trans (DM_L3 pts hpt hpl r hrl hr E e0 n (k + 1) (by omega) (by omega))
    · rw [if_neg (by simpa using hlt)]; simp
theorem DM_L1 (pts : List Int) (hpl : pts.length ≤ 1048576) (E : List (Int × Int)) (hE : E.length = totl P) (e0 : Int) : ∀ (n i : Nat), P.length < n + i → i ≤ P.length →
    m_credencelaw14_DagMirror_L1 N P pts (D, 0) (E, e0) n (((totl P - totl (P.drop i)) : Nat) : Int) (i : Int) = some true
  | 0, i, hn, hi => by omega
  | n + 1, i, hn, hi => by
    have hPn := g.sml.n
    have hPt := g.sml.t
    rw [m_credencelaw14_DagMirror_L1.eq_2]
    by_cases hlt : i < P.length
    · obtain ⟨a, h1, h2, h3⟩ := g.above hN [(i : Int)] (inR_one hlt)
      have h3' : ∀ x, x ∈ a ↔ Reach P (i : Int) x := fun x => by
        rw [h3]; exact ⟨fun ⟨p, hp, h⟩ => by rw [List.mem_singleton] at hp; rw [← hp]; exact h, fun h => ⟨_, by simp, h⟩⟩
      have h5 := totl_drop P i hlt
      have h6 := totl_drop_le P i
      have h4 := DM_L2 g hN i hlt a h2 h3' 0 (totl P - totl (P.drop i)) (by omega) (m_credencelaw14_DagMirror_L1 N P pts (D, 0) (E, e0) n) N 0 (by omega) (Nat.zero_le _)
      rw [if_pos (by simpa using hlt), at?_lt hlt, Option.bind_some, h1, Option.bind_some, if_neg (by simp), in_eq (by rw [isort_len]; omega) (by omega), Option.bind_some, decide_eq_true ((isort_mem _ _).2 ((h3' _).2 .refl)), m_credencelaw14_DagMirror_J3, if_neg (by decide)]
      refine h4.trans ?_
      rw [show totl P - totl (P.drop i) + P[i].length = totl P - totl (P.drop (i + 1)) by omega]
      exact DM_L1 pts hpl E hE e0 n (i + 1) (by omega) (by omega)
    · have ht : totl P - totl (P.drop i) = E.length := by rw [List.drop_eq_nil_of_le (by omega), hE]; simp [totl]
      rw [if_neg (by simpa using hlt), ht]
      by_cases hpt : InR P.length pts
      · obtain ⟨r, h1, h2, h3⟩ := g.above hN pts hpt
        have h4 := DM_L3 g hN pts hpt hpl r h2 h3 E e0 N 0 (by omega) (Nat.zero_le _)
        rw [h1, Option.bind_some, if_neg (by simp)]
        exact h4
      · rw [g.above_err hN pts hpt, Option.bind_some, if_pos (by decide), if_pos (by decide), m_credencelaw14_DagMirror_J5]; simp
end
theorem DagMirror_true {N : Nat} {P : List (List Int)} {pts : List Int} (hn : P.length ≤ 1048576) (ht : totl P ≤ 1048576) (hpl : pts.length ≤ 1048576) (hN : 2000000 < N) (hal : m_credencelaw14_alive N = some true) : m_credencelaw14_DagMirror N P pts = some true := by
  obtain ⟨b, h1, h2⟩ := many_eq (N := N) (P := P) (by omega) (by omega) (by omega)
  rw [m_credencelaw14_DagMirror, hal, Option.bind_some, h1, Option.bind_some]
  have hJ : m_credencelaw14_DagMirror_J1 N P pts true true = some true := by rw [m_credencelaw14_DagMirror_J1, if_pos rfl]
  cases b
  · obtain ⟨h6, h7⟩ := h2 rfl
    have h : Sml P := ⟨by omega, by omega⟩
    rw [if_neg (by decide)]
    by_cases h40 : 40 < P.length
    · rw [if_pos (decide_eq_true (by omega))]; exact hJ
    · obtain ⟨e, h8, h9⟩ := check_eq h hN
      rw [if_neg (by rw [decide_eq_true_eq]; omega), h8, Option.bind_some]
      by_cases he : e = 0
      · subst he
        obtain ⟨D, g⟩ := good h hN h8
        have hEd : m_dag_Edges N P = some (edgeL 0 P, 0) := by
          rw [m_dag_Edges, h8, Option.bind_some, if_neg (by decide), dagEdges_L1 P 0 [] (by simp; omega)]; rfl
        have hCh : m_dag_Children N P = some (D, 0) := by rw [m_dag_Children, h8, Option.bind_some, if_neg (by decide), g.kids]; rfl
        have h10 := DM_L1 g hN pts hpl (edgeL 0 P) (edgeL_length 0 P) 0 N 0 (by omega) (Nat.zero_le _)
        rw [List.drop_zero, Nat.sub_self] at h10
        rw [m_credencelaw14_DagMirror_J1, if_neg (by decide), hCh, Option.bind_some, hEd, Option.bind_some, if_neg (by decide), if_neg (by simp), if_neg (by simp), m_credencelaw14_DagMirror_J2, if_neg (by simp [g.klen])]
        exact h10
      · rw [show (!decide (e = 0)) = true by simp [he]]; exact hJ
  · rw [if_pos rfl]; exact hJ



def m_credencelaw14_place_L1 (N : Nat) (p0_l : (List Int)) (p1_x : Int) : Nat → Int → Option Int
  | 0, _ => none
  | n_1 + 1, i_4 => if (decide (i_4 < (p0_l.length : Int))) = true then ((at? p0_l i_4).bind fun e_5 => if (decide (e_5 = p1_x)) = true then (some i_4) else ((m_credencelaw14_place_L1 N p0_l p1_x n_1) (IntKind.i64.wrap (i_4 + 1)))) else (some (-1))

def m_credencelaw14_place (N : Nat) (p0_l : (List Int)) (p1_x : Int) : Option Int :=
  m_credencelaw14_place_L1 N p0_l p1_x N 0

set_option maxRecDepth 100000 in
theorem c_credencelaw14_place (N : Nat) (col : Col) (w0 : World) (a0 : Option Addr) (cap0 : Nat) (p0_l : (List Int)) (p1_x : Int) (h0 : Sl (Rep.int .i64) col w0 a0 cap0 p0_l) (r : Int) (hm : m_credencelaw14_place N p0_l p1_x = some r) :
    Calls Try.prog 19 #[(.slice a0 p0_l.length cap0), (.int .i64 p1_x)] w0 (fun e w' => e = .returned ((.int .i64 r)) ∧ Below w0.heap.size w0 w') := by
  refine calls_of1 4 (m := 19) (args := [(.slice a0 p0_l.length cap0), (.int .i64 p1_x)]) Try.func19 rfl rfl rfl rfl rfl ?_
  rw [m_credencelaw14_place.eq_1] at hm
  have hst := St.start col w0
  replace h0 := h0.keep (Stay.start col w0)
  refine wseq ?_
  refine wregion ?_
  refine lv (v := (.int .i64 0)) rfl rfl (r_assign rfl) ?_
  refine lnil ?_
  refine wseq ?_
  refine wseq ?_
  refine wregion ?_
  refine lv (v := (.int .i64 0)) rfl rfl (r_assign rfl) ?_
  refine lnil ?_
  refine wblock ?_
  refine wloop (fun n f w_2 => ∃ (col_3 : Col) (i_4 : Int) (n_1 : Nat), n_1 = n ∧ m_credencelaw14_place_L1 N p0_l p1_x n_1 i_4 = some r ∧ St w0 (col0 col) col_3 w_2 ∧ Sl (Rep.int .i64) col_3 w_2 a0 cap0 p0_l ∧ f 0 = (.slice a0 p0_l.length cap0) ∧ f 1 = (.int .i64 p1_x) ∧ f 5 = (.int .i64 i_4) ∧ f 1000000 = (enc [])) N ⟨(col0 col), 0, N, rfl, hm, hst, h0, rfl, rfl, rfl, rfl⟩ ?_
  clear hm; intro n f w_2 hI
  obtain ⟨col_3, i_4, n_1, hn, hm, hst, h0, hs0, hs1, hs5, hs1000000⟩ := hI
  subst hn
  refine .ld (d := 0) (v := (.slice a0 p0_l.length cap0)) hs0 ?_
  refine .ld (d := 1) (v := (.int .i64 p1_x)) hs1 ?_
  refine .ld (d := 5) (v := (.int .i64 i_4)) hs5 ?_
  refine .ld (d := 1000000) (v := (enc [])) hs1000000 ?_
  clear hs0 hs1 hs5 hs1000000
  cases n_1 with
  | zero => rw [m_credencelaw14_place_L1.eq_1] at hm; cases hm
  | succ n_1 =>
    rw [m_credencelaw14_place_L1.eq_2] at hm
    refine wseq ?_
    refine wseq ?_
    refine wregion ?_
    refine lv (v := (.int .i64 i_4)) rfl rfl (r_move rfl) ?_
    refine lv (v := (.slice a0 p0_l.length cap0)) rfl rfl (r_move rfl) ?_
    refine lv (v := (.int .i64 (p0_l.length : Int))) rfl rfl (r_len Try.underlying31 rfl) ?_
    refine lv (v := (.bool (decide (i_4 < (p0_l.length : Int))))) rfl rfl (r_lss i_4 (p0_l.length : Int) rfl rfl) ?_
    refine lnil ?_
    refine wcond (decide (i_4 < (p0_l.length : Int))) rfl (fun hb => ?_) (fun hb => ?_)
    · rw [if_pos hb] at hm
      clear hb
      refine wskip ?_
      refine wseq ?_
      refine wblock ?_
      refine wseq ?_
      refine wregion ?_
      refine lv (v := (.slice a0 p0_l.length cap0)) rfl rfl (r_move rfl) ?_
      refine lv (v := (.int .i64 i_4)) rfl rfl (r_move rfl) ?_
      obtain ⟨e_5, hj_6, hm⟩ := bind_some hm
      refine lv (v := (sptr a0 (Int.toNat i_4 * 1))) rfl rfl (r_idx Try.underlying31 Try.sizeOf3 rfl rfl (at?_some hj_6).1 (at?_some hj_6).2.1 (h0.addr hj_6)) ?_
      refine lv (v := (.int .i64 e_5)) rfl rfl (r_ld Try.isAgg3 rfl (h0.atInt hj_6)) ?_
      refine lv (v := (.int .i64 p1_x)) rfl rfl (r_move rfl) ?_
      refine lv (v := (.bool (decide (e_5 = p1_x)))) rfl rfl (r_eql e_5 p1_x rfl rfl) ?_
      refine lnil ?_
      refine wcond (decide (e_5 = p1_x)) rfl (fun hb => ?_) (fun hb => ?_)
      · rw [if_pos hb] at hm
        clear hb
        refine wseq ?_
        refine wregion ?_
        refine lv (v := (.int .i64 i_4)) rfl rfl (r_move rfl) ?_
        refine lv (v := (.int .i64 i_4)) rfl rfl (r_assign rfl) ?_
        refine lnil ?_
        refine wret ?_
        cases hm
        exact ⟨rfl, rfl, hst.below⟩
      · rw [if_neg (by rw [hb]; decide)] at hm
        clear hb
        refine wskip ?_
        refine wregion ?_
        refine lv (v := (.int .i64 i_4)) rfl rfl (r_move rfl) ?_
        refine lv (v := (.int .i64 (IntKind.i64.wrap (i_4 + 1)))) rfl rfl (r_add i_4 1 rfl rfl) ?_
        refine lv (v := (.int .i64 (IntKind.i64.wrap (i_4 + 1)))) rfl rfl (r_assign rfl) ?_
        refine lnil ?_
        exact ⟨n_1, by omega, ⟨col_3, (IntKind.i64.wrap (i_4 + 1)), n_1, rfl, hm, hst, h0, rfl, rfl, rfl, rfl⟩⟩
    · rw [if_neg (by rw [hb]; decide)] at hm
      clear hb
      refine wexit (inB_hit ?_)
      refine wseq ?_
      refine wregion ?_
      refine lv (v := (.int .i64 (-1))) rfl rfl (r_assign rfl) ?_
      refine lnil ?_
      refine wret ?_
      cases hm
      exact ⟨rfl, rfl, hst.below⟩


end Go.Proofs.Ytpenklmcacfkpaa
