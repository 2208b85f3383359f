/-
  What functions of the program compute, as plain Lean functions (m_..), and proofs that they compute it (c_..). Printed by a program of the author; no conditions.
-/
import Derived.Test.YtpenklmcacfkpaaQue
import Derived.Test.YtpenklmcacfkpaaProg
import Derived.Test.YtpenklmcacfkpaaLibSort
import Derived.Test.YtpenklmcacfkpaaShelf
import Derived.Test.YtpenklmcacfkpaaDagOrderF1
set_option linter.unusedVariables false
namespace Go.Proofs.Ytpenklmcacfkpaa
open Go Go.RowKit


theorem el3_28 : ElemOk Try.prog 3 1 8 := ⟨Try.t3, _, rfl, rfl, rfl, rfl, rfl⟩

def m_dag_sorted_J1 (kk_L3 : ((List Int) → (List Int) → Option (List Int))) (left_85 : List Int) (ready_89 : List Int) : Option (List Int) :=
  kk_L3 left_85 ready_89

def m_dag_sorted_L3 (N : Nat) (out_37 : List Int) (kk_L2 : ((List Int) → (List Int) → (List Int) → Option (List Int))) (r_41 : (Int × (List Int))) : List Int → (List Int) → (List Int) → Option (List Int)
  | [], left_73, ready_77 => kk_L2 left_73 ready_77 (out_37 ++ [r_41.1])
  | x_81 :: l_82, left_73, ready_77 => (at? left_73 x_81).bind fun e_93 => (some (left_73.set (Int.toNat x_81) (IntKind.i64.wrap (e_93 - 1)))).bind fun xs_100 => (at? xs_100 x_81).bind fun e_101 => if (decide (e_101 = 0)) = true then ((m_dag_heap_push N ready_77 x_81).bind fun r_103 => m_dag_sorted_J1 (m_dag_sorted_L3 N out_37 kk_L2 r_41 l_82) xs_100 r_103) else (m_dag_sorted_J1 (m_dag_sorted_L3 N out_37 kk_L2 r_41 l_82) xs_100 ready_77)

def m_dag_sorted_L2 (N : Nat) (p1_down : (List (List Int))) : Nat → (List Int) → (List Int) → (List Int) → Option (List Int)
  | 0, _, _, _ => none
  | n_26 + 1, left_29, ready_33, out_37 => if (decide (0 < (ready_33.length : Int))) = true then ((m_dag_heap_pop N ready_33).bind fun r_41 => chk ((out_37.length + [r_41.1].length) * 8 ≤ 140737488355328 ∧ out_37.length + [r_41.1].length ≤ maxLen) ((at? p1_down r_41.1).bind fun e_62 => m_dag_sorted_L3 N out_37 (m_dag_sorted_L2 N p1_down n_26) r_41 e_62 left_29 r_41.2)) else (some out_37)

def m_dag_sorted_J2 (k_12 : Nat) (kk_L1 : (Nat → (List Int) → (List Int) → Option (List Int))) (left_114 : List Int) (ready_118 : List Int) : Option (List Int) :=
  kk_L1 (k_12 + 1) left_114 ready_118

def m_dag_sorted_L1 (N : Nat) (p1_down : (List (List Int))) : List (List Int) → Nat → (List Int) → (List Int) → Option (List Int)
  | [], k_12, left_16, ready_20 => m_dag_sorted_L2 N p1_down N left_16 ready_20 ([] : List Int)
  | x_24 :: l_25, k_12, left_16, ready_20 => (at? left_16 (k_12 : Int)).bind fun e_127 => (some (left_16.set (Int.toNat (k_12 : Int)) (x_24.length : Int))).bind fun xs_134 => if (decide ((x_24.length : Int) = 0)) = true then ((m_dag_heap_push N ready_20 (k_12 : Int)).bind fun r_135 => m_dag_sorted_J2 k_12 (m_dag_sorted_L1 N p1_down l_25) xs_134 r_135) else (m_dag_sorted_J2 k_12 (m_dag_sorted_L1 N p1_down l_25) xs_134 ready_20)

def m_dag_sorted (N : Nat) (p0_parents : (List (List Int))) (p1_down : (List (List Int))) : Option (List Int) :=
  chk (p0_parents.length * 8 ≤ 281474976710656 ∧ p0_parents.length ≤ maxLen) (m_dag_sorted_L1 N p1_down p0_parents 0 (List.replicate p0_parents.length (0 : Int)) ([] : List Int))

set_option maxRecDepth 100000 in
theorem c_dag_sorted (N : Nat) (c1 : Nat) (col : Col) (w0 : World) (a0 : Option Addr) (cap0 : Nat) (p0_parents : (List (List Int))) (a1 : Option Addr) (cap1 : Nat) (p1_down : (List (List Int))) (h0 : Sl (Rep.slice (Rep.int .i64)) col w0 a0 cap0 p0_parents) (h1 : Sl (Rep.slice (Rep.int .i64)) col w0 a1 cap1 p1_down) (r : (List Int)) (hm : m_dag_sorted N p0_parents p1_down = some r) :
    Calls Try.prog 28 #[(.slice a0 p0_parents.length cap0), (.slice a1 p1_down.length cap1)] w0 (fun e w' => ∃ (col' : Col) (ra1 : Option Addr) (rc2 : Nat), e = .returned ((.slice ra1 r.length rc2)) ∧ Grow col w0 col' w' ∧ Own (Rep.int .i64) 3 c1 col' w' ra1 rc2 r) := by
  refine calls_of1 4 (m := 66) (args := [(.slice a0 p0_parents.length cap0), (.slice a1 p1_down.length cap1)]) Try.func28 rfl rfl rfl rfl rfl ?_
  rw [m_dag_sorted.eq_1] at hm
  have hst := St.start col w0
  replace h0 := h0.keep (Stay.start col w0)
  replace h1 := h1.keep (Stay.start col w0)
  refine wseq ?_
  refine wregion ?_
  refine lv (v := (.slice none (([] : List Int).length) 0)) rfl rfl (r_assign rfl) ?_
  refine lnil ?_
  refine wseq ?_
  refine wregion ?_
  refine lv (v := (.slice a0 p0_parents.length cap0)) rfl rfl (r_move rfl) ?_
  refine lv (v := (.int .i64 (p0_parents.length : Int))) rfl rfl (r_len Try.underlying22 rfl) ?_
  obtain ⟨hb_1, hm⟩ := chk_some hm
  refine l_make (col := (col0 col)) (w := w0) (r := (Rep.int .i64)) (n := p0_parents.length) (x0 := 0) 1 rfl Try.underlying31 Try.t3 rfl rfl rfl rfl rfl rfl rfl hb_1.1 hb_1.2 (rd_int .i64 0) ?_
  intro a_2 w_3 col_4 hg_5 h_6
  replace h0 := h0.gr hg_5
  replace h1 := h1.gr hg_5
  replace hst := hst.grow hg_5
  refine lv (v := (.slice a_2 ((List.replicate p0_parents.length (0 : Int)).length) p0_parents.length)) rfl rfl (r_assign rfl) ?_
  refine lnil ?_
  refine wseq ?_
  refine wregion ?_
  refine l_alloc (col := col_4) (v := (.slice none (([] : List Int).length) 0)) 2 rfl Try.zeroValue57 ?_
  intro g_7 w_8 col_9 hg_10 hb_11
  replace h0 := h0.gr hg_10
  replace h1 := h1.gr hg_10
  replace h_6 := h_6.gr hg_10
  replace hst := hst.grow hg_10
  replace hb_11 : Box 57 2 col_9 w_8 g_7 #[(.slice none (([] : List Int).length) 0)] := hb_11
  refine lnil ?_
  refine wseq ?_
  refine wseq ?_
  refine wregion ?_
  refine lv (v := (.slice a0 p0_parents.length cap0)) rfl rfl (r_move rfl) ?_
  refine lv (v := (.int .i64 (p0_parents.length : Int))) rfl rfl (r_len Try.underlying22 rfl) ?_
  refine lv (v := (.int .i64 0)) rfl rfl (r_move rfl) ?_
  refine lnil ?_
  refine wblock ?_
  refine wloop (fun n f w_14 => ∃ (col_15 : Col) (k_12 : Nat) (a_17 : Option Addr) (cap_18 : Nat) (left_16 : List Int) (a_21 : Option Addr) (cap_22 : Nat) (ready_20 : List Int) (l_13 : List (List Int)), n = l_13.length ∧ p0_parents.drop k_12 = l_13 ∧ m_dag_sorted_L1 N p1_down l_13 k_12 left_16 ready_20 = some r ∧ St w0 (col0 col) col_15 w_14 ∧ Sl (Rep.slice (Rep.int .i64)) col_15 w_14 a1 cap1 p1_down ∧ Sl (Rep.slice (Rep.int .i64)) col_15 w_14 a0 cap0 p0_parents ∧ Own (Rep.int .i64) 3 1 col_15 w_14 a_17 cap_18 left_16 ∧ Own (Rep.int .i64) 3 3 col_15 w_14 a_21 cap_22 ready_20 ∧ Box 57 2 col_15 w_14 g_7 #[(.slice a_21 ready_20.length cap_22)] ∧ f 18 = (.int .i64 (k_12 : Int)) ∧ f 1 = (.slice a1 p1_down.length cap1) ∧ f 16 = (.slice a0 p0_parents.length cap0) ∧ f 17 = (.int .i64 (p0_parents.length : Int)) ∧ f 5 = (.slice a_17 left_16.length cap_18) ∧ f 6 = (.pointer (some ⟨g_7, 0, none⟩)) ∧ f 1000000 = (enc [])) p0_parents.length ⟨col_9, 0, a_2, p0_parents.length, (List.replicate p0_parents.length (0 : Int)), none, 0, ([] : List Int), p0_parents, rfl, rfl, hm, hst, h1, h0, h_6, Own.nil, hb_11, rfl, rfl, rfl, rfl, rfl, rfl, rfl⟩ ?_
  clear hm; intro n f w_14 hI
  obtain ⟨col_15, k_12, a_17, cap_18, left_16, a_21, cap_22, ready_20, l_13, hn, hl, hm, hst, h1, h0, h_19, h_23, hb_11, hs18, hs1, hs16, hs17, hs5, hs6, hs1000000⟩ := hI
  subst hn
  refine .ld (d := 18) (v := (.int .i64 (k_12 : Int))) hs18 ?_
  refine .ld (d := 1) (v := (.slice a1 p1_down.length cap1)) hs1 ?_
  refine .ld (d := 16) (v := (.slice a0 p0_parents.length cap0)) hs16 ?_
  refine .ld (d := 17) (v := (.int .i64 (p0_parents.length : Int))) hs17 ?_
  refine .ld (d := 5) (v := (.slice a_17 left_16.length cap_18)) hs5 ?_
  refine .ld (d := 6) (v := (.pointer (some ⟨g_7, 0, none⟩))) hs6 ?_
  refine .ld (d := 1000000) (v := (enc [])) hs1000000 ?_
  clear hs18 hs1 hs16 hs17 hs5 hs6 hs1000000
  cases l_13 with
  | nil =>
    have hk : ¬ ((k_12 : Int) < (p0_parents.length : Int)) := by have := List.drop_eq_nil_iff.1 hl; omega
    have hkb := decide_eq_false hk
    rw [m_dag_sorted_L1.eq_1] at hm
    refine wseq ?_
    refine wregion ?_
    refine lv (v := (.bool (decide ((k_12 : Int) < (p0_parents.length : Int))))) rfl rfl (r_lss (k_12 : Int) (p0_parents.length : Int) rfl rfl) ?_
    refine lnil ?_
    refine wseq ?_
    refine wcondF (congrArg Value.bool hkb) ?_
    refine wexit (inB_hit ?_)
    refine wseq ?_
    refine wregion ?_
    refine lv (v := (.slice none (([] : List Int).length) 0)) rfl rfl (r_assign rfl) ?_
    refine lnil ?_
    refine wseq ?_
    refine wblock ?_
    refine wloop (fun n f w_27 => ∃ (col_28 : Col) (a_30 : Option Addr) (cap_31 : Nat) (left_29 : List Int) (a_34 : Option Addr) (cap_35 : Nat) (ready_33 : List Int) (a_38 : Option Addr) (cap_39 : Nat) (out_37 : List Int) (n_26 : Nat), n_26 = n ∧ m_dag_sorted_L2 N p1_down n_26 left_29 ready_33 out_37 = some r ∧ St w0 (col0 col) col_28 w_27 ∧ Sl (Rep.slice (Rep.int .i64)) col_28 w_27 a1 cap1 p1_down ∧ Own (Rep.int .i64) 3 1 col_28 w_27 a_30 cap_31 left_29 ∧ Own (Rep.int .i64) 3 3 col_28 w_27 a_34 cap_35 ready_33 ∧ Box 57 2 col_28 w_27 g_7 #[(.slice a_34 ready_33.length cap_35)] ∧ Own (Rep.int .i64) 3 4 col_28 w_27 a_38 cap_39 out_37 ∧ f 1 = (.slice a1 p1_down.length cap1) ∧ f 5 = (.slice a_30 left_29.length cap_31) ∧ f 6 = (.pointer (some ⟨g_7, 0, none⟩)) ∧ f 9 = (.slice a_38 out_37.length cap_39) ∧ f 1000000 = (enc [])) N ⟨col_15, a_17, cap_18, left_16, a_21, cap_22, ready_20, none, 0, ([] : List Int), N, rfl, hm, hst, h1, h_19, h_23, hb_11, Own.nil, rfl, rfl, rfl, rfl, rfl⟩ ?_
    clear hm; intro n f w_27 hI
    obtain ⟨col_28, a_30, cap_31, left_29, a_34, cap_35, ready_33, a_38, cap_39, out_37, n_26, hn, hm, hst, h1, h_32, h_36, hb_11, h_40, hs1, hs5, hs6, hs9, hs1000000⟩ := hI
    subst hn
    refine .ld (d := 1) (v := (.slice a1 p1_down.length cap1)) hs1 ?_
    refine .ld (d := 5) (v := (.slice a_30 left_29.length cap_31)) hs5 ?_
    refine .ld (d := 6) (v := (.pointer (some ⟨g_7, 0, none⟩))) hs6 ?_
    refine .ld (d := 9) (v := (.slice a_38 out_37.length cap_39)) hs9 ?_
    refine .ld (d := 1000000) (v := (enc [])) hs1000000 ?_
    clear hs1 hs5 hs6 hs9 hs1000000
    cases n_26 with
    | zero => rw [m_dag_sorted_L2.eq_1] at hm; cases hm
    | succ n_26 =>
      rw [m_dag_sorted_L2.eq_2] at hm
      refine wseq ?_
      refine wseq ?_
      refine wregion ?_
      refine lv (v := (.slice a_34 ready_33.length cap_35)) rfl rfl (r_ld Try.isAgg57 rfl hb_11.at1) ?_
      refine lv (v := (.int .i64 (ready_33.length : Int))) rfl rfl (r_len Try.underlying57 rfl) ?_
      refine lv (v := (.bool (decide (0 < (ready_33.length : Int))))) rfl rfl (r_gtr (ready_33.length : Int) 0 rfl rfl) ?_
      refine lnil ?_
      refine wcond (decide (0 < (ready_33.length : Int))) rfl (fun hb => ?_) (fun hb => ?_)
      · rw [if_pos hb] at hm
        clear hb
        refine wskip ?_
        refine wblock ?_
        refine wseq ?_
        refine wregion ?_
        obtain ⟨r_41, hr_42, hm⟩ := bind_some hm
        refine lc rfl rfl (r_call1 Try.call40 rfl) (c_dag_heap_pop N col_28 _ 2 3 rfl g_7 ready_33 a_34 cap_35 h_36 hb_11 r_41 hr_42) ?_
        rintro _ w_47 ⟨col_49, oa_43, oc_44, rfl, hg_48, oh_45, ohb_46⟩
        refine ⟨_, rfl, ?_⟩
        replace h1 := h1.kpp hg_48 rfl
        replace h_32 := h_32.kpp hg_48 rfl rfl
        replace h_40 := h_40.kpp hg_48 rfl rfl
        replace hst := hst.kpp hg_48 rfl rfl
        clear h_36
        clear hb_11
        refine lv (v := (.int .i64 r_41.1)) rfl rfl (r_assign rfl) ?_
        refine lnil ?_
        refine wseq ?_
        refine wregion ?_
        refine lv (v := (.slice a_38 out_37.length cap_39)) rfl rfl (r_move rfl) ?_
        refine lv (v := (.int .i64 r_41.1)) rfl rfl (r_move rfl) ?_
        refine l_lit (col := col_49) (r := (Rep.int .i64)) (xs := [r_41.1]) [(.int .i64 r_41.1)] 5 rfl Try.underlying31 el3_28 rfl rfl rfl rfl rfl rfl (by intro v hv; simp only [List.mem_cons, List.not_mem_nil, or_false] at hv; subst hv; rfl) (RowsH.ofF (Rows.consF (r := (Rep.int .i64)) (x := r_41.1) (cs := [(.int .i64 r_41.1)]) (rd_int .i64 r_41.1) Rows.nil0)) ?_
        intro a_50 w_51 col_52 hg_53 h_54
        replace h1 := h1.gr hg_53
        replace h_32 := h_32.gr hg_53
        replace oh_45 := oh_45.gr hg_53
        replace h_40 := h_40.gr hg_53
        replace ohb_46 := ohb_46.gr hg_53
        replace hst := hst.grow hg_53
        obtain ⟨hb_55, hm⟩ := chk_some hm
        refine l_appendM (col := col_52) (w := w_51) (r := (Rep.int .i64)) (c := 4) (c2 := 4) (xs := out_37) (ys := [r_41.1]) h_40 (h_54.srcN (NB.int (k := .i64))) rfl Try.underlying31 el3_28 rfl rfl rfl hb_55.1 hb_55.2 (by decide) ?_
        intro a_56 cap_57 w_58 col_59 hk_60 h_61
        replace h1 := h1.kpp hk_60 rfl
        replace h_32 := h_32.kpp hk_60 rfl rfl
        replace oh_45 := oh_45.kpp hk_60 rfl rfl
        replace h_54 := h_54.kpp hk_60 rfl rfl
        replace ohb_46 := ohb_46.kpp hk_60 rfl
        replace hst := hst.kpp hk_60 rfl rfl
        clear h_40
        refine lv (v := (.slice a_56 ((out_37 ++ [r_41.1]).length) cap_57)) rfl rfl (r_assign rfl) ?_
        refine lnil ?_
        refine wseq ?_
        refine wregion ?_
        refine lv (v := (.slice a1 p1_down.length cap1)) rfl rfl (r_move rfl) ?_
        refine lv (v := (.int .i64 r_41.1)) rfl rfl (r_move rfl) ?_
        obtain ⟨e_62, hj_63, hm⟩ := bind_some hm
        refine lv (v := (sptr a1 (Int.toNat r_41.1 * 1))) rfl rfl (r_idx Try.underlying22 Try.sizeOf31 rfl rfl (at?_some hj_63).1 (at?_some hj_63).2.1 (h1.addr hj_63)) ?_
        obtain ⟨_, hr_64, hA_65⟩ := h1.atN hj_63
        obtain ⟨⟨a_66, cap_67, rfl, h_68⟩, _⟩ := hr_64
        refine lv (v := (.slice a_66 e_62.length cap_67)) rfl rfl (r_ld Try.isAgg31 rfl hA_65.one) ?_
        refine lv (v := (.int .i64 (e_62.length : Int))) rfl rfl (r_len Try.underlying31 rfl) ?_
        refine lv (v := (.int .i64 0)) rfl rfl (r_move rfl) ?_
        refine lnil ?_
        refine wblock ?_
        refine wloop (fun n f w_71 => ∃ (col_72 : Col) (k_69 : Nat) (a_74 : Option Addr) (cap_75 : Nat) (left_73 : List Int) (a_78 : Option Addr) (cap_79 : Nat) (ready_77 : List Int) (l_70 : List Int), n = l_70.length ∧ e_62.drop k_69 = l_70 ∧ m_dag_sorted_L3 N out_37 (m_dag_sorted_L2 N p1_down n_26) r_41 l_70 left_73 ready_77 = some r ∧ St w0 (col0 col) col_72 w_71 ∧ Sl (Rep.slice (Rep.int .i64)) col_72 w_71 a1 cap1 p1_down ∧ Sl (Rep.int .i64) col_72 w_71 a_66 cap_67 e_62 ∧ Own (Rep.int .i64) 3 1 col_72 w_71 a_74 cap_75 left_73 ∧ Own (Rep.int .i64) 3 3 col_72 w_71 a_78 cap_79 ready_77 ∧ Box 57 2 col_72 w_71 g_7 #[(.slice a_78 ready_77.length cap_79)] ∧ Own (Rep.int .i64) 3 4 col_72 w_71 a_56 cap_57 (out_37 ++ [r_41.1]) ∧ f 47 = (.int .i64 (k_69 : Int)) ∧ f 1 = (.slice a1 p1_down.length cap1) ∧ f 45 = (.slice a_66 e_62.length cap_67) ∧ f 46 = (.int .i64 (e_62.length : Int)) ∧ f 5 = (.slice a_74 left_73.length cap_75) ∧ f 6 = (.pointer (some ⟨g_7, 0, none⟩)) ∧ f 9 = (.slice a_56 ((out_37 ++ [r_41.1]).length) cap_57) ∧ f 1000000 = (enc [])) e_62.length ⟨col_59, 0, a_30, cap_31, left_29, oa_43, oc_44, r_41.2, e_62, rfl, rfl, hm, hst, h1, h_68, h_32, oh_45, ohb_46, h_61, rfl, rfl, rfl, rfl, rfl, rfl, rfl, rfl⟩ ?_
        clear hm; intro n f w_71 hI
        obtain ⟨col_72, k_69, a_74, cap_75, left_73, a_78, cap_79, ready_77, l_70, hn, hl, hm, hst, h1, h_68, h_76, h_80, ohb_46, h_61, hs47, hs1, hs45, hs46, hs5, hs6, hs9, hs1000000⟩ := hI
        subst hn
        refine .ld (d := 47) (v := (.int .i64 (k_69 : Int))) hs47 ?_
        refine .ld (d := 1) (v := (.slice a1 p1_down.length cap1)) hs1 ?_
        refine .ld (d := 45) (v := (.slice a_66 e_62.length cap_67)) hs45 ?_
        refine .ld (d := 46) (v := (.int .i64 (e_62.length : Int))) hs46 ?_
        refine .ld (d := 5) (v := (.slice a_74 left_73.length cap_75)) hs5 ?_
        refine .ld (d := 6) (v := (.pointer (some ⟨g_7, 0, none⟩))) hs6 ?_
        refine .ld (d := 9) (v := (.slice a_56 ((out_37 ++ [r_41.1]).length) cap_57)) hs9 ?_
        refine .ld (d := 1000000) (v := (enc [])) hs1000000 ?_
        clear hs47 hs1 hs45 hs46 hs5 hs6 hs9 hs1000000
        cases l_70 with
        | nil =>
          have hk : ¬ ((k_69 : Int) < (e_62.length : Int)) := by have := List.drop_eq_nil_iff.1 hl; omega
          have hkb := decide_eq_false hk
          rw [m_dag_sorted_L3.eq_1] at hm
          refine wseq ?_
          refine wregion ?_
          refine lv (v := (.bool (decide ((k_69 : Int) < (e_62.length : Int))))) rfl rfl (r_lss (k_69 : Int) (e_62.length : Int) rfl rfl) ?_
          refine lnil ?_
          refine wseq ?_
          refine wcondF (congrArg Value.bool hkb) ?_
          refine wexit (inB_hit ?_)
          exact ⟨n_26, by omega, ⟨col_72, a_74, cap_75, left_73, a_78, cap_79, ready_77, a_56, cap_57, (out_37 ++ [r_41.1]), n_26, rfl, hm, hst, h1, h_76, h_80, ohb_46, h_61, rfl, rfl, rfl, rfl, rfl⟩⟩
        | cons x_81 l_82 =>
          obtain ⟨hat, hl2, hlt⟩ := drop_get hl
          have hk : (k_69 : Int) < (e_62.length : Int) := by omega
          have hkb := decide_eq_true hk
          rw [m_dag_sorted_L3.eq_2] at hm
          refine wseq ?_
          refine wregion ?_
          refine lv (v := (.bool (decide ((k_69 : Int) < (e_62.length : Int))))) rfl rfl (r_lss (k_69 : Int) (e_62.length : Int) rfl rfl) ?_
          refine lnil ?_
          refine wseq ?_
          refine wcondT (congrArg Value.bool hkb) ?_
          refine wskip ?_
          refine wseq ?_
          refine Wp.cut (fun f w_83 => ∃ (col_84 : Col) (a_86 : Option Addr) (cap_87 : Nat) (left_85 : List Int) (a_90 : Option Addr) (cap_91 : Nat) (ready_89 : List Int), m_dag_sorted_J1 (m_dag_sorted_L3 N out_37 (m_dag_sorted_L2 N p1_down n_26) r_41 l_82) left_85 ready_89 = some r ∧ St w0 (col0 col) col_84 w_83 ∧ Sl (Rep.slice (Rep.int .i64)) col_84 w_83 a1 cap1 p1_down ∧ Sl (Rep.int .i64) col_84 w_83 a_66 cap_67 e_62 ∧ Own (Rep.int .i64) 3 1 col_84 w_83 a_86 cap_87 left_85 ∧ Own (Rep.int .i64) 3 3 col_84 w_83 a_90 cap_91 ready_89 ∧ Box 57 2 col_84 w_83 g_7 #[(.slice a_90 ready_89.length cap_91)] ∧ Own (Rep.int .i64) 3 4 col_84 w_83 a_56 cap_57 (out_37 ++ [r_41.1]) ∧ f 1 = (.slice a1 p1_down.length cap1) ∧ f 45 = (.slice a_66 e_62.length cap_67) ∧ f 46 = (.int .i64 (e_62.length : Int)) ∧ f 47 = (.int .i64 (k_69 : Int)) ∧ f 5 = (.slice a_86 left_85.length cap_87) ∧ f 6 = (.pointer (some ⟨g_7, 0, none⟩)) ∧ f 9 = (.slice a_56 ((out_37 ++ [r_41.1]).length) cap_57) ∧ f 1000000 = (enc [])) ?_ ?_
          · intro f w_83 hJ
            obtain ⟨col_84, a_86, cap_87, left_85, a_90, cap_91, ready_89, hm, hst, h1, h_68, h_88, h_92, ohb_46, h_61, hs1, hs45, hs46, hs47, hs5, hs6, hs9, hs1000000⟩ := hJ
            rw [m_dag_sorted_J1.eq_1] at hm
            refine .ld (d := 1) (v := (.slice a1 p1_down.length cap1)) hs1 ?_
            refine .ld (d := 45) (v := (.slice a_66 e_62.length cap_67)) hs45 ?_
            refine .ld (d := 46) (v := (.int .i64 (e_62.length : Int))) hs46 ?_
            refine .ld (d := 47) (v := (.int .i64 (k_69 : Int))) hs47 ?_
            refine .ld (d := 5) (v := (.slice a_86 left_85.length cap_87)) hs5 ?_
            refine .ld (d := 6) (v := (.pointer (some ⟨g_7, 0, none⟩))) hs6 ?_
            refine .ld (d := 9) (v := (.slice a_56 ((out_37 ++ [r_41.1]).length) cap_57)) hs9 ?_
            refine .ld (d := 1000000) (v := (enc [])) hs1000000 ?_
            clear hs1 hs45 hs46 hs47 hs5 hs6 hs9 hs1000000
            refine wregion ?_
            refine lv (v := (.int .i64 (IntKind.i64.wrap ((k_69 : Int) + 1)))) rfl rfl (r_add (k_69 : Int) 1 rfl rfl) ?_
            refine lv (v := (.int .i64 (IntKind.i64.wrap ((k_69 : Int) + 1)))) rfl rfl (r_move rfl) ?_
            refine lnil ?_
            exact ⟨l_82.length, by simp, ⟨col_84, (k_69 + 1), a_86, cap_87, left_85, a_90, cap_91, ready_89, l_82, rfl, hl2, hm, hst, h1, h_68, h_88, h_92, ohb_46, h_61, (congrArg (Value.int .i64) (wrap_succ (Nat.lt_of_lt_of_le hlt h_68.1.1))), rfl, rfl, rfl, rfl, rfl, rfl, rfl⟩⟩
          · refine wblock ?_
            refine wseq ?_
            refine wregion ?_
            refine lv (v := (sptr a_66 (Int.toNat (k_69 : Int) * 1))) rfl rfl (r_idx Try.underlying31 Try.sizeOf3 rfl rfl (at?_some hat).1 (at?_some hat).2.1 (h_68.addr hat)) ?_
            refine lv (v := (.int .i64 x_81)) rfl rfl (r_ld Try.isAgg3 rfl (h_68.atInt hat)) ?_
            refine lv (v := (.int .i64 x_81)) rfl rfl (r_assign rfl) ?_
            refine lnil ?_
            refine wseq ?_
            refine wregion ?_
            refine lv (v := (.slice a_74 left_73.length cap_75)) rfl rfl (r_move rfl) ?_
            refine lv (v := (.int .i64 x_81)) rfl rfl (r_move rfl) ?_
            obtain ⟨e_93, hj_94, hm⟩ := bind_some hm
            refine lv (v := (sptr a_74 (Int.toNat x_81 * 1))) rfl rfl (r_idx Try.underlying31 Try.sizeOf3 rfl rfl (at?_some hj_94).1 (at?_some hj_94).2.1 (h_76.addr hj_94)) ?_
            refine lv (v := (.int .i64 e_93)) rfl rfl (r_ld Try.isAgg3 rfl (h_76.atInt hj_94)) ?_
            refine lv (v := (.int .i64 (IntKind.i64.wrap (e_93 - 1)))) rfl rfl (r_sub e_93 1 rfl rfl) ?_
            refine lv (v := (sptr a_74 (Int.toNat x_81 * 1))) rfl rfl (r_idx Try.underlying31 Try.sizeOf3 rfl rfl (at?_some hj_94).1 (at?_some hj_94).2.1 (h_76.addr hj_94)) ?_
            obtain ⟨xs_100, hz_99, hm⟩ := bind_some hm
            have hz_99 : xs_100 = left_73.set (Int.toNat x_81) (IntKind.i64.wrap (e_93 - 1)) := (Option.some.inj hz_99).symm
            refine l_store (x1 := IntKind.i64.wrap (e_93 - 1)) (v := (.int .i64 (IntKind.i64.wrap (e_93 - 1)))) h_76 hj_94 rfl Try.sizeOf3 (rd_int .i64 (IntKind.i64.wrap (e_93 - 1))) rfl rfl (by decide) ?_
            intro w_95 hk_96 hs_97 h_98
            rw [← hz_99] at h_98
            replace h1 := h1.kp hk_96 (by decide)
            replace h_68 := h_68.kp hk_96 (by decide)
            replace h_80 := h_80.kp hk_96 (by decide) (by decide)
            replace h_61 := h_61.kp hk_96 (by decide) (by decide)
            replace ohb_46 := ohb_46.kp hk_96 (by decide)
            replace hst := hst.kp hk_96 hs_97 (by decide) (by decide)
            refine .ld (d := 5) (v := (.slice a_74 xs_100.length cap_75)) (congrArg (fun n => Value.slice a_74 n cap_75) (show left_73.length = xs_100.length by rw [hz_99, List.length_set])) ?_
            clear h_76
            refine lnil ?_
            refine wseq ?_
            refine wregion ?_
            refine lv (v := (.slice a_74 xs_100.length cap_75)) rfl rfl (r_move rfl) ?_
            refine lv (v := (.int .i64 x_81)) rfl rfl (r_move rfl) ?_
            obtain ⟨e_101, hj_102, hm⟩ := bind_some hm
            refine lv (v := (sptr a_74 (Int.toNat x_81 * 1))) rfl rfl (r_idx Try.underlying31 Try.sizeOf3 rfl rfl (at?_some hj_102).1 (at?_some hj_102).2.1 (h_98.addr hj_102)) ?_
            refine lv (v := (.int .i64 e_101)) rfl rfl (r_ld Try.isAgg3 rfl (h_98.atInt hj_102)) ?_
            refine lv (v := (.bool (decide (e_101 = 0)))) rfl rfl (r_eql e_101 0 rfl rfl) ?_
            refine lnil ?_
            refine wcond (decide (e_101 = 0)) rfl (fun hb => ?_) (fun hb => ?_)
            · rw [if_pos hb] at hm
              clear hb
              refine wregion ?_
              refine lv (v := (.int .i64 x_81)) rfl rfl (r_move rfl) ?_
              obtain ⟨r_103, hr_104, hm⟩ := bind_some hm
              refine lc rfl rfl (r_call2 Try.call39 rfl rfl) (c_dag_heap_push N col_72 _ 2 3 rfl g_7 ready_77 a_78 cap_79 x_81 h_80 ohb_46 r_103 hr_104) ?_
              rintro _ w_109 ⟨col_111, oa_105, oc_106, rfl, hg_110, oh_107, ohb_108⟩
              refine ⟨_, rfl, ?_⟩
              replace h1 := h1.kpp hg_110 rfl
              replace h_68 := h_68.kpp hg_110 rfl
              replace h_98 := h_98.kpp hg_110 rfl rfl
              replace h_61 := h_61.kpp hg_110 rfl rfl
              replace hst := hst.kpp hg_110 rfl rfl
              clear h_80
              clear ohb_46
              refine lnil ?_
              exact ⟨col_111, a_74, cap_75, xs_100, oa_105, oc_106, r_103, hm, hst, h1, h_68, h_98, oh_107, ohb_108, h_61, rfl, rfl, rfl, rfl, rfl, rfl, rfl, rfl⟩
            · rw [if_neg (by rw [hb]; decide)] at hm
              clear hb
              refine wskip ?_
              exact ⟨col_72, a_74, cap_75, xs_100, a_78, cap_79, ready_77, hm, hst, h1, h_68, h_98, h_80, ohb_46, h_61, rfl, rfl, rfl, rfl, rfl, rfl, rfl, rfl⟩
      · rw [if_neg (by rw [hb]; decide)] at hm
        clear hb
        refine wexit (inB_hit ?_)
        refine wseq ?_
        refine wregion ?_
        refine lv (v := (.slice a_38 out_37.length cap_39)) rfl rfl (r_move rfl) ?_
        refine lv (v := (.slice a_38 out_37.length cap_39)) rfl rfl (r_assign rfl) ?_
        refine lnil ?_
        refine wret ?_
        cases hm
        exact ⟨rfl, colF w0.heap.size col col_28 (fun n => bif Nat.beq n 4 then c1 else 0), a_38, cap_39, rfl, hst.fin (fun n => bif Nat.beq n 4 then c1 else 0), hst.finOwn (g := (fun n => bif Nat.beq n 4 then c1 else 0)) rfl h_40 (by decide) (by decide) rfl⟩
  | cons x_24 l_25 =>
    obtain ⟨hat, hl2, hlt⟩ := drop_get hl
    have hk : (k_12 : Int) < (p0_parents.length : Int) := by omega
    have hkb := decide_eq_true hk
    rw [m_dag_sorted_L1.eq_2] at hm
    refine wseq ?_
    refine wregion ?_
    refine lv (v := (.bool (decide ((k_12 : Int) < (p0_parents.length : Int))))) rfl rfl (r_lss (k_12 : Int) (p0_parents.length : Int) rfl rfl) ?_
    refine lnil ?_
    refine wseq ?_
    refine wcondT (congrArg Value.bool hkb) ?_
    refine wskip ?_
    refine wseq ?_
    refine Wp.cut (fun f w_112 => ∃ (col_113 : Col) (a_115 : Option Addr) (cap_116 : Nat) (left_114 : List Int) (a_119 : Option Addr) (cap_120 : Nat) (ready_118 : List Int), m_dag_sorted_J2 k_12 (m_dag_sorted_L1 N p1_down l_25) left_114 ready_118 = some r ∧ St w0 (col0 col) col_113 w_112 ∧ Sl (Rep.slice (Rep.int .i64)) col_113 w_112 a1 cap1 p1_down ∧ Sl (Rep.slice (Rep.int .i64)) col_113 w_112 a0 cap0 p0_parents ∧ Own (Rep.int .i64) 3 1 col_113 w_112 a_115 cap_116 left_114 ∧ Own (Rep.int .i64) 3 3 col_113 w_112 a_119 cap_120 ready_118 ∧ Box 57 2 col_113 w_112 g_7 #[(.slice a_119 ready_118.length cap_120)] ∧ f 1 = (.slice a1 p1_down.length cap1) ∧ f 16 = (.slice a0 p0_parents.length cap0) ∧ f 17 = (.int .i64 (p0_parents.length : Int)) ∧ f 18 = (.int .i64 (k_12 : Int)) ∧ f 5 = (.slice a_115 left_114.length cap_116) ∧ f 6 = (.pointer (some ⟨g_7, 0, none⟩)) ∧ f 1000000 = (enc [])) ?_ ?_
    · intro f w_112 hJ
      obtain ⟨col_113, a_115, cap_116, left_114, a_119, cap_120, ready_118, hm, hst, h1, h0, h_117, h_121, hb_11, hs1, hs16, hs17, hs18, hs5, hs6, hs1000000⟩ := hJ
      rw [m_dag_sorted_J2.eq_1] at hm
      refine .ld (d := 1) (v := (.slice a1 p1_down.length cap1)) hs1 ?_
      refine .ld (d := 16) (v := (.slice a0 p0_parents.length cap0)) hs16 ?_
      refine .ld (d := 17) (v := (.int .i64 (p0_parents.length : Int))) hs17 ?_
      refine .ld (d := 18) (v := (.int .i64 (k_12 : Int))) hs18 ?_
      refine .ld (d := 5) (v := (.slice a_115 left_114.length cap_116)) hs5 ?_
      refine .ld (d := 6) (v := (.pointer (some ⟨g_7, 0, none⟩))) hs6 ?_
      refine .ld (d := 1000000) (v := (enc [])) hs1000000 ?_
      clear hs1 hs16 hs17 hs18 hs5 hs6 hs1000000
      refine wregion ?_
      refine lv (v := (.int .i64 (IntKind.i64.wrap ((k_12 : Int) + 1)))) rfl rfl (r_add (k_12 : Int) 1 rfl rfl) ?_
      refine lv (v := (.int .i64 (IntKind.i64.wrap ((k_12 : Int) + 1)))) rfl rfl (r_move rfl) ?_
      refine lnil ?_
      exact ⟨l_25.length, by simp, ⟨col_113, (k_12 + 1), a_115, cap_116, left_114, a_119, cap_120, ready_118, l_25, rfl, hl2, hm, hst, h1, h0, h_117, h_121, hb_11, (congrArg (Value.int .i64) (wrap_succ (Nat.lt_of_lt_of_le hlt h0.1.1))), rfl, rfl, rfl, rfl, rfl, rfl⟩⟩
    · refine wblock ?_
      refine wseq ?_
      refine wregion ?_
      refine lv (v := (.int .i64 (k_12 : Int))) rfl rfl (r_move rfl) ?_
      refine lv (v := (sptr a0 (Int.toNat (k_12 : Int) * 1))) rfl rfl (r_idx Try.underlying22 Try.sizeOf31 rfl rfl (at?_some hat).1 (at?_some hat).2.1 (h0.addr hat)) ?_
      obtain ⟨_, hr_122, hA_123⟩ := h0.atN hat
      obtain ⟨⟨a_124, cap_125, rfl, h_126⟩, _⟩ := hr_122
      refine lv (v := (.slice a_124 x_24.length cap_125)) rfl rfl (r_ld Try.isAgg31 rfl hA_123.one) ?_
      refine lv (v := (.int .i64 (k_12 : Int))) rfl rfl (r_assign rfl) ?_
      refine lv (v := (.slice a_124 x_24.length cap_125)) rfl rfl (r_assign rfl) ?_
      refine lnil ?_
      refine wseq ?_
      refine wregion ?_
      refine lv (v := (.slice a_17 left_16.length cap_18)) rfl rfl (r_move rfl) ?_
      refine lv (v := (.int .i64 (k_12 : Int))) rfl rfl (r_move rfl) ?_
      refine lv (v := (.slice a_124 x_24.length cap_125)) rfl rfl (r_move rfl) ?_
      refine lv (v := (.int .i64 (x_24.length : Int))) rfl rfl (r_len Try.underlying31 rfl) ?_
      obtain ⟨e_127, hj_128, hm⟩ := bind_some hm
      refine lv (v := (sptr a_17 (Int.toNat (k_12 : Int) * 1))) rfl rfl (r_idx Try.underlying31 Try.sizeOf3 rfl rfl (at?_some hj_128).1 (at?_some hj_128).2.1 (h_19.addr hj_128)) ?_
      obtain ⟨xs_134, hz_133, hm⟩ := bind_some hm
      have hz_133 : xs_134 = left_16.set (Int.toNat (k_12 : Int)) (x_24.length : Int) := (Option.some.inj hz_133).symm
      refine l_store (x1 := (x_24.length : Int)) (v := (.int .i64 (x_24.length : Int))) h_19 hj_128 rfl Try.sizeOf3 (rd_int .i64 (x_24.length : Int)) rfl rfl (by decide) ?_
      intro w_129 hk_130 hs_131 h_132
      rw [← hz_133] at h_132
      replace h1 := h1.kp hk_130 (by decide)
      replace h0 := h0.kp hk_130 (by decide)
      replace h_23 := h_23.kp hk_130 (by decide) (by decide)
      replace h_126 := h_126.kp hk_130 (by decide)
      replace hb_11 := hb_11.kp hk_130 (by decide)
      replace hst := hst.kp hk_130 hs_131 (by decide) (by decide)
      refine .ld (d := 5) (v := (.slice a_17 xs_134.length cap_18)) (congrArg (fun n => Value.slice a_17 n cap_18) (show left_16.length = xs_134.length by rw [hz_133, List.length_set])) ?_
      clear h_19
      refine lnil ?_
      refine wseq ?_
      refine wregion ?_
      refine lv (v := (.slice a_124 x_24.length cap_125)) rfl rfl (r_move rfl) ?_
      refine lv (v := (.int .i64 (x_24.length : Int))) rfl rfl (r_len Try.underlying31 rfl) ?_
      refine lv (v := (.bool (decide ((x_24.length : Int) = 0)))) rfl rfl (r_eql (x_24.length : Int) 0 rfl rfl) ?_
      refine lnil ?_
      refine wcond (decide ((x_24.length : Int) = 0)) rfl (fun hb => ?_) (fun hb => ?_)
      · rw [if_pos hb] at hm
        clear hb
        refine wregion ?_
        refine lv (v := (.int .i64 (k_12 : Int))) rfl rfl (r_move rfl) ?_
        obtain ⟨r_135, hr_136, hm⟩ := bind_some hm
        refine lc rfl rfl (r_call2 Try.call39 rfl rfl) (c_dag_heap_push N col_15 _ 2 3 rfl g_7 ready_20 a_21 cap_22 (k_12 : Int) h_23 hb_11 r_135 hr_136) ?_
        rintro _ w_141 ⟨col_143, oa_137, oc_138, rfl, hg_142, oh_139, ohb_140⟩
        refine ⟨_, rfl, ?_⟩
        replace h1 := h1.kpp hg_142 rfl
        replace h0 := h0.kpp hg_142 rfl
        replace h_132 := h_132.kpp hg_142 rfl rfl
        replace hst := hst.kpp hg_142 rfl rfl
        clear h_23
        clear hb_11
        refine lnil ?_
        exact ⟨col_143, a_17, cap_18, xs_134, oa_137, oc_138, r_135, hm, hst, h1, h0, h_132, oh_139, ohb_140, rfl, rfl, rfl, rfl, rfl, rfl, rfl⟩
      · rw [if_neg (by rw [hb]; decide)] at hm
        clear hb
        refine wskip ?_
        exact ⟨col_15, a_17, cap_18, xs_134, a_21, cap_22, ready_20, hm, hst, h1, h0, h_132, h_23, hb_11, rfl, rfl, rfl, rfl, rfl, rfl, rfl⟩




def m_dag_Order (N : Nat) (p0_parents : (List (List Int))) : Option ((List Int) × Int) :=
  (m_dag_fits p0_parents).bind fun r_1 => if (!decide (r_1 = 0)) = true then (some (([] : List Int), r_1)) else ((m_dag_children p0_parents).bind fun r_5 => (m_dag_sorted N p0_parents r_5).bind fun r_13 => if (decide ((r_13.length : Int) < (p0_parents.length : Int))) = true then (some (([] : List Int), 42)) else (some (r_13, 0)))

set_option maxRecDepth 100000 in
theorem c_dag_Order (N : Nat) (c1 : Nat) (col : Col) (w0 : World) (a0 : Option Addr) (cap0 : Nat) (p0_parents : (List (List Int))) (h0 : Sl (Rep.slice (Rep.int .i64)) col w0 a0 cap0 p0_parents) (r : ((List Int) × Int)) (hm : m_dag_Order N p0_parents = some r) :
    Calls Try.prog 16 #[(.slice a0 p0_parents.length cap0)] w0 (fun e w' => ∃ (col' : Col) (ra1 : Option Addr) (rc2 : Nat), e = .returned (.tuple #[(.slice ra1 r.1.length rc2), (.int .i64 r.2)]) ∧ Grow col w0 col' w' ∧ Own (Rep.int .i64) 3 c1 col' w' ra1 rc2 r.1) := by
  refine calls_of2 2 3 (m := 21) (args := [(.slice a0 p0_parents.length cap0)]) Try.func16 rfl rfl rfl rfl rfl ?_
  rw [m_dag_Order.eq_1] at hm
  have hst := St.start col w0
  replace h0 := h0.keep (Stay.start col w0)
  refine wseq ?_
  refine wregion ?_
  refine lv (v := (.slice none (([] : List Int).length) 0)) rfl rfl (r_assign rfl) ?_
  refine lv (v := (.int .i64 0)) rfl rfl (r_assign rfl) ?_
  refine lnil ?_
  refine wseq ?_
  refine wseq ?_
  refine wregion ?_
  refine lv (v := (.slice a0 p0_parents.length cap0)) rfl rfl (r_move rfl) ?_
  obtain ⟨r_1, hr_2, hm⟩ := bind_some hm
  refine lc rfl rfl (r_call1 Try.call27 rfl) (c_dag_fits (col0 col) _ a0 cap0 p0_parents h0 r_1 hr_2) ?_
  rintro _ w_3 ⟨rfl, hg_4⟩
  refine ⟨_, rfl, ?_⟩
  replace hg_4 : Grow (col0 col) w0 (col0 col) w_3 := .of_below hg_4
  replace h0 := h0.gr hg_4
  replace hst := hst.grow hg_4
  refine lv (v := (.int .i64 r_1)) rfl rfl (r_assign rfl) ?_
  refine lnil ?_
  refine wseq ?_
  refine wregion ?_
  refine lv (v := (.int .i64 r_1)) rfl rfl (r_move rfl) ?_
  refine lv (v := (.bool (!decide (r_1 = 0)))) rfl rfl (r_neq r_1 0 rfl rfl) ?_
  refine lnil ?_
  refine wcond (!decide (r_1 = 0)) rfl (fun hb => ?_) (fun hb => ?_)
  · rw [if_pos hb] at hm
    clear hb
    refine wseq ?_
    refine wregion ?_
    refine lv (v := (.int .i64 r_1)) rfl rfl (r_move rfl) ?_
    refine lv (v := (.slice none (([] : List Int).length) 0)) rfl rfl (r_assign rfl) ?_
    refine lv (v := (.int .i64 r_1)) rfl rfl (r_assign rfl) ?_
    refine lnil ?_
    refine wret ?_
    cases hm
    exact ⟨rfl, colF w0.heap.size col (col0 col) (fun n => 0), none, 0, rfl, hst.fin (fun n => 0), Own.nil⟩
  · rw [if_neg (by rw [hb]; decide)] at hm
    clear hb
    refine wskip ?_
    refine wseq ?_
    refine wregion ?_
    refine lv (v := (.slice a0 p0_parents.length cap0)) rfl rfl (r_move rfl) ?_
    refine lv (v := (.slice a0 p0_parents.length cap0)) rfl rfl (r_move rfl) ?_
    obtain ⟨r_5, hr_6, hm⟩ := bind_some hm
    refine lc rfl rfl (r_call1 Try.call29 rfl) (c_dag_children 1 (col0 col) _ a0 cap0 p0_parents h0 r_5 hr_6) ?_
    rintro _ w_10 ⟨col_12, ra_7, rc_8, rfl, hg_11, rh_9⟩
    refine ⟨_, rfl, ?_⟩
    replace h0 := h0.gr hg_11
    replace hst := hst.grow hg_11
    obtain ⟨r_13, hr_14, hm⟩ := bind_some hm
    refine lc rfl rfl (r_call2 Try.call28 rfl rfl) (c_dag_sorted N 2 (frC 1 col_12) _ a0 cap0 p0_parents ra_7 rc_8 r_5 (h0.froz 1) (rh_9.toSlF (Froz.row (Froz.int .i64))) r_13 hr_14) ?_
    rintro _ w_18 ⟨col_20, ra_15, rc_16, rfl, hg_19, rh_17⟩
    refine ⟨_, rfl, ?_⟩
    replace rh_17 := rh_17.thaw (flat_int .i64) hg_19 ((Fz.refl (col := col_12)).froz 1) (by decide)
    replace hg_19 := hg_19.thawR (col := col_12)
    generalize colR w_10.heap.size col_12 col_20 = col_21 at *
    replace h0 := h0.gr hg_19
    replace rh_9 := rh_9.gr hg_19
    replace hst := hst.grow hg_19
    refine lv (v := (.slice ra_15 r_13.length rc_16)) rfl rfl (r_assign rfl) ?_
    refine lnil ?_
    refine wseq ?_
    refine wseq ?_
    refine wregion ?_
    refine lv (v := (.slice ra_15 r_13.length rc_16)) rfl rfl (r_move rfl) ?_
    refine lv (v := (.int .i64 (r_13.length : Int))) rfl rfl (r_len Try.underlying31 rfl) ?_
    refine lv (v := (.slice a0 p0_parents.length cap0)) rfl rfl (r_move rfl) ?_
    refine lv (v := (.int .i64 (p0_parents.length : Int))) rfl rfl (r_len Try.underlying22 rfl) ?_
    refine lv (v := (.bool (decide ((r_13.length : Int) < (p0_parents.length : Int))))) rfl rfl (r_lss (r_13.length : Int) (p0_parents.length : Int) rfl rfl) ?_
    refine lnil ?_
    refine wcond (decide ((r_13.length : Int) < (p0_parents.length : Int))) rfl (fun hb => ?_) (fun hb => ?_)
    · rw [if_pos hb] at hm
      clear hb
      refine wseq ?_
      refine wregion ?_
      refine lv (v := (.slice none (([] : List Int).length) 0)) rfl rfl (r_assign rfl) ?_
      refine lv (v := (.int .i64 42)) rfl rfl (r_assign rfl) ?_
      refine lnil ?_
      refine wret ?_
      cases hm
      exact ⟨rfl, colF w0.heap.size col col_21 (fun n => 0), none, 0, rfl, hst.fin (fun n => 0), Own.nil⟩
    · rw [if_neg (by rw [hb]; decide)] at hm
      clear hb
      refine wskip ?_
      refine wseq ?_
      refine wregion ?_
      refine lv (v := (.slice ra_15 r_13.length rc_16)) rfl rfl (r_move rfl) ?_
      refine lv (v := (.slice ra_15 r_13.length rc_16)) rfl rfl (r_assign rfl) ?_
      refine lv (v := (.int .i64 0)) rfl rfl (r_assign rfl) ?_
      refine lnil ?_
      refine wret ?_
      cases hm
      exact ⟨rfl, colF w0.heap.size col col_21 (fun n => bif Nat.beq n 2 then c1 else 0), ra_15, rc_16, rfl, hst.fin (fun n => bif Nat.beq n 2 then c1 else 0), hst.finOwn (g := (fun n => bif Nat.beq n 2 then c1 else 0)) rfl rh_17 (by decide) (by decide) rfl⟩




def m_dag_Check (N : Nat) (p0_parents : (List (List Int))) : Option Int :=
  (m_dag_Order N p0_parents).bind fun r_1 => some r_1.2

set_option maxRecDepth 100000 in
theorem c_dag_Check (N : Nat) (col : Col) (w0 : World) (a0 : Option Addr) (cap0 : Nat) (p0_parents : (List (List Int))) (h0 : Sl (Rep.slice (Rep.int .i64)) col w0 a0 cap0 p0_parents) (r : Int) (hm : m_dag_Check N p0_parents = some r) :
    Calls Try.prog 18 #[(.slice a0 p0_parents.length cap0)] w0 (fun e w' => e = .returned ((.int .i64 r)) ∧ Below w0.heap.size w0 w') := by
  refine calls_of1 2 (m := 11) (args := [(.slice a0 p0_parents.length cap0)]) Try.func18 rfl rfl rfl rfl rfl ?_
  rw [m_dag_Check.eq_1] at hm
  have hst := St.start col w0
  replace h0 := h0.keep (Stay.start col w0)
  refine wseq ?_
  refine wregion ?_
  refine lv (v := (.int .i64 0)) rfl rfl (r_assign rfl) ?_
  refine lnil ?_
  refine wseq ?_
  refine wregion ?_
  refine lv (v := (.slice a0 p0_parents.length cap0)) rfl rfl (r_move rfl) ?_
  obtain ⟨r_1, hr_2, hm⟩ := bind_some hm
  refine lc rfl rfl (r_call1 Try.call16 rfl) (c_dag_Order N 1 (col0 col) _ a0 cap0 p0_parents h0 r_1 hr_2) ?_
  rintro _ w_6 ⟨col_8, ra_3, rc_4, rfl, hg_7, rh_5⟩
  refine ⟨_, rfl, ?_⟩
  replace h0 := h0.gr hg_7
  replace hst := hst.grow hg_7
  refine lv (v := (.tuple #[(.slice ra_3 r_1.1.length rc_4), (.int .i64 r_1.2)])) rfl rfl (r_move rfl) ?_
  refine lv (v := (.slice ra_3 r_1.1.length rc_4)) rfl rfl (r_extract rfl rfl) ?_
  refine lv (v := (.int .i64 r_1.2)) rfl rfl (r_extract rfl rfl) ?_
  refine lv (v := (.slice ra_3 r_1.1.length rc_4)) rfl rfl (r_assign rfl) ?_
  refine lv (v := (.int .i64 r_1.2)) rfl rfl (r_assign rfl) ?_
  refine lnil ?_
  refine wseq ?_
  refine wregion ?_
  refine lv (v := (.int .i64 r_1.2)) rfl rfl (r_move rfl) ?_
  refine lv (v := (.int .i64 r_1.2)) rfl rfl (r_assign rfl) ?_
  refine lnil ?_
  refine wret ?_
  cases hm
  exact ⟨rfl, rfl, hst.below⟩



theorem el35_11 : ElemOk Try.prog 35 2 16 := ⟨Try.t35, _, rfl, rfl, rfl, rfl, rfl⟩

def m_dag_Edges_L2 (k_5 : Nat) (kk_L1 : (Nat → (List (Int × Int)) → Option ((List (Int × Int)) × Int))) : List Int → (List (Int × Int)) → Option ((List (Int × Int)) × Int)
  | [], out_24 => kk_L1 (k_5 + 1) out_24
  | x_28 :: l_29, out_24 => chk ((out_24.length + [(x_28, (k_5 : Int))].length) * 16 ≤ 140737488355328 ∧ out_24.length + [(x_28, (k_5 : Int))].length ≤ maxLen) ((m_dag_Edges_L2 k_5 kk_L1 l_29) (out_24 ++ [(x_28, (k_5 : Int))]))

def m_dag_Edges_L1  : List (List Int) → Nat → (List (Int × Int)) → Option ((List (Int × Int)) × Int)
  | [], k_5, out_9 => some (out_9, 0)
  | x_13 :: l_14, k_5, out_9 => m_dag_Edges_L2 k_5 (m_dag_Edges_L1 l_14) x_13 out_9

def m_dag_Edges (N : Nat) (p0_parents : (List (List Int))) : Option ((List (Int × Int)) × Int) :=
  (m_dag_Check N p0_parents).bind fun r_1 => if (!decide (r_1 = 0)) = true then (some (([] : List (Int × Int)), r_1)) else (m_dag_Edges_L1 p0_parents 0 ([] : List (Int × Int)))

set_option maxRecDepth 100000 in
theorem c_dag_Edges (N : Nat) (c1 : Nat) (col : Col) (w0 : World) (a0 : Option Addr) (cap0 : Nat) (p0_parents : (List (List Int))) (h0 : Sl (Rep.slice (Rep.int .i64)) col w0 a0 cap0 p0_parents) (r : ((List (Int × Int)) × Int)) (hm : m_dag_Edges N p0_parents = some r) :
    Calls Try.prog 11 #[(.slice a0 p0_parents.length cap0)] w0 (fun e w' => ∃ (col' : Col) (ra1 : Option Addr) (rc2 : Nat), e = .returned (.tuple #[(.slice ra1 r.1.length rc2), (.int .i64 r.2)]) ∧ Grow col w0 col' w' ∧ Own (Rep.pair (Rep.int .i64) (Rep.int .i64)) 35 c1 col' w' ra1 rc2 r.1) := by
  refine calls_of2 2 3 (m := 37) (args := [(.slice a0 p0_parents.length cap0)]) Try.func11 rfl rfl rfl rfl rfl ?_
  rw [m_dag_Edges.eq_1] at hm
  have hst := St.start col w0
  replace h0 := h0.keep (Stay.start col w0)
  refine wseq ?_
  refine wregion ?_
  refine lv (v := (.slice none (([] : List (Int × Int)).length) 0)) rfl rfl (r_assign rfl) ?_
  refine lv (v := (.int .i64 0)) rfl rfl (r_assign rfl) ?_
  refine lnil ?_
  refine wseq ?_
  refine wseq ?_
  refine wregion ?_
  refine lv (v := (.slice a0 p0_parents.length cap0)) rfl rfl (r_move rfl) ?_
  obtain ⟨r_1, hr_2, hm⟩ := bind_some hm
  refine lc rfl rfl (r_call1 Try.call18 rfl) (c_dag_Check N (col0 col) _ a0 cap0 p0_parents h0 r_1 hr_2) ?_
  rintro _ w_3 ⟨rfl, hg_4⟩
  refine ⟨_, rfl, ?_⟩
  replace hg_4 : Grow (col0 col) w0 (col0 col) w_3 := .of_below hg_4
  replace h0 := h0.gr hg_4
  replace hst := hst.grow hg_4
  refine lv (v := (.int .i64 r_1)) rfl rfl (r_assign rfl) ?_
  refine lnil ?_
  refine wseq ?_
  refine wregion ?_
  refine lv (v := (.int .i64 r_1)) rfl rfl (r_move rfl) ?_
  refine lv (v := (.bool (!decide (r_1 = 0)))) rfl rfl (r_neq r_1 0 rfl rfl) ?_
  refine lnil ?_
  refine wcond (!decide (r_1 = 0)) rfl (fun hb => ?_) (fun hb => ?_)
  · rw [if_pos hb] at hm
    clear hb
    refine wseq ?_
    refine wregion ?_
    refine lv (v := (.int .i64 r_1)) rfl rfl (r_move rfl) ?_
    refine lv (v := (.slice none (([] : List (Int × Int)).length) 0)) rfl rfl (r_assign rfl) ?_
    refine lv (v := (.int .i64 r_1)) rfl rfl (r_assign rfl) ?_
    refine lnil ?_
    refine wret ?_
    cases hm
    exact ⟨rfl, colF w0.heap.size col (col0 col) (fun n => 0), none, 0, rfl, hst.fin (fun n => 0), Own.nil⟩
  · rw [if_neg (by rw [hb]; decide)] at hm
    clear hb
    refine wskip ?_
    refine wseq ?_
    refine wregion ?_
    refine lv (v := (.slice none (([] : List (Int × Int)).length) 0)) rfl rfl (r_assign rfl) ?_
    refine lnil ?_
    refine wseq ?_
    refine wseq ?_
    refine wregion ?_
    refine lv (v := (.slice a0 p0_parents.length cap0)) rfl rfl (r_move rfl) ?_
    refine lv (v := (.int .i64 (p0_parents.length : Int))) rfl rfl (r_len Try.underlying22 rfl) ?_
    refine lv (v := (.int .i64 0)) rfl rfl (r_move rfl) ?_
    refine lnil ?_
    refine wblock ?_
    refine wloop (fun n f w_7 => ∃ (col_8 : Col) (k_5 : Nat) (a_10 : Option Addr) (cap_11 : Nat) (out_9 : List (Int × Int)) (l_6 : List (List Int)), n = l_6.length ∧ p0_parents.drop k_5 = l_6 ∧ m_dag_Edges_L1 l_6 k_5 out_9 = some r ∧ St w0 (col0 col) col_8 w_7 ∧ Sl (Rep.slice (Rep.int .i64)) col_8 w_7 a0 cap0 p0_parents ∧ Own (Rep.pair (Rep.int .i64) (Rep.int .i64)) 35 1 col_8 w_7 a_10 cap_11 out_9 ∧ f 17 = (.int .i64 (k_5 : Int)) ∧ f 15 = (.slice a0 p0_parents.length cap0) ∧ f 16 = (.int .i64 (p0_parents.length : Int)) ∧ f 5 = (.slice a_10 out_9.length cap_11) ∧ f 1000000 = (enc [])) p0_parents.length ⟨(col0 col), 0, none, 0, ([] : List (Int × Int)), p0_parents, rfl, rfl, hm, hst, h0, Own.nil, rfl, rfl, rfl, rfl, rfl⟩ ?_
    clear hm; intro n f w_7 hI
    obtain ⟨col_8, k_5, a_10, cap_11, out_9, l_6, hn, hl, hm, hst, h0, h_12, hs17, hs15, hs16, hs5, hs1000000⟩ := hI
    subst hn
    refine .ld (d := 17) (v := (.int .i64 (k_5 : Int))) hs17 ?_
    refine .ld (d := 15) (v := (.slice a0 p0_parents.length cap0)) hs15 ?_
    refine .ld (d := 16) (v := (.int .i64 (p0_parents.length : Int))) hs16 ?_
    refine .ld (d := 5) (v := (.slice a_10 out_9.length cap_11)) hs5 ?_
    refine .ld (d := 1000000) (v := (enc [])) hs1000000 ?_
    clear hs17 hs15 hs16 hs5 hs1000000
    cases l_6 with
    | nil =>
      have hk : ¬ ((k_5 : Int) < (p0_parents.length : Int)) := by have := List.drop_eq_nil_iff.1 hl; omega
      have hkb := decide_eq_false hk
      rw [m_dag_Edges_L1.eq_1] at hm
      refine wseq ?_
      refine wregion ?_
      refine lv (v := (.bool (decide ((k_5 : Int) < (p0_parents.length : Int))))) rfl rfl (r_lss (k_5 : Int) (p0_parents.length : Int) rfl rfl) ?_
      refine lnil ?_
      refine wseq ?_
      refine wcondF (congrArg Value.bool hkb) ?_
      refine wexit (inB_hit ?_)
      refine wseq ?_
      refine wregion ?_
      refine lv (v := (.slice a_10 out_9.length cap_11)) rfl rfl (r_move rfl) ?_
      refine lv (v := (.slice a_10 out_9.length cap_11)) rfl rfl (r_assign rfl) ?_
      refine lv (v := (.int .i64 0)) rfl rfl (r_assign rfl) ?_
      refine lnil ?_
      refine wret ?_
      cases hm
      exact ⟨rfl, colF w0.heap.size col col_8 (fun n => bif Nat.beq n 1 then c1 else 0), a_10, cap_11, rfl, hst.fin (fun n => bif Nat.beq n 1 then c1 else 0), hst.finOwn (g := (fun n => bif Nat.beq n 1 then c1 else 0)) rfl h_12 (by decide) (by decide) rfl⟩
    | cons x_13 l_14 =>
      obtain ⟨hat, hl2, hlt⟩ := drop_get hl
      have hk : (k_5 : Int) < (p0_parents.length : Int) := by omega
      have hkb := decide_eq_true hk
      rw [m_dag_Edges_L1.eq_2] at hm
      refine wseq ?_
      refine wregion ?_
      refine lv (v := (.bool (decide ((k_5 : Int) < (p0_parents.length : Int))))) rfl rfl (r_lss (k_5 : Int) (p0_parents.length : Int) rfl rfl) ?_
      refine lnil ?_
      refine wseq ?_
      refine wcondT (congrArg Value.bool hkb) ?_
      refine wskip ?_
      refine wseq ?_
      refine wblock ?_
      refine wseq ?_
      refine wregion ?_
      refine lv (v := (.int .i64 (k_5 : Int))) rfl rfl (r_move rfl) ?_
      refine lv (v := (sptr a0 (Int.toNat (k_5 : Int) * 1))) rfl rfl (r_idx Try.underlying22 Try.sizeOf31 rfl rfl (at?_some hat).1 (at?_some hat).2.1 (h0.addr hat)) ?_
      obtain ⟨_, hr_15, hA_16⟩ := h0.atN hat
      obtain ⟨⟨a_17, cap_18, rfl, h_19⟩, _⟩ := hr_15
      refine lv (v := (.slice a_17 x_13.length cap_18)) rfl rfl (r_ld Try.isAgg31 rfl hA_16.one) ?_
      refine lv (v := (.int .i64 (k_5 : Int))) rfl rfl (r_assign rfl) ?_
      refine lv (v := (.slice a_17 x_13.length cap_18)) rfl rfl (r_assign rfl) ?_
      refine lnil ?_
      refine wseq ?_
      refine wregion ?_
      refine lv (v := (.slice a_17 x_13.length cap_18)) rfl rfl (r_move rfl) ?_
      refine lv (v := (.int .i64 (x_13.length : Int))) rfl rfl (r_len Try.underlying31 rfl) ?_
      refine lv (v := (.int .i64 0)) rfl rfl (r_move rfl) ?_
      refine lnil ?_
      refine wblock ?_
      refine wloop (fun n f w_22 => ∃ (col_23 : Col) (k_20 : Nat) (a_25 : Option Addr) (cap_26 : Nat) (out_24 : List (Int × Int)) (l_21 : List Int), n = l_21.length ∧ x_13.drop k_20 = l_21 ∧ m_dag_Edges_L2 k_5 (m_dag_Edges_L1 l_14) l_21 out_24 = some r ∧ St w0 (col0 col) col_23 w_22 ∧ Sl (Rep.slice (Rep.int .i64)) col_23 w_22 a0 cap0 p0_parents ∧ Sl (Rep.int .i64) col_23 w_22 a_17 cap_18 x_13 ∧ Own (Rep.pair (Rep.int .i64) (Rep.int .i64)) 35 1 col_23 w_22 a_25 cap_26 out_24 ∧ f 24 = (.int .i64 (k_20 : Int)) ∧ f 15 = (.slice a0 p0_parents.length cap0) ∧ f 16 = (.int .i64 (p0_parents.length : Int)) ∧ f 17 = (.int .i64 (k_5 : Int)) ∧ f 22 = (.slice a_17 x_13.length cap_18) ∧ f 23 = (.int .i64 (x_13.length : Int)) ∧ f 5 = (.slice a_25 out_24.length cap_26) ∧ f 6 = (.int .i64 (k_5 : Int)) ∧ f 1000000 = (enc [])) x_13.length ⟨col_8, 0, a_10, cap_11, out_9, x_13, rfl, rfl, hm, hst, h0, h_19, h_12, rfl, rfl, rfl, rfl, rfl, rfl, rfl, rfl, rfl⟩ ?_
      clear hm; intro n f w_22 hI
      obtain ⟨col_23, k_20, a_25, cap_26, out_24, l_21, hn, hl, hm, hst, h0, h_19, h_27, hs24, hs15, hs16, hs17, hs22, hs23, hs5, hs6, hs1000000⟩ := hI
      subst hn
      refine .ld (d := 24) (v := (.int .i64 (k_20 : Int))) hs24 ?_
      refine .ld (d := 15) (v := (.slice a0 p0_parents.length cap0)) hs15 ?_
      refine .ld (d := 16) (v := (.int .i64 (p0_parents.length : Int))) hs16 ?_
      refine .ld (d := 17) (v := (.int .i64 (k_5 : Int))) hs17 ?_
      refine .ld (d := 22) (v := (.slice a_17 x_13.length cap_18)) hs22 ?_
      refine .ld (d := 23) (v := (.int .i64 (x_13.length : Int))) hs23 ?_
      refine .ld (d := 5) (v := (.slice a_25 out_24.length cap_26)) hs5 ?_
      refine .ld (d := 6) (v := (.int .i64 (k_5 : Int))) hs6 ?_
      refine .ld (d := 1000000) (v := (enc [])) hs1000000 ?_
      clear hs24 hs15 hs16 hs17 hs22 hs23 hs5 hs6 hs1000000
      cases l_21 with
      | nil =>
        have hk : ¬ ((k_20 : Int) < (x_13.length : Int)) := by have := List.drop_eq_nil_iff.1 hl; omega
        have hkb := decide_eq_false hk
        rw [m_dag_Edges_L2.eq_1] at hm
        refine wseq ?_
        refine wregion ?_
        refine lv (v := (.bool (decide ((k_20 : Int) < (x_13.length : Int))))) rfl rfl (r_lss (k_20 : Int) (x_13.length : Int) rfl rfl) ?_
        refine lnil ?_
        refine wseq ?_
        refine wcondF (congrArg Value.bool hkb) ?_
        refine wexit (inB_hit ?_)
        refine wregion ?_
        refine lv (v := (.int .i64 (IntKind.i64.wrap ((k_5 : Int) + 1)))) rfl rfl (r_add (k_5 : Int) 1 rfl rfl) ?_
        refine lv (v := (.int .i64 (IntKind.i64.wrap ((k_5 : Int) + 1)))) rfl rfl (r_move rfl) ?_
        refine lnil ?_
        exact ⟨l_14.length, by simp, ⟨col_23, (k_5 + 1), a_25, cap_26, out_24, l_14, rfl, hl2, hm, hst, h0, h_27, (congrArg (Value.int .i64) (wrap_succ (Nat.lt_of_lt_of_le hlt h0.1.1))), rfl, rfl, rfl, rfl⟩⟩
      | cons x_28 l_29 =>
        obtain ⟨hat, hl2, hlt⟩ := drop_get hl
        have hk : (k_20 : Int) < (x_13.length : Int) := by omega
        have hkb := decide_eq_true hk
        rw [m_dag_Edges_L2.eq_2] at hm
        refine wseq ?_
        refine wregion ?_
        refine lv (v := (.bool (decide ((k_20 : Int) < (x_13.length : Int))))) rfl rfl (r_lss (k_20 : Int) (x_13.length : Int) rfl rfl) ?_
        refine lnil ?_
        refine wseq ?_
        refine wcondT (congrArg Value.bool hkb) ?_
        refine wskip ?_
        refine wseq ?_
        refine wblock ?_
        refine wseq ?_
        refine wregion ?_
        refine lv (v := (sptr a_17 (Int.toNat (k_20 : Int) * 1))) rfl rfl (r_idx Try.underlying31 Try.sizeOf3 rfl rfl (at?_some hat).1 (at?_some hat).2.1 (h_19.addr hat)) ?_
        refine lv (v := (.int .i64 x_28)) rfl rfl (r_ld Try.isAgg3 rfl (h_19.atInt hat)) ?_
        refine lv (v := (.int .i64 x_28)) rfl rfl (r_assign rfl) ?_
        refine lnil ?_
        refine wregion ?_
        refine lv (v := (.slice a_25 out_24.length cap_26)) rfl rfl (r_move rfl) ?_
        refine lv (v := (.int .i64 x_28)) rfl rfl (r_move rfl) ?_
        refine lv (v := (.int .i64 (k_5 : Int))) rfl rfl (r_move rfl) ?_
        refine lv (v := (.agg #[(.int .i64 x_28), (.int .i64 (k_5 : Int))])) rfl rfl (r_build (l := [_, _]) (qs := [(0, 1), (1, 1)]) Try.underlying35 Try.zeroValue35 ⟨rfl, Try.sizeOf3, rfl, Try.sizeOf3, trivial⟩ rfl) ?_
        refine l_lit (col := col_23) (r := (Rep.pair (Rep.int .i64) (Rep.int .i64))) (xs := [(x_28, (k_5 : Int))]) [(.agg #[(.int .i64 x_28), (.int .i64 (k_5 : Int))])] 2 rfl Try.underlying24 el35_11 rfl rfl rfl rfl rfl rfl (by intro v hv; simp only [List.mem_cons, List.not_mem_nil, or_false] at hv; subst hv; rfl) (RowsH.ofF (Rows.consF (r := (Rep.pair (Rep.int .i64) (Rep.int .i64))) (x := (x_28, (k_5 : Int))) (cs := [(.int .i64 x_28), (.int .i64 (k_5 : Int))]) (rd_pairI (rd_int .i64 x_28) (rd_int .i64 (k_5 : Int))) Rows.nil0)) ?_
        intro a_30 w_31 col_32 hg_33 h_34
        replace h0 := h0.gr hg_33
        replace h_19 := h_19.gr hg_33
        replace h_27 := h_27.gr hg_33
        replace hst := hst.grow hg_33
        obtain ⟨hb_35, hm⟩ := chk_some hm
        refine l_appendM (col := col_32) (w := w_31) (r := (Rep.pair (Rep.int .i64) (Rep.int .i64))) (c := 1) (c2 := 1) (xs := out_24) (ys := [(x_28, (k_5 : Int))]) h_27 (h_34.srcN (NB.pair (NB.int (k := .i64)) (NB.int (k := .i64)))) rfl Try.underlying24 el35_11 rfl rfl rfl hb_35.1 hb_35.2 (by decide) ?_
        intro a_36 cap_37 w_38 col_39 hk_40 h_41
        replace h0 := h0.kpp hk_40 rfl
        replace h_19 := h_19.kpp hk_40 rfl
        replace h_34 := h_34.kpp hk_40 rfl rfl
        replace hst := hst.kpp hk_40 rfl rfl
        clear h_27
        refine lv (v := (.slice a_36 ((out_24 ++ [(x_28, (k_5 : Int))]).length) cap_37)) rfl rfl (r_assign rfl) ?_
        refine lnil ?_
        refine wregion ?_
        refine lv (v := (.int .i64 (IntKind.i64.wrap ((k_20 : Int) + 1)))) rfl rfl (r_add (k_20 : Int) 1 rfl rfl) ?_
        refine lv (v := (.int .i64 (IntKind.i64.wrap ((k_20 : Int) + 1)))) rfl rfl (r_move rfl) ?_
        refine lnil ?_
        exact ⟨l_29.length, by simp, ⟨col_39, (k_20 + 1), a_36, cap_37, (out_24 ++ [(x_28, (k_5 : Int))]), l_29, rfl, hl2, hm, hst, h0, h_19, h_41, (congrArg (Value.int .i64) (wrap_succ (Nat.lt_of_lt_of_le hlt h_19.1.1))), rfl, rfl, rfl, rfl, rfl, rfl, rfl, rfl⟩⟩



def totl (P : List (List Int)) : Nat := (P.map List.length).sum
theorem totl_cons (l : List Int) (P : List (List Int)) : totl (l :: P) = l.length + totl P := by simp [totl]
theorem totl_mem {l : List Int} : ∀ {P : List (List Int)}, l ∈ P → l.length ≤ totl P
  | x :: P, h => by
    rw [totl_cons]
    rcases List.mem_cons.1 h with rfl | h
    · omega
    · have := totl_mem h; omega
theorem totl_drop (P : List (List Int)) (i : Nat) (hi : i < P.length) : totl (P.drop i) = P[i].length + totl (P.drop (i + 1)) := by rw [List.drop_eq_getElem_cons hi, totl_cons]
theorem totl_drop_le (P : List (List Int)) (i : Nat) : totl (P.drop i) ≤ totl P := by
  induction P generalizing i with
  | nil => simp [totl]
  | cons l P ih =>
    cases i with
    | zero => simp
    | succ i => rw [List.drop_succ_cons, totl_cons]; have := ih i; omega

theorem many_L1 (N : Nat) (P : List (List Int)) (hP : P.length ≤ 1048576) (ht : totl P ≤ 1048576) : ∀ (n s i : Nat), P.length < n + i → i ≤ P.length → s + totl (P.drop i) ≤ totl P →
    ∃ b, m_credencelaw14_many_L1 N P n (s : Int) (i : Int) = some b ∧ (b = false → P.length ≤ 200 ∧ s + totl (P.drop i) ≤ 2000)
  | 0, s, i, h, hi, hs => by omega
  | n + 1, s, i, h, hi, hs => by
    rw [m_credencelaw14_many_L1.eq_2]
    have hend : ∀ j : Nat, ((P.length ≤ 200 → j = P.length)) → ∃ b, (if decide (200 < (P.length : Int)) = true then m_credencelaw14_many_J2 true else m_credencelaw14_many_J2 (decide (2000 < (s : Int)))) = some b ∧ (b = false → P.length ≤ 200 ∧ s + totl (P.drop j) ≤ 2000) := by
      intro j hj
      by_cases h2 : 200 < P.length
      · rw [if_pos (decide_eq_true (by omega))]; exact ⟨true, rfl, fun h => by cases h⟩
      · rw [if_neg (by rw [decide_eq_true_eq]; omega)]
        refine ⟨_, rfl, fun hb => ?_⟩
        rw [decide_eq_false_iff_not] at hb
        rw [hj (by omega), List.drop_length]
        simp only [totl, List.map_nil, List.sum_nil]; omega
    by_cases hlt : i < P.length
    · rw [if_pos (by simpa using hlt)]
      by_cases h2 : i ≤ 200
      · have h3 := totl_drop P i hlt
        rw [m_credencelaw14_many_J1, if_pos (decide_eq_true (by omega)), at?_lt hlt, Option.bind_some, wS (by omega), w64 (by omega)]
        rw [show ((s : Int) + (P[i].length : Int)) = ((s + P[i].length : Nat) : Int) by omega]
        obtain ⟨b, h4, h5⟩ := many_L1 N P hP ht n (s + P[i].length) (i + 1) (by omega) (by omega) (by omega)
        exact ⟨b, h4, fun hb => ⟨(h5 hb).1, by have := (h5 hb).2; omega⟩⟩
      · rw [m_credencelaw14_many_J1, if_neg (by rw [decide_eq_true_eq]; omega)]
        exact hend i (by omega)
    · rw [if_neg (by simpa using hlt), m_credencelaw14_many_J1, if_neg (by simp)]
      exact hend i (by omega)
theorem many_eq {N : Nat} {P : List (List Int)} (hP : P.length ≤ 1048576) (ht : totl P ≤ 1048576) (hN : 1048576 < N) : ∃ b, m_credencelaw14_many N P = some b ∧ (b = false → P.length ≤ 200 ∧ totl P ≤ 2000) := by
  rw [m_credencelaw14_many]
  obtain ⟨b, h1, h2⟩ := many_L1 N P hP ht N 0 0 (by omega) (by omega) (by simp)
  exact ⟨b, h1, fun hb => by have := h2 hb; simpa using this⟩

def longL (l : List Int) : List Int := l ++ [-90, -91, -92, -93, -94, -95]
theorem long_eq {l : List Int} (hl : l.length ≤ 1048576) : m_credencelaw14_long l = some (longL l) := by
  rw [m_credencelaw14_long, chk_pos (by simp only [List.length_nil, Nat.zero_add, maxLen]; omega), chk_pos (by simp only [List.nil_append, List.length_cons, List.length_nil, maxLen]; omega)]
  rfl

theorem lent_L1 (N : Nat) (P : List (List Int)) (hP : P.length ≤ 1048576) (hl : ∀ l ∈ P, l.length ≤ 1048576) : ∀ (n i : Nat), P.length < n + i → i ≤ P.length →
    m_credencelaw14_lent_L1 N P n ((P.take i).map longL) (P.take i) (i : Int) = some ((P.length, P ++ [[-77]]), P.map longL)
  | 0, i, h, hi => by omega
  | n + 1, i, h, hi => by
    rw [m_credencelaw14_lent_L1.eq_2]
    by_cases hlt : i < P.length
    · have hl1 := hl _ (List.getElem_mem hlt)
      have htk : (longL P[i]).take P[i].length = P[i] := by rw [longL, List.take_left]
      rw [if_pos (by simpa using hlt), at?_lt hlt, Option.bind_some, long_eq hl1, Option.bind_some, Int.toNat_natCast, htk]
      rw [chk_pos (by simp only [List.length_map, List.length_take, List.length_cons, List.length_nil, maxLen]; omega), chk_pos (by simp only [longL, List.length_append]; omega), chk_pos (by simp only [List.length_take, List.length_cons, List.length_nil, maxLen]; omega), wS (by omega)]
      have := lent_L1 N P hP hl n (i + 1) (by omega) (by omega)
      rw [List.take_succ_eq_append_getElem hlt, List.map_append] at this
      exact this
    · have : P.take i = P := List.take_of_length_le (by omega)
      rw [if_neg (by simpa using hlt), this, chk_pos (by simp only [List.length_cons, List.length_nil, maxLen]; omega), chk_pos (by simp only [List.length_append]; omega), Int.toNat_natCast]
theorem lent_eq {N : Nat} {P : List (List Int)} (hP : P.length ≤ 1048576) (hl : ∀ l ∈ P, l.length ≤ 1048576) (hN : 1048576 < N) : m_credencelaw14_lent N P = some ((P.length, P ++ [[-77]]), P.map longL) := by
  rw [m_credencelaw14_lent]; simpa using lent_L1 N P hP hl N 0 (by omega) (by omega)

theorem kept_L1 (N : Nat) (P : List (List Int)) (hP : P.length ≤ 1000000) (hl : ∀ l ∈ P, l.length ≤ 1000000) (hN : 1048576 < N) : ∀ (n i : Nat), P.length < n + i → i ≤ P.length →
    m_credencelaw14_kept_L1 N P.length (P ++ [[-77]]) (P.map longL) P n (i : Int) = some true
  | 0, i, h, hi => by omega
  | n + 1, i, h, hi => by
    have htk : (P ++ [[-77]]).take P.length = P := List.take_left
    rw [m_credencelaw14_kept_L1.eq_2, htk]
    by_cases hlt : i < P.length
    · have hl1 := hl _ (List.getElem_mem hlt)
      rw [if_pos (by simpa using hlt), at?_lt (xs := P.map longL) (by simpa using hlt), Option.bind_some, at?_lt hlt, Option.bind_some, long_eq (by omega), Option.bind_some, Same_eq (by simp only [List.getElem_map, longL, List.length_append, List.length_cons, List.length_nil]; omega) hN, Option.bind_some]
      rw [List.getElem_map, decide_eq_true rfl, if_neg (by decide), Option.bind_some, Same_eq (by omega) hN, Option.bind_some, decide_eq_true rfl, m_credencelaw14_kept_J2, if_neg (by decide), wS (by omega)]
      exact kept_L1 N P hP hl hN n (i + 1) (by omega) (by omega)
    · rw [if_neg (by simpa using hlt), w64 (by omega), chk_pos (by simp only [List.length_append, List.length_cons, List.length_nil]; omega)]
      rw [show ((P.length : Int) + 1).toNat = P.length + 1 by omega, List.take_of_length_le (by simp), at?_lt (k := P.length) (by simp), Option.bind_some]
      simp [m_credencelaw14_kept_J3, at?]
theorem kept_eq {N : Nat} {P : List (List Int)} (hP : P.length ≤ 1000000) (hl : ∀ l ∈ P, l.length ≤ 1000000) (hN : 1048576 < N) : m_credencelaw14_kept N P.length (P ++ [[-77]]) (P.map longL) P = some true := by
  rw [m_credencelaw14_kept]
  have htk : (P ++ [[-77]]).take P.length = P := List.take_left
  rw [htk, if_neg (by simp), m_credencelaw14_kept_J1, if_neg (by simp)]
  exact kept_L1 N P hP hl hN N 0 (by omega) (by omega)

def flatE (l : List (Int × Int)) : List Int := l.flatMap fun e => [e.1, e.2]
theorem flatE_length (l : List (Int × Int)) : (flatE l).length = 2 * l.length := by
  induction l with
  | nil => rfl
  | cons x l ih => simp only [flatE, List.flatMap_cons, List.length_append, List.length_cons, List.length_nil] at ih ⊢; omega
theorem edges_L1 (N : Nat) (l : List (Int × Int)) (hl : l.length ≤ 1000000) : ∀ (n i : Nat), l.length < n + i → i ≤ l.length →
    m_credencelaw14_edges_L1 N l n (flatE (l.take i)) (i : Int) = some (flatE l)
  | 0, i, h, hi => by omega
  | n + 1, i, h, hi => by
    rw [m_credencelaw14_edges_L1.eq_2]
    by_cases hlt : i < l.length
    · rw [if_pos (by simpa using hlt), at?_lt hlt, Option.bind_some, chk_pos (by rw [flatE_length]; simp only [List.length_take, List.length_cons, List.length_nil, maxLen]; omega), wS (by omega)]
      have := edges_L1 N l hl n (i + 1) (by omega) (by omega)
      have e : flatE (l.take (i + 1)) = flatE (l.take i) ++ [l[i].1, l[i].2] := by rw [List.take_succ_eq_append_getElem hlt, flatE, List.flatMap_append]; rfl
      rw [← e]; exact this
    · rw [if_neg (by simpa using hlt), List.take_of_length_le (by omega)]
theorem edges_eq {N : Nat} {l : List (Int × Int)} (hl : l.length ≤ 1000000) (hN : 1048576 < N) : m_credencelaw14_edges N l = some (flatE l) := by
  rw [m_credencelaw14_edges]; simpa [flatE] using edges_L1 N l hl N 0 (by omega) (by omega)

/-- Edges: of each point, from the k-th on, its parents, in order. -/
def edgeL : Nat → List (List Int) → List (Int × Int)
  | _, [] => []
  | k, l :: P => l.map (fun p => (p, (k : Int))) ++ edgeL (k + 1) P
theorem edgeL_length : ∀ (k : Nat) (P : List (List Int)), (edgeL k P).length = totl P
  | _, [] => rfl
  | k, l :: P => by rw [edgeL, List.length_append, List.length_map, edgeL_length, totl_cons]

theorem dagEdges_L2 (k : Nat) (kk : Nat → List (Int × Int) → Option (List (Int × Int) × Int)) : ∀ (l : List Int) (out : List (Int × Int)), out.length + l.length ≤ 1048576 →
    m_dag_Edges_L2 k kk l out = kk (k + 1) (out ++ l.map fun p => (p, (k : Int)))
  | [], out, h => by rw [m_dag_Edges_L2.eq_1]; simp
  | x :: l, out, h => by
    simp only [List.length_cons] at h
    rw [m_dag_Edges_L2.eq_2, chk_pos (by simp only [List.length_cons, List.length_nil, maxLen]; omega), dagEdges_L2 k kk l _ (by simp only [List.length_append, List.length_cons, List.length_nil]; omega)]
    simp
theorem dagEdges_L1 : ∀ (P : List (List Int)) (k : Nat) (out : List (Int × Int)), out.length + totl P ≤ 1048576 → m_dag_Edges_L1 P k out = some (out ++ edgeL k P, 0)
  | [], k, out, h => by rw [m_dag_Edges_L1.eq_1]; simp [edgeL]
  | l :: P, k, out, h => by
    rw [totl_cons] at h
    rw [m_dag_Edges_L1.eq_2, dagEdges_L2 _ _ _ _ (by omega), dagEdges_L1 P (k + 1) _ (by simp only [List.length_append, List.length_map]; omega)]
    simp [edgeL]

theorem refEdges_L2 (N : Nat) (P : List (List Int)) (i : Nat) (hi : i < P.length) (hP : P.length ≤ 1048576) (kk : List (Int × Int) → Int → Option (List (Int × Int) × Int)) (out : List (Int × Int)) (ho : out.length + P[i].length ≤ 1048576) : ∀ (n k : Nat), P[i].length < n + k → k ≤ P[i].length →
    m_credenceref14_Edges_L2 N P (i : Int) kk n (out ++ (P[i].take k).map fun p => (p, (i : Int))) (k : Int) = kk (out ++ P[i].map fun p => (p, (i : Int))) ((i + 1 : Nat) : Int)
  | 0, k, h, hk => by omega
  | n + 1, k, h, hk => by
    rw [m_credenceref14_Edges_L2.eq_2, at?_lt hi, Option.bind_some]
    by_cases hlt : k < P[i].length
    · rw [if_pos (by simpa using hlt), at?_lt hlt, Option.bind_some, chk_pos (by simp only [List.length_append, List.length_map, List.length_take, List.length_cons, List.length_nil, maxLen]; omega), wS (by omega)]
      have := refEdges_L2 N P i hi hP kk out ho n (k + 1) (by omega) (by omega)
      have e : (P[i].take (k + 1)).map (fun p => (p, (i : Int))) = (P[i].take k).map (fun p => (p, (i : Int))) ++ [(P[i][k], (i : Int))] := by rw [List.take_succ_eq_append_getElem hlt, List.map_append]; rfl
      rw [List.append_assoc, ← e]; exact this
    · rw [if_neg (by simpa using hlt), List.take_of_length_le (by omega), wS (by omega)]
theorem refEdges_L1 (N : Nat) (P : List (List Int)) (hP : P.length ≤ 1048576) (ht : totl P ≤ 1048576) (hN : 1048576 < N) : ∀ (n i : Nat) (out : List (Int × Int)), P.length < n + i → i ≤ P.length → out.length + totl (P.drop i) ≤ totl P →
    m_credenceref14_Edges_L1 N P n out (i : Int) = some (out ++ edgeL i (P.drop i), 0)
  | 0, i, out, h, hi, ho => by omega
  | n + 1, i, out, h, hi, ho => by
    rw [m_credenceref14_Edges_L1.eq_2]
    by_cases hlt : i < P.length
    · have h3 := totl_drop P i hlt
      have h4 := refEdges_L2 N P i hlt hP (m_credenceref14_Edges_L1 N P n) out (by omega) N 0 (by omega) (by omega)
      simp only [List.take_zero, List.map_nil, List.append_nil] at h4
      rw [if_pos (by simpa using hlt)]
      rw [show (0 : Int) = ((0 : Nat) : Int) from rfl, h4, refEdges_L1 N P hP ht hN n (i + 1) _ (by omega) (by omega) (by simp only [List.length_append, List.length_map]; omega)]
      rw [List.drop_eq_getElem_cons hlt, edgeL]
      simp
    · rw [if_neg (by simpa using hlt), List.drop_eq_nil_of_le (by omega)]; simp [edgeL]


/-- Is a point ready: not out, and all its parents are? -/
def rdyB (P : List (List Int)) (l : List Int) (i : Nat) : Bool := !decide ((i : Int) ∈ l) && (P.getD i []).all fun p => decide (p ∈ l)
/-- The least point from the i-th on that is ready. -/
def nextF (P : List (List Int)) (l : List Int) (i : Nat) : Option Nat := (List.range' i (P.length - i)).find? (rdyB P l)
theorem nextF_end (P : List (List Int)) (l : List Int) (i : Nat) (h : P.length ≤ i) : nextF P l i = none := by
  rw [nextF, Nat.sub_eq_zero_of_le h]; rfl
theorem nextF_step (P : List (List Int)) (l : List Int) (i : Nat) (h : i < P.length) : nextF P l i = if rdyB P l i then some i else nextF P l (i + 1) := by
  rw [nextF, nextF, show P.length - i = (P.length - (i + 1)) + 1 by omega, List.range'_succ, List.find?_cons]
  cases rdyB P l i <;> simp

section
variable (N : Nat) (P : List (List Int)) (l : List Int)
theorem out_L3 (hP : P.length ≤ 1048576) (hl : l.length ≤ 1048576) (hN : 1048576 < N) (next : Int) (i : Nat) (hi : i < P.length) (hli : P[i].length ≤ 1048576) (kk : Int → Int → Option (List Int)) : ∀ (n : Nat) (b : Bool) (k : Nat), P[i].length < n + k → k ≤ P[i].length →
    m_credenceref14_out_L3 N P l next (i : Int) kk n b (k : Int) = kk (if (b && (P[i].drop k).all fun p => decide (p ∈ l)) = true then (i : Int) else next) ((i + 1 : Nat) : Int)
  | 0, b, k, h, hk => by omega
  | n + 1, b, k, h, hk => by
    rw [m_credenceref14_out_L3.eq_2, at?_lt hi, Option.bind_some]
    by_cases hlt : k < P[i].length
    · rw [if_pos (by simpa using hlt), at?_lt hlt, Option.bind_some, Has_eq hl hN, Option.bind_some, m_credenceref14_out_J3, m_credenceref14_out_J3, wS (by omega), out_L3 hP hl hN next i hi hli kk n _ (k + 1) (by omega) (by omega), out_L3 hP hl hN next i hi hli kk n _ (k + 1) (by omega) (by omega), List.drop_eq_getElem_cons hlt, List.all_cons]
      cases b
      · rw [if_neg (by decide), Bool.false_and, Bool.false_and]
      · rw [if_pos rfl, Bool.true_and]
    · rw [if_neg (by simpa using hlt), List.drop_eq_nil_of_le (by omega), m_credenceref14_out_J2, m_credenceref14_out_J2, wS (by omega), List.all_nil, Bool.and_true]
      cases b
      · rw [if_neg (by decide), if_neg (by decide)]
      · rw [if_pos rfl, if_pos rfl]
/-- What is done with the next point. -/
def putF (kk : List Int → Option (List Int)) : Option Nat → Option (List Int)
  | none => some l
  | some i => kk (l ++ [(i : Int)])
theorem out_end (hl : l.length < 1048576) (kk : List Int → Option (List Int)) (i : Nat) (i' : Int) (kk2 : Int → Int → Option (List Int)) : m_credenceref14_out_J1 N P l kk (i : Int) i' kk2 false = kk (l ++ [(i : Int)]) := by
  rw [m_credenceref14_out_J1, if_neg (by decide), if_neg (by rw [decide_eq_true_eq]; omega), chk_pos (by simp only [List.length_cons, List.length_nil, maxLen]; omega)]
theorem out_L2 (hP : P.length ≤ 1048576) (hls : ∀ x ∈ P, x.length ≤ 1048576) (hl : l.length < 1048576) (hN : 1048576 < N) (kk : List Int → Option (List Int)) : ∀ (n i : Nat), P.length < n + i → i ≤ P.length →
    m_credenceref14_out_L2 N P l kk n (-1) (i : Int) = putF l kk (nextF P l i)
  | 0, i, h, hi => by omega
  | n + 1, i, h, hi => by
    rw [m_credenceref14_out_L2.eq_2]
    by_cases hlt : i < P.length
    · have h3 := out_L3 N P l hP (by omega) hN (-1) i hlt (hls _ (List.getElem_mem hlt)) (m_credenceref14_out_L2 N P l kk n) N (!decide ((i : Int) ∈ l)) 0 (by have := hls _ (List.getElem_mem hlt); omega) (by omega)
      rw [if_pos (by simpa using hlt), m_credenceref14_out_J1, if_pos (by decide), Has_eq (by omega) hN, Option.bind_some]
      rw [show (0 : Int) = ((0 : Nat) : Int) from rfl, h3, nextF_step P l i hlt, List.drop_zero]
      have hb : (!decide ((i : Int) ∈ l) && P[i].all fun p => decide (p ∈ l)) = rdyB P l i := by
        rw [rdyB, List.getD_eq_getElem?_getD, List.getElem?_eq_getElem hlt]; rfl
      rw [hb]
      by_cases hr : rdyB P l i = true
      · rw [if_pos hr, if_pos hr]
        match n, h with
        | 0, h => omega
        | n + 1, h =>
          rw [m_credenceref14_out_L2.eq_2]
          by_cases h2 : i + 1 < P.length
          · rw [if_pos (decide_eq_true (by omega)), show decide ((i : Int) < 0) = false from decide_eq_false (by omega)]
            exact out_end N P l hl kk i _ _
          · rw [if_neg (by rw [decide_eq_true_eq]; omega)]
            exact out_end N P l hl kk i _ _
      · rw [if_neg hr, if_neg hr]
        exact out_L2 hP hls hl hN kk n (i + 1) (by omega) (by omega)
    · rw [if_neg (by simpa using hlt), nextF_end P l i (by omega), m_credenceref14_out_J1, if_neg (by decide), if_pos (by decide)]; rfl
end
theorem out_step {N : Nat} {P : List (List Int)} {l : List Int} (hP : P.length ≤ 1048576) (hls : ∀ x ∈ P, x.length ≤ 1048576) (hl : l.length < 1048576) (hN : 1048576 < N) (n : Nat) :
    m_credenceref14_out_L1 N P (n + 1) l = putF l (m_credenceref14_out_L1 N P n) (nextF P l 0) := by
  rw [m_credenceref14_out_L1.eq_2]
  exact out_L2 N P l hP hls hl hN _ N 0 (by omega) (by omega)

theorem nextF_some {P : List (List Int)} {l : List Int} {i j : Nat} (h : nextF P l i = some j) : i ≤ j ∧ j < P.length ∧ rdyB P l j = true ∧ ∀ k, i ≤ k → k < j → rdyB P l k = false := by
  rw [nextF, List.find?_range'_eq_some] at h
  obtain ⟨h1, h2, h3⟩ := h
  rw [List.mem_range'] at h2
  obtain ⟨q, h4, h5⟩ := h2
  refine ⟨by omega, by omega, h1, fun k hk1 hk2 => ?_⟩
  have := h3 k hk1 hk2
  simpa using this
theorem nextF_none {P : List (List Int)} {l : List Int} {i : Nat} (h : nextF P l i = none) : ∀ k, i ≤ k → k < P.length → rdyB P l k = false := by
  rw [nextF, List.find?_eq_none] at h
  intro k hk1 hk2
  have := h k (by rw [List.mem_range']; exact ⟨k - i, by omega, by omega⟩)
  simpa using this
theorem rdyB_iff {P : List (List Int)} {l : List Int} {i : Nat} (hi : i < P.length) : rdyB P l i = true ↔ (i : Int) ∉ l ∧ ∀ p ∈ P[i], p ∈ l := by
  rw [rdyB, List.getD_eq_getElem?_getD, List.getElem?_eq_getElem hi]
  simp

/-- What is out: points, each once, each with all its parents. -/
def OutOk (P : List (List Int)) (l : List Int) : Prop := l.Nodup ∧ (∀ x ∈ l, 0 ≤ x ∧ x < (P.length : Int)) ∧ ∀ (i : Nat) (hi : i < P.length), (i : Int) ∈ l → ∀ p ∈ P[i], p ∈ l
theorem OutOk.len {P : List (List Int)} {l : List Int} (h : OutOk P l) : l.length ≤ P.length := by
  have h1 := nodup_le (r := (List.range P.length).map fun i : Nat => (i : Int)) h.1 fun x hx => by
    have := h.2.1 x hx
    exact List.mem_map.2 ⟨x.toNat, List.mem_range.2 (by omega), by omega⟩
  simpa using h1
theorem OutOk.step {P : List (List Int)} {l : List Int} {j : Nat} (h : OutOk P l) (hn : nextF P l 0 = some j) : OutOk P (l ++ [(j : Int)]) ∧ l.length < P.length := by
  obtain ⟨_, h2, h3, _⟩ := nextF_some hn
  obtain ⟨h4, h5⟩ := (rdyB_iff h2).1 h3
  have h6 : OutOk P (l ++ [(j : Int)]) := by
    refine ⟨?_, ?_, ?_⟩
    · rw [List.nodup_append]
      refine ⟨h.1, by simp, fun a ha b hb e => ?_⟩
      rw [List.mem_singleton] at hb; subst hb; subst e; exact h4 ha
    · intro x hx
      rcases List.mem_append.1 hx with hx | hx
      · exact h.2.1 x hx
      · rw [List.mem_singleton] at hx; omega
    · intro i hi hm p hp
      rcases List.mem_append.1 hm with hm | hm
      · exact List.mem_append_left _ (h.2.2 i hi hm p hp)
      · rw [List.mem_singleton] at hm
        have : i = j := by omega
        subst this
        exact List.mem_append_left _ (h5 p hp)
  exact ⟨h6, by have := h6.len; rw [List.length_append, List.length_cons, List.length_nil] at this; omega⟩
/-- The points that can be put out, from l on. -/
theorem out_total {N : Nat} {P : List (List Int)} (hP : P.length < 1048576) (hls : ∀ x ∈ P, x.length ≤ 1048576) (hN : 1048576 < N) : ∀ (n : Nat) (l : List Int), OutOk P l → P.length < n + l.length →
    ∃ r, m_credenceref14_out_L1 N P n l = some r ∧ OutOk P r ∧ nextF P r 0 = none
  | 0, l, h, hn => by have := h.len; omega
  | n + 1, l, h, hn => by
    have hl := h.len
    rw [out_step (by omega) hls (by omega) hN]
    cases hnx : nextF P l 0 with
    | none => exact ⟨l, rfl, h, hnx⟩
    | some j =>
      obtain ⟨h1, h2⟩ := h.step hnx
      exact out_total hP hls hN n _ h1 (by simp; omega)
theorem out_eq {N : Nat} {P : List (List Int)} (hP : P.length < 1048576) (hls : ∀ x ∈ P, x.length ≤ 1048576) (hN : 1048576 < N) : ∃ r, m_credenceref14_out N P = some r ∧ OutOk P r ∧ nextF P r 0 = none := by
  rw [m_credenceref14_out]
  exact out_total hP hls hN N [] ⟨.nil, by simp, by simp⟩ (by simp; omega)


def gD (h : List Int) (j : Nat) : Int := h.getD j 0
theorem gD_lt {h : List Int} {j : Nat} (hj : j < h.length) : gD h j = h[j] := by rw [gD, List.getD_eq_getElem?_getD, List.getElem?_eq_getElem hj]; rfl
theorem at?_gD {h : List Int} {j : Nat} (hj : j < h.length) : at? h (j : Int) = some (gD h j) := by rw [at?_lt hj, gD_lt hj]
def swapL (h : List Int) (i p : Nat) : List Int := (h.set i (gD h p)).set p (gD h i)
theorem swapL_length (h : List Int) (i p : Nat) : (swapL h i p).length = h.length := by simp [swapL]
theorem swapL_perm {h : List Int} {i p : Nat} (hi : i < h.length) (hp : p < h.length) : (swapL h i p).Perm h := by
  rw [swapL, gD_lt hi, gD_lt hp]; exact List.set_set_perm hi hp
theorem gD_set (h : List Int) (i j : Nat) (x : Int) (hi : i < h.length) : gD (h.set i x) j = if j = i then x else gD h j := by
  rw [gD, gD, List.getD_eq_getElem?_getD, List.getD_eq_getElem?_getD, List.getElem?_set]
  by_cases h1 : i = j
  · subst h1; rw [if_pos rfl, if_pos hi, if_pos rfl]; rfl
  · rw [if_neg h1, if_neg (Ne.symm h1)]
theorem gD_swap {h : List Int} {i p : Nat} (hi : i < h.length) (hp : p < h.length) (j : Nat) : gD (swapL h i p) j = if j = p then gD h i else if j = i then gD h p else gD h j := by
  rw [swapL, gD_set _ _ _ _ (by simpa using hp), gD_set _ _ _ _ hi]

/-- Each is at least as great as the one above it. -/
def HeapN (h : List Int) (n : Nat) : Prop := ∀ j, 0 < j → j < n → gD h ((j - 1) / 2) ≤ gD h j
theorem HeapN.min {h : List Int} {n : Nat} (hh : HeapN h n) : ∀ j, j < n → gD h 0 ≤ gD h j := by
  intro j
  induction j using Nat.strongRecOn with
  | ind j ih =>
    intro hj
    by_cases h0 : j = 0
    · subst h0; exact Int.le_refl _
    · exact Int.le_trans (ih ((j - 1) / 2) (by omega) (by omega)) (hh j (by omega) hj)

/-! ### push -/
def UpOk (h : List Int) (i : Nat) : Prop := (∀ j, 0 < j → j < h.length → j ≠ i → gD h ((j - 1) / 2) ≤ gD h j) ∧ ∀ j, 0 < j → j < h.length → (j - 1) / 2 = i → 0 < i → gD h ((i - 1) / 2) ≤ gD h j
theorem UpOk.step {h : List Int} {i : Nat} (hu : UpOk h i) (hi : i < h.length) (h0 : 0 < i) (hlt : gD h i < gD h ((i - 1) / 2)) : UpOk (swapL h i ((i - 1) / 2)) ((i - 1) / 2) := by
  have hp : (i - 1) / 2 < h.length := by omega
  refine ⟨fun j hj0 hj hjp => ?_, fun j hj0 hj hjp hp0 => ?_⟩
  · rw [swapL_length] at hj
    rw [gD_swap hi hp, gD_swap hi hp, if_neg hjp]
    by_cases hji : j = i
    · subst hji; rw [if_pos rfl, if_pos rfl]; omega
    · rw [if_neg hji]
      have h1 := hu.1 j hj0 hj hji
      by_cases hq : (j - 1) / 2 = (i - 1) / 2
      · rw [if_pos hq]; rw [hq] at h1; omega
      · rw [if_neg hq]
        by_cases hq2 : (j - 1) / 2 = i
        · rw [if_pos hq2]; exact hu.2 j hj0 hj hq2 h0
        · rw [if_neg hq2]; exact h1
  · rw [swapL_length] at hj
    rw [gD_swap hi hp, gD_swap hi hp, if_neg (by omega), if_neg (by omega), if_neg (by omega)]
    have h1 := hu.1 ((i - 1) / 2) hp0 hp (by omega)
    by_cases hji : j = i
    · rw [if_pos hji]; exact h1
    · rw [if_neg hji]
      have h2 := hu.1 j hj0 hj hji
      rw [hjp] at h2; omega
theorem parW {i : Nat} (h0 : 0 < i) (h1 : i ≤ 9000000) : IntKind.i64.wrap (Int.tdiv (IntKind.i64.wrap ((i : Int) - 1)) 2) = (((i - 1) / 2 : Nat) : Int) := by
  rw [w64 (x := (i : Int) - 1) (by omega), Int.tdiv_eq_ediv_of_nonneg (by omega), w64 (by omega)]; omega
theorem push_L1 (N : Nat) : ∀ (n : Nat) (h : List Int) (i : Nat), i < n → i < h.length → h.length ≤ 9000000 → UpOk h i →
    ∃ h', m_dag_heap_push_L1 N n h (i : Int) = some h' ∧ h'.Perm h ∧ HeapN h' h'.length
  | 0, h, i, hn, _, _, _ => by omega
  | n + 1, h, i, hn, hi, hl, hu => by
    rw [m_dag_heap_push_L1.eq_2]
    by_cases h0 : 0 < i
    · have hp : (i - 1) / 2 < h.length := by omega
      rw [if_pos (decide_eq_true (by omega)), at?_gD hi, Option.bind_some, parW h0 (by omega), at?_gD hp, Option.bind_some, m_dag_heap_push_J1, parW h0 (by omega)]
      by_cases hlt : gD h i < gD h ((i - 1) / 2)
      · obtain ⟨h', h1, h2, h3⟩ := push_L1 N n (swapL h i ((i - 1) / 2)) ((i - 1) / 2) (by omega) (by rw [swapL_length]; exact hp) (by rw [swapL_length]; exact hl) (hu.step hi h0 hlt)
        refine ⟨h', ?_, h2.trans (swapL_perm hi hp), h3⟩
        rw [if_pos (decide_eq_true hlt), at?_gD hp, Option.bind_some, at?_gD hi, Option.bind_some, Option.bind_some, Int.toNat_natCast, Int.toNat_natCast, at?_lt (by simpa using hp), Option.bind_some, Option.bind_some]
        exact h1
      · refine ⟨h, by rw [if_neg (by simpa using hlt)], .refl _, fun j hj0 hj => ?_⟩
        by_cases hji : j = i
        · subst hji; omega
        · exact hu.1 j hj0 hj hji
    · have : i = 0 := by omega
      subst this
      rw [if_neg (by decide), m_dag_heap_push_J1, if_neg (by decide)]
      exact ⟨h, rfl, .refl _, fun j hj0 hj => hu.1 j hj0 hj (by omega)⟩
theorem gD_app {h : List Int} {x : Int} {j : Nat} (hj : j < h.length) : gD (h ++ [x]) j = gD h j := by
  rw [gD_lt hj, gD_lt (by simp; omega), List.getElem_append_left hj]
theorem push_eq {N : Nat} {h : List Int} (x : Int) (hl : h.length < 2000000) (hh : HeapN h h.length) (hN : 2000000 < N) : ∃ h', m_dag_heap_push N h x = some h' ∧ h'.Perm (x :: h) ∧ HeapN h' h'.length := by
  rw [m_dag_heap_push, chk_pos (by simp only [List.length_cons, List.length_nil, maxLen]; omega)]
  have hle : (h ++ [x]).length = h.length + 1 := by simp
  rw [w64 (by omega), show (((h ++ [x]).length : Int) - 1) = ((h.length : Nat) : Int) by omega]
  obtain ⟨h', h1, h2, h3⟩ := push_L1 N N (h ++ [x]) h.length (by omega) (by omega) (by omega) ⟨fun j hj0 hj hji => by rw [gD_app (by omega), gD_app (by omega)]; exact hh j hj0 (by omega), fun j hj0 hj hji h0 => by omega⟩
  exact ⟨h', h1, h2.trans (List.perm_append_singleton x h), h3⟩

/-! ### pop -/
def DownOk (l : List Int) (n i : Nat) : Prop := (∀ j, 0 < j → j < n → (j - 1) / 2 ≠ i → gD l ((j - 1) / 2) ≤ gD l j) ∧ ∀ j, 0 < j → j < n → (j - 1) / 2 = i → 0 < i → gD l ((i - 1) / 2) ≤ gD l j
theorem DownOk.step {l : List Int} {n i q : Nat} (hu : DownOk l n i) (hn : n ≤ l.length) (hi : i < n) (hq : q < n) (hqi : (q - 1) / 2 = i) (hq0 : 0 < q) (hlt : gD l q < gD l i) (hle : ∀ j, 0 < j → j < n → (j - 1) / 2 = i → gD l q ≤ gD l j) : DownOk (swapL l i q) n q := by
  have hi' : i < l.length := by omega
  have hq' : q < l.length := by omega
  refine ⟨fun j hj0 hj hjp => ?_, fun j hj0 hj hjp _ => ?_⟩
  · rw [gD_swap hi' hq', gD_swap hi' hq', if_neg hjp]
    by_cases h1 : (j - 1) / 2 = i
    · rw [if_pos h1]
      by_cases h2 : j = q
      · rw [if_pos h2]; omega
      · rw [if_neg h2, if_neg (by omega)]; exact hle j hj0 hj h1
    · rw [if_neg h1, if_neg (show j ≠ q by omega)]
      by_cases h2 : j = i
      · subst h2
        rw [if_pos rfl]; exact hu.2 q hq0 hq hqi hj0
      · rw [if_neg h2]; exact hu.1 j hj0 hj h1
  · rw [gD_swap hi' hq', gD_swap hi' hq', hqi, if_neg (by omega), if_pos rfl, if_neg (by omega), if_neg (by omega)]
    have := hu.1 j hj0 hj (by omega)
    rwa [hjp] at this
theorem swapL_take {l : List Int} {n i q : Nat} (hn : n ≤ l.length) (hi : i < n) (hq : q < n) : (swapL l i q).take n = swapL (l.take n) i q := by
  have h1 : ∀ j, j < n → gD (l.take n) j = gD l j := fun j hj => by rw [gD_lt (by simp; omega), gD_lt (by omega), List.getElem_take]
  rw [swapL, swapL, List.take_set, List.take_set, h1 i hi, h1 q hq]

theorem pop_L1 (N : Nat) (p0 : List Int) (x0 : Int) (n : Nat) (hp0 : p0.length = n + 1) (hn : n ≤ 2000000) (hN : 2000000 < N) : ∀ (m : Nat) (l : List Int) (i : Nat), n < m + i → (i < n ∨ n = 0 ∧ i = 0) → l.length = n + 1 → DownOk l n i →
    ∃ t, m_dag_heap_pop_L1 N p0 x0 m l (i : Int) = some (x0, t) ∧ t.Perm (l.take n) ∧ HeapN t n
  | 0, l, i, hm, hi, hl, hu => by omega
  | m + 1, l, i, hm, hi, hl, hu => by
    rw [m_dag_heap_pop_L1.eq_2]
    obtain ⟨N, rfl⟩ : ∃ N', N = N' + 1 + 1 + 1 := ⟨N - 3, by omega⟩
    have w1 : IntKind.i64.wrap ((p0.length : Int) - 1) = (n : Int) := by rw [w64 (by omega)]; omega
    have wa : IntKind.i64.wrap (IntKind.i64.wrap (2 * (i : Int)) + 1) = ((2 * i + 1 : Nat) : Int) := by rw [w64 (x := 2 * (i : Int)) (by omega), w64 (by omega)]; omega
    have wb : IntKind.i64.wrap (IntKind.i64.wrap (2 * (i : Int)) + 2) = ((2 * i + 2 : Nat) : Int) := by rw [w64 (x := 2 * (i : Int)) (by omega), w64 (by omega)]; omega
    -- one child after the other
    have stepv : ∀ (v : Nat) (k least : Nat), v < 2 → k = 2 * i + 1 + v → (least < n ∨ n = 0) → least < l.length → ∀ f kk, m_dag_heap_pop_L2 (N + 1 + 1 + 1) p0 x0 l (i : Int) kk (f + 1) (v : Int) (least : Int) =
        m_dag_heap_pop_L2 (N + 1 + 1 + 1) p0 x0 l (i : Int) kk f ((v + 1 : Nat) : Int) ((if k < n ∧ gD l k < gD l least then k else least : Nat) : Int) := by
      intro v k least hv hk hle hll f kk
      rw [m_dag_heap_pop_L2.eq_2, if_pos (decide_eq_true (by omega)), wa, wb, w1]
      have hat : at? [((2 * i + 1 : Nat) : Int), ((2 * i + 2 : Nat) : Int)] (v : Int) = some (k : Int) := by
        rw [at?_nat]
        match v, hv with
        | 0, _ => simp [hk]
        | 1, _ => simp [hk]; omega
      rw [hat, Option.bind_some]
      by_cases h1 : k < n
      · rw [if_pos (decide_eq_true (by omega)), at?_gD (by omega), Option.bind_some, at?_gD hll, Option.bind_some, m_dag_heap_pop_J2, m_dag_heap_pop_J1, m_dag_heap_pop_J1, wS (by omega)]
        by_cases h2 : gD l k < gD l least
        · rw [if_pos (decide_eq_true h2), if_pos ⟨h1, h2⟩]
        · rw [if_neg (by simpa using h2), if_neg (fun h => h2 h.2)]
      · rw [if_neg (by rw [decide_eq_true_eq]; omega), m_dag_heap_pop_J2, m_dag_heap_pop_J1, m_dag_heap_pop_J1, if_neg (by decide), wS (by omega), if_neg (fun h => h1 h.1)]
    have hil : i < l.length := by omega
    have e1 := stepv 0 (2 * i + 1) i (by omega) (by omega) (by omega) hil (N + 1 + 1) (m_dag_heap_pop_L1 (N + 1 + 1 + 1) p0 x0 m)
    generalize hq1 : (if 2 * i + 1 < n ∧ gD l (2 * i + 1) < gD l i then 2 * i + 1 else i) = q1 at e1
    have hq1' : (q1 = i ∧ (2 * i + 1 < n → gD l i ≤ gD l (2 * i + 1))) ∨ (q1 = 2 * i + 1 ∧ q1 < n ∧ gD l q1 < gD l i) := by
      by_cases hc : 2 * i + 1 < n ∧ gD l (2 * i + 1) < gD l i
      · rw [if_pos hc] at hq1; subst hq1; exact .inr ⟨rfl, hc.1, hc.2⟩
      · rw [if_neg hc] at hq1; subst hq1; exact .inl ⟨rfl, fun h => by omega⟩
    have e2 := stepv 1 (2 * i + 2) q1 (by omega) (by omega) (by omega) (by omega) (N + 1) (m_dag_heap_pop_L1 (N + 1 + 1 + 1) p0 x0 m)
    generalize hq2 : (if 2 * i + 2 < n ∧ gD l (2 * i + 2) < gD l q1 then 2 * i + 2 else q1) = q2 at e2
    have hq2' : (q2 = i ∧ (2 * i + 1 < n → gD l i ≤ gD l (2 * i + 1)) ∧ (2 * i + 2 < n → gD l i ≤ gD l (2 * i + 2))) ∨ ((q2 = 2 * i + 1 ∨ q2 = 2 * i + 2) ∧ q2 < n ∧ gD l q2 < gD l i ∧ (2 * i + 1 < n → gD l q2 ≤ gD l (2 * i + 1)) ∧ (2 * i + 2 < n → gD l q2 ≤ gD l (2 * i + 2))) := by
      by_cases hc : 2 * i + 2 < n ∧ gD l (2 * i + 2) < gD l q1
      · rw [if_pos hc] at hq2; subst hq2
        rcases hq1' with ⟨rfl, h3⟩ | ⟨rfl, h3, h4⟩
        · exact .inr ⟨.inr rfl, hc.1, hc.2, fun h => by have := h3 h; omega, fun _ => Int.le_refl _⟩
        · exact .inr ⟨.inr rfl, hc.1, by omega, fun _ => by omega, fun _ => Int.le_refl _⟩
      · rw [if_neg hc] at hq2; subst hq2
        rcases hq1' with ⟨rfl, h3⟩ | ⟨rfl, h3, h4⟩
        · exact .inl ⟨rfl, h3, fun h => by omega⟩
        · exact .inr ⟨.inl rfl, h3, h4, fun _ => Int.le_refl _, fun h => by omega⟩
    rw [show (0 : Int) = ((0 : Nat) : Int) from rfl, e1]
    rw [show ((0 + 1 : Nat) : Int) = ((1 : Nat) : Int) from rfl, e2, m_dag_heap_pop_L2.eq_2, if_neg (by decide), w1, Int.toNat_natCast]
    rcases hq2' with ⟨rfl, h3, h4⟩ | ⟨h2, h3, h4, h5, h6⟩
    · rw [if_pos (by simp)]
      refine ⟨_, rfl, .refl _, fun j hj0 hj => ?_⟩
      have ht : ∀ k, k < n → gD (l.take n) k = gD l k := fun k hk => by rw [gD_lt (by simp; omega), gD_lt (by omega), List.getElem_take]
      rw [ht _ (by omega), ht _ hj]
      by_cases hq : (j - 1) / 2 = q2
      · rw [hq]
        rcases (show j = 2 * q2 + 1 ∨ j = 2 * q2 + 2 by omega) with rfl | rfl
        · exact h3 hj
        · exact h4 hj
      · exact hu.1 j hj0 hj hq
    · have hq2l : q2 < l.length := by omega
      have hin : i < n := by omega
      have hd := hu.step (by omega) hin h3 (by omega) (by omega) h4 (fun j hj0 hj hji => by
        rcases (show j = 2 * i + 1 ∨ j = 2 * i + 2 by omega) with rfl | rfl
        · exact h5 hj
        · exact h6 hj)
      obtain ⟨t, k1, k2, k3⟩ := pop_L1 (N + 1 + 1 + 1) p0 x0 n hp0 hn hN m (swapL l i q2) q2 (by omega) (.inl h3) (by rw [swapL_length]; exact hl) hd
      refine ⟨t, ?_, k2.trans ?_, k3⟩
      · rw [if_neg (by simp; omega), at?_gD hq2l, Option.bind_some, at?_gD hil, Option.bind_some, Option.bind_some, Int.toNat_natCast, Int.toNat_natCast, at?_lt (by simpa using hq2l), Option.bind_some, Option.bind_some]
        exact k1
      · rw [swapL_take (by omega) hin h3]; exact swapL_perm (by simp; omega) (by simp; omega)
theorem pop_eq {N : Nat} {h : List Int} (hl : h.length ≤ 2000000) (h0 : 0 < h.length) (hh : HeapN h h.length) (hN : 2000000 < N) : ∃ x t, m_dag_heap_pop N h = some (x, t) ∧ h.Perm (x :: t) ∧ (∀ y ∈ h, x ≤ y) ∧ HeapN t t.length := by
  rw [m_dag_heap_pop]
  obtain ⟨n, hn⟩ : ∃ n, h.length = n + 1 := ⟨h.length - 1, by omega⟩
  have w1 : IntKind.i64.wrap ((h.length : Int) - 1) = (n : Int) := by rw [w64 (by omega)]; omega
  rw [w1, show (0 : Int) = ((0 : Nat) : Int) from rfl, at?_gD h0, Option.bind_some, at?_gD (by omega), Option.bind_some, Option.bind_some, chk_pos (by simp; omega), Int.toNat_natCast]
  have hd : DownOk (h.set 0 (gD h n)) n 0 := by
    refine ⟨fun j hj0 hj hji => ?_, fun j _ _ _ h => by omega⟩
    rw [gD_set _ _ _ _ h0, gD_set _ _ _ _ h0, if_neg (by omega), if_neg (by omega)]
    exact hh j hj0 (by omega)
  obtain ⟨t, h1, h2, h3⟩ := pop_L1 N h (gD h 0) n hn (by omega) hN N (h.set 0 (gD h n)) 0 (by omega) (by omega) (by simpa using hn) hd
  have hpm : h.Perm (gD h 0 :: (h.set 0 (gD h n)).take n) := by
    match h, hn with
    | x :: r, hn =>
      have hr : r.length = n := by simpa using hn
      match n, hr with
      | 0, hr => rw [List.length_eq_zero_iff.1 hr]; exact .refl _
      | n + 1, hr =>
        have e : gD (x :: r) (n + 1) = gD r n := rfl
        rw [e, List.set_cons_zero, List.take_succ_cons]
        refine List.Perm.cons x ?_
        have : r = r.take n ++ [gD r n] := by
          have := List.take_succ_eq_append_getElem (show n < r.length by omega)
          rw [List.take_of_length_le (by omega)] at this
          rw [gD_lt (by omega)]; exact this
        conv => lhs; rw [this]
        exact List.perm_append_singleton _ _
  have hp2 : h.Perm (gD h 0 :: t) := hpm.trans (List.Perm.cons _ h2.symm)
  refine ⟨gD h 0, t, h1, hp2, fun y hy => ?_, ?_⟩
  · obtain ⟨j, hj, rfl⟩ := List.getElem_of_mem hy
    rw [← gD_lt hj]; exact hh.min j hj
  · have := hp2.length_eq
    rw [List.length_cons, hn] at this
    rw [show t.length = n by omega]; exact h3


theorem lgetD_lt {α : Type} {l : List α} {d : α} {j : Nat} (hj : j < l.length) : l.getD j d = l[j] := by rw [List.getD_eq_getElem?_getD, List.getElem?_eq_getElem hj]; rfl
theorem at?_getD {α : Type} {l : List α} (d : α) {j : Nat} (hj : j < l.length) : at? l (j : Int) = some (l.getD j d) := by rw [at?_lt hj, lgetD_lt hj]
theorem lgetD_set {α : Type} (l : List α) (d : α) (i j : Nat) (x : α) (hi : i < l.length) : (l.set i x).getD j d = if j = i then x else l.getD j d := by
  rw [List.getD_eq_getElem?_getD, List.getD_eq_getElem?_getD, List.getElem?_set]
  by_cases h1 : i = j
  · subst h1; rw [if_pos rfl, if_pos hi, if_pos rfl]; rfl
  · rw [if_neg h1, if_neg (Ne.symm h1)]

/-- Who hangs on p, rising; from the k-th point on. -/
def kidsL : Nat → List (List Int) → Int → List Int
  | _, [], _ => []
  | k, l :: P, p => List.replicate (l.count p) (k : Int) ++ kidsL (k + 1) P p
def InR (n : Nat) (l : List Int) : Prop := ∀ x ∈ l, 0 ≤ x ∧ x < (n : Int)

theorem children_L2 (k : Nat) (kk : Nat → List (List Int) → Option (List (List Int))) : ∀ (l : List Int) (out : List (List Int)), InR out.length l → (∀ p : Nat, (out.getD p []).length + l.length ≤ 1048576) →
    ∃ out', m_dag_children_L2 k kk l out = kk (k + 1) out' ∧ out'.length = out.length ∧ ∀ p : Nat, p < out.length → out'.getD p [] = out.getD p [] ++ List.replicate (l.count (p : Int)) (k : Int)
  | [], out, h, hb => ⟨out, by rw [m_dag_children_L2.eq_1], rfl, fun p hp => by simp⟩
  | x :: l, out, h, hb => by
    obtain ⟨h0, h1⟩ := h x List.mem_cons_self
    obtain ⟨q, rfl⟩ := Int.eq_ofNat_of_zero_le h0
    have hq : q < out.length := by omega
    have hbq := hb q
    simp only [List.length_cons] at hbq hb
    rw [m_dag_children_L2.eq_2, at?_getD [] hq, Option.bind_some, chk_pos (by simp only [List.length_cons, List.length_nil, maxLen]; omega), Int.toNat_natCast]
    obtain ⟨out', h2, h3, h4⟩ := children_L2 k kk l (out.set q (out.getD q [] ++ [(k : Int)])) (by rw [List.length_set]; exact fun y hy => h y (List.mem_cons_of_mem _ hy)) (fun p => by
      rw [lgetD_set _ _ _ _ _ hq]
      have := hb p
      split
      · simp only [List.length_append, List.length_cons, List.length_nil]; omega
      · omega)
    refine ⟨out', h2, by rw [h3, List.length_set], fun p hp => ?_⟩
    rw [h4 p (by rw [List.length_set]; exact hp), lgetD_set _ _ _ _ _ hq, List.count_cons]
    by_cases hpq : p = q
    · subst hpq
      rw [if_pos rfl, if_pos (by simp), List.append_assoc, show l.count (p : Int) + 1 = 1 + l.count (p : Int) by omega, show [(k : Int)] = List.replicate 1 (k : Int) from rfl, List.replicate_append_replicate]
    · rw [if_neg hpq, if_neg (by simp; omega), Nat.add_zero]
theorem kidsL_length_le (p : Int) : ∀ (k : Nat) (P : List (List Int)), (kidsL k P p).length ≤ totl P
  | _, [] => by simp [kidsL]
  | k, l :: P => by
    rw [kidsL, List.length_append, List.length_replicate, totl_cons]
    have := kidsL_length_le p (k + 1) P
    have := List.count_le_length (a := p) (l := l)
    omega
theorem children_L1 (n : Nat) : ∀ (P : List (List Int)) (k : Nat) (out : List (List Int)), out.length = n → (∀ l ∈ P, InR n l) → (∀ p : Nat, (out.getD p []).length + totl P ≤ 1048576) →
    ∃ out', m_dag_children_L1 P k out = some out' ∧ out'.length = n ∧ ∀ p : Nat, p < n → out'.getD p [] = out.getD p [] ++ kidsL k P p
  | [], k, out, hn, _, _ => ⟨out, by rw [m_dag_children_L1.eq_1], hn, fun p hp => by simp [kidsL]⟩
  | l :: P, k, out, hn, h, hb => by
    simp only [totl_cons] at hb
    rw [m_dag_children_L1.eq_2]
    obtain ⟨out1, h1, h2, h3⟩ := children_L2 k (m_dag_children_L1 P) l out (by rw [hn]; exact h l List.mem_cons_self) (fun p => by have := hb p; omega)
    obtain ⟨out', h4, h5, h6⟩ := children_L1 n P (k + 1) out1 (by omega) (fun x hx => h x (List.mem_cons_of_mem _ hx)) (fun p => by
      have := hb p
      by_cases hp : p < out.length
      · rw [h3 p hp, List.length_append, List.length_replicate]
        have := List.count_le_length (a := (p : Int)) (l := l)
        omega
      · rw [List.getD_eq_getElem?_getD, List.getElem?_eq_none (by omega)]; simp; omega)
    refine ⟨out', by rw [h1, h4], h5, fun p hp => ?_⟩
    rw [h6 p hp, h3 p (by omega), List.append_assoc, kidsL]
theorem children_eq {P : List (List Int)} (hP : P.length ≤ 1048576) (ht : totl P ≤ 1048576) (h : ∀ l ∈ P, InR P.length l) : ∃ D, m_dag_children P = some D ∧ D.length = P.length ∧ ∀ p : Nat, p < P.length → D.getD p [] = kidsL 0 P p := by
  rw [m_dag_children, chk_pos (by simp only [maxLen]; omega)]
  have hr : ∀ p : Nat, (List.replicate P.length ([] : List Int)).getD p [] = [] := fun p => by
    rw [List.getD_eq_getElem?_getD, List.getElem?_replicate]; split <;> rfl
  obtain ⟨D, h1, h2, h3⟩ := children_L1 P.length P 0 (List.replicate P.length []) (by simp) h (fun p => by rw [hr]; simpa using ht)
  exact ⟨D, h1, h2, fun p hp => by rw [h3 p hp, hr]; rfl⟩

theorem kids_count (p : Int) : ∀ (k : Nat) (P : List (List Int)) (c : Nat), (kidsL k P p).count (c : Int) = if k ≤ c then (P.getD (c - k) []).count p else 0
  | k, [], c => by simp [kidsL]
  | k, l :: P, c => by
    rw [kidsL, List.count_append, kids_count p (k + 1) P c, List.count_replicate]
    by_cases h1 : k = c
    · subst h1
      rw [if_pos (by simp), if_neg (by omega), if_pos (Nat.le_refl _), Nat.sub_self]; rfl
    · rw [if_neg (by simp; omega)]
      by_cases h2 : k ≤ c
      · rw [if_pos (by omega), if_pos h2, show c - k = (c - (k + 1)) + 1 by omega]; simp
      · rw [if_neg (by omega), if_neg h2]
theorem kids_mem (p : Int) : ∀ (k : Nat) (P : List (List Int)) (x : Int), x ∈ kidsL k P p → ∃ c : Nat, x = (c : Int) ∧ k ≤ c ∧ c < k + P.length
  | k, [], x, h => by simp [kidsL] at h
  | k, l :: P, x, h => by
    rw [kidsL] at h
    rcases List.mem_append.1 h with h | h
    · exact ⟨k, (List.mem_replicate.1 h).2, Nat.le_refl _, by simp⟩
    · obtain ⟨c, h1, h2, h3⟩ := kids_mem p (k + 1) P x h
      exact ⟨c, h1, by omega, by rw [List.length_cons]; omega⟩

/-- How many of a point's parents are not out. -/
def cntO (P : List (List Int)) (out : List Int) (c : Nat) : Nat := (P.getD c []).countP fun q => !decide (q ∈ out)
theorem countP_out (out : List Int) (p : Int) (hp : p ∉ out) : ∀ l : List Int, (l.countP fun q => !decide (q ∈ out)) = (l.countP fun q => !decide (q ∈ out ++ [p])) + l.count p
  | [] => rfl
  | x :: l => by
    rw [List.countP_cons, List.countP_cons, List.count_cons, countP_out out p hp l]
    by_cases h1 : x = p
    · subst h1
      have h2 : (!decide (x ∈ out)) = true := by simp [hp]
      have h3 : (!decide (x ∈ out ++ [x])) = false := by simp
      rw [h2, h3]; simp; omega
    · have h3 : (x ∈ out ++ [p]) ↔ x ∈ out := by simp [h1]
      rw [show (!decide (x ∈ out ++ [p])) = (!decide (x ∈ out)) from congrArg _ (decide_eq_decide.2 h3), if_neg (show ¬ ((x == p) = true) by simpa using h1)]; omega
theorem cntO_step {P : List (List Int)} {out : List Int} {p : Int} (hp : p ∉ out) (c : Nat) : cntO P out c = cntO P (out ++ [p]) c + (P.getD c []).count p := countP_out out p hp _
theorem rdyB_cnt (P : List (List Int)) (out : List Int) (c : Nat) : rdyB P out c = true ↔ (c : Int) ∉ out ∧ cntO P out c = 0 := by
  rw [rdyB, cntO, List.countP_eq_zero]
  simp

structure Inv (P : List (List Int)) (out left ready : List Int) : Prop where
  ok : OutOk P out
  len : left.length = P.length
  cnt : ∀ c : Nat, c < P.length → left.getD c 0 = (cntO P out c : Int)
  heap : HeapN ready ready.length
  nd : ready.Nodup
  mem : ∀ y : Int, y ∈ ready ↔ ∃ c : Nat, c < P.length ∧ y = (c : Int) ∧ (c : Int) ∉ out ∧ left.getD c 0 = 0

theorem sorted_L3 (N : Nat) (P : List (List Int)) (hP : P.length ≤ 1048576) (ht : totl P ≤ 1048576) (hN : 2000000 < N) (out : List Int) (p : Nat) (r2 : List Int) (kk : List Int → List Int → List Int → Option (List Int)) :
    ∀ (rest left ready : List Int), rest.length ≤ 9000000000000000000 → left.length = P.length → (∀ c : Nat, c < P.length → left.getD c 0 = ((cntO P (out ++ [(p : Int)]) c + rest.count (c : Int) : Nat) : Int)) →
      HeapN ready ready.length → ready.Nodup → (∀ y : Int, y ∈ ready ↔ ∃ c : Nat, c < P.length ∧ y = (c : Int) ∧ (c : Int) ∉ out ++ [(p : Int)] ∧ left.getD c 0 = 0) →
      (∀ x ∈ rest, ∃ c : Nat, c < P.length ∧ x = (c : Int) ∧ x ∉ out ++ [(p : Int)]) →
      ∃ left' ready', m_dag_sorted_L3 N out kk ((p : Int), r2) rest left ready = kk left' ready' (out ++ [(p : Int)]) ∧ left'.length = P.length ∧ (∀ c : Nat, c < P.length → left'.getD c 0 = (cntO P (out ++ [(p : Int)]) c : Int)) ∧
        HeapN ready' ready'.length ∧ ready'.Nodup ∧ ∀ y : Int, y ∈ ready' ↔ ∃ c : Nat, c < P.length ∧ y = (c : Int) ∧ (c : Int) ∉ out ++ [(p : Int)] ∧ left'.getD c 0 = 0
  | [], left, ready, _, h1, h2, h3, h4, h5, _ => ⟨left, ready, by rw [m_dag_sorted_L3.eq_1], h1, fun c hc => by rw [h2 c hc]; simp, h3, h4, h5⟩
  | x :: rest, left, ready, hrest, h1, h2, h3, h4, h5, h6 => by
    obtain ⟨c0, hc0, rfl, hx⟩ := h6 x List.mem_cons_self
    have hc0l : c0 < left.length := by omega
    have hcx := h2 c0 hc0
    rw [List.count_cons, if_pos (by simp)] at hcx
    have hle : cntO P (out ++ [(p : Int)]) c0 ≤ 1048576 := by
      have h7 := List.countP_le_length (p := fun q => !decide (q ∈ out ++ [(p : Int)])) (l := P.getD c0 [])
      rw [lgetD_lt hc0] at h7
      have h8 := totl_mem (P := P) (List.getElem_mem hc0)
      rw [cntO, lgetD_lt hc0]; omega
    have hrl : ready.length ≤ P.length := by
      have h7 := nodup_le (r := (List.range P.length).map fun i : Nat => (i : Int)) h4 fun y hy => by
        obtain ⟨c, h8, h9, _⟩ := (h5 y).1 hy
        exact List.mem_map.2 ⟨c, List.mem_range.2 h8, h9.symm⟩
      simpa using h7
    have hv : IntKind.i64.wrap (left.getD c0 0 - 1) = ((cntO P (out ++ [(p : Int)]) c0 + rest.count (c0 : Int) : Nat) : Int) := by
      have h9 := List.count_le_length (a := (c0 : Int)) (l := rest)
      rw [hcx, w64]
      · omega
      · simp only [List.length_cons] at hrest
        omega
    have hl1 : ∀ c : Nat, c < P.length → (left.set c0 (IntKind.i64.wrap (left.getD c0 0 - 1))).getD c 0 = ((cntO P (out ++ [(p : Int)]) c + rest.count (c : Int) : Nat) : Int) := fun c hc => by
      rw [lgetD_set _ _ _ _ _ hc0l]
      by_cases hcc : c = c0
      · subst hcc; rw [if_pos rfl, hv]
      · rw [if_neg hcc, h2 c hc, List.count_cons, if_neg (by simp; omega), Nat.add_zero]
    have hne : left.getD c0 0 ≠ 0 := by rw [hcx]; omega
    have hnr : (c0 : Int) ∉ ready := fun h => by
      obtain ⟨c, h8, h9, _, h10⟩ := (h5 _).1 h
      have : c = c0 := by omega
      subst this; exact hne h10
    have h6' : ∀ x ∈ rest, ∃ c : Nat, c < P.length ∧ x = (c : Int) ∧ x ∉ out ++ [(p : Int)] := fun x hx => h6 x (List.mem_cons_of_mem _ hx)
    have hr' : rest.length ≤ 9000000000000000000 := by simp only [List.length_cons] at hrest; omega
    rw [m_dag_sorted_L3.eq_2, at?_getD 0 hc0l, Option.bind_some, Option.bind_some, Int.toNat_natCast, at?_getD 0 (by rw [List.length_set]; exact hc0l), Option.bind_some, m_dag_sorted_J1, lgetD_set _ _ _ _ _ hc0l, if_pos rfl]
    by_cases hz : IntKind.i64.wrap (left.getD c0 0 - 1) = 0
    · obtain ⟨ready1, k1, k2, k3⟩ := push_eq (N := N) (c0 : Int) (by omega : ready.length < 2000000) h3 hN
      rw [if_pos (by simpa using hz), k1, Option.bind_some, m_dag_sorted_J1]
      refine sorted_L3 N P hP ht hN out p r2 kk rest _ ready1 hr' (by rw [List.length_set]; exact h1) hl1 k3 (k2.nodup_iff.2 (List.nodup_cons.2 ⟨hnr, h4⟩)) (fun y => ?_) h6'
      rw [k2.mem_iff, List.mem_cons]
      constructor
      · rintro (rfl | hy)
        · exact ⟨c0, hc0, rfl, hx, by rw [lgetD_set _ _ _ _ _ hc0l, if_pos rfl, hz]⟩
        · obtain ⟨c, h8, h9, h10, h11⟩ := (h5 y).1 hy
          refine ⟨c, h8, h9, h10, ?_⟩
          rw [lgetD_set _ _ _ _ _ hc0l]
          split
          · exact hz
          · exact h11
      · rintro ⟨c, h8, h9, h10, h11⟩
        by_cases hcc : c = c0
        · subst hcc; exact .inl h9
        · rw [lgetD_set _ _ _ _ _ hc0l, if_neg hcc] at h11
          exact .inr ((h5 y).2 ⟨c, h8, h9, h10, h11⟩)
    · rw [if_neg (by simpa using hz)]
      refine sorted_L3 N P hP ht hN out p r2 kk rest _ ready hr' (by rw [List.length_set]; exact h1) hl1 h3 h4 (fun y => ?_) h6'
      rw [h5 y]
      constructor
      · rintro ⟨c, h8, h9, h10, h11⟩
        refine ⟨c, h8, h9, h10, ?_⟩
        rw [lgetD_set _ _ _ _ _ hc0l, if_neg (fun h => hne (by rw [← h]; exact h11))]; exact h11
      · rintro ⟨c, h8, h9, h10, h11⟩
        refine ⟨c, h8, h9, h10, ?_⟩
        rw [lgetD_set _ _ _ _ _ hc0l] at h11
        split at h11
        · exact absurd h11 hz
        · exact h11

theorem sorted_step {N : Nat} {P D : List (List Int)} (hP : P.length ≤ 1048576) (ht : totl P ≤ 1048576) (hN : 2000000 < N) (hD : D.length = P.length) (hDk : ∀ p : Nat, p < P.length → D.getD p [] = kidsL 0 P p) {out left ready : List Int} (hi : Inv P out left ready) (n : Nat) :
    (nextF P out 0 = none → m_dag_sorted_L2 N D (n + 1) left ready out = some out) ∧
    ∀ p, nextF P out 0 = some p → ∃ left' ready', Inv P (out ++ [(p : Int)]) left' ready' ∧ m_dag_sorted_L2 N D (n + 1) left ready out = m_dag_sorted_L2 N D n left' ready' (out ++ [(p : Int)]) := by
  have hrl : ready.length ≤ P.length := by
    have h7 := nodup_le (r := (List.range P.length).map fun i : Nat => (i : Int)) hi.nd fun y hy => by
      obtain ⟨c, h8, h9, _⟩ := (hi.mem y).1 hy
      exact List.mem_map.2 ⟨c, List.mem_range.2 h8, h9.symm⟩
    simpa using h7
  have hrd : ∀ c : Nat, c < P.length → (rdyB P out c = true ↔ (c : Int) ∈ ready) := fun c hc => by
    rw [rdyB_cnt, hi.mem]
    constructor
    · rintro ⟨h1, h2⟩; exact ⟨c, hc, rfl, h1, by rw [hi.cnt c hc, h2]; rfl⟩
    · rintro ⟨c', h1, h2, h3, h4⟩
      have : c' = c := by omega
      subst this
      rw [hi.cnt c' h1] at h4
      exact ⟨h3, by omega⟩
  refine ⟨fun hn => ?_, fun p hn => ?_⟩
  · have h0 : ready = [] := by
      cases hr : ready with
      | nil => rfl
      | cons y l =>
        obtain ⟨c, h1, h2, _⟩ := (hi.mem y).1 (by rw [hr]; exact List.mem_cons_self)
        have h3 := nextF_none hn c (Nat.zero_le _) h1
        have h4 := (hrd c h1).2 (by rw [← h2, hr]; exact List.mem_cons_self)
        rw [h3] at h4; cases h4
    rw [m_dag_sorted_L2.eq_2, h0, if_neg (by decide)]
  · obtain ⟨_, hp, hr, hmin⟩ := nextF_some hn
    have hpr := (hrd p hp).1 hr
    have hpos : 0 < ready.length := List.length_pos_of_mem hpr
    obtain ⟨x, t, k1, k2, k3, k4⟩ := pop_eq (N := N) (by omega : ready.length ≤ 2000000) hpos hi.heap hN
    have hxr : x ∈ ready := k2.mem_iff.2 List.mem_cons_self
    have hxp : x = (p : Int) := by
      obtain ⟨c, h1, h2, _⟩ := (hi.mem x).1 hxr
      have h3 := k3 _ hpr
      have h4 : ¬ c < p := fun hlt => by
        have h5 := hmin c (Nat.zero_le _) hlt
        have h6 := (hrd c h1).2 (by rw [← h2]; exact hxr)
        rw [h5] at h6; cases h6
      omega
    subst hxp
    have hnd : ((p : Int) :: t).Nodup := k2.nodup_iff.1 hi.nd
    obtain ⟨hp1, hp2⟩ := (rdyB_cnt P out p).1 hr
    obtain ⟨hok, hlt⟩ := hi.ok.step hn
    have hol := hi.ok.len
    have hself : (P.getD p []).count (p : Int) = 0 := by have := cntO_step (P := P) hp1 p; omega
    rw [m_dag_sorted_L2.eq_2, if_pos (decide_eq_true (by omega)), k1, Option.bind_some, chk_pos (by simp only [List.length_cons, List.length_nil, maxLen]; omega), at?_getD [] (by rw [hD]; exact hp), Option.bind_some, hDk p hp]
    have hkl := kidsL_length_le (p : Int) 0 P
    obtain ⟨left', ready', h1, h2, h3, h4, h5, h6⟩ := sorted_L3 N P hP ht hN out p t (m_dag_sorted_L2 N D n) (kidsL 0 P p) left t (by omega) hi.len (fun c hc => by
        rw [hi.cnt c hc, cntO_step hp1 c, kids_count (p : Int) 0 P c, if_pos (Nat.zero_le _), Nat.sub_zero]) k4 (List.nodup_cons.1 hnd).2 (fun y => by
        have h7 : y ∈ t ↔ y ∈ ready ∧ y ≠ (p : Int) := by
          rw [k2.mem_iff, List.mem_cons]
          exact ⟨fun h => ⟨.inr h, fun e => (List.nodup_cons.1 hnd).1 (by rw [← e]; exact h)⟩, fun h => h.1.resolve_left h.2⟩
        rw [h7, hi.mem]
        constructor
        · rintro ⟨⟨c, h8, h9, h10, h11⟩, h12⟩
          exact ⟨c, h8, h9, by rw [List.mem_append, List.mem_singleton]; exact fun h => h.elim h10 fun h => h12 (by rw [h9, h]), h11⟩
        · rintro ⟨c, h8, h9, h10, h11⟩
          rw [List.mem_append, List.mem_singleton] at h10
          exact ⟨⟨c, h8, h9, fun h => h10 (.inl h), h11⟩, fun h => h10 (.inr (by rw [← h9, h]))⟩) (fun x hx => by
        obtain ⟨c, h7, _, h8⟩ := kids_mem (p : Int) 0 P x hx
        have h8 : c < P.length := by omega
        have h9 := kids_count (p : Int) 0 P c
        rw [if_pos (Nat.zero_le _), Nat.sub_zero] at h9
        have h10 : 0 < (P.getD c []).count (p : Int) := by rw [← h9, ← h7]; exact List.count_pos_iff.2 hx
        refine ⟨c, h8, h7, fun h => ?_⟩
        rcases List.mem_append.1 h with h | h
        · rw [h7] at h
          have h11 := hi.ok.2.2 c h8 h (p : Int) (by rw [lgetD_lt h8] at h10; exact List.count_pos_iff.1 h10)
          exact hp1 h11
        · rw [List.mem_singleton] at h
          have : c = p := by omega
          subst this
          omega)
    exact ⟨left', ready', ⟨hok, h2, h3, h4, h5, h6⟩, h1⟩
theorem sorted_out {N : Nat} {P D : List (List Int)} (hP : P.length < 1048576) (hls : ∀ x ∈ P, x.length ≤ 1048576) (ht : totl P ≤ 1048576) (hN : 2000000 < N) (hD : D.length = P.length) (hDk : ∀ p : Nat, p < P.length → D.getD p [] = kidsL 0 P p) : ∀ (n : Nat) (out left ready : List Int), Inv P out left ready → P.length < n + out.length →
    m_dag_sorted_L2 N D n left ready out = m_credenceref14_out_L1 N P n out
  | 0, out, left, ready, hi, hn => by have := hi.ok.len; omega
  | n + 1, out, left, ready, hi, hn => by
    have hl := hi.ok.len
    obtain ⟨h1, h2⟩ := sorted_step (N := N) (by omega) ht hN hD hDk hi n
    rw [out_step (by omega) hls (by omega) (by omega)]
    cases hnx : nextF P out 0 with
    | none => rw [h1 hnx]; rfl
    | some p =>
      obtain ⟨left', ready', h3, h4⟩ := h2 p hnx
      rw [h4]
      exact sorted_out hP hls ht hN hD hDk n _ _ _ h3 (by simp; omega)

theorem sorted_L1 {N : Nat} (P D : List (List Int)) (hP : P.length < 1048576) (hN : 2000000 < N) (hl : ∀ l ∈ P, l.length ≤ 1048576) : ∀ (Q : List (List Int)) (k : Nat) (left ready : List Int), P.drop k = Q → k ≤ P.length → left.length = P.length →
    (∀ c : Nat, c < k → left.getD c 0 = ((P.getD c []).length : Int)) → HeapN ready ready.length → ready.Nodup → (∀ y : Int, y ∈ ready ↔ ∃ c : Nat, c < k ∧ y = (c : Int) ∧ (P.getD c []).length = 0) →
    ∃ left' ready', m_dag_sorted_L1 N D Q k left ready = m_dag_sorted_L2 N D N left' ready' [] ∧ Inv P [] left' ready'
  | [], k, left, ready, hQ, hk, h1, h2, h3, h4, h5 => by
    have hkP : k = P.length := by have := congrArg List.length hQ; simp at this; omega
    subst hkP
    have hc0 : ∀ c, cntO P [] c = (P.getD c []).length := fun c => by
      rw [cntO, List.countP_eq_length.2 (fun a _ => by simp)]
    refine ⟨left, ready, by rw [m_dag_sorted_L1.eq_1], ⟨⟨.nil, by simp, by simp⟩, h1, fun c hc => by rw [h2 c hc, hc0], h3, h4, fun y => ?_⟩⟩
    rw [h5]
    constructor
    · rintro ⟨c, h6, h7, h8⟩; exact ⟨c, h6, h7, by simp, by rw [h2 c h6, h8]; rfl⟩
    · rintro ⟨c, h6, h7, _, h8⟩; exact ⟨c, h6, h7, by rw [h2 c h6] at h8; omega⟩
  | x :: Q, k, left, ready, hQ, hk, h1, h2, h3, h4, h5 => by
    have hkl : k < P.length := by
      rcases Nat.lt_or_ge k P.length with h | h
      · exact h
      · rw [List.drop_eq_nil_of_le h] at hQ; cases hQ
    rw [List.drop_eq_getElem_cons hkl] at hQ
    obtain ⟨hx, hQ⟩ := List.cons.inj hQ
    have hxd : P.getD k [] = x := by rw [lgetD_lt hkl, hx]
    have hkl' : k < left.length := by omega
    have hrl : ready.length ≤ k := by
      have h7 := nodup_le (r := (List.range k).map fun i : Nat => (i : Int)) h4 fun y hy => by
        obtain ⟨c, h8, h9, _⟩ := (h5 y).1 hy
        exact List.mem_map.2 ⟨c, List.mem_range.2 h8, h9.symm⟩
      simpa using h7
    have hl1 : ∀ c : Nat, c < k + 1 → (left.set k (x.length : Int)).getD c 0 = ((P.getD c []).length : Int) := fun c hc => by
      rw [lgetD_set _ _ _ _ _ hkl']
      by_cases hck : c = k
      · subst hck; rw [if_pos rfl, hxd]
      · rw [if_neg hck, h2 c (by omega)]
    have hnr : (k : Int) ∉ ready := fun h => by obtain ⟨c, h6, h7, _⟩ := (h5 _).1 h; omega
    rw [m_dag_sorted_L1.eq_2, at?_getD 0 hkl', Option.bind_some, Option.bind_some, Int.toNat_natCast]
    by_cases h0 : x.length = 0
    · obtain ⟨ready1, k1, k2, k3⟩ := push_eq (N := N) (k : Int) (by omega : ready.length < 2000000) h3 hN
      rw [if_pos (decide_eq_true (by omega)), k1, Option.bind_some, m_dag_sorted_J2]
      refine sorted_L1 P D hP hN hl Q (k + 1) _ ready1 hQ (by omega) (by rw [List.length_set]; exact h1) hl1 k3 (k2.nodup_iff.2 (List.nodup_cons.2 ⟨hnr, h4⟩)) (fun y => ?_)
      rw [k2.mem_iff, List.mem_cons, h5]
      constructor
      · rintro (rfl | ⟨c, h6, h7, h8⟩)
        · exact ⟨k, by omega, rfl, by rw [hxd]; exact h0⟩
        · exact ⟨c, by omega, h7, h8⟩
      · rintro ⟨c, h6, h7, h8⟩
        by_cases hck : c = k
        · subst hck; exact .inl h7
        · exact .inr ⟨c, by omega, h7, h8⟩
    · rw [if_neg (by rw [decide_eq_true_eq]; omega), m_dag_sorted_J2]
      refine sorted_L1 P D hP hN hl Q (k + 1) _ ready hQ (by omega) (by rw [List.length_set]; exact h1) hl1 h3 h4 (fun y => ?_)
      rw [h5]
      constructor
      · rintro ⟨c, h6, h7, h8⟩; exact ⟨c, by omega, h7, h8⟩
      · rintro ⟨c, h6, h7, h8⟩
        by_cases hck : c = k
        · subst hck; rw [hxd] at h8; exact absurd h8 h0
        · exact ⟨c, by omega, h7, h8⟩
/-- The sorting by a heap puts out what the document puts out. -/
theorem sorted_eq {N : Nat} {P D : List (List Int)} (hP : P.length < 1048576) (hls : ∀ x ∈ P, x.length ≤ 1048576) (ht : totl P ≤ 1048576) (hN : 2000000 < N) (hD : D.length = P.length) (hDk : ∀ p : Nat, p < P.length → D.getD p [] = kidsL 0 P p) : m_dag_sorted N P D = m_credenceref14_out N P := by
  rw [m_dag_sorted, chk_pos (by simp only [maxLen]; omega), m_credenceref14_out]
  obtain ⟨left, ready, h1, h2⟩ := sorted_L1 (N := N) P D hP hN hls P 0 (List.replicate P.length 0) [] rfl (Nat.zero_le _) (by simp) (fun c hc => by omega) (fun j _ hj => by simp at hj) .nil (fun y => by simp)
  rw [h1]
  exact sorted_out hP hls ht hN hD hDk N [] _ _ h2 (by simp; omega)


theorem el35_3 : ElemOk Try.prog 35 2 16 := ⟨Try.t35, _, rfl, rfl, rfl, rfl, rfl⟩

def m_credencelaw14_DagEdges_J2 (v_195 : Bool) : Option Bool :=
  some v_195

def m_credencelaw14_DagEdges_L2 (N : Nat) (p0_parents : (List (List Int))) (r_5 : ((List (Int × Int)) × Int)) (r_13 : ((Nat × (List (List Int))) × (List (List Int)))) (r_33 : ((List (Int × Int)) × Int)) : Nat → (List (Int × Int)) → Int → Option Bool
  | 0, _, _ => none
  | n_113 + 1, long_116, i_120 => if (decide (i_120 < 9)) = true then (chk ((long_116.length + [((-7), (-8))].length) * 16 ≤ 140737488355328 ∧ long_116.length + [((-7), (-8))].length ≤ maxLen) ((m_credencelaw14_DagEdges_L2 N p0_parents r_5 r_13 r_33 n_113) (long_116 ++ [((-7), (-8))]) (IntKind.i64.wrap (i_120 + 1)))) else ((m_dag_Edges N (r_13.1.2.take r_13.1.1)).bind fun r_133 => if (decide ((long_116.length : Int) = (IntKind.i64.wrap ((r_5.1.length : Int) + 9)))) = true then ((m_credencelaw14_edges N r_33.1).bind fun r_197 => (m_credencelaw14_edges N r_5.1).bind fun r_206 => (m_credenceref14_Same N r_197 r_206).bind fun r_215 => if r_215 = true then ((m_credencelaw14_edges N r_133.1).bind fun r_220 => (m_credencelaw14_edges N r_5.1).bind fun r_229 => (m_credenceref14_Same N r_220 r_229).bind fun r_238 => if r_238 = true then ((m_credencelaw14_kept N r_13.1.1 r_13.1.2 r_13.2 p0_parents).bind fun r_243 => m_credencelaw14_DagEdges_J2 r_243) else (m_credencelaw14_DagEdges_J2 false)) else (m_credencelaw14_DagEdges_J2 false)) else (m_credencelaw14_DagEdges_J2 false))

def m_credencelaw14_DagEdges_L1 (N : Nat) (p0_parents : (List (List Int))) (r_5 : ((List (Int × Int)) × Int)) (r_13 : ((Nat × (List (List Int))) × (List (List Int)))) (r_33 : ((List (Int × Int)) × Int)) : Nat → Int → (List (Int × Int)) → Option Bool
  | 0, _, _ => none
  | n_97 + 1, i_100, a_101 => if (decide (i_100 < (a_101.length : Int))) = true then ((at? a_101 i_100).bind fun e_105 => (some (a_101.set (Int.toNat i_100) ((-5), (-6)))).bind fun xs_112 => (m_credencelaw14_DagEdges_L1 N p0_parents r_5 r_13 r_33 n_97) (IntKind.i64.wrap (i_100 + 1)) xs_112) else (m_credencelaw14_DagEdges_L2 N p0_parents r_5 r_13 r_33 N a_101 0)

def m_credencelaw14_DagEdges_J1 (N : Nat) (p0_parents : (List (List Int))) (r_5 : ((List (Int × Int)) × Int)) (r_13 : ((Nat × (List (List Int))) × (List (List Int)))) (r_24 : ((List (Int × Int)) × Int)) (r_33 : ((List (Int × Int)) × Int)) (v_96 : Bool) : Option Bool :=
  if v_96 = true then (some false) else (m_credencelaw14_DagEdges_L1 N p0_parents r_5 r_13 r_33 N 0 r_24.1)

def m_credencelaw14_DagEdges (N : Nat) (p0_parents : (List (List Int))) : Option Bool :=
  (m_credencelaw14_many N p0_parents).bind fun r_1 => if r_1 = true then (some true) else ((m_credenceref14_Edges N p0_parents).bind fun r_5 => (m_credencelaw14_lent N p0_parents).bind fun r_13 => (m_dag_Edges N (r_13.1.2.take r_13.1.1)).bind fun r_24 => (m_dag_Edges N (r_13.1.2.take r_13.1.1)).bind fun r_33 => if (!decide (r_24.2 = r_5.2)) = true then (m_credencelaw14_DagEdges_J1 N p0_parents r_5 r_13 r_24 r_33 true) else (if (!decide (r_33.2 = r_5.2)) = true then (m_credencelaw14_DagEdges_J1 N p0_parents r_5 r_13 r_24 r_33 true) else ((m_credencelaw14_edges N r_24.1).bind fun r_249 => (m_credencelaw14_edges N r_5.1).bind fun r_258 => (m_credenceref14_Same N r_249 r_258).bind fun r_267 => if (!r_267) = true then (m_credencelaw14_DagEdges_J1 N p0_parents r_5 r_13 r_24 r_33 true) else ((m_credencelaw14_edges N r_33.1).bind fun r_272 => (m_credencelaw14_edges N r_5.1).bind fun r_281 => (m_credenceref14_Same N r_272 r_281).bind fun r_290 => if (!r_290) = true then (m_credencelaw14_DagEdges_J1 N p0_parents r_5 r_13 r_24 r_33 true) else ((m_credencelaw14_kept N r_13.1.1 r_13.1.2 r_13.2 p0_parents).bind fun r_295 => m_credencelaw14_DagEdges_J1 N p0_parents r_5 r_13 r_24 r_33 (!r_295))))))

set_option maxRecDepth 100000 in
theorem c_credencelaw14_DagEdges (N : Nat) (col : Col) (w0 : World) (a0 : Option Addr) (cap0 : Nat) (p0_parents : (List (List Int))) (h0 : Sl (Rep.slice (Rep.int .i64)) col w0 a0 cap0 p0_parents) (r : Bool) (hm : m_credencelaw14_DagEdges N p0_parents = some r) :
    Calls Try.prog 3 #[(.slice a0 p0_parents.length cap0)] w0 (fun e w' => e = .returned ((.bool r)) ∧ Below w0.heap.size w0 w') := by
  refine calls_of1 2 (m := 119) (args := [(.slice a0 p0_parents.length cap0)]) Try.func3 rfl rfl rfl rfl rfl ?_
  rw [m_credencelaw14_DagEdges.eq_1] at hm
  have hst := St.start col w0
  replace h0 := h0.keep (Stay.start col w0)
  refine wseq ?_
  refine wregion ?_
  refine lv (v := (.bool false)) rfl rfl (r_assign rfl) ?_
  refine lnil ?_
  refine wseq ?_
  refine wseq ?_
  refine wregion ?_
  refine lv (v := (.slice a0 p0_parents.length cap0)) rfl rfl (r_move rfl) ?_
  obtain ⟨r_1, hr_2, hm⟩ := bind_some hm
  refine lc rfl rfl (r_call1 Try.call8 rfl) (c_credencelaw14_many N (col0 col) _ a0 cap0 p0_parents h0 r_1 hr_2) ?_
  rintro _ w_3 ⟨rfl, hg_4⟩
  refine ⟨_, rfl, ?_⟩
  replace hg_4 : Grow (col0 col) w0 (col0 col) w_3 := .of_below hg_4
  replace h0 := h0.gr hg_4
  replace hst := hst.grow hg_4
  refine lnil ?_
  refine wcond (r_1) rfl (fun hb => ?_) (fun hb => ?_)
  · rw [if_pos hb] at hm
    clear hb
    refine wseq ?_
    refine wregion ?_
    refine lv (v := (.bool true)) rfl rfl (r_assign rfl) ?_
    refine lnil ?_
    refine wret ?_
    cases hm
    exact ⟨rfl, rfl, hst.below⟩
  · rw [if_neg (by rw [hb]; decide)] at hm
    clear hb
    refine wskip ?_
    refine wseq ?_
    refine wregion ?_
    refine lv (v := (.slice a0 p0_parents.length cap0)) rfl rfl (r_move rfl) ?_
    obtain ⟨r_5, hr_6, hm⟩ := bind_some hm
    refine lc rfl rfl (r_call1 Try.call9 rfl) (c_credenceref14_Edges N 1 (col0 col) _ a0 cap0 p0_parents h0 r_5 hr_6) ?_
    rintro _ w_10 ⟨col_12, ra_7, rc_8, rfl, hg_11, rh_9⟩
    refine ⟨_, rfl, ?_⟩
    replace h0 := h0.gr hg_11
    replace hst := hst.grow hg_11
    refine lv (v := (.tuple #[(.slice ra_7 r_5.1.length rc_8), (.int .i64 r_5.2)])) rfl rfl (r_move rfl) ?_
    refine lv (v := (.slice ra_7 r_5.1.length rc_8)) rfl rfl (r_extract rfl rfl) ?_
    refine lv (v := (.int .i64 r_5.2)) rfl rfl (r_extract rfl rfl) ?_
    refine lv (v := (.slice ra_7 r_5.1.length rc_8)) rfl rfl (r_assign rfl) ?_
    refine lv (v := (.int .i64 r_5.2)) rfl rfl (r_assign rfl) ?_
    refine lnil ?_
    refine wseq ?_
    refine wregion ?_
    refine lv (v := (.slice a0 p0_parents.length cap0)) rfl rfl (r_move rfl) ?_
    obtain ⟨r_13, hr_14, hm⟩ := bind_some hm
    refine lc rfl rfl (r_call1 Try.call10 rfl) (c_credencelaw14_lent N 2 3 col_12 _ a0 cap0 p0_parents h0 r_13 hr_14) ?_
    rintro _ w_21 ⟨col_23, ra_15, rc_16, ra_18, rc_19, rfl, hg_22, rh_17, rh_20⟩
    refine ⟨_, rfl, ?_⟩
    replace h0 := h0.gr hg_22
    replace rh_9 := rh_9.gr hg_22
    replace hst := hst.grow hg_22
    refine lv (v := (.tuple #[(.slice ra_15 ((r_13.1.2.take r_13.1.1).length) rc_16), (.slice ra_18 r_13.2.length rc_19)])) rfl rfl (r_move rfl) ?_
    refine lv (v := (.slice ra_15 ((r_13.1.2.take r_13.1.1).length) rc_16)) rfl rfl (r_extract rfl rfl) ?_
    refine lv (v := (.slice ra_18 r_13.2.length rc_19)) rfl rfl (r_extract rfl rfl) ?_
    refine lv (v := (.slice ra_15 ((r_13.1.2.take r_13.1.1).length) rc_16)) rfl rfl (r_assign rfl) ?_
    refine lv (v := (.slice ra_18 r_13.2.length rc_19)) rfl rfl (r_assign rfl) ?_
    refine lnil ?_
    refine wseq ?_
    refine wregion ?_
    refine lv (v := (.slice ra_15 ((r_13.1.2.take r_13.1.1).length) rc_16)) rfl rfl (r_move rfl) ?_
    obtain ⟨r_24, hr_25, hm⟩ := bind_some hm
    refine lc rfl rfl (r_call1 Try.call11 rfl) (c_dag_Edges N 4 (frC 2 col_23) _ ra_15 rc_16 (r_13.1.2.take r_13.1.1) ((rh_17.take r_13.1.1).toSlF Froz.slice) r_24 hr_25) ?_
    rintro _ w_29 ⟨col_31, ra_26, rc_27, rfl, hg_30, rh_28⟩
    refine ⟨_, rfl, ?_⟩
    replace rh_28 := rh_28.thaw (flat_pair (flat_int .i64) (flat_int .i64)) hg_30 ((Fz.refl (col := col_23)).froz 2) (by decide)
    replace hg_30 := hg_30.thawR (col := col_23)
    generalize colR w_21.heap.size col_23 col_31 = col_32 at *
    replace h0 := h0.gr hg_30
    replace rh_9 := rh_9.gr hg_30
    replace rh_17 := rh_17.gr hg_30
    replace rh_20 := rh_20.gr hg_30
    replace hst := hst.grow hg_30
    refine lv (v := (.tuple #[(.slice ra_26 r_24.1.length rc_27), (.int .i64 r_24.2)])) rfl rfl (r_move rfl) ?_
    refine lv (v := (.slice ra_26 r_24.1.length rc_27)) rfl rfl (r_extract rfl rfl) ?_
    refine lv (v := (.int .i64 r_24.2)) rfl rfl (r_extract rfl rfl) ?_
    refine lv (v := (.slice ra_26 r_24.1.length rc_27)) rfl rfl (r_assign rfl) ?_
    refine lv (v := (.int .i64 r_24.2)) rfl rfl (r_assign rfl) ?_
    refine lnil ?_
    refine wseq ?_
    refine wregion ?_
    refine lv (v := (.slice ra_15 ((r_13.1.2.take r_13.1.1).length) rc_16)) rfl rfl (r_move rfl) ?_
    obtain ⟨r_33, hr_34, hm⟩ := bind_some hm
    refine lc rfl rfl (r_call1 Try.call11 rfl) (c_dag_Edges N 5 (frC 2 col_32) _ ra_15 rc_16 (r_13.1.2.take r_13.1.1) ((rh_17.take r_13.1.1).toSlF Froz.slice) r_33 hr_34) ?_
    rintro _ w_38 ⟨col_40, ra_35, rc_36, rfl, hg_39, rh_37⟩
    refine ⟨_, rfl, ?_⟩
    replace rh_37 := rh_37.thaw (flat_pair (flat_int .i64) (flat_int .i64)) hg_39 ((Fz.refl (col := col_32)).froz 2) (by decide)
    replace hg_39 := hg_39.thawR (col := col_32)
    generalize colR w_29.heap.size col_32 col_40 = col_41 at *
    replace h0 := h0.gr hg_39
    replace rh_9 := rh_9.gr hg_39
    replace rh_17 := rh_17.gr hg_39
    replace rh_20 := rh_20.gr hg_39
    replace rh_28 := rh_28.gr hg_39
    replace hst := hst.grow hg_39
    refine lv (v := (.tuple #[(.slice ra_35 r_33.1.length rc_36), (.int .i64 r_33.2)])) rfl rfl (r_move rfl) ?_
    refine lv (v := (.slice ra_35 r_33.1.length rc_36)) rfl rfl (r_extract rfl rfl) ?_
    refine lv (v := (.int .i64 r_33.2)) rfl rfl (r_extract rfl rfl) ?_
    refine lv (v := (.slice ra_35 r_33.1.length rc_36)) rfl rfl (r_assign rfl) ?_
    refine lv (v := (.int .i64 r_33.2)) rfl rfl (r_assign rfl) ?_
    refine lnil ?_
    refine wseq ?_
    refine wseq ?_
    refine Wp.cut (fun f w_94 => ∃ (col_95 : Col) (v_96 : Bool), m_credencelaw14_DagEdges_J1 N p0_parents r_5 r_13 r_24 r_33 v_96 = some r ∧ St w0 (col0 col) col_95 w_94 ∧ Sl (Rep.slice (Rep.int .i64)) col_95 w_94 a0 cap0 p0_parents ∧ Own (Rep.pair (Rep.int .i64) (Rep.int .i64)) 35 1 col_95 w_94 ra_7 rc_8 r_5.1 ∧ Own (Rep.slice (Rep.int .i64)) 31 2 col_95 w_94 ra_15 rc_16 r_13.1.2 ∧ Own (Rep.slice (Rep.int .i64)) 31 3 col_95 w_94 ra_18 rc_19 r_13.2 ∧ Own (Rep.pair (Rep.int .i64) (Rep.int .i64)) 35 4 col_95 w_94 ra_26 rc_27 r_24.1 ∧ Own (Rep.pair (Rep.int .i64) (Rep.int .i64)) 35 5 col_95 w_94 ra_35 rc_36 r_33.1 ∧ f 0 = (.slice a0 p0_parents.length cap0) ∧ f 3 = (.slice ra_7 r_5.1.length rc_8) ∧ f 5 = (.slice ra_15 ((r_13.1.2.take r_13.1.1).length) rc_16) ∧ f 6 = (.slice ra_18 r_13.2.length rc_19) ∧ f 68 = (.bool v_96) ∧ f 7 = (.slice ra_26 r_24.1.length rc_27) ∧ f 9 = (.slice ra_35 r_33.1.length rc_36) ∧ f 1000000 = (enc [])) ?_ ?_
    · intro f w_94 hJ
      obtain ⟨col_95, v_96, hm, hst, h0, rh_9, rh_17, rh_20, rh_28, rh_37, hs0, hs3, hs5, hs6, hs68, hs7, hs9, hs1000000⟩ := hJ
      rw [m_credencelaw14_DagEdges_J1.eq_1] at hm
      refine .ld (d := 0) (v := (.slice a0 p0_parents.length cap0)) hs0 ?_
      refine .ld (d := 3) (v := (.slice ra_7 r_5.1.length rc_8)) hs3 ?_
      refine .ld (d := 5) (v := (.slice ra_15 ((r_13.1.2.take r_13.1.1).length) rc_16)) hs5 ?_
      refine .ld (d := 6) (v := (.slice ra_18 r_13.2.length rc_19)) hs6 ?_
      refine .ld (d := 68) (v := (.bool v_96)) hs68 ?_
      refine .ld (d := 7) (v := (.slice ra_26 r_24.1.length rc_27)) hs7 ?_
      refine .ld (d := 9) (v := (.slice ra_35 r_33.1.length rc_36)) hs9 ?_
      refine .ld (d := 1000000) (v := (enc [])) hs1000000 ?_
      clear hs0 hs3 hs5 hs6 hs68 hs7 hs9 hs1000000
      refine wcond (v_96) rfl (fun hb => ?_) (fun hb => ?_)
      · rw [if_pos hb] at hm
        clear hb
        refine wseq ?_
        refine wregion ?_
        refine lv (v := (.bool false)) rfl rfl (r_assign rfl) ?_
        refine lnil ?_
        refine wret ?_
        cases hm
        exact ⟨rfl, rfl, hst.below⟩
      · rw [if_neg (by rw [hb]; decide)] at hm
        clear hb
        refine wskip ?_
        refine wseq ?_
        refine wseq ?_
        refine wregion ?_
        refine lv (v := (.int .i64 0)) rfl rfl (r_assign rfl) ?_
        refine lnil ?_
        refine wblock ?_
        refine wloop (fun n f w_98 => ∃ (col_99 : Col) (i_100 : Int) (a_102 : Option Addr) (cap_103 : Nat) (a_101 : List (Int × Int)) (n_97 : Nat), n_97 = n ∧ m_credencelaw14_DagEdges_L1 N p0_parents r_5 r_13 r_33 n_97 i_100 a_101 = some r ∧ St w0 (col0 col) col_99 w_98 ∧ Sl (Rep.slice (Rep.int .i64)) col_99 w_98 a0 cap0 p0_parents ∧ Own (Rep.pair (Rep.int .i64) (Rep.int .i64)) 35 1 col_99 w_98 ra_7 rc_8 r_5.1 ∧ Own (Rep.slice (Rep.int .i64)) 31 2 col_99 w_98 ra_15 rc_16 r_13.1.2 ∧ Own (Rep.slice (Rep.int .i64)) 31 3 col_99 w_98 ra_18 rc_19 r_13.2 ∧ Own (Rep.pair (Rep.int .i64) (Rep.int .i64)) 35 4 col_99 w_98 a_102 cap_103 a_101 ∧ Own (Rep.pair (Rep.int .i64) (Rep.int .i64)) 35 5 col_99 w_98 ra_35 rc_36 r_33.1 ∧ f 0 = (.slice a0 p0_parents.length cap0) ∧ f 11 = (.int .i64 i_100) ∧ f 3 = (.slice ra_7 r_5.1.length rc_8) ∧ f 5 = (.slice ra_15 ((r_13.1.2.take r_13.1.1).length) rc_16) ∧ f 6 = (.slice ra_18 r_13.2.length rc_19) ∧ f 7 = (.slice a_102 a_101.length cap_103) ∧ f 9 = (.slice ra_35 r_33.1.length rc_36) ∧ f 1000000 = (enc [])) N ⟨col_95, 0, ra_26, rc_27, r_24.1, N, rfl, hm, hst, h0, rh_9, rh_17, rh_20, rh_28, rh_37, rfl, rfl, rfl, rfl, rfl, rfl, rfl, rfl⟩ ?_
        clear hm; intro n f w_98 hI
        obtain ⟨col_99, i_100, a_102, cap_103, a_101, n_97, hn, hm, hst, h0, rh_9, rh_17, rh_20, h_104, rh_37, hs0, hs11, hs3, hs5, hs6, hs7, hs9, hs1000000⟩ := hI
        subst hn
        refine .ld (d := 0) (v := (.slice a0 p0_parents.length cap0)) hs0 ?_
        refine .ld (d := 11) (v := (.int .i64 i_100)) hs11 ?_
        refine .ld (d := 3) (v := (.slice ra_7 r_5.1.length rc_8)) hs3 ?_
        refine .ld (d := 5) (v := (.slice ra_15 ((r_13.1.2.take r_13.1.1).length) rc_16)) hs5 ?_
        refine .ld (d := 6) (v := (.slice ra_18 r_13.2.length rc_19)) hs6 ?_
        refine .ld (d := 7) (v := (.slice a_102 a_101.length cap_103)) hs7 ?_
        refine .ld (d := 9) (v := (.slice ra_35 r_33.1.length rc_36)) hs9 ?_
        refine .ld (d := 1000000) (v := (enc [])) hs1000000 ?_
        clear hs0 hs11 hs3 hs5 hs6 hs7 hs9 hs1000000
        cases n_97 with
        | zero => rw [m_credencelaw14_DagEdges_L1.eq_1] at hm; cases hm
        | succ n_97 =>
          rw [m_credencelaw14_DagEdges_L1.eq_2] at hm
          refine wseq ?_
          refine wseq ?_
          refine wregion ?_
          refine lv (v := (.int .i64 i_100)) rfl rfl (r_move rfl) ?_
          refine lv (v := (.slice a_102 a_101.length cap_103)) rfl rfl (r_move rfl) ?_
          refine lv (v := (.int .i64 (a_101.length : Int))) rfl rfl (r_len Try.underlying24 rfl) ?_
          refine lv (v := (.bool (decide (i_100 < (a_101.length : Int))))) rfl rfl (r_lss i_100 (a_101.length : Int) rfl rfl) ?_
          refine lnil ?_
          refine wcond (decide (i_100 < (a_101.length : Int))) rfl (fun hb => ?_) (fun hb => ?_)
          · rw [if_pos hb] at hm
            clear hb
            refine wskip ?_
            refine wseq ?_
            refine wblock ?_
            refine wregion ?_
            refine lv (v := (.slice a_102 a_101.length cap_103)) rfl rfl (r_move rfl) ?_
            refine lv (v := (.int .i64 i_100)) rfl rfl (r_move rfl) ?_
            refine lv (v := (.agg #[(.int .i64 (-5)), (.int .i64 (-6))])) rfl rfl (r_build (l := [_, _]) (qs := [(0, 1), (1, 1)]) Try.underlying35 Try.zeroValue35 ⟨rfl, Try.sizeOf3, rfl, Try.sizeOf3, trivial⟩ rfl) ?_
            obtain ⟨e_105, hj_106, hm⟩ := bind_some hm
            refine lv (v := (sptr a_102 (Int.toNat i_100 * 2))) rfl rfl (r_idx Try.underlying24 Try.sizeOf35 rfl rfl (at?_some hj_106).1 (at?_some hj_106).2.1 (h_104.addr hj_106)) ?_
            obtain ⟨xs_112, hz_111, hm⟩ := bind_some hm
            have hz_111 : xs_112 = a_101.set (Int.toNat i_100) ((-5), (-6)) := (Option.some.inj hz_111).symm
            refine l_store (x1 := ((-5), (-6))) (v := (.agg #[(.int .i64 (-5)), (.int .i64 (-6))])) h_104 hj_106 rfl Try.sizeOf35 (rd_pairI (rd_int .i64 (-5)) (rd_int .i64 (-6))) rfl rfl (by decide) ?_
            intro w_107 hk_108 hs_109 h_110
            rw [← hz_111] at h_110
            replace h0 := h0.kp hk_108 (by decide)
            replace rh_9 := rh_9.kp hk_108 (by decide) (by decide)
            replace rh_17 := rh_17.kp hk_108 (by decide) (by decide)
            replace rh_20 := rh_20.kp hk_108 (by decide) (by decide)
            replace rh_37 := rh_37.kp hk_108 (by decide) (by decide)
            replace hst := hst.kp hk_108 hs_109 (by decide) (by decide)
            refine .ld (d := 7) (v := (.slice a_102 xs_112.length cap_103)) (congrArg (fun n => Value.slice a_102 n cap_103) (show a_101.length = xs_112.length by rw [hz_111, List.length_set])) ?_
            clear h_104
            refine lnil ?_
            refine wregion ?_
            refine lv (v := (.int .i64 i_100)) rfl rfl (r_move rfl) ?_
            refine lv (v := (.int .i64 (IntKind.i64.wrap (i_100 + 1)))) rfl rfl (r_add i_100 1 rfl rfl) ?_
            refine lv (v := (.int .i64 (IntKind.i64.wrap (i_100 + 1)))) rfl rfl (r_assign rfl) ?_
            refine lnil ?_
            exact ⟨n_97, by omega, ⟨col_99, (IntKind.i64.wrap (i_100 + 1)), a_102, cap_103, xs_112, n_97, rfl, hm, hst, h0, rh_9, rh_17, rh_20, h_110, rh_37, rfl, rfl, rfl, rfl, rfl, rfl, rfl, rfl⟩⟩
          · rw [if_neg (by rw [hb]; decide)] at hm
            clear hb
            refine wexit (inB_hit ?_)
            refine wseq ?_
            refine wregion ?_
            refine lv (v := (.slice a_102 a_101.length cap_103)) rfl rfl (r_move rfl) ?_
            refine lv (v := (.slice a_102 a_101.length cap_103)) rfl rfl (r_assign rfl) ?_
            refine lnil ?_
            refine wseq ?_
            refine wseq ?_
            refine wregion ?_
            refine lv (v := (.int .i64 0)) rfl rfl (r_assign rfl) ?_
            refine lnil ?_
            refine wblock ?_
            refine wloop (fun n f w_114 => ∃ (col_115 : Col) (a_117 : Option Addr) (cap_118 : Nat) (long_116 : List (Int × Int)) (i_120 : Int) (n_113 : Nat), n_113 = n ∧ m_credencelaw14_DagEdges_L2 N p0_parents r_5 r_13 r_33 n_113 long_116 i_120 = some r ∧ St w0 (col0 col) col_115 w_114 ∧ Sl (Rep.slice (Rep.int .i64)) col_115 w_114 a0 cap0 p0_parents ∧ Own (Rep.pair (Rep.int .i64) (Rep.int .i64)) 35 4 col_115 w_114 a_117 cap_118 long_116 ∧ Own (Rep.pair (Rep.int .i64) (Rep.int .i64)) 35 1 col_115 w_114 ra_7 rc_8 r_5.1 ∧ Own (Rep.slice (Rep.int .i64)) 31 2 col_115 w_114 ra_15 rc_16 r_13.1.2 ∧ Own (Rep.slice (Rep.int .i64)) 31 3 col_115 w_114 ra_18 rc_19 r_13.2 ∧ Own (Rep.pair (Rep.int .i64) (Rep.int .i64)) 35 5 col_115 w_114 ra_35 rc_36 r_33.1 ∧ f 0 = (.slice a0 p0_parents.length cap0) ∧ f 12 = (.slice a_117 long_116.length cap_118) ∧ f 13 = (.int .i64 i_120) ∧ f 3 = (.slice ra_7 r_5.1.length rc_8) ∧ f 5 = (.slice ra_15 ((r_13.1.2.take r_13.1.1).length) rc_16) ∧ f 6 = (.slice ra_18 r_13.2.length rc_19) ∧ f 9 = (.slice ra_35 r_33.1.length rc_36) ∧ f 1000000 = (enc [])) N ⟨col_99, a_102, cap_103, a_101, 0, N, rfl, hm, hst, h0, h_104, rh_9, rh_17, rh_20, rh_37, rfl, rfl, rfl, rfl, rfl, rfl, rfl, rfl⟩ ?_
            clear hm; intro n f w_114 hI
            obtain ⟨col_115, a_117, cap_118, long_116, i_120, n_113, hn, hm, hst, h0, h_119, rh_9, rh_17, rh_20, rh_37, hs0, hs12, hs13, hs3, hs5, hs6, hs9, hs1000000⟩ := hI
            subst hn
            refine .ld (d := 0) (v := (.slice a0 p0_parents.length cap0)) hs0 ?_
            refine .ld (d := 12) (v := (.slice a_117 long_116.length cap_118)) hs12 ?_
            refine .ld (d := 13) (v := (.int .i64 i_120)) hs13 ?_
            refine .ld (d := 3) (v := (.slice ra_7 r_5.1.length rc_8)) hs3 ?_
            refine .ld (d := 5) (v := (.slice ra_15 ((r_13.1.2.take r_13.1.1).length) rc_16)) hs5 ?_
            refine .ld (d := 6) (v := (.slice ra_18 r_13.2.length rc_19)) hs6 ?_
            refine .ld (d := 9) (v := (.slice ra_35 r_33.1.length rc_36)) hs9 ?_
            refine .ld (d := 1000000) (v := (enc [])) hs1000000 ?_
            clear hs0 hs12 hs13 hs3 hs5 hs6 hs9 hs1000000
            cases n_113 with
            | zero => rw [m_credencelaw14_DagEdges_L2.eq_1] at hm; cases hm
            | succ n_113 =>
              rw [m_credencelaw14_DagEdges_L2.eq_2] at hm
              refine wseq ?_
              refine wseq ?_
              refine wregion ?_
              refine lv (v := (.int .i64 i_120)) rfl rfl (r_move rfl) ?_
              refine lv (v := (.bool (decide (i_120 < 9)))) rfl rfl (r_lss i_120 9 rfl rfl) ?_
              refine lnil ?_
              refine wcond (decide (i_120 < 9)) rfl (fun hb => ?_) (fun hb => ?_)
              · rw [if_pos hb] at hm
                clear hb
                refine wskip ?_
                refine wseq ?_
                refine wblock ?_
                refine wregion ?_
                refine lv (v := (.slice a_117 long_116.length cap_118)) rfl rfl (r_move rfl) ?_
                refine lv (v := (.agg #[(.int .i64 (-7)), (.int .i64 (-8))])) rfl rfl (r_build (l := [_, _]) (qs := [(0, 1), (1, 1)]) Try.underlying35 Try.zeroValue35 ⟨rfl, Try.sizeOf3, rfl, Try.sizeOf3, trivial⟩ rfl) ?_
                refine l_lit (col := col_115) (r := (Rep.pair (Rep.int .i64) (Rep.int .i64))) (xs := [((-7), (-8))]) [(.agg #[(.int .i64 (-7)), (.int .i64 (-8))])] 10 rfl Try.underlying24 el35_3 rfl rfl rfl rfl rfl rfl (by intro v hv; simp only [List.mem_cons, List.not_mem_nil, or_false] at hv; subst hv; rfl) (RowsH.ofF (Rows.consF (r := (Rep.pair (Rep.int .i64) (Rep.int .i64))) (x := ((-7), (-8))) (cs := [(.int .i64 (-7)), (.int .i64 (-8))]) (rd_pairI (rd_int .i64 (-7)) (rd_int .i64 (-8))) Rows.nil0)) ?_
                intro a_121 w_122 col_123 hg_124 h_125
                replace h0 := h0.gr hg_124
                replace rh_9 := rh_9.gr hg_124
                replace rh_17 := rh_17.gr hg_124
                replace rh_20 := rh_20.gr hg_124
                replace rh_37 := rh_37.gr hg_124
                replace h_119 := h_119.gr hg_124
                replace hst := hst.grow hg_124
                obtain ⟨hb_126, hm⟩ := chk_some hm
                refine l_appendM (col := col_123) (w := w_122) (r := (Rep.pair (Rep.int .i64) (Rep.int .i64))) (c := 4) (c2 := 4) (xs := long_116) (ys := [((-7), (-8))]) h_119 (h_125.srcN (NB.pair (NB.int (k := .i64)) (NB.int (k := .i64)))) rfl Try.underlying24 el35_3 rfl rfl rfl hb_126.1 hb_126.2 (by decide) ?_
                intro a_127 cap_128 w_129 col_130 hk_131 h_132
                replace h0 := h0.kpp hk_131 rfl
                replace rh_9 := rh_9.kpp hk_131 rfl rfl
                replace rh_17 := rh_17.kpp hk_131 rfl rfl
                replace rh_20 := rh_20.kpp hk_131 rfl rfl
                replace rh_37 := rh_37.kpp hk_131 rfl rfl
                replace h_125 := h_125.kpp hk_131 rfl rfl
                replace hst := hst.kpp hk_131 rfl rfl
                clear h_119
                refine lv (v := (.slice a_127 ((long_116 ++ [((-7), (-8))]).length) cap_128)) rfl rfl (r_assign rfl) ?_
                refine lnil ?_
                refine wregion ?_
                refine lv (v := (.int .i64 i_120)) rfl rfl (r_move rfl) ?_
                refine lv (v := (.int .i64 (IntKind.i64.wrap (i_120 + 1)))) rfl rfl (r_add i_120 1 rfl rfl) ?_
                refine lv (v := (.int .i64 (IntKind.i64.wrap (i_120 + 1)))) rfl rfl (r_assign rfl) ?_
                refine lnil ?_
                exact ⟨n_113, by omega, ⟨col_130, a_127, cap_128, (long_116 ++ [((-7), (-8))]), (IntKind.i64.wrap (i_120 + 1)), n_113, rfl, hm, hst, h0, h_132, rh_9, rh_17, rh_20, rh_37, rfl, rfl, rfl, rfl, rfl, rfl, rfl, rfl⟩⟩
              · rw [if_neg (by rw [hb]; decide)] at hm
                clear hb
                refine wexit (inB_hit ?_)
                refine wseq ?_
                refine wregion ?_
                refine lv (v := (.slice ra_15 ((r_13.1.2.take r_13.1.1).length) rc_16)) rfl rfl (r_move rfl) ?_
                obtain ⟨r_133, hr_134, hm⟩ := bind_some hm
                refine lc rfl rfl (r_call1 Try.call11 rfl) (c_dag_Edges N 11 (frC 2 col_115) _ ra_15 rc_16 (r_13.1.2.take r_13.1.1) ((rh_17.take r_13.1.1).toSlF Froz.slice) r_133 hr_134) ?_
                rintro _ w_138 ⟨col_140, ra_135, rc_136, rfl, hg_139, rh_137⟩
                refine ⟨_, rfl, ?_⟩
                replace rh_137 := rh_137.thaw (flat_pair (flat_int .i64) (flat_int .i64)) hg_139 ((Fz.refl (col := col_115)).froz 2) (by decide)
                replace hg_139 := hg_139.thawR (col := col_115)
                generalize colR w_114.heap.size col_115 col_140 = col_141 at *
                replace h0 := h0.gr hg_139
                replace h_119 := h_119.gr hg_139
                replace rh_9 := rh_9.gr hg_139
                replace rh_17 := rh_17.gr hg_139
                replace rh_20 := rh_20.gr hg_139
                replace rh_37 := rh_37.gr hg_139
                replace hst := hst.grow hg_139
                refine lv (v := (.tuple #[(.slice ra_135 r_133.1.length rc_136), (.int .i64 r_133.2)])) rfl rfl (r_move rfl) ?_
                refine lv (v := (.slice ra_135 r_133.1.length rc_136)) rfl rfl (r_extract rfl rfl) ?_
                refine lv (v := (.int .i64 r_133.2)) rfl rfl (r_extract rfl rfl) ?_
                refine lv (v := (.slice ra_135 r_133.1.length rc_136)) rfl rfl (r_assign rfl) ?_
                refine lv (v := (.int .i64 r_133.2)) rfl rfl (r_assign rfl) ?_
                refine lnil ?_
                refine wseq ?_
                refine Wp.cut (fun f w_193 => ∃ (col_194 : Col) (v_195 : Bool), m_credencelaw14_DagEdges_J2 v_195 = some r ∧ St w0 (col0 col) col_194 w_193 ∧ f 2 = (.bool v_195) ∧ f 1000000 = (enc [])) ?_ ?_
                · intro f w_193 hJ
                  obtain ⟨col_194, v_195, hm, hst, hs2, hs1000000⟩ := hJ
                  rw [m_credencelaw14_DagEdges_J2.eq_1] at hm
                  refine .ld (d := 2) (v := (.bool v_195)) hs2 ?_
                  refine .ld (d := 1000000) (v := (enc [])) hs1000000 ?_
                  clear hs2 hs1000000
                  refine wret ?_
                  cases hm
                  exact ⟨rfl, rfl, hst.below⟩
                · refine wregion ?_
                  refine lv (v := (.slice a_117 long_116.length cap_118)) rfl rfl (r_move rfl) ?_
                  refine lv (v := (.int .i64 (long_116.length : Int))) rfl rfl (r_len Try.underlying24 rfl) ?_
                  refine lv (v := (.slice ra_7 r_5.1.length rc_8)) rfl rfl (r_move rfl) ?_
                  refine lv (v := (.int .i64 (r_5.1.length : Int))) rfl rfl (r_len Try.underlying24 rfl) ?_
                  refine lv (v := (.int .i64 (IntKind.i64.wrap ((r_5.1.length : Int) + 9)))) rfl rfl (r_add (r_5.1.length : Int) 9 rfl rfl) ?_
                  refine lv (v := (.bool (decide ((long_116.length : Int) = (IntKind.i64.wrap ((r_5.1.length : Int) + 9)))))) rfl rfl (r_eql (long_116.length : Int) (IntKind.i64.wrap ((r_5.1.length : Int) + 9)) rfl rfl) ?_
                  refine lv (v := (.bool (decide ((long_116.length : Int) = (IntKind.i64.wrap ((r_5.1.length : Int) + 9)))))) rfl rfl (r_move rfl) ?_
                  by_cases hg_196 : (decide ((long_116.length : Int) = (IntKind.i64.wrap ((r_5.1.length : Int) + 9)))) = true
                  · rw [if_pos hg_196] at hm
                    refine lg (b := decide ((long_116.length : Int) = (IntKind.i64.wrap ((r_5.1.length : Int) + 9)))) 99 rfl rfl rfl (by rw [hg_196]; rfl) ?_
                    refine lv (v := (.slice ra_35 r_33.1.length rc_36)) rfl rfl (r_move rfl) ?_
                    refine lg (b := decide ((long_116.length : Int) = (IntKind.i64.wrap ((r_5.1.length : Int) + 9)))) 99 rfl rfl rfl (by rw [hg_196]; rfl) ?_
                    obtain ⟨r_197, hr_198, hm⟩ := bind_some hm
                    refine lc rfl rfl (r_call1 Try.call13 rfl) (c_credencelaw14_edges N 16 (frC 5 col_141) _ ra_35 rc_36 r_33.1 (rh_37.toSlF (Froz.pair (Froz.int .i64) (Froz.int .i64))) r_197 hr_198) ?_
                    rintro _ w_202 ⟨col_204, ra_199, rc_200, rfl, hg_203, rh_201⟩
                    refine ⟨_, rfl, ?_⟩
                    replace rh_201 := rh_201.thaw (flat_int .i64) hg_203 ((Fz.refl (col := col_141)).froz 5) (by decide)
                    replace hg_203 := hg_203.thawR (col := col_141)
                    generalize colR w_138.heap.size col_141 col_204 = col_205 at *
                    replace h0 := h0.gr hg_203
                    replace rh_9 := rh_9.gr hg_203
                    replace rh_17 := rh_17.gr hg_203
                    replace rh_20 := rh_20.gr hg_203
                    replace rh_137 := rh_137.gr hg_203
                    replace rh_37 := rh_37.gr hg_203
                    replace hst := hst.grow hg_203
                    refine lg (b := decide ((long_116.length : Int) = (IntKind.i64.wrap ((r_5.1.length : Int) + 9)))) 99 rfl rfl rfl (by rw [hg_196]; rfl) ?_
                    refine lv (v := (.slice ra_7 r_5.1.length rc_8)) rfl rfl (r_move rfl) ?_
                    refine lg (b := decide ((long_116.length : Int) = (IntKind.i64.wrap ((r_5.1.length : Int) + 9)))) 99 rfl rfl rfl (by rw [hg_196]; rfl) ?_
                    obtain ⟨r_206, hr_207, hm⟩ := bind_some hm
                    refine lc rfl rfl (r_call1 Try.call13 rfl) (c_credencelaw14_edges N 17 (frC 1 col_205) _ ra_7 rc_8 r_5.1 (rh_9.toSlF (Froz.pair (Froz.int .i64) (Froz.int .i64))) r_206 hr_207) ?_
                    rintro _ w_211 ⟨col_213, ra_208, rc_209, rfl, hg_212, rh_210⟩
                    refine ⟨_, rfl, ?_⟩
                    replace rh_210 := rh_210.thaw (flat_int .i64) hg_212 ((Fz.refl (col := col_205)).froz 1) (by decide)
                    replace hg_212 := hg_212.thawR (col := col_205)
                    generalize colR w_202.heap.size col_205 col_213 = col_214 at *
                    replace h0 := h0.gr hg_212
                    replace rh_9 := rh_9.gr hg_212
                    replace rh_17 := rh_17.gr hg_212
                    replace rh_20 := rh_20.gr hg_212
                    replace rh_137 := rh_137.gr hg_212
                    replace rh_201 := rh_201.gr hg_212
                    replace hst := hst.grow hg_212
                    refine lg (b := decide ((long_116.length : Int) = (IntKind.i64.wrap ((r_5.1.length : Int) + 9)))) 99 rfl rfl rfl (by rw [hg_196]; rfl) ?_
                    obtain ⟨r_215, hr_216, hm⟩ := bind_some hm
                    refine lc rfl rfl (r_call2 Try.call12 rfl rfl) (c_credenceref14_Same N (frC 17 (frC 16 col_214)) _ ra_199 rc_200 r_197 ra_208 rc_209 r_206 ((rh_201.toSlF (Froz.int .i64)).froz 17) ((rh_210.froz 16 (by decide)).toSlF (Froz.int .i64)) r_215 hr_216) ?_
                    rintro _ w_217 ⟨rfl, hg_218⟩
                    refine ⟨_, rfl, ?_⟩
                    replace hg_218 : Grow col_214 w_211 col_214 w_217 := .of_below hg_218
                    replace h0 := h0.gr hg_218
                    replace rh_9 := rh_9.gr hg_218
                    replace rh_17 := rh_17.gr hg_218
                    replace rh_20 := rh_20.gr hg_218
                    replace rh_137 := rh_137.gr hg_218
                    replace rh_201 := rh_201.gr hg_218
                    replace rh_210 := rh_210.gr hg_218
                    replace hst := hst.grow hg_218
                    refine lv (v := (.bool r_215)) rfl rfl (r_pickT (congrArg Value.bool hg_196) rfl) ?_
                    refine lv (v := (.bool r_215)) rfl rfl (r_move rfl) ?_
                    by_cases hg_219 : r_215 = true
                    · rw [if_pos hg_219] at hm
                      refine lg (b := r_215) 106 rfl rfl rfl (by rw [hg_219]; rfl) ?_
                      refine lv (v := (.slice ra_135 r_133.1.length rc_136)) rfl rfl (r_move rfl) ?_
                      refine lg (b := r_215) 106 rfl rfl rfl (by rw [hg_219]; rfl) ?_
                      obtain ⟨r_220, hr_221, hm⟩ := bind_some hm
                      refine lc rfl rfl (r_call1 Try.call13 rfl) (c_credencelaw14_edges N 18 (frC 11 col_214) _ ra_135 rc_136 r_133.1 (rh_137.toSlF (Froz.pair (Froz.int .i64) (Froz.int .i64))) r_220 hr_221) ?_
                      rintro _ w_225 ⟨col_227, ra_222, rc_223, rfl, hg_226, rh_224⟩
                      refine ⟨_, rfl, ?_⟩
                      replace rh_224 := rh_224.thaw (flat_int .i64) hg_226 ((Fz.refl (col := col_214)).froz 11) (by decide)
                      replace hg_226 := hg_226.thawR (col := col_214)
                      generalize colR w_217.heap.size col_214 col_227 = col_228 at *
                      replace h0 := h0.gr hg_226
                      replace rh_9 := rh_9.gr hg_226
                      replace rh_17 := rh_17.gr hg_226
                      replace rh_20 := rh_20.gr hg_226
                      replace rh_137 := rh_137.gr hg_226
                      replace hst := hst.grow hg_226
                      refine lg (b := r_215) 106 rfl rfl rfl (by rw [hg_219]; rfl) ?_
                      refine lv (v := (.slice ra_7 r_5.1.length rc_8)) rfl rfl (r_move rfl) ?_
                      refine lg (b := r_215) 106 rfl rfl rfl (by rw [hg_219]; rfl) ?_
                      obtain ⟨r_229, hr_230, hm⟩ := bind_some hm
                      refine lc rfl rfl (r_call1 Try.call13 rfl) (c_credencelaw14_edges N 19 (frC 1 col_228) _ ra_7 rc_8 r_5.1 (rh_9.toSlF (Froz.pair (Froz.int .i64) (Froz.int .i64))) r_229 hr_230) ?_
                      rintro _ w_234 ⟨col_236, ra_231, rc_232, rfl, hg_235, rh_233⟩
                      refine ⟨_, rfl, ?_⟩
                      replace rh_233 := rh_233.thaw (flat_int .i64) hg_235 ((Fz.refl (col := col_228)).froz 1) (by decide)
                      replace hg_235 := hg_235.thawR (col := col_228)
                      generalize colR w_225.heap.size col_228 col_236 = col_237 at *
                      replace h0 := h0.gr hg_235
                      replace rh_17 := rh_17.gr hg_235
                      replace rh_20 := rh_20.gr hg_235
                      replace rh_224 := rh_224.gr hg_235
                      replace rh_9 := rh_9.gr hg_235
                      replace hst := hst.grow hg_235
                      refine lg (b := r_215) 106 rfl rfl rfl (by rw [hg_219]; rfl) ?_
                      obtain ⟨r_238, hr_239, hm⟩ := bind_some hm
                      refine lc rfl rfl (r_call2 Try.call12 rfl rfl) (c_credenceref14_Same N (frC 19 (frC 18 col_237)) _ ra_222 rc_223 r_220 ra_231 rc_232 r_229 ((rh_224.toSlF (Froz.int .i64)).froz 19) ((rh_233.froz 18 (by decide)).toSlF (Froz.int .i64)) r_238 hr_239) ?_
                      rintro _ w_240 ⟨rfl, hg_241⟩
                      refine ⟨_, rfl, ?_⟩
                      replace hg_241 : Grow col_237 w_234 col_237 w_240 := .of_below hg_241
                      replace h0 := h0.gr hg_241
                      replace rh_17 := rh_17.gr hg_241
                      replace rh_20 := rh_20.gr hg_241
                      replace rh_224 := rh_224.gr hg_241
                      replace rh_233 := rh_233.gr hg_241
                      replace hst := hst.grow hg_241
                      refine lv (v := (.bool r_238)) rfl rfl (r_pickT (congrArg Value.bool hg_219) rfl) ?_
                      refine lv (v := (.bool r_238)) rfl rfl (r_move rfl) ?_
                      by_cases hg_242 : r_238 = true
                      · rw [if_pos hg_242] at hm
                        refine lg (b := r_238) 113 rfl rfl rfl (by rw [hg_242]; rfl) ?_
                        refine lv (v := (.slice ra_15 ((r_13.1.2.take r_13.1.1).length) rc_16)) rfl rfl (r_move rfl) ?_
                        refine lg (b := r_238) 113 rfl rfl rfl (by rw [hg_242]; rfl) ?_
                        refine lv (v := (.slice ra_18 r_13.2.length rc_19)) rfl rfl (r_move rfl) ?_
                        refine lg (b := r_238) 113 rfl rfl rfl (by rw [hg_242]; rfl) ?_
                        refine lv (v := (.slice a0 p0_parents.length cap0)) rfl rfl (r_move rfl) ?_
                        refine lg (b := r_238) 113 rfl rfl rfl (by rw [hg_242]; rfl) ?_
                        obtain ⟨r_243, hr_244, hm⟩ := bind_some hm
                        refine lc rfl rfl (r_call3 Try.call14 rfl rfl rfl) (c_credencelaw14_kept N (frC 3 (frC 2 col_237)) _ ra_15 rc_16 r_13.1.1 r_13.1.2 ra_18 rc_19 r_13.2 a0 cap0 p0_parents ((rh_17.toSlF Froz.slice).froz 3) ((rh_20.froz 2 (by decide)).toSlF Froz.slice) ((h0.froz 2).froz 3) r_243 hr_244) ?_
                        rintro _ w_245 ⟨rfl, hg_246⟩
                        refine ⟨_, rfl, ?_⟩
                        replace hg_246 : Grow col_237 w_240 col_237 w_245 := .of_below hg_246
                        replace rh_17 := rh_17.gr hg_246
                        replace rh_20 := rh_20.gr hg_246
                        replace h0 := h0.gr hg_246
                        replace hst := hst.grow hg_246
                        refine lv (v := (.bool r_243)) rfl rfl (r_pickT (congrArg Value.bool hg_242) rfl) ?_
                        refine lv (v := (.bool r_243)) rfl rfl (r_assign rfl) ?_
                        refine lnil ?_
                        exact ⟨col_237, r_243, hm, hst, rfl, rfl⟩
                      · rw [if_neg hg_242] at hm
                        replace hg_242 := Bool.eq_false_iff.2 hg_242
                        refine lp (b := r_238) 113 rfl rfl rfl rfl (by rw [hg_242]; rfl) ?_
                        refine lp (b := r_238) 113 rfl rfl rfl rfl (by rw [hg_242]; rfl) ?_
                        refine lp (b := r_238) 113 rfl rfl rfl rfl (by rw [hg_242]; rfl) ?_
                        refine lp (b := r_238) 113 rfl rfl rfl rfl (by rw [hg_242]; rfl) ?_
                        refine lv (v := (.bool false)) rfl rfl (r_pickF (congrArg Value.bool hg_242) rfl) ?_
                        refine lv (v := (.bool false)) rfl rfl (r_assign rfl) ?_
                        refine lnil ?_
                        exact ⟨col_237, false, hm, hst, rfl, rfl⟩
                    · rw [if_neg hg_219] at hm
                      replace hg_219 := Bool.eq_false_iff.2 hg_219
                      refine lp (b := r_215) 106 rfl rfl rfl rfl (by rw [hg_219]; rfl) ?_
                      refine lp (b := r_215) 106 rfl rfl rfl rfl (by rw [hg_219]; rfl) ?_
                      refine lp (b := r_215) 106 rfl rfl rfl rfl (by rw [hg_219]; rfl) ?_
                      refine lp (b := r_215) 106 rfl rfl rfl rfl (by rw [hg_219]; rfl) ?_
                      refine lp (b := r_215) 106 rfl rfl rfl rfl (by rw [hg_219]; rfl) ?_
                      refine lv (v := (.bool false)) rfl rfl (r_pickF (congrArg Value.bool hg_219) rfl) ?_
                      refine lv (v := (.bool false)) rfl rfl (r_move rfl) ?_
                      refine lp (b := false) 113 rfl rfl rfl rfl rfl ?_
                      refine lp (b := false) 113 rfl rfl rfl rfl rfl ?_
                      refine lp (b := false) 113 rfl rfl rfl rfl rfl ?_
                      refine lp (b := false) 113 rfl rfl rfl rfl rfl ?_
                      refine lv (v := (.bool false)) rfl rfl (r_pickF rfl rfl) ?_
                      refine lv (v := (.bool false)) rfl rfl (r_assign rfl) ?_
                      refine lnil ?_
                      exact ⟨col_214, false, hm, hst, rfl, rfl⟩
                  · rw [if_neg hg_196] at hm
                    replace hg_196 := Bool.eq_false_iff.2 hg_196
                    refine lp (b := decide ((long_116.length : Int) = (IntKind.i64.wrap ((r_5.1.length : Int) + 9)))) 99 rfl rfl rfl rfl (by rw [hg_196]; rfl) ?_
                    refine lp (b := decide ((long_116.length : Int) = (IntKind.i64.wrap ((r_5.1.length : Int) + 9)))) 99 rfl rfl rfl rfl (by rw [hg_196]; rfl) ?_
                    refine lp (b := decide ((long_116.length : Int) = (IntKind.i64.wrap ((r_5.1.length : Int) + 9)))) 99 rfl rfl rfl rfl (by rw [hg_196]; rfl) ?_
                    refine lp (b := decide ((long_116.length : Int) = (IntKind.i64.wrap ((r_5.1.length : Int) + 9)))) 99 rfl rfl rfl rfl (by rw [hg_196]; rfl) ?_
                    refine lp (b := decide ((long_116.length : Int) = (IntKind.i64.wrap ((r_5.1.length : Int) + 9)))) 99 rfl rfl rfl rfl (by rw [hg_196]; rfl) ?_
                    refine lv (v := (.bool false)) rfl rfl (r_pickF (congrArg Value.bool hg_196) rfl) ?_
                    refine lv (v := (.bool false)) rfl rfl (r_move rfl) ?_
                    refine lp (b := false) 106 rfl rfl rfl rfl rfl ?_
                    refine lp (b := false) 106 rfl rfl rfl rfl rfl ?_
                    refine lp (b := false) 106 rfl rfl rfl rfl rfl ?_
                    refine lp (b := false) 106 rfl rfl rfl rfl rfl ?_
                    refine lp (b := false) 106 rfl rfl rfl rfl rfl ?_
                    refine lv (v := (.bool false)) rfl rfl (r_pickF rfl rfl) ?_
                    refine lv (v := (.bool false)) rfl rfl (r_move rfl) ?_
                    refine lp (b := false) 113 rfl rfl rfl rfl rfl ?_
                    refine lp (b := false) 113 rfl rfl rfl rfl rfl ?_
                    refine lp (b := false) 113 rfl rfl rfl rfl rfl ?_
                    refine lp (b := false) 113 rfl rfl rfl rfl rfl ?_
                    refine lv (v := (.bool false)) rfl rfl (r_pickF rfl rfl) ?_
                    refine lv (v := (.bool false)) rfl rfl (r_assign rfl) ?_
                    refine lnil ?_
                    exact ⟨col_141, false, hm, hst, rfl, rfl⟩
    · refine wregion ?_
      refine lv (v := (.int .i64 r_24.2)) rfl rfl (r_move rfl) ?_
      refine lv (v := (.int .i64 r_5.2)) rfl rfl (r_move rfl) ?_
      refine lv (v := (.bool (!decide (r_24.2 = r_5.2)))) rfl rfl (r_neq r_24.2 r_5.2 rfl rfl) ?_
      refine lv (v := (.bool (!decide (r_24.2 = r_5.2)))) rfl rfl (r_move rfl) ?_
      by_cases hg_247 : (!decide (r_24.2 = r_5.2)) = true
      · rw [if_pos hg_247] at hm
        refine lp (b := !decide (r_24.2 = r_5.2)) 41 rfl rfl rfl rfl (by rw [hg_247]; rfl) ?_
        refine lp (b := !decide (r_24.2 = r_5.2)) 41 rfl rfl rfl rfl (by rw [hg_247]; rfl) ?_
        refine lp (b := !decide (r_24.2 = r_5.2)) 41 rfl rfl rfl rfl (by rw [hg_247]; rfl) ?_
        refine lv (v := (.bool true)) rfl rfl (r_pickT (congrArg Value.bool hg_247) rfl) ?_
        refine lv (v := (.bool true)) rfl rfl (r_move rfl) ?_
        refine lp (b := true) 46 rfl rfl rfl rfl rfl ?_
        refine lp (b := true) 46 rfl rfl rfl rfl rfl ?_
        refine lp (b := true) 46 rfl rfl rfl rfl rfl ?_
        refine lp (b := true) 46 rfl rfl rfl rfl rfl ?_
        refine lp (b := true) 46 rfl rfl rfl rfl rfl ?_
        refine lp (b := true) 46 rfl rfl rfl rfl rfl ?_
        refine lv (v := (.bool true)) rfl rfl (r_pickT rfl rfl) ?_
        refine lv (v := (.bool true)) rfl rfl (r_move rfl) ?_
        refine lp (b := true) 54 rfl rfl rfl rfl rfl ?_
        refine lp (b := true) 54 rfl rfl rfl rfl rfl ?_
        refine lp (b := true) 54 rfl rfl rfl rfl rfl ?_
        refine lp (b := true) 54 rfl rfl rfl rfl rfl ?_
        refine lp (b := true) 54 rfl rfl rfl rfl rfl ?_
        refine lp (b := true) 54 rfl rfl rfl rfl rfl ?_
        refine lv (v := (.bool true)) rfl rfl (r_pickT rfl rfl) ?_
        refine lv (v := (.bool true)) rfl rfl (r_move rfl) ?_
        refine lp (b := true) 62 rfl rfl rfl rfl rfl ?_
        refine lp (b := true) 62 rfl rfl rfl rfl rfl ?_
        refine lp (b := true) 62 rfl rfl rfl rfl rfl ?_
        refine lp (b := true) 62 rfl rfl rfl rfl rfl ?_
        refine lp (b := true) 62 rfl rfl rfl rfl rfl ?_
        refine lv (v := (.bool true)) rfl rfl (r_pickT rfl rfl) ?_
        refine lnil ?_
        exact ⟨col_41, true, hm, hst, h0, rh_9, rh_17, rh_20, rh_28, rh_37, rfl, rfl, rfl, rfl, rfl, rfl, rfl, rfl⟩
      · rw [if_neg hg_247] at hm
        replace hg_247 := Bool.eq_false_iff.2 hg_247
        refine lg (b := !decide (r_24.2 = r_5.2)) 41 rfl rfl rfl (by rw [hg_247]; rfl) ?_
        refine lv (v := (.int .i64 r_33.2)) rfl rfl (r_move rfl) ?_
        refine lg (b := !decide (r_24.2 = r_5.2)) 41 rfl rfl rfl (by rw [hg_247]; rfl) ?_
        refine lv (v := (.int .i64 r_5.2)) rfl rfl (r_move rfl) ?_
        refine lg (b := !decide (r_24.2 = r_5.2)) 41 rfl rfl rfl (by rw [hg_247]; rfl) ?_
        refine lv (v := (.bool (!decide (r_33.2 = r_5.2)))) rfl rfl (r_neq r_33.2 r_5.2 rfl rfl) ?_
        refine lv (v := (.bool (!decide (r_33.2 = r_5.2)))) rfl rfl (r_pickF (congrArg Value.bool hg_247) rfl) ?_
        refine lv (v := (.bool (!decide (r_33.2 = r_5.2)))) rfl rfl (r_move rfl) ?_
        by_cases hg_248 : (!decide (r_33.2 = r_5.2)) = true
        · rw [if_pos hg_248] at hm
          refine lp (b := !decide (r_33.2 = r_5.2)) 46 rfl rfl rfl rfl (by rw [hg_248]; rfl) ?_
          refine lp (b := !decide (r_33.2 = r_5.2)) 46 rfl rfl rfl rfl (by rw [hg_248]; rfl) ?_
          refine lp (b := !decide (r_33.2 = r_5.2)) 46 rfl rfl rfl rfl (by rw [hg_248]; rfl) ?_
          refine lp (b := !decide (r_33.2 = r_5.2)) 46 rfl rfl rfl rfl (by rw [hg_248]; rfl) ?_
          refine lp (b := !decide (r_33.2 = r_5.2)) 46 rfl rfl rfl rfl (by rw [hg_248]; rfl) ?_
          refine lp (b := !decide (r_33.2 = r_5.2)) 46 rfl rfl rfl rfl (by rw [hg_248]; rfl) ?_
          refine lv (v := (.bool true)) rfl rfl (r_pickT (congrArg Value.bool hg_248) rfl) ?_
          refine lv (v := (.bool true)) rfl rfl (r_move rfl) ?_
          refine lp (b := true) 54 rfl rfl rfl rfl rfl ?_
          refine lp (b := true) 54 rfl rfl rfl rfl rfl ?_
          refine lp (b := true) 54 rfl rfl rfl rfl rfl ?_
          refine lp (b := true) 54 rfl rfl rfl rfl rfl ?_
          refine lp (b := true) 54 rfl rfl rfl rfl rfl ?_
          refine lp (b := true) 54 rfl rfl rfl rfl rfl ?_
          refine lv (v := (.bool true)) rfl rfl (r_pickT rfl rfl) ?_
          refine lv (v := (.bool true)) rfl rfl (r_move rfl) ?_
          refine lp (b := true) 62 rfl rfl rfl rfl rfl ?_
          refine lp (b := true) 62 rfl rfl rfl rfl rfl ?_
          refine lp (b := true) 62 rfl rfl rfl rfl rfl ?_
          refine lp (b := true) 62 rfl rfl rfl rfl rfl ?_
          refine lp (b := true) 62 rfl rfl rfl rfl rfl ?_
          refine lv (v := (.bool true)) rfl rfl (r_pickT rfl rfl) ?_
          refine lnil ?_
          exact ⟨col_41, true, hm, hst, h0, rh_9, rh_17, rh_20, rh_28, rh_37, rfl, rfl, rfl, rfl, rfl, rfl, rfl, rfl⟩
        · rw [if_neg hg_248] at hm
          replace hg_248 := Bool.eq_false_iff.2 hg_248
          refine lg (b := !decide (r_33.2 = r_5.2)) 46 rfl rfl rfl (by rw [hg_248]; rfl) ?_
          refine lv (v := (.slice ra_26 r_24.1.length rc_27)) rfl rfl (r_move rfl) ?_
          refine lg (b := !decide (r_33.2 = r_5.2)) 46 rfl rfl rfl (by rw [hg_248]; rfl) ?_
          obtain ⟨r_249, hr_250, hm⟩ := bind_some hm
          refine lc rfl rfl (r_call1 Try.call13 rfl) (c_credencelaw14_edges N 20 (frC 4 col_41) _ ra_26 rc_27 r_24.1 (rh_28.toSlF (Froz.pair (Froz.int .i64) (Froz.int .i64))) r_249 hr_250) ?_
          rintro _ w_254 ⟨col_256, ra_251, rc_252, rfl, hg_255, rh_253⟩
          refine ⟨_, rfl, ?_⟩
          replace rh_253 := rh_253.thaw (flat_int .i64) hg_255 ((Fz.refl (col := col_41)).froz 4) (by decide)
          replace hg_255 := hg_255.thawR (col := col_41)
          generalize colR w_38.heap.size col_41 col_256 = col_257 at *
          replace h0 := h0.gr hg_255
          replace rh_9 := rh_9.gr hg_255
          replace rh_17 := rh_17.gr hg_255
          replace rh_20 := rh_20.gr hg_255
          replace rh_28 := rh_28.gr hg_255
          replace rh_37 := rh_37.gr hg_255
          replace hst := hst.grow hg_255
          refine lg (b := !decide (r_33.2 = r_5.2)) 46 rfl rfl rfl (by rw [hg_248]; rfl) ?_
          refine lv (v := (.slice ra_7 r_5.1.length rc_8)) rfl rfl (r_move rfl) ?_
          refine lg (b := !decide (r_33.2 = r_5.2)) 46 rfl rfl rfl (by rw [hg_248]; rfl) ?_
          obtain ⟨r_258, hr_259, hm⟩ := bind_some hm
          refine lc rfl rfl (r_call1 Try.call13 rfl) (c_credencelaw14_edges N 21 (frC 1 col_257) _ ra_7 rc_8 r_5.1 (rh_9.toSlF (Froz.pair (Froz.int .i64) (Froz.int .i64))) r_258 hr_259) ?_
          rintro _ w_263 ⟨col_265, ra_260, rc_261, rfl, hg_264, rh_262⟩
          refine ⟨_, rfl, ?_⟩
          replace rh_262 := rh_262.thaw (flat_int .i64) hg_264 ((Fz.refl (col := col_257)).froz 1) (by decide)
          replace hg_264 := hg_264.thawR (col := col_257)
          generalize colR w_254.heap.size col_257 col_265 = col_266 at *
          replace h0 := h0.gr hg_264
          replace rh_9 := rh_9.gr hg_264
          replace rh_17 := rh_17.gr hg_264
          replace rh_20 := rh_20.gr hg_264
          replace rh_28 := rh_28.gr hg_264
          replace rh_37 := rh_37.gr hg_264
          replace rh_253 := rh_253.gr hg_264
          replace hst := hst.grow hg_264
          refine lg (b := !decide (r_33.2 = r_5.2)) 46 rfl rfl rfl (by rw [hg_248]; rfl) ?_
          obtain ⟨r_267, hr_268, hm⟩ := bind_some hm
          refine lc rfl rfl (r_call2 Try.call12 rfl rfl) (c_credenceref14_Same N (frC 21 (frC 20 col_266)) _ ra_251 rc_252 r_249 ra_260 rc_261 r_258 ((rh_253.toSlF (Froz.int .i64)).froz 21) ((rh_262.froz 20 (by decide)).toSlF (Froz.int .i64)) r_267 hr_268) ?_
          rintro _ w_269 ⟨rfl, hg_270⟩
          refine ⟨_, rfl, ?_⟩
          replace hg_270 : Grow col_266 w_263 col_266 w_269 := .of_below hg_270
          replace h0 := h0.gr hg_270
          replace rh_9 := rh_9.gr hg_270
          replace rh_17 := rh_17.gr hg_270
          replace rh_20 := rh_20.gr hg_270
          replace rh_28 := rh_28.gr hg_270
          replace rh_37 := rh_37.gr hg_270
          replace rh_253 := rh_253.gr hg_270
          replace rh_262 := rh_262.gr hg_270
          replace hst := hst.grow hg_270
          refine lg (b := !decide (r_33.2 = r_5.2)) 46 rfl rfl rfl (by rw [hg_248]; rfl) ?_
          refine lv (v := (.bool (!r_267))) rfl rfl (r_not r_267 rfl) ?_
          refine lv (v := (.bool (!r_267))) rfl rfl (r_pickF (congrArg Value.bool hg_248) rfl) ?_
          refine lv (v := (.bool (!r_267))) rfl rfl (r_move rfl) ?_
          by_cases hg_271 : (!r_267) = true
          · rw [if_pos hg_271] at hm
            refine lp (b := !r_267) 54 rfl rfl rfl rfl (by rw [hg_271]; rfl) ?_
            refine lp (b := !r_267) 54 rfl rfl rfl rfl (by rw [hg_271]; rfl) ?_
            refine lp (b := !r_267) 54 rfl rfl rfl rfl (by rw [hg_271]; rfl) ?_
            refine lp (b := !r_267) 54 rfl rfl rfl rfl (by rw [hg_271]; rfl) ?_
            refine lp (b := !r_267) 54 rfl rfl rfl rfl (by rw [hg_271]; rfl) ?_
            refine lp (b := !r_267) 54 rfl rfl rfl rfl (by rw [hg_271]; rfl) ?_
            refine lv (v := (.bool true)) rfl rfl (r_pickT (congrArg Value.bool hg_271) rfl) ?_
            refine lv (v := (.bool true)) rfl rfl (r_move rfl) ?_
            refine lp (b := true) 62 rfl rfl rfl rfl rfl ?_
            refine lp (b := true) 62 rfl rfl rfl rfl rfl ?_
            refine lp (b := true) 62 rfl rfl rfl rfl rfl ?_
            refine lp (b := true) 62 rfl rfl rfl rfl rfl ?_
            refine lp (b := true) 62 rfl rfl rfl rfl rfl ?_
            refine lv (v := (.bool true)) rfl rfl (r_pickT rfl rfl) ?_
            refine lnil ?_
            exact ⟨col_266, true, hm, hst, h0, rh_9, rh_17, rh_20, rh_28, rh_37, rfl, rfl, rfl, rfl, rfl, rfl, rfl, rfl⟩
          · rw [if_neg hg_271] at hm
            replace hg_271 := Bool.eq_false_iff.2 hg_271
            refine lg (b := !r_267) 54 rfl rfl rfl (by rw [hg_271]; rfl) ?_
            refine lv (v := (.slice ra_35 r_33.1.length rc_36)) rfl rfl (r_move rfl) ?_
            refine lg (b := !r_267) 54 rfl rfl rfl (by rw [hg_271]; rfl) ?_
            obtain ⟨r_272, hr_273, hm⟩ := bind_some hm
            refine lc rfl rfl (r_call1 Try.call13 rfl) (c_credencelaw14_edges N 22 (frC 5 col_266) _ ra_35 rc_36 r_33.1 (rh_37.toSlF (Froz.pair (Froz.int .i64) (Froz.int .i64))) r_272 hr_273) ?_
            rintro _ w_277 ⟨col_279, ra_274, rc_275, rfl, hg_278, rh_276⟩
            refine ⟨_, rfl, ?_⟩
            replace rh_276 := rh_276.thaw (flat_int .i64) hg_278 ((Fz.refl (col := col_266)).froz 5) (by decide)
            replace hg_278 := hg_278.thawR (col := col_266)
            generalize colR w_269.heap.size col_266 col_279 = col_280 at *
            replace h0 := h0.gr hg_278
            replace rh_9 := rh_9.gr hg_278
            replace rh_17 := rh_17.gr hg_278
            replace rh_20 := rh_20.gr hg_278
            replace rh_28 := rh_28.gr hg_278
            replace rh_37 := rh_37.gr hg_278
            replace hst := hst.grow hg_278
            refine lg (b := !r_267) 54 rfl rfl rfl (by rw [hg_271]; rfl) ?_
            refine lv (v := (.slice ra_7 r_5.1.length rc_8)) rfl rfl (r_move rfl) ?_
            refine lg (b := !r_267) 54 rfl rfl rfl (by rw [hg_271]; rfl) ?_
            obtain ⟨r_281, hr_282, hm⟩ := bind_some hm
            refine lc rfl rfl (r_call1 Try.call13 rfl) (c_credencelaw14_edges N 23 (frC 1 col_280) _ ra_7 rc_8 r_5.1 (rh_9.toSlF (Froz.pair (Froz.int .i64) (Froz.int .i64))) r_281 hr_282) ?_
            rintro _ w_286 ⟨col_288, ra_283, rc_284, rfl, hg_287, rh_285⟩
            refine ⟨_, rfl, ?_⟩
            replace rh_285 := rh_285.thaw (flat_int .i64) hg_287 ((Fz.refl (col := col_280)).froz 1) (by decide)
            replace hg_287 := hg_287.thawR (col := col_280)
            generalize colR w_277.heap.size col_280 col_288 = col_289 at *
            replace h0 := h0.gr hg_287
            replace rh_9 := rh_9.gr hg_287
            replace rh_17 := rh_17.gr hg_287
            replace rh_20 := rh_20.gr hg_287
            replace rh_28 := rh_28.gr hg_287
            replace rh_37 := rh_37.gr hg_287
            replace rh_276 := rh_276.gr hg_287
            replace hst := hst.grow hg_287
            refine lg (b := !r_267) 54 rfl rfl rfl (by rw [hg_271]; rfl) ?_
            obtain ⟨r_290, hr_291, hm⟩ := bind_some hm
            refine lc rfl rfl (r_call2 Try.call12 rfl rfl) (c_credenceref14_Same N (frC 23 (frC 22 col_289)) _ ra_274 rc_275 r_272 ra_283 rc_284 r_281 ((rh_276.toSlF (Froz.int .i64)).froz 23) ((rh_285.froz 22 (by decide)).toSlF (Froz.int .i64)) r_290 hr_291) ?_
            rintro _ w_292 ⟨rfl, hg_293⟩
            refine ⟨_, rfl, ?_⟩
            replace hg_293 : Grow col_289 w_286 col_289 w_292 := .of_below hg_293
            replace h0 := h0.gr hg_293
            replace rh_9 := rh_9.gr hg_293
            replace rh_17 := rh_17.gr hg_293
            replace rh_20 := rh_20.gr hg_293
            replace rh_28 := rh_28.gr hg_293
            replace rh_37 := rh_37.gr hg_293
            replace rh_276 := rh_276.gr hg_293
            replace rh_285 := rh_285.gr hg_293
            replace hst := hst.grow hg_293
            refine lg (b := !r_267) 54 rfl rfl rfl (by rw [hg_271]; rfl) ?_
            refine lv (v := (.bool (!r_290))) rfl rfl (r_not r_290 rfl) ?_
            refine lv (v := (.bool (!r_290))) rfl rfl (r_pickF (congrArg Value.bool hg_271) rfl) ?_
            refine lv (v := (.bool (!r_290))) rfl rfl (r_move rfl) ?_
            by_cases hg_294 : (!r_290) = true
            · rw [if_pos hg_294] at hm
              refine lp (b := !r_290) 62 rfl rfl rfl rfl (by rw [hg_294]; rfl) ?_
              refine lp (b := !r_290) 62 rfl rfl rfl rfl (by rw [hg_294]; rfl) ?_
              refine lp (b := !r_290) 62 rfl rfl rfl rfl (by rw [hg_294]; rfl) ?_
              refine lp (b := !r_290) 62 rfl rfl rfl rfl (by rw [hg_294]; rfl) ?_
              refine lp (b := !r_290) 62 rfl rfl rfl rfl (by rw [hg_294]; rfl) ?_
              refine lv (v := (.bool true)) rfl rfl (r_pickT (congrArg Value.bool hg_294) rfl) ?_
              refine lnil ?_
              exact ⟨col_289, true, hm, hst, h0, rh_9, rh_17, rh_20, rh_28, rh_37, rfl, rfl, rfl, rfl, rfl, rfl, rfl, rfl⟩
            · rw [if_neg hg_294] at hm
              replace hg_294 := Bool.eq_false_iff.2 hg_294
              refine lg (b := !r_290) 62 rfl rfl rfl (by rw [hg_294]; rfl) ?_
              refine lv (v := (.slice ra_15 ((r_13.1.2.take r_13.1.1).length) rc_16)) rfl rfl (r_move rfl) ?_
              refine lg (b := !r_290) 62 rfl rfl rfl (by rw [hg_294]; rfl) ?_
              refine lv (v := (.slice ra_18 r_13.2.length rc_19)) rfl rfl (r_move rfl) ?_
              refine lg (b := !r_290) 62 rfl rfl rfl (by rw [hg_294]; rfl) ?_
              refine lv (v := (.slice a0 p0_parents.length cap0)) rfl rfl (r_move rfl) ?_
              refine lg (b := !r_290) 62 rfl rfl rfl (by rw [hg_294]; rfl) ?_
              obtain ⟨r_295, hr_296, hm⟩ := bind_some hm
              refine lc rfl rfl (r_call3 Try.call14 rfl rfl rfl) (c_credencelaw14_kept N (frC 3 (frC 2 col_289)) _ ra_15 rc_16 r_13.1.1 r_13.1.2 ra_18 rc_19 r_13.2 a0 cap0 p0_parents ((rh_17.toSlF Froz.slice).froz 3) ((rh_20.froz 2 (by decide)).toSlF Froz.slice) ((h0.froz 2).froz 3) r_295 hr_296) ?_
              rintro _ w_297 ⟨rfl, hg_298⟩
              refine ⟨_, rfl, ?_⟩
              replace hg_298 : Grow col_289 w_292 col_289 w_297 := .of_below hg_298
              replace h0 := h0.gr hg_298
              replace rh_9 := rh_9.gr hg_298
              replace rh_17 := rh_17.gr hg_298
              replace rh_20 := rh_20.gr hg_298
              replace rh_28 := rh_28.gr hg_298
              replace rh_37 := rh_37.gr hg_298
              replace hst := hst.grow hg_298
              refine lg (b := !r_290) 62 rfl rfl rfl (by rw [hg_294]; rfl) ?_
              refine lv (v := (.bool (!r_295))) rfl rfl (r_not r_295 rfl) ?_
              refine lv (v := (.bool (!r_295))) rfl rfl (r_pickF (congrArg Value.bool hg_294) rfl) ?_
              refine lnil ?_
              exact ⟨col_289, (!r_295), hm, hst, h0, rh_9, rh_17, rh_20, rh_28, rh_37, rfl, rfl, rfl, rfl, rfl, rfl, rfl, rfl⟩



theorem fits_L3 (kk : Option Int) : ∀ (l : List Int) (seen : List (Int × Int)) (S : List Int), S.Nodup → (∀ k, mget seen k = if k ∈ S then some 1 else none) → m_dag_fits_L3 kk l seen = if (S ++ l).Nodup then kk else some 40
  | [], seen, S, h1, h2 => by rw [m_dag_fits_L3.eq_1, List.append_nil, if_pos h1]
  | x :: l, seen, S, h1, h2 => by
    rw [m_dag_fits_L3.eq_2, h2 x]
    by_cases hx : x ∈ S
    · rw [if_pos hx, if_pos (by decide), if_neg]
      intro h
      exact (List.nodup_append.1 h).2.2 x hx x List.mem_cons_self rfl
    · rw [if_neg hx, if_neg (by decide), Option.bind_some, fits_L3 kk l _ (S ++ [x]) (by
        rw [List.nodup_append]
        refine ⟨h1, by simp, fun a ha b hb e => ?_⟩
        rw [List.mem_singleton] at hb; subst hb; subst e; exact hx ha) (fun k => by
        rw [mget_mput, h2 k]
        by_cases hk : k = x
        · subst hk; rw [if_pos rfl, if_pos (by simp)]
        · rw [if_neg hk]
          by_cases hs : k ∈ S
          · rw [if_pos hs, if_pos (by simp [hs])]
          · rw [if_neg hs, if_neg (by simp [hs, hk])])]
      rw [List.append_assoc]; rfl
theorem fits_L2 : ∀ P : List (List Int), m_dag_fits_L2 P = if twiceB P then some 40 else some 0
  | [] => by rw [m_dag_fits_L2.eq_1]; rfl
  | l :: P => by
    rw [m_dag_fits_L2.eq_2, fits_L3 _ l [] [] .nil (fun k => by simp [mget]), fits_L2 P, List.nil_append]
    by_cases h : l.Nodup
    · rw [if_pos h]
      have : twiceB (l :: P) = twiceB P := by rw [twiceB, twiceB, List.any_cons, decide_eq_true h]; rfl
      rw [this]
    · rw [if_neg h]
      have : twiceB (l :: P) = true := by rw [twiceB, List.any_cons, decide_eq_false h]; rfl
      rw [this]; rfl
theorem fits_L4 (P : List (List Int)) (kk : Option Int) : ∀ l : List Int, m_dag_fits_L4 P kk l = if (l.all fun p => decide (0 ≤ p ∧ p < (P.length : Int))) = true then kk else some 3
  | [] => by rw [m_dag_fits_L4.eq_1]; rfl
  | x :: l => by
    rw [m_dag_fits_L4.eq_2, fits_L4 P kk l, m_dag_fits_J1, m_dag_fits_J1, List.all_cons]
    by_cases h1 : x < 0
    · rw [if_pos (by simpa using h1), if_pos rfl, decide_eq_false (by omega), Bool.false_and, if_neg (by decide)]
    · rw [if_neg (by simpa using h1)]
      by_cases h2 : (P.length : Int) ≤ x
      · rw [if_pos (by simpa using h2), decide_eq_false (by omega), Bool.false_and, if_neg (by decide)]
      · rw [if_neg (by simpa using h2), decide_eq_true (by omega), Bool.true_and]
theorem fits_L1 (P : List (List Int)) : ∀ Q : List (List Int), m_dag_fits_L1 P Q = if insideB P.length Q = true then m_dag_fits_L2 P else some 3
  | [] => by rw [m_dag_fits_L1.eq_1]; rfl
  | l :: Q => by
    rw [m_dag_fits_L1.eq_2, fits_L4, fits_L1 P Q]
    by_cases h : (l.all fun p => decide (0 ≤ p ∧ p < (P.length : Int))) = true
    · rw [if_pos h]
      have : insideB P.length (l :: Q) = insideB P.length Q := by rw [insideB, insideB, List.all_cons, h, Bool.true_and]
      rw [this]
    · rw [if_neg h]
      have : insideB P.length (l :: Q) = false := by rw [insideB, List.all_cons, Bool.eq_false_iff.2 h, Bool.false_and]
      rw [this, if_neg (by decide)]
theorem fits_eq (P : List (List Int)) : m_dag_fits P = if insideB P.length P = true then (if twiceB P = true then some 40 else some 0) else some 3 := by
  rw [m_dag_fits, fits_L1, fits_L2]

/-- What is asked of a list of parents for these laws: it is no giant. -/
structure Sml (P : List (List Int)) : Prop where
  n : P.length ≤ 1000000
  t : totl P ≤ 1000000
theorem Sml.ls {P : List (List Int)} (h : Sml P) : ∀ x ∈ P, x.length ≤ 1000000 := fun x hx => Nat.le_trans (totl_mem hx) h.t
theorem inside_InR {P : List (List Int)} {n : Nat} (h : insideB n P = true) : ∀ l ∈ P, InR n l := by
  intro l hl x hx
  rw [insideB, List.all_eq_true] at h
  have := List.all_eq_true.1 (h l hl) x hx
  simpa using this

/-- Three ways to end: out of range, twice, a cycle; or an order. -/
inductive Says (N : Nat) (P : List (List Int)) : Prop
  | err (e : Int) (D : m_dag_Order N P = some ([], e)) (R : m_credenceref14_Check N P = some e) (ne : e = 3 ∨ e = 40) : Says N P
  | cyc (I : insideB P.length P = true) (T : twiceB P = false) (l : List Int) (o : m_credenceref14_out N P = some l) (ok : OutOk P l) (mx : nextF P l 0 = none) (lt : l.length < P.length) (D : m_dag_Order N P = some ([], 42)) (R : m_credenceref14_Check N P = some 42) : Says N P
  | ord (I : insideB P.length P = true) (T : twiceB P = false) (l : List Int) (o : m_credenceref14_out N P = some l) (ok : OutOk P l) (mx : nextF P l 0 = none) (eq : l.length = P.length) (D : m_dag_Order N P = some (l, 0)) (R : m_credenceref14_Check N P = some 0) : Says N P
theorem says {N : Nat} {P : List (List Int)} (h : Sml P) (hN : 2000000 < N) : Says N P := by
  have hn := h.n
  have ht := h.t
  have hls := h.ls
  have hls' : ∀ x ∈ P, x.length ≤ 1048576 := fun x hx => by have := hls x hx; omega
  have hD : m_dag_Order N P = (m_dag_fits P).bind fun r_1 => if (!decide (r_1 = 0)) = true then (some (([] : List Int), r_1)) else ((m_dag_children P).bind fun r_5 => (m_dag_sorted N P r_5).bind fun r_13 => if (decide ((r_13.length : Int) < (P.length : Int))) = true then (some (([] : List Int), 42)) else (some (r_13, 0))) := by rw [m_dag_Order]
  have hR : m_credenceref14_Check N P = (m_credenceref14_inside N P).bind fun r_1 => if (!r_1) = true then (some 3) else ((m_credenceref14_twice N P).bind fun r_5 => if r_5 = true then (some 40) else ((m_credenceref14_out N P).bind fun r_9 => if (decide ((r_9.length : Int) < (P.length : Int))) = true then (some 42) else (some 0))) := by rw [m_credenceref14_Check]
  rw [fits_eq] at hD
  rw [inside_eq (by omega) hls' (by omega), Option.bind_some] at hR
  by_cases hI : insideB P.length P = true
  · rw [hI, if_neg (by decide), twice_eq (by omega) hls' (by omega), Option.bind_some] at hR
    rw [if_pos hI] at hD
    by_cases hT : twiceB P = true
    · rw [if_pos hT] at hD hR
      exact .err 40 (by rw [hD]; rfl) hR (.inr rfl)
    · rw [if_neg hT] at hD hR
      obtain ⟨l, h1, h2, h3⟩ := out_eq (N := N) (P := P) (by omega) hls' (by omega)
      obtain ⟨D, h4, h5, h6⟩ := children_eq (P := P) (by omega) (by omega) (inside_InR hI)
      rw [h1, Option.bind_some] at hR
      rw [Option.bind_some, if_neg (by decide), h4, Option.bind_some, sorted_eq (by omega) hls' (by omega) hN h5 h6, h1, Option.bind_some] at hD
      have hT := Bool.eq_false_iff.2 hT
      have hle := h2.len
      by_cases hlt : l.length < P.length
      · rw [if_pos (decide_eq_true (by omega))] at hR hD
        exact .cyc hI hT l h1 h2 h3 hlt hD hR
      · rw [if_neg (by rw [decide_eq_true_eq]; omega)] at hR hD
        exact .ord hI hT l h1 h2 h3 (by omega) hD hR
  · rw [Bool.eq_false_iff.2 hI, if_pos (by decide)] at hR
    rw [if_neg hI] at hD
    exact .err 3 (by rw [hD]; rfl) hR (.inl rfl)
/-- The two tests say the same. -/
theorem check_eq {N : Nat} {P : List (List Int)} (h : Sml P) (hN : 2000000 < N) : ∃ e, m_dag_Check N P = some e ∧ m_credenceref14_Check N P = some e := by
  rw [m_dag_Check]
  rcases says h hN with ⟨e, D, R, _⟩ | ⟨_, _, l, _, _, _, _, D, R⟩ | ⟨_, _, l, _, _, _, _, D, R⟩
  · exact ⟨e, by rw [D]; rfl, R⟩
  · exact ⟨42, by rw [D]; rfl, R⟩
  · exact ⟨0, by rw [D]; rfl, R⟩
theorem edges_both {N : Nat} {P : List (List Int)} (h : Sml P) (hN : 2000000 < N) : ∃ E e, m_dag_Edges N P = some (E, e) ∧ m_credenceref14_Edges N P = some (E, e) ∧ E.length ≤ totl P := by
  obtain ⟨e, h1, h2⟩ := check_eq h hN
  have hn := h.n
  have ht := h.t
  rw [m_dag_Edges, m_credenceref14_Edges, h1, h2, Option.bind_some, Option.bind_some]
  by_cases he : e = 0
  · subst he
    rw [if_neg (by decide), if_neg (by decide), dagEdges_L1 P 0 [] (by simp; omega)]
    have := refEdges_L1 N P (by omega) (by omega) (by omega) N 0 [] (by omega) (by omega) (by simp)
    rw [show (0 : Int) = ((0 : Nat) : Int) from rfl, this]
    exact ⟨_, _, rfl, rfl, by rw [List.nil_append, edgeL_length]; exact Nat.le_refl _⟩
  · rw [if_pos (by simpa using he), if_pos (by simpa using he)]
    exact ⟨[], e, rfl, rfl, by simp⟩

section
variable {N : Nat} {P : List (List Int)} {E : List (Int × Int)} {e : Int}
theorem DE_L2 (h : Sml P) (hN : 2000000 < N) (h1 : m_dag_Edges N P = some (E, e)) (hE : E.length ≤ 2000) : ∀ (n j : Nat) (l : List (Int × Int)), 9 < n + j → j ≤ 9 → l.length = E.length + j →
    m_credencelaw14_DagEdges_L2 N P (E, e) ((P.length, P ++ [[-77]]), P.map longL) (E, e) n l (j : Int) = some true
  | 0, j, l, hn, hj, hl => by omega
  | n + 1, j, l, hn, hj, hl => by
    have htk : (P ++ [[-77]]).take P.length = P := List.take_left
    have hfl := flatE_length E
    have hSame : m_credenceref14_Same N (flatE E) (flatE E) = some true := by rw [Same_eq (by omega) (by omega), decide_eq_true rfl]
    have hedges := edges_eq (N := N) (l := E) (by omega) (by omega)
    have hkept := kept_eq (N := N) h.n h.ls (by omega)
    rw [m_credencelaw14_DagEdges_L2.eq_2]
    by_cases hlt : j < 9
    · rw [if_pos (decide_eq_true (by omega)), chk_pos (by simp only [List.length_cons, List.length_nil, maxLen]; omega), wS (by omega)]
      exact DE_L2 h hN h1 hE n (j + 1) _ (by omega) (by omega) (by simp; omega)
    · rw [if_neg (by rw [decide_eq_true_eq]; omega)]
      simp only [htk, h1, hedges, hSame, hkept, Option.bind_some]
      rw [if_pos (decide_eq_true (by rw [w64 (by omega)]; omega))]
      simp only [if_true, m_credencelaw14_DagEdges_J2]
theorem DE_L1 (h : Sml P) (hN : 2000000 < N) (h1 : m_dag_Edges N P = some (E, e)) (hE : E.length ≤ 2000) : ∀ (n i : Nat) (a : List (Int × Int)), E.length < n + i → i ≤ E.length → a.length = E.length →
    m_credencelaw14_DagEdges_L1 N P (E, e) ((P.length, P ++ [[-77]]), P.map longL) (E, e) n (i : Int) a = some true
  | 0, i, a, hn, hi, ha => by omega
  | n + 1, i, a, hn, hi, ha => by
    rw [m_credencelaw14_DagEdges_L1.eq_2]
    by_cases hlt : i < E.length
    · rw [if_pos (decide_eq_true (by omega)), at?_lt (by omega), Option.bind_some, Option.bind_some, wS (by omega)]
      exact DE_L1 h hN h1 hE n (i + 1) _ (by omega) (by omega) (by simpa using ha)
    · rw [if_neg (by rw [decide_eq_true_eq]; omega)]
      exact DE_L2 h hN h1 hE N 0 a (by omega) (by omega) (by omega)
end
theorem DagEdges_true {N : Nat} {P : List (List Int)} (hn : P.length ≤ 1048576) (ht : totl P ≤ 1048576) (hN : 2000000 < N) : m_credencelaw14_DagEdges N P = some true := by
  obtain ⟨b, h1, h2⟩ := many_eq (N := N) (P := P) (by omega) (by omega) (by omega)
  have htk : (P ++ [[-77]]).take P.length = P := List.take_left
  rw [m_credencelaw14_DagEdges, h1, Option.bind_some]
  cases b
  · obtain ⟨h6, h7⟩ := h2 rfl
    have h : Sml P := ⟨by omega, by omega⟩
    obtain ⟨E, e, h3, h4, h5⟩ := edges_both h hN
    have hfl := flatE_length E
    have hSame : m_credenceref14_Same N (flatE E) (flatE E) = some true := by rw [Same_eq (by omega) (by omega), decide_eq_true rfl]
    have hedges := edges_eq (N := N) (l := E) (by omega) (by omega)
    have hkept := kept_eq (N := N) h.n h.ls (by omega)
    have hlent := lent_eq (N := N) (P := P) (by omega) (fun l hl => by have := h.ls l hl; omega) (by omega)
    rw [if_neg (by decide)]
    simp only [h4, hlent, htk, h3, hedges, hSame, hkept, Option.bind_some]
    rw [if_neg (by simp), if_neg (by decide), m_credencelaw14_DagEdges_J1, if_neg (by decide)]
    exact DE_L1 h hN h3 (by omega) N 0 E (by omega) (by omega) rfl
  · rw [if_pos rfl]


theorem el3_47 : ElemOk Try.prog 3 1 8 := ⟨Try.t3, _, rfl, rfl, rfl, rfl, rfl⟩

def m_dag_reach_1 (p0_p : Int) (p1_v : List (Int × Int)) (p2_v : (List Int)) : Option (List (Int × Int) × (List Int)) :=
  if (decide (((mget p1_v p0_p).getD 0) = 0)) = true then ((some (mput p1_v p0_p 1)).bind fun es_5 => chk ((p2_v.length + [p0_p].length) * 8 ≤ 140737488355328 ∧ p2_v.length + [p0_p].length ≤ maxLen) (some (es_5, p2_v ++ [p0_p]))) else (some (p1_v, p2_v))

set_option maxRecDepth 100000 in
theorem c_dag_reach_1 (col : Col) (w0 : World) (q1 : Nat) (q1_1 : Nat) (q2 : Nat) (q2_1 : Nat) (hd : dstB [q1, q1_1, q2, q2_1] = true) (p0_p : Int) (g1 : Nat) (p1_v : List (Int × Int)) (gm1_2 : Nat) (g2 : Nat) (p2_v : (List Int)) (a2_2 : Option Addr) (cap2_2 : Nat) (h1_2 : MapO (Value.int .i64) (Value.int .i64) q1_1 col w0 gm1_2 p1_v) (hb1 : Box 51 q1 col w0 g1 #[(.map (some gm1_2))]) (h2_2 : Own (Rep.int .i64) 3 q2_1 col w0 a2_2 cap2_2 p2_v) (hb2 : Box 31 q2 col w0 g2 #[(.slice a2_2 p2_v.length cap2_2)]) (r : (List (Int × Int) × (List Int))) (hm : m_dag_reach_1 p0_p p1_v p2_v = some r) :
    Calls Try.prog 47 #[(.int .i64 p0_p), (.pointer (some ⟨g1, 0, none⟩)), (.pointer (some ⟨g2, 0, none⟩))] w0 (fun e w' => ∃ (col' : Col) (og1 : Nat) (oa4 : Option Addr) (oc5 : Nat), e = .returned (.tuple #[]) ∧ KeepP (pS [q1, q1_1, q2, q2_1]) col w0 col' w' ∧ MapO (Value.int .i64) (Value.int .i64) q1_1 col' w' og1 r.1 ∧ Box 51 q1 col' w' g1 #[(.map (some og1))] ∧ Own (Rep.int .i64) 3 q2_1 col' w' oa4 oc5 r.2 ∧ Box 31 q2 col' w' g2 #[(.slice oa4 r.2.length oc5)]) := by
  refine calls_of0  (m := 14) (args := [(.int .i64 p0_p), (.pointer (some ⟨g1, 0, none⟩)), (.pointer (some ⟨g2, 0, none⟩))]) Try.func47 rfl rfl rfl rfl ?_
  rw [m_dag_reach_1.eq_1] at hm
  have hst := St.startL (l := [q1, q1_1, q2, q2_1]) rfl col w0
  replace hb1 := hb1.startL (dst_nz hd 0 rfl) (dst_ix hd 0 rfl)
  replace h1_2 := h1_2.startL (dst_nz hd 1 rfl) (dst_ix hd 1 rfl)
  replace hb2 := hb2.startL (dst_nz hd 2 rfl) (dst_ix hd 2 rfl)
  replace h2_2 := h2_2.startL (dst_nz hd 3 rfl) (dst_ix hd 3 rfl)
  refine wseq ?_
  refine wregion ?_
  refine lv (v := (.map (some gm1_2))) rfl rfl (r_ld Try.isAgg51 rfl hb1.at1) ?_
  refine lv (v := (.int .i64 p0_p)) rfl rfl (r_move rfl) ?_
  refine lv (v := (.int .i64 ((mget p1_v p0_p).getD 0))) rfl rfl (r_lookup KeyD.int h1_2 Try.underlying51 Try.underlying3 Try.zeroValue3 rfl rfl) ?_
  refine lv (v := (.bool (decide (((mget p1_v p0_p).getD 0) = 0)))) rfl rfl (r_eql ((mget p1_v p0_p).getD 0) 0 rfl rfl) ?_
  refine lnil ?_
  refine wcond (decide (((mget p1_v p0_p).getD 0) = 0)) rfl (fun hb => ?_) (fun hb => ?_)
  · rw [if_pos hb] at hm
    clear hb
    refine wseq ?_
    refine wregion ?_
    refine lv (v := (.map (some gm1_2))) rfl rfl (r_ld Try.isAgg51 rfl hb1.at1) ?_
    refine lv (v := (.int .i64 p0_p)) rfl rfl (r_move rfl) ?_
    obtain ⟨es_5, hz_6, hm⟩ := bind_some hm
    have hz_6 : es_5 = mput p1_v p0_p 1 := (Option.some.inj hz_6).symm
    refine l_mapUpdate (k := p0_p) (v := 1) KeyD.int h1_2 Try.underlying51 Try.underlying3 rfl rfl rfl ?_
    intro w_1 hk_2 hs_3 h_4
    rw [← hz_6] at h_4
    clear hz_6
    replace h2_2 := h2_2.kp hk_2 (by decide) (by decide)
    replace hb1 := hb1.kp hk_2 (by decide)
    replace hb2 := hb2.kp hk_2 (by decide)
    replace hst := hst.kp hk_2 hs_3 (by decide) (by decide)
    clear h1_2
    refine lnil ?_
    refine wregion ?_
    refine lv (v := (.slice a2_2 p2_v.length cap2_2)) rfl rfl (r_ld Try.isAgg31 rfl hb2.at1) ?_
    refine lv (v := (.int .i64 p0_p)) rfl rfl (r_move rfl) ?_
    refine l_lit (col := (colL [q1, q1_1, q2, q2_1] col)) (r := (Rep.int .i64)) (xs := [p0_p]) [(.int .i64 p0_p)] 1 rfl Try.underlying31 el3_47 rfl rfl rfl rfl rfl rfl (by intro v hv; simp only [List.mem_cons, List.not_mem_nil, or_false] at hv; subst hv; rfl) (RowsH.ofF (Rows.consF (r := (Rep.int .i64)) (x := p0_p) (cs := [(.int .i64 p0_p)]) (rd_int .i64 p0_p) Rows.nil0)) ?_
    intro a_7 w_8 col_9 hg_10 h_11
    replace h2_2 := h2_2.gr hg_10
    replace h_4 := h_4.gr hg_10
    replace hb1 := hb1.gr hg_10
    replace hb2 := hb2.gr hg_10
    replace hst := hst.grow hg_10
    obtain ⟨hb_12, hm⟩ := chk_some hm
    refine l_ext (col := col_9) (w := w_8) (r := (Rep.int .i64)) (c := 443) (c2 := 443) (h2_2.ex) (h_11.srcN (NB.int (k := .i64))) rfl Try.underlying31 el3_47 rfl rfl rfl hb_12.1 hb_12.2 (by decide) ?_
    intro a_13 cap_14 w_15 col_16 hk_17 h_18
    replace h_11 := h_11.kpp hk_17 rfl rfl
    replace h_4 := h_4.kpp hk_17 rfl
    replace hb1 := hb1.kpp hk_17 rfl
    replace hb2 := hb2.kpp hk_17 rfl
    replace hst := hst.kpp hk_17 rfl rfl
    clear h2_2
    refine l_bstore (v := (.slice a_13 ((p2_v ++ [p0_p]).length) cap_14)) hb2 Try.sizeOf31 rfl rfl (by intro u hu; simp only [Value.cells, List.mem_cons, List.not_mem_nil, or_false] at hu; subst hu; rfl) rfl rfl ?_
    intro w_19 hk_20 hs_21 hb_22
    replace h_18 := h_18.kp hk_20 (by decide) (by decide)
    replace h_4 := h_4.kp hk_20 (by decide)
    replace hb1 := hb1.kp hk_20 (by decide)
    replace hst := hst.kp hk_20 hs_21 (by decide) (by decide)
    clear hb2
    replace hb_22 : Box 31 442 col_16 w_19 g2 #[(.slice a_13 ((p2_v ++ [p0_p]).length) cap_14)] := hb_22
    have h_23 := h_18.new
    clear h_18
    refine lnil ?_
    cases hm
    exact ⟨rfl, colFL w0.heap.size [q1, q1_1, q2, q2_1] col col_16 (fun n => bif Nat.beq n 441 then q1_1 else bif Nat.beq n 440 then q1 else bif Nat.beq n 443 then q2_1 else bif Nat.beq n 442 then q2 else 0), gm1_2, a_13, cap_14, rfl, hst.finL rfl (fun n => bif Nat.beq n 441 then q1_1 else bif Nat.beq n 440 then q1 else bif Nat.beq n 443 then q2_1 else bif Nat.beq n 442 then q2 else 0), hst.finMapL (G := (fun n => bif Nat.beq n 441 then q1_1 else bif Nat.beq n 440 then q1 else bif Nat.beq n 443 then q2_1 else bif Nat.beq n 442 then q2 else 0)) h_4 (by decide) (by decide) rfl, hst.finBoxL (g := (fun n => bif Nat.beq n 441 then q1_1 else bif Nat.beq n 440 then q1 else bif Nat.beq n 443 then q2_1 else bif Nat.beq n 442 then q2 else 0)) hb1 (by decide) (by decide) rfl, hst.finOwnL (g := (fun n => bif Nat.beq n 441 then q1_1 else bif Nat.beq n 440 then q1 else bif Nat.beq n 443 then q2_1 else bif Nat.beq n 442 then q2 else 0)) rfl h_23 (by decide) (by decide) rfl, hst.finBoxL (g := (fun n => bif Nat.beq n 441 then q1_1 else bif Nat.beq n 440 then q1 else bif Nat.beq n 443 then q2_1 else bif Nat.beq n 442 then q2 else 0)) hb_22 (by decide) (by decide) rfl⟩
  · rw [if_neg (by rw [hb]; decide)] at hm
    clear hb
    refine wskip ?_
    cases hm
    exact ⟨rfl, colFL w0.heap.size [q1, q1_1, q2, q2_1] col (colL [q1, q1_1, q2, q2_1] col) (fun n => bif Nat.beq n 441 then q1_1 else bif Nat.beq n 440 then q1 else bif Nat.beq n 443 then q2_1 else bif Nat.beq n 442 then q2 else 0), gm1_2, a2_2, cap2_2, rfl, hst.finL rfl (fun n => bif Nat.beq n 441 then q1_1 else bif Nat.beq n 440 then q1 else bif Nat.beq n 443 then q2_1 else bif Nat.beq n 442 then q2 else 0), hst.finMapL (G := (fun n => bif Nat.beq n 441 then q1_1 else bif Nat.beq n 440 then q1 else bif Nat.beq n 443 then q2_1 else bif Nat.beq n 442 then q2 else 0)) h1_2 (by decide) (by decide) rfl, hst.finBoxL (g := (fun n => bif Nat.beq n 441 then q1_1 else bif Nat.beq n 440 then q1 else bif Nat.beq n 443 then q2_1 else bif Nat.beq n 442 then q2 else 0)) hb1 (by decide) (by decide) rfl, hst.finOwnL (g := (fun n => bif Nat.beq n 441 then q1_1 else bif Nat.beq n 440 then q1 else bif Nat.beq n 443 then q2_1 else bif Nat.beq n 442 then q2 else 0)) rfl h2_2 (by decide) (by decide) rfl, hst.finBoxL (g := (fun n => bif Nat.beq n 441 then q1_1 else bif Nat.beq n 440 then q1 else bif Nat.beq n 443 then q2_1 else bif Nat.beq n 442 then q2 else 0)) hb2 (by decide) (by decide) rfl⟩



theorem c_slices_Sort_int_int (col : Col) (w0 : World) (q0 : Nat) (hd : dstB [q0] = true) (a0 : Option Addr) (cap0 : Nat) (p0_x : (List Int)) (h0 : Own (Rep.int .i64) 3 q0 col w0 a0 cap0 p0_x) (r : (List Int)) (hm : lib_sort p0_x = some r) :
    Calls Try.prog 48 #[(.slice a0 p0_x.length cap0)] w0 (fun e w' => ∃ (col' : Col), e = .returned (.tuple #[]) ∧ KeepP (pS [q0]) col w0 col' w' ∧ Own (Rep.int .i64) 3 q0 col' w' a0 cap0 r ∧ r.length = p0_x.length) :=
  sort_int Try.slices_Sort_int Try.slices_Sort_int_none col w0 q0 hd a0 cap0 p0_x h0 r hm




def m_dag_reach_L3 (i_36 : Int) (kk_L2 : (Int → (List Int) → (List (Int × Int)) → Option ((List Int) × Int))) : List Int → (List Int) → (List (Int × Int)) → Option ((List Int) × Int)
  | [], out_57, seen_62 => kk_L2 (IntKind.i64.wrap (i_36 + 1)) out_57 seen_62
  | x_64 :: l_65, out_57, seen_62 => (m_dag_reach_1 x_64 seen_62 out_57).bind fun r_66 => (m_dag_reach_L3 i_36 kk_L2 l_65) r_66.2 r_66.1

def m_dag_reach_L2 (N : Nat) (p0_ways : (List (List Int))) : Nat → Int → (List Int) → (List (Int × Int)) → Option ((List Int) × Int)
  | 0, _, _, _ => none
  | n_33 + 1, i_36, out_37, seen_42 => if (decide (i_36 < (out_37.length : Int))) = true then ((at? out_37 i_36).bind fun e_44 => (at? p0_ways e_44).bind fun e_46 => m_dag_reach_L3 i_36 (m_dag_reach_L2 N p0_ways n_33) e_46 out_37 seen_42) else ((lib_sort out_37).bind fun r_78 => some (r_78, 0))

def m_dag_reach_J1 (out_24 : List Int) (seen_29 : List (Int × Int)) (kk_L1 : ((List Int) → (List (Int × Int)) → Option ((List Int) × Int))) (x_31 : Int) (v_88 : Bool) : Option ((List Int) × Int) :=
  if v_88 = true then (some (([] : List Int), 3)) else ((m_dag_reach_1 x_31 seen_29 out_24).bind fun r_89 => kk_L1 r_89.2 r_89.1)

def m_dag_reach_L1 (N : Nat) (p0_ways : (List (List Int))) : List Int → (List Int) → (List (Int × Int)) → Option ((List Int) × Int)
  | [], out_24, seen_29 => m_dag_reach_L2 N p0_ways N 0 out_24 seen_29
  | x_31 :: l_32, out_24, seen_29 => if (decide (x_31 < 0)) = true then (m_dag_reach_J1 out_24 seen_29 (m_dag_reach_L1 N p0_ways l_32) x_31 true) else (m_dag_reach_J1 out_24 seen_29 (m_dag_reach_L1 N p0_ways l_32) x_31 (decide ((p0_ways.length : Int) ≤ x_31)))

def m_dag_reach (N : Nat) (p0_ways : (List (List Int))) (p1_points : (List Int)) : Option ((List Int) × Int) :=
  m_dag_reach_L1 N p0_ways p1_points ([] : List Int) ([] : List (Int × Int))

set_option maxRecDepth 100000 in
theorem c_dag_reach (N : Nat) (c1 : Nat) (col : Col) (w0 : World) (a0 : Option Addr) (cap0 : Nat) (p0_ways : (List (List Int))) (a1 : Option Addr) (cap1 : Nat) (p1_points : (List Int)) (h0 : Sl (Rep.slice (Rep.int .i64)) col w0 a0 cap0 p0_ways) (h1 : Sl (Rep.int .i64) col w0 a1 cap1 p1_points) (r : ((List Int) × Int)) (hm : m_dag_reach N p0_ways p1_points = some r) :
    Calls Try.prog 38 #[(.slice a0 p0_ways.length cap0), (.slice a1 p1_points.length cap1)] w0 (fun e w' => ∃ (col' : Col) (ra1 : Option Addr) (rc2 : Nat), e = .returned (.tuple #[(.slice ra1 r.1.length rc2), (.int .i64 r.2)]) ∧ Grow col w0 col' w' ∧ Own (Rep.int .i64) 3 c1 col' w' ra1 rc2 r.1) := by
  refine calls_of2 4 5 (m := 61) (args := [(.slice a0 p0_ways.length cap0), (.slice a1 p1_points.length cap1)]) Try.func38 rfl rfl rfl rfl rfl ?_
  rw [m_dag_reach.eq_1] at hm
  have hst := St.start col w0
  replace h0 := h0.keep (Stay.start col w0)
  replace h1 := h1.keep (Stay.start col w0)
  refine wseq ?_
  refine wregion ?_
  refine lv (v := (.slice none (([] : List Int).length) 0)) rfl rfl (r_assign rfl) ?_
  refine lv (v := (.int .i64 0)) rfl rfl (r_assign rfl) ?_
  refine lnil ?_
  refine wseq ?_
  refine wregion ?_
  refine lv (v := (.slice a1 p1_points.length cap1)) rfl rfl (r_move rfl) ?_
  refine lv (v := (.int .i64 (p1_points.length : Int))) rfl rfl (r_len Try.underlying31 rfl) ?_
  refine l_makeMapN (col := (col0 col)) (fk := (Value.int .i64)) (fv := (Value.int .i64)) 1 rfl Try.underlying51 rfl ?_
  intro g_1 w_2 col_3 hg_4 h_5
  replace h0 := h0.gr hg_4
  replace h1 := h1.gr hg_4
  replace hst := hst.grow hg_4
  refine l_alloc (col := col_3) (v := (.map none)) 2 rfl Try.zeroValue51 ?_
  intro g_6 w_7 col_8 hg_9 hb_10
  replace h0 := h0.gr hg_9
  replace h1 := h1.gr hg_9
  replace h_5 := h_5.gr hg_9
  replace hst := hst.grow hg_9
  replace hb_10 : Box 51 2 col_8 w_7 g_6 #[(.map none)] := hb_10
  refine l_bstore (v := (.map (some g_1))) hb_10 Try.sizeOf51 rfl rfl (by intro u hu; simp only [Value.cells, List.mem_cons, List.not_mem_nil, or_false] at hu; subst hu; rfl) rfl rfl ?_
  intro w_11 hk_12 hs_13 hb_14
  replace h0 := h0.kp hk_12 (by decide)
  replace h1 := h1.kp hk_12 (by decide)
  replace h_5 := h_5.kp hk_12 (by decide)
  replace hst := hst.kp hk_12 hs_13 (by decide) (by decide)
  clear hb_10
  replace hb_14 : Box 51 2 col_8 w_11 g_6 #[(.map (some g_1))] := hb_14
  refine lnil ?_
  refine wseq ?_
  refine wregion ?_
  refine l_alloc (col := col_8) (v := (.slice none (([] : List Int).length) 0)) 3 rfl Try.zeroValue31 ?_
  intro g_15 w_16 col_17 hg_18 hb_19
  replace h0 := h0.gr hg_18
  replace h1 := h1.gr hg_18
  replace h_5 := h_5.gr hg_18
  replace hb_14 := hb_14.gr hg_18
  replace hst := hst.grow hg_18
  replace hb_19 : Box 31 3 col_17 w_16 g_15 #[(.slice none (([] : List Int).length) 0)] := hb_19
  refine lnil ?_
  refine wseq ?_
  refine wregion ?_
  refine lv (v := (.func (.func 47) #[] #[(.pointer (some ⟨g_6, 0, none⟩)), (.pointer (some ⟨g_15, 0, none⟩))])) rfl rfl (r_func2 rfl rfl) ?_
  refine lv (v := (.func (.func 47) #[] #[(.pointer (some ⟨g_6, 0, none⟩)), (.pointer (some ⟨g_15, 0, none⟩))])) rfl rfl (r_assign rfl) ?_
  refine lnil ?_
  refine wseq ?_
  refine wseq ?_
  refine wregion ?_
  refine lv (v := (.slice a1 p1_points.length cap1)) rfl rfl (r_move rfl) ?_
  refine lv (v := (.int .i64 (p1_points.length : Int))) rfl rfl (r_len Try.underlying31 rfl) ?_
  refine lv (v := (.int .i64 0)) rfl rfl (r_move rfl) ?_
  refine lnil ?_
  refine wblock ?_
  refine wloop (fun n f w_22 => ∃ (col_23 : Col) (k_20 : Nat) (a_25 : Option Addr) (cap_26 : Nat) (out_24 : List Int) (g_28 : Nat) (seen_29 : List (Int × Int)) (l_21 : List Int), n = l_21.length ∧ p1_points.drop k_20 = l_21 ∧ m_dag_reach_L1 N p0_ways l_21 out_24 seen_29 = some r ∧ St w0 (col0 col) col_23 w_22 ∧ Sl (Rep.slice (Rep.int .i64)) col_23 w_22 a0 cap0 p0_ways ∧ Sl (Rep.int .i64) col_23 w_22 a1 cap1 p1_points ∧ Own (Rep.int .i64) 3 4 col_23 w_22 a_25 cap_26 out_24 ∧ Box 31 3 col_23 w_22 g_15 #[(.slice a_25 out_24.length cap_26)] ∧ MapO (Value.int .i64) (Value.int .i64) 1 col_23 w_22 g_28 seen_29 ∧ Box 51 2 col_23 w_22 g_6 #[(.map (some g_28))] ∧ f 20 = (.int .i64 (k_20 : Int)) ∧ f 0 = (.slice a0 p0_ways.length cap0) ∧ f 18 = (.slice a1 p1_points.length cap1) ∧ f 19 = (.int .i64 (p1_points.length : Int)) ∧ f 7 = (.pointer (some ⟨g_15, 0, none⟩)) ∧ f 8 = (.func (.func 47) #[] #[(.pointer (some ⟨g_6, 0, none⟩)), (.pointer (some ⟨g_15, 0, none⟩))]) ∧ f 1000000 = (enc [])) p1_points.length ⟨col_17, 0, none, 0, ([] : List Int), g_1, ([] : List (Int × Int)), p1_points, rfl, rfl, hm, hst, h0, h1, Own.nil, hb_19, h_5, hb_14, rfl, rfl, rfl, rfl, rfl, rfl, rfl⟩ ?_
  clear hm; intro n f w_22 hI
  obtain ⟨col_23, k_20, a_25, cap_26, out_24, g_28, seen_29, l_21, hn, hl, hm, hst, h0, h1, h_27, hb_19, h_30, hb_14, hs20, hs0, hs18, hs19, hs7, hs8, hs1000000⟩ := hI
  subst hn
  refine .ld (d := 20) (v := (.int .i64 (k_20 : Int))) hs20 ?_
  refine .ld (d := 0) (v := (.slice a0 p0_ways.length cap0)) hs0 ?_
  refine .ld (d := 18) (v := (.slice a1 p1_points.length cap1)) hs18 ?_
  refine .ld (d := 19) (v := (.int .i64 (p1_points.length : Int))) hs19 ?_
  refine .ld (d := 7) (v := (.pointer (some ⟨g_15, 0, none⟩))) hs7 ?_
  refine .ld (d := 8) (v := (.func (.func 47) #[] #[(.pointer (some ⟨g_6, 0, none⟩)), (.pointer (some ⟨g_15, 0, none⟩))])) hs8 ?_
  refine .ld (d := 1000000) (v := (enc [])) hs1000000 ?_
  clear hs20 hs0 hs18 hs19 hs7 hs8 hs1000000
  cases l_21 with
  | nil =>
    have hk : ¬ ((k_20 : Int) < (p1_points.length : Int)) := by have := List.drop_eq_nil_iff.1 hl; omega
    have hkb := decide_eq_false hk
    rw [m_dag_reach_L1.eq_1] at hm
    refine wseq ?_
    refine wregion ?_
    refine lv (v := (.bool (decide ((k_20 : Int) < (p1_points.length : Int))))) rfl rfl (r_lss (k_20 : Int) (p1_points.length : Int) rfl rfl) ?_
    refine lnil ?_
    refine wseq ?_
    refine wcondF (congrArg Value.bool hkb) ?_
    refine wexit (inB_hit ?_)
    refine wseq ?_
    refine wseq ?_
    refine wregion ?_
    refine lv (v := (.int .i64 0)) rfl rfl (r_assign rfl) ?_
    refine lnil ?_
    refine wblock ?_
    refine wloop (fun n f w_34 => ∃ (col_35 : Col) (i_36 : Int) (a_38 : Option Addr) (cap_39 : Nat) (out_37 : List Int) (g_41 : Nat) (seen_42 : List (Int × Int)) (n_33 : Nat), n_33 = n ∧ m_dag_reach_L2 N p0_ways n_33 i_36 out_37 seen_42 = some r ∧ St w0 (col0 col) col_35 w_34 ∧ Sl (Rep.slice (Rep.int .i64)) col_35 w_34 a0 cap0 p0_ways ∧ Own (Rep.int .i64) 3 4 col_35 w_34 a_38 cap_39 out_37 ∧ Box 31 3 col_35 w_34 g_15 #[(.slice a_38 out_37.length cap_39)] ∧ MapO (Value.int .i64) (Value.int .i64) 1 col_35 w_34 g_41 seen_42 ∧ Box 51 2 col_35 w_34 g_6 #[(.map (some g_41))] ∧ f 0 = (.slice a0 p0_ways.length cap0) ∧ f 11 = (.int .i64 i_36) ∧ f 7 = (.pointer (some ⟨g_15, 0, none⟩)) ∧ f 8 = (.func (.func 47) #[] #[(.pointer (some ⟨g_6, 0, none⟩)), (.pointer (some ⟨g_15, 0, none⟩))]) ∧ f 1000000 = (enc [])) N ⟨col_23, 0, a_25, cap_26, out_24, g_28, seen_29, N, rfl, hm, hst, h0, h_27, hb_19, h_30, hb_14, rfl, rfl, rfl, rfl, rfl⟩ ?_
    clear hm; intro n f w_34 hI
    obtain ⟨col_35, i_36, a_38, cap_39, out_37, g_41, seen_42, n_33, hn, hm, hst, h0, h_40, hb_19, h_43, hb_14, hs0, hs11, hs7, hs8, hs1000000⟩ := hI
    subst hn
    refine .ld (d := 0) (v := (.slice a0 p0_ways.length cap0)) hs0 ?_
    refine .ld (d := 11) (v := (.int .i64 i_36)) hs11 ?_
    refine .ld (d := 7) (v := (.pointer (some ⟨g_15, 0, none⟩))) hs7 ?_
    refine .ld (d := 8) (v := (.func (.func 47) #[] #[(.pointer (some ⟨g_6, 0, none⟩)), (.pointer (some ⟨g_15, 0, none⟩))])) hs8 ?_
    refine .ld (d := 1000000) (v := (enc [])) hs1000000 ?_
    clear hs0 hs11 hs7 hs8 hs1000000
    cases n_33 with
    | zero => rw [m_dag_reach_L2.eq_1] at hm; cases hm
    | succ n_33 =>
      rw [m_dag_reach_L2.eq_2] at hm
      refine wseq ?_
      refine wseq ?_
      refine wregion ?_
      refine lv (v := (.int .i64 i_36)) rfl rfl (r_move rfl) ?_
      refine lv (v := (.slice a_38 out_37.length cap_39)) rfl rfl (r_ld Try.isAgg31 rfl hb_19.at1) ?_
      refine lv (v := (.int .i64 (out_37.length : Int))) rfl rfl (r_len Try.underlying31 rfl) ?_
      refine lv (v := (.bool (decide (i_36 < (out_37.length : Int))))) rfl rfl (r_lss i_36 (out_37.length : Int) rfl rfl) ?_
      refine lnil ?_
      refine wcond (decide (i_36 < (out_37.length : Int))) rfl (fun hb => ?_) (fun hb => ?_)
      · rw [if_pos hb] at hm
        clear hb
        refine wskip ?_
        refine wseq ?_
        refine wblock ?_
        refine wseq ?_
        refine wregion ?_
        refine lv (v := (.slice a0 p0_ways.length cap0)) rfl rfl (r_move rfl) ?_
        refine lv (v := (.slice a_38 out_37.length cap_39)) rfl rfl (r_ld Try.isAgg31 rfl hb_19.at1) ?_
        refine lv (v := (.int .i64 i_36)) rfl rfl (r_move rfl) ?_
        obtain ⟨e_44, hj_45, hm⟩ := bind_some hm
        refine lv (v := (sptr a_38 (Int.toNat i_36 * 1))) rfl rfl (r_idx Try.underlying31 Try.sizeOf3 rfl rfl (at?_some hj_45).1 (at?_some hj_45).2.1 (h_40.addr hj_45)) ?_
        refine lv (v := (.int .i64 e_44)) rfl rfl (r_ld Try.isAgg3 rfl (h_40.atInt hj_45)) ?_
        obtain ⟨e_46, hj_47, hm⟩ := bind_some hm
        refine lv (v := (sptr a0 (Int.toNat e_44 * 1))) rfl rfl (r_idx Try.underlying22 Try.sizeOf31 rfl rfl (at?_some hj_47).1 (at?_some hj_47).2.1 (h0.addr hj_47)) ?_
        obtain ⟨_, hr_48, hA_49⟩ := h0.atN hj_47
        obtain ⟨⟨a_50, cap_51, rfl, h_52⟩, _⟩ := hr_48
        refine lv (v := (.slice a_50 e_46.length cap_51)) rfl rfl (r_ld Try.isAgg31 rfl hA_49.one) ?_
        refine lv (v := (.int .i64 (e_46.length : Int))) rfl rfl (r_len Try.underlying31 rfl) ?_
        refine lv (v := (.int .i64 0)) rfl rfl (r_move rfl) ?_
        refine lnil ?_
        refine wblock ?_
        refine wloop (fun n f w_55 => ∃ (col_56 : Col) (k_53 : Nat) (a_58 : Option Addr) (cap_59 : Nat) (out_57 : List Int) (g_61 : Nat) (seen_62 : List (Int × Int)) (l_54 : List Int), n = l_54.length ∧ e_46.drop k_53 = l_54 ∧ m_dag_reach_L3 i_36 (m_dag_reach_L2 N p0_ways n_33) l_54 out_57 seen_62 = some r ∧ St w0 (col0 col) col_56 w_55 ∧ Sl (Rep.slice (Rep.int .i64)) col_56 w_55 a0 cap0 p0_ways ∧ Sl (Rep.int .i64) col_56 w_55 a_50 cap_51 e_46 ∧ Own (Rep.int .i64) 3 4 col_56 w_55 a_58 cap_59 out_57 ∧ Box 31 3 col_56 w_55 g_15 #[(.slice a_58 out_57.length cap_59)] ∧ MapO (Value.int .i64) (Value.int .i64) 1 col_56 w_55 g_61 seen_62 ∧ Box 51 2 col_56 w_55 g_6 #[(.map (some g_61))] ∧ f 50 = (.int .i64 (k_53 : Int)) ∧ f 0 = (.slice a0 p0_ways.length cap0) ∧ f 11 = (.int .i64 i_36) ∧ f 48 = (.slice a_50 e_46.length cap_51) ∧ f 49 = (.int .i64 (e_46.length : Int)) ∧ f 7 = (.pointer (some ⟨g_15, 0, none⟩)) ∧ f 8 = (.func (.func 47) #[] #[(.pointer (some ⟨g_6, 0, none⟩)), (.pointer (some ⟨g_15, 0, none⟩))]) ∧ f 1000000 = (enc [])) e_46.length ⟨col_35, 0, a_38, cap_39, out_37, g_41, seen_42, e_46, rfl, rfl, hm, hst, h0, h_52, h_40, hb_19, h_43, hb_14, rfl, rfl, rfl, rfl, rfl, rfl, rfl, rfl⟩ ?_
        clear hm; intro n f w_55 hI
        obtain ⟨col_56, k_53, a_58, cap_59, out_57, g_61, seen_62, l_54, hn, hl, hm, hst, h0, h_52, h_60, hb_19, h_63, hb_14, hs50, hs0, hs11, hs48, hs49, hs7, hs8, hs1000000⟩ := hI
        subst hn
        refine .ld (d := 50) (v := (.int .i64 (k_53 : Int))) hs50 ?_
        refine .ld (d := 0) (v := (.slice a0 p0_ways.length cap0)) hs0 ?_
        refine .ld (d := 11) (v := (.int .i64 i_36)) hs11 ?_
        refine .ld (d := 48) (v := (.slice a_50 e_46.length cap_51)) hs48 ?_
        refine .ld (d := 49) (v := (.int .i64 (e_46.length : Int))) hs49 ?_
        refine .ld (d := 7) (v := (.pointer (some ⟨g_15, 0, none⟩))) hs7 ?_
        refine .ld (d := 8) (v := (.func (.func 47) #[] #[(.pointer (some ⟨g_6, 0, none⟩)), (.pointer (some ⟨g_15, 0, none⟩))])) hs8 ?_
        refine .ld (d := 1000000) (v := (enc [])) hs1000000 ?_
        clear hs50 hs0 hs11 hs48 hs49 hs7 hs8 hs1000000
        cases l_54 with
        | nil =>
          have hk : ¬ ((k_53 : Int) < (e_46.length : Int)) := by have := List.drop_eq_nil_iff.1 hl; omega
          have hkb := decide_eq_false hk
          rw [m_dag_reach_L3.eq_1] at hm
          refine wseq ?_
          refine wregion ?_
          refine lv (v := (.bool (decide ((k_53 : Int) < (e_46.length : Int))))) rfl rfl (r_lss (k_53 : Int) (e_46.length : Int) rfl rfl) ?_
          refine lnil ?_
          refine wseq ?_
          refine wcondF (congrArg Value.bool hkb) ?_
          refine wexit (inB_hit ?_)
          refine wregion ?_
          refine lv (v := (.int .i64 i_36)) rfl rfl (r_move rfl) ?_
          refine lv (v := (.int .i64 (IntKind.i64.wrap (i_36 + 1)))) rfl rfl (r_add i_36 1 rfl rfl) ?_
          refine lv (v := (.int .i64 (IntKind.i64.wrap (i_36 + 1)))) rfl rfl (r_assign rfl) ?_
          refine lnil ?_
          exact ⟨n_33, by omega, ⟨col_56, (IntKind.i64.wrap (i_36 + 1)), a_58, cap_59, out_57, g_61, seen_62, n_33, rfl, hm, hst, h0, h_60, hb_19, h_63, hb_14, rfl, rfl, rfl, rfl, rfl⟩⟩
        | cons x_64 l_65 =>
          obtain ⟨hat, hl2, hlt⟩ := drop_get hl
          have hk : (k_53 : Int) < (e_46.length : Int) := by omega
          have hkb := decide_eq_true hk
          rw [m_dag_reach_L3.eq_2] at hm
          refine wseq ?_
          refine wregion ?_
          refine lv (v := (.bool (decide ((k_53 : Int) < (e_46.length : Int))))) rfl rfl (r_lss (k_53 : Int) (e_46.length : Int) rfl rfl) ?_
          refine lnil ?_
          refine wseq ?_
          refine wcondT (congrArg Value.bool hkb) ?_
          refine wskip ?_
          refine wseq ?_
          refine wblock ?_
          refine wseq ?_
          refine wregion ?_
          refine lv (v := (sptr a_50 (Int.toNat (k_53 : Int) * 1))) rfl rfl (r_idx Try.underlying31 Try.sizeOf3 rfl rfl (at?_some hat).1 (at?_some hat).2.1 (h_52.addr hat)) ?_
          refine lv (v := (.int .i64 x_64)) rfl rfl (r_ld Try.isAgg3 rfl (h_52.atInt hat)) ?_
          refine lv (v := (.int .i64 x_64)) rfl rfl (r_assign rfl) ?_
          refine lnil ?_
          refine wregion ?_
          refine lv (v := (.func (.func 47) #[] #[(.pointer (some ⟨g_6, 0, none⟩)), (.pointer (some ⟨g_15, 0, none⟩))])) rfl rfl (r_move rfl) ?_
          refine lv (v := (.int .i64 x_64)) rfl rfl (r_move rfl) ?_
          obtain ⟨r_66, hr_67, hm⟩ := bind_some hm
          refine lc rfl rfl (r_callv1 Try.call47 rfl rfl) (c_dag_reach_1 col_56 _ 2 1 3 4 rfl x_64 g_6 seen_62 g_61 g_15 out_57 a_58 cap_59 h_63 hb_14 h_60 hb_19 r_66 hr_67) ?_
          rintro _ w_75 ⟨col_77, og_68, oa_71, oc_72, rfl, hg_76, oh_69, ohb_70, oh_73, ohb_74⟩
          refine ⟨_, rfl, ?_⟩
          replace h0 := h0.kpp hg_76 rfl
          replace h_52 := h_52.kpp hg_76 rfl
          replace hst := hst.kpp hg_76 rfl rfl
          clear h_60
          clear h_63
          clear hb_14
          clear hb_19
          refine lnil ?_
          refine wregion ?_
          refine lv (v := (.int .i64 (IntKind.i64.wrap ((k_53 : Int) + 1)))) rfl rfl (r_add (k_53 : Int) 1 rfl rfl) ?_
          refine lv (v := (.int .i64 (IntKind.i64.wrap ((k_53 : Int) + 1)))) rfl rfl (r_move rfl) ?_
          refine lnil ?_
          exact ⟨l_65.length, by simp, ⟨col_77, (k_53 + 1), oa_71, oc_72, r_66.2, og_68, r_66.1, l_65, rfl, hl2, hm, hst, h0, h_52, oh_73, ohb_74, oh_69, ohb_70, (congrArg (Value.int .i64) (wrap_succ (Nat.lt_of_lt_of_le hlt h_52.1.1))), rfl, rfl, rfl, rfl, rfl, rfl, rfl⟩⟩
      · rw [if_neg (by rw [hb]; decide)] at hm
        clear hb
        refine wexit (inB_hit ?_)
        refine wseq ?_
        refine wregion ?_
        refine lv (v := (.slice a_38 out_37.length cap_39)) rfl rfl (r_ld Try.isAgg31 rfl hb_19.at1) ?_
        obtain ⟨r_78, hr_79, hm⟩ := bind_some hm
        refine lc rfl rfl (r_call1 Try.call48 rfl) (c_slices_Sort_int_int col_35 _ 4 rfl a_38 cap_39 out_37 h_40 r_78 hr_79) ?_
        rintro _ w_82 ⟨col_84, rfl, hg_83, oh_80, ohl_81⟩
        refine ⟨_, rfl, ?_⟩
        replace hb_19 := hb_19.kpp hg_83 rfl
        replace hst := hst.kpp hg_83 rfl rfl
        clear h_40
        refine .ld (d := 58) (v := (.slice a_38 r_78.length cap_39)) (congrArg (fun n => Value.slice a_38 n cap_39) (show out_37.length = r_78.length from ohl_81.symm)) ?_
        replace hb_19 : Box 31 3 col_84 w_82 g_15 #[(.slice a_38 r_78.length cap_39)] := by rw [← (show out_37.length = r_78.length from ohl_81.symm)]; exact hb_19
        refine lnil ?_
        refine wseq ?_
        refine wregion ?_
        refine lv (v := (.slice a_38 r_78.length cap_39)) rfl rfl (r_ld Try.isAgg31 rfl hb_19.at1) ?_
        refine lv (v := (.slice a_38 r_78.length cap_39)) rfl rfl (r_assign rfl) ?_
        refine lv (v := (.int .i64 0)) rfl rfl (r_assign rfl) ?_
        refine lnil ?_
        refine wret ?_
        cases hm
        exact ⟨rfl, colF w0.heap.size col col_84 (fun n => bif Nat.beq n 4 then c1 else 0), a_38, cap_39, rfl, hst.fin (fun n => bif Nat.beq n 4 then c1 else 0), hst.finOwn (g := (fun n => bif Nat.beq n 4 then c1 else 0)) rfl oh_80 (by decide) (by decide) rfl⟩
  | cons x_31 l_32 =>
    obtain ⟨hat, hl2, hlt⟩ := drop_get hl
    have hk : (k_20 : Int) < (p1_points.length : Int) := by omega
    have hkb := decide_eq_true hk
    rw [m_dag_reach_L1.eq_2] at hm
    refine wseq ?_
    refine wregion ?_
    refine lv (v := (.bool (decide ((k_20 : Int) < (p1_points.length : Int))))) rfl rfl (r_lss (k_20 : Int) (p1_points.length : Int) rfl rfl) ?_
    refine lnil ?_
    refine wseq ?_
    refine wcondT (congrArg Value.bool hkb) ?_
    refine wskip ?_
    refine wseq ?_
    refine wblock ?_
    refine wseq ?_
    refine wregion ?_
    refine lv (v := (sptr a1 (Int.toNat (k_20 : Int) * 1))) rfl rfl (r_idx Try.underlying31 Try.sizeOf3 rfl rfl (at?_some hat).1 (at?_some hat).2.1 (h1.addr hat)) ?_
    refine lv (v := (.int .i64 x_31)) rfl rfl (r_ld Try.isAgg3 rfl (h1.atInt hat)) ?_
    refine lv (v := (.int .i64 x_31)) rfl rfl (r_assign rfl) ?_
    refine lnil ?_
    refine wseq ?_
    refine wseq ?_
    refine Wp.cut (fun f w_86 => ∃ (col_87 : Col) (v_88 : Bool), m_dag_reach_J1 out_24 seen_29 (m_dag_reach_L1 N p0_ways l_32) x_31 v_88 = some r ∧ St w0 (col0 col) col_87 w_86 ∧ Sl (Rep.slice (Rep.int .i64)) col_87 w_86 a0 cap0 p0_ways ∧ Sl (Rep.int .i64) col_87 w_86 a1 cap1 p1_points ∧ Own (Rep.int .i64) 3 4 col_87 w_86 a_25 cap_26 out_24 ∧ Box 31 3 col_87 w_86 g_15 #[(.slice a_25 out_24.length cap_26)] ∧ MapO (Value.int .i64) (Value.int .i64) 1 col_87 w_86 g_28 seen_29 ∧ Box 51 2 col_87 w_86 g_6 #[(.map (some g_28))] ∧ f 0 = (.slice a0 p0_ways.length cap0) ∧ f 10 = (.int .i64 x_31) ∧ f 18 = (.slice a1 p1_points.length cap1) ∧ f 19 = (.int .i64 (p1_points.length : Int)) ∧ f 20 = (.int .i64 (k_20 : Int)) ∧ f 31 = (.bool v_88) ∧ f 7 = (.pointer (some ⟨g_15, 0, none⟩)) ∧ f 8 = (.func (.func 47) #[] #[(.pointer (some ⟨g_6, 0, none⟩)), (.pointer (some ⟨g_15, 0, none⟩))]) ∧ f 1000000 = (enc [])) ?_ ?_
    · intro f w_86 hJ
      obtain ⟨col_87, v_88, hm, hst, h0, h1, h_27, hb_19, h_30, hb_14, hs0, hs10, hs18, hs19, hs20, hs31, hs7, hs8, hs1000000⟩ := hJ
      rw [m_dag_reach_J1.eq_1] at hm
      refine .ld (d := 0) (v := (.slice a0 p0_ways.length cap0)) hs0 ?_
      refine .ld (d := 10) (v := (.int .i64 x_31)) hs10 ?_
      refine .ld (d := 18) (v := (.slice a1 p1_points.length cap1)) hs18 ?_
      refine .ld (d := 19) (v := (.int .i64 (p1_points.length : Int))) hs19 ?_
      refine .ld (d := 20) (v := (.int .i64 (k_20 : Int))) hs20 ?_
      refine .ld (d := 31) (v := (.bool v_88)) hs31 ?_
      refine .ld (d := 7) (v := (.pointer (some ⟨g_15, 0, none⟩))) hs7 ?_
      refine .ld (d := 8) (v := (.func (.func 47) #[] #[(.pointer (some ⟨g_6, 0, none⟩)), (.pointer (some ⟨g_15, 0, none⟩))])) hs8 ?_
      refine .ld (d := 1000000) (v := (enc [])) hs1000000 ?_
      clear hs0 hs10 hs18 hs19 hs20 hs31 hs7 hs8 hs1000000
      refine wcond (v_88) rfl (fun hb => ?_) (fun hb => ?_)
      · rw [if_pos hb] at hm
        clear hb
        refine wseq ?_
        refine wregion ?_
        refine lv (v := (.slice none (([] : List Int).length) 0)) rfl rfl (r_assign rfl) ?_
        refine lv (v := (.int .i64 3)) rfl rfl (r_assign rfl) ?_
        refine lnil ?_
        refine wret ?_
        cases hm
        exact ⟨rfl, colF w0.heap.size col col_87 (fun n => 0), none, 0, rfl, hst.fin (fun n => 0), Own.nil⟩
      · rw [if_neg (by rw [hb]; decide)] at hm
        clear hb
        refine wskip ?_
        refine wregion ?_
        refine lv (v := (.func (.func 47) #[] #[(.pointer (some ⟨g_6, 0, none⟩)), (.pointer (some ⟨g_15, 0, none⟩))])) rfl rfl (r_move rfl) ?_
        refine lv (v := (.int .i64 x_31)) rfl rfl (r_move rfl) ?_
        obtain ⟨r_89, hr_90, hm⟩ := bind_some hm
        refine lc rfl rfl (r_callv1 Try.call47 rfl rfl) (c_dag_reach_1 col_87 _ 2 1 3 4 rfl x_31 g_6 seen_29 g_28 g_15 out_24 a_25 cap_26 h_30 hb_14 h_27 hb_19 r_89 hr_90) ?_
        rintro _ w_98 ⟨col_100, og_91, oa_94, oc_95, rfl, hg_99, oh_92, ohb_93, oh_96, ohb_97⟩
        refine ⟨_, rfl, ?_⟩
        replace h0 := h0.kpp hg_99 rfl
        replace h1 := h1.kpp hg_99 rfl
        replace hst := hst.kpp hg_99 rfl rfl
        clear h_27
        clear h_30
        clear hb_14
        clear hb_19
        refine lnil ?_
        refine wregion ?_
        refine lv (v := (.int .i64 (IntKind.i64.wrap ((k_20 : Int) + 1)))) rfl rfl (r_add (k_20 : Int) 1 rfl rfl) ?_
        refine lv (v := (.int .i64 (IntKind.i64.wrap ((k_20 : Int) + 1)))) rfl rfl (r_move rfl) ?_
        refine lnil ?_
        exact ⟨l_32.length, by simp, ⟨col_100, (k_20 + 1), oa_94, oc_95, r_89.2, og_91, r_89.1, l_32, rfl, hl2, hm, hst, h0, h1, oh_96, ohb_97, oh_92, ohb_93, (congrArg (Value.int .i64) (wrap_succ (Nat.lt_of_lt_of_le hlt h1.1.1))), rfl, rfl, rfl, rfl, rfl, rfl⟩⟩
    · refine wregion ?_
      refine lv (v := (.int .i64 x_31)) rfl rfl (r_move rfl) ?_
      refine lv (v := (.bool (decide (x_31 < 0)))) rfl rfl (r_lss x_31 0 rfl rfl) ?_
      refine lv (v := (.bool (decide (x_31 < 0)))) rfl rfl (r_move rfl) ?_
      by_cases hg_101 : (decide (x_31 < 0)) = true
      · rw [if_pos hg_101] at hm
        refine lp (b := decide (x_31 < 0)) 26 rfl rfl rfl rfl (by rw [hg_101]; rfl) ?_
        refine lp (b := decide (x_31 < 0)) 26 rfl rfl rfl rfl (by rw [hg_101]; rfl) ?_
        refine lp (b := decide (x_31 < 0)) 26 rfl rfl rfl rfl (by rw [hg_101]; rfl) ?_
        refine lp (b := decide (x_31 < 0)) 26 rfl rfl rfl rfl (by rw [hg_101]; rfl) ?_
        refine lv (v := (.bool true)) rfl rfl (r_pickT (congrArg Value.bool hg_101) rfl) ?_
        refine lnil ?_
        exact ⟨col_23, true, hm, hst, h0, h1, h_27, hb_19, h_30, hb_14, rfl, rfl, rfl, rfl, rfl, rfl, rfl, rfl, rfl⟩
      · rw [if_neg hg_101] at hm
        replace hg_101 := Bool.eq_false_iff.2 hg_101
        refine lg (b := decide (x_31 < 0)) 26 rfl rfl rfl (by rw [hg_101]; rfl) ?_
        refine lv (v := (.int .i64 x_31)) rfl rfl (r_move rfl) ?_
        refine lg (b := decide (x_31 < 0)) 26 rfl rfl rfl (by rw [hg_101]; rfl) ?_
        refine lv (v := (.slice a0 p0_ways.length cap0)) rfl rfl (r_move rfl) ?_
        refine lg (b := decide (x_31 < 0)) 26 rfl rfl rfl (by rw [hg_101]; rfl) ?_
        refine lv (v := (.int .i64 (p0_ways.length : Int))) rfl rfl (r_len Try.underlying22 rfl) ?_
        refine lg (b := decide (x_31 < 0)) 26 rfl rfl rfl (by rw [hg_101]; rfl) ?_
        refine lv (v := (.bool (decide ((p0_ways.length : Int) ≤ x_31)))) rfl rfl (r_geq x_31 (p0_ways.length : Int) rfl rfl) ?_
        refine lv (v := (.bool (decide ((p0_ways.length : Int) ≤ x_31)))) rfl rfl (r_pickF (congrArg Value.bool hg_101) rfl) ?_
        refine lnil ?_
        exact ⟨col_23, (decide ((p0_ways.length : Int) ≤ x_31)), hm, hst, h0, h1, h_27, hb_19, h_30, hb_14, rfl, rfl, rfl, rfl, rfl, rfl, rfl, rfl, rfl⟩



def way (W : List (List Int)) (x : Int) : List Int := W.getD x.toNat []
inductive Reach (W : List (List Int)) (p : Int) : Int → Prop
  | refl : Reach W p p
  | step {q x : Int} (h : Reach W p q) (hx : x ∈ way W q) : Reach W p x
theorem Reach.trans {W : List (List Int)} {p q x : Int} (h : Reach W p q) (k : Reach W q x) : Reach W p x := by
  induction k with
  | refl => exact h
  | step _ hx ih => exact .step ih hx

/-- Put in, unless it is there. -/
def addU (out : List Int) (x : Int) : List Int := if x ∈ out then out else out ++ [x]
def addAll (out l : List Int) : List Int := l.foldl addU out
theorem addU_mem (out : List Int) (x y : Int) : y ∈ addU out x ↔ y ∈ out ∨ y = x := by
  unfold addU
  split
  · rename_i h
    exact ⟨.inl, fun h2 => h2.elim id fun e => by rw [e]; exact h⟩
  · simp
theorem addAll_mem : ∀ (l out : List Int) (y : Int), y ∈ addAll out l ↔ y ∈ out ∨ y ∈ l
  | [], out, y => by simp [addAll]
  | x :: l, out, y => by
    rw [show addAll out (x :: l) = addAll (addU out x) l from rfl, addAll_mem l, addU_mem, List.mem_cons]
    exact ⟨fun h => by rcases h with (h | h) | h <;> simp [h], fun h => by rcases h with h | h | h <;> simp [h]⟩
theorem addU_nd {out : List Int} {x : Int} (h : out.Nodup) : (addU out x).Nodup := by
  unfold addU
  split
  · exact h
  · rename_i hx
    rw [List.nodup_append]
    refine ⟨h, by simp, fun a ha b hb e => ?_⟩
    rw [List.mem_singleton] at hb; subst hb; subst e; exact hx ha
theorem addAll_nd : ∀ (l : List Int) {out : List Int}, out.Nodup → (addAll out l).Nodup
  | [], _, h => h
  | _ :: l, _, h => addAll_nd l (addU_nd h)
theorem addU_pre (out : List Int) (x : Int) : ∃ z, addU out x = out ++ z := by
  unfold addU
  split
  · exact ⟨[], by simp⟩
  · exact ⟨[x], rfl⟩
theorem addAll_pre : ∀ (l out : List Int), ∃ z, addAll out l = out ++ z
  | [], out => ⟨[], by simp [addAll]⟩
  | x :: l, out => by
    obtain ⟨z, hz⟩ := addU_pre out x
    obtain ⟨z2, hz2⟩ := addAll_pre l (addU out x)
    exact ⟨z ++ z2, by rw [show addAll out (x :: l) = addAll (addU out x) l from rfl, hz2, hz, List.append_assoc]⟩
theorem InR.len {n : Nat} {l : List Int} (h : InR n l) (hn : l.Nodup) : l.length ≤ n := by
  have h7 := nodup_le (r := (List.range n).map fun i : Nat => (i : Int)) hn fun y hy => by
    have := h y hy
    exact List.mem_map.2 ⟨y.toNat, List.mem_range.2 (by omega), by omega⟩
  simpa using h7

def Vis (seen : List (Int × Int)) (out : List Int) : Prop := out.Nodup ∧ ∀ k, mget seen k = if k ∈ out then some 1 else none
theorem visit {seen : List (Int × Int)} {out : List Int} (h : Vis seen out) (x : Int) (hl : out.length ≤ 1000000) : ∃ seen', m_dag_reach_1 x seen out = some (seen', addU out x) ∧ Vis seen' (addU out x) := by
  rw [m_dag_reach_1, h.2 x]
  by_cases hx : x ∈ out
  · rw [if_pos hx, if_neg (by decide)]
    have e : addU out x = out := if_pos hx
    rw [e]; exact ⟨seen, rfl, h⟩
  · rw [if_neg hx, if_pos (by decide), Option.bind_some, chk_pos (by simp only [List.length_cons, List.length_nil, maxLen]; omega)]
    have e : addU out x = out ++ [x] := if_neg hx
    refine ⟨_, by rw [e], addU_nd h.1, fun k => ?_⟩
    rw [mget_mput, h.2 k]
    by_cases hk : k = x
    · subst hk; rw [if_pos rfl, if_pos ((addU_mem _ _ _).2 (.inr rfl))]
    · rw [if_neg hk]
      by_cases hs : k ∈ out
      · rw [if_pos hs, if_pos ((addU_mem _ _ _).2 (.inl hs))]
      · rw [if_neg hs, if_neg (fun hh => ((addU_mem _ _ _).1 hh).elim hs hk)]

section
variable {N n : Nat} {W : List (List Int)} (hW : W.length = n) (hn : n ≤ 1000000) (hr : ∀ l ∈ W, InR n l)
include hW hn hr
omit hW hn in
theorem way_InR (x : Int) : InR n (way W x) := by
  unfold way
  by_cases hx : x.toNat < W.length
  · rw [lgetD_lt hx]; exact hr _ (List.getElem_mem hx)
  · rw [List.getD_eq_getElem?_getD, List.getElem?_eq_none (by omega)]
    intro y hy; simp at hy
omit hW hr in
theorem reach_L3 (i : Int) (kk : Int → List Int → List (Int × Int) → Option (List Int × Int)) : ∀ (l out : List Int) (seen : List (Int × Int)), Vis seen out → InR n out → InR n l →
    ∃ seen', m_dag_reach_L3 i kk l out seen = kk (IntKind.i64.wrap (i + 1)) (addAll out l) seen' ∧ Vis seen' (addAll out l)
  | [], out, seen, hv, _, _ => ⟨seen, by rw [m_dag_reach_L3.eq_1]; rfl, hv⟩
  | x :: l, out, seen, hv, ho, hl => by
    have hlen := ho.len hv.1
    obtain ⟨s1, h1, h2⟩ := visit hv x (by omega)
    rw [m_dag_reach_L3.eq_2, h1, Option.bind_some]
    exact reach_L3 i kk l (addU out x) s1 h2 (fun y hy => ((addU_mem _ _ _).1 hy).elim (ho y) fun e => by rw [e]; exact hl x List.mem_cons_self) (fun y hy => hl y (List.mem_cons_of_mem _ hy))
theorem reach_L2 : ∀ (f i : Nat) (out : List Int) (seen : List (Int × Int)), n < f + i → i ≤ out.length → Vis seen out → InR n out → (∀ (j : Nat) (hj : j < out.length), j < i → ∀ y ∈ way W out[j], y ∈ out) →
    ∃ r, m_dag_reach_L2 N W f (i : Int) out seen = some (isort r, 0) ∧ (∀ x ∈ out, x ∈ r) ∧ r.Nodup ∧ InR n r ∧ (∀ x ∈ r, ∀ y ∈ way W x, y ∈ r) ∧ ∀ x ∈ r, ∃ p ∈ out, Reach W p x
  | 0, i, out, seen, hf, hi, hv, ho, _ => by have := ho.len hv.1; omega
  | f + 1, i, out, seen, hf, hi, hv, ho, hc => by
    have hlen := ho.len hv.1
    rw [m_dag_reach_L2.eq_2]
    by_cases hlt : i < out.length
    · have he := ho _ (List.getElem_mem hlt)
      have hat : at? W out[i] = some (way W out[i]) := by
        refine at?_of he.1 ?_
        rw [List.getElem?_eq_getElem (by omega), way, lgetD_lt (by omega)]
      have hwr := way_InR hr out[i]
      rw [if_pos (by simpa using hlt), at?_lt hlt, Option.bind_some, hat, Option.bind_some]
      obtain ⟨s1, h1, h2⟩ := reach_L3 hn (i : Int) (m_dag_reach_L2 N W f) (way W out[i]) out seen hv ho hwr
      obtain ⟨z, hz⟩ := addAll_pre (way W out[i]) out
      have ho' : InR n (addAll out (way W out[i])) := fun y hy => ((addAll_mem _ _ _).1 hy).elim (ho y) (hwr y)
      have hle : out.length ≤ (addAll out (way W out[i])).length := by rw [hz]; simp
      obtain ⟨r, k1, k2, k3, k4, k5, k6⟩ := reach_L2 f (i + 1) (addAll out (way W out[i])) s1 (by omega) (by omega) h2 ho' (fun j hj hji y hy => by
        have hj' : j < out.length := by omega
        have e : (addAll out (way W out[i]))[j] = out[j] := by simp only [hz]; rw [List.getElem_append_left hj']
        rw [e] at hy
        by_cases hji2 : j = i
        · subst hji2; exact (addAll_mem _ _ _).2 (.inr hy)
        · exact (addAll_mem _ _ _).2 (.inl (hc j hj' (by omega) y hy)))
      refine ⟨r, ?_, fun x hx => k2 x ((addAll_mem _ _ _).2 (.inl hx)), k3, k4, k5, fun x hx => ?_⟩
      · rw [h1, wS (by omega)]; exact k1
      · obtain ⟨p, hp, hpx⟩ := k6 x hx
        rcases (addAll_mem _ _ _).1 hp with hp | hp
        · exact ⟨p, hp, hpx⟩
        · exact ⟨out[i], List.getElem_mem hlt, (Reach.step .refl hp).trans hpx⟩
    · refine ⟨out, ?_, fun x hx => hx, hv.1, ho, fun x hx y hy => ?_, fun x hx => ⟨x, hx, .refl⟩⟩
      · rw [if_neg (by simpa using hlt), lib_sort, chk_pos (by omega)]; rfl
      · obtain ⟨j, hj, rfl⟩ := List.getElem_of_mem hx
        exact hc j hj (by omega) y hy
omit hr in
theorem reach_L1 : ∀ (pts out : List Int) (seen : List (Int × Int)), Vis seen out → InR n out →
    (InR n pts → ∃ seen', m_dag_reach_L1 N W pts out seen = m_dag_reach_L2 N W N 0 (addAll out pts) seen' ∧ Vis seen' (addAll out pts)) ∧ (¬ InR n pts → m_dag_reach_L1 N W pts out seen = some ([], 3))
  | [], out, seen, hv, ho => ⟨fun _ => ⟨seen, by rw [m_dag_reach_L1.eq_1]; rfl, hv⟩, fun h => absurd (fun x hx => by simp at hx) h⟩
  | x :: pts, out, seen, hv, ho => by
    rw [m_dag_reach_L1.eq_2, m_dag_reach_J1, m_dag_reach_J1]
    by_cases h1 : x < 0
    · rw [if_pos (by simpa using h1), if_pos rfl]
      exact ⟨fun h => by have := h x List.mem_cons_self; omega, fun _ => rfl⟩
    · rw [if_neg (by simpa using h1)]
      by_cases h2 : (W.length : Int) ≤ x
      · rw [if_pos (by simpa using h2)]
        exact ⟨fun h => by have := h x List.mem_cons_self; omega, fun _ => rfl⟩
      · have hlen := ho.len hv.1
        obtain ⟨s1, h3, h4⟩ := visit hv x (by omega)
        rw [if_neg (by simpa using h2), h3, Option.bind_some]
        obtain ⟨h5, h6⟩ := reach_L1 pts (addU out x) s1 h4 (fun y hy => ((addU_mem _ _ _).1 hy).elim (ho y) fun e => by rw [e]; omega)
        refine ⟨fun h => h5 fun y hy => h y (List.mem_cons_of_mem _ hy), fun h => h6 fun h7 => h fun y hy => ?_⟩
        rcases List.mem_cons.1 hy with rfl | hy
        · omega
        · exact h7 y hy
theorem reach_eq (hN : 2000000 < N) (pts : List Int) :
    (InR n pts → ∃ r, m_dag_reach N W pts = some (isort r, 0) ∧ r.Nodup ∧ InR n r ∧ ∀ x, x ∈ r ↔ ∃ p ∈ pts, Reach W p x) ∧ (¬ InR n pts → m_dag_reach N W pts = some ([], 3)) := by
  rw [m_dag_reach]
  have hv0 : Vis [] [] := ⟨.nil, fun k => rfl⟩
  obtain ⟨h1, h2⟩ := reach_L1 (N := N) hW hn pts [] [] hv0 (fun x hx => by simp at hx)
  refine ⟨fun h => ?_, h2⟩
  obtain ⟨s, h3, h4⟩ := h1 h
  have hm : ∀ y, y ∈ addAll [] pts ↔ y ∈ pts := fun y => by rw [addAll_mem]; simp
  obtain ⟨r, k1, k2, k3, k4, k5, k6⟩ := reach_L2 (N := N) hW hn hr N 0 (addAll [] pts) s (by omega) (Nat.zero_le _) h4 (fun y hy => h y ((hm y).1 hy)) (fun j _ hj => by omega)
  refine ⟨r, by rw [h3]; exact k1, k3, k4, fun x => ⟨fun hx => ?_, fun ⟨p, hp, hpx⟩ => ?_⟩⟩
  · obtain ⟨p, hp, hpx⟩ := k6 x hx
    exact ⟨p, (hm p).1 hp, hpx⟩
  · have hall : ∀ z, Reach W p z → z ∈ r := fun z hz => by
      induction hz with
      | refl => exact k2 p ((hm p).2 hp)
      | step _ hx ih => exact k5 _ ih _ hx
    exact hall x hpx
end



def m_dag_Above (N : Nat) (p0_parents : (List (List Int))) (p1_points : (List Int)) : Option ((List Int) × Int) :=
  (m_dag_Check N p0_parents).bind fun r_1 => if (!decide (r_1 = 0)) = true then (some (([] : List Int), r_1)) else ((m_dag_reach N p0_parents p1_points).bind fun r_5 => some (r_5.1, r_5.2))

set_option maxRecDepth 100000 in
theorem c_dag_Above (N : Nat) (c1 : Nat) (col : Col) (w0 : World) (a0 : Option Addr) (cap0 : Nat) (p0_parents : (List (List Int))) (a1 : Option Addr) (cap1 : Nat) (p1_points : (List Int)) (h0 : Sl (Rep.slice (Rep.int .i64)) col w0 a0 cap0 p0_parents) (h1 : Sl (Rep.int .i64) col w0 a1 cap1 p1_points) (r : ((List Int) × Int)) (hm : m_dag_Above N p0_parents p1_points = some r) :
    Calls Try.prog 24 #[(.slice a0 p0_parents.length cap0), (.slice a1 p1_points.length cap1)] w0 (fun e w' => ∃ (col' : Col) (ra1 : Option Addr) (rc2 : Nat), e = .returned (.tuple #[(.slice ra1 r.1.length rc2), (.int .i64 r.2)]) ∧ Grow col w0 col' w' ∧ Own (Rep.int .i64) 3 c1 col' w' ra1 rc2 r.1) := by
  refine calls_of2 4 5 (m := 17) (args := [(.slice a0 p0_parents.length cap0), (.slice a1 p1_points.length cap1)]) Try.func24 rfl rfl rfl rfl rfl ?_
  rw [m_dag_Above.eq_1] at hm
  have hst := St.start col w0
  replace h0 := h0.keep (Stay.start col w0)
  replace h1 := h1.keep (Stay.start col w0)
  refine wseq ?_
  refine wregion ?_
  refine lv (v := (.slice none (([] : List Int).length) 0)) rfl rfl (r_assign rfl) ?_
  refine lv (v := (.int .i64 0)) rfl rfl (r_assign rfl) ?_
  refine lnil ?_
  refine wseq ?_
  refine wseq ?_
  refine wregion ?_
  refine lv (v := (.slice a0 p0_parents.length cap0)) rfl rfl (r_move rfl) ?_
  obtain ⟨r_1, hr_2, hm⟩ := bind_some hm
  refine lc rfl rfl (r_call1 Try.call18 rfl) (c_dag_Check N (col0 col) _ a0 cap0 p0_parents h0 r_1 hr_2) ?_
  rintro _ w_3 ⟨rfl, hg_4⟩
  refine ⟨_, rfl, ?_⟩
  replace hg_4 : Grow (col0 col) w0 (col0 col) w_3 := .of_below hg_4
  replace h0 := h0.gr hg_4
  replace h1 := h1.gr hg_4
  replace hst := hst.grow hg_4
  refine lv (v := (.int .i64 r_1)) rfl rfl (r_assign rfl) ?_
  refine lnil ?_
  refine wseq ?_
  refine wregion ?_
  refine lv (v := (.int .i64 r_1)) rfl rfl (r_move rfl) ?_
  refine lv (v := (.bool (!decide (r_1 = 0)))) rfl rfl (r_neq r_1 0 rfl rfl) ?_
  refine lnil ?_
  refine wcond (!decide (r_1 = 0)) rfl (fun hb => ?_) (fun hb => ?_)
  · rw [if_pos hb] at hm
    clear hb
    refine wseq ?_
    refine wregion ?_
    refine lv (v := (.int .i64 r_1)) rfl rfl (r_move rfl) ?_
    refine lv (v := (.slice none (([] : List Int).length) 0)) rfl rfl (r_assign rfl) ?_
    refine lv (v := (.int .i64 r_1)) rfl rfl (r_assign rfl) ?_
    refine lnil ?_
    refine wret ?_
    cases hm
    exact ⟨rfl, colF w0.heap.size col (col0 col) (fun n => 0), none, 0, rfl, hst.fin (fun n => 0), Own.nil⟩
  · rw [if_neg (by rw [hb]; decide)] at hm
    clear hb
    refine wskip ?_
    refine wseq ?_
    refine wregion ?_
    refine lv (v := (.slice a0 p0_parents.length cap0)) rfl rfl (r_move rfl) ?_
    refine lv (v := (.slice a1 p1_points.length cap1)) rfl rfl (r_move rfl) ?_
    obtain ⟨r_5, hr_6, hm⟩ := bind_some hm
    refine lc rfl rfl (r_call2 Try.call38 rfl rfl) (c_dag_reach N 1 (col0 col) _ a0 cap0 p0_parents a1 cap1 p1_points h0 h1 r_5 hr_6) ?_
    rintro _ w_10 ⟨col_12, ra_7, rc_8, rfl, hg_11, rh_9⟩
    refine ⟨_, rfl, ?_⟩
    replace h0 := h0.gr hg_11
    replace h1 := h1.gr hg_11
    replace hst := hst.grow hg_11
    refine lv (v := (.slice ra_7 r_5.1.length rc_8)) rfl rfl (r_extract rfl rfl) ?_
    refine lv (v := (.int .i64 r_5.2)) rfl rfl (r_extract rfl rfl) ?_
    refine lv (v := (.slice ra_7 r_5.1.length rc_8)) rfl rfl (r_assign rfl) ?_
    refine lv (v := (.int .i64 r_5.2)) rfl rfl (r_assign rfl) ?_
    refine lnil ?_
    refine wret ?_
    cases hm
    exact ⟨rfl, colF w0.heap.size col col_12 (fun n => bif Nat.beq n 1 then c1 else 0), ra_7, rc_8, rfl, hst.fin (fun n => bif Nat.beq n 1 then c1 else 0), hst.finOwn (g := (fun n => bif Nat.beq n 1 then c1 else 0)) rfl rh_9 (by decide) (by decide) rfl⟩


end Go.Proofs.Ytpenklmcacfkpaa
