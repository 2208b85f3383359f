/-
  What functions of the program compute, as plain Lean functions (m_..), and proofs that they compute it (c_..). Printed by a program of the author; no conditions.
-/
import Derived.Test.YtonkjfnjadofpaaGreatCodeNamesBFloat
import Derived.Test.YtonkjfnjadofpaaGreatProg
import Derived.Test.YtonkjfnjadofpaaGreatCodeNamesBThree
import Derived.Test.YtonkjfnjadofpaaGreatCodeNamesF1
set_option linter.unusedVariables false
set_option maxRecDepth 100000
set_option maxHeartbeats 2000000
namespace Go.Proofs.YtonkjfnjadofpaaGreat
open Go Go.RowKit

theorem el3_122 : ElemOk Tryz.prog 3 1 8 := ⟨Tryz.t3, _, rfl, rfl, rfl, rfl, rfl⟩
def m_dag_sorted_J1 (kk_L3 : ((List Int) → (List Int) → Option (List Int))) (left_85 : List Int) (ready_89 : List Int) : Option (List Int) :=
  kk_L3 left_85 ready_89
def m_dag_sorted_L3 (N : Nat) (out_37 : List Int) (kk_L2 : ((List Int) → (List Int) → (List Int) → Option (List Int))) (r_41 : (Int × (List Int))) : List Int → (List Int) → (List Int) → Option (List Int)
  | [], left_73, ready_77 => kk_L2 left_73 ready_77 (out_37 ++ [r_41.1])
  | x_81 :: l_82, left_73, ready_77 => (at? left_73 x_81).bind fun e_93 => (some (left_73.set (Int.toNat x_81) (IntKind.i64.wrap (e_93 - 1)))).bind fun xs_100 => (at? xs_100 x_81).bind fun e_101 => if (decide (e_101 = 0)) = true then ((m_dag_heap_push N ready_77 x_81).bind fun r_103 => m_dag_sorted_J1 (m_dag_sorted_L3 N out_37 kk_L2 r_41 l_82) xs_100 r_103) else none
termination_by structural x => x
def m_dag_sorted_L2 (N : Nat) (p1_down : (List (List Int))) : Nat → (List Int) → (List Int) → (List Int) → Option (List Int)
  | 0, _, _, _ => none
  | n_26 + 1, left_29, ready_33, out_37 => if (decide (0 < (ready_33.length : Int))) = true then ((m_dag_heap_pop N ready_33).bind fun r_41 => chk ((out_37.length + [r_41.1].length) * 8 ≤ 140737488355328 ∧ out_37.length + [r_41.1].length ≤ maxLen) ((at? p1_down r_41.1).bind fun e_62 => m_dag_sorted_L3 N out_37 (m_dag_sorted_L2 N p1_down n_26) r_41 e_62 left_29 r_41.2)) else (some out_37)
termination_by structural x => x
def m_dag_sorted_J2 (k_12 : Nat) (kk_L1 : (Nat → (List Int) → (List Int) → Option (List Int))) (left_114 : List Int) (ready_118 : List Int) : Option (List Int) :=
  kk_L1 (k_12 + 1) left_114 ready_118
def m_dag_sorted_L1 (N : Nat) (p1_down : (List (List Int))) : List (List Int) → Nat → (List Int) → (List Int) → Option (List Int)
  | [], k_12, left_16, ready_20 => m_dag_sorted_L2 N p1_down N left_16 ready_20 ([] : List Int)
  | x_24 :: l_25, k_12, left_16, ready_20 => (at? left_16 (k_12 : Int)).bind fun e_127 => (some (left_16.set (Int.toNat (k_12 : Int)) (x_24.length : Int))).bind fun xs_134 => if (decide ((x_24.length : Int) = 0)) = true then ((m_dag_heap_push N ready_20 (k_12 : Int)).bind fun r_135 => m_dag_sorted_J2 k_12 (m_dag_sorted_L1 N p1_down l_25) xs_134 r_135) else (m_dag_sorted_J2 k_12 (m_dag_sorted_L1 N p1_down l_25) xs_134 ready_20)
termination_by structural x => x
def m_dag_sorted (N : Nat) (p0_parents : (List (List Int))) (p1_down : (List (List Int))) : Option (List Int) :=
  chk (p0_parents.length * 8 ≤ 281474976710656 ∧ p0_parents.length ≤ maxLen) (m_dag_sorted_L1 N p1_down p0_parents 0 (List.replicate p0_parents.length (0 : Int)) ([] : List Int))
theorem c_dag_sorted (N : Nat) (c1 : Nat) (col : Col) (w0 : World) (a0 : Option Addr) (cap0 : Nat) (p0_parents : (List (List Int))) (a1 : Option Addr) (cap1 : Nat) (p1_down : (List (List Int))) (h0 : Sl (Rep.slice (Rep.int .i64)) col w0 a0 cap0 p0_parents) (h1 : Sl (Rep.slice (Rep.int .i64)) col w0 a1 cap1 p1_down) (r : (List Int)) (hm : m_dag_sorted N p0_parents p1_down = some r) :
    Calls Tryz.prog 122 #[(.slice a0 p0_parents.length cap0), (.slice a1 p1_down.length cap1)] w0 (fun e w' => ∃ (col' : Col) (ra1 : Option Addr) (rc2 : Nat), e = .returned ((.slice ra1 r.length rc2)) ∧ Grow col w0 col' w' ∧ Own (Rep.int .i64) 3 c1 col' w' ra1 rc2 r) := by
 refine calls_of1 4 (m := 66) (args := [(.slice a0 p0_parents.length cap0), (.slice a1 p1_down.length cap1)]) Tryz.func122 rfl rfl rfl rfl rfl ?_
 rw [m_dag_sorted.eq_1] at hm
 have hst := St.start col w0
 refine wS (wR ?_)
 refine lA (.slice none (([] : List Int).length) 0) ?_
 refine lN (wS (wR ?_))
 refine lM (.slice a0 p0_parents.length cap0) ?_
 refine lV (.int .i64 (p0_parents.length : Int)) (r_len Tryz.underlying25 rfl) ?_
 obtain ⟨hb_1, hm⟩ := cS hm
 refine l_make (col := (col0 col)) (w := w0) (r := (Rep.int .i64)) (n := p0_parents.length) (x0 := 0) 1 rfl Tryz.underlying33 Tryz.t3 rfl rfl rfl rfl rfl rfl rfl hb_1.1 hb_1.2 (rd_int .i64 0) ?_
 intro a_2 w_3 col_4 hg_5 h_6
 refine lA (.slice a_2 ((List.replicate p0_parents.length (0 : Int)).length) p0_parents.length) ?_
 refine lN (wS (wR ?_))
 refine l_alloc (col := col_4) (v := (.slice none (([] : List Int).length) 0)) 2 rfl Tryz.zeroValue184 ?_
 intro g_7 w_8 col_9 hg_10 hb_11
 replace hb_11 : Box 184 2 col_9 w_8 g_7 #[(.slice none (([] : List Int).length) 0)] := hb_11
 refine lN (wS (wS (wR ?_)))
 refine lM (.slice a0 p0_parents.length cap0) ?_
 refine lV (.int .i64 (p0_parents.length : Int)) (r_len Tryz.underlying25 rfl) ?_
 refine lM (.int .i64 0) ?_
 refine lN (wB ?_)
 replace h0 := ((h0.keep (Stay.start col w0)).gr hg_5).gr hg_10
 replace h1 := ((h1.keep (Stay.start col w0)).gr hg_5).gr hg_10
 replace hst := (hst.grow hg_5).grow hg_10
 replace h_6 := h_6.gr hg_10
 refine wloop (fun n f w_14 => ∃ (col_15 : Col) (k_12 : Nat) (a_17 : Option Addr) (cap_18 : Nat) (left_16 : List Int) (a_21 : Option Addr) (cap_22 : Nat) (ready_20 : List Int) (l_13 : List (List Int)), n = l_13.length ∧ p0_parents.drop k_12 = l_13 ∧ m_dag_sorted_L1 N p1_down l_13 k_12 left_16 ready_20 = some r ∧ St w0 (col0 col) col_15 w_14 ∧ Sl (Rep.slice (Rep.int .i64)) col_15 w_14 a1 cap1 p1_down ∧ Sl (Rep.slice (Rep.int .i64)) col_15 w_14 a0 cap0 p0_parents ∧ Own (Rep.int .i64) 3 1 col_15 w_14 a_17 cap_18 left_16 ∧ Own (Rep.int .i64) 3 3 col_15 w_14 a_21 cap_22 ready_20 ∧ Box 184 2 col_15 w_14 g_7 #[(.slice a_21 ready_20.length cap_22)] ∧ f 18 = (.int .i64 (k_12 : Int)) ∧ f 1 = (.slice a1 p1_down.length cap1) ∧ f 16 = (.slice a0 p0_parents.length cap0) ∧ f 17 = (.int .i64 (p0_parents.length : Int)) ∧ f 5 = (.slice a_17 left_16.length cap_18) ∧ f 6 = (.pointer (some ⟨g_7, 0, none⟩)) ∧ f 1000000 = (enc [])) p0_parents.length ⟨col_9, 0, a_2, p0_parents.length, (List.replicate p0_parents.length (0 : Int)), none, 0, ([] : List Int), p0_parents, rfl, rfl, hm, hst, h1, h0, h_6, Own.nil, hb_11, rfl, rfl, rfl, rfl, rfl, rfl, rfl⟩ ?_
 clear hm; intro n f w_14 hI
 obtain ⟨col_15, k_12, a_17, cap_18, left_16, a_21, cap_22, ready_20, l_13, hn, hl, hm, hst, h1, h0, h_19, h_23, hb_11, hs18, hs1, hs16, hs17, hs5, hs6, hs1000000⟩ := hI
 subst hn
 refine .lD 18 hs18 ?_
 refine .lD 1 hs1 ?_
 refine .lD 16 hs16 ?_
 refine .lD 17 hs17 ?_
 refine .lD 5 hs5 ?_
 refine .lD 6 hs6 ?_
 refine .lD 1000000 hs1000000 ?_
 clear hs18 hs1 hs16 hs17 hs5 hs6 hs1000000
 cases l_13 with
 | nil =>
  have hk : ¬ ((k_12 : Int) < (p0_parents.length : Int)) := by have := List.drop_eq_nil_iff.1 hl; omega
  have hkb := decide_eq_false hk
  rw [m_dag_sorted_L1.eq_1] at hm
  refine wS (wR ?_)
  refine lV (.bool (decide ((k_12 : Int) < (p0_parents.length : Int)))) (r_lss (k_12 : Int) (p0_parents.length : Int) rfl rfl) ?_
  refine lN (wS ?_)
  refine wcondF (congrArg Value.bool hkb) ?_
  refine wexit (inB_hit ?_)
  refine wS (wR ?_)
  refine lA (.slice none (([] : List Int).length) 0) ?_
  refine lN (wS (wB ?_))
  refine wloop (fun n f w_27 => ∃ (col_28 : Col) (a_30 : Option Addr) (cap_31 : Nat) (left_29 : List Int) (a_34 : Option Addr) (cap_35 : Nat) (ready_33 : List Int) (a_38 : Option Addr) (cap_39 : Nat) (out_37 : List Int) (n_26 : Nat), n_26 = n ∧ m_dag_sorted_L2 N p1_down n_26 left_29 ready_33 out_37 = some r ∧ St w0 (col0 col) col_28 w_27 ∧ Sl (Rep.slice (Rep.int .i64)) col_28 w_27 a1 cap1 p1_down ∧ Own (Rep.int .i64) 3 1 col_28 w_27 a_30 cap_31 left_29 ∧ Own (Rep.int .i64) 3 3 col_28 w_27 a_34 cap_35 ready_33 ∧ Box 184 2 col_28 w_27 g_7 #[(.slice a_34 ready_33.length cap_35)] ∧ Own (Rep.int .i64) 3 4 col_28 w_27 a_38 cap_39 out_37 ∧ f 1 = (.slice a1 p1_down.length cap1) ∧ f 5 = (.slice a_30 left_29.length cap_31) ∧ f 6 = (.pointer (some ⟨g_7, 0, none⟩)) ∧ f 9 = (.slice a_38 out_37.length cap_39) ∧ f 1000000 = (enc [])) N ⟨col_15, a_17, cap_18, left_16, a_21, cap_22, ready_20, none, 0, ([] : List Int), N, rfl, hm, hst, h1, h_19, h_23, hb_11, Own.nil, rfl, rfl, rfl, rfl, rfl⟩ ?_
  clear hm; intro n f w_27 hI
  obtain ⟨col_28, a_30, cap_31, left_29, a_34, cap_35, ready_33, a_38, cap_39, out_37, n_26, hn, hm, hst, h1, h_32, h_36, hb_11, h_40, hs1, hs5, hs6, hs9, hs1000000⟩ := hI
  subst hn
  refine .lD 1 hs1 ?_
  refine .lD 5 hs5 ?_
  refine .lD 6 hs6 ?_
  refine .lD 9 hs9 ?_
  refine .lD 1000000 hs1000000 ?_
  clear hs1 hs5 hs6 hs9 hs1000000
  cases n_26 with
  | zero => rw [m_dag_sorted_L2.eq_1] at hm; cases hm
  | succ n_26 =>
   rw [m_dag_sorted_L2.eq_2] at hm
   refine wS (wS (wR ?_))
   refine lV (.slice a_34 ready_33.length cap_35) (r_ld Tryz.isAgg184 rfl hb_11.at1) ?_
   refine lV (.int .i64 (ready_33.length : Int)) (r_len Tryz.underlying184 rfl) ?_
   refine lV (.bool (decide (0 < (ready_33.length : Int)))) (r_gtr (ready_33.length : Int) 0 rfl rfl) ?_
   refine lN ?_
   refine wcond (decide (0 < (ready_33.length : Int))) rfl (fun hb => ?_) (fun hb => ?_)
   ·rw [if_pos hb] at hm
    clear hb
    refine wK (wB (wS (wR ?_)))
    obtain ⟨r_41, hr_42, hm⟩ := bS hm
    refine lc rfl rfl (r_call1 Tryz.call152 rfl) (c_dag_heap_pop N col_28 _ 2 3 rfl g_7 ready_33 a_34 cap_35 h_36 hb_11 r_41 hr_42) ?_
    rintro _ w_47 ⟨col_49, oa_43, oc_44, rfl, hg_48, oh_45, ohb_46⟩
    refine ⟨_, rfl, ?_⟩
    clear h_36
    clear hb_11
    refine lA (.int .i64 r_41.1) ?_
    refine lN (wS (wR ?_))
    refine lM (.slice a_38 out_37.length cap_39) ?_
    refine lM (.int .i64 r_41.1) ?_
    refine l_lit (col := col_49) (r := (Rep.int .i64)) (xs := [r_41.1]) [(.int .i64 r_41.1)] 5 rfl Tryz.underlying33 el3_122 rfl rfl rfl rfl rfl rfl (by intro v hv; simp only [List.mem_cons, List.not_mem_nil, or_false] at hv; subst hv; rfl) (RowsH.ofF (Rows.consF (r := (Rep.int .i64)) (x := r_41.1) (cs := [(.int .i64 r_41.1)]) (rd_int .i64 r_41.1) Rows.nil0)) ?_
    intro a_50 w_51 col_52 hg_53 h_54
    obtain ⟨hb_55, hm⟩ := cS hm
    replace h_40 := (h_40.kpp hg_48).gr hg_53
    refine l_appendM (col := col_52) (w := w_51) (r := (Rep.int .i64)) (c := 4) (c2 := 4) (xs := out_37) (ys := [r_41.1]) h_40 (h_54.srcN (NB.int (k := .i64))) rfl Tryz.underlying33 el3_122 rfl rfl rfl hb_55.1 hb_55.2 (by decide) ?_
    intro a_56 cap_57 w_58 col_59 hk_60 h_61
    clear h_40
    refine lA (.slice a_56 ((out_37 ++ [r_41.1]).length) cap_57) ?_
    refine lN (wS (wR ?_))
    refine lM (.slice a1 p1_down.length cap1) ?_
    refine lM (.int .i64 r_41.1) ?_
    obtain ⟨e_62, hj_63, hm⟩ := bS hm
    replace h1 := ((h1.kpp hg_48).gr hg_53).kpp hk_60
    refine lV (sptr a1 (Int.toNat r_41.1 * 1)) (r_idx Tryz.underlying25 Tryz.sizeOf33 rfl rfl (at?_some hj_63).1 (at?_some hj_63).2.1 (h1.addr hj_63)) ?_
    obtain ⟨_, hr_64, hA_65⟩ := h1.atN hj_63
    obtain ⟨⟨a_66, cap_67, rfl, h_68⟩, _⟩ := hr_64
    refine lV (.slice a_66 e_62.length cap_67) (r_ld Tryz.isAgg33 rfl hA_65.one) ?_
    refine lV (.int .i64 (e_62.length : Int)) (r_len Tryz.underlying33 rfl) ?_
    refine lM (.int .i64 0) ?_
    refine lN (wB ?_)
    replace h_32 := ((h_32.kpp hg_48).gr hg_53).kpp hk_60
    replace hst := ((hst.kpp hg_48).grow hg_53).kpp hk_60
    replace oh_45 := (oh_45.gr hg_53).kpp hk_60
    replace ohb_46 := (ohb_46.gr hg_53).kpp hk_60
    refine wloop (fun n f w_71 => ∃ (col_72 : Col) (k_69 : Nat) (a_74 : Option Addr) (cap_75 : Nat) (left_73 : List Int) (a_78 : Option Addr) (cap_79 : Nat) (ready_77 : List Int) (l_70 : List Int), n = l_70.length ∧ e_62.drop k_69 = l_70 ∧ m_dag_sorted_L3 N out_37 (m_dag_sorted_L2 N p1_down n_26) r_41 l_70 left_73 ready_77 = some r ∧ St w0 (col0 col) col_72 w_71 ∧ Sl (Rep.slice (Rep.int .i64)) col_72 w_71 a1 cap1 p1_down ∧ Sl (Rep.int .i64) col_72 w_71 a_66 cap_67 e_62 ∧ Own (Rep.int .i64) 3 1 col_72 w_71 a_74 cap_75 left_73 ∧ Own (Rep.int .i64) 3 3 col_72 w_71 a_78 cap_79 ready_77 ∧ Box 184 2 col_72 w_71 g_7 #[(.slice a_78 ready_77.length cap_79)] ∧ Own (Rep.int .i64) 3 4 col_72 w_71 a_56 cap_57 (out_37 ++ [r_41.1]) ∧ f 47 = (.int .i64 (k_69 : Int)) ∧ f 1 = (.slice a1 p1_down.length cap1) ∧ f 45 = (.slice a_66 e_62.length cap_67) ∧ f 46 = (.int .i64 (e_62.length : Int)) ∧ f 5 = (.slice a_74 left_73.length cap_75) ∧ f 6 = (.pointer (some ⟨g_7, 0, none⟩)) ∧ f 9 = (.slice a_56 ((out_37 ++ [r_41.1]).length) cap_57) ∧ f 1000000 = (enc [])) e_62.length ⟨col_59, 0, a_30, cap_31, left_29, oa_43, oc_44, r_41.2, e_62, rfl, rfl, hm, hst, h1, h_68, h_32, oh_45, ohb_46, h_61, rfl, rfl, rfl, rfl, rfl, rfl, rfl, rfl⟩ ?_
    clear hm; intro n f w_71 hI
    obtain ⟨col_72, k_69, a_74, cap_75, left_73, a_78, cap_79, ready_77, l_70, hn, hl, hm, hst, h1, h_68, h_76, h_80, ohb_46, h_61, hs47, hs1, hs45, hs46, hs5, hs6, hs9, hs1000000⟩ := hI
    subst hn
    refine .lD 47 hs47 ?_
    refine .lD 1 hs1 ?_
    refine .lD 45 hs45 ?_
    refine .lD 46 hs46 ?_
    refine .lD 5 hs5 ?_
    refine .lD 6 hs6 ?_
    refine .lD 9 hs9 ?_
    refine .lD 1000000 hs1000000 ?_
    clear hs47 hs1 hs45 hs46 hs5 hs6 hs9 hs1000000
    cases l_70 with
    | nil =>
     have hk : ¬ ((k_69 : Int) < (e_62.length : Int)) := by have := List.drop_eq_nil_iff.1 hl; omega
     have hkb := decide_eq_false hk
     rw [m_dag_sorted_L3.eq_1] at hm
     refine wS (wR ?_)
     refine lV (.bool (decide ((k_69 : Int) < (e_62.length : Int)))) (r_lss (k_69 : Int) (e_62.length : Int) rfl rfl) ?_
     refine lN (wS ?_)
     refine wcondF (congrArg Value.bool hkb) ?_
     refine wexit (inB_hit ?_)
     exact ⟨n_26, by omega, ⟨col_72, a_74, cap_75, left_73, a_78, cap_79, ready_77, a_56, cap_57, (out_37 ++ [r_41.1]), n_26, rfl, hm, hst, h1, h_76, h_80, ohb_46, h_61, rfl, rfl, rfl, rfl, rfl⟩⟩
    | cons x_81 l_82 =>
     obtain ⟨hat, hl2_L3, hlt_L3⟩ := drop_get hl
     have hk : (k_69 : Int) < (e_62.length : Int) := by omega
     have hkb := decide_eq_true hk
     rw [m_dag_sorted_L3.eq_2] at hm
     refine wS (wR ?_)
     refine lV (.bool (decide ((k_69 : Int) < (e_62.length : Int)))) (r_lss (k_69 : Int) (e_62.length : Int) rfl rfl) ?_
     refine lN (wS ?_)
     refine wcondT (congrArg Value.bool hkb) ?_
     refine wK (wS ?_)
     refine Wp.cut (fun f w_83 => ∃ (col_84 : Col) (a_86 : Option Addr) (cap_87 : Nat) (left_85 : List Int) (a_90 : Option Addr) (cap_91 : Nat) (ready_89 : List Int), m_dag_sorted_J1 (m_dag_sorted_L3 N out_37 (m_dag_sorted_L2 N p1_down n_26) r_41 l_82) left_85 ready_89 = some r ∧ St w0 (col0 col) col_84 w_83 ∧ Sl (Rep.slice (Rep.int .i64)) col_84 w_83 a1 cap1 p1_down ∧ Sl (Rep.int .i64) col_84 w_83 a_66 cap_67 e_62 ∧ Own (Rep.int .i64) 3 1 col_84 w_83 a_86 cap_87 left_85 ∧ Own (Rep.int .i64) 3 3 col_84 w_83 a_90 cap_91 ready_89 ∧ Box 184 2 col_84 w_83 g_7 #[(.slice a_90 ready_89.length cap_91)] ∧ Own (Rep.int .i64) 3 4 col_84 w_83 a_56 cap_57 (out_37 ++ [r_41.1]) ∧ f 1 = (.slice a1 p1_down.length cap1) ∧ f 45 = (.slice a_66 e_62.length cap_67) ∧ f 46 = (.int .i64 (e_62.length : Int)) ∧ f 47 = (.int .i64 (k_69 : Int)) ∧ f 5 = (.slice a_86 left_85.length cap_87) ∧ f 6 = (.pointer (some ⟨g_7, 0, none⟩)) ∧ f 9 = (.slice a_56 ((out_37 ++ [r_41.1]).length) cap_57) ∧ f 1000000 = (enc [])) ?_ ?_
     ·intro f w_83 hJ
      obtain ⟨col_84, a_86, cap_87, left_85, a_90, cap_91, ready_89, hm, hst, h1, h_68, h_88, h_92, ohb_46, h_61, hs1, hs45, hs46, hs47, hs5, hs6, hs9, hs1000000⟩ := hJ
      rw [m_dag_sorted_J1.eq_1] at hm
      refine .lD 1 hs1 ?_
      refine .lD 45 hs45 ?_
      refine .lD 46 hs46 ?_
      refine .lD 47 hs47 ?_
      refine .lD 5 hs5 ?_
      refine .lD 6 hs6 ?_
      refine .lD 9 hs9 ?_
      refine .lD 1000000 hs1000000 ?_
      clear hs1 hs45 hs46 hs47 hs5 hs6 hs9 hs1000000
      refine wR ?_
      refine lV (.int .i64 (IntKind.i64.wrap ((k_69 : Int) + 1))) (r_add (k_69 : Int) 1 rfl rfl) ?_
      refine lM (.int .i64 (IntKind.i64.wrap ((k_69 : Int) + 1))) ?_
      refine lN ?_
      exact ⟨l_82.length, by simp, ⟨col_84, (k_69 + 1), a_86, cap_87, left_85, a_90, cap_91, ready_89, l_82, rfl, hl2_L3, hm, hst, h1, h_68, h_88, h_92, ohb_46, h_61, (congrArg (Value.int .i64) (wrap_succ (Nat.lt_of_lt_of_le hlt_L3 h_68.1.1))), rfl, rfl, rfl, rfl, rfl, rfl, rfl⟩⟩
     refine wB (wS (wR ?_))
     refine lV (sptr a_66 (Int.toNat (k_69 : Int) * 1)) (r_idx Tryz.underlying33 Tryz.sizeOf3 rfl rfl (at?_some hat).1 (at?_some hat).2.1 (h_68.addr hat)) ?_
     refine lV (.int .i64 x_81) (r_ld Tryz.isAgg3 rfl (h_68.atInt hat)) ?_
     refine lA (.int .i64 x_81) ?_
     refine lN (wS (wR ?_))
     refine lM (.slice a_74 left_73.length cap_75) ?_
     refine lM (.int .i64 x_81) ?_
     obtain ⟨e_93, hj_94, hm⟩ := bS hm
     refine lV (sptr a_74 (Int.toNat x_81 * 1)) (r_idx Tryz.underlying33 Tryz.sizeOf3 rfl rfl (at?_some hj_94).1 (at?_some hj_94).2.1 (h_76.addr hj_94)) ?_
     refine lV (.int .i64 e_93) (r_ld Tryz.isAgg3 rfl (h_76.atInt hj_94)) ?_
     refine lV (.int .i64 (IntKind.i64.wrap (e_93 - 1))) (r_sub e_93 1 rfl rfl) ?_
     refine lV (sptr a_74 (Int.toNat x_81 * 1)) (r_idx Tryz.underlying33 Tryz.sizeOf3 rfl rfl (at?_some hj_94).1 (at?_some hj_94).2.1 (h_76.addr hj_94)) ?_
     obtain ⟨xs_100, hz_99, hm⟩ := bS hm
     have hz_99 : xs_100 = left_73.set (Int.toNat x_81) (IntKind.i64.wrap (e_93 - 1)) := (Option.some.inj hz_99).symm
     refine l_store (x1 := IntKind.i64.wrap (e_93 - 1)) (v := (.int .i64 (IntKind.i64.wrap (e_93 - 1)))) h_76 hj_94 rfl Tryz.sizeOf3 (rd_int .i64 (IntKind.i64.wrap (e_93 - 1))) rfl rfl (by decide) ?_
     intro w_95 hk_96 hs_97 h_98
     rw [← hz_99] at h_98
     refine .ld (d := 5) (v := (.slice a_74 xs_100.length cap_75)) (congrArg (fun n => Value.slice a_74 n cap_75) (show left_73.length = xs_100.length by rw [hz_99, List.length_set])) ?_
     clear h_76
     refine lN (wS (wR ?_))
     refine lM (.slice a_74 xs_100.length cap_75) ?_
     refine lM (.int .i64 x_81) ?_
     obtain ⟨e_101, hj_102, hm⟩ := bS hm
     refine lV (sptr a_74 (Int.toNat x_81 * 1)) (r_idx Tryz.underlying33 Tryz.sizeOf3 rfl rfl (at?_some hj_102).1 (at?_some hj_102).2.1 (h_98.addr hj_102)) ?_
     refine lV (.int .i64 e_101) (r_ld Tryz.isAgg3 rfl (h_98.atInt hj_102)) ?_
     refine lV (.bool (decide (e_101 = 0))) (r_eql e_101 0 rfl rfl) ?_
     refine lN ?_
     replace h1 := h1.kp hk_96
     replace h_68 := h_68.kp hk_96
     replace h_80 := h_80.kp hk_96
     replace h_61 := h_61.kp hk_96
     replace ohb_46 := ohb_46.kp hk_96
     replace hst := hst.kp hk_96 hs_97
     refine wcond (decide (e_101 = 0)) rfl (fun hb => ?_) (fun hb => ?_)
     ·rw [if_pos hb] at hm
      clear hb
      refine wR ?_
      refine lM (.int .i64 x_81) ?_
      obtain ⟨r_103, hr_104, hm⟩ := bS hm
      refine lc rfl rfl (r_call2 Tryz.call151 rfl rfl) (c_dag_heap_push N col_72 _ 2 3 rfl g_7 ready_77 a_78 cap_79 x_81 h_80 ohb_46 r_103 hr_104) ?_
      rintro _ w_109 ⟨col_111, oa_105, oc_106, rfl, hg_110, oh_107, ohb_108⟩
      refine ⟨_, rfl, ?_⟩
      clear h_80
      clear ohb_46
      refine lN ?_
      replace h1 := h1.kpp hg_110
      replace h_68 := h_68.kpp hg_110
      replace h_98 := h_98.kpp hg_110
      replace h_61 := h_61.kpp hg_110
      replace hst := hst.kpp hg_110
      exact ⟨col_111, a_74, cap_75, xs_100, oa_105, oc_106, r_103, hm, hst, h1, h_68, h_98, oh_107, ohb_108, h_61, rfl, rfl, rfl, rfl, rfl, rfl, rfl, rfl⟩
     rw [if_neg (by rw [hb]; decide)] at hm
     clear hb
     cases hm
   rw [if_neg (by rw [hb]; decide)] at hm
   clear hb
   refine wexit (inB_hit ?_)
   refine wS (wR ?_)
   refine lM (.slice a_38 out_37.length cap_39) ?_
   refine lA (.slice a_38 out_37.length cap_39) ?_
   refine lN ?_
   refine wret ?_
   cases hm
   exact ⟨rfl, colF w0.heap.size col col_28 (fun n => bif Nat.beq n 4 then c1 else 0), a_38, cap_39, rfl, hst.fin (fun n => bif Nat.beq n 4 then c1 else 0), hst.finOwn (g := (fun n => bif Nat.beq n 4 then c1 else 0)) rfl h_40 (by decide) (by decide) rfl⟩
 | cons x_24 l_25 =>
  obtain ⟨hat, hl2_L1, hlt_L1⟩ := drop_get hl
  have hk : (k_12 : Int) < (p0_parents.length : Int) := by omega
  have hkb := decide_eq_true hk
  rw [m_dag_sorted_L1.eq_2] at hm
  refine wS (wR ?_)
  refine lV (.bool (decide ((k_12 : Int) < (p0_parents.length : Int)))) (r_lss (k_12 : Int) (p0_parents.length : Int) rfl rfl) ?_
  refine lN (wS ?_)
  refine wcondT (congrArg Value.bool hkb) ?_
  refine wK (wS ?_)
  refine Wp.cut (fun f w_112 => ∃ (col_113 : Col) (a_115 : Option Addr) (cap_116 : Nat) (left_114 : List Int) (a_119 : Option Addr) (cap_120 : Nat) (ready_118 : List Int), m_dag_sorted_J2 k_12 (m_dag_sorted_L1 N p1_down l_25) left_114 ready_118 = some r ∧ St w0 (col0 col) col_113 w_112 ∧ Sl (Rep.slice (Rep.int .i64)) col_113 w_112 a1 cap1 p1_down ∧ Sl (Rep.slice (Rep.int .i64)) col_113 w_112 a0 cap0 p0_parents ∧ Own (Rep.int .i64) 3 1 col_113 w_112 a_115 cap_116 left_114 ∧ Own (Rep.int .i64) 3 3 col_113 w_112 a_119 cap_120 ready_118 ∧ Box 184 2 col_113 w_112 g_7 #[(.slice a_119 ready_118.length cap_120)] ∧ f 1 = (.slice a1 p1_down.length cap1) ∧ f 16 = (.slice a0 p0_parents.length cap0) ∧ f 17 = (.int .i64 (p0_parents.length : Int)) ∧ f 18 = (.int .i64 (k_12 : Int)) ∧ f 5 = (.slice a_115 left_114.length cap_116) ∧ f 6 = (.pointer (some ⟨g_7, 0, none⟩)) ∧ f 1000000 = (enc [])) ?_ ?_
  ·intro f w_112 hJ
   obtain ⟨col_113, a_115, cap_116, left_114, a_119, cap_120, ready_118, hm, hst, h1, h0, h_117, h_121, hb_11, hs1, hs16, hs17, hs18, hs5, hs6, hs1000000⟩ := hJ
   rw [m_dag_sorted_J2.eq_1] at hm
   refine .lD 1 hs1 ?_
   refine .lD 16 hs16 ?_
   refine .lD 17 hs17 ?_
   refine .lD 18 hs18 ?_
   refine .lD 5 hs5 ?_
   refine .lD 6 hs6 ?_
   refine .lD 1000000 hs1000000 ?_
   clear hs1 hs16 hs17 hs18 hs5 hs6 hs1000000
   refine wR ?_
   refine lV (.int .i64 (IntKind.i64.wrap ((k_12 : Int) + 1))) (r_add (k_12 : Int) 1 rfl rfl) ?_
   refine lM (.int .i64 (IntKind.i64.wrap ((k_12 : Int) + 1))) ?_
   refine lN ?_
   exact ⟨l_25.length, by simp, ⟨col_113, (k_12 + 1), a_115, cap_116, left_114, a_119, cap_120, ready_118, l_25, rfl, hl2_L1, hm, hst, h1, h0, h_117, h_121, hb_11, (congrArg (Value.int .i64) (wrap_succ (Nat.lt_of_lt_of_le hlt_L1 h0.1.1))), rfl, rfl, rfl, rfl, rfl, rfl⟩⟩
  refine wB (wS (wR ?_))
  refine lM (.int .i64 (k_12 : Int)) ?_
  refine lV (sptr a0 (Int.toNat (k_12 : Int) * 1)) (r_idx Tryz.underlying25 Tryz.sizeOf33 rfl rfl (at?_some hat).1 (at?_some hat).2.1 (h0.addr hat)) ?_
  obtain ⟨_, hr_122, hA_123⟩ := h0.atN hat
  obtain ⟨⟨a_124, cap_125, rfl, h_126⟩, _⟩ := hr_122
  refine lV (.slice a_124 x_24.length cap_125) (r_ld Tryz.isAgg33 rfl hA_123.one) ?_
  refine lA (.int .i64 (k_12 : Int)) ?_
  refine lA (.slice a_124 x_24.length cap_125) ?_
  refine lN (wS (wR ?_))
  refine lM (.slice a_17 left_16.length cap_18) ?_
  refine lM (.int .i64 (k_12 : Int)) ?_
  refine lM (.slice a_124 x_24.length cap_125) ?_
  refine lV (.int .i64 (x_24.length : Int)) (r_len Tryz.underlying33 rfl) ?_
  obtain ⟨e_127, hj_128, hm⟩ := bS hm
  refine lV (sptr a_17 (Int.toNat (k_12 : Int) * 1)) (r_idx Tryz.underlying33 Tryz.sizeOf3 rfl rfl (at?_some hj_128).1 (at?_some hj_128).2.1 (h_19.addr hj_128)) ?_
  obtain ⟨xs_134, hz_133, hm⟩ := bS hm
  have hz_133 : xs_134 = left_16.set (Int.toNat (k_12 : Int)) (x_24.length : Int) := (Option.some.inj hz_133).symm
  refine l_store (x1 := (x_24.length : Int)) (v := (.int .i64 (x_24.length : Int))) h_19 hj_128 rfl Tryz.sizeOf3 (rd_int .i64 (x_24.length : Int)) rfl rfl (by decide) ?_
  intro w_129 hk_130 hs_131 h_132
  rw [← hz_133] at h_132
  refine .ld (d := 5) (v := (.slice a_17 xs_134.length cap_18)) (congrArg (fun n => Value.slice a_17 n cap_18) (show left_16.length = xs_134.length by rw [hz_133, List.length_set])) ?_
  clear h_19
  refine lN (wS (wR ?_))
  refine lM (.slice a_124 x_24.length cap_125) ?_
  refine lV (.int .i64 (x_24.length : Int)) (r_len Tryz.underlying33 rfl) ?_
  refine lV (.bool (decide ((x_24.length : Int) = 0))) (r_eql (x_24.length : Int) 0 rfl rfl) ?_
  refine lN ?_
  replace h1 := h1.kp hk_130
  replace h0 := h0.kp hk_130
  replace h_23 := h_23.kp hk_130
  replace hb_11 := hb_11.kp hk_130
  replace hst := hst.kp hk_130 hs_131
  refine wcond (decide ((x_24.length : Int) = 0)) rfl (fun hb => ?_) (fun hb => ?_)
  ·rw [if_pos hb] at hm
   clear hb
   refine wR ?_
   refine lM (.int .i64 (k_12 : Int)) ?_
   obtain ⟨r_135, hr_136, hm⟩ := bS hm
   refine lc rfl rfl (r_call2 Tryz.call151 rfl rfl) (c_dag_heap_push N col_15 _ 2 3 rfl g_7 ready_20 a_21 cap_22 (k_12 : Int) h_23 hb_11 r_135 hr_136) ?_
   rintro _ w_141 ⟨col_143, oa_137, oc_138, rfl, hg_142, oh_139, ohb_140⟩
   refine ⟨_, rfl, ?_⟩
   clear h_23
   clear hb_11
   refine lN ?_
   replace h1 := h1.kpp hg_142
   replace h0 := h0.kpp hg_142
   replace h_132 := h_132.kpp hg_142
   replace hst := hst.kpp hg_142
   exact ⟨col_143, a_17, cap_18, xs_134, oa_137, oc_138, r_135, hm, hst, h1, h0, h_132, oh_139, ohb_140, rfl, rfl, rfl, rfl, rfl, rfl, rfl⟩
  rw [if_neg (by rw [hb]; decide)] at hm
  clear hb
  refine wK ?_
  exact ⟨col_15, a_17, cap_18, xs_134, a_21, cap_22, ready_20, hm, hst, h1, h0, h_132, h_23, hb_11, rfl, rfl, rfl, rfl, rfl, rfl, rfl⟩
def m_dag_Order (N : Nat) (p0_parents : (List (List Int))) : Option ((List Int) × Int) :=
  (m_dag_fits p0_parents).bind fun r_1 => if (!decide (r_1 = 0)) = true then none else ((m_dag_children p0_parents).bind fun r_5 => (m_dag_sorted N p0_parents r_5).bind fun r_13 => if (decide ((r_13.length : Int) < (p0_parents.length : Int))) = true then none else (some (r_13, 0)))
theorem c_dag_Order (N : Nat) (c1 : Nat) (col : Col) (w0 : World) (a0 : Option Addr) (cap0 : Nat) (p0_parents : (List (List Int))) (h0 : Sl (Rep.slice (Rep.int .i64)) col w0 a0 cap0 p0_parents) (r : ((List Int) × Int)) (hm : m_dag_Order N p0_parents = some r) :
    Calls Tryz.prog 70 #[(.slice a0 p0_parents.length cap0)] w0 (fun e w' => ∃ (col' : Col) (ra1 : Option Addr) (rc2 : Nat), e = .returned (.tuple #[(.slice ra1 r.1.length rc2), (.int .i64 r.2)]) ∧ Grow col w0 col' w' ∧ Own (Rep.int .i64) 3 c1 col' w' ra1 rc2 r.1) := by
 refine calls_of2 2 3 (m := 21) (args := [(.slice a0 p0_parents.length cap0)]) Tryz.func70 rfl rfl rfl rfl rfl ?_
 rw [m_dag_Order.eq_1] at hm
 have hst := St.start col w0
 refine wS (wR ?_)
 refine lA (.slice none (([] : List Int).length) 0) ?_
 refine lA (.int .i64 0) ?_
 refine lN (wS (wS (wR ?_)))
 refine lM (.slice a0 p0_parents.length cap0) ?_
 obtain ⟨r_1, hr_2, hm⟩ := bS hm
 replace h0 := h0.keep (Stay.start col w0)
 refine lc rfl rfl (r_call1 Tryz.call121 rfl) (c_dag_fits (col0 col) _ a0 cap0 p0_parents h0 r_1 hr_2) ?_
 rintro _ w_3 ⟨rfl, hg_4⟩
 refine ⟨_, rfl, ?_⟩
 replace hg_4 : Grow (col0 col) w0 (col0 col) w_3 := .of_below hg_4
 refine lA (.int .i64 r_1) ?_
 refine lN (wS (wR ?_))
 refine lM (.int .i64 r_1) ?_
 refine lV (.bool (!decide (r_1 = 0))) (r_neq r_1 0 rfl rfl) ?_
 refine lN ?_
 replace h0 := h0.gr hg_4
 replace hst := hst.grow hg_4
 refine wcond (!decide (r_1 = 0)) rfl (fun hb => ?_) (fun hb => ?_)
 ·rw [if_pos hb] at hm
  clear hb
  cases hm
 rw [if_neg (by rw [hb]; decide)] at hm
 clear hb
 refine wK (wS (wR ?_))
 refine lM (.slice a0 p0_parents.length cap0) ?_
 refine lM (.slice a0 p0_parents.length cap0) ?_
 obtain ⟨r_5, hr_6, hm⟩ := bS hm
 refine lc rfl rfl (r_call1 Tryz.call123 rfl) (c_dag_children 1 (col0 col) _ a0 cap0 p0_parents h0 r_5 hr_6) ?_
 rintro _ w_10 ⟨col_12, ra_7, rc_8, rfl, hg_11, rh_9⟩
 refine ⟨_, rfl, ?_⟩
 obtain ⟨r_13, hr_14, hm⟩ := bS hm
 replace h0 := h0.gr hg_11
 refine lc rfl rfl (r_call2 Tryz.call122 rfl rfl) (c_dag_sorted N 2 (frC 1 col_12) _ a0 cap0 p0_parents ra_7 rc_8 r_5 (h0.froz 1) (rh_9.toSlF (Froz.row (Froz.int .i64))) r_13 hr_14) ?_
 rintro _ w_18 ⟨col_20, ra_15, rc_16, rfl, hg_19, rh_17⟩
 refine ⟨_, rfl, ?_⟩
 replace rh_17 := rh_17.thaw (flat_int .i64) hg_19 ((Fz.refl (col := col_12)).froz 1) (by decide)
 replace hg_19 := hg_19.thawR (col := col_12)
 generalize colR w_10.heap.size col_12 col_20 = col_21 at *
 refine lA (.slice ra_15 r_13.length rc_16) ?_
 refine lN (wS (wS (wR ?_)))
 refine lM (.slice ra_15 r_13.length rc_16) ?_
 refine lV (.int .i64 (r_13.length : Int)) (r_len Tryz.underlying33 rfl) ?_
 refine lM (.slice a0 p0_parents.length cap0) ?_
 refine lV (.int .i64 (p0_parents.length : Int)) (r_len Tryz.underlying25 rfl) ?_
 refine lV (.bool (decide ((r_13.length : Int) < (p0_parents.length : Int)))) (r_lss (r_13.length : Int) (p0_parents.length : Int) rfl rfl) ?_
 refine lN ?_
 replace hst := (hst.grow hg_11).grow hg_19
 refine wcond (decide ((r_13.length : Int) < (p0_parents.length : Int))) rfl (fun hb => ?_) (fun hb => ?_)
 ·rw [if_pos hb] at hm
  clear hb
  cases hm
 rw [if_neg (by rw [hb]; decide)] at hm
 clear hb
 refine wK (wS (wR ?_))
 refine lM (.slice ra_15 r_13.length rc_16) ?_
 refine lA (.slice ra_15 r_13.length rc_16) ?_
 refine lA (.int .i64 0) ?_
 refine lN ?_
 refine wret ?_
 cases hm
 exact ⟨rfl, colF w0.heap.size col col_21 (fun n => bif Nat.beq n 2 then c1 else 0), ra_15, rc_16, rfl, hst.fin (fun n => bif Nat.beq n 2 then c1 else 0), hst.finOwn (g := (fun n => bif Nat.beq n 2 then c1 else 0)) rfl rh_17 (by decide) (by decide) rfl⟩
def m_dag_Check (N : Nat) (p0_parents : (List (List Int))) : Option Int :=
  (m_dag_Order N p0_parents).bind fun r_1 => some r_1.2
theorem c_dag_Check (N : Nat) (col : Col) (w0 : World) (a0 : Option Addr) (cap0 : Nat) (p0_parents : (List (List Int))) (h0 : Sl (Rep.slice (Rep.int .i64)) col w0 a0 cap0 p0_parents) (r : Int) (hm : m_dag_Check N p0_parents = some r) :
    Calls Tryz.prog 115 #[(.slice a0 p0_parents.length cap0)] w0 (fun e w' => e = .returned ((.int .i64 r)) ∧ Below w0.heap.size w0 w') := by
 refine calls_of1 2 (m := 11) (args := [(.slice a0 p0_parents.length cap0)]) Tryz.func115 rfl rfl rfl rfl rfl ?_
 rw [m_dag_Check.eq_1] at hm
 have hst := St.start col w0
 refine wS (wR ?_)
 refine lA (.int .i64 0) ?_
 refine lN (wS (wR ?_))
 refine lM (.slice a0 p0_parents.length cap0) ?_
 obtain ⟨r_1, hr_2, hm⟩ := bS hm
 replace h0 := h0.keep (Stay.start col w0)
 refine lc rfl rfl (r_call1 Tryz.call70 rfl) (c_dag_Order N 1 (col0 col) _ a0 cap0 p0_parents h0 r_1 hr_2) ?_
 rintro _ w_6 ⟨col_8, ra_3, rc_4, rfl, hg_7, rh_5⟩
 refine ⟨_, rfl, ?_⟩
 refine lM (.tuple #[(.slice ra_3 r_1.1.length rc_4), (.int .i64 r_1.2)]) ?_
 refine lV (.slice ra_3 r_1.1.length rc_4) (r_extract rfl rfl) ?_
 refine lV (.int .i64 r_1.2) (r_extract rfl rfl) ?_
 refine lA (.slice ra_3 r_1.1.length rc_4) ?_
 refine lA (.int .i64 r_1.2) ?_
 refine lN (wS (wR ?_))
 refine lM (.int .i64 r_1.2) ?_
 refine lA (.int .i64 r_1.2) ?_
 refine lN ?_
 refine wret ?_
 cases hm
 replace hst := hst.grow hg_7
 exact ⟨rfl, rfl, hst.below⟩
def m_nat_trim_J1 (a_4 : List Int) (kk_L1 : ((List Int) → Option (List Int))) (v_16 : Bool) : Option (List Int) :=
  if v_16 = true then (chk ((0 : Int) ≤ (IntKind.i64.wrap ((a_4.length : Int) - 1)) ∧ (IntKind.i64.wrap ((a_4.length : Int) - 1)) ≤ (a_4.length : Int)) (kk_L1 (a_4.take (Int.toNat (IntKind.i64.wrap ((a_4.length : Int) - 1)))))) else (some a_4)
def m_nat_trim_L1 (N : Nat)  : Nat → (List Int) → Option (List Int)
  | 0, _ => none
  | n_1 + 1, a_4 => if (decide (0 < (a_4.length : Int))) = true then ((at? a_4 (IntKind.i64.wrap ((a_4.length : Int) - 1))).bind fun e_19 => m_nat_trim_J1 a_4 (m_nat_trim_L1 N n_1) (decide (e_19 = 0))) else (m_nat_trim_J1 a_4 (m_nat_trim_L1 N n_1) false)
termination_by structural x => x
def m_nat_trim (N : Nat) (p0_a : (List Int)) : Option (List Int) :=
  m_nat_trim_L1 N N p0_a
theorem c_nat_trim (N : Nat) (col : Col) (w0 : World) (a0 : Option Addr) (cap0 : Nat) (p0_a : (List Int)) (h0 : Sl (Rep.int .u32) col w0 a0 cap0 p0_a) (r : (List Int)) (hm : m_nat_trim N p0_a = some r) :
    Calls Tryz.prog 88 #[(.slice a0 p0_a.length cap0)] w0 (fun e w' => ∃ (col' : Col) (ra1 : Option Addr) (rc2 : Nat), e = .returned ((.slice ra1 r.length rc2)) ∧ Grow col w0 col' w' ∧ Sl (Rep.int .u32) col' w' ra1 rc2 r) := by
 refine calls_of1 2 (m := 21) (args := [(.slice a0 p0_a.length cap0)]) Tryz.func88 rfl rfl rfl rfl rfl ?_
 rw [m_nat_trim.eq_1] at hm
 have hst := St.start col w0
 refine wS (wR ?_)
 refine lA (.slice none (([] : List Int).length) 0) ?_
 refine lN (wS (wB ?_))
 replace h0 := h0.keep (Stay.start col w0)
 refine wloop (fun n f w_2 => ∃ (col_3 : Col) (a_5 : Option Addr) (cap_6 : Nat) (a_4 : List Int) (n_1 : Nat), n_1 = n ∧ m_nat_trim_L1 N n_1 a_4 = some r ∧ St w0 (col0 col) col_3 w_2 ∧ Sl (Rep.int .u32) col_3 w_2 a_5 cap_6 a_4 ∧ f 0 = (.slice a_5 a_4.length cap_6) ∧ f 1000000 = (enc [])) N ⟨(col0 col), a0, cap0, p0_a, N, rfl, hm, hst, h0, rfl, rfl⟩ ?_
 clear hm; intro n f w_2 hI
 obtain ⟨col_3, a_5, cap_6, a_4, n_1, hn, hm, hst, h_7, hs0, hs1000000⟩ := hI
 subst hn
 refine .lD 0 hs0 ?_
 refine .lD 1000000 hs1000000 ?_
 clear hs0 hs1000000
 cases n_1 with
 | zero => rw [m_nat_trim_L1.eq_1] at hm; cases hm
 | succ n_1 =>
  rw [m_nat_trim_L1.eq_2] at hm
  refine wS (wS ?_)
  refine Wp.cut (fun f w_14 => ∃ (col_15 : Col) (v_16 : Bool), m_nat_trim_J1 a_4 (m_nat_trim_L1 N n_1) v_16 = some r ∧ St w0 (col0 col) col_15 w_14 ∧ Sl (Rep.int .u32) col_15 w_14 a_5 cap_6 a_4 ∧ f 0 = (.slice a_5 a_4.length cap_6) ∧ f 14 = (.bool v_16) ∧ f 1000000 = (enc [])) ?_ ?_
  ·intro f w_14 hJ
   obtain ⟨col_15, v_16, hm, hst, h_7, hs0, hs14, hs1000000⟩ := hJ
   rw [m_nat_trim_J1.eq_1] at hm
   refine .lD 0 hs0 ?_
   refine .lD 14 hs14 ?_
   refine .lD 1000000 hs1000000 ?_
   clear hs0 hs14 hs1000000
   refine wcond (v_16) rfl (fun hb => ?_) (fun hb => ?_)
   ·rw [if_pos hb] at hm
    clear hb
    refine wK (wB (wR ?_))
    refine lM (.slice a_5 a_4.length cap_6) ?_
    refine lM (.slice a_5 a_4.length cap_6) ?_
    refine lV (.int .i64 (a_4.length : Int)) (r_len Tryz.underlying36 rfl) ?_
    refine lV (.int .i64 (IntKind.i64.wrap ((a_4.length : Int) - 1))) (r_sub (a_4.length : Int) 1 rfl rfl) ?_
    obtain ⟨hb_17, hm⟩ := cS hm
    refine lv (v := .slice a_5 (Int.toNat (IntKind.i64.wrap ((a_4.length : Int) - 1))) cap_6) rfl rfl (r_sliceH Tryz.underlying36 Tryz.sizeOf114 rfl rfl hb_17.1 (by have := h_7.1.2; have := hb_17.2; omega)) ?_
    refine .ld (d := 19) (v := (.slice a_5 ((a_4.take (Int.toNat (IntKind.i64.wrap ((a_4.length : Int) - 1)))).length) cap_6)) (congrArg (fun n => Value.slice a_5 n cap_6) (List.length_take_of_le (show (Int.toNat (IntKind.i64.wrap ((a_4.length : Int) - 1))) ≤ a_4.length by have := hb_17.2; omega)).symm) ?_
    refine lA (.slice a_5 ((a_4.take (Int.toNat (IntKind.i64.wrap ((a_4.length : Int) - 1)))).length) cap_6) ?_
    refine lN ?_
    exact ⟨n_1, by omega, ⟨col_15, a_5, cap_6, (a_4.take (Int.toNat (IntKind.i64.wrap ((a_4.length : Int) - 1)))), n_1, rfl, hm, hst, (h_7.take (Int.toNat (IntKind.i64.wrap ((a_4.length : Int) - 1)))), rfl, rfl⟩⟩
   rw [if_neg (by rw [hb]; decide)] at hm
   clear hb
   refine wexit (inB_hit ?_)
   refine wS (wR ?_)
   refine lM (.slice a_5 a_4.length cap_6) ?_
   refine lA (.slice a_5 a_4.length cap_6) ?_
   refine lN ?_
   refine wret ?_
   cases hm
   exact ⟨rfl, colF w0.heap.size col col_15 (fun n => 0), a_5, cap_6, rfl, hst.fin (fun n => 0), hst.finSl (g := (fun n => 0)) rfl h_7⟩
  refine wR ?_
  refine lM (.slice a_5 a_4.length cap_6) ?_
  refine lV (.int .i64 (a_4.length : Int)) (r_len Tryz.underlying36 rfl) ?_
  refine lV (.bool (decide (0 < (a_4.length : Int)))) (r_gtr (a_4.length : Int) 0 rfl rfl) ?_
  refine lM (.bool (decide (0 < (a_4.length : Int)))) ?_
  by_cases hg_18 : (decide (0 < (a_4.length : Int))) = true
  ·rw [if_pos hg_18] at hm
   refine lg (b := decide (0 < (a_4.length : Int))) 6 rfl rfl rfl (by rw [hg_18]; rfl) ?_
   refine lM (.slice a_5 a_4.length cap_6) ?_
   refine lg (b := decide (0 < (a_4.length : Int))) 6 rfl rfl rfl (by rw [hg_18]; rfl) ?_
   refine lM (.slice a_5 a_4.length cap_6) ?_
   refine lg (b := decide (0 < (a_4.length : Int))) 6 rfl rfl rfl (by rw [hg_18]; rfl) ?_
   refine lV (.int .i64 (a_4.length : Int)) (r_len Tryz.underlying36 rfl) ?_
   refine lg (b := decide (0 < (a_4.length : Int))) 6 rfl rfl rfl (by rw [hg_18]; rfl) ?_
   refine lV (.int .i64 (IntKind.i64.wrap ((a_4.length : Int) - 1))) (r_sub (a_4.length : Int) 1 rfl rfl) ?_
   refine lg (b := decide (0 < (a_4.length : Int))) 6 rfl rfl rfl (by rw [hg_18]; rfl) ?_
   obtain ⟨e_19, hj_20, hm⟩ := bS hm
   refine lV (sptr a_5 (Int.toNat (IntKind.i64.wrap ((a_4.length : Int) - 1)) * 1)) (r_idx Tryz.underlying36 Tryz.sizeOf114 rfl rfl (at?_some hj_20).1 (at?_some hj_20).2.1 (h_7.addr hj_20)) ?_
   refine lg (b := decide (0 < (a_4.length : Int))) 6 rfl rfl rfl (by rw [hg_18]; rfl) ?_
   refine lV (.int .u32 e_19) (r_ld Tryz.isAgg114 rfl (h_7.atInt hj_20)) ?_
   refine lg (b := decide (0 < (a_4.length : Int))) 6 rfl rfl rfl (by rw [hg_18]; rfl) ?_
   refine lV (.bool (decide (e_19 = 0))) (r_eql e_19 0 rfl rfl) ?_
   refine lV (.bool (decide (e_19 = 0))) (r_pickT (congrArg Value.bool hg_18) rfl) ?_
   refine lN ?_
   exact ⟨col_3, (decide (e_19 = 0)), hm, hst, h_7, rfl, rfl, rfl⟩
  rw [if_neg hg_18] at hm
  replace hg_18 := Bool.eq_false_iff.2 hg_18
  refine lp (b := decide (0 < (a_4.length : Int))) 6 rfl rfl rfl rfl (by rw [hg_18]; rfl) ?_
  refine lp (b := decide (0 < (a_4.length : Int))) 6 rfl rfl rfl rfl (by rw [hg_18]; rfl) ?_
  refine lp (b := decide (0 < (a_4.length : Int))) 6 rfl rfl rfl rfl (by rw [hg_18]; rfl) ?_
  refine lp (b := decide (0 < (a_4.length : Int))) 6 rfl rfl rfl rfl (by rw [hg_18]; rfl) ?_
  refine lp (b := decide (0 < (a_4.length : Int))) 6 rfl rfl rfl rfl (by rw [hg_18]; rfl) ?_
  refine lp (b := decide (0 < (a_4.length : Int))) 6 rfl rfl rfl rfl (by rw [hg_18]; rfl) ?_
  refine lp (b := decide (0 < (a_4.length : Int))) 6 rfl rfl rfl rfl (by rw [hg_18]; rfl) ?_
  refine lV (.bool false) (r_pickF (congrArg Value.bool hg_18) rfl) ?_
  refine lN ?_
  exact ⟨col_3, false, hm, hst, h_7, rfl, rfl, rfl⟩
theorem el114_130 : ElemOk Tryz.prog 114 1 4 := ⟨Tryz.t114, _, rfl, rfl, rfl, rfl, rfl⟩
def m_slices_Clone_api_Nat_uint32 (p0_s : (List Int)) : Option (List Int) :=
  chk ((([] : List Int).length + p0_s.length) * 4 ≤ 140737488355328 ∧ ([] : List Int).length + p0_s.length ≤ maxLen) (some (([] : List Int) ++ p0_s))
theorem c_slices_Clone_api_Nat_uint32 (c1 : Nat) (col : Col) (w0 : World) (a0 : Option Addr) (cap0 : Nat) (p0_s : (List Int)) (h0 : Sl (Rep.int .u32) col w0 a0 cap0 p0_s) (r : (List Int)) (hm : m_slices_Clone_api_Nat_uint32 p0_s = some r) :
    Calls Tryz.prog 130 #[(.slice a0 p0_s.length cap0)] w0 (fun e w' => ∃ (col' : Col) (ra1 : Option Addr) (rc2 : Nat), e = .returned ((.slice ra1 r.length rc2)) ∧ Grow col w0 col' w' ∧ Own (Rep.int .u32) 114 c1 col' w' ra1 rc2 r) := by
 refine calls_of1 2 (m := 8) (args := [(.slice a0 p0_s.length cap0)]) Tryz.func130 rfl rfl rfl rfl rfl ?_
 rw [m_slices_Clone_api_Nat_uint32.eq_1] at hm
 have hst := St.start col w0
 refine wS (wR ?_)
 refine lA (.slice none (([] : List Int).length) 0) ?_
 refine lN (wS (wS (wR ?_)))
 refine lM (.slice a0 p0_s.length cap0) ?_
 replace h0 := h0.keep (Stay.start col w0)
 rcases nil_or h0 with hn_1 | hn_1
 ·replace hm : some ([] : List Int) = some r := by have h0 := hn_1.2; subst h0; simpa [chk, maxLen] using hm
  refine lv (v := .bool a0.isNone) rfl rfl (r_eqlNil Tryz.underlying36 rfl) ?_
  refine .ld (d := 4) (v := .bool true) (congrArg Value.bool hn_1.1) ?_
  refine lN ?_
  refine wcondT rfl ?_
  refine wS (wR ?_)
  refine lA (.slice none (([] : List Int).length) 0) ?_
  refine lN ?_
  refine wret ?_
  cases hm
  exact ⟨rfl, colF w0.heap.size col (col0 col) (fun n => 0), none, 0, rfl, hst.fin (fun n => 0), Own.nil⟩
 refine lv (v := .bool a0.isNone) rfl rfl (r_eqlNil Tryz.underlying36 rfl) ?_
 refine .ld (d := 4) (v := .bool false) (congrArg Value.bool hn_1) ?_
 refine lN ?_
 refine wcondF rfl ?_
 refine wK (wS (wR ?_))
 refine l_lit0 (col := (col0 col)) (r := (Rep.int .u32)) 1 rfl Tryz.underlying36 el114_130 rfl ?_
 intro a_2 w_3 col_4 hg_5 h_6
 refine lM (.slice a0 p0_s.length cap0) ?_
 obtain ⟨hb_7, hm⟩ := cS hm
 replace h0 := h0.gr hg_5
 refine l_appendM (col := col_4) (w := w_3) (r := (Rep.int .u32)) (c := 1) (c2 := 1) (xs := ([] : List Int)) (ys := p0_s) h_6 h0.srcC rfl Tryz.underlying36 el114_130 rfl rfl rfl hb_7.1 hb_7.2 (by decide) ?_
 intro a_8 cap_9 w_10 col_11 hk_12 h_13
 clear h_6
 refine lA (.slice a_8 ((([] : List Int) ++ p0_s).length) cap_9) ?_
 refine lN ?_
 refine wret ?_
 cases hm
 replace hst := (hst.grow hg_5).kpp hk_12
 exact ⟨rfl, colF w0.heap.size col col_11 (fun n => bif Nat.beq n 1 then c1 else 0), a_8, cap_9, rfl, hst.fin (fun n => bif Nat.beq n 1 then c1 else 0), hst.finOwn (g := (fun n => bif Nat.beq n 1 then c1 else 0)) rfl h_13 (by decide) (by decide) rfl⟩
def m_nat_own (N : Nat) (p0_a : (List Int)) : Option (List Int) :=
  (m_nat_trim N p0_a).bind fun r_1 => if (decide ((r_1.length : Int) = 0)) = true then (some ([] : List Int)) else ((m_slices_Clone_api_Nat_uint32 r_1).bind fun r_9 => some r_9)
theorem c_nat_own (N : Nat) (c1 : Nat) (col : Col) (w0 : World) (a0 : Option Addr) (cap0 : Nat) (p0_a : (List Int)) (h0 : Sl (Rep.int .u32) col w0 a0 cap0 p0_a) (r : (List Int)) (hm : m_nat_own N p0_a = some r) :
    Calls Tryz.prog 89 #[(.slice a0 p0_a.length cap0)] w0 (fun e w' => ∃ (col' : Col) (ra1 : Option Addr) (rc2 : Nat), e = .returned ((.slice ra1 r.length rc2)) ∧ Grow col w0 col' w' ∧ Own (Rep.int .u32) 114 c1 col' w' ra1 rc2 r) := by
 refine calls_of1 2 (m := 10) (args := [(.slice a0 p0_a.length cap0)]) Tryz.func89 rfl rfl rfl rfl rfl ?_
 rw [m_nat_own.eq_1] at hm
 have hst := St.start col w0
 refine wS (wR ?_)
 refine lA (.slice none (([] : List Int).length) 0) ?_
 refine lN (wS (wR ?_))
 refine lM (.slice a0 p0_a.length cap0) ?_
 obtain ⟨r_1, hr_2, hm⟩ := bS hm
 replace h0 := h0.keep (Stay.start col w0)
 refine lc rfl rfl (r_call1 Tryz.call88 rfl) (c_nat_trim N (col0 col) _ a0 cap0 p0_a h0 r_1 hr_2) ?_
 rintro _ w_6 ⟨col_8, ra_3, rc_4, rfl, hg_7, rh_5⟩
 refine ⟨_, rfl, ?_⟩
 refine lA (.slice ra_3 r_1.length rc_4) ?_
 refine lN (wS (wS (wR ?_)))
 refine lM (.slice ra_3 r_1.length rc_4) ?_
 refine lV (.int .i64 (r_1.length : Int)) (r_len Tryz.underlying36 rfl) ?_
 refine lV (.bool (decide ((r_1.length : Int) = 0))) (r_eql (r_1.length : Int) 0 rfl rfl) ?_
 refine lN ?_
 replace hst := hst.grow hg_7
 refine wcond (decide ((r_1.length : Int) = 0)) rfl (fun hb => ?_) (fun hb => ?_)
 ·rw [if_pos hb] at hm
  clear hb
  refine wS (wR ?_)
  refine lA (.slice none (([] : List Int).length) 0) ?_
  refine lN ?_
  refine wret ?_
  cases hm
  exact ⟨rfl, colF w0.heap.size col col_8 (fun n => 0), none, 0, rfl, hst.fin (fun n => 0), Own.nil⟩
 rw [if_neg (by rw [hb]; decide)] at hm
 clear hb
 refine wK (wS (wR ?_))
 refine lM (.slice ra_3 r_1.length rc_4) ?_
 obtain ⟨r_9, hr_10, hm⟩ := bS hm
 refine lc rfl rfl (r_call1 Tryz.call130 rfl) (c_slices_Clone_api_Nat_uint32 1 col_8 _ ra_3 rc_4 r_1 rh_5 r_9 hr_10) ?_
 rintro _ w_14 ⟨col_16, ra_11, rc_12, rfl, hg_15, rh_13⟩
 refine ⟨_, rfl, ?_⟩
 refine lA (.slice ra_11 r_9.length rc_12) ?_
 refine lN ?_
 refine wret ?_
 cases hm
 replace hst := hst.grow hg_15
 exact ⟨rfl, colF w0.heap.size col col_16 (fun n => bif Nat.beq n 1 then c1 else 0), ra_11, rc_12, rfl, hst.fin (fun n => bif Nat.beq n 1 then c1 else 0), hst.finOwn (g := (fun n => bif Nat.beq n 1 then c1 else 0)) rfl rh_13 (by decide) (by decide) rfl⟩
def m_nat_Norm (N : Nat) (p0_a : (List Int)) : Option (List Int) :=
  (m_nat_own N p0_a).bind fun r_1 => some r_1
theorem c_nat_Norm (N : Nat) (c1 : Nat) (col : Col) (w0 : World) (a0 : Option Addr) (cap0 : Nat) (p0_a : (List Int)) (h0 : Sl (Rep.int .u32) col w0 a0 cap0 p0_a) (r : (List Int)) (hm : m_nat_Norm N p0_a = some r) :
    Calls Tryz.prog 106 #[(.slice a0 p0_a.length cap0)] w0 (fun e w' => ∃ (col' : Col) (ra1 : Option Addr) (rc2 : Nat), e = .returned ((.slice ra1 r.length rc2)) ∧ Grow col w0 col' w' ∧ Own (Rep.int .u32) 114 c1 col' w' ra1 rc2 r) := by
 refine calls_of1 2 (m := 5) (args := [(.slice a0 p0_a.length cap0)]) Tryz.func106 rfl rfl rfl rfl rfl ?_
 rw [m_nat_Norm.eq_1] at hm
 have hst := St.start col w0
 refine wS (wR ?_)
 refine lA (.slice none (([] : List Int).length) 0) ?_
 refine lN (wS (wR ?_))
 refine lM (.slice a0 p0_a.length cap0) ?_
 obtain ⟨r_1, hr_2, hm⟩ := bS hm
 replace h0 := h0.keep (Stay.start col w0)
 refine lc rfl rfl (r_call1 Tryz.call89 rfl) (c_nat_own N 1 (col0 col) _ a0 cap0 p0_a h0 r_1 hr_2) ?_
 rintro _ w_6 ⟨col_8, ra_3, rc_4, rfl, hg_7, rh_5⟩
 refine ⟨_, rfl, ?_⟩
 refine lA (.slice ra_3 r_1.length rc_4) ?_
 refine lN ?_
 refine wret ?_
 cases hm
 replace hst := hst.grow hg_7
 exact ⟨rfl, colF w0.heap.size col col_8 (fun n => bif Nat.beq n 1 then c1 else 0), ra_3, rc_4, rfl, hst.fin (fun n => bif Nat.beq n 1 then c1 else 0), hst.finOwn (g := (fun n => bif Nat.beq n 1 then c1 else 0)) rfl rh_5 (by decide) (by decide) rfl⟩
def m_model_fitting_J1 (x_13 : Bool) (x_14 : List Int) (x_18 : List Int) : Option ((Bool × (List Int)) × (List Int)) :=
  some ((x_13, x_14), x_18)
def m_model_fitting (N : Nat) (p0_x : ((Bool × (List Int)) × (List Int))) : Option ((Bool × (List Int)) × (List Int)) :=
  (m_nat_Norm N p0_x.2).bind fun r_26 => if (decide ((r_26.length : Int) = 0)) = true then none else (m_model_fitting_J1 p0_x.1.1 p0_x.1.2 p0_x.2)
theorem c_model_fitting (N : Nat) (col : Col) (w0 : World) (a0_0 : Option Addr) (cap0_0 : Nat) (a0_2 : Option Addr) (cap0_2 : Nat) (p0_x : ((Bool × (List Int)) × (List Int))) (h0_0 : Sl (Rep.int .u32) col w0 a0_0 cap0_0 p0_x.1.2) (h0_2 : Sl (Rep.int .u32) col w0 a0_2 cap0_2 p0_x.2) (r : ((Bool × (List Int)) × (List Int))) (hm : m_model_fitting N p0_x = some r) :
    Calls Tryz.prog 142 #[(.agg #[(.bool p0_x.1.1), (.slice a0_0 p0_x.1.2.length cap0_0), (.slice a0_2 p0_x.2.length cap0_2)])] w0 (fun e w' => ∃ (col' : Col) (ra1 : Option Addr) (rc2 : Nat) (ra4 : Option Addr) (rc5 : Nat), e = .returned ((.agg #[(.bool r.1.1), (.slice ra1 r.1.2.length rc2), (.slice ra4 r.2.length rc5)])) ∧ Grow col w0 col' w' ∧ Sl (Rep.int .u32) col' w' ra1 rc2 r.1.2 ∧ Sl (Rep.int .u32) col' w' ra4 rc5 r.2) := by
 refine calls_ofR (m := 11) (args := [(.agg #[(.bool p0_x.1.1), (.slice a0_0 p0_x.1.2.length cap0_0), (.slice a0_2 p0_x.2.length cap0_2)])]) Tryz.func142 rfl rfl rfl ?_
 rw [m_model_fitting.eq_1] at hm
 have hst := St.start col w0
 refine wS (wR ?_)
 refine l_box (col := (col0 col)) (v := (.agg #[(.bool p0_x.1.1), (.slice a0_0 p0_x.1.2.length cap0_0), (.slice a0_2 p0_x.2.length cap0_2)])) 1 rfl rfl ?_
 intro g_1 w_2 col_3 hg_4 hb_5
 replace hb_5 : Box 40 1 col_3 w_2 g_1 #[(.bool p0_x.1.1), (.slice a0_0 p0_x.1.2.length cap0_0), (.slice a0_2 p0_x.2.length cap0_2)] := hb_5
 refine l_alloc (col := col_3) (v := (.agg #[(.bool false), (.slice none (([] : List Int).length) 0), (.slice none (([] : List Int).length) 0)])) 2 rfl Tryz.zeroValue40 ?_
 intro g_6 w_7 col_8 hg_9 hb_10
 replace hb_10 : Box 40 2 col_8 w_7 g_6 #[(.bool false), (.slice none (([] : List Int).length) 0), (.slice none (([] : List Int).length) 0)] := hb_10
 refine lN (wS ?_)
 replace h0_0 := ((h0_0.keep (Stay.start col w0)).gr hg_4).gr hg_9
 replace h0_2 := ((h0_2.keep (Stay.start col w0)).gr hg_4).gr hg_9
 replace hst := (hst.grow hg_4).grow hg_9
 replace hb_5 := hb_5.gr hg_9
 refine Wp.cut (fun f w_11 => ∃ (col_12 : Col) (x_13 : Bool) (a_15 : Option Addr) (cap_16 : Nat) (x_14 : List Int) (a_19 : Option Addr) (cap_20 : Nat) (x_18 : List Int), m_model_fitting_J1 x_13 x_14 x_18 = some r ∧ St w0 (col0 col) col_12 w_11 ∧ Sl (Rep.int .u32) col_12 w_11 a_15 cap_16 x_14 ∧ Sl (Rep.int .u32) col_12 w_11 a_19 cap_20 x_18 ∧ Box 40 1 col_12 w_11 g_1 #[(.bool x_13), (.slice a_15 x_14.length cap_16), (.slice a_19 x_18.length cap_20)] ∧ Box 40 2 col_12 w_11 g_6 #[(.bool false), (.slice none (([] : List Int).length) 0), (.slice none (([] : List Int).length) 0)] ∧ f 1 = (.pointer (some ⟨g_1, 0, none⟩)) ∧ f 2 = (.pointer (some ⟨g_6, 0, none⟩)) ∧ f 1000000 = (enc [])) ?_ ?_
 ·intro f w_11 hJ
  obtain ⟨col_12, x_13, a_15, cap_16, x_14, a_19, cap_20, x_18, hm, hst, h_17, h_21, hb_5, hb_10, hs1, hs2, hs1000000⟩ := hJ
  rw [m_model_fitting_J1.eq_1] at hm
  refine .lD 1 hs1 ?_
  refine .lD 2 hs2 ?_
  refine .lD 1000000 hs1000000 ?_
  clear hs1 hs2 hs1000000
  refine wS (wR ?_)
  refine lV (.agg #[(.bool x_13), (.slice a_15 x_14.length cap_16), (.slice a_19 x_18.length cap_20)]) (r_ldN Tryz.isAgg40 Tryz.sizeOf40 rfl rfl hb_5.atN) ?_
  refine l_bstore (v := (.agg #[(.bool x_13), (.slice a_15 x_14.length cap_16), (.slice a_19 x_18.length cap_20)])) hb_10 Tryz.sizeOf40 rfl rfl (by intro u hu; simp only [Value.cells, List.mem_cons, List.not_mem_nil, or_false] at hu; rcases hu with rfl | rfl | rfl <;> rfl) rfl rfl ?_
  intro w_22 hk_23 hs_24 hb_25
  clear hb_10
  replace hb_25 : Box 40 2 col_12 w_22 g_6 #[(.bool x_13), (.slice a_15 x_14.length cap_16), (.slice a_19 x_18.length cap_20)] := hb_25
  refine lN ?_
  refine wret ?_
  cases hm
  replace h_17 := h_17.kp hk_23
  replace h_21 := h_21.kp hk_23
  replace hst := hst.kp hk_23 hs_24
  exact ⟨rfl, _, res_a rfl rfl Tryz.isAgg40 Tryz.sizeOf40 rfl rfl hb_25.atN, colF w0.heap.size col col_12 (fun n => 0), a_15, cap_16, a_19, cap_20, rfl, hst.fin (fun n => 0), hst.finSl (g := (fun n => 0)) rfl h_17, hst.finSl (g := (fun n => 0)) rfl h_21⟩
 refine wS (wR ?_)
 refine lV (.pointer ((some (⟨g_1, 0, none⟩ : Addr)).map (·.add 2))) (rF (sz := 1) (off := 2) Tryz.underlying40 rfl Tryz.sizeOf36 (by decide) rfl rfl ⟨_, _, rfl⟩) ?_
 refine lV (.slice a0_2 p0_x.2.length cap0_2) (r_ld Tryz.isAgg36 rfl ((hb_5.atN).nth (q := 2) (v := (.slice a0_2 p0_x.2.length cap0_2)) rfl)) ?_
 obtain ⟨r_26, hr_27, hm⟩ := bS hm
 refine lc rfl rfl (r_call1 Tryz.call106 rfl) (c_nat_Norm N 3 col_8 _ a0_2 cap0_2 p0_x.2 h0_2 r_26 hr_27) ?_
 rintro _ w_31 ⟨col_33, ra_28, rc_29, rfl, hg_32, rh_30⟩
 refine ⟨_, rfl, ?_⟩
 refine lV (.int .i64 (r_26.length : Int)) (r_len Tryz.underlying36 rfl) ?_
 refine lV (.bool (decide ((r_26.length : Int) = 0))) (r_eql (r_26.length : Int) 0 rfl rfl) ?_
 refine lN ?_
 replace h0_0 := h0_0.gr hg_32
 replace h0_2 := h0_2.gr hg_32
 replace hb_5 := hb_5.gr hg_32
 replace hb_10 := hb_10.gr hg_32
 replace hst := hst.grow hg_32
 refine wcond (decide ((r_26.length : Int) = 0)) rfl (fun hb => ?_) (fun hb => ?_)
 ·rw [if_pos hb] at hm
  clear hb
  cases hm
 rw [if_neg (by rw [hb]; decide)] at hm
 clear hb
 refine wK ?_
 exact ⟨col_33, p0_x.1.1, a0_0, cap0_0, p0_x.1.2, a0_2, cap0_2, p0_x.2, hm, hst, h0_0, h0_2, hb_5, hb_10, rfl, rfl, rfl⟩
theorem el40_118 : ElemOk Tryz.prog 40 3 56 := ⟨Tryz.t40, _, rfl, rfl, rfl, rfl, rfl⟩
def m_model_fittings_L1 (N : Nat) : List ((Bool × (List Int)) × (List Int)) → (List ((Bool × (List Int)) × (List Int))) → Option (List ((Bool × (List Int)) × (List Int)))
  | [], out_11 => some out_11
  | x_15 :: l_16, out_11 => (m_model_fitting N ((x_15.1.1, x_15.1.2), x_15.2)).bind fun r_38 => chk ((out_11.length + [((r_38.1.1, r_38.1.2), r_38.2)].length) * 56 ≤ 140737488355328 ∧ out_11.length + [((r_38.1.1, r_38.1.2), r_38.2)].length ≤ maxLen) ((m_model_fittings_L1 N l_16) (out_11 ++ [((r_38.1.1, r_38.1.2), r_38.2)]))
termination_by structural x => x
def m_model_fittings (N : Nat) (p0_l : (List ((Bool × (List Int)) × (List Int)))) : Option (List ((Bool × (List Int)) × (List Int))) :=
  chk (p0_l.length * 56 ≤ 281474976710656 ∧ p0_l.length ≤ maxLen) (m_model_fittings_L1 N p0_l ([] : List ((Bool × (List Int)) × (List Int))))
theorem c_model_fittings (N : Nat) (c1 : Nat) (col : Col) (w0 : World) (a0 : Option Addr) (cap0 : Nat) (p0_l : (List ((Bool × (List Int)) × (List Int)))) (h0 : Sl (Rep.pair (Rep.pair Rep.bool (Rep.slice (Rep.int .u32))) (Rep.slice (Rep.int .u32))) col w0 a0 cap0 p0_l) (r : (List ((Bool × (List Int)) × (List Int)))) (hm : m_model_fittings N p0_l = some r) :
    Calls Tryz.prog 118 #[(.slice a0 p0_l.length cap0)] w0 (fun e w' => ∃ (col' : Col) (ra1 : Option Addr) (rc2 : Nat), e = .returned ((.slice ra1 r.length rc2)) ∧ Grow col w0 col' w' ∧ Own (Rep.pair (Rep.pair Rep.bool (Rep.slice (Rep.int .u32))) (Rep.slice (Rep.int .u32))) 40 c1 col' w' ra1 rc2 r) := by
 refine calls_of1 2 (m := 22) (args := [(.slice a0 p0_l.length cap0)]) Tryz.func118 rfl rfl rfl rfl rfl ?_
 rw [m_model_fittings.eq_1] at hm
 have hst := St.start col w0
 refine wS (wR ?_)
 refine lA (.slice none (([] : List ((Bool × (List Int)) × (List Int))).length) 0) ?_
 refine lN (wS (wR ?_))
 refine lM (.slice a0 p0_l.length cap0) ?_
 refine lV (.int .i64 (p0_l.length : Int)) (r_len Tryz.underlying51 rfl) ?_
 obtain ⟨hb_1, hm⟩ := cS hm
 refine l_make0 (col := (col0 col)) (w := w0) (r := (Rep.pair (Rep.pair Rep.bool (Rep.slice (Rep.int .u32))) (Rep.slice (Rep.int .u32)))) (n := p0_l.length) 1 rfl Tryz.underlying51 el40_118 rfl rfl rfl hb_1.1 hb_1.2 ?_
 intro a_2 w_3 col_4 hg_5 h_6
 refine lA (.slice a_2 (([] : List ((Bool × (List Int)) × (List Int))).length) p0_l.length) ?_
 refine lN (wS (wS (wR ?_)))
 refine lM (.slice a0 p0_l.length cap0) ?_
 refine lV (.int .i64 (p0_l.length : Int)) (r_len Tryz.underlying51 rfl) ?_
 refine lM (.int .i64 0) ?_
 refine lN (wB ?_)
 replace h0 := (h0.keep (Stay.start col w0)).gr hg_5
 replace hst := hst.grow hg_5
 refine wloop (fun n f w_9 => ∃ (col_10 : Col) (k_7 : Nat) (a_12 : Option Addr) (cap_13 : Nat) (out_11 : List ((Bool × (List Int)) × (List Int))) (l_8 : List ((Bool × (List Int)) × (List Int))), n = l_8.length ∧ p0_l.drop k_7 = l_8 ∧ m_model_fittings_L1 N l_8 out_11 = some r ∧ St w0 (col0 col) col_10 w_9 ∧ Own (Rep.pair (Rep.pair Rep.bool (Rep.slice (Rep.int .u32))) (Rep.slice (Rep.int .u32))) 40 1 col_10 w_9 a_12 cap_13 out_11 ∧ Sl (Rep.pair (Rep.pair Rep.bool (Rep.slice (Rep.int .u32))) (Rep.slice (Rep.int .u32))) col_10 w_9 a0 cap0 p0_l ∧ f 11 = (.int .i64 (k_7 : Int)) ∧ f 10 = (.int .i64 (p0_l.length : Int)) ∧ f 3 = (.slice a_12 out_11.length cap_13) ∧ f 9 = (.slice a0 p0_l.length cap0) ∧ f 1000000 = (enc [])) p0_l.length ⟨col_4, 0, a_2, p0_l.length, ([] : List ((Bool × (List Int)) × (List Int))), p0_l, rfl, rfl, hm, hst, h_6, h0, rfl, rfl, rfl, rfl, rfl⟩ ?_
 clear hm; intro n f w_9 hI
 obtain ⟨col_10, k_7, a_12, cap_13, out_11, l_8, hn, hl, hm, hst, h_14, h0, hs11, hs10, hs3, hs9, hs1000000⟩ := hI
 subst hn
 refine .lD 11 hs11 ?_
 refine .lD 10 hs10 ?_
 refine .lD 3 hs3 ?_
 refine .lD 9 hs9 ?_
 refine .lD 1000000 hs1000000 ?_
 clear hs11 hs10 hs3 hs9 hs1000000
 cases l_8 with
 | nil =>
  have hk : ¬ ((k_7 : Int) < (p0_l.length : Int)) := by have := List.drop_eq_nil_iff.1 hl; omega
  have hkb := decide_eq_false hk
  rw [m_model_fittings_L1.eq_1] at hm
  refine wS (wR ?_)
  refine lV (.bool (decide ((k_7 : Int) < (p0_l.length : Int)))) (r_lss (k_7 : Int) (p0_l.length : Int) rfl rfl) ?_
  refine lN (wS ?_)
  refine wcondF (congrArg Value.bool hkb) ?_
  refine wexit (inB_hit ?_)
  refine wS (wR ?_)
  refine lM (.slice a_12 out_11.length cap_13) ?_
  refine lA (.slice a_12 out_11.length cap_13) ?_
  refine lN ?_
  refine wret ?_
  cases hm
  exact ⟨rfl, colF w0.heap.size col col_10 (fun n => bif Nat.beq n 1 then c1 else 0), a_12, cap_13, rfl, hst.fin (fun n => bif Nat.beq n 1 then c1 else 0), hst.finOwn (g := (fun n => bif Nat.beq n 1 then c1 else 0)) rfl h_14 (by decide) (by decide) rfl⟩
 | cons x_15 l_16 =>
  obtain ⟨hat, hl2_L1, hlt_L1⟩ := drop_get hl
  have hk : (k_7 : Int) < (p0_l.length : Int) := by omega
  have hkb := decide_eq_true hk
  rw [m_model_fittings_L1.eq_2] at hm
  refine wS (wR ?_)
  refine lV (.bool (decide ((k_7 : Int) < (p0_l.length : Int)))) (r_lss (k_7 : Int) (p0_l.length : Int) rfl rfl) ?_
  refine lN (wS ?_)
  refine wcondT (congrArg Value.bool hkb) ?_
  refine wK (wS (wB (wS (wR ?_))))
  refine lV (sptr a0 (Int.toNat (k_7 : Int) * 3)) (r_idx Tryz.underlying51 Tryz.sizeOf40 rfl rfl (at?_some hat).1 (at?_some hat).2.1 (h0.addr hat)) ?_
  obtain ⟨_, hr_17, hA_18⟩ := h0.atN hat
  obtain ⟨_, _, rfl, hp_19, hp_20⟩ := rd_pair hr_17
  obtain ⟨_, _, rfl, hp_21, hp_22⟩ := rd_pair hp_19
  obtain ⟨rfl, _⟩ := hp_21
  obtain ⟨⟨a_23, cap_24, rfl, h_25⟩, _⟩ := hp_22
  obtain ⟨⟨a_26, cap_27, rfl, h_28⟩, _⟩ := hp_20
  refine lV (.agg #[(.bool x_15.1.1), (.slice a_23 x_15.1.2.length cap_24), (.slice a_26 x_15.2.length cap_27)]) (r_ldN Tryz.isAgg40 Tryz.sizeOf40 rfl rfl hA_18) ?_
  refine l_alloc (col := col_10) (v := (.agg #[(.bool false), (.slice none (([] : List Int).length) 0), (.slice none (([] : List Int).length) 0)])) 2 rfl Tryz.zeroValue40 ?_
  intro g_29 w_30 col_31 hg_32 hb_33
  replace hb_33 : Box 40 2 col_31 w_30 g_29 #[(.bool false), (.slice none (([] : List Int).length) 0), (.slice none (([] : List Int).length) 0)] := hb_33
  refine l_bstore (v := (.agg #[(.bool x_15.1.1), (.slice a_23 x_15.1.2.length cap_24), (.slice a_26 x_15.2.length cap_27)])) hb_33 Tryz.sizeOf40 rfl rfl (by intro u hu; simp only [Value.cells, List.mem_cons, List.not_mem_nil, or_false] at hu; rcases hu with rfl | rfl | rfl <;> rfl) rfl rfl ?_
  intro w_34 hk_35 hs_36 hb_37
  clear hb_33
  replace hb_37 : Box 40 2 col_31 w_34 g_29 #[(.bool x_15.1.1), (.slice a_23 x_15.1.2.length cap_24), (.slice a_26 x_15.2.length cap_27)] := hb_37
  refine lN (wR ?_)
  refine lM (.slice a_12 out_11.length cap_13) ?_
  refine lV (.agg #[(.bool x_15.1.1), (.slice a_23 x_15.1.2.length cap_24), (.slice a_26 x_15.2.length cap_27)]) (r_ldN Tryz.isAgg40 Tryz.sizeOf40 rfl rfl hb_37.atN) ?_
  obtain ⟨r_38, hr_39, hm⟩ := bS hm
  replace h_25 := (h_25.gr hg_32).kp hk_35
  replace h_28 := (h_28.gr hg_32).kp hk_35
  refine lc rfl rfl (r_call1 Tryz.call142 rfl) (c_model_fitting N col_31 _ a_23 cap_24 a_26 cap_27 ((x_15.1.1, x_15.1.2), x_15.2) h_25 h_28 r_38 hr_39) ?_
  rintro _ w_46 ⟨col_48, ra_40, rc_41, ra_43, rc_44, rfl, hg_47, rh_42, rh_45⟩
  refine ⟨_, rfl, ?_⟩
  refine l_lit (col := col_48) (r := (Rep.pair (Rep.pair Rep.bool (Rep.slice (Rep.int .u32))) (Rep.slice (Rep.int .u32)))) (xs := [((r_38.1.1, r_38.1.2), r_38.2)]) [(.agg #[(.bool r_38.1.1), (.slice ra_40 r_38.1.2.length rc_41), (.slice ra_43 r_38.2.length rc_44)])] 3 rfl Tryz.underlying51 el40_118 rfl rfl rfl rfl rfl rfl (by intro v hv; simp only [List.mem_cons, List.not_mem_nil, or_false] at hv; subst hv; rfl) (RowsH.ofF (Rows.consF (r := (Rep.pair (Rep.pair Rep.bool (Rep.slice (Rep.int .u32))) (Rep.slice (Rep.int .u32)))) (x := ((r_38.1.1, r_38.1.2), r_38.2)) (cs := [(.bool r_38.1.1), (.slice ra_40 r_38.1.2.length rc_41), (.slice ra_43 r_38.2.length rc_44)]) (rd_pairI (rd_pairI (rd_bool r_38.1.1) (rd_slI rh_42)) (rd_slI rh_45)) Rows.nil0)) ?_
  intro a_49 w_50 col_51 hg_52 h_53
  obtain ⟨hb_54, hm⟩ := cS hm
  replace h_14 := (((h_14.gr hg_32).kp hk_35).gr hg_47).gr hg_52
  refine l_appendM (col := col_51) (w := w_50) (r := (Rep.pair (Rep.pair Rep.bool (Rep.slice (Rep.int .u32))) (Rep.slice (Rep.int .u32)))) (c := 1) (c2 := 1) (xs := out_11) (ys := [((r_38.1.1, r_38.1.2), r_38.2)]) h_14 (h_53.srcN (NB.pair (NB.pair NB.bool NB.slice) NB.slice)) rfl Tryz.underlying51 el40_118 rfl rfl rfl hb_54.1 hb_54.2 (by decide) ?_
  intro a_55 cap_56 w_57 col_58 hk_59 h_60
  clear h_14
  refine lA (.slice a_55 ((out_11 ++ [((r_38.1.1, r_38.1.2), r_38.2)]).length) cap_56) ?_
  refine lN (wR ?_)
  refine lV (.int .i64 (IntKind.i64.wrap ((k_7 : Int) + 1))) (r_add (k_7 : Int) 1 rfl rfl) ?_
  refine lM (.int .i64 (IntKind.i64.wrap ((k_7 : Int) + 1))) ?_
  refine lN ?_
  replace h0 := ((((h0.gr hg_32).kp hk_35).gr hg_47).gr hg_52).kpp hk_59
  replace hst := ((((hst.grow hg_32).kp hk_35 hs_36).grow hg_47).grow hg_52).kpp hk_59
  exact ⟨l_16.length, by simp, ⟨col_58, (k_7 + 1), a_55, cap_56, (out_11 ++ [((r_38.1.1, r_38.1.2), r_38.2)]), l_16, rfl, hl2_L1, hm, hst, h_60, h0, (congrArg (Value.int .i64) (wrap_succ (Nat.lt_of_lt_of_le hlt_L1 h0.1.1))), rfl, rfl, rfl, rfl⟩⟩
def m_slices_Chunk_api_Rat_api_Rat_1_L1 (N : Nat) (v0_v : List ((Bool × (List Int)) × (List Int))) (v1_v : Int) : Nat → Int → Option (List (List ((Bool × (List Int)) × (List Int))))
  | 0, _ => none
  | n_1 + 1, i_4 => if (decide (i_4 < (v0_v.length : Int))) = true then (chk ((0 : Int) ≤ i_4 ∧ i_4 ≤ (v0_v.length : Int)) (chk ((0 : Int) ≤ i_4 ∧ i_4 ≤ (IntKind.i64.wrap (i_4 + (if ((v0_v.drop (Int.toNat i_4)).length : Int) < v1_v then ((v0_v.drop (Int.toNat i_4)).length : Int) else v1_v))) ∧ (IntKind.i64.wrap (i_4 + (if ((v0_v.drop (Int.toNat i_4)).length : Int) < v1_v then ((v0_v.drop (Int.toNat i_4)).length : Int) else v1_v))) ≤ (IntKind.i64.wrap (i_4 + (if ((v0_v.drop (Int.toNat i_4)).length : Int) < v1_v then ((v0_v.drop (Int.toNat i_4)).length : Int) else v1_v))) ∧ (IntKind.i64.wrap (i_4 + (if ((v0_v.drop (Int.toNat i_4)).length : Int) < v1_v then ((v0_v.drop (Int.toNat i_4)).length : Int) else v1_v))) ≤ (v0_v.length : Int)) (((m_slices_Chunk_api_Rat_api_Rat_1_L1 N v0_v v1_v n_1) (IntKind.i64.wrap (i_4 + v1_v))).bind fun r_13 => some ((v0_v.take (Int.toNat (IntKind.i64.wrap (i_4 + (if ((v0_v.drop (Int.toNat i_4)).length : Int) < v1_v then ((v0_v.drop (Int.toNat i_4)).length : Int) else v1_v))))).drop (Int.toNat i_4) :: r_13)))) else (some [])
termination_by structural x => x
def m_slices_Chunk_api_Rat_api_Rat_1 (N : Nat) (v0_v : List ((Bool × (List Int)) × (List Int))) (v1_v : Int) : Option (List (List ((Bool × (List Int)) × (List Int)))) :=
  m_slices_Chunk_api_Rat_api_Rat_1_L1 N v0_v v1_v N 0
theorem c_slices_Chunk_api_Rat_api_Rat_1 (N : Nat) (col : Col) (w0 : World) (g0 : Nat) (af0 : Option Addr) (capf0 : Nat) (v0_v : List ((Bool × (List Int)) × (List Int))) (hf0 : Sl (Rep.pair (Rep.pair Rep.bool (Rep.slice (Rep.int .u32))) (Rep.slice (Rep.int .u32))) col w0 af0 capf0 v0_v) (hb0 : Box 51 450 col w0 g0 #[(.slice af0 v0_v.length capf0)]) (g1 : Nat) (v1_v : Int) (hb1 : Box 3 450 col w0 g1 #[(.int .i64 v1_v)]) (r : List (List ((Bool × (List Int)) × (List Int)))) (hm : m_slices_Chunk_api_Rat_api_Rat_1 N v0_v v1_v = some r) :
    Goes Tryz.prog 175 [(.pointer (some ⟨g0, 0, none⟩)), (.pointer (some ⟨g1, 0, none⟩))] (fun (y : List ((Bool × (List Int)) × (List Int))) (col : Col) (w : World) (args : List Value) => ∃ (a0 : Option Addr) (cap0 : Nat), args = [.slice a0 y.length cap0] ∧ Sl (Rep.pair (Rep.pair Rep.bool (Rep.slice (Rep.int .u32))) (Rep.slice (Rep.int .u32))) col w a0 cap0 y) r col w0 := by
 intro l J X hjs hxs hy hst
 refine calls_of0 (m := 31) (args := [.func (.yield l) #[] #[], (.pointer (some ⟨g0, 0, none⟩)), (.pointer (some ⟨g1, 0, none⟩))]) Tryz.func175 rfl rfl rfl rfl ?_
 rw [m_slices_Chunk_api_Rat_api_Rat_1.eq_1] at hm
 refine wS (wR ?_)
 refine lA (.int .i64 0) ?_
 refine lN (wB ?_)
 refine wloop (fun n f w_2 => ∃ (col_3 : Col) (r : List (List ((Bool × (List Int)) × (List Int)))) (i_4 : Int) (n_1 : Nat), n_1 = n ∧ m_slices_Chunk_api_Rat_api_Rat_1_L1 N v0_v v1_v n_1 i_4 = some r ∧ J r col_3 w_2 ∧ Sl (Rep.pair (Rep.pair Rep.bool (Rep.slice (Rep.int .u32))) (Rep.slice (Rep.int .u32))) col_3 w_2 af0 capf0 v0_v ∧ Box 51 450 col_3 w_2 g0 #[(.slice af0 v0_v.length capf0)] ∧ Box 3 450 col_3 w_2 g1 #[(.int .i64 v1_v)] ∧ f 0 = (.func (.yield l) #[] #[]) ∧ f 1 = (.pointer (some ⟨g0, 0, none⟩)) ∧ f 2 = (.pointer (some ⟨g1, 0, none⟩)) ∧ f 4 = (.int .i64 i_4) ∧ f 1000000 = (enc [])) N ⟨col, r, 0, N, rfl, hm, hst, hf0, hb0, hb1, rfl, rfl, rfl, rfl, rfl⟩ ?_
 clear hm; intro n f w_2 hI
 obtain ⟨col_3, r, i_4, n_1, hn, hm, hst, hf0, hb0, hb1, hs0, hs1, hs2, hs4, hs1000000⟩ := hI
 subst hn
 refine .lD 0 hs0 ?_
 refine .lD 1 hs1 ?_
 refine .lD 2 hs2 ?_
 refine .lD 4 hs4 ?_
 refine .lD 1000000 hs1000000 ?_
 clear hs0 hs1 hs2 hs4 hs1000000
 cases n_1 with
 | zero => rw [m_slices_Chunk_api_Rat_api_Rat_1_L1.eq_1] at hm; cases hm
 | succ n_1 =>
  rw [m_slices_Chunk_api_Rat_api_Rat_1_L1.eq_2] at hm
  refine wS (wS (wR ?_))
  refine lM (.int .i64 i_4) ?_
  refine lV (.slice af0 v0_v.length capf0) (r_ld Tryz.isAgg51 rfl hb0.at1) ?_
  refine lV (.int .i64 (v0_v.length : Int)) (r_len Tryz.underlying51 rfl) ?_
  refine lV (.bool (decide (i_4 < (v0_v.length : Int)))) (r_lss i_4 (v0_v.length : Int) rfl rfl) ?_
  refine lN ?_
  refine wcond (decide (i_4 < (v0_v.length : Int))) rfl (fun hb => ?_) (fun hb => ?_)
  ·rw [if_pos hb] at hm
   clear hb
   refine wK (wS (wB (wS ?_)))
   refine wquiet (col := col_3) (by kernel_rfl) (by kernel_rfl) ?_
   refine qv (v := (.int .i64 v1_v)) rfl (fun _ hC => r_ld Tryz.isAgg3 rfl (hb1.at1.gr (Grow.of_below (col := col_3) hC.below))) ?_
   refine qv (v := (.slice af0 v0_v.length capf0)) rfl (fun _ hC => r_ld Tryz.isAgg51 rfl (hb0.at1.gr (Grow.of_below (col := col_3) hC.below))) ?_
   refine qv (v := (.int .i64 i_4)) rfl (fun _ hC => r_move rfl) ?_
   obtain ⟨hb_5, hm⟩ := cS hm
   have h_8 := hf0.drop (sz := 3) rfl (Int.toNat i_4)
   refine qv (v := .slice (if capf0 = (Int.toNat i_4) then af0 else af0.map (·.add ((Int.toNat i_4) * 3))) (v0_v.length - (Int.toNat i_4)) (capf0 - (Int.toNat i_4))) rfl (fun _ hC => r_sliceL Tryz.underlying51 Tryz.sizeOf40 rfl rfl hb_5.1 hb_5.2) ?_
   generalize (if capf0 = (Int.toNat i_4) then af0 else af0.map (·.add ((Int.toNat i_4) * 3))) = a_6 at *
   refine .ld (d := 16) (v := (.slice a_6 ((v0_v.drop (Int.toNat i_4)).length) (capf0 - (Int.toNat i_4)))) (congrArg (fun n => Value.slice a_6 n (capf0 - (Int.toNat i_4))) (List.length_drop (i := (Int.toNat i_4)) (l := v0_v)).symm) ?_
   refine qv (v := (.int .i64 ((v0_v.drop (Int.toNat i_4)).length : Int))) rfl (fun _ hC => r_len Tryz.underlying51 rfl) ?_
   refine qv (v := (.int .i64 (if ((v0_v.drop (Int.toNat i_4)).length : Int) < v1_v then ((v0_v.drop (Int.toNat i_4)).length : Int) else v1_v))) rfl (fun _ hC => r_min v1_v ((v0_v.drop (Int.toNat i_4)).length : Int) rfl rfl) ?_
   refine qv (v := (.int .i64 (if ((v0_v.drop (Int.toNat i_4)).length : Int) < v1_v then ((v0_v.drop (Int.toNat i_4)).length : Int) else v1_v))) rfl (fun _ hC => r_assign rfl) ?_
   refine qnil ?_
   intro w_9 hC
   replace hC : Grow col_3 w_2 col_3 w_9 := .of_below hC.below
   replace hf0 := hf0.gr hC
   replace hb0 := hb0.gr hC
   replace hb1 := hb1.gr hC
   replace hst := hjs _ _ _ _ _ hst hC.toP
   refine wS (wR ?_)
   refine lM (.func (.yield l) #[] #[]) ?_
   refine lV (.slice af0 v0_v.length capf0) (r_ld Tryz.isAgg51 rfl hb0.at1) ?_
   refine lM (.int .i64 i_4) ?_
   refine lM (.int .i64 i_4) ?_
   refine lM (.int .i64 (if ((v0_v.drop (Int.toNat i_4)).length : Int) < v1_v then ((v0_v.drop (Int.toNat i_4)).length : Int) else v1_v)) ?_
   refine lV (.int .i64 (IntKind.i64.wrap (i_4 + (if ((v0_v.drop (Int.toNat i_4)).length : Int) < v1_v then ((v0_v.drop (Int.toNat i_4)).length : Int) else v1_v)))) (r_add i_4 (if ((v0_v.drop (Int.toNat i_4)).length : Int) < v1_v then ((v0_v.drop (Int.toNat i_4)).length : Int) else v1_v) rfl rfl) ?_
   refine lM (.int .i64 i_4) ?_
   refine lM (.int .i64 (if ((v0_v.drop (Int.toNat i_4)).length : Int) < v1_v then ((v0_v.drop (Int.toNat i_4)).length : Int) else v1_v)) ?_
   refine lV (.int .i64 (IntKind.i64.wrap (i_4 + (if ((v0_v.drop (Int.toNat i_4)).length : Int) < v1_v then ((v0_v.drop (Int.toNat i_4)).length : Int) else v1_v)))) (r_add i_4 (if ((v0_v.drop (Int.toNat i_4)).length : Int) < v1_v then ((v0_v.drop (Int.toNat i_4)).length : Int) else v1_v) rfl rfl) ?_
   obtain ⟨hb_10, hm⟩ := cS hm
   have h_12 := ((hf0.take (Int.toNat (IntKind.i64.wrap (i_4 + (if ((v0_v.drop (Int.toNat i_4)).length : Int) < v1_v then ((v0_v.drop (Int.toNat i_4)).length : Int) else v1_v))))).recap (show (v0_v.take (Int.toNat (IntKind.i64.wrap (i_4 + (if ((v0_v.drop (Int.toNat i_4)).length : Int) < v1_v then ((v0_v.drop (Int.toNat i_4)).length : Int) else v1_v))))).length ≤ (Int.toNat (IntKind.i64.wrap (i_4 + (if ((v0_v.drop (Int.toNat i_4)).length : Int) < v1_v then ((v0_v.drop (Int.toNat i_4)).length : Int) else v1_v)))) by rw [List.length_take (i := (Int.toNat (IntKind.i64.wrap (i_4 + (if ((v0_v.drop (Int.toNat i_4)).length : Int) < v1_v then ((v0_v.drop (Int.toNat i_4)).length : Int) else v1_v))))) (l := v0_v)]; have := hb_10.2; omega)).drop (sz := 3) rfl (Int.toNat i_4)
   refine lv (v := .slice (if (Int.toNat (IntKind.i64.wrap (i_4 + (if ((v0_v.drop (Int.toNat i_4)).length : Int) < v1_v then ((v0_v.drop (Int.toNat i_4)).length : Int) else v1_v)))) = (Int.toNat i_4) then af0 else af0.map (·.add ((Int.toNat i_4) * 3))) ((Int.toNat (IntKind.i64.wrap (i_4 + (if ((v0_v.drop (Int.toNat i_4)).length : Int) < v1_v then ((v0_v.drop (Int.toNat i_4)).length : Int) else v1_v)))) - (Int.toNat i_4)) ((Int.toNat (IntKind.i64.wrap (i_4 + (if ((v0_v.drop (Int.toNat i_4)).length : Int) < v1_v then ((v0_v.drop (Int.toNat i_4)).length : Int) else v1_v)))) - (Int.toNat i_4))) rfl rfl (r_sliceLHM Tryz.underlying51 Tryz.sizeOf40 rfl rfl rfl rfl hb_10.1 hb_10.2.1 hb_10.2.2.1 (by have := hf0.1.2; have := hb_10.2.2.2; omega)) ?_
   generalize (if (Int.toNat (IntKind.i64.wrap (i_4 + (if ((v0_v.drop (Int.toNat i_4)).length : Int) < v1_v then ((v0_v.drop (Int.toNat i_4)).length : Int) else v1_v)))) = (Int.toNat i_4) then af0 else af0.map (·.add ((Int.toNat i_4) * 3))) = a_11 at *
   refine .ld (d := 28) (v := (.slice a_11 (((v0_v.take (Int.toNat (IntKind.i64.wrap (i_4 + (if ((v0_v.drop (Int.toNat i_4)).length : Int) < v1_v then ((v0_v.drop (Int.toNat i_4)).length : Int) else v1_v))))).drop (Int.toNat i_4)).length) ((Int.toNat (IntKind.i64.wrap (i_4 + (if ((v0_v.drop (Int.toNat i_4)).length : Int) < v1_v then ((v0_v.drop (Int.toNat i_4)).length : Int) else v1_v)))) - (Int.toNat i_4)))) (congrArg (fun n => Value.slice a_11 n ((Int.toNat (IntKind.i64.wrap (i_4 + (if ((v0_v.drop (Int.toNat i_4)).length : Int) < v1_v then ((v0_v.drop (Int.toNat i_4)).length : Int) else v1_v)))) - (Int.toNat i_4))) (show (Int.toNat (IntKind.i64.wrap (i_4 + (if ((v0_v.drop (Int.toNat i_4)).length : Int) < v1_v then ((v0_v.drop (Int.toNat i_4)).length : Int) else v1_v)))) - (Int.toNat i_4) = ((v0_v.take (Int.toNat (IntKind.i64.wrap (i_4 + (if ((v0_v.drop (Int.toNat i_4)).length : Int) < v1_v then ((v0_v.drop (Int.toNat i_4)).length : Int) else v1_v))))).drop (Int.toNat i_4)).length by rw [List.length_drop (i := (Int.toNat i_4)) (l := v0_v.take (Int.toNat (IntKind.i64.wrap (i_4 + (if ((v0_v.drop (Int.toNat i_4)).length : Int) < v1_v then ((v0_v.drop (Int.toNat i_4)).length : Int) else v1_v))))), List.length_take (i := (Int.toNat (IntKind.i64.wrap (i_4 + (if ((v0_v.drop (Int.toNat i_4)).length : Int) < v1_v then ((v0_v.drop (Int.toNat i_4)).length : Int) else v1_v))))) (l := v0_v)]; have := hb_10.2; omega)) ?_
   obtain ⟨r_13, hc_14m, hc_14⟩ := bS hm
   cases hc_14
   have hm := hc_14m
   clear hc_14m
   refine ly1 rfl rfl rfl (hy _ _ _ _ [(.slice a_11 (((v0_v.take (Int.toNat (IntKind.i64.wrap (i_4 + (if ((v0_v.drop (Int.toNat i_4)).length : Int) < v1_v then ((v0_v.drop (Int.toNat i_4)).length : Int) else v1_v))))).drop (Int.toNat i_4)).length) ((Int.toNat (IntKind.i64.wrap (i_4 + (if ((v0_v.drop (Int.toNat i_4)).length : Int) < v1_v then ((v0_v.drop (Int.toNat i_4)).length : Int) else v1_v)))) - (Int.toNat i_4)))] hst ⟨a_11, ((Int.toNat (IntKind.i64.wrap (i_4 + (if ((v0_v.drop (Int.toNat i_4)).length : Int) < v1_v then ((v0_v.drop (Int.toNat i_4)).length : Int) else v1_v)))) - (Int.toNat i_4)), rfl, h_12⟩) ?_
   rintro _ w_15 ⟨col_16, hk_17, ⟨rfl, hJ⟩ | ⟨rfl, hX⟩⟩
   ·refine ⟨_, rfl, ?_⟩
    clear hst
    have hst := hJ
    clear hJ
    refine lV (.bool false) (r_not true rfl) ?_
    refine lN ?_
    refine wcondF rfl ?_
    refine wK (wR ?_)
    refine lM (.int .i64 i_4) ?_
    replace hb1 := hb1.kpp hk_17
    refine lV (.int .i64 v1_v) (r_ld Tryz.isAgg3 rfl hb1.at1) ?_
    refine lV (.int .i64 (IntKind.i64.wrap (i_4 + v1_v))) (r_add i_4 v1_v rfl rfl) ?_
    refine lA (.int .i64 (IntKind.i64.wrap (i_4 + v1_v))) ?_
    refine lN ?_
    replace hf0 := hf0.kpp hk_17
    replace hb0 := hb0.kpp hk_17
    exact ⟨n_1, by omega, ⟨col_16, r_13, (IntKind.i64.wrap (i_4 + v1_v)), n_1, rfl, hm, hst, hf0, hb0, hb1, rfl, rfl, rfl, rfl, rfl⟩⟩
   clear hm
   refine ⟨_, rfl, ?_⟩
   clear hst
   have hst := hX
   clear hX
   refine lV (.bool true) (r_not false rfl) ?_
   refine lN ?_
   refine wcondT rfl ?_
   refine wret ?_
   exact ⟨rfl, ⟨_, rfl⟩, _, .inr hst⟩
  rw [if_neg (by rw [hb]; decide)] at hm
  clear hb
  refine wexit (inB_hit ?_)
  cases hm
  exact ⟨rfl, ⟨_, rfl⟩, _, .inl hst⟩
def m_slices_Chunk_api_Rat_api_Rat_J1 (N : Nat) (p0_s : (List ((Bool × (List Int)) × (List Int)))) (p1_n : Int) : Option (List (List ((Bool × (List Int)) × (List Int)))) :=
  m_slices_Chunk_api_Rat_api_Rat_1 N p0_s p1_n
def m_slices_Chunk_api_Rat_api_Rat (N : Nat) (p0_s : (List ((Bool × (List Int)) × (List Int)))) (p1_n : Int) : Option (List (List ((Bool × (List Int)) × (List Int)))) :=
  if (decide (p1_n < 1)) = true then none else (m_slices_Chunk_api_Rat_api_Rat_J1 N p0_s p1_n)
theorem c_slices_Chunk_api_Rat_api_Rat (N : Nat) (col : Col) (w0 : World) (a0 : Option Addr) (cap0 : Nat) (p0_s : (List ((Bool × (List Int)) × (List Int)))) (p1_n : Int) (h0 : Sl (Rep.pair (Rep.pair Rep.bool (Rep.slice (Rep.int .u32))) (Rep.slice (Rep.int .u32))) col w0 a0 cap0 p0_s) (r : (List (List ((Bool × (List Int)) × (List Int))))) (hm : m_slices_Chunk_api_Rat_api_Rat N p0_s p1_n = some r) :
    Calls Tryz.prog 150 #[(.slice a0 p0_s.length cap0), (.int .i64 p1_n)] w0 (fun e w' => ∃ (col' : Col) (rv1 : Value), e = .returned (rv1) ∧ Grow col w0 col' w' ∧ It Tryz.prog rv1 (fun (y : List ((Bool × (List Int)) × (List Int))) (col : Col) (w : World) (args : List Value) => ∃ (a0 : Option Addr) (cap0 : Nat), args = [.slice a0 y.length cap0] ∧ Sl (Rep.pair (Rep.pair Rep.bool (Rep.slice (Rep.int .u32))) (Rep.slice (Rep.int .u32))) col w a0 cap0 y) r q0 col' w') := by
 refine calls_of1 4 (m := 9) (args := [(.slice a0 p0_s.length cap0), (.int .i64 p1_n)]) Tryz.func150 rfl rfl rfl rfl rfl ?_
 rw [m_slices_Chunk_api_Rat_api_Rat.eq_1] at hm
 have hst := St.start col w0
 refine wS (wR ?_)
 refine l_box (col := (col0 col)) (v := (.slice a0 p0_s.length cap0)) 1 rfl rfl ?_
 intro g_1 w_2 col_3 hg_4 hb_5
 replace hb_5 : Box 51 1 col_3 w_2 g_1 #[(.slice a0 p0_s.length cap0)] := hb_5
 refine l_box (col := col_3) (v := (.int .i64 p1_n)) 2 rfl rfl ?_
 intro g_6 w_7 col_8 hg_9 hb_10
 replace hb_10 : Box 3 2 col_8 w_7 g_6 #[(.int .i64 p1_n)] := hb_10
 refine lv (v := _) rfl rfl (r_assign rfl) ?_
 refine lN (wS ?_)
 replace h0 := ((h0.keep (Stay.start col w0)).gr hg_4).gr hg_9
 replace hst := (hst.grow hg_4).grow hg_9
 replace hb_5 := hb_5.gr hg_9
 refine Wp.cut (fun f w_11 => ∃ (col_12 : Col), m_slices_Chunk_api_Rat_api_Rat_J1 N p0_s p1_n  = some r ∧ St w0 (col0 col) col_12 w_11 ∧ Sl (Rep.pair (Rep.pair Rep.bool (Rep.slice (Rep.int .u32))) (Rep.slice (Rep.int .u32))) col_12 w_11 a0 cap0 p0_s ∧ Box 51 1 col_12 w_11 g_1 #[(.slice a0 p0_s.length cap0)] ∧ Box 3 2 col_12 w_11 g_6 #[(.int .i64 p1_n)] ∧ f 2 = (.pointer (some ⟨g_1, 0, none⟩)) ∧ f 3 = (.pointer (some ⟨g_6, 0, none⟩)) ∧ f 1000000 = (enc [])) ?_ ?_
 ·intro f w_11 hJ
  obtain ⟨col_12, hm, hst, h0, hb_5, hb_10, hs2, hs3, hs1000000⟩ := hJ
  rw [m_slices_Chunk_api_Rat_api_Rat_J1.eq_1] at hm
  refine .lD 2 hs2 ?_
  refine .lD 3 hs3 ?_
  refine .lD 1000000 hs1000000 ?_
  clear hs2 hs3 hs1000000
  refine wS (wR ?_)
  refine lV (.func (.func 175) #[] #[(.pointer (some ⟨g_1, 0, none⟩)), (.pointer (some ⟨g_6, 0, none⟩))]) (r_func2 rfl rfl) ?_
  refine lA (.func (.func 175) #[] #[(.pointer (some ⟨g_1, 0, none⟩)), (.pointer (some ⟨g_6, 0, none⟩))]) ?_
  refine lN ?_
  refine wret ?_
  have hb_5f := hst.finBox (G := (fun n => bif Nat.beq n 1 then 450 else bif Nat.beq n 2 then 450 else 0)) hb_5 (by decide) (by decide) (show (fun n => bif Nat.beq n 1 then 450 else bif Nat.beq n 2 then 450 else 0) 1 = 450 from rfl)
  have h0f := hst.finSl (g := (fun n => bif Nat.beq n 1 then 450 else bif Nat.beq n 2 then 450 else 0)) rfl h0
  have hb_10f := hst.finBox (G := (fun n => bif Nat.beq n 1 then 450 else bif Nat.beq n 2 then 450 else 0)) hb_10 (by decide) (by decide) (show (fun n => bif Nat.beq n 1 then 450 else bif Nat.beq n 2 then 450 else 0) 2 = 450 from rfl)
  refine ⟨rfl, colF w0.heap.size col col_12 (fun n => bif Nat.beq n 1 then 450 else bif Nat.beq n 2 then 450 else 0), _, rfl, hst.fin (fun n => bif Nat.beq n 1 then 450 else bif Nat.beq n 2 then 450 else 0), 175, [(.pointer (some ⟨g_1, 0, none⟩)), (.pointer (some ⟨g_6, 0, none⟩))], rfl, Tryz.call175, ?_⟩
  intro col9 w9 hs9 hk9
  replace hb_5f := hb_5f.itk hs9 hk9 rfl
  replace h0f := h0f.itk hs9 hk9 rfl
  replace hb_10f := hb_10f.itk hs9 hk9 rfl
  exact c_slices_Chunk_api_Rat_api_Rat_1 N col9 w9 g_1 a0 cap0 p0_s h0f hb_5f g_6 p1_n hb_10f r hm
 refine wS (wR ?_)
 refine lV (.int .i64 p1_n) (r_ld Tryz.isAgg3 rfl hb_10.at1) ?_
 refine lV (.bool (decide (p1_n < 1))) (r_lss p1_n 1 rfl rfl) ?_
 refine lN ?_
 refine wcond (decide (p1_n < 1)) rfl (fun hb => ?_) (fun hb => ?_)
 ·rw [if_pos hb] at hm
  clear hb
  cases hm
 rw [if_neg (by rw [hb]; decide)] at hm
 clear hb
 refine wK ?_
 exact ⟨col_8, hm, hst, h0, hb_5, hb_10, rfl, rfl, rfl⟩
theorem el114_59 : ElemOk Tryz.prog 114 1 4 := ⟨Tryz.t114, _, rfl, rfl, rfl, rfl, rfl⟩
def m_nat_Of (N : Nat) (p0_u : Int) : Option (List Int) :=
  (m_nat_own N [IntKind.u32.wrap p0_u, IntKind.u32.wrap (ishr .u64 p0_u 32)]).bind fun r_6 => some r_6
theorem c_nat_Of (N : Nat) (c1 : Nat) (col : Col) (w0 : World) (p0_u : Int) (r : (List Int)) (hm : m_nat_Of N p0_u = some r) :
    Calls Tryz.prog 59 #[(.int .u64 p0_u)] w0 (fun e w' => ∃ (col' : Col) (ra1 : Option Addr) (rc2 : Nat), e = .returned ((.slice ra1 r.length rc2)) ∧ Grow col w0 col' w' ∧ Own (Rep.int .u32) 114 c1 col' w' ra1 rc2 r) := by
 refine calls_of1 2 (m := 10) (args := [(.int .u64 p0_u)]) Tryz.func59 rfl rfl rfl rfl rfl ?_
 rw [m_nat_Of.eq_1] at hm
 have hst := St.start col w0
 refine wS (wR ?_)
 refine lA (.slice none (([] : List Int).length) 0) ?_
 refine lN (wS (wR ?_))
 refine lM (.int .u64 p0_u) ?_
 refine lV (.int .u32 (IntKind.u32.wrap p0_u)) (r_conv p0_u ⟨_, Tryz.underlying108⟩ Tryz.underlying114 rfl) ?_
 refine lM (.int .u64 p0_u) ?_
 refine lV (.int .u64 (ishr .u64 p0_u 32)) (r_shr p0_u 32 rfl rfl (by decide)) ?_
 refine lV (.int .u32 (IntKind.u32.wrap (ishr .u64 p0_u 32))) (r_conv (ishr .u64 p0_u 32) ⟨_, Tryz.underlying108⟩ Tryz.underlying114 rfl) ?_
 refine l_lit (col := (col0 col)) (r := (Rep.int .u32)) (xs := [IntKind.u32.wrap p0_u, IntKind.u32.wrap (ishr .u64 p0_u 32)]) [(.int .u32 (IntKind.u32.wrap p0_u)), (.int .u32 (IntKind.u32.wrap (ishr .u64 p0_u 32)))] 1 rfl Tryz.underlying36 el114_59 rfl rfl rfl rfl rfl rfl (by intro v hv; simp only [List.mem_cons, List.not_mem_nil, or_false] at hv; rcases hv with rfl | rfl <;> rfl) (RowsH.ofF (Rows.consF (r := (Rep.int .u32)) (x := IntKind.u32.wrap p0_u) (cs := [(.int .u32 (IntKind.u32.wrap p0_u))]) (rd_int .u32 (IntKind.u32.wrap p0_u)) (Rows.consF (r := (Rep.int .u32)) (x := IntKind.u32.wrap (ishr .u64 p0_u 32)) (cs := [(.int .u32 (IntKind.u32.wrap (ishr .u64 p0_u 32)))]) (rd_int .u32 (IntKind.u32.wrap (ishr .u64 p0_u 32))) Rows.nil0))) ?_
 intro a_1 w_2 col_3 hg_4 h_5
 obtain ⟨r_6, hr_7, hm⟩ := bS hm
 refine lc rfl rfl (r_call1 Tryz.call89 rfl) (c_nat_own N 2 (frC 1 col_3) _ a_1 2 [IntKind.u32.wrap p0_u, IntKind.u32.wrap (ishr .u64 p0_u 32)] (h_5.toSlF (Froz.int .u32)) r_6 hr_7) ?_
 rintro _ w_11 ⟨col_13, ra_8, rc_9, rfl, hg_12, rh_10⟩
 refine ⟨_, rfl, ?_⟩
 replace rh_10 := rh_10.thaw (flat_int .u32) hg_12 ((Fz.refl (col := col_3)).froz 1) (by decide)
 replace hg_12 := hg_12.thawR (col := col_3)
 generalize colR w_2.heap.size col_3 col_13 = col_14 at *
 refine lA (.slice ra_8 r_6.length rc_9) ?_
 refine lN ?_
 refine wret ?_
 cases hm
 replace hst := (hst.grow hg_4).grow hg_12
 exact ⟨rfl, colF w0.heap.size col col_14 (fun n => bif Nat.beq n 2 then c1 else 0), ra_8, rc_9, rfl, hst.fin (fun n => bif Nat.beq n 2 then c1 else 0), hst.finOwn (g := (fun n => bif Nat.beq n 2 then c1 else 0)) rfl rh_10 (by decide) (by decide) rfl⟩
def m_frac_under (N : Nat) (p0_a : ((Bool × (List Int)) × (List Int))) : Option (List Int) :=
  (m_nat_Norm N p0_a.2).bind fun r_6 => if (decide (0 < (r_6.length : Int))) = true then (some r_6) else ((m_nat_Of N 1).bind fun r_14 => some r_14)
theorem c_frac_under (N : Nat) (c1 : Nat) (col : Col) (w0 : World) (a0_0 : Option Addr) (cap0_0 : Nat) (a0_2 : Option Addr) (cap0_2 : Nat) (p0_a : ((Bool × (List Int)) × (List Int))) (h0_0 : Sl (Rep.int .u32) col w0 a0_0 cap0_0 p0_a.1.2) (h0_2 : Sl (Rep.int .u32) col w0 a0_2 cap0_2 p0_a.2) (r : (List Int)) (hm : m_frac_under N p0_a = some r) :
    Calls Tryz.prog 56 #[(.agg #[(.bool p0_a.1.1), (.slice a0_0 p0_a.1.2.length cap0_0), (.slice a0_2 p0_a.2.length cap0_2)])] w0 (fun e w' => ∃ (col' : Col) (ra1 : Option Addr) (rc2 : Nat), e = .returned ((.slice ra1 r.length rc2)) ∧ Grow col w0 col' w' ∧ Own (Rep.int .u32) 114 c1 col' w' ra1 rc2 r) := by
 refine calls_of1 2 (m := 12) (args := [(.agg #[(.bool p0_a.1.1), (.slice a0_0 p0_a.1.2.length cap0_0), (.slice a0_2 p0_a.2.length cap0_2)])]) Tryz.func56 rfl rfl rfl rfl rfl ?_
 rw [m_frac_under.eq_1] at hm
 have hst := St.start col w0
 refine wS (wR ?_)
 refine l_box (col := (col0 col)) (v := (.agg #[(.bool p0_a.1.1), (.slice a0_0 p0_a.1.2.length cap0_0), (.slice a0_2 p0_a.2.length cap0_2)])) 1 rfl rfl ?_
 intro g_1 w_2 col_3 hg_4 hb_5
 replace hb_5 : Box 40 1 col_3 w_2 g_1 #[(.bool p0_a.1.1), (.slice a0_0 p0_a.1.2.length cap0_0), (.slice a0_2 p0_a.2.length cap0_2)] := hb_5
 refine lA (.slice none (([] : List Int).length) 0) ?_
 refine lN (wS (wS (wR ?_)))
 refine lV (.pointer ((some (⟨g_1, 0, none⟩ : Addr)).map (·.add 2))) (rF (sz := 1) (off := 2) Tryz.underlying40 rfl Tryz.sizeOf36 (by decide) rfl rfl ⟨_, _, rfl⟩) ?_
 refine lV (.slice a0_2 p0_a.2.length cap0_2) (r_ld Tryz.isAgg36 rfl ((hb_5.atN).nth (q := 2) (v := (.slice a0_2 p0_a.2.length cap0_2)) rfl)) ?_
 obtain ⟨r_6, hr_7, hm⟩ := bS hm
 replace h0_2 := (h0_2.keep (Stay.start col w0)).gr hg_4
 refine lc rfl rfl (r_call1 Tryz.call106 rfl) (c_nat_Norm N 2 col_3 _ a0_2 cap0_2 p0_a.2 h0_2 r_6 hr_7) ?_
 rintro _ w_11 ⟨col_13, ra_8, rc_9, rfl, hg_12, rh_10⟩
 refine ⟨_, rfl, ?_⟩
 refine lA (.slice ra_8 r_6.length rc_9) ?_
 refine lN (wS (wR ?_))
 refine lM (.slice ra_8 r_6.length rc_9) ?_
 refine lV (.int .i64 (r_6.length : Int)) (r_len Tryz.underlying36 rfl) ?_
 refine lV (.bool (decide (0 < (r_6.length : Int)))) (r_gtr (r_6.length : Int) 0 rfl rfl) ?_
 refine lN ?_
 replace hst := (hst.grow hg_4).grow hg_12
 refine wcond (decide (0 < (r_6.length : Int))) rfl (fun hb => ?_) (fun hb => ?_)
 ·rw [if_pos hb] at hm
  clear hb
  refine wS (wR ?_)
  refine lM (.slice ra_8 r_6.length rc_9) ?_
  refine lA (.slice ra_8 r_6.length rc_9) ?_
  refine lN ?_
  refine wret ?_
  cases hm
  exact ⟨rfl, colF w0.heap.size col col_13 (fun n => bif Nat.beq n 2 then c1 else 0), ra_8, rc_9, rfl, hst.fin (fun n => bif Nat.beq n 2 then c1 else 0), hst.finOwn (g := (fun n => bif Nat.beq n 2 then c1 else 0)) rfl rh_10 (by decide) (by decide) rfl⟩
 rw [if_neg (by rw [hb]; decide)] at hm
 clear hb
 refine wK (wS (wR ?_))
 obtain ⟨r_14, hr_15, hm⟩ := bS hm
 refine lc rfl rfl (r_call1 Tryz.call59 rfl) (c_nat_Of N 3 col_13 _ 1 r_14 hr_15) ?_
 rintro _ w_19 ⟨col_21, ra_16, rc_17, rfl, hg_20, rh_18⟩
 refine ⟨_, rfl, ?_⟩
 refine lA (.slice ra_16 r_14.length rc_17) ?_
 refine lN ?_
 refine wret ?_
 cases hm
 replace hst := hst.grow hg_20
 exact ⟨rfl, colF w0.heap.size col col_21 (fun n => bif Nat.beq n 3 then c1 else 0), ra_16, rc_17, rfl, hst.fin (fun n => bif Nat.beq n 3 then c1 else 0), hst.finOwn (g := (fun n => bif Nat.beq n 3 then c1 else 0)) rfl rh_18 (by decide) (by decide) rfl⟩
def m_nat_Mul_L2 (r_9 : (List Int)) (k_23 : Nat) (kk_L1 : (Nat → (List Int) → Option (List Int))) (x_31 : Int) : List Int → Nat → (List Int) → Int → Option (List Int)
  | [], k_42, p_46, carry_50 => (at? p_46 (IntKind.i64.wrap ((k_23 : Int) + (r_9.length : Int)))).bind fun e_53 => (some (p_46.set (Int.toNat (IntKind.i64.wrap ((k_23 : Int) + (r_9.length : Int)))) (IntKind.u32.wrap carry_50))).bind fun xs_60 => kk_L1 (k_23 + 1) xs_60
  | x_51 :: l_52, k_42, p_46, carry_50 => (at? p_46 (IntKind.i64.wrap ((k_23 : Int) + (k_42 : Int)))).bind fun e_61 => (some (p_46.set (Int.toNat (IntKind.i64.wrap ((k_23 : Int) + (k_42 : Int)))) (IntKind.u32.wrap (IntKind.u64.wrap (carry_50 + (IntKind.u64.wrap ((IntKind.u64.wrap ((IntKind.u64.wrap x_31) * (IntKind.u64.wrap x_51))) + (IntKind.u64.wrap e_61)))))))).bind fun xs_68 => (m_nat_Mul_L2 r_9 k_23 kk_L1 x_31 l_52) (k_42 + 1) xs_68 (ishr .u64 (IntKind.u64.wrap (carry_50 + (IntKind.u64.wrap ((IntKind.u64.wrap ((IntKind.u64.wrap x_31) * (IntKind.u64.wrap x_51))) + (IntKind.u64.wrap e_61))))) 32)
termination_by structural x => x
def m_nat_Mul_L1 (N : Nat) (r_9 : (List Int)) : List Int → Nat → (List Int) → Option (List Int)
  | [], k_23, p_27 => (m_nat_own N p_27).bind fun r_33 => some r_33
  | x_31 :: l_32, k_23, p_27 => m_nat_Mul_L2 r_9 k_23 (m_nat_Mul_L1 N r_9 l_32) x_31 r_9 0 p_27 0
termination_by structural x => x
def m_nat_Mul (N : Nat) (p0_a : (List Int)) (p1_b : (List Int)) : Option (List Int) :=
  (m_nat_trim N p0_a).bind fun r_1 => (m_nat_trim N p1_b).bind fun r_9 => chk ((Int.toNat (IntKind.i64.wrap ((r_1.length : Int) + (r_9.length : Int)))) * 4 ≤ 281474976710656 ∧ (Int.toNat (IntKind.i64.wrap ((r_1.length : Int) + (r_9.length : Int)))) ≤ maxLen ∧ 0 ≤ (IntKind.i64.wrap ((r_1.length : Int) + (r_9.length : Int)))) (m_nat_Mul_L1 N r_9 r_1 0 (List.replicate (Int.toNat (IntKind.i64.wrap ((r_1.length : Int) + (r_9.length : Int)))) (0 : Int)))
theorem c_nat_Mul (N : Nat) (c1 : Nat) (col : Col) (w0 : World) (a0 : Option Addr) (cap0 : Nat) (p0_a : (List Int)) (a1 : Option Addr) (cap1 : Nat) (p1_b : (List Int)) (h0 : Sl (Rep.int .u32) col w0 a0 cap0 p0_a) (h1 : Sl (Rep.int .u32) col w0 a1 cap1 p1_b) (r : (List Int)) (hm : m_nat_Mul N p0_a p1_b = some r) :
    Calls Tryz.prog 40 #[(.slice a0 p0_a.length cap0), (.slice a1 p1_b.length cap1)] w0 (fun e w' => ∃ (col' : Col) (ra1 : Option Addr) (rc2 : Nat), e = .returned ((.slice ra1 r.length rc2)) ∧ Grow col w0 col' w' ∧ Own (Rep.int .u32) 114 c1 col' w' ra1 rc2 r) := by
 refine calls_of1 4 (m := 71) (args := [(.slice a0 p0_a.length cap0), (.slice a1 p1_b.length cap1)]) Tryz.func40 rfl rfl rfl rfl rfl ?_
 rw [m_nat_Mul.eq_1] at hm
 have hst := St.start col w0
 refine wS (wR ?_)
 refine lA (.slice none (([] : List Int).length) 0) ?_
 refine lN (wS (wR ?_))
 refine lM (.slice a0 p0_a.length cap0) ?_
 obtain ⟨r_1, hr_2, hm⟩ := bS hm
 replace h0 := h0.keep (Stay.start col w0)
 refine lc rfl rfl (r_call1 Tryz.call88 rfl) (c_nat_trim N (col0 col) _ a0 cap0 p0_a h0 r_1 hr_2) ?_
 rintro _ w_6 ⟨col_8, ra_3, rc_4, rfl, hg_7, rh_5⟩
 refine ⟨_, rfl, ?_⟩
 refine lM (.slice a1 p1_b.length cap1) ?_
 obtain ⟨r_9, hr_10, hm⟩ := bS hm
 replace h1 := (h1.keep (Stay.start col w0)).gr hg_7
 refine lc rfl rfl (r_call1 Tryz.call88 rfl) (c_nat_trim N col_8 _ a1 cap1 p1_b h1 r_9 hr_10) ?_
 rintro _ w_14 ⟨col_16, ra_11, rc_12, rfl, hg_15, rh_13⟩
 refine ⟨_, rfl, ?_⟩
 refine lA (.slice ra_3 r_1.length rc_4) ?_
 refine lA (.slice ra_11 r_9.length rc_12) ?_
 refine lN (wS (wR ?_))
 refine lM (.slice ra_3 r_1.length rc_4) ?_
 refine lV (.int .i64 (r_1.length : Int)) (r_len Tryz.underlying36 rfl) ?_
 refine lM (.slice ra_11 r_9.length rc_12) ?_
 refine lV (.int .i64 (r_9.length : Int)) (r_len Tryz.underlying36 rfl) ?_
 refine lV (.int .i64 (IntKind.i64.wrap ((r_1.length : Int) + (r_9.length : Int)))) (r_add (r_1.length : Int) (r_9.length : Int) rfl rfl) ?_
 obtain ⟨hb_17, hm⟩ := cS hm
 refine l_make (col := col_16) (w := w_14) (r := (Rep.int .u32)) (n := (Int.toNat (IntKind.i64.wrap ((r_1.length : Int) + (r_9.length : Int))))) (x0 := 0) 1 rfl Tryz.underlying36 Tryz.t114 rfl rfl rfl rfl rfl (congrArg (Value.int _) (Int.toNat_of_nonneg hb_17.2.2).symm) (congrArg (Value.int _) (Int.toNat_of_nonneg hb_17.2.2).symm) hb_17.1 hb_17.2.1 (rd_int .u32 0) ?_
 intro a_18 w_19 col_20 hg_21 h_22
 refine lA (.slice a_18 ((List.replicate (Int.toNat (IntKind.i64.wrap ((r_1.length : Int) + (r_9.length : Int)))) (0 : Int)).length) (Int.toNat (IntKind.i64.wrap ((r_1.length : Int) + (r_9.length : Int))))) ?_
 refine lN (wS (wS (wR ?_)))
 refine lM (.slice ra_3 r_1.length rc_4) ?_
 refine lV (.int .i64 (r_1.length : Int)) (r_len Tryz.underlying36 rfl) ?_
 refine lM (.int .i64 0) ?_
 refine lN (wB ?_)
 replace hst := ((hst.grow hg_7).grow hg_15).grow hg_21
 replace rh_5 := (rh_5.gr hg_15).gr hg_21
 replace rh_13 := rh_13.gr hg_21
 refine wloop (fun n f w_25 => ∃ (col_26 : Col) (k_23 : Nat) (a_28 : Option Addr) (cap_29 : Nat) (p_27 : List Int) (l_24 : List Int), n = l_24.length ∧ r_1.drop k_23 = l_24 ∧ m_nat_Mul_L1 N r_9 l_24 k_23 p_27 = some r ∧ St w0 (col0 col) col_26 w_25 ∧ Sl (Rep.int .u32) col_26 w_25 ra_11 rc_12 r_9 ∧ Sl (Rep.int .u32) col_26 w_25 ra_3 rc_4 r_1 ∧ Own (Rep.int .u32) 114 1 col_26 w_25 a_28 cap_29 p_27 ∧ f 23 = (.int .i64 (k_23 : Int)) ∧ f 1 = (.slice ra_11 r_9.length rc_12) ∧ f 21 = (.slice ra_3 r_1.length rc_4) ∧ f 22 = (.int .i64 (r_1.length : Int)) ∧ f 5 = (.slice a_28 p_27.length cap_29) ∧ f 1000000 = (enc [])) r_1.length ⟨col_20, 0, a_18, (Int.toNat (IntKind.i64.wrap ((r_1.length : Int) + (r_9.length : Int)))), (List.replicate (Int.toNat (IntKind.i64.wrap ((r_1.length : Int) + (r_9.length : Int)))) (0 : Int)), r_1, rfl, rfl, hm, hst, rh_13, rh_5, h_22, rfl, rfl, rfl, rfl, rfl, rfl⟩ ?_
 clear hm; intro n f w_25 hI
 obtain ⟨col_26, k_23, a_28, cap_29, p_27, l_24, hn, hl, hm, hst, rh_13, rh_5, h_30, hs23, hs1, hs21, hs22, hs5, hs1000000⟩ := hI
 subst hn
 refine .lD 23 hs23 ?_
 refine .lD 1 hs1 ?_
 refine .lD 21 hs21 ?_
 refine .lD 22 hs22 ?_
 refine .lD 5 hs5 ?_
 refine .lD 1000000 hs1000000 ?_
 clear hs23 hs1 hs21 hs22 hs5 hs1000000
 cases l_24 with
 | nil =>
  have hk : ¬ ((k_23 : Int) < (r_1.length : Int)) := by have := List.drop_eq_nil_iff.1 hl; omega
  have hkb := decide_eq_false hk
  rw [m_nat_Mul_L1.eq_1] at hm
  refine wS (wR ?_)
  refine lV (.bool (decide ((k_23 : Int) < (r_1.length : Int)))) (r_lss (k_23 : Int) (r_1.length : Int) rfl rfl) ?_
  refine lN (wS ?_)
  refine wcondF (congrArg Value.bool hkb) ?_
  refine wexit (inB_hit ?_)
  refine wS (wR ?_)
  refine lM (.slice a_28 p_27.length cap_29) ?_
  obtain ⟨r_33, hr_34, hm⟩ := bS hm
  refine lc rfl rfl (r_call1 Tryz.call89 rfl) (c_nat_own N 2 (frC 1 col_26) _ a_28 cap_29 p_27 (h_30.toSlF (Froz.int .u32)) r_33 hr_34) ?_
  rintro _ w_38 ⟨col_40, ra_35, rc_36, rfl, hg_39, rh_37⟩
  refine ⟨_, rfl, ?_⟩
  replace rh_37 := rh_37.thaw (flat_int .u32) hg_39 ((Fz.refl (col := col_26)).froz 1) (by decide)
  replace hg_39 := hg_39.thawR (col := col_26)
  generalize colR w_25.heap.size col_26 col_40 = col_41 at *
  refine lA (.slice ra_35 r_33.length rc_36) ?_
  refine lN ?_
  refine wret ?_
  cases hm
  replace hst := hst.grow hg_39
  exact ⟨rfl, colF w0.heap.size col col_41 (fun n => bif Nat.beq n 2 then c1 else 0), ra_35, rc_36, rfl, hst.fin (fun n => bif Nat.beq n 2 then c1 else 0), hst.finOwn (g := (fun n => bif Nat.beq n 2 then c1 else 0)) rfl rh_37 (by decide) (by decide) rfl⟩
 | cons x_31 l_32 =>
  obtain ⟨hat, hl2_L1, hlt_L1⟩ := drop_get hl
  have hk : (k_23 : Int) < (r_1.length : Int) := by omega
  have hkb := decide_eq_true hk
  rw [m_nat_Mul_L1.eq_2] at hm
  refine wS (wR ?_)
  refine lV (.bool (decide ((k_23 : Int) < (r_1.length : Int)))) (r_lss (k_23 : Int) (r_1.length : Int) rfl rfl) ?_
  refine lN (wS ?_)
  refine wcondT (congrArg Value.bool hkb) ?_
  refine wK (wS (wB (wS (wR ?_))))
  refine lM (.int .i64 (k_23 : Int)) ?_
  refine lV (sptr ra_3 (Int.toNat (k_23 : Int) * 1)) (r_idx Tryz.underlying36 Tryz.sizeOf114 rfl rfl (at?_some hat).1 (at?_some hat).2.1 (rh_5.addr hat)) ?_
  refine lV (.int .u32 x_31) (r_ld Tryz.isAgg114 rfl (rh_5.atInt hat)) ?_
  refine lA (.int .i64 (k_23 : Int)) ?_
  refine lA (.int .u32 x_31) ?_
  refine lN (wS (wR ?_))
  refine lA (.int .u64 0) ?_
  refine lN (wS (wS (wR ?_)))
  refine lM (.slice ra_11 r_9.length rc_12) ?_
  refine lV (.int .i64 (r_9.length : Int)) (r_len Tryz.underlying36 rfl) ?_
  refine lM (.int .i64 0) ?_
  refine lN (wB ?_)
  refine wloop (fun n f w_44 => ∃ (col_45 : Col) (k_42 : Nat) (a_47 : Option Addr) (cap_48 : Nat) (p_46 : List Int) (carry_50 : Int) (l_43 : List Int), n = l_43.length ∧ r_9.drop k_42 = l_43 ∧ m_nat_Mul_L2 r_9 k_23 (m_nat_Mul_L1 N r_9 l_32) x_31 l_43 k_42 p_46 carry_50 = some r ∧ St w0 (col0 col) col_45 w_44 ∧ Sl (Rep.int .u32) col_45 w_44 ra_11 rc_12 r_9 ∧ Sl (Rep.int .u32) col_45 w_44 ra_3 rc_4 r_1 ∧ Own (Rep.int .u32) 114 1 col_45 w_44 a_47 cap_48 p_46 ∧ f 30 = (.int .i64 (k_42 : Int)) ∧ f 1 = (.slice ra_11 r_9.length rc_12) ∧ f 21 = (.slice ra_3 r_1.length rc_4) ∧ f 22 = (.int .i64 (r_1.length : Int)) ∧ f 23 = (.int .i64 (k_23 : Int)) ∧ f 28 = (.slice ra_11 r_9.length rc_12) ∧ f 29 = (.int .i64 (r_9.length : Int)) ∧ f 5 = (.slice a_47 p_46.length cap_48) ∧ f 6 = (.int .i64 (k_23 : Int)) ∧ f 7 = (.int .u32 x_31) ∧ f 8 = (.int .u64 carry_50) ∧ f 1000000 = (enc [])) r_9.length ⟨col_26, 0, a_28, cap_29, p_27, 0, r_9, rfl, rfl, hm, hst, rh_13, rh_5, h_30, rfl, rfl, rfl, rfl, rfl, rfl, rfl, rfl, rfl, rfl, rfl, rfl⟩ ?_
  clear hm; intro n f w_44 hI
  obtain ⟨col_45, k_42, a_47, cap_48, p_46, carry_50, l_43, hn, hl, hm, hst, rh_13, rh_5, h_49, hs30, hs1, hs21, hs22, hs23, hs28, hs29, hs5, hs6, hs7, hs8, hs1000000⟩ := hI
  subst hn
  refine .lD 30 hs30 ?_
  refine .lD 1 hs1 ?_
  refine .lD 21 hs21 ?_
  refine .lD 22 hs22 ?_
  refine .lD 23 hs23 ?_
  refine .lD 28 hs28 ?_
  refine .lD 29 hs29 ?_
  refine .lD 5 hs5 ?_
  refine .lD 6 hs6 ?_
  refine .lD 7 hs7 ?_
  refine .lD 8 hs8 ?_
  refine .lD 1000000 hs1000000 ?_
  clear hs30 hs1 hs21 hs22 hs23 hs28 hs29 hs5 hs6 hs7 hs8 hs1000000
  cases l_43 with
  | nil =>
   have hk : ¬ ((k_42 : Int) < (r_9.length : Int)) := by have := List.drop_eq_nil_iff.1 hl; omega
   have hkb := decide_eq_false hk
   rw [m_nat_Mul_L2.eq_1] at hm
   refine wS (wR ?_)
   refine lV (.bool (decide ((k_42 : Int) < (r_9.length : Int)))) (r_lss (k_42 : Int) (r_9.length : Int) rfl rfl) ?_
   refine lN (wS ?_)
   refine wcondF (congrArg Value.bool hkb) ?_
   refine wexit (inB_hit ?_)
   refine wR ?_
   refine lM (.slice a_47 p_46.length cap_48) ?_
   refine lM (.int .i64 (k_23 : Int)) ?_
   refine lM (.slice ra_11 r_9.length rc_12) ?_
   refine lV (.int .i64 (r_9.length : Int)) (r_len Tryz.underlying36 rfl) ?_
   refine lV (.int .i64 (IntKind.i64.wrap ((k_23 : Int) + (r_9.length : Int)))) (r_add (k_23 : Int) (r_9.length : Int) rfl rfl) ?_
   refine lM (.int .u64 carry_50) ?_
   refine lV (.int .u32 (IntKind.u32.wrap carry_50)) (r_conv carry_50 ⟨_, Tryz.underlying108⟩ Tryz.underlying114 rfl) ?_
   obtain ⟨e_53, hj_54, hm⟩ := bS hm
   refine lV (sptr a_47 (Int.toNat (IntKind.i64.wrap ((k_23 : Int) + (r_9.length : Int))) * 1)) (r_idx Tryz.underlying36 Tryz.sizeOf114 rfl rfl (at?_some hj_54).1 (at?_some hj_54).2.1 (h_49.addr hj_54)) ?_
   obtain ⟨xs_60, hz_59, hm⟩ := bS hm
   have hz_59 : xs_60 = p_46.set (Int.toNat (IntKind.i64.wrap ((k_23 : Int) + (r_9.length : Int)))) (IntKind.u32.wrap carry_50) := (Option.some.inj hz_59).symm
   refine l_store (x1 := IntKind.u32.wrap carry_50) (v := (.int .u32 (IntKind.u32.wrap carry_50))) h_49 hj_54 rfl Tryz.sizeOf114 (rd_int .u32 (IntKind.u32.wrap carry_50)) rfl rfl (by decide) ?_
   intro w_55 hk_56 hs_57 h_58
   rw [← hz_59] at h_58
   refine .ld (d := 5) (v := (.slice a_47 xs_60.length cap_48)) (congrArg (fun n => Value.slice a_47 n cap_48) (show p_46.length = xs_60.length by rw [hz_59, List.length_set])) ?_
   clear h_49
   refine lN (wR ?_)
   refine lV (.int .i64 (IntKind.i64.wrap ((k_23 : Int) + 1))) (r_add (k_23 : Int) 1 rfl rfl) ?_
   refine lM (.int .i64 (IntKind.i64.wrap ((k_23 : Int) + 1))) ?_
   refine lN ?_
   replace rh_13 := rh_13.kp hk_56
   replace rh_5 := rh_5.kp hk_56
   replace hst := hst.kp hk_56 hs_57
   exact ⟨l_32.length, by simp, ⟨col_45, (k_23 + 1), a_47, cap_48, xs_60, l_32, rfl, hl2_L1, hm, hst, rh_13, rh_5, h_58, (congrArg (Value.int .i64) (wrap_succ (Nat.lt_of_lt_of_le hlt_L1 rh_5.1.1))), rfl, rfl, rfl, rfl, rfl⟩⟩
  | cons x_51 l_52 =>
   obtain ⟨hat, hl2_L2, hlt_L2⟩ := drop_get hl
   have hk : (k_42 : Int) < (r_9.length : Int) := by omega
   have hkb := decide_eq_true hk
   rw [m_nat_Mul_L2.eq_2] at hm
   refine wS (wR ?_)
   refine lV (.bool (decide ((k_42 : Int) < (r_9.length : Int)))) (r_lss (k_42 : Int) (r_9.length : Int) rfl rfl) ?_
   refine lN (wS ?_)
   refine wcondT (congrArg Value.bool hkb) ?_
   refine wK (wS (wB (wS (wR ?_))))
   refine lM (.int .i64 (k_42 : Int)) ?_
   refine lV (sptr ra_11 (Int.toNat (k_42 : Int) * 1)) (r_idx Tryz.underlying36 Tryz.sizeOf114 rfl rfl (at?_some hat).1 (at?_some hat).2.1 (rh_13.addr hat)) ?_
   refine lV (.int .u32 x_51) (r_ld Tryz.isAgg114 rfl (rh_13.atInt hat)) ?_
   refine lA (.int .i64 (k_42 : Int)) ?_
   refine lA (.int .u32 x_51) ?_
   refine lN (wS (wR ?_))
   refine lM (.int .u64 carry_50) ?_
   refine lM (.int .u32 x_31) ?_
   refine lV (.int .u64 (IntKind.u64.wrap x_31)) (r_conv x_31 ⟨_, Tryz.underlying114⟩ Tryz.underlying108 rfl) ?_
   refine lM (.int .u32 x_51) ?_
   refine lV (.int .u64 (IntKind.u64.wrap x_51)) (r_conv x_51 ⟨_, Tryz.underlying114⟩ Tryz.underlying108 rfl) ?_
   refine lV (.int .u64 (IntKind.u64.wrap ((IntKind.u64.wrap x_31) * (IntKind.u64.wrap x_51)))) (r_mul (IntKind.u64.wrap x_31) (IntKind.u64.wrap x_51) rfl rfl) ?_
   refine lM (.slice a_47 p_46.length cap_48) ?_
   refine lM (.int .i64 (k_23 : Int)) ?_
   refine lM (.int .i64 (k_42 : Int)) ?_
   refine lV (.int .i64 (IntKind.i64.wrap ((k_23 : Int) + (k_42 : Int)))) (r_add (k_23 : Int) (k_42 : Int) rfl rfl) ?_
   obtain ⟨e_61, hj_62, hm⟩ := bS hm
   refine lV (sptr a_47 (Int.toNat (IntKind.i64.wrap ((k_23 : Int) + (k_42 : Int))) * 1)) (r_idx Tryz.underlying36 Tryz.sizeOf114 rfl rfl (at?_some hj_62).1 (at?_some hj_62).2.1 (h_49.addr hj_62)) ?_
   refine lV (.int .u32 e_61) (r_ld Tryz.isAgg114 rfl (h_49.atInt hj_62)) ?_
   refine lV (.int .u64 (IntKind.u64.wrap e_61)) (r_conv e_61 ⟨_, Tryz.underlying114⟩ Tryz.underlying108 rfl) ?_
   refine lV (.int .u64 (IntKind.u64.wrap ((IntKind.u64.wrap ((IntKind.u64.wrap x_31) * (IntKind.u64.wrap x_51))) + (IntKind.u64.wrap e_61)))) (r_add (IntKind.u64.wrap ((IntKind.u64.wrap x_31) * (IntKind.u64.wrap x_51))) (IntKind.u64.wrap e_61) rfl rfl) ?_
   refine lV (.int .u64 (IntKind.u64.wrap (carry_50 + (IntKind.u64.wrap ((IntKind.u64.wrap ((IntKind.u64.wrap x_31) * (IntKind.u64.wrap x_51))) + (IntKind.u64.wrap e_61)))))) (r_add carry_50 (IntKind.u64.wrap ((IntKind.u64.wrap ((IntKind.u64.wrap x_31) * (IntKind.u64.wrap x_51))) + (IntKind.u64.wrap e_61))) rfl rfl) ?_
   refine lA (.int .u64 (IntKind.u64.wrap (carry_50 + (IntKind.u64.wrap ((IntKind.u64.wrap ((IntKind.u64.wrap x_31) * (IntKind.u64.wrap x_51))) + (IntKind.u64.wrap e_61)))))) ?_
   refine lN (wS (wR ?_))
   refine lM (.slice a_47 p_46.length cap_48) ?_
   refine lM (.int .i64 (k_23 : Int)) ?_
   refine lM (.int .i64 (k_42 : Int)) ?_
   refine lV (.int .i64 (IntKind.i64.wrap ((k_23 : Int) + (k_42 : Int)))) (r_add (k_23 : Int) (k_42 : Int) rfl rfl) ?_
   refine lM (.int .u64 (IntKind.u64.wrap (carry_50 + (IntKind.u64.wrap ((IntKind.u64.wrap ((IntKind.u64.wrap x_31) * (IntKind.u64.wrap x_51))) + (IntKind.u64.wrap e_61)))))) ?_
   refine lV (.int .u32 (IntKind.u32.wrap (IntKind.u64.wrap (carry_50 + (IntKind.u64.wrap ((IntKind.u64.wrap ((IntKind.u64.wrap x_31) * (IntKind.u64.wrap x_51))) + (IntKind.u64.wrap e_61))))))) (r_conv (IntKind.u64.wrap (carry_50 + (IntKind.u64.wrap ((IntKind.u64.wrap ((IntKind.u64.wrap x_31) * (IntKind.u64.wrap x_51))) + (IntKind.u64.wrap e_61))))) ⟨_, Tryz.underlying108⟩ Tryz.underlying114 rfl) ?_
   refine lV (sptr a_47 (Int.toNat (IntKind.i64.wrap ((k_23 : Int) + (k_42 : Int))) * 1)) (r_idx Tryz.underlying36 Tryz.sizeOf114 rfl rfl (at?_some hj_62).1 (at?_some hj_62).2.1 (h_49.addr hj_62)) ?_
   obtain ⟨xs_68, hz_67, hm⟩ := bS hm
   have hz_67 : xs_68 = p_46.set (Int.toNat (IntKind.i64.wrap ((k_23 : Int) + (k_42 : Int)))) (IntKind.u32.wrap (IntKind.u64.wrap (carry_50 + (IntKind.u64.wrap ((IntKind.u64.wrap ((IntKind.u64.wrap x_31) * (IntKind.u64.wrap x_51))) + (IntKind.u64.wrap e_61)))))) := (Option.some.inj hz_67).symm
   refine l_store (x1 := IntKind.u32.wrap (IntKind.u64.wrap (carry_50 + (IntKind.u64.wrap ((IntKind.u64.wrap ((IntKind.u64.wrap x_31) * (IntKind.u64.wrap x_51))) + (IntKind.u64.wrap e_61)))))) (v := (.int .u32 (IntKind.u32.wrap (IntKind.u64.wrap (carry_50 + (IntKind.u64.wrap ((IntKind.u64.wrap ((IntKind.u64.wrap x_31) * (IntKind.u64.wrap x_51))) + (IntKind.u64.wrap e_61)))))))) h_49 hj_62 rfl Tryz.sizeOf114 (rd_int .u32 (IntKind.u32.wrap (IntKind.u64.wrap (carry_50 + (IntKind.u64.wrap ((IntKind.u64.wrap ((IntKind.u64.wrap x_31) * (IntKind.u64.wrap x_51))) + (IntKind.u64.wrap e_61))))))) rfl rfl (by decide) ?_
   intro w_63 hk_64 hs_65 h_66
   rw [← hz_67] at h_66
   refine .ld (d := 5) (v := (.slice a_47 xs_68.length cap_48)) (congrArg (fun n => Value.slice a_47 n cap_48) (show p_46.length = xs_68.length by rw [hz_67, List.length_set])) ?_
   clear h_49
   refine lN (wR ?_)
   refine lM (.int .u64 (IntKind.u64.wrap (carry_50 + (IntKind.u64.wrap ((IntKind.u64.wrap ((IntKind.u64.wrap x_31) * (IntKind.u64.wrap x_51))) + (IntKind.u64.wrap e_61)))))) ?_
   refine lV (.int .u64 (ishr .u64 (IntKind.u64.wrap (carry_50 + (IntKind.u64.wrap ((IntKind.u64.wrap ((IntKind.u64.wrap x_31) * (IntKind.u64.wrap x_51))) + (IntKind.u64.wrap e_61))))) 32)) (r_shr (IntKind.u64.wrap (carry_50 + (IntKind.u64.wrap ((IntKind.u64.wrap ((IntKind.u64.wrap x_31) * (IntKind.u64.wrap x_51))) + (IntKind.u64.wrap e_61))))) 32 rfl rfl (by decide)) ?_
   refine lA (.int .u64 (ishr .u64 (IntKind.u64.wrap (carry_50 + (IntKind.u64.wrap ((IntKind.u64.wrap ((IntKind.u64.wrap x_31) * (IntKind.u64.wrap x_51))) + (IntKind.u64.wrap e_61))))) 32)) ?_
   refine lN (wR ?_)
   refine lV (.int .i64 (IntKind.i64.wrap ((k_42 : Int) + 1))) (r_add (k_42 : Int) 1 rfl rfl) ?_
   refine lM (.int .i64 (IntKind.i64.wrap ((k_42 : Int) + 1))) ?_
   refine lN ?_
   replace rh_13 := rh_13.kp hk_64
   replace rh_5 := rh_5.kp hk_64
   replace hst := hst.kp hk_64 hs_65
   exact ⟨l_52.length, by simp, ⟨col_45, (k_42 + 1), a_47, cap_48, xs_68, (ishr .u64 (IntKind.u64.wrap (carry_50 + (IntKind.u64.wrap ((IntKind.u64.wrap ((IntKind.u64.wrap x_31) * (IntKind.u64.wrap x_51))) + (IntKind.u64.wrap e_61))))) 32), l_52, rfl, hl2_L2, hm, hst, rh_13, rh_5, h_66, (congrArg (Value.int .i64) (wrap_succ (Nat.lt_of_lt_of_le hlt_L2 rh_13.1.1))), rfl, rfl, rfl, rfl, rfl, rfl, rfl, rfl, rfl, rfl, rfl⟩⟩
def m_whole_of_J1 (v_16 : Bool) (v_17 : List Int) : Option (Bool × (List Int)) :=
  some (v_16, v_17)
def m_whole_of (N : Nat) (p0_neg : Bool) (p1_mag : (List Int)) : Option (Bool × (List Int)) :=
  (m_nat_Norm N p1_mag).bind fun r_6 => if p0_neg = true then (m_whole_of_J1 (decide (0 < (r_6.length : Int))) r_6) else (m_whole_of_J1 false r_6)
theorem c_whole_of (N : Nat) (c1 : Nat) (col : Col) (w0 : World) (p0_neg : Bool) (a1 : Option Addr) (cap1 : Nat) (p1_mag : (List Int)) (h1 : Sl (Rep.int .u32) col w0 a1 cap1 p1_mag) (r : (Bool × (List Int))) (hm : m_whole_of N p0_neg p1_mag = some r) :
    Calls Tryz.prog 112 #[(.bool p0_neg), (.slice a1 p1_mag.length cap1)] w0 (fun e w' => ∃ (col' : Col) (ra1 : Option Addr) (rc2 : Nat), e = .returned ((.agg #[(.bool r.1), (.slice ra1 r.2.length rc2)])) ∧ Grow col w0 col' w' ∧ Own (Rep.int .u32) 114 c1 col' w' ra1 rc2 r.2) := by
 refine calls_ofR (m := 16) (args := [(.bool p0_neg), (.slice a1 p1_mag.length cap1)]) Tryz.func112 rfl rfl rfl ?_
 rw [m_whole_of.eq_1] at hm
 have hst := St.start col w0
 refine wS (wR ?_)
 refine l_alloc (col := (col0 col)) (v := (.agg #[(.bool false), (.slice none (([] : List Int).length) 0)])) 1 rfl Tryz.zeroValue38 ?_
 intro g_1 w_2 col_3 hg_4 hb_5
 replace hb_5 : Box 38 1 col_3 w_2 g_1 #[(.bool false), (.slice none (([] : List Int).length) 0)] := hb_5
 refine lN (wS (wR ?_))
 refine lM (.slice a1 p1_mag.length cap1) ?_
 obtain ⟨r_6, hr_7, hm⟩ := bS hm
 replace h1 := (h1.keep (Stay.start col w0)).gr hg_4
 refine lc rfl rfl (r_call1 Tryz.call106 rfl) (c_nat_Norm N 2 col_3 _ a1 cap1 p1_mag h1 r_6 hr_7) ?_
 rintro _ w_11 ⟨col_13, ra_8, rc_9, rfl, hg_12, rh_10⟩
 refine ⟨_, rfl, ?_⟩
 refine lA (.slice ra_8 r_6.length rc_9) ?_
 refine lN (wS ?_)
 replace hst := (hst.grow hg_4).grow hg_12
 replace hb_5 := hb_5.gr hg_12
 refine Wp.cut (fun f w_14 => ∃ (col_15 : Col) (v_16 : Bool) (a_18 : Option Addr) (cap_19 : Nat) (v_17 : List Int), m_whole_of_J1 v_16 v_17 = some r ∧ St w0 (col0 col) col_15 w_14 ∧ Own (Rep.int .u32) 114 3 col_15 w_14 a_18 cap_19 v_17 ∧ Box 38 1 col_15 w_14 g_1 #[(.bool v_16), (.slice a_18 v_17.length cap_19)] ∧ f 4 = (.pointer (some ⟨g_1, 0, none⟩)) ∧ f 1000000 = (enc [])) ?_ ?_
 ·intro f w_14 hJ
  obtain ⟨col_15, v_16, a_18, cap_19, v_17, hm, hst, h_20, hb_5, hs4, hs1000000⟩ := hJ
  rw [m_whole_of_J1.eq_1] at hm
  refine .lD 4 hs4 ?_
  refine .lD 1000000 hs1000000 ?_
  clear hs4 hs1000000
  refine wret ?_
  cases hm
  exact ⟨rfl, _, res_a rfl rfl Tryz.isAgg38 Tryz.sizeOf38 rfl rfl hb_5.atN, colF w0.heap.size col col_15 (fun n => bif Nat.beq n 3 then c1 else 0), a_18, cap_19, rfl, hst.fin (fun n => bif Nat.beq n 3 then c1 else 0), hst.finOwn (g := (fun n => bif Nat.beq n 3 then c1 else 0)) rfl h_20 (by decide) (by decide) rfl⟩
 refine wR ?_
 refine lM (.bool p0_neg) ?_
 refine lM (.bool p0_neg) ?_
 by_cases hg_21 : p0_neg = true
 ·rw [if_pos hg_21] at hm
  refine lg (b := p0_neg) 9 rfl rfl rfl (by rw [hg_21]; rfl) ?_
  refine lM (.slice ra_8 r_6.length rc_9) ?_
  refine lg (b := p0_neg) 9 rfl rfl rfl (by rw [hg_21]; rfl) ?_
  refine lV (.int .i64 (r_6.length : Int)) (r_len Tryz.underlying36 rfl) ?_
  refine lg (b := p0_neg) 9 rfl rfl rfl (by rw [hg_21]; rfl) ?_
  refine lV (.bool (decide (0 < (r_6.length : Int)))) (r_gtr (r_6.length : Int) 0 rfl rfl) ?_
  refine lV (.bool (decide (0 < (r_6.length : Int)))) (r_pickT (congrArg Value.bool hg_21) rfl) ?_
  refine lM (.slice ra_8 r_6.length rc_9) ?_
  refine lV (.agg #[(.bool (decide (0 < (r_6.length : Int)))), (.slice ra_8 r_6.length rc_9)]) (r_build (l := [_, _]) (qs := [(0, 1), (1, 1)]) Tryz.underlying38 Tryz.zeroValue38 ⟨rfl, Tryz.sizeOf4, rfl, Tryz.sizeOf36, trivial⟩ rfl) ?_
  refine l_bstore (v := (.agg #[(.bool (decide (0 < (r_6.length : Int)))), (.slice ra_8 r_6.length rc_9)])) hb_5 Tryz.sizeOf38 rfl rfl (by intro u hu; simp only [Value.cells, List.mem_cons, List.not_mem_nil, or_false] at hu; rcases hu with rfl | rfl <;> rfl) rfl rfl ?_
  intro w_22 hk_23 hs_24 hb_25
  clear hb_5
  replace hb_25 : Box 38 1 col_13 w_22 g_1 #[(.bool (decide (0 < (r_6.length : Int)))), (.slice ra_8 r_6.length rc_9)] := hb_25
  refine lN ?_
  replace rh_10 := rh_10.kp hk_23
  replace rh_10 := rh_10.recolSelf 3 (by decide)
  replace hb_25 := hb_25.recol 2 3 (by decide)
  replace hst := hst.kp hk_23 hs_24
  replace hst := hst.recol 2 3 (by decide) (by decide)
  exact ⟨(rcC 2 3 col_13), (decide (0 < (r_6.length : Int))), ra_8, rc_9, r_6, hm, hst, rh_10, hb_25, rfl, rfl⟩
 rw [if_neg hg_21] at hm
 replace hg_21 := Bool.eq_false_iff.2 hg_21
 refine lp (b := p0_neg) 9 rfl rfl rfl rfl (by rw [hg_21]; rfl) ?_
 refine lp (b := p0_neg) 9 rfl rfl rfl rfl (by rw [hg_21]; rfl) ?_
 refine lp (b := p0_neg) 9 rfl rfl rfl rfl (by rw [hg_21]; rfl) ?_
 refine lV (.bool false) (r_pickF (congrArg Value.bool hg_21) rfl) ?_
 refine lM (.slice ra_8 r_6.length rc_9) ?_
 refine lV (.agg #[(.bool false), (.slice ra_8 r_6.length rc_9)]) (r_build (l := [_, _]) (qs := [(0, 1), (1, 1)]) Tryz.underlying38 Tryz.zeroValue38 ⟨rfl, Tryz.sizeOf4, rfl, Tryz.sizeOf36, trivial⟩ rfl) ?_
 refine l_bstore (v := (.agg #[(.bool false), (.slice ra_8 r_6.length rc_9)])) hb_5 Tryz.sizeOf38 rfl rfl (by intro u hu; simp only [Value.cells, List.mem_cons, List.not_mem_nil, or_false] at hu; rcases hu with rfl | rfl <;> rfl) rfl rfl ?_
 intro w_26 hk_27 hs_28 hb_29
 clear hb_5
 replace hb_29 : Box 38 1 col_13 w_26 g_1 #[(.bool false), (.slice ra_8 r_6.length rc_9)] := hb_29
 refine lN ?_
 replace rh_10 := rh_10.kp hk_27
 replace rh_10 := rh_10.recolSelf 3 (by decide)
 replace hb_29 := hb_29.recol 2 3 (by decide)
 replace hst := hst.kp hk_27 hs_28
 replace hst := hst.recol 2 3 (by decide) (by decide)
 exact ⟨(rcC 2 3 col_13), false, ra_8, rc_9, r_6, hm, hst, rh_10, hb_29, rfl, rfl⟩
def m_whole_Mul (N : Nat) (p0_a : (Bool × (List Int))) (p1_b : (Bool × (List Int))) : Option (Bool × (List Int)) :=
  (m_nat_Mul N p0_a.2 p1_b.2).bind fun r_17 => (m_whole_of N (!decide (p0_a.1 = p1_b.1)) r_17).bind fun r_26 => some (r_26.1, r_26.2)
theorem c_whole_Mul (N : Nat) (c1 : Nat) (col : Col) (w0 : World) (a0_0 : Option Addr) (cap0_0 : Nat) (p0_a : (Bool × (List Int))) (a1_0 : Option Addr) (cap1_0 : Nat) (p1_b : (Bool × (List Int))) (h0_0 : Sl (Rep.int .u32) col w0 a0_0 cap0_0 p0_a.2) (h1_0 : Sl (Rep.int .u32) col w0 a1_0 cap1_0 p1_b.2) (r : (Bool × (List Int))) (hm : m_whole_Mul N p0_a p1_b = some r) :
    Calls Tryz.prog 127 #[(.agg #[(.bool p0_a.1), (.slice a0_0 p0_a.2.length cap0_0)]), (.agg #[(.bool p1_b.1), (.slice a1_0 p1_b.2.length cap1_0)])] w0 (fun e w' => ∃ (col' : Col) (ra1 : Option Addr) (rc2 : Nat), e = .returned ((.agg #[(.bool r.1), (.slice ra1 r.2.length rc2)])) ∧ Grow col w0 col' w' ∧ Own (Rep.int .u32) 114 c1 col' w' ra1 rc2 r.2) := by
 refine calls_ofR (m := 16) (args := [(.agg #[(.bool p0_a.1), (.slice a0_0 p0_a.2.length cap0_0)]), (.agg #[(.bool p1_b.1), (.slice a1_0 p1_b.2.length cap1_0)])]) Tryz.func127 rfl rfl rfl ?_
 rw [m_whole_Mul.eq_1] at hm
 have hst := St.start col w0
 refine wS (wR ?_)
 refine l_box (col := (col0 col)) (v := (.agg #[(.bool p0_a.1), (.slice a0_0 p0_a.2.length cap0_0)])) 1 rfl rfl ?_
 intro g_1 w_2 col_3 hg_4 hb_5
 replace hb_5 : Box 38 1 col_3 w_2 g_1 #[(.bool p0_a.1), (.slice a0_0 p0_a.2.length cap0_0)] := hb_5
 refine l_box (col := col_3) (v := (.agg #[(.bool p1_b.1), (.slice a1_0 p1_b.2.length cap1_0)])) 2 rfl rfl ?_
 intro g_6 w_7 col_8 hg_9 hb_10
 replace hb_10 : Box 38 2 col_8 w_7 g_6 #[(.bool p1_b.1), (.slice a1_0 p1_b.2.length cap1_0)] := hb_10
 refine l_alloc (col := col_8) (v := (.agg #[(.bool false), (.slice none (([] : List Int).length) 0)])) 3 rfl Tryz.zeroValue38 ?_
 intro g_11 w_12 col_13 hg_14 hb_15
 replace hb_15 : Box 38 3 col_13 w_12 g_11 #[(.bool false), (.slice none (([] : List Int).length) 0)] := hb_15
 refine lN (wS ?_)
 refine wmix (col := col_13) [(0, 1), (1, 0), (2, 1), (3, 0), (4, 1), (5, 1), (6, 0), (7, 1), (8, 0), (9, 3), (10, 3), (11, 2)] (by kernel_rfl) (by kernel_rfl) ?_
 refine xu (v := (.pointer ((some (⟨g_1, 0, none⟩ : Addr)).map (·.add 0)))) rfl rfl (fun _ => rF (sz := 1) (off := 0) Tryz.underlying38 rfl Tryz.sizeOf4 (by decide) rfl rfl ⟨_, _, rfl⟩) ?_
 replace hb_5 := (hb_5.gr hg_9).gr hg_14
 refine xv (v := (.bool p0_a.1)) rfl rfl (fun _ hC => r_ld Tryz.isAgg4 rfl (((hb_5.atN).nth (q := 0) (v := (.bool p0_a.1)) rfl).gr (Grow.of_below (col := col_13) hC.below))) ?_
 refine xu (v := (.pointer ((some (⟨g_6, 0, none⟩ : Addr)).map (·.add 0)))) rfl rfl (fun _ => rF (sz := 1) (off := 0) Tryz.underlying38 rfl Tryz.sizeOf4 (by decide) rfl rfl ⟨_, _, rfl⟩) ?_
 replace hb_10 := hb_10.gr hg_14
 refine xv (v := (.bool p1_b.1)) rfl rfl (fun _ hC => r_ld Tryz.isAgg4 rfl (((hb_10.atN).nth (q := 0) (v := (.bool p1_b.1)) rfl).gr (Grow.of_below (col := col_13) hC.below))) ?_
 refine xu (v := (.bool (!decide (p0_a.1 = p1_b.1)))) rfl rfl (fun _ => r_neqB p0_a.1 p1_b.1 Tryz.underlying4 rfl rfl) ?_
 refine xu (v := (.pointer ((some (⟨g_1, 0, none⟩ : Addr)).map (·.add 1)))) rfl rfl (fun _ => rF (sz := 1) (off := 1) Tryz.underlying38 rfl Tryz.sizeOf36 (by decide) rfl rfl ⟨_, _, rfl⟩) ?_
 refine xv (v := (.slice a0_0 p0_a.2.length cap0_0)) rfl rfl (fun _ hC => r_ld Tryz.isAgg36 rfl (((hb_5.atN).nth (q := 1) (v := (.slice a0_0 p0_a.2.length cap0_0)) rfl).gr (Grow.of_below (col := col_13) hC.below))) ?_
 refine xu (v := (.pointer ((some (⟨g_6, 0, none⟩ : Addr)).map (·.add 1)))) rfl rfl (fun _ => rF (sz := 1) (off := 1) Tryz.underlying38 rfl Tryz.sizeOf36 (by decide) rfl rfl ⟨_, _, rfl⟩) ?_
 refine xv (v := (.slice a1_0 p1_b.2.length cap1_0)) rfl rfl (fun _ hC => r_ld Tryz.isAgg36 rfl (((hb_10.atN).nth (q := 1) (v := (.slice a1_0 p1_b.2.length cap1_0)) rfl).gr (Grow.of_below (col := col_13) hC.below))) ?_
 refine xe rfl rfl ?_
 intro w_16 hC0
 have hC : Grow col_13 w_12 col_13 w_16 := .of_below hC0.below
 obtain ⟨r_17, hr_18, hm⟩ := bS hm
 replace h0_0 := ((((h0_0.keep (Stay.start col w0)).gr hg_4).gr hg_9).gr hg_14).gr hC
 replace h1_0 := ((((h1_0.keep (Stay.start col w0)).gr hg_4).gr hg_9).gr hg_14).gr hC
 refine lc rfl rfl (r_call2 Tryz.call40 rfl rfl) (c_nat_Mul N 4 col_13 _ a0_0 cap0_0 p0_a.2 a1_0 cap1_0 p1_b.2 h0_0 h1_0 r_17 hr_18) ?_
 rintro _ w_22 ⟨col_24, ra_19, rc_20, rfl, hg_23, rh_21⟩
 refine ⟨_, rfl, ?_⟩
 refine lN ⟨fun w' => Grow col_24 w_22 col_24 w', Grow.refl _ _, fun _ _ h => cls hC0 hg_23 h, ?_⟩
 refine xe rfl rfl ?_
 intro w_25 hC0
 replace hst := ((((hst.grow hg_4).grow hg_9).grow hg_14).grow hC).grow hg_23
 replace hb_15 := (hb_15.gr hC).gr hg_23
 have hC : Grow col_24 w_22 col_24 w_25 := .of_below hC0.below
 obtain ⟨r_26, hr_27, hm⟩ := bS hm
 replace rh_21 := rh_21.gr hC
 refine lc rfl rfl (r_call2 Tryz.call112 rfl rfl) (c_whole_of N 5 (frC 4 col_24) _ (!decide (p0_a.1 = p1_b.1)) ra_19 rc_20 r_17 (rh_21.toSlF (Froz.int .u32)) r_26 hr_27) ?_
 rintro _ w_31 ⟨col_33, ra_28, rc_29, rfl, hg_32, rh_30⟩
 refine ⟨_, rfl, ?_⟩
 replace rh_30 := rh_30.thaw (flat_int .u32) hg_32 ((Fz.refl (col := col_24)).froz 4) (by decide)
 replace hg_32 := hg_32.thawR (col := col_24)
 generalize colR w_25.heap.size col_24 col_33 = col_34 at *
 refine lN ⟨fun w' => Grow col_34 w_31 col_34 w', Grow.refl _ _, fun _ _ h => cls hC0 hg_32 h, ?_⟩
 refine xe rfl rfl ?_
 intro w_35 hC0
 replace hb_15 := (hb_15.gr hC).gr hg_32
 replace hst := (hst.grow hC).grow hg_32
 have hC : Grow col_34 w_31 col_34 w_35 := .of_below hC0.below
 replace hb_15 := hb_15.gr hC
 refine l_bstore (v := (.agg #[(.bool r_26.1), (.slice ra_28 r_26.2.length rc_29)])) hb_15 Tryz.sizeOf38 rfl rfl (by intro u hu; simp only [Value.cells, List.mem_cons, List.not_mem_nil, or_false] at hu; rcases hu with rfl | rfl <;> rfl) rfl rfl ?_
 intro w_36 hk_37 hs_38 hb_39
 clear hb_15
 replace hb_39 : Box 38 3 col_34 w_36 g_11 #[(.bool r_26.1), (.slice ra_28 r_26.2.length rc_29)] := hb_39
 refine lN ⟨fun w' => Grow col_34 w_36 col_34 w', Grow.refl _ _, fun h => absurd h (by decide), ?_⟩
 refine xnil ?_
 replace rh_30 := (rh_30.gr hC).kp hk_37
 replace hst := (hst.grow hC).kp hk_37 hs_38
 intro w_40 hC
 replace hC : Grow col_34 w_36 col_34 w_40 := .of_below hC.below
 refine wret ?_
 cases hm
 replace rh_30 := rh_30.gr hC
 replace hb_39 := hb_39.gr hC
 replace hst := hst.grow hC
 exact ⟨rfl, _, res_a rfl rfl Tryz.isAgg38 Tryz.sizeOf38 rfl rfl hb_39.atN, colF w0.heap.size col col_34 (fun n => bif Nat.beq n 5 then c1 else 0), ra_28, rc_29, rfl, hst.fin (fun n => bif Nat.beq n 5 then c1 else 0), hst.finOwn (g := (fun n => bif Nat.beq n 5 then c1 else 0)) rfl rh_30 (by decide) (by decide) rfl⟩
def m_frac_over (N : Nat) (p0_a : (Bool × (List Int))) (p1_n : (List Int)) : Option (Bool × (List Int)) :=
  (m_whole_Mul N (p0_a.1, p0_a.2) (false, p1_n)).bind fun r_11 => some (r_11.1, r_11.2)
theorem c_frac_over (N : Nat) (c1 : Nat) (col : Col) (w0 : World) (a0_0 : Option Addr) (cap0_0 : Nat) (p0_a : (Bool × (List Int))) (a1 : Option Addr) (cap1 : Nat) (p1_n : (List Int)) (h0_0 : Sl (Rep.int .u32) col w0 a0_0 cap0_0 p0_a.2) (h1 : Sl (Rep.int .u32) col w0 a1 cap1 p1_n) (r : (Bool × (List Int))) (hm : m_frac_over N p0_a p1_n = some r) :
    Calls Tryz.prog 81 #[(.agg #[(.bool p0_a.1), (.slice a0_0 p0_a.2.length cap0_0)]), (.slice a1 p1_n.length cap1)] w0 (fun e w' => ∃ (col' : Col) (ra1 : Option Addr) (rc2 : Nat), e = .returned ((.agg #[(.bool r.1), (.slice ra1 r.2.length rc2)])) ∧ Grow col w0 col' w' ∧ Own (Rep.int .u32) 114 c1 col' w' ra1 rc2 r.2) := by
 refine calls_ofR (m := 9) (args := [(.agg #[(.bool p0_a.1), (.slice a0_0 p0_a.2.length cap0_0)]), (.slice a1 p1_n.length cap1)]) Tryz.func81 rfl rfl rfl ?_
 rw [m_frac_over.eq_1] at hm
 have hst := St.start col w0
 refine wS (wR ?_)
 refine l_box (col := (col0 col)) (v := (.agg #[(.bool p0_a.1), (.slice a0_0 p0_a.2.length cap0_0)])) 1 rfl rfl ?_
 intro g_1 w_2 col_3 hg_4 hb_5
 replace hb_5 : Box 38 1 col_3 w_2 g_1 #[(.bool p0_a.1), (.slice a0_0 p0_a.2.length cap0_0)] := hb_5
 refine l_alloc (col := col_3) (v := (.agg #[(.bool false), (.slice none (([] : List Int).length) 0)])) 2 rfl Tryz.zeroValue38 ?_
 intro g_6 w_7 col_8 hg_9 hb_10
 replace hb_10 : Box 38 2 col_8 w_7 g_6 #[(.bool false), (.slice none (([] : List Int).length) 0)] := hb_10
 refine lN (wS (wR ?_))
 replace hb_5 := hb_5.gr hg_9
 refine lV (.agg #[(.bool p0_a.1), (.slice a0_0 p0_a.2.length cap0_0)]) (r_ldN Tryz.isAgg38 Tryz.sizeOf38 rfl rfl hb_5.atN) ?_
 refine lM (.slice a1 p1_n.length cap1) ?_
 refine lV (.agg #[(.bool false), (.slice a1 p1_n.length cap1)]) (r_build (l := [_, _]) (qs := [(0, 1), (1, 1)]) Tryz.underlying38 Tryz.zeroValue38 ⟨rfl, Tryz.sizeOf4, rfl, Tryz.sizeOf36, trivial⟩ rfl) ?_
 obtain ⟨r_11, hr_12, hm⟩ := bS hm
 replace h0_0 := ((h0_0.keep (Stay.start col w0)).gr hg_4).gr hg_9
 replace h1 := ((h1.keep (Stay.start col w0)).gr hg_4).gr hg_9
 refine lc rfl rfl (r_call2 Tryz.call127 rfl rfl) (c_whole_Mul N 3 col_8 _ a0_0 cap0_0 (p0_a.1, p0_a.2) a1 cap1 (false, p1_n) h0_0 h1 r_11 hr_12) ?_
 rintro _ w_16 ⟨col_18, ra_13, rc_14, rfl, hg_17, rh_15⟩
 refine ⟨_, rfl, ?_⟩
 replace hb_10 := hb_10.gr hg_17
 refine l_bstore (v := (.agg #[(.bool r_11.1), (.slice ra_13 r_11.2.length rc_14)])) hb_10 Tryz.sizeOf38 rfl rfl (by intro u hu; simp only [Value.cells, List.mem_cons, List.not_mem_nil, or_false] at hu; rcases hu with rfl | rfl <;> rfl) rfl rfl ?_
 intro w_19 hk_20 hs_21 hb_22
 clear hb_10
 replace hb_22 : Box 38 2 col_18 w_19 g_6 #[(.bool r_11.1), (.slice ra_13 r_11.2.length rc_14)] := hb_22
 refine lN ?_
 refine wret ?_
 cases hm
 replace hst := (((hst.grow hg_4).grow hg_9).grow hg_17).kp hk_20 hs_21
 replace rh_15 := rh_15.kp hk_20
 exact ⟨rfl, _, res_a rfl rfl Tryz.isAgg38 Tryz.sizeOf38 rfl rfl hb_22.atN, colF w0.heap.size col col_18 (fun n => bif Nat.beq n 3 then c1 else 0), ra_13, rc_14, rfl, hst.fin (fun n => bif Nat.beq n 3 then c1 else 0), hst.finOwn (g := (fun n => bif Nat.beq n 3 then c1 else 0)) rfl rh_15 (by decide) (by decide) rfl⟩
def m_nat_Add_J2 (k_33 : Nat) (kk_L1 : (Nat → (List Int) → Int → Option (List Int))) (sum_63 : List Int) (carry_67 : Int) : Option (List Int) :=
  kk_L1 (k_33 + 1) sum_63 carry_67
def m_nat_Add_J3 (k_33 : Nat) (sum_37 : List Int) (kk_L1 : (Nat → (List Int) → Int → Option (List Int))) (carry_70 : Int) : Option (List Int) :=
  (at? sum_37 (k_33 : Int)).bind fun e_71 => (some (sum_37.set (Int.toNat (k_33 : Int)) (IntKind.u32.wrap carry_70))).bind fun xs_78 => m_nat_Add_J2 k_33 kk_L1 xs_78 (ishr .u64 carry_70 32)
def m_nat_Add_L1 (N : Nat) (a_19 : List Int) (b_23 : List Int) : List Int → Nat → (List Int) → Int → Option (List Int)
  | [], k_33, sum_37, carry_41 => (at? sum_37 (a_19.length : Int)).bind fun e_44 => (some (sum_37.set (Int.toNat (a_19.length : Int)) (IntKind.u32.wrap carry_41))).bind fun xs_51 => (m_nat_own N xs_51).bind fun r_52 => some r_52
  | x_42 :: l_43, k_33, sum_37, carry_41 => if (decide ((k_33 : Int) < (b_23.length : Int))) = true then ((at? b_23 (k_33 : Int)).bind fun e_79 => m_nat_Add_J3 k_33 sum_37 (m_nat_Add_L1 N a_19 b_23 l_43) (IntKind.u64.wrap ((IntKind.u64.wrap (carry_41 + (IntKind.u64.wrap x_42))) + (IntKind.u64.wrap e_79)))) else (m_nat_Add_J3 k_33 sum_37 (m_nat_Add_L1 N a_19 b_23 l_43) (IntKind.u64.wrap (carry_41 + (IntKind.u64.wrap x_42))))
termination_by structural x => x
def m_nat_Add_J1 (N : Nat) (a_19 : List Int) (b_23 : List Int) : Option (List Int) :=
  chk ((Int.toNat (IntKind.i64.wrap ((a_19.length : Int) + 1))) * 4 ≤ 281474976710656 ∧ (Int.toNat (IntKind.i64.wrap ((a_19.length : Int) + 1))) ≤ maxLen ∧ 0 ≤ (IntKind.i64.wrap ((a_19.length : Int) + 1))) (m_nat_Add_L1 N a_19 b_23 a_19 0 (List.replicate (Int.toNat (IntKind.i64.wrap ((a_19.length : Int) + 1))) (0 : Int)) 0)
def m_nat_Add (N : Nat) (p0_a : (List Int)) (p1_b : (List Int)) : Option (List Int) :=
  (m_nat_trim N p0_a).bind fun r_1 => (m_nat_trim N p1_b).bind fun r_9 => if (decide ((r_1.length : Int) < (r_9.length : Int))) = true then (m_nat_Add_J1 N r_9 r_1) else (m_nat_Add_J1 N r_1 r_9)
theorem c_nat_Add (N : Nat) (c1 : Nat) (col : Col) (w0 : World) (a0 : Option Addr) (cap0 : Nat) (p0_a : (List Int)) (a1 : Option Addr) (cap1 : Nat) (p1_b : (List Int)) (h0 : Sl (Rep.int .u32) col w0 a0 cap0 p0_a) (h1 : Sl (Rep.int .u32) col w0 a1 cap1 p1_b) (r : (List Int)) (hm : m_nat_Add N p0_a p1_b = some r) :
    Calls Tryz.prog 125 #[(.slice a0 p0_a.length cap0), (.slice a1 p1_b.length cap1)] w0 (fun e w' => ∃ (col' : Col) (ra1 : Option Addr) (rc2 : Nat), e = .returned ((.slice ra1 r.length rc2)) ∧ Grow col w0 col' w' ∧ Own (Rep.int .u32) 114 c1 col' w' ra1 rc2 r) := by
 refine calls_of1 4 (m := 62) (args := [(.slice a0 p0_a.length cap0), (.slice a1 p1_b.length cap1)]) Tryz.func125 rfl rfl rfl rfl rfl ?_
 rw [m_nat_Add.eq_1] at hm
 have hst := St.start col w0
 refine wS (wR ?_)
 refine lA (.slice none (([] : List Int).length) 0) ?_
 refine lN (wS (wR ?_))
 refine lM (.slice a0 p0_a.length cap0) ?_
 obtain ⟨r_1, hr_2, hm⟩ := bS hm
 replace h0 := h0.keep (Stay.start col w0)
 refine lc rfl rfl (r_call1 Tryz.call88 rfl) (c_nat_trim N (col0 col) _ a0 cap0 p0_a h0 r_1 hr_2) ?_
 rintro _ w_6 ⟨col_8, ra_3, rc_4, rfl, hg_7, rh_5⟩
 refine ⟨_, rfl, ?_⟩
 refine lM (.slice a1 p1_b.length cap1) ?_
 obtain ⟨r_9, hr_10, hm⟩ := bS hm
 replace h1 := (h1.keep (Stay.start col w0)).gr hg_7
 refine lc rfl rfl (r_call1 Tryz.call88 rfl) (c_nat_trim N col_8 _ a1 cap1 p1_b h1 r_9 hr_10) ?_
 rintro _ w_14 ⟨col_16, ra_11, rc_12, rfl, hg_15, rh_13⟩
 refine ⟨_, rfl, ?_⟩
 refine lA (.slice ra_3 r_1.length rc_4) ?_
 refine lA (.slice ra_11 r_9.length rc_12) ?_
 refine lN (wS ?_)
 replace hst := (hst.grow hg_7).grow hg_15
 replace rh_5 := rh_5.gr hg_15
 refine Wp.cut (fun f w_17 => ∃ (col_18 : Col) (a_20 : Option Addr) (cap_21 : Nat) (a_19 : List Int) (a_24 : Option Addr) (cap_25 : Nat) (b_23 : List Int), m_nat_Add_J1 N a_19 b_23 = some r ∧ St w0 (col0 col) col_18 w_17 ∧ Sl (Rep.int .u32) col_18 w_17 a_20 cap_21 a_19 ∧ Sl (Rep.int .u32) col_18 w_17 a_24 cap_25 b_23 ∧ f 0 = (.slice a_20 a_19.length cap_21) ∧ f 1 = (.slice a_24 b_23.length cap_25) ∧ f 1000000 = (enc [])) ?_ ?_
 ·intro f w_17 hJ
  obtain ⟨col_18, a_20, cap_21, a_19, a_24, cap_25, b_23, hm, hst, h_22, h_26, hs0, hs1, hs1000000⟩ := hJ
  rw [m_nat_Add_J1.eq_1] at hm
  refine .lD 0 hs0 ?_
  refine .lD 1 hs1 ?_
  refine .lD 1000000 hs1000000 ?_
  clear hs0 hs1 hs1000000
  refine wS (wR ?_)
  refine lM (.slice a_20 a_19.length cap_21) ?_
  refine lV (.int .i64 (a_19.length : Int)) (r_len Tryz.underlying36 rfl) ?_
  refine lV (.int .i64 (IntKind.i64.wrap ((a_19.length : Int) + 1))) (r_add (a_19.length : Int) 1 rfl rfl) ?_
  obtain ⟨hb_27, hm⟩ := cS hm
  refine l_make (col := col_18) (w := w_17) (r := (Rep.int .u32)) (n := (Int.toNat (IntKind.i64.wrap ((a_19.length : Int) + 1)))) (x0 := 0) 1 rfl Tryz.underlying36 Tryz.t114 rfl rfl rfl rfl rfl (congrArg (Value.int _) (Int.toNat_of_nonneg hb_27.2.2).symm) (congrArg (Value.int _) (Int.toNat_of_nonneg hb_27.2.2).symm) hb_27.1 hb_27.2.1 (rd_int .u32 0) ?_
  intro a_28 w_29 col_30 hg_31 h_32
  refine lA (.slice a_28 ((List.replicate (Int.toNat (IntKind.i64.wrap ((a_19.length : Int) + 1))) (0 : Int)).length) (Int.toNat (IntKind.i64.wrap ((a_19.length : Int) + 1)))) ?_
  refine lN (wS (wR ?_))
  refine lA (.int .u64 0) ?_
  refine lN (wS (wS (wR ?_)))
  refine lM (.slice a_20 a_19.length cap_21) ?_
  refine lV (.int .i64 (a_19.length : Int)) (r_len Tryz.underlying36 rfl) ?_
  refine lM (.int .i64 0) ?_
  refine lN (wB ?_)
  replace h_22 := h_22.gr hg_31
  replace h_26 := h_26.gr hg_31
  replace hst := hst.grow hg_31
  refine wloop (fun n f w_35 => ∃ (col_36 : Col) (k_33 : Nat) (a_38 : Option Addr) (cap_39 : Nat) (sum_37 : List Int) (carry_41 : Int) (l_34 : List Int), n = l_34.length ∧ a_19.drop k_33 = l_34 ∧ m_nat_Add_L1 N a_19 b_23 l_34 k_33 sum_37 carry_41 = some r ∧ St w0 (col0 col) col_36 w_35 ∧ Sl (Rep.int .u32) col_36 w_35 a_20 cap_21 a_19 ∧ Sl (Rep.int .u32) col_36 w_35 a_24 cap_25 b_23 ∧ Own (Rep.int .u32) 114 1 col_36 w_35 a_38 cap_39 sum_37 ∧ f 26 = (.int .i64 (k_33 : Int)) ∧ f 0 = (.slice a_20 a_19.length cap_21) ∧ f 1 = (.slice a_24 b_23.length cap_25) ∧ f 24 = (.slice a_20 a_19.length cap_21) ∧ f 25 = (.int .i64 (a_19.length : Int)) ∧ f 5 = (.slice a_38 sum_37.length cap_39) ∧ f 6 = (.int .u64 carry_41) ∧ f 1000000 = (enc [])) a_19.length ⟨col_30, 0, a_28, (Int.toNat (IntKind.i64.wrap ((a_19.length : Int) + 1))), (List.replicate (Int.toNat (IntKind.i64.wrap ((a_19.length : Int) + 1))) (0 : Int)), 0, a_19, rfl, rfl, hm, hst, h_22, h_26, h_32, rfl, rfl, rfl, rfl, rfl, rfl, rfl, rfl⟩ ?_
  clear hm; intro n f w_35 hI
  obtain ⟨col_36, k_33, a_38, cap_39, sum_37, carry_41, l_34, hn, hl, hm, hst, h_22, h_26, h_40, hs26, hs0, hs1, hs24, hs25, hs5, hs6, hs1000000⟩ := hI
  subst hn
  refine .lD 26 hs26 ?_
  refine .lD 0 hs0 ?_
  refine .lD 1 hs1 ?_
  refine .lD 24 hs24 ?_
  refine .lD 25 hs25 ?_
  refine .lD 5 hs5 ?_
  refine .lD 6 hs6 ?_
  refine .lD 1000000 hs1000000 ?_
  clear hs26 hs0 hs1 hs24 hs25 hs5 hs6 hs1000000
  cases l_34 with
  | nil =>
   have hk : ¬ ((k_33 : Int) < (a_19.length : Int)) := by have := List.drop_eq_nil_iff.1 hl; omega
   have hkb := decide_eq_false hk
   rw [m_nat_Add_L1.eq_1] at hm
   refine wS (wR ?_)
   refine lV (.bool (decide ((k_33 : Int) < (a_19.length : Int)))) (r_lss (k_33 : Int) (a_19.length : Int) rfl rfl) ?_
   refine lN (wS ?_)
   refine wcondF (congrArg Value.bool hkb) ?_
   refine wexit (inB_hit ?_)
   refine wS (wR ?_)
   refine lM (.slice a_38 sum_37.length cap_39) ?_
   refine lM (.slice a_20 a_19.length cap_21) ?_
   refine lV (.int .i64 (a_19.length : Int)) (r_len Tryz.underlying36 rfl) ?_
   refine lM (.int .u64 carry_41) ?_
   refine lV (.int .u32 (IntKind.u32.wrap carry_41)) (r_conv carry_41 ⟨_, Tryz.underlying108⟩ Tryz.underlying114 rfl) ?_
   obtain ⟨e_44, hj_45, hm⟩ := bS hm
   refine lV (sptr a_38 (Int.toNat (a_19.length : Int) * 1)) (r_idx Tryz.underlying36 Tryz.sizeOf114 rfl rfl (at?_some hj_45).1 (at?_some hj_45).2.1 (h_40.addr hj_45)) ?_
   obtain ⟨xs_51, hz_50, hm⟩ := bS hm
   have hz_50 : xs_51 = sum_37.set (Int.toNat (a_19.length : Int)) (IntKind.u32.wrap carry_41) := (Option.some.inj hz_50).symm
   refine l_store (x1 := IntKind.u32.wrap carry_41) (v := (.int .u32 (IntKind.u32.wrap carry_41))) h_40 hj_45 rfl Tryz.sizeOf114 (rd_int .u32 (IntKind.u32.wrap carry_41)) rfl rfl (by decide) ?_
   intro w_46 hk_47 hs_48 h_49
   rw [← hz_50] at h_49
   refine .ld (d := 5) (v := (.slice a_38 xs_51.length cap_39)) (congrArg (fun n => Value.slice a_38 n cap_39) (show sum_37.length = xs_51.length by rw [hz_50, List.length_set])) ?_
   clear h_40
   refine lN (wS (wR ?_))
   refine lM (.slice a_38 xs_51.length cap_39) ?_
   obtain ⟨r_52, hr_53, hm⟩ := bS hm
   refine lc rfl rfl (r_call1 Tryz.call89 rfl) (c_nat_own N 2 (frC 1 col_36) _ a_38 cap_39 xs_51 (h_49.toSlF (Froz.int .u32)) r_52 hr_53) ?_
   rintro _ w_57 ⟨col_59, ra_54, rc_55, rfl, hg_58, rh_56⟩
   refine ⟨_, rfl, ?_⟩
   replace rh_56 := rh_56.thaw (flat_int .u32) hg_58 ((Fz.refl (col := col_36)).froz 1) (by decide)
   replace hg_58 := hg_58.thawR (col := col_36)
   generalize colR w_46.heap.size col_36 col_59 = col_60 at *
   refine lA (.slice ra_54 r_52.length rc_55) ?_
   refine lN ?_
   refine wret ?_
   cases hm
   replace hst := (hst.kp hk_47 hs_48).grow hg_58
   exact ⟨rfl, colF w0.heap.size col col_60 (fun n => bif Nat.beq n 2 then c1 else 0), ra_54, rc_55, rfl, hst.fin (fun n => bif Nat.beq n 2 then c1 else 0), hst.finOwn (g := (fun n => bif Nat.beq n 2 then c1 else 0)) rfl rh_56 (by decide) (by decide) rfl⟩
  | cons x_42 l_43 =>
   obtain ⟨hat, hl2_L1, hlt_L1⟩ := drop_get hl
   have hk : (k_33 : Int) < (a_19.length : Int) := by omega
   have hkb := decide_eq_true hk
   rw [m_nat_Add_L1.eq_2] at hm
   refine wS (wR ?_)
   refine lV (.bool (decide ((k_33 : Int) < (a_19.length : Int)))) (r_lss (k_33 : Int) (a_19.length : Int) rfl rfl) ?_
   refine lN (wS ?_)
   refine wcondT (congrArg Value.bool hkb) ?_
   refine wK (wS ?_)
   refine Wp.cut (fun f w_61 => ∃ (col_62 : Col) (a_64 : Option Addr) (cap_65 : Nat) (sum_63 : List Int) (carry_67 : Int), m_nat_Add_J2 k_33 (m_nat_Add_L1 N a_19 b_23 l_43) sum_63 carry_67 = some r ∧ St w0 (col0 col) col_62 w_61 ∧ Sl (Rep.int .u32) col_62 w_61 a_20 cap_21 a_19 ∧ Sl (Rep.int .u32) col_62 w_61 a_24 cap_25 b_23 ∧ Own (Rep.int .u32) 114 1 col_62 w_61 a_64 cap_65 sum_63 ∧ f 0 = (.slice a_20 a_19.length cap_21) ∧ f 1 = (.slice a_24 b_23.length cap_25) ∧ f 24 = (.slice a_20 a_19.length cap_21) ∧ f 25 = (.int .i64 (a_19.length : Int)) ∧ f 26 = (.int .i64 (k_33 : Int)) ∧ f 5 = (.slice a_64 sum_63.length cap_65) ∧ f 6 = (.int .u64 carry_67) ∧ f 1000000 = (enc [])) ?_ ?_
   ·intro f w_61 hJ
    obtain ⟨col_62, a_64, cap_65, sum_63, carry_67, hm, hst, h_22, h_26, h_66, hs0, hs1, hs24, hs25, hs26, hs5, hs6, hs1000000⟩ := hJ
    rw [m_nat_Add_J2.eq_1] at hm
    refine .lD 0 hs0 ?_
    refine .lD 1 hs1 ?_
    refine .lD 24 hs24 ?_
    refine .lD 25 hs25 ?_
    refine .lD 26 hs26 ?_
    refine .lD 5 hs5 ?_
    refine .lD 6 hs6 ?_
    refine .lD 1000000 hs1000000 ?_
    clear hs0 hs1 hs24 hs25 hs26 hs5 hs6 hs1000000
    refine wR ?_
    refine lV (.int .i64 (IntKind.i64.wrap ((k_33 : Int) + 1))) (r_add (k_33 : Int) 1 rfl rfl) ?_
    refine lM (.int .i64 (IntKind.i64.wrap ((k_33 : Int) + 1))) ?_
    refine lN ?_
    exact ⟨l_43.length, by simp, ⟨col_62, (k_33 + 1), a_64, cap_65, sum_63, carry_67, l_43, rfl, hl2_L1, hm, hst, h_22, h_26, h_66, (congrArg (Value.int .i64) (wrap_succ (Nat.lt_of_lt_of_le hlt_L1 h_22.1.1))), rfl, rfl, rfl, rfl, rfl, rfl, rfl⟩⟩
   refine wB (wS (wR ?_))
   refine lM (.int .i64 (k_33 : Int)) ?_
   refine lV (sptr a_20 (Int.toNat (k_33 : Int) * 1)) (r_idx Tryz.underlying36 Tryz.sizeOf114 rfl rfl (at?_some hat).1 (at?_some hat).2.1 (h_22.addr hat)) ?_
   refine lV (.int .u32 x_42) (r_ld Tryz.isAgg114 rfl (h_22.atInt hat)) ?_
   refine lA (.int .i64 (k_33 : Int)) ?_
   refine lA (.int .u32 x_42) ?_
   refine lN (wS (wR ?_))
   refine lM (.int .u64 carry_41) ?_
   refine lM (.int .u32 x_42) ?_
   refine lV (.int .u64 (IntKind.u64.wrap x_42)) (r_conv x_42 ⟨_, Tryz.underlying114⟩ Tryz.underlying108 rfl) ?_
   refine lV (.int .u64 (IntKind.u64.wrap (carry_41 + (IntKind.u64.wrap x_42)))) (r_add carry_41 (IntKind.u64.wrap x_42) rfl rfl) ?_
   refine lA (.int .u64 (IntKind.u64.wrap (carry_41 + (IntKind.u64.wrap x_42)))) ?_
   refine lN (wS ?_)
   refine Wp.cut (fun f w_68 => ∃ (col_69 : Col) (carry_70 : Int), m_nat_Add_J3 k_33 sum_37 (m_nat_Add_L1 N a_19 b_23 l_43) carry_70 = some r ∧ St w0 (col0 col) col_69 w_68 ∧ Sl (Rep.int .u32) col_69 w_68 a_20 cap_21 a_19 ∧ Sl (Rep.int .u32) col_69 w_68 a_24 cap_25 b_23 ∧ Own (Rep.int .u32) 114 1 col_69 w_68 a_38 cap_39 sum_37 ∧ f 0 = (.slice a_20 a_19.length cap_21) ∧ f 1 = (.slice a_24 b_23.length cap_25) ∧ f 24 = (.slice a_20 a_19.length cap_21) ∧ f 25 = (.int .i64 (a_19.length : Int)) ∧ f 26 = (.int .i64 (k_33 : Int)) ∧ f 5 = (.slice a_38 sum_37.length cap_39) ∧ f 6 = (.int .u64 carry_70) ∧ f 7 = (.int .i64 (k_33 : Int)) ∧ f 1000000 = (enc [])) ?_ ?_
   ·intro f w_68 hJ
    obtain ⟨col_69, carry_70, hm, hst, h_22, h_26, h_40, hs0, hs1, hs24, hs25, hs26, hs5, hs6, hs7, hs1000000⟩ := hJ
    rw [m_nat_Add_J3.eq_1] at hm
    refine .lD 0 hs0 ?_
    refine .lD 1 hs1 ?_
    refine .lD 24 hs24 ?_
    refine .lD 25 hs25 ?_
    refine .lD 26 hs26 ?_
    refine .lD 5 hs5 ?_
    refine .lD 6 hs6 ?_
    refine .lD 7 hs7 ?_
    refine .lD 1000000 hs1000000 ?_
    clear hs0 hs1 hs24 hs25 hs26 hs5 hs6 hs7 hs1000000
    refine wS (wR ?_)
    refine lM (.slice a_38 sum_37.length cap_39) ?_
    refine lM (.int .i64 (k_33 : Int)) ?_
    refine lM (.int .u64 carry_70) ?_
    refine lV (.int .u32 (IntKind.u32.wrap carry_70)) (r_conv carry_70 ⟨_, Tryz.underlying108⟩ Tryz.underlying114 rfl) ?_
    obtain ⟨e_71, hj_72, hm⟩ := bS hm
    refine lV (sptr a_38 (Int.toNat (k_33 : Int) * 1)) (r_idx Tryz.underlying36 Tryz.sizeOf114 rfl rfl (at?_some hj_72).1 (at?_some hj_72).2.1 (h_40.addr hj_72)) ?_
    obtain ⟨xs_78, hz_77, hm⟩ := bS hm
    have hz_77 : xs_78 = sum_37.set (Int.toNat (k_33 : Int)) (IntKind.u32.wrap carry_70) := (Option.some.inj hz_77).symm
    refine l_store (x1 := IntKind.u32.wrap carry_70) (v := (.int .u32 (IntKind.u32.wrap carry_70))) h_40 hj_72 rfl Tryz.sizeOf114 (rd_int .u32 (IntKind.u32.wrap carry_70)) rfl rfl (by decide) ?_
    intro w_73 hk_74 hs_75 h_76
    rw [← hz_77] at h_76
    refine .ld (d := 5) (v := (.slice a_38 xs_78.length cap_39)) (congrArg (fun n => Value.slice a_38 n cap_39) (show sum_37.length = xs_78.length by rw [hz_77, List.length_set])) ?_
    clear h_40
    refine lN (wR ?_)
    refine lM (.int .u64 carry_70) ?_
    refine lV (.int .u64 (ishr .u64 carry_70 32)) (r_shr carry_70 32 rfl rfl (by decide)) ?_
    refine lA (.int .u64 (ishr .u64 carry_70 32)) ?_
    refine lN ?_
    replace h_22 := h_22.kp hk_74
    replace h_26 := h_26.kp hk_74
    replace hst := hst.kp hk_74 hs_75
    exact ⟨col_69, a_38, cap_39, xs_78, (ishr .u64 carry_70 32), hm, hst, h_22, h_26, h_76, rfl, rfl, rfl, rfl, rfl, rfl, rfl, rfl⟩
   refine wS (wR ?_)
   refine lM (.int .i64 (k_33 : Int)) ?_
   refine lM (.slice a_24 b_23.length cap_25) ?_
   refine lV (.int .i64 (b_23.length : Int)) (r_len Tryz.underlying36 rfl) ?_
   refine lV (.bool (decide ((k_33 : Int) < (b_23.length : Int)))) (r_lss (k_33 : Int) (b_23.length : Int) rfl rfl) ?_
   refine lN ?_
   refine wcond (decide ((k_33 : Int) < (b_23.length : Int))) rfl (fun hb => ?_) (fun hb => ?_)
   ·rw [if_pos hb] at hm
    clear hb
    refine wR ?_
    refine lM (.int .u64 (IntKind.u64.wrap (carry_41 + (IntKind.u64.wrap x_42)))) ?_
    refine lM (.slice a_24 b_23.length cap_25) ?_
    refine lM (.int .i64 (k_33 : Int)) ?_
    obtain ⟨e_79, hj_80, hm⟩ := bS hm
    refine lV (sptr a_24 (Int.toNat (k_33 : Int) * 1)) (r_idx Tryz.underlying36 Tryz.sizeOf114 rfl rfl (at?_some hj_80).1 (at?_some hj_80).2.1 (h_26.addr hj_80)) ?_
    refine lV (.int .u32 e_79) (r_ld Tryz.isAgg114 rfl (h_26.atInt hj_80)) ?_
    refine lV (.int .u64 (IntKind.u64.wrap e_79)) (r_conv e_79 ⟨_, Tryz.underlying114⟩ Tryz.underlying108 rfl) ?_
    refine lV (.int .u64 (IntKind.u64.wrap ((IntKind.u64.wrap (carry_41 + (IntKind.u64.wrap x_42))) + (IntKind.u64.wrap e_79)))) (r_add (IntKind.u64.wrap (carry_41 + (IntKind.u64.wrap x_42))) (IntKind.u64.wrap e_79) rfl rfl) ?_
    refine lA (.int .u64 (IntKind.u64.wrap ((IntKind.u64.wrap (carry_41 + (IntKind.u64.wrap x_42))) + (IntKind.u64.wrap e_79)))) ?_
    refine lN ?_
    exact ⟨col_36, (IntKind.u64.wrap ((IntKind.u64.wrap (carry_41 + (IntKind.u64.wrap x_42))) + (IntKind.u64.wrap e_79))), hm, hst, h_22, h_26, h_40, rfl, rfl, rfl, rfl, rfl, rfl, rfl, rfl, rfl⟩
   rw [if_neg (by rw [hb]; decide)] at hm
   clear hb
   refine wK ?_
   exact ⟨col_36, (IntKind.u64.wrap (carry_41 + (IntKind.u64.wrap x_42))), hm, hst, h_22, h_26, h_40, rfl, rfl, rfl, rfl, rfl, rfl, rfl, rfl, rfl⟩
 refine wS (wR ?_)
 refine lM (.slice ra_3 r_1.length rc_4) ?_
 refine lV (.int .i64 (r_1.length : Int)) (r_len Tryz.underlying36 rfl) ?_
 refine lM (.slice ra_11 r_9.length rc_12) ?_
 refine lV (.int .i64 (r_9.length : Int)) (r_len Tryz.underlying36 rfl) ?_
 refine lV (.bool (decide ((r_1.length : Int) < (r_9.length : Int)))) (r_lss (r_1.length : Int) (r_9.length : Int) rfl rfl) ?_
 refine lN ?_
 refine wcond (decide ((r_1.length : Int) < (r_9.length : Int))) rfl (fun hb => ?_) (fun hb => ?_)
 ·rw [if_pos hb] at hm
  clear hb
  refine wR ?_
  refine lM (.slice ra_11 r_9.length rc_12) ?_
  refine lM (.slice ra_3 r_1.length rc_4) ?_
  refine lA (.slice ra_11 r_9.length rc_12) ?_
  refine lA (.slice ra_3 r_1.length rc_4) ?_
  refine lN ?_
  exact ⟨col_16, ra_11, rc_12, r_9, ra_3, rc_4, r_1, hm, hst, rh_13, rh_5, rfl, rfl, rfl⟩
 rw [if_neg (by rw [hb]; decide)] at hm
 clear hb
 refine wK ?_
 exact ⟨col_16, ra_3, rc_4, r_1, ra_11, rc_12, r_9, hm, hst, rh_5, rh_13, rfl, rfl, rfl⟩
def m_nat_Cmp_L1 (N : Nat) (r_1 : (List Int)) (r_9 : (List Int)) : Nat → Int → Option Int
  | 0, _ => none
  | n_17 + 1, i_20 => if (decide (0 ≤ i_20)) = true then ((at? r_1 i_20).bind fun e_21 => (at? r_9 i_20).bind fun e_23 => if (decide (e_21 < e_23)) = true then (some (-1)) else (if (decide (e_23 < e_21)) = true then (some 1) else ((m_nat_Cmp_L1 N r_1 r_9 n_17) (IntKind.i64.wrap (i_20 - 1))))) else (some 0)
termination_by structural x => x
def m_nat_Cmp (N : Nat) (p0_a : (List Int)) (p1_b : (List Int)) : Option Int :=
  (m_nat_trim N p0_a).bind fun r_1 => (m_nat_trim N p1_b).bind fun r_9 => if (!decide ((r_1.length : Int) = (r_9.length : Int))) = true then (if (decide ((r_1.length : Int) < (r_9.length : Int))) = true then none else (some 1)) else (m_nat_Cmp_L1 N r_1 r_9 N (IntKind.i64.wrap ((r_1.length : Int) - 1)))
theorem c_nat_Cmp (N : Nat) (col : Col) (w0 : World) (a0 : Option Addr) (cap0 : Nat) (p0_a : (List Int)) (a1 : Option Addr) (cap1 : Nat) (p1_b : (List Int)) (h0 : Sl (Rep.int .u32) col w0 a0 cap0 p0_a) (h1 : Sl (Rep.int .u32) col w0 a1 cap1 p1_b) (r : Int) (hm : m_nat_Cmp N p0_a p1_b = some r) :
    Calls Tryz.prog 58 #[(.slice a0 p0_a.length cap0), (.slice a1 p1_b.length cap1)] w0 (fun e w' => e = .returned ((.int .i64 r)) ∧ Below w0.heap.size w0 w') := by
 refine calls_of1 4 (m := 45) (args := [(.slice a0 p0_a.length cap0), (.slice a1 p1_b.length cap1)]) Tryz.func58 rfl rfl rfl rfl rfl ?_
 rw [m_nat_Cmp.eq_1] at hm
 have hst := St.start col w0
 refine wS (wR ?_)
 refine lA (.int .i64 0) ?_
 refine lN (wS (wR ?_))
 refine lM (.slice a0 p0_a.length cap0) ?_
 obtain ⟨r_1, hr_2, hm⟩ := bS hm
 replace h0 := h0.keep (Stay.start col w0)
 refine lc rfl rfl (r_call1 Tryz.call88 rfl) (c_nat_trim N (col0 col) _ a0 cap0 p0_a h0 r_1 hr_2) ?_
 rintro _ w_6 ⟨col_8, ra_3, rc_4, rfl, hg_7, rh_5⟩
 refine ⟨_, rfl, ?_⟩
 refine lM (.slice a1 p1_b.length cap1) ?_
 obtain ⟨r_9, hr_10, hm⟩ := bS hm
 replace h1 := (h1.keep (Stay.start col w0)).gr hg_7
 refine lc rfl rfl (r_call1 Tryz.call88 rfl) (c_nat_trim N col_8 _ a1 cap1 p1_b h1 r_9 hr_10) ?_
 rintro _ w_14 ⟨col_16, ra_11, rc_12, rfl, hg_15, rh_13⟩
 refine ⟨_, rfl, ?_⟩
 refine lA (.slice ra_3 r_1.length rc_4) ?_
 refine lA (.slice ra_11 r_9.length rc_12) ?_
 refine lN (wS (wS (wR ?_)))
 refine lM (.slice ra_3 r_1.length rc_4) ?_
 refine lV (.int .i64 (r_1.length : Int)) (r_len Tryz.underlying36 rfl) ?_
 refine lM (.slice ra_11 r_9.length rc_12) ?_
 refine lV (.int .i64 (r_9.length : Int)) (r_len Tryz.underlying36 rfl) ?_
 refine lV (.bool (!decide ((r_1.length : Int) = (r_9.length : Int)))) (r_neq (r_1.length : Int) (r_9.length : Int) rfl rfl) ?_
 refine lN ?_
 replace hst := (hst.grow hg_7).grow hg_15
 replace rh_5 := rh_5.gr hg_15
 refine wcond (!decide ((r_1.length : Int) = (r_9.length : Int))) rfl (fun hb => ?_) (fun hb => ?_)
 ·rw [if_pos hb] at hm
  clear hb
  refine wS (wS (wR ?_))
  refine lM (.slice ra_3 r_1.length rc_4) ?_
  refine lV (.int .i64 (r_1.length : Int)) (r_len Tryz.underlying36 rfl) ?_
  refine lM (.slice ra_11 r_9.length rc_12) ?_
  refine lV (.int .i64 (r_9.length : Int)) (r_len Tryz.underlying36 rfl) ?_
  refine lV (.bool (decide ((r_1.length : Int) < (r_9.length : Int)))) (r_lss (r_1.length : Int) (r_9.length : Int) rfl rfl) ?_
  refine lN ?_
  refine wcond (decide ((r_1.length : Int) < (r_9.length : Int))) rfl (fun hb => ?_) (fun hb => ?_)
  ·rw [if_pos hb] at hm
   clear hb
   cases hm
  rw [if_neg (by rw [hb]; decide)] at hm
  clear hb
  refine wK (wS (wR ?_))
  refine lA (.int .i64 1) ?_
  refine lN ?_
  refine wret ?_
  cases hm
  exact ⟨rfl, rfl, hst.below⟩
 rw [if_neg (by rw [hb]; decide)] at hm
 clear hb
 refine wK (wS (wS (wR ?_)))
 refine lM (.slice ra_3 r_1.length rc_4) ?_
 refine lV (.int .i64 (r_1.length : Int)) (r_len Tryz.underlying36 rfl) ?_
 refine lV (.int .i64 (IntKind.i64.wrap ((r_1.length : Int) - 1))) (r_sub (r_1.length : Int) 1 rfl rfl) ?_
 refine lA (.int .i64 (IntKind.i64.wrap ((r_1.length : Int) - 1))) ?_
 refine lN (wB ?_)
 refine wloop (fun n f w_18 => ∃ (col_19 : Col) (i_20 : Int) (n_17 : Nat), n_17 = n ∧ m_nat_Cmp_L1 N r_1 r_9 n_17 i_20 = some r ∧ St w0 (col0 col) col_19 w_18 ∧ Sl (Rep.int .u32) col_19 w_18 ra_3 rc_4 r_1 ∧ Sl (Rep.int .u32) col_19 w_18 ra_11 rc_12 r_9 ∧ f 0 = (.slice ra_3 r_1.length rc_4) ∧ f 1 = (.slice ra_11 r_9.length rc_12) ∧ f 5 = (.int .i64 i_20) ∧ f 1000000 = (enc [])) N ⟨col_16, (IntKind.i64.wrap ((r_1.length : Int) - 1)), N, rfl, hm, hst, rh_5, rh_13, rfl, rfl, rfl, rfl⟩ ?_
 clear hm; intro n f w_18 hI
 obtain ⟨col_19, i_20, n_17, hn, hm, hst, rh_5, rh_13, hs0, hs1, hs5, hs1000000⟩ := hI
 subst hn
 refine .lD 0 hs0 ?_
 refine .lD 1 hs1 ?_
 refine .lD 5 hs5 ?_
 refine .lD 1000000 hs1000000 ?_
 clear hs0 hs1 hs5 hs1000000
 cases n_17 with
 | zero => rw [m_nat_Cmp_L1.eq_1] at hm; cases hm
 | succ n_17 =>
  rw [m_nat_Cmp_L1.eq_2] at hm
  refine wS (wS (wR ?_))
  refine lM (.int .i64 i_20) ?_
  refine lV (.bool (decide (0 ≤ i_20))) (r_geq i_20 0 rfl rfl) ?_
  refine lN ?_
  refine wcond (decide (0 ≤ i_20)) rfl (fun hb => ?_) (fun hb => ?_)
  ·rw [if_pos hb] at hm
   clear hb
   refine wK (wS (wB (wS (wS ?_))))
   refine wquiet (col := col_19) (by kernel_rfl) (by kernel_rfl) ?_
   refine qv (v := (.slice ra_3 r_1.length rc_4)) rfl (fun _ hC => r_move rfl) ?_
   refine qv (v := (.int .i64 i_20)) rfl (fun _ hC => r_move rfl) ?_
   obtain ⟨e_21, hj_22, hm⟩ := bS hm
   refine qv (v := (sptr ra_3 (Int.toNat i_20 * 1))) rfl (fun _ hC => r_idx Tryz.underlying36 Tryz.sizeOf114 rfl rfl (at?_some hj_22).1 (at?_some hj_22).2.1 (rh_5.addr hj_22)) ?_
   refine qv (v := (.int .u32 e_21)) rfl (fun _ hC => r_ld Tryz.isAgg114 rfl ((rh_5.gr (Grow.of_below (col := col_19) hC.below)).atInt hj_22)) ?_
   refine qv (v := (.slice ra_11 r_9.length rc_12)) rfl (fun _ hC => r_move rfl) ?_
   refine qv (v := (.int .i64 i_20)) rfl (fun _ hC => r_move rfl) ?_
   obtain ⟨e_23, hj_24, hm⟩ := bS hm
   refine qv (v := (sptr ra_11 (Int.toNat i_20 * 1))) rfl (fun _ hC => r_idx Tryz.underlying36 Tryz.sizeOf114 rfl rfl (at?_some hj_24).1 (at?_some hj_24).2.1 (rh_13.addr hj_24)) ?_
   refine qv (v := (.int .u32 e_23)) rfl (fun _ hC => r_ld Tryz.isAgg114 rfl ((rh_13.gr (Grow.of_below (col := col_19) hC.below)).atInt hj_24)) ?_
   refine qv (v := (.bool (decide (e_21 < e_23)))) rfl (fun _ hC => r_lss e_21 e_23 rfl rfl) ?_
   refine qnil ?_
   intro w_25 hC
   replace hC : Grow col_19 w_18 col_19 w_25 := .of_below hC.below
   replace rh_5 := rh_5.gr hC
   replace rh_13 := rh_13.gr hC
   replace hst := hst.grow hC
   refine wcond (decide (e_21 < e_23)) rfl (fun hb => ?_) (fun hb => ?_)
   ·rw [if_pos hb] at hm
    clear hb
    refine wS (wR ?_)
    refine lA (.int .i64 (-1)) ?_
    refine lN ?_
    refine wret ?_
    cases hm
    exact ⟨rfl, rfl, hst.below⟩
   rw [if_neg (by rw [hb]; decide)] at hm
   clear hb
   refine wK (wS ?_)
   refine wquiet (col := col_19) (by kernel_rfl) (by kernel_rfl) ?_
   refine qv (v := (.slice ra_3 r_1.length rc_4)) rfl (fun _ hC => r_move rfl) ?_
   refine qv (v := (.int .i64 i_20)) rfl (fun _ hC => r_move rfl) ?_
   refine qv (v := (sptr ra_3 (Int.toNat i_20 * 1))) rfl (fun _ hC => r_idx Tryz.underlying36 Tryz.sizeOf114 rfl rfl (at?_some hj_22).1 (at?_some hj_22).2.1 (rh_5.addr hj_22)) ?_
   refine qv (v := (.int .u32 e_21)) rfl (fun _ hC => r_ld Tryz.isAgg114 rfl ((rh_5.gr (Grow.of_below (col := col_19) hC.below)).atInt hj_22)) ?_
   refine qv (v := (.slice ra_11 r_9.length rc_12)) rfl (fun _ hC => r_move rfl) ?_
   refine qv (v := (.int .i64 i_20)) rfl (fun _ hC => r_move rfl) ?_
   refine qv (v := (sptr ra_11 (Int.toNat i_20 * 1))) rfl (fun _ hC => r_idx Tryz.underlying36 Tryz.sizeOf114 rfl rfl (at?_some hj_24).1 (at?_some hj_24).2.1 (rh_13.addr hj_24)) ?_
   refine qv (v := (.int .u32 e_23)) rfl (fun _ hC => r_ld Tryz.isAgg114 rfl ((rh_13.gr (Grow.of_below (col := col_19) hC.below)).atInt hj_24)) ?_
   refine qv (v := (.bool (decide (e_23 < e_21)))) rfl (fun _ hC => r_gtr e_21 e_23 rfl rfl) ?_
   refine qnil ?_
   intro w_26 hC
   replace hC : Grow col_19 w_25 col_19 w_26 := .of_below hC.below
   replace rh_5 := rh_5.gr hC
   replace rh_13 := rh_13.gr hC
   replace hst := hst.grow hC
   refine wcond (decide (e_23 < e_21)) rfl (fun hb => ?_) (fun hb => ?_)
   ·rw [if_pos hb] at hm
    clear hb
    refine wS (wR ?_)
    refine lA (.int .i64 1) ?_
    refine lN ?_
    refine wret ?_
    cases hm
    exact ⟨rfl, rfl, hst.below⟩
   rw [if_neg (by rw [hb]; decide)] at hm
   clear hb
   refine wK (wR ?_)
   refine lM (.int .i64 i_20) ?_
   refine lV (.int .i64 (IntKind.i64.wrap (i_20 - 1))) (r_sub i_20 1 rfl rfl) ?_
   refine lA (.int .i64 (IntKind.i64.wrap (i_20 - 1))) ?_
   refine lN ?_
   exact ⟨n_17, by omega, ⟨col_19, (IntKind.i64.wrap (i_20 - 1)), n_17, rfl, hm, hst, rh_5, rh_13, rfl, rfl, rfl, rfl⟩⟩
  rw [if_neg (by rw [hb]; decide)] at hm
  clear hb
  refine wexit (inB_hit ?_)
  refine wS (wR ?_)
  refine lA (.int .i64 0) ?_
  refine lN ?_
  refine wret ?_
  cases hm
  exact ⟨rfl, rfl, hst.below⟩
def m_nat_less_J1 (v_8 : Int) (kk_L1 : ((List Int) → Int → Int → Option (List Int))) (a_12 : List Int) (borrow_15 : Int) : Option (List Int) :=
  kk_L1 a_12 borrow_15 (IntKind.i64.wrap (v_8 + 1))
def m_nat_less_J3 (a_4 : List Int) (v_8 : Int) (kk_L1 : ((List Int) → Int → Int → Option (List Int))) (take_19 : Int) (borrow_22 : Int) : Option (List Int) :=
  (at? a_4 v_8).bind fun e_23 => (some (a_4.set (Int.toNat v_8) (IntKind.u32.wrap (e_23 - (IntKind.u32.wrap take_19))))).bind fun xs_30 => m_nat_less_J1 v_8 kk_L1 xs_30 borrow_22
def m_nat_less_J2 (a_4 : List Int) (v_8 : Int) (kk_L1 : ((List Int) → Int → Int → Option (List Int))) (take_19 : Int) : Option (List Int) :=
  (at? a_4 v_8).bind fun e_32 => if (decide ((IntKind.u64.wrap e_32) < take_19)) = true then none else (m_nat_less_J3 a_4 v_8 kk_L1 take_19 0)
def m_nat_less_L1 (N : Nat) (p0_a : (List Int)) (p1_b : (List Int)) : Nat → (List Int) → Int → Int → Option (List Int)
  | 0, _, _, _ => none
  | n_1 + 1, a_4, borrow_7, v_8 => if (decide (v_8 < (p0_a.length : Int))) = true then (if (decide (v_8 < (p1_b.length : Int))) = true then ((at? p1_b v_8).bind fun e_34 => m_nat_less_J2 a_4 v_8 (m_nat_less_L1 N p0_a p1_b n_1) (IntKind.u64.wrap (borrow_7 + (IntKind.u64.wrap e_34)))) else (m_nat_less_J2 a_4 v_8 (m_nat_less_L1 N p0_a p1_b n_1) borrow_7)) else (some a_4)
termination_by structural x => x
def m_nat_less (N : Nat) (p0_a : (List Int)) (p1_b : (List Int)) : Option (List Int) :=
  m_nat_less_L1 N p0_a p1_b N p0_a 0 0
theorem c_nat_less (N : Nat) (col : Col) (w0 : World) (qc0 : Nat) (hd : dstB [qc0] = true) (a0 : Option Addr) (cap0 : Nat) (p0_a : (List Int)) (a1 : Option Addr) (cap1 : Nat) (p1_b : (List Int)) (h0 : Own (Rep.int .u32) 114 qc0 col w0 a0 cap0 p0_a) (h1 : Sl (Rep.int .u32) col w0 a1 cap1 p1_b) (r : (List Int)) (hm : m_nat_less N p0_a p1_b = some r) :
    Calls Tryz.prog 153 #[(.slice a0 p0_a.length cap0), (.slice a1 p1_b.length cap1)] w0 (fun e w' => ∃ (col' : Col), e = .returned (.tuple #[]) ∧ KeepP (pS [qc0]) col w0 col' w' ∧ Own (Rep.int .u32) 114 qc0 col' w' a0 cap0 r ∧ r.length = p0_a.length) := by
 refine calls_of0  (m := 40) (args := [(.slice a0 p0_a.length cap0), (.slice a1 p1_b.length cap1)]) Tryz.func153 rfl rfl rfl rfl ?_
 rw [m_nat_less.eq_1] at hm
 have hst := St.startL (l := [qc0]) rfl col w0
 replace h0 := h0.startL (dst_nz hd 0 rfl) (dst_ix hd 0 rfl)
 refine wS (wR ?_)
 refine lA (.int .u64 0) ?_
 refine lN (wS (wR ?_))
 refine lM (.slice a0 p0_a.length cap0) ?_
 refine lV (.int .i64 (p0_a.length : Int)) (r_len Tryz.underlying36 rfl) ?_
 refine lM (.int .i64 0) ?_
 refine lN (wB ?_)
 replace h1 := h1.keep (Stay.startL [qc0] col w0)
 refine wloop (fun n f w_2 => ∃ (col_3 : Col) (a_4 : List Int) (borrow_7 : Int) (v_8 : Int) (n_1 : Nat), n_1 = n ∧ m_nat_less_L1 N p0_a p1_b n_1 a_4 borrow_7 v_8 = some r ∧ St w0 (colL [qc0] col) col_3 w_2 ∧ Own (Rep.int .u32) 114 440 col_3 w_2 a0 cap0 a_4 ∧ a_4.length = p0_a.length ∧ Sl (Rep.int .u32) col_3 w_2 a1 cap1 p1_b ∧ a_4.length = p0_a.length ∧ f 0 = (.slice a0 a_4.length cap0) ∧ f 1 = (.slice a1 p1_b.length cap1) ∧ f 4 = (.int .u64 borrow_7) ∧ f 8 = (.int .i64 (p0_a.length : Int)) ∧ f 9 = (.int .i64 v_8) ∧ f 1000000 = (enc [])) N ⟨(colL [qc0] col), p0_a, 0, 0, N, rfl, hm, hst, h0, rfl, h1, rfl, rfl, rfl, rfl, rfl, rfl, rfl⟩ ?_
 clear hm; intro n f w_2 hI
 obtain ⟨col_3, a_4, borrow_7, v_8, n_1, hn, hm, hst, h_5, hlen_6, h1, hlen_9, hs0, hs1, hs4, hs8, hs9, hs1000000⟩ := hI
 subst hn
 refine .lD 0 hs0 ?_
 refine .lD 1 hs1 ?_
 refine .lD 4 hs4 ?_
 refine .lD 8 hs8 ?_
 refine .lD 9 hs9 ?_
 refine .lD 1000000 hs1000000 ?_
 clear hs0 hs1 hs4 hs8 hs9 hs1000000
 cases n_1 with
 | zero => rw [m_nat_less_L1.eq_1] at hm; cases hm
 | succ n_1 =>
  rw [m_nat_less_L1.eq_2] at hm
  refine wS (wR ?_)
  refine lV (.bool (decide (v_8 < (p0_a.length : Int)))) (r_lss v_8 (p0_a.length : Int) rfl rfl) ?_
  refine lN (wS ?_)
  refine wcond (decide (v_8 < (p0_a.length : Int))) rfl (fun hb => ?_) (fun hb => ?_)
  ·rw [if_pos hb] at hm
   clear hb
   refine wK (wS ?_)
   refine Wp.cut (fun f w_10 => ∃ (col_11 : Col) (a_12 : List Int) (borrow_15 : Int), m_nat_less_J1 v_8 (m_nat_less_L1 N p0_a p1_b n_1) a_12 borrow_15 = some r ∧ St w0 (colL [qc0] col) col_11 w_10 ∧ Own (Rep.int .u32) 114 440 col_11 w_10 a0 cap0 a_12 ∧ a_12.length = p0_a.length ∧ Sl (Rep.int .u32) col_11 w_10 a1 cap1 p1_b ∧ a_12.length = p0_a.length ∧ f 0 = (.slice a0 a_12.length cap0) ∧ f 1 = (.slice a1 p1_b.length cap1) ∧ f 4 = (.int .u64 borrow_15) ∧ f 8 = (.int .i64 (p0_a.length : Int)) ∧ f 9 = (.int .i64 v_8) ∧ f 1000000 = (enc [])) ?_ ?_
   ·intro f w_10 hJ
    obtain ⟨col_11, a_12, borrow_15, hm, hst, h_13, hlen_14, h1, hlen_16, hs0, hs1, hs4, hs8, hs9, hs1000000⟩ := hJ
    rw [m_nat_less_J1.eq_1] at hm
    refine .lD 0 hs0 ?_
    refine .lD 1 hs1 ?_
    refine .lD 4 hs4 ?_
    refine .lD 8 hs8 ?_
    refine .lD 9 hs9 ?_
    refine .lD 1000000 hs1000000 ?_
    clear hs0 hs1 hs4 hs8 hs9 hs1000000
    refine wR ?_
    refine lV (.int .i64 (IntKind.i64.wrap (v_8 + 1))) (r_add v_8 1 rfl rfl) ?_
    refine lM (.int .i64 (IntKind.i64.wrap (v_8 + 1))) ?_
    refine lN ?_
    exact ⟨n_1, by omega, ⟨col_11, a_12, borrow_15, (IntKind.i64.wrap (v_8 + 1)), n_1, rfl, hm, hst, h_13, hlen_14, h1, hlen_16, rfl, rfl, rfl, rfl, rfl, rfl⟩⟩
   refine wB (wS (wR ?_))
   refine lM (.int .i64 v_8) ?_
   refine lA (.int .i64 v_8) ?_
   refine lN (wS (wR ?_))
   refine lM (.int .u64 borrow_7) ?_
   refine lA (.int .u64 borrow_7) ?_
   refine lN (wS ?_)
   refine Wp.cut (fun f w_17 => ∃ (col_18 : Col) (take_19 : Int), m_nat_less_J2 a_4 v_8 (m_nat_less_L1 N p0_a p1_b n_1) take_19 = some r ∧ St w0 (colL [qc0] col) col_18 w_17 ∧ Own (Rep.int .u32) 114 440 col_18 w_17 a0 cap0 a_4 ∧ Sl (Rep.int .u32) col_18 w_17 a1 cap1 p1_b ∧ f 0 = (.slice a0 a_4.length cap0) ∧ f 1 = (.slice a1 p1_b.length cap1) ∧ f 5 = (.int .i64 v_8) ∧ f 6 = (.int .u64 take_19) ∧ f 8 = (.int .i64 (p0_a.length : Int)) ∧ f 9 = (.int .i64 v_8) ∧ f 1000000 = (enc [])) ?_ ?_
   ·intro f w_17 hJ
    obtain ⟨col_18, take_19, hm, hst, h_5, h1, hs0, hs1, hs5, hs6, hs8, hs9, hs1000000⟩ := hJ
    rw [m_nat_less_J2.eq_1] at hm
    refine .lD 0 hs0 ?_
    refine .lD 1 hs1 ?_
    refine .lD 5 hs5 ?_
    refine .lD 6 hs6 ?_
    refine .lD 8 hs8 ?_
    refine .lD 9 hs9 ?_
    refine .lD 1000000 hs1000000 ?_
    clear hs0 hs1 hs5 hs6 hs8 hs9 hs1000000
    refine wS (wR ?_)
    refine lA (.int .u64 0) ?_
    refine lN (wS ?_)
    refine Wp.cut (fun f w_20 => ∃ (col_21 : Col) (borrow_22 : Int), m_nat_less_J3 a_4 v_8 (m_nat_less_L1 N p0_a p1_b n_1) take_19 borrow_22 = some r ∧ St w0 (colL [qc0] col) col_21 w_20 ∧ Own (Rep.int .u32) 114 440 col_21 w_20 a0 cap0 a_4 ∧ Sl (Rep.int .u32) col_21 w_20 a1 cap1 p1_b ∧ f 0 = (.slice a0 a_4.length cap0) ∧ f 1 = (.slice a1 p1_b.length cap1) ∧ f 4 = (.int .u64 borrow_22) ∧ f 5 = (.int .i64 v_8) ∧ f 6 = (.int .u64 take_19) ∧ f 8 = (.int .i64 (p0_a.length : Int)) ∧ f 9 = (.int .i64 v_8) ∧ f 1000000 = (enc [])) ?_ ?_
    ·intro f w_20 hJ
     obtain ⟨col_21, borrow_22, hm, hst, h_5, h1, hs0, hs1, hs4, hs5, hs6, hs8, hs9, hs1000000⟩ := hJ
     rw [m_nat_less_J3.eq_1] at hm
     refine .lD 0 hs0 ?_
     refine .lD 1 hs1 ?_
     refine .lD 4 hs4 ?_
     refine .lD 5 hs5 ?_
     refine .lD 6 hs6 ?_
     refine .lD 8 hs8 ?_
     refine .lD 9 hs9 ?_
     refine .lD 1000000 hs1000000 ?_
     clear hs0 hs1 hs4 hs5 hs6 hs8 hs9 hs1000000
     refine wR ?_
     refine lM (.slice a0 a_4.length cap0) ?_
     refine lM (.int .i64 v_8) ?_
     obtain ⟨e_23, hj_24, hm⟩ := bS hm
     refine lV (sptr a0 (Int.toNat v_8 * 1)) (r_idx Tryz.underlying36 Tryz.sizeOf114 rfl rfl (at?_some hj_24).1 (at?_some hj_24).2.1 (h_5.addr hj_24)) ?_
     refine lV (.int .u32 e_23) (r_ld Tryz.isAgg114 rfl (h_5.atInt hj_24)) ?_
     refine lM (.int .u64 take_19) ?_
     refine lV (.int .u32 (IntKind.u32.wrap take_19)) (r_conv take_19 ⟨_, Tryz.underlying108⟩ Tryz.underlying114 rfl) ?_
     refine lV (.int .u32 (IntKind.u32.wrap (e_23 - (IntKind.u32.wrap take_19)))) (r_sub e_23 (IntKind.u32.wrap take_19) rfl rfl) ?_
     refine lV (sptr a0 (Int.toNat v_8 * 1)) (r_idx Tryz.underlying36 Tryz.sizeOf114 rfl rfl (at?_some hj_24).1 (at?_some hj_24).2.1 (h_5.addr hj_24)) ?_
     obtain ⟨xs_30, hz_29, hm⟩ := bS hm
     have hz_29 : xs_30 = a_4.set (Int.toNat v_8) (IntKind.u32.wrap (e_23 - (IntKind.u32.wrap take_19))) := (Option.some.inj hz_29).symm
     refine l_store (x1 := IntKind.u32.wrap (e_23 - (IntKind.u32.wrap take_19))) (v := (.int .u32 (IntKind.u32.wrap (e_23 - (IntKind.u32.wrap take_19))))) h_5 hj_24 rfl Tryz.sizeOf114 (rd_int .u32 (IntKind.u32.wrap (e_23 - (IntKind.u32.wrap take_19)))) rfl rfl (by decide) ?_
     intro w_25 hk_26 hs_27 h_28
     rw [← hz_29] at h_28
     have hlen_31 : xs_30.length = p0_a.length := (show a_4.length = xs_30.length by rw [hz_29, List.length_set]).symm.trans hlen_6
     refine .ld (d := 0) (v := (.slice a0 xs_30.length cap0)) (congrArg (fun n => Value.slice a0 n cap0) (show a_4.length = xs_30.length by rw [hz_29, List.length_set])) ?_
     clear h_5
     refine lN ?_
     replace h1 := h1.kp hk_26
     replace hst := hst.kp hk_26 hs_27
     exact ⟨col_21, xs_30, borrow_22, hm, hst, h_28, hlen_31, h1, hlen_31, rfl, rfl, rfl, rfl, rfl, rfl⟩
    refine wS (wR ?_)
    refine lM (.slice a0 a_4.length cap0) ?_
    refine lM (.int .i64 v_8) ?_
    obtain ⟨e_32, hj_33, hm⟩ := bS hm
    refine lV (sptr a0 (Int.toNat v_8 * 1)) (r_idx Tryz.underlying36 Tryz.sizeOf114 rfl rfl (at?_some hj_33).1 (at?_some hj_33).2.1 (h_5.addr hj_33)) ?_
    refine lV (.int .u32 e_32) (r_ld Tryz.isAgg114 rfl (h_5.atInt hj_33)) ?_
    refine lV (.int .u64 (IntKind.u64.wrap e_32)) (r_conv e_32 ⟨_, Tryz.underlying114⟩ Tryz.underlying108 rfl) ?_
    refine lM (.int .u64 take_19) ?_
    refine lV (.bool (decide ((IntKind.u64.wrap e_32) < take_19))) (r_lss (IntKind.u64.wrap e_32) take_19 rfl rfl) ?_
    refine lN ?_
    refine wcond (decide ((IntKind.u64.wrap e_32) < take_19)) rfl (fun hb => ?_) (fun hb => ?_)
    ·rw [if_pos hb] at hm
     clear hb
     cases hm
    rw [if_neg (by rw [hb]; decide)] at hm
    clear hb
    refine wK ?_
    exact ⟨col_18, 0, hm, hst, h_5, h1, rfl, rfl, rfl, rfl, rfl, rfl, rfl, rfl⟩
   refine wS (wR ?_)
   refine lM (.int .i64 v_8) ?_
   refine lM (.slice a1 p1_b.length cap1) ?_
   refine lV (.int .i64 (p1_b.length : Int)) (r_len Tryz.underlying36 rfl) ?_
   refine lV (.bool (decide (v_8 < (p1_b.length : Int)))) (r_lss v_8 (p1_b.length : Int) rfl rfl) ?_
   refine lN ?_
   refine wcond (decide (v_8 < (p1_b.length : Int))) rfl (fun hb => ?_) (fun hb => ?_)
   ·rw [if_pos hb] at hm
    clear hb
    refine wR ?_
    refine lM (.int .u64 borrow_7) ?_
    refine lM (.slice a1 p1_b.length cap1) ?_
    refine lM (.int .i64 v_8) ?_
    obtain ⟨e_34, hj_35, hm⟩ := bS hm
    refine lV (sptr a1 (Int.toNat v_8 * 1)) (r_idx Tryz.underlying36 Tryz.sizeOf114 rfl rfl (at?_some hj_35).1 (at?_some hj_35).2.1 (h1.addr hj_35)) ?_
    refine lV (.int .u32 e_34) (r_ld Tryz.isAgg114 rfl (h1.atInt hj_35)) ?_
    refine lV (.int .u64 (IntKind.u64.wrap e_34)) (r_conv e_34 ⟨_, Tryz.underlying114⟩ Tryz.underlying108 rfl) ?_
    refine lV (.int .u64 (IntKind.u64.wrap (borrow_7 + (IntKind.u64.wrap e_34)))) (r_add borrow_7 (IntKind.u64.wrap e_34) rfl rfl) ?_
    refine lA (.int .u64 (IntKind.u64.wrap (borrow_7 + (IntKind.u64.wrap e_34)))) ?_
    refine lN ?_
    exact ⟨col_3, (IntKind.u64.wrap (borrow_7 + (IntKind.u64.wrap e_34))), hm, hst, h_5, h1, rfl, rfl, rfl, rfl, rfl, rfl, rfl⟩
   rw [if_neg (by rw [hb]; decide)] at hm
   clear hb
   refine wK ?_
   exact ⟨col_3, borrow_7, hm, hst, h_5, h1, rfl, rfl, rfl, rfl, rfl, rfl, rfl⟩
  rw [if_neg (by rw [hb]; decide)] at hm
  clear hb
  refine wexit (inB_hit ?_)
  cases hm
  exact ⟨rfl, colFL w0.heap.size [qc0] col col_3 (fun n => bif Nat.beq n 440 then qc0 else 0), rfl, hst.finL rfl (fun n => bif Nat.beq n 440 then qc0 else 0), hst.finOwnL (g := (fun n => bif Nat.beq n 440 then qc0 else 0)) rfl h_5 (by decide) (by decide) rfl, hlen_9⟩
def m_nat_Sub (N : Nat) (p0_a : (List Int)) (p1_b : (List Int)) : Option ((List Int) × Bool) :=
  (m_nat_Cmp N p0_a p1_b).bind fun r_1 => if (decide (r_1 < 0)) = true then (some (([] : List Int), false)) else ((m_nat_trim N p0_a).bind fun r_5 => (m_slices_Clone_api_Nat_uint32 r_5).bind fun r_13 => (m_nat_trim N p1_b).bind fun r_21 => (m_nat_less N r_13 r_21).bind fun r_29 => (m_nat_own N r_29).bind fun r_36 => some (r_36, true))
theorem c_nat_Sub (N : Nat) (c1 : Nat) (col : Col) (w0 : World) (a0 : Option Addr) (cap0 : Nat) (p0_a : (List Int)) (a1 : Option Addr) (cap1 : Nat) (p1_b : (List Int)) (h0 : Sl (Rep.int .u32) col w0 a0 cap0 p0_a) (h1 : Sl (Rep.int .u32) col w0 a1 cap1 p1_b) (r : ((List Int) × Bool)) (hm : m_nat_Sub N p0_a p1_b = some r) :
    Calls Tryz.prog 126 #[(.slice a0 p0_a.length cap0), (.slice a1 p1_b.length cap1)] w0 (fun e w' => ∃ (col' : Col) (ra1 : Option Addr) (rc2 : Nat), e = .returned (.tuple #[(.slice ra1 r.1.length rc2), (.bool r.2)]) ∧ Grow col w0 col' w' ∧ Own (Rep.int .u32) 114 c1 col' w' ra1 rc2 r.1) := by
 refine calls_of2 4 5 (m := 20) (args := [(.slice a0 p0_a.length cap0), (.slice a1 p1_b.length cap1)]) Tryz.func126 rfl rfl rfl rfl rfl ?_
 rw [m_nat_Sub.eq_1] at hm
 have hst := St.start col w0
 refine wS (wR ?_)
 refine lA (.slice none (([] : List Int).length) 0) ?_
 refine lA (.bool false) ?_
 refine lN (wS (wS (wR ?_)))
 refine lM (.slice a0 p0_a.length cap0) ?_
 refine lM (.slice a1 p1_b.length cap1) ?_
 obtain ⟨r_1, hr_2, hm⟩ := bS hm
 replace h0 := h0.keep (Stay.start col w0)
 replace h1 := h1.keep (Stay.start col w0)
 refine lc rfl rfl (r_call2 Tryz.call58 rfl rfl) (c_nat_Cmp N (col0 col) _ a0 cap0 p0_a a1 cap1 p1_b h0 h1 r_1 hr_2) ?_
 rintro _ w_3 ⟨rfl, hg_4⟩
 refine ⟨_, rfl, ?_⟩
 replace hg_4 : Grow (col0 col) w0 (col0 col) w_3 := .of_below hg_4
 refine lV (.bool (decide (r_1 < 0))) (r_lss r_1 0 rfl rfl) ?_
 refine lN ?_
 replace h0 := h0.gr hg_4
 replace h1 := h1.gr hg_4
 replace hst := hst.grow hg_4
 refine wcond (decide (r_1 < 0)) rfl (fun hb => ?_) (fun hb => ?_)
 ·rw [if_pos hb] at hm
  clear hb
  refine wS (wR ?_)
  refine lA (.slice none (([] : List Int).length) 0) ?_
  refine lA (.bool false) ?_
  refine lN ?_
  refine wret ?_
  cases hm
  exact ⟨rfl, colF w0.heap.size col (col0 col) (fun n => 0), none, 0, rfl, hst.fin (fun n => 0), Own.nil⟩
 rw [if_neg (by rw [hb]; decide)] at hm
 clear hb
 refine wK (wS (wR ?_))
 refine lM (.slice a0 p0_a.length cap0) ?_
 obtain ⟨r_5, hr_6, hm⟩ := bS hm
 refine lc rfl rfl (r_call1 Tryz.call88 rfl) (c_nat_trim N (col0 col) _ a0 cap0 p0_a h0 r_5 hr_6) ?_
 rintro _ w_10 ⟨col_12, ra_7, rc_8, rfl, hg_11, rh_9⟩
 refine ⟨_, rfl, ?_⟩
 obtain ⟨r_13, hr_14, hm⟩ := bS hm
 refine lc rfl rfl (r_call1 Tryz.call130 rfl) (c_slices_Clone_api_Nat_uint32 1 col_12 _ ra_7 rc_8 r_5 rh_9 r_13 hr_14) ?_
 rintro _ w_18 ⟨col_20, ra_15, rc_16, rfl, hg_19, rh_17⟩
 refine ⟨_, rfl, ?_⟩
 refine lA (.slice ra_15 r_13.length rc_16) ?_
 refine lN (wS (wR ?_))
 refine lM (.slice ra_15 r_13.length rc_16) ?_
 refine lM (.slice a1 p1_b.length cap1) ?_
 obtain ⟨r_21, hr_22, hm⟩ := bS hm
 replace h1 := (h1.gr hg_11).gr hg_19
 refine lc rfl rfl (r_call1 Tryz.call88 rfl) (c_nat_trim N col_20 _ a1 cap1 p1_b h1 r_21 hr_22) ?_
 rintro _ w_26 ⟨col_28, ra_23, rc_24, rfl, hg_27, rh_25⟩
 refine ⟨_, rfl, ?_⟩
 obtain ⟨r_29, hr_30, hm⟩ := bS hm
 replace rh_17 := rh_17.gr hg_27
 refine lc rfl rfl (r_call2 Tryz.call153 rfl rfl) (c_nat_less N col_28 _ 1 rfl ra_15 rc_16 r_13 ra_23 rc_24 r_21 rh_17 rh_25 r_29 hr_30) ?_
 rintro _ w_33 ⟨col_35, rfl, hg_34, oh_31, ohl_32⟩
 refine ⟨_, rfl, ?_⟩
 clear rh_17
 refine .ld (d := 6) (v := (.slice ra_15 r_29.length rc_16)) (congrArg (fun n => Value.slice ra_15 n rc_16) (show r_13.length = r_29.length from ohl_32.symm)) ?_
 refine .ld (d := 14) (v := (.slice ra_15 r_29.length rc_16)) (congrArg (fun n => Value.slice ra_15 n rc_16) (show r_13.length = r_29.length from ohl_32.symm)) ?_
 refine lN (wS (wR ?_))
 refine lM (.slice ra_15 r_29.length rc_16) ?_
 obtain ⟨r_36, hr_37, hm⟩ := bS hm
 refine lc rfl rfl (r_call1 Tryz.call89 rfl) (c_nat_own N 2 (frC 1 col_35) _ ra_15 rc_16 r_29 (oh_31.toSlF (Froz.int .u32)) r_36 hr_37) ?_
 rintro _ w_41 ⟨col_43, ra_38, rc_39, rfl, hg_42, rh_40⟩
 refine ⟨_, rfl, ?_⟩
 replace rh_40 := rh_40.thaw (flat_int .u32) hg_42 ((Fz.refl (col := col_35)).froz 1) (by decide)
 replace hg_42 := hg_42.thawR (col := col_35)
 generalize colR w_33.heap.size col_35 col_43 = col_44 at *
 refine lA (.slice ra_38 r_36.length rc_39) ?_
 refine lA (.bool true) ?_
 refine lN ?_
 refine wret ?_
 cases hm
 replace hst := ((((hst.grow hg_11).grow hg_19).grow hg_27).kpp hg_34).grow hg_42
 exact ⟨rfl, colF w0.heap.size col col_44 (fun n => bif Nat.beq n 2 then c1 else 0), ra_38, rc_39, rfl, hst.fin (fun n => bif Nat.beq n 2 then c1 else 0), hst.finOwn (g := (fun n => bif Nat.beq n 2 then c1 else 0)) rfl rh_40 (by decide) (by decide) rfl⟩
def m_whole_Add (N : Nat) (p0_a : (Bool × (List Int))) (p1_b : (Bool × (List Int))) : Option (Bool × (List Int)) :=
  if (decide (p0_a.1 = p1_b.1)) = true then ((m_nat_Add N p0_a.2 p1_b.2).bind fun r_17 => (m_whole_of N p0_a.1 r_17).bind fun r_26 => some (r_26.1, r_26.2)) else ((m_nat_Sub N p0_a.2 p1_b.2).bind fun r_41 => if r_41.2 = true then ((m_whole_of N p0_a.1 r_41.1).bind fun r_49 => some (r_49.1, r_49.2)) else ((m_nat_Sub N p1_b.2 p0_a.2).bind fun r_62 => (m_whole_of N p1_b.1 r_62.1).bind fun r_70 => some (r_70.1, r_70.2)))
theorem c_whole_Add (N : Nat) (c1 : Nat) (col : Col) (w0 : World) (a0_0 : Option Addr) (cap0_0 : Nat) (p0_a : (Bool × (List Int))) (a1_0 : Option Addr) (cap1_0 : Nat) (p1_b : (Bool × (List Int))) (h0_0 : Sl (Rep.int .u32) col w0 a0_0 cap0_0 p0_a.2) (h1_0 : Sl (Rep.int .u32) col w0 a1_0 cap1_0 p1_b.2) (r : (Bool × (List Int))) (hm : m_whole_Add N p0_a p1_b = some r) :
    Calls Tryz.prog 80 #[(.agg #[(.bool p0_a.1), (.slice a0_0 p0_a.2.length cap0_0)]), (.agg #[(.bool p1_b.1), (.slice a1_0 p1_b.2.length cap1_0)])] w0 (fun e w' => ∃ (col' : Col) (ra1 : Option Addr) (rc2 : Nat), e = .returned ((.agg #[(.bool r.1), (.slice ra1 r.2.length rc2)])) ∧ Grow col w0 col' w' ∧ Own (Rep.int .u32) 114 c1 col' w' ra1 rc2 r.2) := by
 refine calls_ofR (m := 47) (args := [(.agg #[(.bool p0_a.1), (.slice a0_0 p0_a.2.length cap0_0)]), (.agg #[(.bool p1_b.1), (.slice a1_0 p1_b.2.length cap1_0)])]) Tryz.func80 rfl rfl rfl ?_
 rw [m_whole_Add.eq_1] at hm
 have hst := St.start col w0
 refine wS (wR ?_)
 refine l_box (col := (col0 col)) (v := (.agg #[(.bool p0_a.1), (.slice a0_0 p0_a.2.length cap0_0)])) 1 rfl rfl ?_
 intro g_1 w_2 col_3 hg_4 hb_5
 replace hb_5 : Box 38 1 col_3 w_2 g_1 #[(.bool p0_a.1), (.slice a0_0 p0_a.2.length cap0_0)] := hb_5
 refine l_box (col := col_3) (v := (.agg #[(.bool p1_b.1), (.slice a1_0 p1_b.2.length cap1_0)])) 2 rfl rfl ?_
 intro g_6 w_7 col_8 hg_9 hb_10
 replace hb_10 : Box 38 2 col_8 w_7 g_6 #[(.bool p1_b.1), (.slice a1_0 p1_b.2.length cap1_0)] := hb_10
 refine l_alloc (col := col_8) (v := (.agg #[(.bool false), (.slice none (([] : List Int).length) 0)])) 3 rfl Tryz.zeroValue38 ?_
 intro g_11 w_12 col_13 hg_14 hb_15
 replace hb_15 : Box 38 3 col_13 w_12 g_11 #[(.bool false), (.slice none (([] : List Int).length) 0)] := hb_15
 refine lN (wS (wS (wR ?_)))
 refine lV (.pointer ((some (⟨g_1, 0, none⟩ : Addr)).map (·.add 0))) (rF (sz := 1) (off := 0) Tryz.underlying38 rfl Tryz.sizeOf4 (by decide) rfl rfl ⟨_, _, rfl⟩) ?_
 replace hb_5 := (hb_5.gr hg_9).gr hg_14
 refine lV (.bool p0_a.1) (r_ld Tryz.isAgg4 rfl ((hb_5.atN).nth (q := 0) (v := (.bool p0_a.1)) rfl)) ?_
 refine lV (.pointer ((some (⟨g_6, 0, none⟩ : Addr)).map (·.add 0))) (rF (sz := 1) (off := 0) Tryz.underlying38 rfl Tryz.sizeOf4 (by decide) rfl rfl ⟨_, _, rfl⟩) ?_
 replace hb_10 := hb_10.gr hg_14
 refine lV (.bool p1_b.1) (r_ld Tryz.isAgg4 rfl ((hb_10.atN).nth (q := 0) (v := (.bool p1_b.1)) rfl)) ?_
 refine lV (.bool (decide (p0_a.1 = p1_b.1))) (r_eqlB p0_a.1 p1_b.1 Tryz.underlying4 rfl rfl) ?_
 refine lN ?_
 replace h0_0 := (((h0_0.keep (Stay.start col w0)).gr hg_4).gr hg_9).gr hg_14
 replace h1_0 := (((h1_0.keep (Stay.start col w0)).gr hg_4).gr hg_9).gr hg_14
 replace hst := ((hst.grow hg_4).grow hg_9).grow hg_14
 refine wcond (decide (p0_a.1 = p1_b.1)) rfl (fun hb => ?_) (fun hb => ?_)
 ·rw [if_pos hb] at hm
  clear hb
  refine wS ?_
  refine wmix (col := col_13) [(0, 1), (1, 0), (2, 1), (3, 0), (4, 1), (5, 0), (6, 3), (7, 3), (8, 2)] (by kernel_rfl) (by kernel_rfl) ?_
  refine xu (v := (.pointer ((some (⟨g_1, 0, none⟩ : Addr)).map (·.add 0)))) rfl rfl (fun _ => rF (sz := 1) (off := 0) Tryz.underlying38 rfl Tryz.sizeOf4 (by decide) rfl rfl ⟨_, _, rfl⟩) ?_
  refine xv (v := (.bool p0_a.1)) rfl rfl (fun _ hC => r_ld Tryz.isAgg4 rfl (((hb_5.atN).nth (q := 0) (v := (.bool p0_a.1)) rfl).gr (Grow.of_below (col := col_13) hC.below))) ?_
  refine xu (v := (.pointer ((some (⟨g_1, 0, none⟩ : Addr)).map (·.add 1)))) rfl rfl (fun _ => rF (sz := 1) (off := 1) Tryz.underlying38 rfl Tryz.sizeOf36 (by decide) rfl rfl ⟨_, _, rfl⟩) ?_
  refine xv (v := (.slice a0_0 p0_a.2.length cap0_0)) rfl rfl (fun _ hC => r_ld Tryz.isAgg36 rfl (((hb_5.atN).nth (q := 1) (v := (.slice a0_0 p0_a.2.length cap0_0)) rfl).gr (Grow.of_below (col := col_13) hC.below))) ?_
  refine xu (v := (.pointer ((some (⟨g_6, 0, none⟩ : Addr)).map (·.add 1)))) rfl rfl (fun _ => rF (sz := 1) (off := 1) Tryz.underlying38 rfl Tryz.sizeOf36 (by decide) rfl rfl ⟨_, _, rfl⟩) ?_
  refine xv (v := (.slice a1_0 p1_b.2.length cap1_0)) rfl rfl (fun _ hC => r_ld Tryz.isAgg36 rfl (((hb_10.atN).nth (q := 1) (v := (.slice a1_0 p1_b.2.length cap1_0)) rfl).gr (Grow.of_below (col := col_13) hC.below))) ?_
  refine xe rfl rfl ?_
  intro w_16 hC0
  have hC : Grow col_13 w_12 col_13 w_16 := .of_below hC0.below
  obtain ⟨r_17, hr_18, hm⟩ := bS hm
  replace h0_0 := h0_0.gr hC
  replace h1_0 := h1_0.gr hC
  refine lc rfl rfl (r_call2 Tryz.call125 rfl rfl) (c_nat_Add N 4 col_13 _ a0_0 cap0_0 p0_a.2 a1_0 cap1_0 p1_b.2 h0_0 h1_0 r_17 hr_18) ?_
  rintro _ w_22 ⟨col_24, ra_19, rc_20, rfl, hg_23, rh_21⟩
  refine ⟨_, rfl, ?_⟩
  refine lN ⟨fun w' => Grow col_24 w_22 col_24 w', Grow.refl _ _, fun _ _ h => cls hC0 hg_23 h, ?_⟩
  refine xe rfl rfl ?_
  intro w_25 hC0
  replace hb_15 := (hb_15.gr hC).gr hg_23
  replace hst := (hst.grow hC).grow hg_23
  have hC : Grow col_24 w_22 col_24 w_25 := .of_below hC0.below
  obtain ⟨r_26, hr_27, hm⟩ := bS hm
  replace rh_21 := rh_21.gr hC
  refine lc rfl rfl (r_call2 Tryz.call112 rfl rfl) (c_whole_of N 5 (frC 4 col_24) _ p0_a.1 ra_19 rc_20 r_17 (rh_21.toSlF (Froz.int .u32)) r_26 hr_27) ?_
  rintro _ w_31 ⟨col_33, ra_28, rc_29, rfl, hg_32, rh_30⟩
  refine ⟨_, rfl, ?_⟩
  replace rh_30 := rh_30.thaw (flat_int .u32) hg_32 ((Fz.refl (col := col_24)).froz 4) (by decide)
  replace hg_32 := hg_32.thawR (col := col_24)
  generalize colR w_25.heap.size col_24 col_33 = col_34 at *
  refine lN ⟨fun w' => Grow col_34 w_31 col_34 w', Grow.refl _ _, fun _ _ h => cls hC0 hg_32 h, ?_⟩
  refine xe rfl rfl ?_
  intro w_35 hC0
  replace hb_15 := (hb_15.gr hC).gr hg_32
  replace hst := (hst.grow hC).grow hg_32
  have hC : Grow col_34 w_31 col_34 w_35 := .of_below hC0.below
  replace hb_15 := hb_15.gr hC
  refine l_bstore (v := (.agg #[(.bool r_26.1), (.slice ra_28 r_26.2.length rc_29)])) hb_15 Tryz.sizeOf38 rfl rfl (by intro u hu; simp only [Value.cells, List.mem_cons, List.not_mem_nil, or_false] at hu; rcases hu with rfl | rfl <;> rfl) rfl rfl ?_
  intro w_36 hk_37 hs_38 hb_39
  clear hb_15
  replace hb_39 : Box 38 3 col_34 w_36 g_11 #[(.bool r_26.1), (.slice ra_28 r_26.2.length rc_29)] := hb_39
  refine lN ⟨fun w' => Grow col_34 w_36 col_34 w', Grow.refl _ _, fun h => absurd h (by decide), ?_⟩
  refine xnil ?_
  replace rh_30 := (rh_30.gr hC).kp hk_37
  replace hst := (hst.grow hC).kp hk_37 hs_38
  intro w_40 hC
  replace hC : Grow col_34 w_36 col_34 w_40 := .of_below hC.below
  refine wret ?_
  cases hm
  replace rh_30 := rh_30.gr hC
  replace hb_39 := hb_39.gr hC
  replace hst := hst.grow hC
  exact ⟨rfl, _, res_a rfl rfl Tryz.isAgg38 Tryz.sizeOf38 rfl rfl hb_39.atN, colF w0.heap.size col col_34 (fun n => bif Nat.beq n 5 then c1 else 0), ra_28, rc_29, rfl, hst.fin (fun n => bif Nat.beq n 5 then c1 else 0), hst.finOwn (g := (fun n => bif Nat.beq n 5 then c1 else 0)) rfl rh_30 (by decide) (by decide) rfl⟩
 rw [if_neg (by rw [hb]; decide)] at hm
 clear hb
 refine wK (wS (wS (wR ?_)))
 refine lV (.pointer ((some (⟨g_1, 0, none⟩ : Addr)).map (·.add 1))) (rF (sz := 1) (off := 1) Tryz.underlying38 rfl Tryz.sizeOf36 (by decide) rfl rfl ⟨_, _, rfl⟩) ?_
 refine lV (.slice a0_0 p0_a.2.length cap0_0) (r_ld Tryz.isAgg36 rfl ((hb_5.atN).nth (q := 1) (v := (.slice a0_0 p0_a.2.length cap0_0)) rfl)) ?_
 refine lV (.pointer ((some (⟨g_6, 0, none⟩ : Addr)).map (·.add 1))) (rF (sz := 1) (off := 1) Tryz.underlying38 rfl Tryz.sizeOf36 (by decide) rfl rfl ⟨_, _, rfl⟩) ?_
 refine lV (.slice a1_0 p1_b.2.length cap1_0) (r_ld Tryz.isAgg36 rfl ((hb_10.atN).nth (q := 1) (v := (.slice a1_0 p1_b.2.length cap1_0)) rfl)) ?_
 obtain ⟨r_41, hr_42, hm⟩ := bS hm
 refine lc rfl rfl (r_call2 Tryz.call126 rfl rfl) (c_nat_Sub N 6 col_13 _ a0_0 cap0_0 p0_a.2 a1_0 cap1_0 p1_b.2 h0_0 h1_0 r_41 hr_42) ?_
 rintro _ w_46 ⟨col_48, ra_43, rc_44, rfl, hg_47, rh_45⟩
 refine ⟨_, rfl, ?_⟩
 refine lM (.tuple #[(.slice ra_43 r_41.1.length rc_44), (.bool r_41.2)]) ?_
 refine lV (.slice ra_43 r_41.1.length rc_44) (r_extract rfl rfl) ?_
 refine lV (.bool r_41.2) (r_extract rfl rfl) ?_
 refine lA (.slice ra_43 r_41.1.length rc_44) ?_
 refine lA (.bool r_41.2) ?_
 refine lN (wS (wR ?_))
 refine lM (.bool r_41.2) ?_
 refine lN ?_
 replace h0_0 := h0_0.gr hg_47
 replace h1_0 := h1_0.gr hg_47
 replace hb_5 := hb_5.gr hg_47
 replace hb_10 := hb_10.gr hg_47
 replace hb_15 := hb_15.gr hg_47
 replace hst := hst.grow hg_47
 refine wcond (r_41.2) rfl (fun hb => ?_) (fun hb => ?_)
 ·rw [if_pos hb] at hm
  clear hb
  refine wS (wR ?_)
  refine lV (.pointer ((some (⟨g_1, 0, none⟩ : Addr)).map (·.add 0))) (rF (sz := 1) (off := 0) Tryz.underlying38 rfl Tryz.sizeOf4 (by decide) rfl rfl ⟨_, _, rfl⟩) ?_
  refine lV (.bool p0_a.1) (r_ld Tryz.isAgg4 rfl ((hb_5.atN).nth (q := 0) (v := (.bool p0_a.1)) rfl)) ?_
  refine lM (.slice ra_43 r_41.1.length rc_44) ?_
  obtain ⟨r_49, hr_50, hm⟩ := bS hm
  refine lc rfl rfl (r_call2 Tryz.call112 rfl rfl) (c_whole_of N 7 (frC 6 col_48) _ p0_a.1 ra_43 rc_44 r_41.1 (rh_45.toSlF (Froz.int .u32)) r_49 hr_50) ?_
  rintro _ w_54 ⟨col_56, ra_51, rc_52, rfl, hg_55, rh_53⟩
  refine ⟨_, rfl, ?_⟩
  replace rh_53 := rh_53.thaw (flat_int .u32) hg_55 ((Fz.refl (col := col_48)).froz 6) (by decide)
  replace hg_55 := hg_55.thawR (col := col_48)
  generalize colR w_46.heap.size col_48 col_56 = col_57 at *
  replace hb_15 := hb_15.gr hg_55
  refine l_bstore (v := (.agg #[(.bool r_49.1), (.slice ra_51 r_49.2.length rc_52)])) hb_15 Tryz.sizeOf38 rfl rfl (by intro u hu; simp only [Value.cells, List.mem_cons, List.not_mem_nil, or_false] at hu; rcases hu with rfl | rfl <;> rfl) rfl rfl ?_
  intro w_58 hk_59 hs_60 hb_61
  clear hb_15
  replace hb_61 : Box 38 3 col_57 w_58 g_11 #[(.bool r_49.1), (.slice ra_51 r_49.2.length rc_52)] := hb_61
  refine lN ?_
  refine wret ?_
  cases hm
  replace hst := (hst.grow hg_55).kp hk_59 hs_60
  replace rh_53 := rh_53.kp hk_59
  exact ⟨rfl, _, res_a rfl rfl Tryz.isAgg38 Tryz.sizeOf38 rfl rfl hb_61.atN, colF w0.heap.size col col_57 (fun n => bif Nat.beq n 7 then c1 else 0), ra_51, rc_52, rfl, hst.fin (fun n => bif Nat.beq n 7 then c1 else 0), hst.finOwn (g := (fun n => bif Nat.beq n 7 then c1 else 0)) rfl rh_53 (by decide) (by decide) rfl⟩
 rw [if_neg (by rw [hb]; decide)] at hm
 clear hb
 refine wK (wS (wR ?_))
 refine lV (.pointer ((some (⟨g_6, 0, none⟩ : Addr)).map (·.add 1))) (rF (sz := 1) (off := 1) Tryz.underlying38 rfl Tryz.sizeOf36 (by decide) rfl rfl ⟨_, _, rfl⟩) ?_
 refine lV (.slice a1_0 p1_b.2.length cap1_0) (r_ld Tryz.isAgg36 rfl ((hb_10.atN).nth (q := 1) (v := (.slice a1_0 p1_b.2.length cap1_0)) rfl)) ?_
 refine lV (.pointer ((some (⟨g_1, 0, none⟩ : Addr)).map (·.add 1))) (rF (sz := 1) (off := 1) Tryz.underlying38 rfl Tryz.sizeOf36 (by decide) rfl rfl ⟨_, _, rfl⟩) ?_
 refine lV (.slice a0_0 p0_a.2.length cap0_0) (r_ld Tryz.isAgg36 rfl ((hb_5.atN).nth (q := 1) (v := (.slice a0_0 p0_a.2.length cap0_0)) rfl)) ?_
 obtain ⟨r_62, hr_63, hm⟩ := bS hm
 refine lc rfl rfl (r_call2 Tryz.call126 rfl rfl) (c_nat_Sub N 8 col_48 _ a1_0 cap1_0 p1_b.2 a0_0 cap0_0 p0_a.2 h1_0 h0_0 r_62 hr_63) ?_
 rintro _ w_67 ⟨col_69, ra_64, rc_65, rfl, hg_68, rh_66⟩
 refine ⟨_, rfl, ?_⟩
 refine lM (.tuple #[(.slice ra_64 r_62.1.length rc_65), (.bool r_62.2)]) ?_
 refine lV (.slice ra_64 r_62.1.length rc_65) (r_extract rfl rfl) ?_
 refine lV (.bool r_62.2) (r_extract rfl rfl) ?_
 refine lA (.slice ra_64 r_62.1.length rc_65) ?_
 refine lA (.bool r_62.2) ?_
 refine lN (wS (wR ?_))
 refine lV (.pointer ((some (⟨g_6, 0, none⟩ : Addr)).map (·.add 0))) (rF (sz := 1) (off := 0) Tryz.underlying38 rfl Tryz.sizeOf4 (by decide) rfl rfl ⟨_, _, rfl⟩) ?_
 replace hb_10 := hb_10.gr hg_68
 refine lV (.bool p1_b.1) (r_ld Tryz.isAgg4 rfl ((hb_10.atN).nth (q := 0) (v := (.bool p1_b.1)) rfl)) ?_
 refine lM (.slice ra_64 r_62.1.length rc_65) ?_
 obtain ⟨r_70, hr_71, hm⟩ := bS hm
 refine lc rfl rfl (r_call2 Tryz.call112 rfl rfl) (c_whole_of N 9 (frC 8 col_69) _ p1_b.1 ra_64 rc_65 r_62.1 (rh_66.toSlF (Froz.int .u32)) r_70 hr_71) ?_
 rintro _ w_75 ⟨col_77, ra_72, rc_73, rfl, hg_76, rh_74⟩
 refine ⟨_, rfl, ?_⟩
 replace rh_74 := rh_74.thaw (flat_int .u32) hg_76 ((Fz.refl (col := col_69)).froz 8) (by decide)
 replace hg_76 := hg_76.thawR (col := col_69)
 generalize colR w_67.heap.size col_69 col_77 = col_78 at *
 replace hb_15 := (hb_15.gr hg_68).gr hg_76
 refine l_bstore (v := (.agg #[(.bool r_70.1), (.slice ra_72 r_70.2.length rc_73)])) hb_15 Tryz.sizeOf38 rfl rfl (by intro u hu; simp only [Value.cells, List.mem_cons, List.not_mem_nil, or_false] at hu; rcases hu with rfl | rfl <;> rfl) rfl rfl ?_
 intro w_79 hk_80 hs_81 hb_82
 clear hb_15
 replace hb_82 : Box 38 3 col_78 w_79 g_11 #[(.bool r_70.1), (.slice ra_72 r_70.2.length rc_73)] := hb_82
 refine lN ?_
 refine wret ?_
 cases hm
 replace hst := ((hst.grow hg_68).grow hg_76).kp hk_80 hs_81
 replace rh_74 := rh_74.kp hk_80
 exact ⟨rfl, _, res_a rfl rfl Tryz.isAgg38 Tryz.sizeOf38 rfl rfl hb_82.atN, colF w0.heap.size col col_78 (fun n => bif Nat.beq n 9 then c1 else 0), ra_72, rc_73, rfl, hst.fin (fun n => bif Nat.beq n 9 then c1 else 0), hst.finOwn (g := (fun n => bif Nat.beq n 9 then c1 else 0)) rfl rh_74 (by decide) (by decide) rfl⟩
def m_nat_small_L1 (N : Nat) (p1_d : Int) : Nat → (List Int) → Int → Int → Option (Int × (List Int))
  | 0, _, _, _ => none
  | n_1 + 1, a_4, rest_7, i_8 => if (decide (0 ≤ i_8)) = true then ((at? a_4 i_8).bind fun e_10 => chk ((IntKind.u64.wrap p1_d) ≠ 0) ((some (a_4.set (Int.toNat i_8) (IntKind.u32.wrap (IntKind.u64.wrap (Int.tdiv (ior .u64 (ishl .u64 rest_7 32) (IntKind.u64.wrap e_10)) (IntKind.u64.wrap p1_d)))))).bind fun xs_18 => chk ((IntKind.u64.wrap p1_d) ≠ 0) ((m_nat_small_L1 N p1_d n_1) xs_18 (Int.tmod (ior .u64 (ishl .u64 rest_7 32) (IntKind.u64.wrap e_10)) (IntKind.u64.wrap p1_d)) (IntKind.i64.wrap (i_8 - 1))))) else (some (IntKind.u32.wrap rest_7, a_4))
termination_by structural x => x
def m_nat_small (N : Nat) (p0_a : (List Int)) (p1_d : Int) : Option (Int × (List Int)) :=
  m_nat_small_L1 N p1_d N p0_a 0 (IntKind.i64.wrap ((p0_a.length : Int) - 1))
theorem c_nat_small (N : Nat) (col : Col) (w0 : World) (qc0 : Nat) (hd : dstB [qc0] = true) (a0 : Option Addr) (cap0 : Nat) (p0_a : (List Int)) (p1_d : Int) (h0 : Own (Rep.int .u32) 114 qc0 col w0 a0 cap0 p0_a) (r : (Int × (List Int))) (hm : m_nat_small N p0_a p1_d = some r) :
    Calls Tryz.prog 107 #[(.slice a0 p0_a.length cap0), (.int .u32 p1_d)] w0 (fun e w' => ∃ (col' : Col), e = .returned ((.int .u32 r.1)) ∧ KeepP (pS [qc0]) col w0 col' w' ∧ Own (Rep.int .u32) 114 qc0 col' w' a0 cap0 r.2 ∧ r.2.length = p0_a.length) := by
 refine calls_of1 4 (m := 36) (args := [(.slice a0 p0_a.length cap0), (.int .u32 p1_d)]) Tryz.func107 rfl rfl rfl rfl rfl ?_
 rw [m_nat_small.eq_1] at hm
 have hst := St.startL (l := [qc0]) rfl col w0
 replace h0 := h0.startL (dst_nz hd 0 rfl) (dst_ix hd 0 rfl)
 refine wS (wR ?_)
 refine lA (.int .u32 0) ?_
 refine lN (wS (wR ?_))
 refine lA (.int .u64 0) ?_
 refine lN (wS (wS (wR ?_)))
 refine lM (.slice a0 p0_a.length cap0) ?_
 refine lV (.int .i64 (p0_a.length : Int)) (r_len Tryz.underlying36 rfl) ?_
 refine lV (.int .i64 (IntKind.i64.wrap ((p0_a.length : Int) - 1))) (r_sub (p0_a.length : Int) 1 rfl rfl) ?_
 refine lA (.int .i64 (IntKind.i64.wrap ((p0_a.length : Int) - 1))) ?_
 refine lN (wB ?_)
 refine wloop (fun n f w_2 => ∃ (col_3 : Col) (a_4 : List Int) (rest_7 : Int) (i_8 : Int) (n_1 : Nat), n_1 = n ∧ m_nat_small_L1 N p1_d n_1 a_4 rest_7 i_8 = some r ∧ St w0 (colL [qc0] col) col_3 w_2 ∧ Own (Rep.int .u32) 114 440 col_3 w_2 a0 cap0 a_4 ∧ a_4.length = p0_a.length ∧ a_4.length = p0_a.length ∧ f 0 = (.slice a0 a_4.length cap0) ∧ f 1 = (.int .u32 p1_d) ∧ f 5 = (.int .u64 rest_7) ∧ f 6 = (.int .i64 i_8) ∧ f 1000000 = (enc [])) N ⟨(colL [qc0] col), p0_a, 0, (IntKind.i64.wrap ((p0_a.length : Int) - 1)), N, rfl, hm, hst, h0, rfl, rfl, rfl, rfl, rfl, rfl, rfl⟩ ?_
 clear hm; intro n f w_2 hI
 obtain ⟨col_3, a_4, rest_7, i_8, n_1, hn, hm, hst, h_5, hlen_6, hlen_9, hs0, hs1, hs5, hs6, hs1000000⟩ := hI
 subst hn
 refine .lD 0 hs0 ?_
 refine .lD 1 hs1 ?_
 refine .lD 5 hs5 ?_
 refine .lD 6 hs6 ?_
 refine .lD 1000000 hs1000000 ?_
 clear hs0 hs1 hs5 hs6 hs1000000
 cases n_1 with
 | zero => rw [m_nat_small_L1.eq_1] at hm; cases hm
 | succ n_1 =>
  rw [m_nat_small_L1.eq_2] at hm
  refine wS (wS (wR ?_))
  refine lM (.int .i64 i_8) ?_
  refine lV (.bool (decide (0 ≤ i_8))) (r_geq i_8 0 rfl rfl) ?_
  refine lN ?_
  refine wcond (decide (0 ≤ i_8)) rfl (fun hb => ?_) (fun hb => ?_)
  ·rw [if_pos hb] at hm
   clear hb
   refine wK (wS (wB (wS (wR ?_))))
   refine lM (.int .u64 rest_7) ?_
   refine lV (.int .u64 (ishl .u64 rest_7 32)) (r_shl rest_7 32 rfl rfl (by decide)) ?_
   refine lM (.slice a0 a_4.length cap0) ?_
   refine lM (.int .i64 i_8) ?_
   obtain ⟨e_10, hj_11, hm⟩ := bS hm
   refine lV (sptr a0 (Int.toNat i_8 * 1)) (r_idx Tryz.underlying36 Tryz.sizeOf114 rfl rfl (at?_some hj_11).1 (at?_some hj_11).2.1 (h_5.addr hj_11)) ?_
   refine lV (.int .u32 e_10) (r_ld Tryz.isAgg114 rfl (h_5.atInt hj_11)) ?_
   refine lV (.int .u64 (IntKind.u64.wrap e_10)) (r_conv e_10 ⟨_, Tryz.underlying114⟩ Tryz.underlying108 rfl) ?_
   refine lV (.int .u64 (ior .u64 (ishl .u64 rest_7 32) (IntKind.u64.wrap e_10))) (r_or (ishl .u64 rest_7 32) (IntKind.u64.wrap e_10) rfl rfl) ?_
   refine lA (.int .u64 (ior .u64 (ishl .u64 rest_7 32) (IntKind.u64.wrap e_10))) ?_
   refine lN (wS (wR ?_))
   refine lM (.slice a0 a_4.length cap0) ?_
   refine lM (.int .i64 i_8) ?_
   refine lM (.int .u64 (ior .u64 (ishl .u64 rest_7 32) (IntKind.u64.wrap e_10))) ?_
   refine lM (.int .u32 p1_d) ?_
   refine lV (.int .u64 (IntKind.u64.wrap p1_d)) (r_conv p1_d ⟨_, Tryz.underlying114⟩ Tryz.underlying108 rfl) ?_
   obtain ⟨h0_12, hm⟩ := cS hm
   refine lV (.int .u64 (IntKind.u64.wrap (Int.tdiv (ior .u64 (ishl .u64 rest_7 32) (IntKind.u64.wrap e_10)) (IntKind.u64.wrap p1_d)))) (r_quo (ior .u64 (ishl .u64 rest_7 32) (IntKind.u64.wrap e_10)) (IntKind.u64.wrap p1_d) rfl rfl h0_12) ?_
   refine lV (.int .u32 (IntKind.u32.wrap (IntKind.u64.wrap (Int.tdiv (ior .u64 (ishl .u64 rest_7 32) (IntKind.u64.wrap e_10)) (IntKind.u64.wrap p1_d))))) (r_conv (IntKind.u64.wrap (Int.tdiv (ior .u64 (ishl .u64 rest_7 32) (IntKind.u64.wrap e_10)) (IntKind.u64.wrap p1_d))) ⟨_, Tryz.underlying108⟩ Tryz.underlying114 rfl) ?_
   refine lV (sptr a0 (Int.toNat i_8 * 1)) (r_idx Tryz.underlying36 Tryz.sizeOf114 rfl rfl (at?_some hj_11).1 (at?_some hj_11).2.1 (h_5.addr hj_11)) ?_
   obtain ⟨xs_18, hz_17, hm⟩ := bS hm
   have hz_17 : xs_18 = a_4.set (Int.toNat i_8) (IntKind.u32.wrap (IntKind.u64.wrap (Int.tdiv (ior .u64 (ishl .u64 rest_7 32) (IntKind.u64.wrap e_10)) (IntKind.u64.wrap p1_d)))) := (Option.some.inj hz_17).symm
   refine l_store (x1 := IntKind.u32.wrap (IntKind.u64.wrap (Int.tdiv (ior .u64 (ishl .u64 rest_7 32) (IntKind.u64.wrap e_10)) (IntKind.u64.wrap p1_d)))) (v := (.int .u32 (IntKind.u32.wrap (IntKind.u64.wrap (Int.tdiv (ior .u64 (ishl .u64 rest_7 32) (IntKind.u64.wrap e_10)) (IntKind.u64.wrap p1_d)))))) h_5 hj_11 rfl Tryz.sizeOf114 (rd_int .u32 (IntKind.u32.wrap (IntKind.u64.wrap (Int.tdiv (ior .u64 (ishl .u64 rest_7 32) (IntKind.u64.wrap e_10)) (IntKind.u64.wrap p1_d))))) rfl rfl (by decide) ?_
   intro w_13 hk_14 hs_15 h_16
   rw [← hz_17] at h_16
   have hlen_19 : xs_18.length = p0_a.length := (show a_4.length = xs_18.length by rw [hz_17, List.length_set]).symm.trans hlen_6
   refine .ld (d := 0) (v := (.slice a0 xs_18.length cap0)) (congrArg (fun n => Value.slice a0 n cap0) (show a_4.length = xs_18.length by rw [hz_17, List.length_set])) ?_
   clear h_5
   refine lN (wR ?_)
   refine lM (.int .u64 (ior .u64 (ishl .u64 rest_7 32) (IntKind.u64.wrap e_10))) ?_
   refine lM (.int .u32 p1_d) ?_
   refine lV (.int .u64 (IntKind.u64.wrap p1_d)) (r_conv p1_d ⟨_, Tryz.underlying114⟩ Tryz.underlying108 rfl) ?_
   obtain ⟨h0_20, hm⟩ := cS hm
   refine lV (.int .u64 (Int.tmod (ior .u64 (ishl .u64 rest_7 32) (IntKind.u64.wrap e_10)) (IntKind.u64.wrap p1_d))) (r_rem (ior .u64 (ishl .u64 rest_7 32) (IntKind.u64.wrap e_10)) (IntKind.u64.wrap p1_d) rfl rfl h0_20) ?_
   refine lA (.int .u64 (Int.tmod (ior .u64 (ishl .u64 rest_7 32) (IntKind.u64.wrap e_10)) (IntKind.u64.wrap p1_d))) ?_
   refine lN (wR ?_)
   refine lM (.int .i64 i_8) ?_
   refine lV (.int .i64 (IntKind.i64.wrap (i_8 - 1))) (r_sub i_8 1 rfl rfl) ?_
   refine lA (.int .i64 (IntKind.i64.wrap (i_8 - 1))) ?_
   refine lN ?_
   replace hst := hst.kp hk_14 hs_15
   exact ⟨n_1, by omega, ⟨col_3, xs_18, (Int.tmod (ior .u64 (ishl .u64 rest_7 32) (IntKind.u64.wrap e_10)) (IntKind.u64.wrap p1_d)), (IntKind.i64.wrap (i_8 - 1)), n_1, rfl, hm, hst, h_16, hlen_19, hlen_19, rfl, rfl, rfl, rfl, rfl⟩⟩
  rw [if_neg (by rw [hb]; decide)] at hm
  clear hb
  refine wexit (inB_hit ?_)
  refine wS (wR ?_)
  refine lM (.int .u64 rest_7) ?_
  refine lV (.int .u32 (IntKind.u32.wrap rest_7)) (r_conv rest_7 ⟨_, Tryz.underlying108⟩ Tryz.underlying114 rfl) ?_
  refine lA (.int .u32 (IntKind.u32.wrap rest_7)) ?_
  refine lN ?_
  refine wret ?_
  cases hm
  exact ⟨rfl, colFL w0.heap.size [qc0] col col_3 (fun n => bif Nat.beq n 440 then qc0 else 0), rfl, hst.finL rfl (fun n => bif Nat.beq n 440 then qc0 else 0), hst.finOwnL (g := (fun n => bif Nat.beq n 440 then qc0 else 0)) rfl h_5 (by decide) (by decide) rfl, hlen_9⟩
theorem el114_104 : ElemOk Tryz.prog 114 1 4 := ⟨Tryz.t114, _, rfl, rfl, rfl, rfl, rfl⟩
def m_nat_DivMod (N : Nat) (p0_a : (List Int)) (p1_b : (List Int)) : Option ((List Int) × (List Int) × Int) :=
  (m_nat_trim N p0_a).bind fun r_1 => (m_nat_trim N p1_b).bind fun r_9 => if (decide ((r_9.length : Int) = 0)) = true then none else ((m_nat_Cmp N r_1 r_9).bind fun r_17 => if (decide (r_17 < 0)) = true then ((m_nat_own N r_1).bind fun r_21 => some (([] : List Int), r_21, 0)) else (if (decide ((r_9.length : Int) = 1)) = true then ((m_slices_Clone_api_Nat_uint32 r_1).bind fun r_29 => (at? r_9 0).bind fun e_37 => (m_nat_small N r_29 e_37).bind fun r_39 => (m_nat_own N r_39.2).bind fun r_46 => (m_nat_own N [r_39.1]).bind fun r_60 => some (r_46, r_60, 0)) else none))
theorem c_nat_DivMod (N : Nat) (c1 : Nat) (c2 : Nat) (col : Col) (w0 : World) (a0 : Option Addr) (cap0 : Nat) (p0_a : (List Int)) (a1 : Option Addr) (cap1 : Nat) (p1_b : (List Int)) (h0 : Sl (Rep.int .u32) col w0 a0 cap0 p0_a) (h1 : Sl (Rep.int .u32) col w0 a1 cap1 p1_b) (r : ((List Int) × (List Int) × Int)) (hm : m_nat_DivMod N p0_a p1_b = some r) :
    Calls Tryz.prog 104 #[(.slice a0 p0_a.length cap0), (.slice a1 p1_b.length cap1)] w0 (fun e w' => ∃ (col' : Col) (ra1 : Option Addr) (rc2 : Nat) (ra4 : Option Addr) (rc5 : Nat), e = .returned (.tuple #[(.slice ra1 r.1.length rc2), (.slice ra4 r.2.1.length rc5), (.int .i64 r.2.2)]) ∧ Grow col w0 col' w' ∧ Own (Rep.int .u32) 114 c1 col' w' ra1 rc2 r.1 ∧ Own (Rep.int .u32) 114 c2 col' w' ra4 rc5 r.2.1) := by
 refine calls_of3 4 5 6 (m := 122) (args := [(.slice a0 p0_a.length cap0), (.slice a1 p1_b.length cap1)]) Tryz.func104 rfl rfl rfl rfl rfl ?_
 rw [m_nat_DivMod.eq_1] at hm
 have hst := St.start col w0
 refine wS (wR ?_)
 refine lA (.slice none (([] : List Int).length) 0) ?_
 refine lA (.slice none (([] : List Int).length) 0) ?_
 refine lA (.int .i64 0) ?_
 refine lN (wS (wR ?_))
 refine lM (.slice a0 p0_a.length cap0) ?_
 obtain ⟨r_1, hr_2, hm⟩ := bS hm
 replace h0 := h0.keep (Stay.start col w0)
 refine lc rfl rfl (r_call1 Tryz.call88 rfl) (c_nat_trim N (col0 col) _ a0 cap0 p0_a h0 r_1 hr_2) ?_
 rintro _ w_6 ⟨col_8, ra_3, rc_4, rfl, hg_7, rh_5⟩
 refine ⟨_, rfl, ?_⟩
 refine lM (.slice a1 p1_b.length cap1) ?_
 obtain ⟨r_9, hr_10, hm⟩ := bS hm
 replace h1 := (h1.keep (Stay.start col w0)).gr hg_7
 refine lc rfl rfl (r_call1 Tryz.call88 rfl) (c_nat_trim N col_8 _ a1 cap1 p1_b h1 r_9 hr_10) ?_
 rintro _ w_14 ⟨col_16, ra_11, rc_12, rfl, hg_15, rh_13⟩
 refine ⟨_, rfl, ?_⟩
 refine lA (.slice ra_3 r_1.length rc_4) ?_
 refine lA (.slice ra_11 r_9.length rc_12) ?_
 refine lN (wS (wS (wR ?_)))
 refine lM (.slice ra_11 r_9.length rc_12) ?_
 refine lV (.int .i64 (r_9.length : Int)) (r_len Tryz.underlying36 rfl) ?_
 refine lV (.bool (decide ((r_9.length : Int) = 0))) (r_eql (r_9.length : Int) 0 rfl rfl) ?_
 refine lN ?_
 replace hst := (hst.grow hg_7).grow hg_15
 replace rh_5 := rh_5.gr hg_15
 refine wcond (decide ((r_9.length : Int) = 0)) rfl (fun hb => ?_) (fun hb => ?_)
 ·rw [if_pos hb] at hm
  clear hb
  cases hm
 rw [if_neg (by rw [hb]; decide)] at hm
 clear hb
 refine wK (wS (wS (wR ?_)))
 refine lM (.slice ra_3 r_1.length rc_4) ?_
 refine lM (.slice ra_11 r_9.length rc_12) ?_
 obtain ⟨r_17, hr_18, hm⟩ := bS hm
 refine lc rfl rfl (r_call2 Tryz.call58 rfl rfl) (c_nat_Cmp N col_16 _ ra_3 rc_4 r_1 ra_11 rc_12 r_9 rh_5 rh_13 r_17 hr_18) ?_
 rintro _ w_19 ⟨rfl, hg_20⟩
 refine ⟨_, rfl, ?_⟩
 replace hg_20 : Grow col_16 w_14 col_16 w_19 := .of_below hg_20
 refine lV (.bool (decide (r_17 < 0))) (r_lss r_17 0 rfl rfl) ?_
 refine lN ?_
 replace rh_5 := rh_5.gr hg_20
 replace rh_13 := rh_13.gr hg_20
 replace hst := hst.grow hg_20
 refine wcond (decide (r_17 < 0)) rfl (fun hb => ?_) (fun hb => ?_)
 ·rw [if_pos hb] at hm
  clear hb
  refine wS (wR ?_)
  refine lM (.slice ra_3 r_1.length rc_4) ?_
  obtain ⟨r_21, hr_22, hm⟩ := bS hm
  refine lc rfl rfl (r_call1 Tryz.call89 rfl) (c_nat_own N 1 col_16 _ ra_3 rc_4 r_1 rh_5 r_21 hr_22) ?_
  rintro _ w_26 ⟨col_28, ra_23, rc_24, rfl, hg_27, rh_25⟩
  refine ⟨_, rfl, ?_⟩
  refine lA (.slice none (([] : List Int).length) 0) ?_
  refine lA (.slice ra_23 r_21.length rc_24) ?_
  refine lA (.int .i64 0) ?_
  refine lN ?_
  refine wret ?_
  cases hm
  replace hst := hst.grow hg_27
  exact ⟨rfl, colF w0.heap.size col col_28 (fun n => bif Nat.beq n 1 then c2 else 0), none, 0, ra_23, rc_24, rfl, hst.fin (fun n => bif Nat.beq n 1 then c2 else 0), Own.nil, hst.finOwn (g := (fun n => bif Nat.beq n 1 then c2 else 0)) rfl rh_25 (by decide) (by decide) rfl⟩
 rw [if_neg (by rw [hb]; decide)] at hm
 clear hb
 refine wK (wS (wS (wR ?_)))
 refine lM (.slice ra_11 r_9.length rc_12) ?_
 refine lV (.int .i64 (r_9.length : Int)) (r_len Tryz.underlying36 rfl) ?_
 refine lV (.bool (decide ((r_9.length : Int) = 1))) (r_eql (r_9.length : Int) 1 rfl rfl) ?_
 refine lN ?_
 refine wcond (decide ((r_9.length : Int) = 1)) rfl (fun hb => ?_) (fun hb => ?_)
 ·rw [if_pos hb] at hm
  clear hb
  refine wS (wR ?_)
  refine lM (.slice ra_3 r_1.length rc_4) ?_
  obtain ⟨r_29, hr_30, hm⟩ := bS hm
  refine lc rfl rfl (r_call1 Tryz.call130 rfl) (c_slices_Clone_api_Nat_uint32 2 col_16 _ ra_3 rc_4 r_1 rh_5 r_29 hr_30) ?_
  rintro _ w_34 ⟨col_36, ra_31, rc_32, rfl, hg_35, rh_33⟩
  refine ⟨_, rfl, ?_⟩
  refine lA (.slice ra_31 r_29.length rc_32) ?_
  refine lN (wS (wR ?_))
  refine lM (.slice ra_31 r_29.length rc_32) ?_
  refine lM (.slice ra_11 r_9.length rc_12) ?_
  obtain ⟨e_37, hj_38, hm⟩ := bS hm
  replace rh_13 := rh_13.gr hg_35
  refine lV (sptr ra_11 (Int.toNat 0 * 1)) (r_idx Tryz.underlying36 Tryz.sizeOf114 rfl rfl (at?_some hj_38).1 (at?_some hj_38).2.1 (rh_13.addr hj_38)) ?_
  refine lV (.int .u32 e_37) (r_ld Tryz.isAgg114 rfl (rh_13.atInt hj_38)) ?_
  obtain ⟨r_39, hr_40, hm⟩ := bS hm
  refine lc rfl rfl (r_call2 Tryz.call107 rfl rfl) (c_nat_small N col_36 _ 2 rfl ra_31 rc_32 r_29 e_37 rh_33 r_39 hr_40) ?_
  rintro _ w_43 ⟨col_45, rfl, hg_44, oh_41, ohl_42⟩
  refine ⟨_, rfl, ?_⟩
  clear rh_33
  refine .ld (d := 7) (v := (.slice ra_31 r_39.2.length rc_32)) (congrArg (fun n => Value.slice ra_31 n rc_32) (show r_29.length = r_39.2.length from ohl_42.symm)) ?_
  refine .ld (d := 34) (v := (.slice ra_31 r_39.2.length rc_32)) (congrArg (fun n => Value.slice ra_31 n rc_32) (show r_29.length = r_39.2.length from ohl_42.symm)) ?_
  refine lA (.int .u32 r_39.1) ?_
  refine lN (wS (wR ?_))
  refine lM (.slice ra_31 r_39.2.length rc_32) ?_
  obtain ⟨r_46, hr_47, hm⟩ := bS hm
  refine lc rfl rfl (r_call1 Tryz.call89 rfl) (c_nat_own N 3 (frC 2 col_45) _ ra_31 rc_32 r_39.2 (oh_41.toSlF (Froz.int .u32)) r_46 hr_47) ?_
  rintro _ w_51 ⟨col_53, ra_48, rc_49, rfl, hg_52, rh_50⟩
  refine ⟨_, rfl, ?_⟩
  replace rh_50 := rh_50.thaw (flat_int .u32) hg_52 ((Fz.refl (col := col_45)).froz 2) (by decide)
  replace hg_52 := hg_52.thawR (col := col_45)
  generalize colR w_43.heap.size col_45 col_53 = col_54 at *
  refine lM (.int .u32 r_39.1) ?_
  refine l_lit (col := col_54) (r := (Rep.int .u32)) (xs := [r_39.1]) [(.int .u32 r_39.1)] 4 rfl Tryz.underlying36 el114_104 rfl rfl rfl rfl rfl rfl (by intro v hv; simp only [List.mem_cons, List.not_mem_nil, or_false] at hv; subst hv; rfl) (RowsH.ofF (Rows.consF (r := (Rep.int .u32)) (x := r_39.1) (cs := [(.int .u32 r_39.1)]) (rd_int .u32 r_39.1) Rows.nil0)) ?_
  intro a_55 w_56 col_57 hg_58 h_59
  obtain ⟨r_60, hr_61, hm⟩ := bS hm
  refine lc rfl rfl (r_call1 Tryz.call89 rfl) (c_nat_own N 5 (frC 4 col_57) _ a_55 1 [r_39.1] (h_59.toSlF (Froz.int .u32)) r_60 hr_61) ?_
  rintro _ w_65 ⟨col_67, ra_62, rc_63, rfl, hg_66, rh_64⟩
  refine ⟨_, rfl, ?_⟩
  replace rh_64 := rh_64.thaw (flat_int .u32) hg_66 ((Fz.refl (col := col_57)).froz 4) (by decide)
  replace hg_66 := hg_66.thawR (col := col_57)
  generalize colR w_56.heap.size col_57 col_67 = col_68 at *
  refine lA (.slice ra_48 r_46.length rc_49) ?_
  refine lA (.slice ra_62 r_60.length rc_63) ?_
  refine lA (.int .i64 0) ?_
  refine lN ?_
  refine wret ?_
  cases hm
  replace hst := ((((hst.grow hg_35).kpp hg_44).grow hg_52).grow hg_58).grow hg_66
  replace rh_50 := (rh_50.gr hg_58).gr hg_66
  exact ⟨rfl, colF w0.heap.size col col_68 (fun n => bif Nat.beq n 3 then c1 else bif Nat.beq n 5 then c2 else 0), ra_48, rc_49, ra_62, rc_63, rfl, hst.fin (fun n => bif Nat.beq n 3 then c1 else bif Nat.beq n 5 then c2 else 0), hst.finOwn (g := (fun n => bif Nat.beq n 3 then c1 else bif Nat.beq n 5 then c2 else 0)) rfl rh_50 (by decide) (by decide) rfl, hst.finOwn (g := (fun n => bif Nat.beq n 3 then c1 else bif Nat.beq n 5 then c2 else 0)) rfl rh_64 (by decide) (by decide) rfl⟩
 rw [if_neg (by rw [hb]; decide)] at hm
 clear hb
 cases hm
def m_nat_Gcd_L1 (N : Nat)  : Nat → (List Int) → (List Int) → Option (List Int)
  | 0, _, _ => none
  | n_17 + 1, a_20, b_24 => if (decide (0 < (b_24.length : Int))) = true then ((m_nat_DivMod N a_20 b_24).bind fun r_28 => (m_nat_Gcd_L1 N n_17) b_24 r_28.2.1) else (some a_20)
termination_by structural x => x
def m_nat_Gcd (N : Nat) (p0_a : (List Int)) (p1_b : (List Int)) : Option (List Int) :=
  (m_nat_own N p0_a).bind fun r_1 => (m_nat_own N p1_b).bind fun r_9 => m_nat_Gcd_L1 N N r_1 r_9
theorem c_nat_Gcd (N : Nat) (c1 : Nat) (col : Col) (w0 : World) (a0 : Option Addr) (cap0 : Nat) (p0_a : (List Int)) (a1 : Option Addr) (cap1 : Nat) (p1_b : (List Int)) (h0 : Sl (Rep.int .u32) col w0 a0 cap0 p0_a) (h1 : Sl (Rep.int .u32) col w0 a1 cap1 p1_b) (r : (List Int)) (hm : m_nat_Gcd N p0_a p1_b = some r) :
    Calls Tryz.prog 103 #[(.slice a0 p0_a.length cap0), (.slice a1 p1_b.length cap1)] w0 (fun e w' => ∃ (col' : Col) (ra1 : Option Addr) (rc2 : Nat), e = .returned ((.slice ra1 r.length rc2)) ∧ Grow col w0 col' w' ∧ Own (Rep.int .u32) 114 c1 col' w' ra1 rc2 r) := by
 refine calls_of1 4 (m := 25) (args := [(.slice a0 p0_a.length cap0), (.slice a1 p1_b.length cap1)]) Tryz.func103 rfl rfl rfl rfl rfl ?_
 rw [m_nat_Gcd.eq_1] at hm
 have hst := St.start col w0
 refine wS (wR ?_)
 refine lA (.slice none (([] : List Int).length) 0) ?_
 refine lN (wS (wR ?_))
 refine lM (.slice a0 p0_a.length cap0) ?_
 obtain ⟨r_1, hr_2, hm⟩ := bS hm
 replace h0 := h0.keep (Stay.start col w0)
 refine lc rfl rfl (r_call1 Tryz.call89 rfl) (c_nat_own N 1 (col0 col) _ a0 cap0 p0_a h0 r_1 hr_2) ?_
 rintro _ w_6 ⟨col_8, ra_3, rc_4, rfl, hg_7, rh_5⟩
 refine ⟨_, rfl, ?_⟩
 refine lM (.slice a1 p1_b.length cap1) ?_
 obtain ⟨r_9, hr_10, hm⟩ := bS hm
 replace h1 := (h1.keep (Stay.start col w0)).gr hg_7
 refine lc rfl rfl (r_call1 Tryz.call89 rfl) (c_nat_own N 2 col_8 _ a1 cap1 p1_b h1 r_9 hr_10) ?_
 rintro _ w_14 ⟨col_16, ra_11, rc_12, rfl, hg_15, rh_13⟩
 refine ⟨_, rfl, ?_⟩
 refine lA (.slice ra_3 r_1.length rc_4) ?_
 refine lA (.slice ra_11 r_9.length rc_12) ?_
 refine lN (wS (wB ?_))
 replace hst := (hst.grow hg_7).grow hg_15
 replace rh_5 := rh_5.gr hg_15
 refine wloop (fun n f w_18 => ∃ (col_19 : Col) (a_21 : Option Addr) (cap_22 : Nat) (a_20 : List Int) (a_25 : Option Addr) (cap_26 : Nat) (b_24 : List Int) (n_17 : Nat), n_17 = n ∧ m_nat_Gcd_L1 N n_17 a_20 b_24 = some r ∧ St w0 (col0 col) col_19 w_18 ∧ Own (Rep.int .u32) 114 1 col_19 w_18 a_21 cap_22 a_20 ∧ Own (Rep.int .u32) 114 2 col_19 w_18 a_25 cap_26 b_24 ∧ f 0 = (.slice a_21 a_20.length cap_22) ∧ f 1 = (.slice a_25 b_24.length cap_26) ∧ f 1000000 = (enc [])) N ⟨col_16, ra_3, rc_4, r_1, ra_11, rc_12, r_9, N, rfl, hm, hst, rh_5, rh_13, rfl, rfl, rfl⟩ ?_
 clear hm; intro n f w_18 hI
 obtain ⟨col_19, a_21, cap_22, a_20, a_25, cap_26, b_24, n_17, hn, hm, hst, h_23, h_27, hs0, hs1, hs1000000⟩ := hI
 subst hn
 refine .lD 0 hs0 ?_
 refine .lD 1 hs1 ?_
 refine .lD 1000000 hs1000000 ?_
 clear hs0 hs1 hs1000000
 cases n_17 with
 | zero => rw [m_nat_Gcd_L1.eq_1] at hm; cases hm
 | succ n_17 =>
  rw [m_nat_Gcd_L1.eq_2] at hm
  refine wS (wS (wR ?_))
  refine lM (.slice a_25 b_24.length cap_26) ?_
  refine lV (.int .i64 (b_24.length : Int)) (r_len Tryz.underlying36 rfl) ?_
  refine lV (.bool (decide (0 < (b_24.length : Int)))) (r_gtr (b_24.length : Int) 0 rfl rfl) ?_
  refine lN ?_
  refine wcond (decide (0 < (b_24.length : Int))) rfl (fun hb => ?_) (fun hb => ?_)
  ·rw [if_pos hb] at hm
   clear hb
   refine wK (wB (wS (wR ?_)))
   refine lM (.slice a_21 a_20.length cap_22) ?_
   refine lM (.slice a_25 b_24.length cap_26) ?_
   obtain ⟨r_28, hr_29, hm⟩ := bS hm
   refine lc rfl rfl (r_call2 Tryz.call104 rfl rfl) (c_nat_DivMod N 3 4 (frC 2 (frC 1 col_19)) _ a_21 cap_22 a_20 a_25 cap_26 b_24 ((h_23.toSlF (Froz.int .u32)).froz 2) ((h_27.froz 1 (by decide)).toSlF (Froz.int .u32)) r_28 hr_29) ?_
   rintro _ w_36 ⟨col_38, ra_30, rc_31, ra_33, rc_34, rfl, hg_37, rh_32, rh_35⟩
   refine ⟨_, rfl, ?_⟩
   replace rh_35 := rh_35.thaw (flat_int .u32) hg_37 (((Fz.refl (col := col_19)).froz 1).froz 2) (by decide)
   replace hg_37 := hg_37.thawR (col := col_19)
   generalize colR w_18.heap.size col_19 col_38 = col_39 at *
   refine lM (.tuple #[(.slice ra_30 r_28.1.length rc_31), (.slice ra_33 r_28.2.1.length rc_34), (.int .i64 r_28.2.2)]) ?_
   refine lV (.slice ra_30 r_28.1.length rc_31) (r_extract rfl rfl) ?_
   refine lV (.slice ra_33 r_28.2.1.length rc_34) (r_extract rfl rfl) ?_
   refine lV (.int .i64 r_28.2.2) (r_extract rfl rfl) ?_
   refine lA (.slice ra_30 r_28.1.length rc_31) ?_
   refine lA (.slice ra_33 r_28.2.1.length rc_34) ?_
   refine lA (.int .i64 r_28.2.2) ?_
   refine lN (wR ?_)
   refine lM (.slice a_25 b_24.length cap_26) ?_
   refine lM (.slice ra_33 r_28.2.1.length rc_34) ?_
   refine lA (.slice a_25 b_24.length cap_26) ?_
   refine lA (.slice ra_33 r_28.2.1.length rc_34) ?_
   refine lN ?_
   replace h_27 := h_27.gr hg_37
   replace h_27 := h_27.recolSelf 1 (by decide)
   replace rh_35 := rh_35.recol 2 1 (by decide)
   replace hst := hst.grow hg_37
   replace hst := hst.recol 2 1 (by decide) (by decide)
   replace h_27 := h_27.recol 4 2 (by decide)
   replace rh_35 := rh_35.recolSelf 2 (by decide)
   replace hst := hst.recol 4 2 (by decide) (by decide)
   exact ⟨n_17, by omega, ⟨(rcC 4 2 (rcC 2 1 col_39)), a_25, cap_26, b_24, ra_33, rc_34, r_28.2.1, n_17, rfl, hm, hst, h_27, rh_35, rfl, rfl, rfl⟩⟩
  rw [if_neg (by rw [hb]; decide)] at hm
  clear hb
  refine wexit (inB_hit ?_)
  refine wS (wR ?_)
  refine lM (.slice a_21 a_20.length cap_22) ?_
  refine lA (.slice a_21 a_20.length cap_22) ?_
  refine lN ?_
  refine wret ?_
  cases hm
  exact ⟨rfl, colF w0.heap.size col col_19 (fun n => bif Nat.beq n 1 then c1 else 0), a_21, cap_22, rfl, hst.fin (fun n => bif Nat.beq n 1 then c1 else 0), hst.finOwn (g := (fun n => bif Nat.beq n 1 then c1 else 0)) rfl h_23 (by decide) (by decide) rfl⟩
def m_whole_Norm (N : Nat) (p0_a : (Bool × (List Int))) : Option (Bool × (List Int)) :=
  (m_whole_of N p0_a.1 p0_a.2).bind fun r_11 => some (r_11.1, r_11.2)
theorem c_whole_Norm (N : Nat) (c1 : Nat) (col : Col) (w0 : World) (a0_0 : Option Addr) (cap0_0 : Nat) (p0_a : (Bool × (List Int))) (h0_0 : Sl (Rep.int .u32) col w0 a0_0 cap0_0 p0_a.2) (r : (Bool × (List Int))) (hm : m_whole_Norm N p0_a = some r) :
    Calls Tryz.prog 105 #[(.agg #[(.bool p0_a.1), (.slice a0_0 p0_a.2.length cap0_0)])] w0 (fun e w' => ∃ (col' : Col) (ra1 : Option Addr) (rc2 : Nat), e = .returned ((.agg #[(.bool r.1), (.slice ra1 r.2.length rc2)])) ∧ Grow col w0 col' w' ∧ Own (Rep.int .u32) 114 c1 col' w' ra1 rc2 r.2) := by
 refine calls_ofR (m := 8) (args := [(.agg #[(.bool p0_a.1), (.slice a0_0 p0_a.2.length cap0_0)])]) Tryz.func105 rfl rfl rfl ?_
 rw [m_whole_Norm.eq_1] at hm
 have hst := St.start col w0
 refine wS (wR ?_)
 refine l_box (col := (col0 col)) (v := (.agg #[(.bool p0_a.1), (.slice a0_0 p0_a.2.length cap0_0)])) 1 rfl rfl ?_
 intro g_1 w_2 col_3 hg_4 hb_5
 replace hb_5 : Box 38 1 col_3 w_2 g_1 #[(.bool p0_a.1), (.slice a0_0 p0_a.2.length cap0_0)] := hb_5
 refine l_alloc (col := col_3) (v := (.agg #[(.bool false), (.slice none (([] : List Int).length) 0)])) 2 rfl Tryz.zeroValue38 ?_
 intro g_6 w_7 col_8 hg_9 hb_10
 replace hb_10 : Box 38 2 col_8 w_7 g_6 #[(.bool false), (.slice none (([] : List Int).length) 0)] := hb_10
 refine lN (wS (wR ?_))
 refine lV (.pointer ((some (⟨g_1, 0, none⟩ : Addr)).map (·.add 0))) (rF (sz := 1) (off := 0) Tryz.underlying38 rfl Tryz.sizeOf4 (by decide) rfl rfl ⟨_, _, rfl⟩) ?_
 replace hb_5 := hb_5.gr hg_9
 refine lV (.bool p0_a.1) (r_ld Tryz.isAgg4 rfl ((hb_5.atN).nth (q := 0) (v := (.bool p0_a.1)) rfl)) ?_
 refine lV (.pointer ((some (⟨g_1, 0, none⟩ : Addr)).map (·.add 1))) (rF (sz := 1) (off := 1) Tryz.underlying38 rfl Tryz.sizeOf36 (by decide) rfl rfl ⟨_, _, rfl⟩) ?_
 refine lV (.slice a0_0 p0_a.2.length cap0_0) (r_ld Tryz.isAgg36 rfl ((hb_5.atN).nth (q := 1) (v := (.slice a0_0 p0_a.2.length cap0_0)) rfl)) ?_
 obtain ⟨r_11, hr_12, hm⟩ := bS hm
 replace h0_0 := ((h0_0.keep (Stay.start col w0)).gr hg_4).gr hg_9
 refine lc rfl rfl (r_call2 Tryz.call112 rfl rfl) (c_whole_of N 3 col_8 _ p0_a.1 a0_0 cap0_0 p0_a.2 h0_0 r_11 hr_12) ?_
 rintro _ w_16 ⟨col_18, ra_13, rc_14, rfl, hg_17, rh_15⟩
 refine ⟨_, rfl, ?_⟩
 replace hb_10 := hb_10.gr hg_17
 refine l_bstore (v := (.agg #[(.bool r_11.1), (.slice ra_13 r_11.2.length rc_14)])) hb_10 Tryz.sizeOf38 rfl rfl (by intro u hu; simp only [Value.cells, List.mem_cons, List.not_mem_nil, or_false] at hu; rcases hu with rfl | rfl <;> rfl) rfl rfl ?_
 intro w_19 hk_20 hs_21 hb_22
 clear hb_10
 replace hb_22 : Box 38 2 col_18 w_19 g_6 #[(.bool r_11.1), (.slice ra_13 r_11.2.length rc_14)] := hb_22
 refine lN ?_
 refine wret ?_
 cases hm
 replace hst := (((hst.grow hg_4).grow hg_9).grow hg_17).kp hk_20 hs_21
 replace rh_15 := rh_15.kp hk_20
 exact ⟨rfl, _, res_a rfl rfl Tryz.isAgg38 Tryz.sizeOf38 rfl rfl hb_22.atN, colF w0.heap.size col col_18 (fun n => bif Nat.beq n 3 then c1 else 0), ra_13, rc_14, rfl, hst.fin (fun n => bif Nat.beq n 3 then c1 else 0), hst.finOwn (g := (fun n => bif Nat.beq n 3 then c1 else 0)) rfl rh_15 (by decide) (by decide) rfl⟩
def m_frac_lowest (N : Nat) (p0_neg : Bool) (p1_num : (List Int)) (p2_den : (List Int)) : Option ((Bool × (List Int)) × (List Int)) :=
  (m_nat_Gcd N p1_num p2_den).bind fun r_6 => (m_nat_DivMod N p1_num r_6).bind fun r_14 => (m_nat_DivMod N p2_den r_6).bind fun r_26 => (m_whole_Norm N (p0_neg, r_14.1)).bind fun r_38 => some ((r_38.1, r_38.2), r_26.1)
theorem c_frac_lowest (N : Nat) (c1 : Nat) (c2 : Nat) (col : Col) (w0 : World) (p0_neg : Bool) (a1 : Option Addr) (cap1 : Nat) (p1_num : (List Int)) (a2 : Option Addr) (cap2 : Nat) (p2_den : (List Int)) (h1 : Sl (Rep.int .u32) col w0 a1 cap1 p1_num) (h2 : Sl (Rep.int .u32) col w0 a2 cap2 p2_den) (r : ((Bool × (List Int)) × (List Int))) (hm : m_frac_lowest N p0_neg p1_num p2_den = some r) :
    Calls Tryz.prog 55 #[(.bool p0_neg), (.slice a1 p1_num.length cap1), (.slice a2 p2_den.length cap2)] w0 (fun e w' => ∃ (col' : Col) (ra1 : Option Addr) (rc2 : Nat) (ra4 : Option Addr) (rc5 : Nat), e = .returned ((.agg #[(.bool r.1.1), (.slice ra1 r.1.2.length rc2), (.slice ra4 r.2.length rc5)])) ∧ Grow col w0 col' w' ∧ Own (Rep.int .u32) 114 c1 col' w' ra1 rc2 r.1.2 ∧ Own (Rep.int .u32) 114 c2 col' w' ra4 rc5 r.2) := by
 refine calls_ofR (m := 37) (args := [(.bool p0_neg), (.slice a1 p1_num.length cap1), (.slice a2 p2_den.length cap2)]) Tryz.func55 rfl rfl rfl ?_
 rw [m_frac_lowest.eq_1] at hm
 have hst := St.start col w0
 refine wS (wR ?_)
 refine l_alloc (col := (col0 col)) (v := (.agg #[(.bool false), (.slice none (([] : List Int).length) 0), (.slice none (([] : List Int).length) 0)])) 1 rfl Tryz.zeroValue40 ?_
 intro g_1 w_2 col_3 hg_4 hb_5
 replace hb_5 : Box 40 1 col_3 w_2 g_1 #[(.bool false), (.slice none (([] : List Int).length) 0), (.slice none (([] : List Int).length) 0)] := hb_5
 refine lN (wS (wR ?_))
 refine lM (.slice a1 p1_num.length cap1) ?_
 refine lM (.slice a2 p2_den.length cap2) ?_
 obtain ⟨r_6, hr_7, hm⟩ := bS hm
 replace h1 := (h1.keep (Stay.start col w0)).gr hg_4
 replace h2 := (h2.keep (Stay.start col w0)).gr hg_4
 refine lc rfl rfl (r_call2 Tryz.call103 rfl rfl) (c_nat_Gcd N 2 col_3 _ a1 cap1 p1_num a2 cap2 p2_den h1 h2 r_6 hr_7) ?_
 rintro _ w_11 ⟨col_13, ra_8, rc_9, rfl, hg_12, rh_10⟩
 refine ⟨_, rfl, ?_⟩
 refine lA (.slice ra_8 r_6.length rc_9) ?_
 refine lN (wS (wR ?_))
 refine lM (.slice a1 p1_num.length cap1) ?_
 refine lM (.slice ra_8 r_6.length rc_9) ?_
 obtain ⟨r_14, hr_15, hm⟩ := bS hm
 replace h1 := h1.gr hg_12
 refine lc rfl rfl (r_call2 Tryz.call104 rfl rfl) (c_nat_DivMod N 3 4 (frC 2 col_13) _ a1 cap1 p1_num ra_8 rc_9 r_6 (h1.froz 2) (rh_10.toSlF (Froz.int .u32)) r_14 hr_15) ?_
 rintro _ w_22 ⟨col_24, ra_16, rc_17, ra_19, rc_20, rfl, hg_23, rh_18, rh_21⟩
 refine ⟨_, rfl, ?_⟩
 replace rh_18 := rh_18.thaw (flat_int .u32) hg_23 ((Fz.refl (col := col_13)).froz 2) (by decide)
 replace hg_23 := hg_23.thawR (col := col_13)
 generalize colR w_11.heap.size col_13 col_24 = col_25 at *
 refine lM (.tuple #[(.slice ra_16 r_14.1.length rc_17), (.slice ra_19 r_14.2.1.length rc_20), (.int .i64 r_14.2.2)]) ?_
 refine lV (.slice ra_16 r_14.1.length rc_17) (r_extract rfl rfl) ?_
 refine lV (.slice ra_19 r_14.2.1.length rc_20) (r_extract rfl rfl) ?_
 refine lV (.int .i64 r_14.2.2) (r_extract rfl rfl) ?_
 refine lA (.slice ra_16 r_14.1.length rc_17) ?_
 refine lA (.slice ra_19 r_14.2.1.length rc_20) ?_
 refine lA (.int .i64 r_14.2.2) ?_
 refine lN (wS (wR ?_))
 refine lM (.slice a2 p2_den.length cap2) ?_
 refine lM (.slice ra_8 r_6.length rc_9) ?_
 obtain ⟨r_26, hr_27, hm⟩ := bS hm
 replace h2 := (h2.gr hg_12).gr hg_23
 replace rh_10 := rh_10.gr hg_23
 refine lc rfl rfl (r_call2 Tryz.call104 rfl rfl) (c_nat_DivMod N 5 6 (frC 2 col_25) _ a2 cap2 p2_den ra_8 rc_9 r_6 (h2.froz 2) (rh_10.toSlF (Froz.int .u32)) r_26 hr_27) ?_
 rintro _ w_34 ⟨col_36, ra_28, rc_29, ra_31, rc_32, rfl, hg_35, rh_30, rh_33⟩
 refine ⟨_, rfl, ?_⟩
 replace rh_30 := rh_30.thaw (flat_int .u32) hg_35 ((Fz.refl (col := col_25)).froz 2) (by decide)
 replace hg_35 := hg_35.thawR (col := col_25)
 generalize colR w_22.heap.size col_25 col_36 = col_37 at *
 refine lM (.tuple #[(.slice ra_28 r_26.1.length rc_29), (.slice ra_31 r_26.2.1.length rc_32), (.int .i64 r_26.2.2)]) ?_
 refine lV (.slice ra_28 r_26.1.length rc_29) (r_extract rfl rfl) ?_
 refine lV (.slice ra_31 r_26.2.1.length rc_32) (r_extract rfl rfl) ?_
 refine lV (.int .i64 r_26.2.2) (r_extract rfl rfl) ?_
 refine lA (.slice ra_28 r_26.1.length rc_29) ?_
 refine lA (.slice ra_31 r_26.2.1.length rc_32) ?_
 refine lA (.int .i64 r_26.2.2) ?_
 refine lN (wS (wR ?_))
 refine lM (.bool p0_neg) ?_
 refine lM (.slice ra_16 r_14.1.length rc_17) ?_
 refine lV (.agg #[(.bool p0_neg), (.slice ra_16 r_14.1.length rc_17)]) (r_build (l := [_, _]) (qs := [(0, 1), (1, 1)]) Tryz.underlying38 Tryz.zeroValue38 ⟨rfl, Tryz.sizeOf4, rfl, Tryz.sizeOf36, trivial⟩ rfl) ?_
 obtain ⟨r_38, hr_39, hm⟩ := bS hm
 replace rh_18 := rh_18.gr hg_35
 refine lc rfl rfl (r_call1 Tryz.call105 rfl) (c_whole_Norm N 7 (frC 3 col_37) _ ra_16 rc_17 (p0_neg, r_14.1) (rh_18.toSlF (Froz.int .u32)) r_38 hr_39) ?_
 rintro _ w_43 ⟨col_45, ra_40, rc_41, rfl, hg_44, rh_42⟩
 refine ⟨_, rfl, ?_⟩
 replace rh_42 := rh_42.thaw (flat_int .u32) hg_44 ((Fz.refl (col := col_37)).froz 3) (by decide)
 replace hg_44 := hg_44.thawR (col := col_37)
 generalize colR w_34.heap.size col_37 col_45 = col_46 at *
 refine lM (.slice ra_28 r_26.1.length rc_29) ?_
 refine lV (.agg #[(.bool r_38.1), (.slice ra_40 r_38.2.length rc_41), (.slice ra_28 r_26.1.length rc_29)]) (r_build (l := [_, _]) (qs := [(0, 2), (2, 1)]) Tryz.underlying40 Tryz.zeroValue40 ⟨rfl, Tryz.sizeOf38, rfl, Tryz.sizeOf36, trivial⟩ rfl) ?_
 replace hb_5 := (((hb_5.gr hg_12).gr hg_23).gr hg_35).gr hg_44
 refine l_bstore (v := (.agg #[(.bool r_38.1), (.slice ra_40 r_38.2.length rc_41), (.slice ra_28 r_26.1.length rc_29)])) hb_5 Tryz.sizeOf40 rfl rfl (by intro u hu; simp only [Value.cells, List.mem_cons, List.not_mem_nil, or_false] at hu; rcases hu with rfl | rfl | rfl <;> rfl) rfl rfl ?_
 intro w_47 hk_48 hs_49 hb_50
 clear hb_5
 replace hb_50 : Box 40 1 col_46 w_47 g_1 #[(.bool r_38.1), (.slice ra_40 r_38.2.length rc_41), (.slice ra_28 r_26.1.length rc_29)] := hb_50
 refine lN ?_
 refine wret ?_
 cases hm
 replace hst := (((((hst.grow hg_4).grow hg_12).grow hg_23).grow hg_35).grow hg_44).kp hk_48 hs_49
 replace rh_30 := (rh_30.gr hg_44).kp hk_48
 replace rh_42 := rh_42.kp hk_48
 exact ⟨rfl, _, res_a rfl rfl Tryz.isAgg40 Tryz.sizeOf40 rfl rfl hb_50.atN, colF w0.heap.size col col_46 (fun n => bif Nat.beq n 7 then c1 else bif Nat.beq n 5 then c2 else 0), ra_40, rc_41, ra_28, rc_29, rfl, hst.fin (fun n => bif Nat.beq n 7 then c1 else bif Nat.beq n 5 then c2 else 0), hst.finOwn (g := (fun n => bif Nat.beq n 7 then c1 else bif Nat.beq n 5 then c2 else 0)) rfl rh_42 (by decide) (by decide) rfl, hst.finOwn (g := (fun n => bif Nat.beq n 7 then c1 else bif Nat.beq n 5 then c2 else 0)) rfl rh_30 (by decide) (by decide) rfl⟩
def m_frac_Add (N : Nat) (p0_a : ((Bool × (List Int)) × (List Int))) (p1_b : ((Bool × (List Int)) × (List Int))) : Option ((Bool × (List Int)) × (List Int)) :=
  (m_frac_under N ((p1_b.1.1, p1_b.1.2), p1_b.2)).bind fun r_18 => (m_frac_over N (p0_a.1.1, p0_a.1.2) r_18).bind fun r_28 => (m_frac_under N ((p0_a.1.1, p0_a.1.2), p0_a.2)).bind fun r_39 => (m_frac_over N (p1_b.1.1, p1_b.1.2) r_39).bind fun r_49 => (m_whole_Add N (r_28.1, r_28.2) (r_49.1, r_49.2)).bind fun r_60 => (m_frac_under N ((p0_a.1.1, p0_a.1.2), p0_a.2)).bind fun r_82 => (m_frac_under N ((p1_b.1.1, p1_b.1.2), p1_b.2)).bind fun r_91 => (m_nat_Mul N r_82 r_91).bind fun r_100 => (m_frac_lowest N r_60.1 r_60.2 r_100).bind fun r_110 => some ((r_110.1.1, r_110.1.2), r_110.2)
theorem c_frac_Add (N : Nat) (c1 : Nat) (c2 : Nat) (col : Col) (w0 : World) (a0_0 : Option Addr) (cap0_0 : Nat) (a0_2 : Option Addr) (cap0_2 : Nat) (p0_a : ((Bool × (List Int)) × (List Int))) (a1_0 : Option Addr) (cap1_0 : Nat) (a1_2 : Option Addr) (cap1_2 : Nat) (p1_b : ((Bool × (List Int)) × (List Int))) (h0_0 : Sl (Rep.int .u32) col w0 a0_0 cap0_0 p0_a.1.2) (h0_2 : Sl (Rep.int .u32) col w0 a0_2 cap0_2 p0_a.2) (h1_0 : Sl (Rep.int .u32) col w0 a1_0 cap1_0 p1_b.1.2) (h1_2 : Sl (Rep.int .u32) col w0 a1_2 cap1_2 p1_b.2) (r : ((Bool × (List Int)) × (List Int))) (hm : m_frac_Add N p0_a p1_b = some r) :
    Calls Tryz.prog 27 #[(.agg #[(.bool p0_a.1.1), (.slice a0_0 p0_a.1.2.length cap0_0), (.slice a0_2 p0_a.2.length cap0_2)]), (.agg #[(.bool p1_b.1.1), (.slice a1_0 p1_b.1.2.length cap1_0), (.slice a1_2 p1_b.2.length cap1_2)])] w0 (fun e w' => ∃ (col' : Col) (ra1 : Option Addr) (rc2 : Nat) (ra4 : Option Addr) (rc5 : Nat), e = .returned ((.agg #[(.bool r.1.1), (.slice ra1 r.1.2.length rc2), (.slice ra4 r.2.length rc5)])) ∧ Grow col w0 col' w' ∧ Own (Rep.int .u32) 114 c1 col' w' ra1 rc2 r.1.2 ∧ Own (Rep.int .u32) 114 c2 col' w' ra4 rc5 r.2) := by
 refine calls_ofR (m := 27) (args := [(.agg #[(.bool p0_a.1.1), (.slice a0_0 p0_a.1.2.length cap0_0), (.slice a0_2 p0_a.2.length cap0_2)]), (.agg #[(.bool p1_b.1.1), (.slice a1_0 p1_b.1.2.length cap1_0), (.slice a1_2 p1_b.2.length cap1_2)])]) Tryz.func27 rfl rfl rfl ?_
 rw [m_frac_Add.eq_1] at hm
 have hst := St.start col w0
 refine wS (wR ?_)
 refine l_box (col := (col0 col)) (v := (.agg #[(.bool p0_a.1.1), (.slice a0_0 p0_a.1.2.length cap0_0), (.slice a0_2 p0_a.2.length cap0_2)])) 1 rfl rfl ?_
 intro g_1 w_2 col_3 hg_4 hb_5
 replace hb_5 : Box 40 1 col_3 w_2 g_1 #[(.bool p0_a.1.1), (.slice a0_0 p0_a.1.2.length cap0_0), (.slice a0_2 p0_a.2.length cap0_2)] := hb_5
 refine l_box (col := col_3) (v := (.agg #[(.bool p1_b.1.1), (.slice a1_0 p1_b.1.2.length cap1_0), (.slice a1_2 p1_b.2.length cap1_2)])) 2 rfl rfl ?_
 intro g_6 w_7 col_8 hg_9 hb_10
 replace hb_10 : Box 40 2 col_8 w_7 g_6 #[(.bool p1_b.1.1), (.slice a1_0 p1_b.1.2.length cap1_0), (.slice a1_2 p1_b.2.length cap1_2)] := hb_10
 refine l_alloc (col := col_8) (v := (.agg #[(.bool false), (.slice none (([] : List Int).length) 0), (.slice none (([] : List Int).length) 0)])) 3 rfl Tryz.zeroValue40 ?_
 intro g_11 w_12 col_13 hg_14 hb_15
 replace hb_15 : Box 40 3 col_13 w_12 g_11 #[(.bool false), (.slice none (([] : List Int).length) 0), (.slice none (([] : List Int).length) 0)] := hb_15
 refine lN (wS ?_)
 have hk_16 := KeepP.clip (fun _ => false) col_13 w_12
 refine wmixF (col := col_13) [(0, 1), (1, 0), (2, 0), (5, 1), (6, 0), (7, 0), (3, 3), (4, 3), (8, 3), (9, 3), (10, 3), (11, 4), (12, 2)] (by kernel_rfl) (by kernel_rfl) ⟨fun h => absurd h (by decide), fun h => absurd h (by decide), fun h => absurd h (by decide), fun h => absurd h (by decide), fun h => absurd h (by decide), fun h => absurd h (by decide), fun h => absurd h (by decide), fun h => absurd h (by decide), fun h => absurd h (by decide), fun h => absurd h (by decide), fun h => absurd h (by decide), fun _ => ⟨_, _, _, rfl, free_alloc Tryz.zeroValue38⟩, fun h => absurd h (by decide), trivial⟩ ?_
 refine xuF (v := (.pointer ((some (⟨g_1, 0, none⟩ : Addr)).map (·.add 0)))) rfl rfl (fun _ => rF (sz := 2) (off := 0) Tryz.underlying40 rfl Tryz.sizeOf38 (by decide) rfl rfl ⟨_, _, rfl⟩) ?_
 replace hb_5 := ((hb_5.gr hg_9).gr hg_14).kpp hk_16
 refine xvF (v := (.agg #[(.bool p0_a.1.1), (.slice a0_0 p0_a.1.2.length cap0_0)])) rfl rfl (fun _ hC => r_ldN Tryz.isAgg38 Tryz.sizeOf38 rfl rfl (((hb_5.atN).part 0 2 _ rfl).gr (Grow.of_below (col := (clipC w_12 col_13)) hC.below))) ?_
 replace hb_10 := (hb_10.gr hg_14).kpp hk_16
 refine xvF (v := (.agg #[(.bool p1_b.1.1), (.slice a1_0 p1_b.1.2.length cap1_0), (.slice a1_2 p1_b.2.length cap1_2)])) rfl rfl (fun _ hC => r_ldN Tryz.isAgg40 Tryz.sizeOf40 rfl rfl (hb_10.atN.gr (Grow.of_below (col := (clipC w_12 col_13)) hC.below))) ?_
 refine xuF (v := (.pointer ((some (⟨g_6, 0, none⟩ : Addr)).map (·.add 0)))) rfl rfl (fun _ => rF (sz := 2) (off := 0) Tryz.underlying40 rfl Tryz.sizeOf38 (by decide) rfl rfl ⟨_, _, rfl⟩) ?_
 refine xvF (v := (.agg #[(.bool p1_b.1.1), (.slice a1_0 p1_b.1.2.length cap1_0)])) rfl rfl (fun _ hC => r_ldN Tryz.isAgg38 Tryz.sizeOf38 rfl rfl (((hb_10.atN).part 0 2 _ rfl).gr (Grow.of_below (col := (clipC w_12 col_13)) hC.below))) ?_
 refine xvF (v := (.agg #[(.bool p0_a.1.1), (.slice a0_0 p0_a.1.2.length cap0_0), (.slice a0_2 p0_a.2.length cap0_2)])) rfl rfl (fun _ hC => r_ldN Tryz.isAgg40 Tryz.sizeOf40 rfl rfl (hb_5.atN.gr (Grow.of_below (col := (clipC w_12 col_13)) hC.below))) ?_
 refine xeF rfl rfl ?_
 intro w_17 hC0
 have hC : Grow (clipC w_12 col_13) w_12 (clipC w_12 col_13) w_17 := .of_below hC0.below
 obtain ⟨r_18, hr_19, hm⟩ := bS hm
 replace h1_0 := (((((h1_0.keep (Stay.start col w0)).gr hg_4).gr hg_9).gr hg_14).kpp hk_16).gr hC
 replace h1_2 := (((((h1_2.keep (Stay.start col w0)).gr hg_4).gr hg_9).gr hg_14).kpp hk_16).gr hC
 refine lc rfl rfl (r_call1 Tryz.call56 rfl) (c_frac_under N 4 (clipC w_12 col_13) _ a1_0 cap1_0 a1_2 cap1_2 ((p1_b.1.1, p1_b.1.2), p1_b.2) h1_0 h1_2 r_18 hr_19) ?_
 rintro _ w_23 ⟨col_25, ra_20, rc_21, rfl, hg_24, rh_22⟩
 refine ⟨_, rfl, ?_⟩
 refine lN ⟨fun w' => Grow (clipC w_23 col_25) w_23 (clipC w_23 col_25) w', fun g => (clipC w_23 col_25) g = 497, Grow.refl _ _, good_clip, fun _ => ⟨fun _ h => cls hC0 hg_24 h, fun b hb => hg_24.below.block b hb, fun g h1 h2 => fcl hg_24 g h1 (by first | exact h2 | (simp only [frC, rcC, h2]; rfl))⟩, ?_⟩
 have hk_26 := KeepP.clip (fun _ => false) col_25 w_23
 refine xeF rfl rfl ?_
 intro w_27 hC0
 replace h0_0 := (((((((h0_0.keep (Stay.start col w0)).gr hg_4).gr hg_9).gr hg_14).kpp hk_16).gr hC).gr hg_24).kpp hk_26
 replace h0_2 := (((((((h0_2.keep (Stay.start col w0)).gr hg_4).gr hg_9).gr hg_14).kpp hk_16).gr hC).gr hg_24).kpp hk_26
 replace hst := ((((((hst.grow hg_4).grow hg_9).grow hg_14).kpp hk_16).grow hC).grow hg_24).kpp hk_26
 replace hb_15 := (((hb_15.kpp hk_16).gr hC).gr hg_24).kpp hk_26
 replace hb_5 := ((hb_5.gr hC).gr hg_24).kpp hk_26
 replace hb_10 := ((hb_10.gr hC).gr hg_24).kpp hk_26
 have hC : Grow (clipC w_23 col_25) w_23 (clipC w_23 col_25) w_27 := .of_below hC0.below
 obtain ⟨r_28, hr_29, hm⟩ := bS hm
 replace rh_22 := (rh_22.kpp hk_26).gr hC
 replace h0_0 := h0_0.gr hC
 refine lc rfl rfl (r_call2 Tryz.call81 rfl rfl) (c_frac_over N 5 (frC 4 (clipC w_23 col_25)) _ a0_0 cap0_0 (p0_a.1.1, p0_a.1.2) ra_20 rc_21 r_18 (h0_0.froz 4) (rh_22.toSlF (Froz.int .u32)) r_28 hr_29) ?_
 rintro _ w_33 ⟨col_35, ra_30, rc_31, rfl, hg_34, rh_32⟩
 refine ⟨_, rfl, ?_⟩
 replace rh_32 := rh_32.thaw (flat_int .u32) hg_34 ((Fz.refl (col := (clipC w_23 col_25))).froz 4) (by decide)
 replace hg_34 := hg_34.thawR (col := (clipC w_23 col_25))
 generalize colR w_27.heap.size (clipC w_23 col_25) col_35 = col_36 at *
 refine lN ⟨fun w' => Grow (clipC w_33 col_36) w_33 (clipC w_33 col_36) w', fun g => (clipC w_33 col_36) g = 497, Grow.refl _ _, good_clip, fun _ => ⟨fun _ h => cls hC0 hg_34 h, fun b hb => hg_34.below.block b hb, fun g h1 h2 => fcl hg_34 g h1 (by first | exact h2 | (simp only [frC, rcC, h2]; rfl))⟩, ?_⟩
 have hk_37 := KeepP.clip (fun _ => false) col_36 w_33
 refine xeF rfl rfl ?_
 intro w_38 hC0
 replace h1_0 := ((((h1_0.gr hg_24).kpp hk_26).gr hC).gr hg_34).kpp hk_37
 replace h1_2 := ((((h1_2.gr hg_24).kpp hk_26).gr hC).gr hg_34).kpp hk_37
 replace h0_2 := ((h0_2.gr hC).gr hg_34).kpp hk_37
 replace hb_5 := ((hb_5.gr hC).gr hg_34).kpp hk_37
 replace hb_10 := ((hb_10.gr hC).gr hg_34).kpp hk_37
 replace hb_15 := ((hb_15.gr hC).gr hg_34).kpp hk_37
 replace hst := ((hst.grow hC).grow hg_34).kpp hk_37
 have hC : Grow (clipC w_33 col_36) w_33 (clipC w_33 col_36) w_38 := .of_below hC0.below
 obtain ⟨r_39, hr_40, hm⟩ := bS hm
 replace h0_0 := ((h0_0.gr hg_34).kpp hk_37).gr hC
 replace h0_2 := h0_2.gr hC
 refine lc rfl rfl (r_call1 Tryz.call56 rfl) (c_frac_under N 6 (clipC w_33 col_36) _ a0_0 cap0_0 a0_2 cap0_2 ((p0_a.1.1, p0_a.1.2), p0_a.2) h0_0 h0_2 r_39 hr_40) ?_
 rintro _ w_44 ⟨col_46, ra_41, rc_42, rfl, hg_45, rh_43⟩
 refine ⟨_, rfl, ?_⟩
 refine lN ⟨fun w' => Grow (clipC w_44 col_46) w_44 (clipC w_44 col_46) w', fun g => (clipC w_44 col_46) g = 497, Grow.refl _ _, good_clip, fun _ => ⟨fun _ h => cls hC0 hg_45 h, fun b hb => hg_45.below.block b hb, fun g h1 h2 => fcl hg_45 g h1 (by first | exact h2 | (simp only [frC, rcC, h2]; rfl))⟩, ?_⟩
 have hk_47 := KeepP.clip (fun _ => false) col_46 w_44
 refine xeF rfl rfl ?_
 intro w_48 hC0
 replace rh_32 := (((rh_32.kpp hk_37).gr hC).gr hg_45).kpp hk_47
 replace h1_0 := ((h1_0.gr hC).gr hg_45).kpp hk_47
 replace h1_2 := ((h1_2.gr hC).gr hg_45).kpp hk_47
 replace hb_5 := ((hb_5.gr hC).gr hg_45).kpp hk_47
 replace hb_10 := ((hb_10.gr hC).gr hg_45).kpp hk_47
 replace hb_15 := ((hb_15.gr hC).gr hg_45).kpp hk_47
 replace hst := ((hst.grow hC).grow hg_45).kpp hk_47
 have hC : Grow (clipC w_44 col_46) w_44 (clipC w_44 col_46) w_48 := .of_below hC0.below
 obtain ⟨r_49, hr_50, hm⟩ := bS hm
 replace rh_43 := (rh_43.kpp hk_47).gr hC
 replace h1_0 := h1_0.gr hC
 refine lc rfl rfl (r_call2 Tryz.call81 rfl rfl) (c_frac_over N 7 (frC 6 (clipC w_44 col_46)) _ a1_0 cap1_0 (p1_b.1.1, p1_b.1.2) ra_41 rc_42 r_39 (h1_0.froz 6) (rh_43.toSlF (Froz.int .u32)) r_49 hr_50) ?_
 rintro _ w_54 ⟨col_56, ra_51, rc_52, rfl, hg_55, rh_53⟩
 refine ⟨_, rfl, ?_⟩
 replace rh_53 := rh_53.thaw (flat_int .u32) hg_55 ((Fz.refl (col := (clipC w_44 col_46))).froz 6) (by decide)
 replace hg_55 := hg_55.thawR (col := (clipC w_44 col_46))
 generalize colR w_48.heap.size (clipC w_44 col_46) col_56 = col_57 at *
 refine lN ⟨fun w' => Grow (clipC w_54 col_57) w_54 (clipC w_54 col_57) w', fun g => (clipC w_54 col_57) g = 497, Grow.refl _ _, good_clip, fun _ => ⟨fun _ h => cls hC0 hg_55 h, fun b hb => hg_55.below.block b hb, fun g h1 h2 => fcl hg_55 g h1 (by first | exact h2 | (simp only [frC, rcC, h2]; rfl))⟩, ?_⟩
 have hk_58 := KeepP.clip (fun _ => false) col_57 w_54
 refine xeF rfl rfl ?_
 intro w_59 hC0
 replace h0_0 := ((((h0_0.gr hg_45).kpp hk_47).gr hC).gr hg_55).kpp hk_58
 replace h0_2 := ((((h0_2.gr hg_45).kpp hk_47).gr hC).gr hg_55).kpp hk_58
 replace h1_2 := ((h1_2.gr hC).gr hg_55).kpp hk_58
 replace rh_32 := ((rh_32.gr hC).gr hg_55).kpp hk_58
 replace hb_5 := ((hb_5.gr hC).gr hg_55).kpp hk_58
 replace hb_10 := ((hb_10.gr hC).gr hg_55).kpp hk_58
 replace hb_15 := ((hb_15.gr hC).gr hg_55).kpp hk_58
 replace hst := ((hst.grow hC).grow hg_55).kpp hk_58
 have hC : Grow (clipC w_54 col_57) w_54 (clipC w_54 col_57) w_59 := .of_below hC0.below
 obtain ⟨r_60, hr_61, hm⟩ := bS hm
 replace rh_53 := (rh_53.kpp hk_58).gr hC
 replace rh_32 := rh_32.gr hC
 refine lc rfl rfl (r_call2 Tryz.call80 rfl rfl) (c_whole_Add N 8 (frC 7 (frC 5 (clipC w_54 col_57))) _ ra_30 rc_31 (r_28.1, r_28.2) ra_51 rc_52 (r_49.1, r_49.2) ((rh_32.toSlF (Froz.int .u32)).froz 7) ((rh_53.froz 5 (by decide)).toSlF (Froz.int .u32)) r_60 hr_61) ?_
 rintro _ w_65 ⟨col_67, ra_62, rc_63, rfl, hg_66, rh_64⟩
 refine ⟨_, rfl, ?_⟩
 replace rh_64 := rh_64.thaw (flat_int .u32) hg_66 (((Fz.refl (col := (clipC w_54 col_57))).froz 5).froz 7) (by decide)
 replace hg_66 := hg_66.thawR (col := (clipC w_54 col_57))
 generalize colR w_59.heap.size (clipC w_54 col_57) col_67 = col_68 at *
 refine lN ⟨fun w' => Grow (clipC w_65 col_68) w_65 (clipC w_65 col_68) w', fun g => (clipC w_65 col_68) g = 497, Grow.refl _ _, good_clip, fun _ => ⟨fun _ h => cls hC0 hg_66 h, fun b hb => hg_66.below.block b hb, fun g h1 h2 => fcl hg_66 g h1 (by first | exact h2 | (simp only [frC, rcC, h2]; rfl))⟩, ?_⟩
 have hk_69 := KeepP.clip (fun _ => false) col_68 w_65
 refine xaF rfl rfl (free_alloc Tryz.zeroValue38) ?_
 intro g_70 hF_71
 refine xeF rfl rfl ?_
 intro w_72 ⟨hC0, hZ0⟩
 replace h1_0 := ((((h1_0.gr hg_55).kpp hk_58).gr hC).gr hg_66).kpp hk_69
 replace h0_0 := ((h0_0.gr hC).gr hg_66).kpp hk_69
 replace h0_2 := ((h0_2.gr hC).gr hg_66).kpp hk_69
 replace h1_2 := ((h1_2.gr hC).gr hg_66).kpp hk_69
 replace hb_5 := ((hb_5.gr hC).gr hg_66).kpp hk_69
 replace hb_10 := ((hb_10.gr hC).gr hg_66).kpp hk_69
 replace hb_15 := ((hb_15.gr hC).gr hg_66).kpp hk_69
 replace hst := ((hst.grow hC).grow hg_66).kpp hk_69
 have hC : Grow (clipC w_65 col_68) w_65 (clipC w_65 col_68) w_72 := .of_below hC0.below
 obtain ⟨hk_74, hb_73⟩ := box_float (col := (clipC w_65 col_68)) 9 hZ0 hF_71
 replace hb_73 : Box 38 9 (setC g_70 9 (clipC w_65 col_68)) w_72 g_70 #[(.bool false), (.slice none (([] : List Int).length) 0)] := hb_73
 refine l_bstore (v := (.agg #[(.bool r_60.1), (.slice ra_62 r_60.2.length rc_63)])) hb_73 Tryz.sizeOf38 rfl rfl (by intro u hu; simp only [Value.cells, List.mem_cons, List.not_mem_nil, or_false] at hu; rcases hu with rfl | rfl <;> rfl) rfl rfl ?_
 intro w_75 hk_76 hs_77 hb_78
 clear hb_73
 replace hb_78 : Box 38 9 (setC g_70 9 (clipC w_65 col_68)) w_75 g_70 #[(.bool r_60.1), (.slice ra_62 r_60.2.length rc_63)] := hb_78
 refine lN ⟨fun w' => Grow (clipC w_75 (setC g_70 9 (clipC w_65 col_68))) w_75 (clipC w_75 (setC g_70 9 (clipC w_65 col_68))) w', fun g => (clipC w_75 (setC g_70 9 (clipC w_65 col_68))) g = 497, Grow.refl _ _, good_clip, fun h => absurd h (by decide), ?_⟩
 have hk_79 := KeepP.clip (fun _ => false) (setC g_70 9 (clipC w_65 col_68)) w_75
 refine xnilF ?_
 replace rh_64 := ((((rh_64.kpp hk_69).gr hC).kpp hk_74).kp hk_76).kpp hk_79
 replace h0_0 := (((h0_0.gr hC).kpp hk_74).kp hk_76).kpp hk_79
 replace h0_2 := (((h0_2.gr hC).kpp hk_74).kp hk_76).kpp hk_79
 replace h1_0 := (((h1_0.gr hC).kpp hk_74).kp hk_76).kpp hk_79
 replace h1_2 := (((h1_2.gr hC).kpp hk_74).kp hk_76).kpp hk_79
 replace hb_5 := (((hb_5.gr hC).kpp hk_74).kp hk_76).kpp hk_79
 replace hb_10 := (((hb_10.gr hC).kpp hk_74).kp hk_76).kpp hk_79
 replace hb_15 := (((hb_15.gr hC).kpp hk_74).kp hk_76).kpp hk_79
 replace hst := (((hst.grow hC).kpp hk_74).kp hk_76 hs_77).kpp hk_79
 intro w_80 hC
 replace hC : Grow (clipC w_75 (setC g_70 9 (clipC w_65 col_68))) w_75 (clipC w_75 (setC g_70 9 (clipC w_65 col_68))) w_80 := .of_below hC.below
 refine wS ?_
 refine wmix (col := (clipC w_75 (setC g_70 9 (clipC w_65 col_68)))) [(0, 1), (1, 0), (2, 1), (3, 0), (4, 0), (6, 0), (5, 3), (7, 3), (8, 3), (9, 3), (10, 2)] (by kernel_rfl) (by kernel_rfl) ?_
 refine xu (v := (.pointer ((some (⟨g_70, 0, none⟩ : Addr)).map (·.add 0)))) rfl rfl (fun _ => rF (sz := 1) (off := 0) Tryz.underlying38 rfl Tryz.sizeOf4 (by decide) rfl rfl ⟨_, _, rfl⟩) ?_
 replace hb_78 := (hb_78.kpp hk_79).gr hC
 refine xv (v := (.bool r_60.1)) rfl rfl (fun _ hC => r_ld Tryz.isAgg4 rfl (((hb_78.atN).nth (q := 0) (v := (.bool r_60.1)) rfl).gr (Grow.of_below (col := (clipC w_75 (setC g_70 9 (clipC w_65 col_68)))) hC.below))) ?_
 refine xu (v := (.pointer ((some (⟨g_70, 0, none⟩ : Addr)).map (·.add 1)))) rfl rfl (fun _ => rF (sz := 1) (off := 1) Tryz.underlying38 rfl Tryz.sizeOf36 (by decide) rfl rfl ⟨_, _, rfl⟩) ?_
 refine xv (v := (.slice ra_62 r_60.2.length rc_63)) rfl rfl (fun _ hC => r_ld Tryz.isAgg36 rfl (((hb_78.atN).nth (q := 1) (v := (.slice ra_62 r_60.2.length rc_63)) rfl).gr (Grow.of_below (col := (clipC w_75 (setC g_70 9 (clipC w_65 col_68)))) hC.below))) ?_
 replace hb_5 := hb_5.gr hC
 refine xv (v := (.agg #[(.bool p0_a.1.1), (.slice a0_0 p0_a.1.2.length cap0_0), (.slice a0_2 p0_a.2.length cap0_2)])) rfl rfl (fun _ hC => r_ldN Tryz.isAgg40 Tryz.sizeOf40 rfl rfl (hb_5.atN.gr (Grow.of_below (col := (clipC w_75 (setC g_70 9 (clipC w_65 col_68)))) hC.below))) ?_
 replace hb_10 := hb_10.gr hC
 refine xv (v := (.agg #[(.bool p1_b.1.1), (.slice a1_0 p1_b.1.2.length cap1_0), (.slice a1_2 p1_b.2.length cap1_2)])) rfl rfl (fun _ hC => r_ldN Tryz.isAgg40 Tryz.sizeOf40 rfl rfl (hb_10.atN.gr (Grow.of_below (col := (clipC w_75 (setC g_70 9 (clipC w_65 col_68)))) hC.below))) ?_
 refine xe rfl rfl ?_
 intro w_81 hC0
 replace h0_0 := h0_0.gr hC
 replace h0_2 := h0_2.gr hC
 replace h1_0 := h1_0.gr hC
 replace h1_2 := h1_2.gr hC
 replace rh_64 := rh_64.gr hC
 replace hb_15 := hb_15.gr hC
 replace hst := hst.grow hC
 have hC : Grow (clipC w_75 (setC g_70 9 (clipC w_65 col_68))) w_80 (clipC w_75 (setC g_70 9 (clipC w_65 col_68))) w_81 := .of_below hC0.below
 obtain ⟨r_82, hr_83, hm⟩ := bS hm
 replace h0_0 := h0_0.gr hC
 replace h0_2 := h0_2.gr hC
 refine lc rfl rfl (r_call1 Tryz.call56 rfl) (c_frac_under N 10 (clipC w_75 (setC g_70 9 (clipC w_65 col_68))) _ a0_0 cap0_0 a0_2 cap0_2 ((p0_a.1.1, p0_a.1.2), p0_a.2) h0_0 h0_2 r_82 hr_83) ?_
 rintro _ w_87 ⟨col_89, ra_84, rc_85, rfl, hg_88, rh_86⟩
 refine ⟨_, rfl, ?_⟩
 refine lN ⟨fun w' => Grow col_89 w_87 col_89 w', Grow.refl _ _, fun _ _ h => cls hC0 hg_88 h, ?_⟩
 refine xe rfl rfl ?_
 intro w_90 hC0
 replace rh_64 := (rh_64.gr hC).gr hg_88
 replace h1_0 := (h1_0.gr hC).gr hg_88
 replace h1_2 := (h1_2.gr hC).gr hg_88
 replace hb_15 := (hb_15.gr hC).gr hg_88
 replace hst := (hst.grow hC).grow hg_88
 have hC : Grow col_89 w_87 col_89 w_90 := .of_below hC0.below
 obtain ⟨r_91, hr_92, hm⟩ := bS hm
 replace h1_0 := h1_0.gr hC
 replace h1_2 := h1_2.gr hC
 refine lc rfl rfl (r_call1 Tryz.call56 rfl) (c_frac_under N 11 col_89 _ a1_0 cap1_0 a1_2 cap1_2 ((p1_b.1.1, p1_b.1.2), p1_b.2) h1_0 h1_2 r_91 hr_92) ?_
 rintro _ w_96 ⟨col_98, ra_93, rc_94, rfl, hg_97, rh_95⟩
 refine ⟨_, rfl, ?_⟩
 refine lN ⟨fun w' => Grow col_98 w_96 col_98 w', Grow.refl _ _, fun _ _ h => cls hC0 hg_97 h, ?_⟩
 refine xe rfl rfl ?_
 intro w_99 hC0
 replace rh_64 := (rh_64.gr hC).gr hg_97
 replace rh_86 := (rh_86.gr hC).gr hg_97
 replace hb_15 := (hb_15.gr hC).gr hg_97
 replace hst := (hst.grow hC).grow hg_97
 have hC : Grow col_98 w_96 col_98 w_99 := .of_below hC0.below
 obtain ⟨r_100, hr_101, hm⟩ := bS hm
 replace rh_86 := rh_86.gr hC
 replace rh_95 := rh_95.gr hC
 refine lc rfl rfl (r_call2 Tryz.call40 rfl rfl) (c_nat_Mul N 12 (frC 11 (frC 10 col_98)) _ ra_84 rc_85 r_82 ra_93 rc_94 r_91 ((rh_86.toSlF (Froz.int .u32)).froz 11) ((rh_95.froz 10 (by decide)).toSlF (Froz.int .u32)) r_100 hr_101) ?_
 rintro _ w_105 ⟨col_107, ra_102, rc_103, rfl, hg_106, rh_104⟩
 refine ⟨_, rfl, ?_⟩
 replace rh_104 := rh_104.thaw (flat_int .u32) hg_106 (((Fz.refl (col := col_98)).froz 10).froz 11) (by decide)
 replace hg_106 := hg_106.thawR (col := col_98)
 generalize colR w_99.heap.size col_98 col_107 = col_108 at *
 refine lN ⟨fun w' => Grow col_108 w_105 col_108 w', Grow.refl _ _, fun _ _ h => cls hC0 hg_106 h, ?_⟩
 refine xe rfl rfl ?_
 intro w_109 hC0
 replace rh_64 := (rh_64.gr hC).gr hg_106
 replace hb_15 := (hb_15.gr hC).gr hg_106
 replace hst := (hst.grow hC).grow hg_106
 have hC : Grow col_108 w_105 col_108 w_109 := .of_below hC0.below
 obtain ⟨r_110, hr_111, hm⟩ := bS hm
 replace rh_64 := rh_64.gr hC
 replace rh_104 := rh_104.gr hC
 refine lc rfl rfl (r_call3 Tryz.call55 rfl rfl rfl) (c_frac_lowest N 13 14 (frC 12 (frC 8 col_108)) _ r_60.1 ra_62 rc_63 r_60.2 ra_102 rc_103 r_100 ((rh_64.toSlF (Froz.int .u32)).froz 12) ((rh_104.froz 8 (by decide)).toSlF (Froz.int .u32)) r_110 hr_111) ?_
 rintro _ w_118 ⟨col_120, ra_112, rc_113, ra_115, rc_116, rfl, hg_119, rh_114, rh_117⟩
 refine ⟨_, rfl, ?_⟩
 replace rh_114 := rh_114.thaw (flat_int .u32) hg_119 (((Fz.refl (col := col_108)).froz 8).froz 12) (by decide)
 replace rh_117 := rh_117.thaw (flat_int .u32) hg_119 (((Fz.refl (col := col_108)).froz 8).froz 12) (by decide)
 replace hg_119 := hg_119.thawR (col := col_108)
 generalize colR w_109.heap.size col_108 col_120 = col_121 at *
 refine lN ⟨fun w' => Grow col_121 w_118 col_121 w', Grow.refl _ _, fun _ _ h => cls hC0 hg_119 h, ?_⟩
 refine xe rfl rfl ?_
 intro w_122 hC0
 replace hb_15 := (hb_15.gr hC).gr hg_119
 replace hst := (hst.grow hC).grow hg_119
 have hC : Grow col_121 w_118 col_121 w_122 := .of_below hC0.below
 replace hb_15 := hb_15.gr hC
 refine l_bstore (v := (.agg #[(.bool r_110.1.1), (.slice ra_112 r_110.1.2.length rc_113), (.slice ra_115 r_110.2.length rc_116)])) hb_15 Tryz.sizeOf40 rfl rfl (by intro u hu; simp only [Value.cells, List.mem_cons, List.not_mem_nil, or_false] at hu; rcases hu with rfl | rfl | rfl <;> rfl) rfl rfl ?_
 intro w_123 hk_124 hs_125 hb_126
 clear hb_15
 replace hb_126 : Box 40 3 col_121 w_123 g_11 #[(.bool r_110.1.1), (.slice ra_112 r_110.1.2.length rc_113), (.slice ra_115 r_110.2.length rc_116)] := hb_126
 refine lN ⟨fun w' => Grow col_121 w_123 col_121 w', Grow.refl _ _, fun h => absurd h (by decide), ?_⟩
 refine xnil ?_
 replace rh_114 := (rh_114.gr hC).kp hk_124
 replace rh_117 := (rh_117.gr hC).kp hk_124
 replace hst := (hst.grow hC).kp hk_124 hs_125
 intro w_127 hC
 replace hC : Grow col_121 w_123 col_121 w_127 := .of_below hC.below
 refine wret ?_
 cases hm
 replace rh_114 := rh_114.gr hC
 replace rh_117 := rh_117.gr hC
 replace hb_126 := hb_126.gr hC
 replace hst := hst.grow hC
 exact ⟨rfl, _, res_a rfl rfl Tryz.isAgg40 Tryz.sizeOf40 rfl rfl hb_126.atN, colF w0.heap.size col col_121 (fun n => bif Nat.beq n 13 then c1 else bif Nat.beq n 14 then c2 else 0), ra_112, rc_113, ra_115, rc_116, rfl, hst.fin (fun n => bif Nat.beq n 13 then c1 else bif Nat.beq n 14 then c2 else 0), hst.finOwn (g := (fun n => bif Nat.beq n 13 then c1 else bif Nat.beq n 14 then c2 else 0)) rfl rh_114 (by decide) (by decide) rfl, hst.finOwn (g := (fun n => bif Nat.beq n 13 then c1 else bif Nat.beq n 14 then c2 else 0)) rfl rh_117 (by decide) (by decide) rfl⟩
def m_frac_Sum_L1 (N : Nat) : List ((Bool × (List Int)) × (List Int)) → Bool → (List Int) → (List Int) → Option ((Bool × (List Int)) × (List Int))
  | [], s_27, s_28, s_32 => some ((s_27, s_28), s_32)
  | x_36 :: l_37, s_27, s_28, s_32 => (m_frac_Add N ((s_27, s_28), s_32) ((x_36.1.1, x_36.1.2), x_36.2)).bind fun r_63 => (m_frac_Sum_L1 N l_37) r_63.1.1 r_63.1.2 r_63.2
termination_by structural x => x
def m_frac_Sum (N : Nat) (p0_l : (List ((Bool × (List Int)) × (List Int)))) : Option ((Bool × (List Int)) × (List Int)) :=
  (m_nat_Of N 1).bind fun r_6 => m_frac_Sum_L1 N p0_l false ([] : List Int) r_6
theorem c_frac_Sum (N : Nat) (c1 : Nat) (c2 : Nat) (col : Col) (w0 : World) (a0 : Option Addr) (cap0 : Nat) (p0_l : (List ((Bool × (List Int)) × (List Int)))) (h0 : Sl (Rep.pair (Rep.pair Rep.bool (Rep.slice (Rep.int .u32))) (Rep.slice (Rep.int .u32))) col w0 a0 cap0 p0_l) (r : ((Bool × (List Int)) × (List Int))) (hm : m_frac_Sum N p0_l = some r) :
    Calls Tryz.prog 51 #[(.slice a0 p0_l.length cap0)] w0 (fun e w' => ∃ (col' : Col) (ra1 : Option Addr) (rc2 : Nat) (ra4 : Option Addr) (rc5 : Nat), e = .returned ((.agg #[(.bool r.1.1), (.slice ra1 r.1.2.length rc2), (.slice ra4 r.2.length rc5)])) ∧ Grow col w0 col' w' ∧ Own (Rep.int .u32) 114 c1 col' w' ra1 rc2 r.1.2 ∧ Own (Rep.int .u32) 114 c2 col' w' ra4 rc5 r.2) := by
 refine calls_ofR (m := 19) (args := [(.slice a0 p0_l.length cap0)]) Tryz.func51 rfl rfl rfl ?_
 rw [m_frac_Sum.eq_1] at hm
 have hst := St.start col w0
 refine wS (wR ?_)
 refine l_alloc (col := (col0 col)) (v := (.agg #[(.bool false), (.slice none (([] : List Int).length) 0), (.slice none (([] : List Int).length) 0)])) 1 rfl Tryz.zeroValue40 ?_
 intro g_1 w_2 col_3 hg_4 hb_5
 replace hb_5 : Box 40 1 col_3 w_2 g_1 #[(.bool false), (.slice none (([] : List Int).length) 0), (.slice none (([] : List Int).length) 0)] := hb_5
 refine lN (wS (wR ?_))
 obtain ⟨r_6, hr_7, hm⟩ := bS hm
 refine lc rfl rfl (r_call1 Tryz.call59 rfl) (c_nat_Of N 2 col_3 _ 1 r_6 hr_7) ?_
 rintro _ w_11 ⟨col_13, ra_8, rc_9, rfl, hg_12, rh_10⟩
 refine ⟨_, rfl, ?_⟩
 refine lV (.agg #[(.bool false), (.slice none (([] : List Int).length) 0), (.slice ra_8 r_6.length rc_9)]) (r_build (l := [_, _]) (qs := [(0, 2), (2, 1)]) Tryz.underlying40 Tryz.zeroValue40 ⟨rfl, Tryz.sizeOf38, rfl, Tryz.sizeOf36, trivial⟩ rfl) ?_
 refine l_alloc (col := col_13) (v := (.agg #[(.bool false), (.slice none (([] : List Int).length) 0), (.slice none (([] : List Int).length) 0)])) 3 rfl Tryz.zeroValue40 ?_
 intro g_14 w_15 col_16 hg_17 hb_18
 replace hb_18 : Box 40 3 col_16 w_15 g_14 #[(.bool false), (.slice none (([] : List Int).length) 0), (.slice none (([] : List Int).length) 0)] := hb_18
 refine l_bstore (v := (.agg #[(.bool false), (.slice none (([] : List Int).length) 0), (.slice ra_8 r_6.length rc_9)])) hb_18 Tryz.sizeOf40 rfl rfl (by intro u hu; simp only [Value.cells, List.mem_cons, List.not_mem_nil, or_false] at hu; rcases hu with rfl | rfl | rfl <;> rfl) rfl rfl ?_
 intro w_19 hk_20 hs_21 hb_22
 clear hb_18
 replace hb_22 : Box 40 3 col_16 w_19 g_14 #[(.bool false), (.slice none (([] : List Int).length) 0), (.slice ra_8 r_6.length rc_9)] := hb_22
 refine lN (wS (wS (wR ?_)))
 refine lM (.slice a0 p0_l.length cap0) ?_
 refine lV (.int .i64 (p0_l.length : Int)) (r_len Tryz.underlying51 rfl) ?_
 refine lM (.int .i64 0) ?_
 refine lN (wB ?_)
 replace h0 := ((((h0.keep (Stay.start col w0)).gr hg_4).gr hg_12).gr hg_17).kp hk_20
 replace hst := (((hst.grow hg_4).grow hg_12).grow hg_17).kp hk_20 hs_21
 replace hb_5 := ((hb_5.gr hg_12).gr hg_17).kp hk_20
 replace rh_10 := (rh_10.gr hg_17).kp hk_20
 refine wloop (fun n f w_25 => ∃ (col_26 : Col) (k_23 : Nat) (s_27 : Bool) (a_29 : Option Addr) (cap_30 : Nat) (s_28 : List Int) (a_33 : Option Addr) (cap_34 : Nat) (s_32 : List Int) (l_24 : List ((Bool × (List Int)) × (List Int))), n = l_24.length ∧ p0_l.drop k_23 = l_24 ∧ m_frac_Sum_L1 N l_24 s_27 s_28 s_32 = some r ∧ St w0 (col0 col) col_26 w_25 ∧ Box 40 1 col_26 w_25 g_1 #[(.bool false), (.slice none (([] : List Int).length) 0), (.slice none (([] : List Int).length) 0)] ∧ Own (Rep.int .u32) 114 4 col_26 w_25 a_29 cap_30 s_28 ∧ Own (Rep.int .u32) 114 2 col_26 w_25 a_33 cap_34 s_32 ∧ Box 40 3 col_26 w_25 g_14 #[(.bool s_27), (.slice a_29 s_28.length cap_30), (.slice a_33 s_32.length cap_34)] ∧ Sl (Rep.pair (Rep.pair Rep.bool (Rep.slice (Rep.int .u32))) (Rep.slice (Rep.int .u32))) col_26 w_25 a0 cap0 p0_l ∧ f 10 = (.int .i64 (k_23 : Int)) ∧ f 2 = (.pointer (some ⟨g_1, 0, none⟩)) ∧ f 3 = (.pointer (some ⟨g_14, 0, none⟩)) ∧ f 8 = (.slice a0 p0_l.length cap0) ∧ f 9 = (.int .i64 (p0_l.length : Int)) ∧ f 1000000 = (enc [])) p0_l.length ⟨col_16, 0, false, none, 0, ([] : List Int), ra_8, rc_9, r_6, p0_l, rfl, rfl, hm, hst, hb_5, Own.nil, rh_10, hb_22, h0, rfl, rfl, rfl, rfl, rfl, rfl⟩ ?_
 clear hm; intro n f w_25 hI
 obtain ⟨col_26, k_23, s_27, a_29, cap_30, s_28, a_33, cap_34, s_32, l_24, hn, hl, hm, hst, hb_5, h_31, h_35, hb_22, h0, hs10, hs2, hs3, hs8, hs9, hs1000000⟩ := hI
 subst hn
 refine .lD 10 hs10 ?_
 refine .lD 2 hs2 ?_
 refine .lD 3 hs3 ?_
 refine .lD 8 hs8 ?_
 refine .lD 9 hs9 ?_
 refine .lD 1000000 hs1000000 ?_
 clear hs10 hs2 hs3 hs8 hs9 hs1000000
 cases l_24 with
 | nil =>
  have hk : ¬ ((k_23 : Int) < (p0_l.length : Int)) := by have := List.drop_eq_nil_iff.1 hl; omega
  have hkb := decide_eq_false hk
  rw [m_frac_Sum_L1.eq_1] at hm
  refine wS (wR ?_)
  refine lV (.bool (decide ((k_23 : Int) < (p0_l.length : Int)))) (r_lss (k_23 : Int) (p0_l.length : Int) rfl rfl) ?_
  refine lN (wS ?_)
  refine wcondF (congrArg Value.bool hkb) ?_
  refine wexit (inB_hit ?_)
  refine wS (wR ?_)
  refine lV (.agg #[(.bool s_27), (.slice a_29 s_28.length cap_30), (.slice a_33 s_32.length cap_34)]) (r_ldN Tryz.isAgg40 Tryz.sizeOf40 rfl rfl hb_22.atN) ?_
  refine l_bstore (v := (.agg #[(.bool s_27), (.slice a_29 s_28.length cap_30), (.slice a_33 s_32.length cap_34)])) hb_5 Tryz.sizeOf40 rfl rfl (by intro u hu; simp only [Value.cells, List.mem_cons, List.not_mem_nil, or_false] at hu; rcases hu with rfl | rfl | rfl <;> rfl) rfl rfl ?_
  intro w_38 hk_39 hs_40 hb_41
  clear hb_5
  replace hb_41 : Box 40 1 col_26 w_38 g_1 #[(.bool s_27), (.slice a_29 s_28.length cap_30), (.slice a_33 s_32.length cap_34)] := hb_41
  refine lN ?_
  refine wret ?_
  cases hm
  replace h_31 := h_31.kp hk_39
  replace h_35 := h_35.kp hk_39
  replace hst := hst.kp hk_39 hs_40
  exact ⟨rfl, _, res_a rfl rfl Tryz.isAgg40 Tryz.sizeOf40 rfl rfl hb_41.atN, colF w0.heap.size col col_26 (fun n => bif Nat.beq n 4 then c1 else bif Nat.beq n 2 then c2 else 0), a_29, cap_30, a_33, cap_34, rfl, hst.fin (fun n => bif Nat.beq n 4 then c1 else bif Nat.beq n 2 then c2 else 0), hst.finOwn (g := (fun n => bif Nat.beq n 4 then c1 else bif Nat.beq n 2 then c2 else 0)) rfl h_31 (by decide) (by decide) rfl, hst.finOwn (g := (fun n => bif Nat.beq n 4 then c1 else bif Nat.beq n 2 then c2 else 0)) rfl h_35 (by decide) (by decide) rfl⟩
 | cons x_36 l_37 =>
  obtain ⟨hat, hl2_L1, hlt_L1⟩ := drop_get hl
  have hk : (k_23 : Int) < (p0_l.length : Int) := by omega
  have hkb := decide_eq_true hk
  rw [m_frac_Sum_L1.eq_2] at hm
  refine wS (wR ?_)
  refine lV (.bool (decide ((k_23 : Int) < (p0_l.length : Int)))) (r_lss (k_23 : Int) (p0_l.length : Int) rfl rfl) ?_
  refine lN (wS ?_)
  refine wcondT (congrArg Value.bool hkb) ?_
  refine wK (wS (wB (wS (wR ?_))))
  refine lV (sptr a0 (Int.toNat (k_23 : Int) * 3)) (r_idx Tryz.underlying51 Tryz.sizeOf40 rfl rfl (at?_some hat).1 (at?_some hat).2.1 (h0.addr hat)) ?_
  obtain ⟨_, hr_42, hA_43⟩ := h0.atN hat
  obtain ⟨_, _, rfl, hp_44, hp_45⟩ := rd_pair hr_42
  obtain ⟨_, _, rfl, hp_46, hp_47⟩ := rd_pair hp_44
  obtain ⟨rfl, _⟩ := hp_46
  obtain ⟨⟨a_48, cap_49, rfl, h_50⟩, _⟩ := hp_47
  obtain ⟨⟨a_51, cap_52, rfl, h_53⟩, _⟩ := hp_45
  refine lV (.agg #[(.bool x_36.1.1), (.slice a_48 x_36.1.2.length cap_49), (.slice a_51 x_36.2.length cap_52)]) (r_ldN Tryz.isAgg40 Tryz.sizeOf40 rfl rfl hA_43) ?_
  refine l_alloc (col := col_26) (v := (.agg #[(.bool false), (.slice none (([] : List Int).length) 0), (.slice none (([] : List Int).length) 0)])) 5 rfl Tryz.zeroValue40 ?_
  intro g_54 w_55 col_56 hg_57 hb_58
  replace hb_58 : Box 40 5 col_56 w_55 g_54 #[(.bool false), (.slice none (([] : List Int).length) 0), (.slice none (([] : List Int).length) 0)] := hb_58
  refine l_bstore (v := (.agg #[(.bool x_36.1.1), (.slice a_48 x_36.1.2.length cap_49), (.slice a_51 x_36.2.length cap_52)])) hb_58 Tryz.sizeOf40 rfl rfl (by intro u hu; simp only [Value.cells, List.mem_cons, List.not_mem_nil, or_false] at hu; rcases hu with rfl | rfl | rfl <;> rfl) rfl rfl ?_
  intro w_59 hk_60 hs_61 hb_62
  clear hb_58
  replace hb_62 : Box 40 5 col_56 w_59 g_54 #[(.bool x_36.1.1), (.slice a_48 x_36.1.2.length cap_49), (.slice a_51 x_36.2.length cap_52)] := hb_62
  refine lN (wR ?_)
  replace hb_22 := (hb_22.gr hg_57).kp hk_60
  refine lV (.agg #[(.bool s_27), (.slice a_29 s_28.length cap_30), (.slice a_33 s_32.length cap_34)]) (r_ldN Tryz.isAgg40 Tryz.sizeOf40 rfl rfl hb_22.atN) ?_
  refine lV (.agg #[(.bool x_36.1.1), (.slice a_48 x_36.1.2.length cap_49), (.slice a_51 x_36.2.length cap_52)]) (r_ldN Tryz.isAgg40 Tryz.sizeOf40 rfl rfl hb_62.atN) ?_
  obtain ⟨r_63, hr_64, hm⟩ := bS hm
  replace h_31 := (h_31.gr hg_57).kp hk_60
  replace h_35 := (h_35.gr hg_57).kp hk_60
  replace h_50 := (h_50.gr hg_57).kp hk_60
  replace h_53 := (h_53.gr hg_57).kp hk_60
  refine lc rfl rfl (r_call2 Tryz.call27 rfl rfl) (c_frac_Add N 6 7 (frC 2 (frC 4 col_56)) _ a_29 cap_30 a_33 cap_34 ((s_27, s_28), s_32) a_48 cap_49 a_51 cap_52 ((x_36.1.1, x_36.1.2), x_36.2) ((h_31.toSlF (Froz.int .u32)).froz 2) ((h_35.froz 4 (by decide)).toSlF (Froz.int .u32)) ((h_50.froz 4).froz 2) ((h_53.froz 4).froz 2) r_63 hr_64) ?_
  rintro _ w_71 ⟨col_73, ra_65, rc_66, ra_68, rc_69, rfl, hg_72, rh_67, rh_70⟩
  refine ⟨_, rfl, ?_⟩
  replace rh_67 := rh_67.thaw (flat_int .u32) hg_72 (((Fz.refl (col := col_56)).froz 4).froz 2) (by decide)
  replace rh_70 := rh_70.thaw (flat_int .u32) hg_72 (((Fz.refl (col := col_56)).froz 4).froz 2) (by decide)
  replace hg_72 := hg_72.thawR (col := col_56)
  generalize colR w_59.heap.size col_56 col_73 = col_74 at *
  replace hb_22 := hb_22.gr hg_72
  refine l_bstore (v := (.agg #[(.bool r_63.1.1), (.slice ra_65 r_63.1.2.length rc_66), (.slice ra_68 r_63.2.length rc_69)])) hb_22 Tryz.sizeOf40 rfl rfl (by intro u hu; simp only [Value.cells, List.mem_cons, List.not_mem_nil, or_false] at hu; rcases hu with rfl | rfl | rfl <;> rfl) rfl rfl ?_
  intro w_75 hk_76 hs_77 hb_78
  clear hb_22
  replace hb_78 : Box 40 3 col_74 w_75 g_14 #[(.bool r_63.1.1), (.slice ra_65 r_63.1.2.length rc_66), (.slice ra_68 r_63.2.length rc_69)] := hb_78
  refine lN (wR ?_)
  refine lV (.int .i64 (IntKind.i64.wrap ((k_23 : Int) + 1))) (r_add (k_23 : Int) 1 rfl rfl) ?_
  refine lM (.int .i64 (IntKind.i64.wrap ((k_23 : Int) + 1))) ?_
  refine lN ?_
  replace rh_67 := rh_67.kp hk_76
  replace rh_67 := rh_67.recolSelf 4 (by decide)
  replace rh_70 := rh_70.kp hk_76
  replace rh_70 := rh_70.recol 6 4 (by decide)
  replace h0 := (((h0.gr hg_57).kp hk_60).gr hg_72).kp hk_76
  replace h0 := h0.recol 6 4 (by decide)
  replace hb_5 := (((hb_5.gr hg_57).kp hk_60).gr hg_72).kp hk_76
  replace hb_5 := hb_5.recol 6 4 (by decide)
  replace hb_78 := hb_78.recol 6 4 (by decide)
  replace hst := (((hst.grow hg_57).kp hk_60 hs_61).grow hg_72).kp hk_76 hs_77
  replace hst := hst.recol 6 4 (by decide) (by decide)
  replace rh_67 := rh_67.recol 7 2 (by decide)
  replace rh_70 := rh_70.recolSelf 2 (by decide)
  replace h0 := h0.recol 7 2 (by decide)
  replace hb_5 := hb_5.recol 7 2 (by decide)
  replace hb_78 := hb_78.recol 7 2 (by decide)
  replace hst := hst.recol 7 2 (by decide) (by decide)
  exact ⟨l_37.length, by simp, ⟨(rcC 7 2 (rcC 6 4 col_74)), (k_23 + 1), r_63.1.1, ra_65, rc_66, r_63.1.2, ra_68, rc_69, r_63.2, l_37, rfl, hl2_L1, hm, hst, hb_5, rh_67, rh_70, hb_78, h0, (congrArg (Value.int .i64) (wrap_succ (Nat.lt_of_lt_of_le hlt_L1 h0.1.1))), rfl, rfl, rfl, rfl, rfl⟩⟩
def m_whole_Of (N : Nat) (p0_n : Int) : Option (Bool × (List Int)) :=
  if (decide (p0_n < 0)) = true then none else ((m_nat_Of N (IntKind.u64.wrap p0_n)).bind fun r_6 => (m_whole_of N false r_6).bind fun r_14 => some (r_14.1, r_14.2))
theorem c_whole_Of (N : Nat) (c1 : Nat) (col : Col) (w0 : World) (p0_n : Int) (r : (Bool × (List Int))) (hm : m_whole_Of N p0_n = some r) :
    Calls Tryz.prog 82 #[(.int .i64 p0_n)] w0 (fun e w' => ∃ (col' : Col) (ra1 : Option Addr) (rc2 : Nat), e = .returned ((.agg #[(.bool r.1), (.slice ra1 r.2.length rc2)])) ∧ Grow col w0 col' w' ∧ Own (Rep.int .u32) 114 c1 col' w' ra1 rc2 r.2) := by
 refine calls_ofR (m := 14) (args := [(.int .i64 p0_n)]) Tryz.func82 rfl rfl rfl ?_
 rw [m_whole_Of.eq_1] at hm
 have hst := St.start col w0
 refine wS (wR ?_)
 refine l_alloc (col := (col0 col)) (v := (.agg #[(.bool false), (.slice none (([] : List Int).length) 0)])) 1 rfl Tryz.zeroValue38 ?_
 intro g_1 w_2 col_3 hg_4 hb_5
 replace hb_5 : Box 38 1 col_3 w_2 g_1 #[(.bool false), (.slice none (([] : List Int).length) 0)] := hb_5
 refine lN (wS (wS (wR ?_)))
 refine lM (.int .i64 p0_n) ?_
 refine lV (.bool (decide (p0_n < 0))) (r_lss p0_n 0 rfl rfl) ?_
 refine lN ?_
 replace hst := hst.grow hg_4
 refine wcond (decide (p0_n < 0)) rfl (fun hb => ?_) (fun hb => ?_)
 ·rw [if_pos hb] at hm
  clear hb
  cases hm
 rw [if_neg (by rw [hb]; decide)] at hm
 clear hb
 refine wK (wS (wR ?_))
 refine lM (.int .i64 p0_n) ?_
 refine lV (.int .u64 (IntKind.u64.wrap p0_n)) (r_conv p0_n ⟨_, Tryz.underlying3⟩ Tryz.underlying108 rfl) ?_
 obtain ⟨r_6, hr_7, hm⟩ := bS hm
 refine lc rfl rfl (r_call1 Tryz.call59 rfl) (c_nat_Of N 2 col_3 _ (IntKind.u64.wrap p0_n) r_6 hr_7) ?_
 rintro _ w_11 ⟨col_13, ra_8, rc_9, rfl, hg_12, rh_10⟩
 refine ⟨_, rfl, ?_⟩
 obtain ⟨r_14, hr_15, hm⟩ := bS hm
 refine lc rfl rfl (r_call2 Tryz.call112 rfl rfl) (c_whole_of N 3 (frC 2 col_13) _ false ra_8 rc_9 r_6 (rh_10.toSlF (Froz.int .u32)) r_14 hr_15) ?_
 rintro _ w_19 ⟨col_21, ra_16, rc_17, rfl, hg_20, rh_18⟩
 refine ⟨_, rfl, ?_⟩
 replace rh_18 := rh_18.thaw (flat_int .u32) hg_20 ((Fz.refl (col := col_13)).froz 2) (by decide)
 replace hg_20 := hg_20.thawR (col := col_13)
 generalize colR w_11.heap.size col_13 col_21 = col_22 at *
 replace hb_5 := (hb_5.gr hg_12).gr hg_20
 refine l_bstore (v := (.agg #[(.bool r_14.1), (.slice ra_16 r_14.2.length rc_17)])) hb_5 Tryz.sizeOf38 rfl rfl (by intro u hu; simp only [Value.cells, List.mem_cons, List.not_mem_nil, or_false] at hu; rcases hu with rfl | rfl <;> rfl) rfl rfl ?_
 intro w_23 hk_24 hs_25 hb_26
 clear hb_5
 replace hb_26 : Box 38 1 col_22 w_23 g_1 #[(.bool r_14.1), (.slice ra_16 r_14.2.length rc_17)] := hb_26
 refine lN ?_
 refine wret ?_
 cases hm
 replace hst := ((hst.grow hg_12).grow hg_20).kp hk_24 hs_25
 replace rh_18 := rh_18.kp hk_24
 exact ⟨rfl, _, res_a rfl rfl Tryz.isAgg38 Tryz.sizeOf38 rfl rfl hb_26.atN, colF w0.heap.size col col_22 (fun n => bif Nat.beq n 3 then c1 else 0), ra_16, rc_17, rfl, hst.fin (fun n => bif Nat.beq n 3 then c1 else 0), hst.finOwn (g := (fun n => bif Nat.beq n 3 then c1 else 0)) rfl rh_18 (by decide) (by decide) rfl⟩
def m_math_bits_Len32_J2 (x_7 : Int) (n_8 : Int) : Option Int :=
  (bat? (⟨#[0, 1, 2, 2, 3, 3, 3, 3, 4, 4, 4, 4, 4, 4, 4, 4, 5, 5, 5, 5, 5, 5, 5, 5, 5, 5, 5, 5, 5, 5, 5, 5, 6, 6, 6, 6, 6, 6, 6, 6, 6, 6, 6, 6, 6, 6, 6, 6, 6, 6, 6, 6, 6, 6, 6, 6, 6, 6, 6, 6, 6, 6, 6, 6, 7, 7, 7, 7, 7, 7, 7, 7, 7, 7, 7, 7, 7, 7, 7, 7, 7, 7, 7, 7, 7, 7, 7, 7, 7, 7, 7, 7, 7, 7, 7, 7, 7, 7, 7, 7, 7, 7, 7, 7, 7, 7, 7, 7, 7, 7, 7, 7, 7, 7, 7, 7, 7, 7, 7, 7, 7, 7, 7, 7, 7, 7, 7, 7, 8, 8, 8, 8, 8, 8, 8, 8, 8, 8, 8, 8, 8, 8, 8, 8, 8, 8, 8, 8, 8, 8, 8, 8, 8, 8, 8, 8, 8, 8, 8, 8, 8, 8, 8, 8, 8, 8, 8, 8, 8, 8, 8, 8, 8, 8, 8, 8, 8, 8, 8, 8, 8, 8, 8, 8, 8, 8, 8, 8, 8, 8, 8, 8, 8, 8, 8, 8, 8, 8, 8, 8, 8, 8, 8, 8, 8, 8, 8, 8, 8, 8, 8, 8, 8, 8, 8, 8, 8, 8, 8, 8, 8, 8, 8, 8, 8, 8, 8, 8, 8, 8, 8, 8, 8, 8, 8, 8, 8, 8, 8, 8, 8, 8, 8, 8, 8, 8, 8, 8, 8, 8, 8, 8, 8, 8, 8, 8]⟩) (IntKind.u8.wrap x_7)).bind fun e_9 => some (IntKind.i64.wrap (n_8 + (IntKind.i64.wrap e_9)))
def m_math_bits_Len32_J1 (x_3 : Int) (n_4 : Int) : Option Int :=
  if (decide (256 ≤ x_3)) = true then (m_math_bits_Len32_J2 (ishr .u32 x_3 8) (IntKind.i64.wrap (n_4 + 8))) else (m_math_bits_Len32_J2 x_3 n_4)
def m_math_bits_Len32 (p0_x : Int) : Option Int :=
  if (decide (65536 ≤ p0_x)) = true then none else (m_math_bits_Len32_J1 p0_x 0)
theorem c_math_bits_Len32 (col : Col) (w0 : World) (p0_x : Int) (r : Int) (hm : m_math_bits_Len32 p0_x = some r) :
    Calls Tryz.prog 110 #[(.int .u32 p0_x)] w0 (fun e w' => e = .returned ((.int .i64 r)) ∧ Below w0.heap.size w0 w') := by
 refine calls_of1 2 (m := 19) (args := [(.int .u32 p0_x)]) Tryz.func110 rfl rfl rfl rfl rfl ?_
 rw [m_math_bits_Len32.eq_1] at hm
 have hst := St.start col w0
 refine wS (wR ?_)
 refine lA (.int .i64 0) ?_
 refine lN (wS ?_)
 refine Wp.cut (fun f w_1 => ∃ (col_2 : Col) (x_3 : Int) (n_4 : Int), m_math_bits_Len32_J1 x_3 n_4 = some r ∧ St w0 (col0 col) col_2 w_1 ∧ f 0 = (.int .u32 x_3) ∧ f 2 = (.int .i64 n_4) ∧ f 1000000 = (enc [])) ?_ ?_
 ·intro f w_1 hJ
  obtain ⟨col_2, x_3, n_4, hm, hst, hs0, hs2, hs1000000⟩ := hJ
  rw [m_math_bits_Len32_J1.eq_1] at hm
  refine .lD 0 hs0 ?_
  refine .lD 2 hs2 ?_
  refine .lD 1000000 hs1000000 ?_
  clear hs0 hs2 hs1000000
  refine wS ?_
  refine Wp.cut (fun f w_5 => ∃ (col_6 : Col) (x_7 : Int) (n_8 : Int), m_math_bits_Len32_J2 x_7 n_8 = some r ∧ St w0 (col0 col) col_6 w_5 ∧ f 0 = (.int .u32 x_7) ∧ f 2 = (.int .i64 n_8) ∧ f 1000000 = (enc [])) ?_ ?_
  ·intro f w_5 hJ
   obtain ⟨col_6, x_7, n_8, hm, hst, hs0, hs2, hs1000000⟩ := hJ
   rw [m_math_bits_Len32_J2.eq_1] at hm
   refine .lD 0 hs0 ?_
   refine .lD 2 hs2 ?_
   refine .lD 1000000 hs1000000 ?_
   clear hs0 hs2 hs1000000
   refine wS (wR ?_)
   refine lM (.int .i64 n_8) ?_
   refine lM (.int .u32 x_7) ?_
   refine lV (.int .u8 (IntKind.u8.wrap x_7)) (r_conv x_7 ⟨_, Tryz.underlying114⟩ Tryz.underlying5 rfl) ?_
   obtain ⟨e_9, hj_10, hm⟩ := bS hm
   refine lV (.int .u8 e_9) (r_indexS (s := (⟨#[0, 1, 2, 2, 3, 3, 3, 3, 4, 4, 4, 4, 4, 4, 4, 4, 5, 5, 5, 5, 5, 5, 5, 5, 5, 5, 5, 5, 5, 5, 5, 5, 6, 6, 6, 6, 6, 6, 6, 6, 6, 6, 6, 6, 6, 6, 6, 6, 6, 6, 6, 6, 6, 6, 6, 6, 6, 6, 6, 6, 6, 6, 6, 6, 7, 7, 7, 7, 7, 7, 7, 7, 7, 7, 7, 7, 7, 7, 7, 7, 7, 7, 7, 7, 7, 7, 7, 7, 7, 7, 7, 7, 7, 7, 7, 7, 7, 7, 7, 7, 7, 7, 7, 7, 7, 7, 7, 7, 7, 7, 7, 7, 7, 7, 7, 7, 7, 7, 7, 7, 7, 7, 7, 7, 7, 7, 7, 7, 8, 8, 8, 8, 8, 8, 8, 8, 8, 8, 8, 8, 8, 8, 8, 8, 8, 8, 8, 8, 8, 8, 8, 8, 8, 8, 8, 8, 8, 8, 8, 8, 8, 8, 8, 8, 8, 8, 8, 8, 8, 8, 8, 8, 8, 8, 8, 8, 8, 8, 8, 8, 8, 8, 8, 8, 8, 8, 8, 8, 8, 8, 8, 8, 8, 8, 8, 8, 8, 8, 8, 8, 8, 8, 8, 8, 8, 8, 8, 8, 8, 8, 8, 8, 8, 8, 8, 8, 8, 8, 8, 8, 8, 8, 8, 8, 8, 8, 8, 8, 8, 8, 8, 8, 8, 8, 8, 8, 8, 8, 8, 8, 8, 8, 8, 8, 8, 8, 8, 8, 8, 8, 8, 8, 8, 8, 8, 8]⟩)) Tryz.underlying9 rfl rfl hj_10) ?_
   refine lV (.int .i64 (IntKind.i64.wrap e_9)) (r_conv e_9 ⟨_, Tryz.underlying5⟩ Tryz.underlying3 rfl) ?_
   refine lV (.int .i64 (IntKind.i64.wrap (n_8 + (IntKind.i64.wrap e_9)))) (r_add n_8 (IntKind.i64.wrap e_9) rfl rfl) ?_
   refine lA (.int .i64 (IntKind.i64.wrap (n_8 + (IntKind.i64.wrap e_9)))) ?_
   refine lN ?_
   refine wret ?_
   cases hm
   exact ⟨rfl, rfl, hst.below⟩
  refine wS (wR ?_)
  refine lM (.int .u32 x_3) ?_
  refine lV (.bool (decide (256 ≤ x_3))) (r_geq x_3 256 rfl rfl) ?_
  refine lN ?_
  refine wcond (decide (256 ≤ x_3)) rfl (fun hb => ?_) (fun hb => ?_)
  ·rw [if_pos hb] at hm
   clear hb
   refine wS (wR ?_)
   refine lM (.int .u32 x_3) ?_
   refine lV (.int .u32 (ishr .u32 x_3 8)) (r_shr x_3 8 rfl rfl (by decide)) ?_
   refine lA (.int .u32 (ishr .u32 x_3 8)) ?_
   refine lN (wR ?_)
   refine lM (.int .i64 n_4) ?_
   refine lV (.int .i64 (IntKind.i64.wrap (n_4 + 8))) (r_add n_4 8 rfl rfl) ?_
   refine lA (.int .i64 (IntKind.i64.wrap (n_4 + 8))) ?_
   refine lN ?_
   exact ⟨col_2, (ishr .u32 x_3 8), (IntKind.i64.wrap (n_4 + 8)), hm, hst, rfl, rfl, rfl⟩
  rw [if_neg (by rw [hb]; decide)] at hm
  clear hb
  refine wK ?_
  exact ⟨col_2, x_3, n_4, hm, hst, rfl, rfl, rfl⟩
 refine wS (wR ?_)
 refine lM (.int .u32 p0_x) ?_
 refine lV (.bool (decide (65536 ≤ p0_x))) (r_geq p0_x 65536 rfl rfl) ?_
 refine lN ?_
 refine wcond (decide (65536 ≤ p0_x)) rfl (fun hb => ?_) (fun hb => ?_)
 ·rw [if_pos hb] at hm
  clear hb
  cases hm
 rw [if_neg (by rw [hb]; decide)] at hm
 clear hb
 refine wK ?_
 exact ⟨(col0 col), p0_x, 0, hm, hst, rfl, rfl, rfl⟩
def m_nat_Bits (N : Nat) (p0_a : (List Int)) : Option Int :=
  (m_nat_trim N p0_a).bind fun r_1 => if (decide ((r_1.length : Int) = 0)) = true then (some 0) else ((at? r_1 (IntKind.i64.wrap ((r_1.length : Int) - 1))).bind fun e_9 => (m_math_bits_Len32 e_9).bind fun r_11 => some (IntKind.i64.wrap ((IntKind.i64.wrap (32 * (IntKind.i64.wrap ((r_1.length : Int) - 1)))) + r_11)))
theorem c_nat_Bits (N : Nat) (col : Col) (w0 : World) (a0 : Option Addr) (cap0 : Nat) (p0_a : (List Int)) (h0 : Sl (Rep.int .u32) col w0 a0 cap0 p0_a) (r : Int) (hm : m_nat_Bits N p0_a = some r) :
    Calls Tryz.prog 62 #[(.slice a0 p0_a.length cap0)] w0 (fun e w' => e = .returned ((.int .i64 r)) ∧ Below w0.heap.size w0 w') := by
 refine calls_of1 2 (m := 20) (args := [(.slice a0 p0_a.length cap0)]) Tryz.func62 rfl rfl rfl rfl rfl ?_
 rw [m_nat_Bits.eq_1] at hm
 have hst := St.start col w0
 refine wS (wR ?_)
 refine lA (.int .i64 0) ?_
 refine lN (wS (wR ?_))
 refine lM (.slice a0 p0_a.length cap0) ?_
 obtain ⟨r_1, hr_2, hm⟩ := bS hm
 replace h0 := h0.keep (Stay.start col w0)
 refine lc rfl rfl (r_call1 Tryz.call88 rfl) (c_nat_trim N (col0 col) _ a0 cap0 p0_a h0 r_1 hr_2) ?_
 rintro _ w_6 ⟨col_8, ra_3, rc_4, rfl, hg_7, rh_5⟩
 refine ⟨_, rfl, ?_⟩
 refine lA (.slice ra_3 r_1.length rc_4) ?_
 refine lN (wS (wS (wR ?_)))
 refine lM (.slice ra_3 r_1.length rc_4) ?_
 refine lV (.int .i64 (r_1.length : Int)) (r_len Tryz.underlying36 rfl) ?_
 refine lV (.bool (decide ((r_1.length : Int) = 0))) (r_eql (r_1.length : Int) 0 rfl rfl) ?_
 refine lN ?_
 replace hst := hst.grow hg_7
 refine wcond (decide ((r_1.length : Int) = 0)) rfl (fun hb => ?_) (fun hb => ?_)
 ·rw [if_pos hb] at hm
  clear hb
  refine wS (wR ?_)
  refine lA (.int .i64 0) ?_
  refine lN ?_
  refine wret ?_
  cases hm
  exact ⟨rfl, rfl, hst.below⟩
 rw [if_neg (by rw [hb]; decide)] at hm
 clear hb
 refine wK (wS (wR ?_))
 refine lM (.slice ra_3 r_1.length rc_4) ?_
 refine lV (.int .i64 (r_1.length : Int)) (r_len Tryz.underlying36 rfl) ?_
 refine lV (.int .i64 (IntKind.i64.wrap ((r_1.length : Int) - 1))) (r_sub (r_1.length : Int) 1 rfl rfl) ?_
 refine lV (.int .i64 (IntKind.i64.wrap (32 * (IntKind.i64.wrap ((r_1.length : Int) - 1))))) (r_mul 32 (IntKind.i64.wrap ((r_1.length : Int) - 1)) rfl rfl) ?_
 refine lM (.slice ra_3 r_1.length rc_4) ?_
 refine lM (.slice ra_3 r_1.length rc_4) ?_
 refine lV (.int .i64 (r_1.length : Int)) (r_len Tryz.underlying36 rfl) ?_
 refine lV (.int .i64 (IntKind.i64.wrap ((r_1.length : Int) - 1))) (r_sub (r_1.length : Int) 1 rfl rfl) ?_
 obtain ⟨e_9, hj_10, hm⟩ := bS hm
 refine lV (sptr ra_3 (Int.toNat (IntKind.i64.wrap ((r_1.length : Int) - 1)) * 1)) (r_idx Tryz.underlying36 Tryz.sizeOf114 rfl rfl (at?_some hj_10).1 (at?_some hj_10).2.1 (rh_5.addr hj_10)) ?_
 refine lV (.int .u32 e_9) (r_ld Tryz.isAgg114 rfl (rh_5.atInt hj_10)) ?_
 obtain ⟨r_11, hr_12, hm⟩ := bS hm
 refine lc rfl rfl (r_call1 Tryz.call110 rfl) (c_math_bits_Len32 col_8 _ e_9 r_11 hr_12) ?_
 rintro _ w_13 ⟨rfl, hg_14⟩
 refine ⟨_, rfl, ?_⟩
 replace hg_14 : Grow col_8 w_6 col_8 w_13 := .of_below hg_14
 refine lV (.int .i64 (IntKind.i64.wrap ((IntKind.i64.wrap (32 * (IntKind.i64.wrap ((r_1.length : Int) - 1)))) + r_11))) (r_add (IntKind.i64.wrap (32 * (IntKind.i64.wrap ((r_1.length : Int) - 1)))) r_11 rfl rfl) ?_
 refine lA (.int .i64 (IntKind.i64.wrap ((IntKind.i64.wrap (32 * (IntKind.i64.wrap ((r_1.length : Int) - 1)))) + r_11))) ?_
 refine lN ?_
 refine wret ?_
 cases hm
 replace hst := hst.grow hg_14
 exact ⟨rfl, rfl, hst.below⟩
def m_whole_Sign (N : Nat) (p0_a : (Bool × (List Int))) : Option Int :=
  (m_nat_Bits N p0_a.2).bind fun r_6 => if (decide (r_6 = 0)) = true then (some 0) else (if p0_a.1 = true then (some (-1)) else (some 1))
theorem c_whole_Sign (N : Nat) (col : Col) (w0 : World) (a0_0 : Option Addr) (cap0_0 : Nat) (p0_a : (Bool × (List Int))) (h0_0 : Sl (Rep.int .u32) col w0 a0_0 cap0_0 p0_a.2) (r : Int) (hm : m_whole_Sign N p0_a = some r) :
    Calls Tryz.prog 76 #[(.agg #[(.bool p0_a.1), (.slice a0_0 p0_a.2.length cap0_0)])] w0 (fun e w' => e = .returned ((.int .i64 r)) ∧ Below w0.heap.size w0 w') := by
 refine calls_of1 2 (m := 11) (args := [(.agg #[(.bool p0_a.1), (.slice a0_0 p0_a.2.length cap0_0)])]) Tryz.func76 rfl rfl rfl rfl rfl ?_
 rw [m_whole_Sign.eq_1] at hm
 have hst := St.start col w0
 refine wS (wR ?_)
 refine l_box (col := (col0 col)) (v := (.agg #[(.bool p0_a.1), (.slice a0_0 p0_a.2.length cap0_0)])) 1 rfl rfl ?_
 intro g_1 w_2 col_3 hg_4 hb_5
 replace hb_5 : Box 38 1 col_3 w_2 g_1 #[(.bool p0_a.1), (.slice a0_0 p0_a.2.length cap0_0)] := hb_5
 refine lA (.int .i64 0) ?_
 refine lN (wS (wB (wS (wR ?_))))
 refine lV (.pointer ((some (⟨g_1, 0, none⟩ : Addr)).map (·.add 1))) (rF (sz := 1) (off := 1) Tryz.underlying38 rfl Tryz.sizeOf36 (by decide) rfl rfl ⟨_, _, rfl⟩) ?_
 refine lV (.slice a0_0 p0_a.2.length cap0_0) (r_ld Tryz.isAgg36 rfl ((hb_5.atN).nth (q := 1) (v := (.slice a0_0 p0_a.2.length cap0_0)) rfl)) ?_
 obtain ⟨r_6, hr_7, hm⟩ := bS hm
 replace h0_0 := (h0_0.keep (Stay.start col w0)).gr hg_4
 refine lc rfl rfl (r_call1 Tryz.call62 rfl) (c_nat_Bits N col_3 _ a0_0 cap0_0 p0_a.2 h0_0 r_6 hr_7) ?_
 rintro _ w_8 ⟨rfl, hg_9⟩
 refine ⟨_, rfl, ?_⟩
 replace hg_9 : Grow col_3 w_2 col_3 w_8 := .of_below hg_9
 refine lV (.bool (decide (r_6 = 0))) (r_eql r_6 0 rfl rfl) ?_
 refine lA (.bool (decide (r_6 = 0))) ?_
 refine lN ?_
 replace hst := (hst.grow hg_4).grow hg_9
 replace hb_5 := hb_5.gr hg_9
 refine wcond (decide (r_6 = 0)) rfl (fun hb => ?_) (fun hb => ?_)
 ·rw [if_pos hb] at hm
  clear hb
  refine wS (wR ?_)
  refine lA (.int .i64 0) ?_
  refine lN ?_
  refine wret ?_
  cases hm
  exact ⟨rfl, rfl, hst.below⟩
 rw [if_neg (by rw [hb]; decide)] at hm
 clear hb
 refine wS (wR ?_)
 refine lV (.pointer ((some (⟨g_1, 0, none⟩ : Addr)).map (·.add 0))) (rF (sz := 1) (off := 0) Tryz.underlying38 rfl Tryz.sizeOf4 (by decide) rfl rfl ⟨_, _, rfl⟩) ?_
 refine lV (.bool p0_a.1) (r_ld Tryz.isAgg4 rfl ((hb_5.atN).nth (q := 0) (v := (.bool p0_a.1)) rfl)) ?_
 refine lA (.bool p0_a.1) ?_
 refine lN ?_
 refine wcond (p0_a.1) rfl (fun hb => ?_) (fun hb => ?_)
 ·rw [if_pos hb] at hm
  clear hb
  refine wS (wR ?_)
  refine lA (.int .i64 (-1)) ?_
  refine lN ?_
  refine wret ?_
  cases hm
  exact ⟨rfl, rfl, hst.below⟩
 rw [if_neg (by rw [hb]; decide)] at hm
 clear hb
 refine wK (wS (wR ?_))
 refine lA (.int .i64 1) ?_
 refine lN ?_
 refine wret ?_
 cases hm
 exact ⟨rfl, rfl, hst.below⟩

end Go.Proofs.YtonkjfnjadofpaaGreat
