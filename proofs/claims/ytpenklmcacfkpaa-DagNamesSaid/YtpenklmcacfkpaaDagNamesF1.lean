/-
  What functions of the program compute, as plain Lean functions (m_..), and proofs that they compute it (c_..). Printed by a program of the author; no conditions.
-/
import Derived.Test.YtpenklmcacfkpaaQue
import Derived.Test.YtpenklmcacfkpaaProg
import Derived.Test.YtpenklmcacfkpaaLibSort
import Derived.Test.YtpenklmcacfkpaaShelf
set_option linter.unusedVariables false
namespace Go.Proofs.Ytpenklmcacfkpaa
open Go Go.RowKit



def m_dag_fits_L3 (kk_L2 : (Option Int)) : List Int → (List (Int × Int)) → Option Int
  | [], seen_28 => kk_L2 
  | x_30 :: l_31, seen_28 => if (decide (0 < ((mget seen_28 x_30).getD 0))) = true then (some 40) else ((some (mput seen_28 x_30 1)).bind fun es_36 => (m_dag_fits_L3 kk_L2 l_31) es_36)

def m_dag_fits_L2  : List (List Int) → Option Int
  | [] => some 0
  | x_11 :: l_12 => m_dag_fits_L3 (m_dag_fits_L2 l_12) x_11 ([] : List (Int × Int))

def m_dag_fits_J1 (kk_L4 : (Option Int)) (v_52 : Bool) : Option Int :=
  if v_52 = true then (some 3) else kk_L4

def m_dag_fits_L4 (p0_parents : (List (List Int))) (kk_L1 : (Option Int)) : List Int → Option Int
  | [] => kk_L1 
  | x_47 :: l_48 => if (decide (x_47 < 0)) = true then (m_dag_fits_J1 (m_dag_fits_L4 p0_parents kk_L1 l_48) true) else (m_dag_fits_J1 (m_dag_fits_L4 p0_parents kk_L1 l_48) (decide ((p0_parents.length : Int) ≤ x_47)))

def m_dag_fits_L1 (p0_parents : (List (List Int))) : List (List Int) → Option Int
  | [] => m_dag_fits_L2 p0_parents 
  | x_5 :: l_6 => m_dag_fits_L4 p0_parents (m_dag_fits_L1 p0_parents l_6) x_5 

def m_dag_fits (p0_parents : (List (List Int))) : Option Int :=
  m_dag_fits_L1 p0_parents p0_parents 

set_option maxRecDepth 100000 in
theorem c_dag_fits (col : Col) (w0 : World) (a0 : Option Addr) (cap0 : Nat) (p0_parents : (List (List Int))) (h0 : Sl (Rep.slice (Rep.int .i64)) col w0 a0 cap0 p0_parents) (r : Int) (hm : m_dag_fits p0_parents = some r) :
    Calls Try.prog 27 #[(.slice a0 p0_parents.length cap0)] w0 (fun e w' => e = .returned ((.int .i64 r)) ∧ Below w0.heap.size w0 w') := by
  refine calls_of1 2 (m := 57) (args := [(.slice a0 p0_parents.length cap0)]) Try.func27 rfl rfl rfl rfl rfl ?_
  rw [m_dag_fits.eq_1] at hm
  have hst := St.start col w0
  replace h0 := h0.keep (Stay.start col w0)
  refine wseq ?_
  refine wregion ?_
  refine lv (v := (.int .i64 0)) rfl rfl (r_assign rfl) ?_
  refine lnil ?_
  refine wseq ?_
  refine wseq ?_
  refine wregion ?_
  refine lv (v := (.slice a0 p0_parents.length cap0)) rfl rfl (r_move rfl) ?_
  refine lv (v := (.int .i64 (p0_parents.length : Int))) rfl rfl (r_len Try.underlying22 rfl) ?_
  refine lv (v := (.int .i64 0)) rfl rfl (r_move rfl) ?_
  refine lnil ?_
  refine wblock ?_
  refine wloop (fun n f w_3 => ∃ (col_4 : Col) (k_1 : Nat) (l_2 : List (List Int)), n = l_2.length ∧ p0_parents.drop k_1 = l_2 ∧ m_dag_fits_L1 p0_parents l_2  = some r ∧ St w0 (col0 col) col_4 w_3 ∧ Sl (Rep.slice (Rep.int .i64)) col_4 w_3 a0 cap0 p0_parents ∧ f 14 = (.int .i64 (k_1 : Int)) ∧ f 0 = (.slice a0 p0_parents.length cap0) ∧ f 12 = (.slice a0 p0_parents.length cap0) ∧ f 13 = (.int .i64 (p0_parents.length : Int)) ∧ f 1000000 = (enc [])) p0_parents.length ⟨(col0 col), 0, p0_parents, rfl, rfl, hm, hst, h0, rfl, rfl, rfl, rfl, rfl⟩ ?_
  clear hm; intro n f w_3 hI
  obtain ⟨col_4, k_1, l_2, hn, hl, hm, hst, h0, hs14, hs0, hs12, hs13, hs1000000⟩ := hI
  subst hn
  refine .ld (d := 14) (v := (.int .i64 (k_1 : Int))) hs14 ?_
  refine .ld (d := 0) (v := (.slice a0 p0_parents.length cap0)) hs0 ?_
  refine .ld (d := 12) (v := (.slice a0 p0_parents.length cap0)) hs12 ?_
  refine .ld (d := 13) (v := (.int .i64 (p0_parents.length : Int))) hs13 ?_
  refine .ld (d := 1000000) (v := (enc [])) hs1000000 ?_
  clear hs14 hs0 hs12 hs13 hs1000000
  cases l_2 with
  | nil =>
    have hk : ¬ ((k_1 : Int) < (p0_parents.length : Int)) := by have := List.drop_eq_nil_iff.1 hl; omega
    have hkb := decide_eq_false hk
    rw [m_dag_fits_L1.eq_1] at hm
    refine wseq ?_
    refine wregion ?_
    refine lv (v := (.bool (decide ((k_1 : Int) < (p0_parents.length : Int))))) rfl rfl (r_lss (k_1 : Int) (p0_parents.length : Int) rfl rfl) ?_
    refine lnil ?_
    refine wseq ?_
    refine wcondF (congrArg Value.bool hkb) ?_
    refine wexit (inB_hit ?_)
    refine wseq ?_
    refine wseq ?_
    refine wregion ?_
    refine lv (v := (.slice a0 p0_parents.length cap0)) rfl rfl (r_move rfl) ?_
    refine lv (v := (.int .i64 (p0_parents.length : Int))) rfl rfl (r_len Try.underlying22 rfl) ?_
    refine lv (v := (.int .i64 0)) rfl rfl (r_move rfl) ?_
    refine lnil ?_
    refine wblock ?_
    refine wloop (fun n f w_9 => ∃ (col_10 : Col) (k_7 : Nat) (l_8 : List (List Int)), n = l_8.length ∧ p0_parents.drop k_7 = l_8 ∧ m_dag_fits_L2 l_8  = some r ∧ St w0 (col0 col) col_10 w_9 ∧ Sl (Rep.slice (Rep.int .i64)) col_10 w_9 a0 cap0 p0_parents ∧ f 36 = (.int .i64 (k_7 : Int)) ∧ f 34 = (.slice a0 p0_parents.length cap0) ∧ f 35 = (.int .i64 (p0_parents.length : Int)) ∧ f 1000000 = (enc [])) p0_parents.length ⟨col_4, 0, p0_parents, rfl, rfl, hm, hst, h0, rfl, rfl, rfl, rfl⟩ ?_
    clear hm; intro n f w_9 hI
    obtain ⟨col_10, k_7, l_8, hn, hl, hm, hst, h0, hs36, hs34, hs35, hs1000000⟩ := hI
    subst hn
    refine .ld (d := 36) (v := (.int .i64 (k_7 : Int))) hs36 ?_
    refine .ld (d := 34) (v := (.slice a0 p0_parents.length cap0)) hs34 ?_
    refine .ld (d := 35) (v := (.int .i64 (p0_parents.length : Int))) hs35 ?_
    refine .ld (d := 1000000) (v := (enc [])) hs1000000 ?_
    clear hs36 hs34 hs35 hs1000000
    cases l_8 with
    | nil =>
      have hk : ¬ ((k_7 : Int) < (p0_parents.length : Int)) := by have := List.drop_eq_nil_iff.1 hl; omega
      have hkb := decide_eq_false hk
      rw [m_dag_fits_L2.eq_1] at hm
      refine wseq ?_
      refine wregion ?_
      refine lv (v := (.bool (decide ((k_7 : Int) < (p0_parents.length : Int))))) rfl rfl (r_lss (k_7 : Int) (p0_parents.length : Int) rfl rfl) ?_
      refine lnil ?_
      refine wseq ?_
      refine wcondF (congrArg Value.bool hkb) ?_
      refine wexit (inB_hit ?_)
      refine wseq ?_
      refine wregion ?_
      refine lv (v := (.int .i64 0)) rfl rfl (r_assign rfl) ?_
      refine lnil ?_
      refine wret ?_
      cases hm
      exact ⟨rfl, rfl, hst.below⟩
    | cons x_11 l_12 =>
      obtain ⟨hat, hl2, hlt⟩ := drop_get hl
      have hk : (k_7 : Int) < (p0_parents.length : Int) := by omega
      have hkb := decide_eq_true hk
      rw [m_dag_fits_L2.eq_2] at hm
      refine wseq ?_
      refine wregion ?_
      refine lv (v := (.bool (decide ((k_7 : Int) < (p0_parents.length : Int))))) rfl rfl (r_lss (k_7 : Int) (p0_parents.length : Int) rfl rfl) ?_
      refine lnil ?_
      refine wseq ?_
      refine wcondT (congrArg Value.bool hkb) ?_
      refine wskip ?_
      refine wseq ?_
      refine wblock ?_
      refine wseq ?_
      refine wregion ?_
      refine lv (v := (sptr a0 (Int.toNat (k_7 : Int) * 1))) rfl rfl (r_idx Try.underlying22 Try.sizeOf31 rfl rfl (at?_some hat).1 (at?_some hat).2.1 (h0.addr hat)) ?_
      obtain ⟨_, hr_13, hA_14⟩ := h0.atN hat
      obtain ⟨⟨a_15, cap_16, rfl, h_17⟩, _⟩ := hr_13
      refine lv (v := (.slice a_15 x_11.length cap_16)) rfl rfl (r_ld Try.isAgg31 rfl hA_14.one) ?_
      refine lv (v := (.slice a_15 x_11.length cap_16)) rfl rfl (r_assign rfl) ?_
      refine lnil ?_
      refine wseq ?_
      refine wregion ?_
      refine lv (v := (.slice a_15 x_11.length cap_16)) rfl rfl (r_move rfl) ?_
      refine lv (v := (.int .i64 (x_11.length : Int))) rfl rfl (r_len Try.underlying31 rfl) ?_
      refine l_makeMapN (col := col_10) (fk := (Value.int .i64)) (fv := (Value.int .i64)) 1 rfl Try.underlying51 rfl ?_
      intro g_18 w_19 col_20 hg_21 h_22
      replace h0 := h0.gr hg_21
      replace h_17 := h_17.gr hg_21
      replace hst := hst.grow hg_21
      refine lv (v := (.map (some g_18))) rfl rfl (r_assign rfl) ?_
      refine lnil ?_
      refine wseq ?_
      refine wregion ?_
      refine lv (v := (.slice a_15 x_11.length cap_16)) rfl rfl (r_move rfl) ?_
      refine lv (v := (.int .i64 (x_11.length : Int))) rfl rfl (r_len Try.underlying31 rfl) ?_
      refine lv (v := (.int .i64 0)) rfl rfl (r_move rfl) ?_
      refine lnil ?_
      refine wblock ?_
      refine wloop (fun n f w_25 => ∃ (col_26 : Col) (k_23 : Nat) (g_27 : Nat) (seen_28 : List (Int × Int)) (l_24 : List Int), n = l_24.length ∧ x_11.drop k_23 = l_24 ∧ m_dag_fits_L3 (m_dag_fits_L2 l_12) l_24 seen_28 = some r ∧ St w0 (col0 col) col_26 w_25 ∧ Sl (Rep.slice (Rep.int .i64)) col_26 w_25 a0 cap0 p0_parents ∧ Sl (Rep.int .i64) col_26 w_25 a_15 cap_16 x_11 ∧ MapO (Value.int .i64) (Value.int .i64) 1 col_26 w_25 g_27 seen_28 ∧ f 45 = (.int .i64 (k_23 : Int)) ∧ f 34 = (.slice a0 p0_parents.length cap0) ∧ f 35 = (.int .i64 (p0_parents.length : Int)) ∧ f 36 = (.int .i64 (k_7 : Int)) ∧ f 43 = (.slice a_15 x_11.length cap_16) ∧ f 44 = (.int .i64 (x_11.length : Int)) ∧ f 9 = (.map (some g_27)) ∧ f 1000000 = (enc [])) x_11.length ⟨col_20, 0, g_18, ([] : List (Int × Int)), x_11, rfl, rfl, hm, hst, h0, h_17, h_22, rfl, rfl, rfl, rfl, rfl, rfl, rfl, rfl⟩ ?_
      clear hm; intro n f w_25 hI
      obtain ⟨col_26, k_23, g_27, seen_28, l_24, hn, hl, hm, hst, h0, h_17, h_29, hs45, hs34, hs35, hs36, hs43, hs44, hs9, hs1000000⟩ := hI
      subst hn
      refine .ld (d := 45) (v := (.int .i64 (k_23 : Int))) hs45 ?_
      refine .ld (d := 34) (v := (.slice a0 p0_parents.length cap0)) hs34 ?_
      refine .ld (d := 35) (v := (.int .i64 (p0_parents.length : Int))) hs35 ?_
      refine .ld (d := 36) (v := (.int .i64 (k_7 : Int))) hs36 ?_
      refine .ld (d := 43) (v := (.slice a_15 x_11.length cap_16)) hs43 ?_
      refine .ld (d := 44) (v := (.int .i64 (x_11.length : Int))) hs44 ?_
      refine .ld (d := 9) (v := (.map (some g_27))) hs9 ?_
      refine .ld (d := 1000000) (v := (enc [])) hs1000000 ?_
      clear hs45 hs34 hs35 hs36 hs43 hs44 hs9 hs1000000
      cases l_24 with
      | nil =>
        have hk : ¬ ((k_23 : Int) < (x_11.length : Int)) := by have := List.drop_eq_nil_iff.1 hl; omega
        have hkb := decide_eq_false hk
        rw [m_dag_fits_L3.eq_1] at hm
        refine wseq ?_
        refine wregion ?_
        refine lv (v := (.bool (decide ((k_23 : Int) < (x_11.length : Int))))) rfl rfl (r_lss (k_23 : Int) (x_11.length : Int) rfl rfl) ?_
        refine lnil ?_
        refine wseq ?_
        refine wcondF (congrArg Value.bool hkb) ?_
        refine wexit (inB_hit ?_)
        refine wregion ?_
        refine lv (v := (.int .i64 (IntKind.i64.wrap ((k_7 : Int) + 1)))) rfl rfl (r_add (k_7 : Int) 1 rfl rfl) ?_
        refine lv (v := (.int .i64 (IntKind.i64.wrap ((k_7 : Int) + 1)))) rfl rfl (r_move rfl) ?_
        refine lnil ?_
        exact ⟨l_12.length, by simp, ⟨col_26, (k_7 + 1), l_12, rfl, hl2, hm, hst, h0, (congrArg (Value.int .i64) (wrap_succ (Nat.lt_of_lt_of_le hlt h0.1.1))), rfl, rfl, rfl⟩⟩
      | cons x_30 l_31 =>
        obtain ⟨hat, hl2, hlt⟩ := drop_get hl
        have hk : (k_23 : Int) < (x_11.length : Int) := by omega
        have hkb := decide_eq_true hk
        rw [m_dag_fits_L3.eq_2] at hm
        refine wseq ?_
        refine wregion ?_
        refine lv (v := (.bool (decide ((k_23 : Int) < (x_11.length : Int))))) rfl rfl (r_lss (k_23 : Int) (x_11.length : Int) rfl rfl) ?_
        refine lnil ?_
        refine wseq ?_
        refine wcondT (congrArg Value.bool hkb) ?_
        refine wskip ?_
        refine wseq ?_
        refine wblock ?_
        refine wseq ?_
        refine wregion ?_
        refine lv (v := (sptr a_15 (Int.toNat (k_23 : Int) * 1))) rfl rfl (r_idx Try.underlying31 Try.sizeOf3 rfl rfl (at?_some hat).1 (at?_some hat).2.1 (h_17.addr hat)) ?_
        refine lv (v := (.int .i64 x_30)) rfl rfl (r_ld Try.isAgg3 rfl (h_17.atInt hat)) ?_
        refine lv (v := (.int .i64 x_30)) rfl rfl (r_assign rfl) ?_
        refine lnil ?_
        refine wseq ?_
        refine wseq ?_
        refine wregion ?_
        refine lv (v := (.map (some g_27))) rfl rfl (r_move rfl) ?_
        refine lv (v := (.int .i64 x_30)) rfl rfl (r_move rfl) ?_
        refine lv (v := (.int .i64 ((mget seen_28 x_30).getD 0))) rfl rfl (r_lookup KeyD.int h_29 Try.underlying51 Try.underlying3 Try.zeroValue3 rfl rfl) ?_
        refine lv (v := (.bool (decide (0 < ((mget seen_28 x_30).getD 0))))) rfl rfl (r_gtr ((mget seen_28 x_30).getD 0) 0 rfl rfl) ?_
        refine lnil ?_
        refine wcond (decide (0 < ((mget seen_28 x_30).getD 0))) rfl (fun hb => ?_) (fun hb => ?_)
        · rw [if_pos hb] at hm
          clear hb
          refine wseq ?_
          refine wregion ?_
          refine lv (v := (.int .i64 40)) rfl rfl (r_assign rfl) ?_
          refine lnil ?_
          refine wret ?_
          cases hm
          exact ⟨rfl, rfl, hst.below⟩
        · rw [if_neg (by rw [hb]; decide)] at hm
          clear hb
          refine wskip ?_
          refine wregion ?_
          refine lv (v := (.map (some g_27))) rfl rfl (r_move rfl) ?_
          refine lv (v := (.int .i64 x_30)) rfl rfl (r_move rfl) ?_
          obtain ⟨es_36, hz_37, hm⟩ := bind_some hm
          have hz_37 : es_36 = mput seen_28 x_30 1 := (Option.some.inj hz_37).symm
          refine l_mapUpdate (k := x_30) (v := 1) KeyD.int h_29 Try.underlying51 Try.underlying3 rfl rfl rfl ?_
          intro w_32 hk_33 hs_34 h_35
          rw [← hz_37] at h_35
          clear hz_37
          replace h0 := h0.kp hk_33 (by decide)
          replace h_17 := h_17.kp hk_33 (by decide)
          replace hst := hst.kp hk_33 hs_34 (by decide) (by decide)
          clear h_29
          refine lnil ?_
          refine wregion ?_
          refine lv (v := (.int .i64 (IntKind.i64.wrap ((k_23 : Int) + 1)))) rfl rfl (r_add (k_23 : Int) 1 rfl rfl) ?_
          refine lv (v := (.int .i64 (IntKind.i64.wrap ((k_23 : Int) + 1)))) rfl rfl (r_move rfl) ?_
          refine lnil ?_
          exact ⟨l_31.length, by simp, ⟨col_26, (k_23 + 1), g_27, es_36, l_31, rfl, hl2, hm, hst, h0, h_17, h_35, (congrArg (Value.int .i64) (wrap_succ (Nat.lt_of_lt_of_le hlt h_17.1.1))), rfl, rfl, rfl, rfl, rfl, rfl, rfl⟩⟩
  | cons x_5 l_6 =>
    obtain ⟨hat, hl2, hlt⟩ := drop_get hl
    have hk : (k_1 : Int) < (p0_parents.length : Int) := by omega
    have hkb := decide_eq_true hk
    rw [m_dag_fits_L1.eq_2] at hm
    refine wseq ?_
    refine wregion ?_
    refine lv (v := (.bool (decide ((k_1 : Int) < (p0_parents.length : Int))))) rfl rfl (r_lss (k_1 : Int) (p0_parents.length : Int) rfl rfl) ?_
    refine lnil ?_
    refine wseq ?_
    refine wcondT (congrArg Value.bool hkb) ?_
    refine wskip ?_
    refine wseq ?_
    refine wblock ?_
    refine wseq ?_
    refine wregion ?_
    refine lv (v := (sptr a0 (Int.toNat (k_1 : Int) * 1))) rfl rfl (r_idx Try.underlying22 Try.sizeOf31 rfl rfl (at?_some hat).1 (at?_some hat).2.1 (h0.addr hat)) ?_
    obtain ⟨_, hr_38, hA_39⟩ := h0.atN hat
    obtain ⟨⟨a_40, cap_41, rfl, h_42⟩, _⟩ := hr_38
    refine lv (v := (.slice a_40 x_5.length cap_41)) rfl rfl (r_ld Try.isAgg31 rfl hA_39.one) ?_
    refine lv (v := (.slice a_40 x_5.length cap_41)) rfl rfl (r_assign rfl) ?_
    refine lnil ?_
    refine wseq ?_
    refine wregion ?_
    refine lv (v := (.slice a_40 x_5.length cap_41)) rfl rfl (r_move rfl) ?_
    refine lv (v := (.int .i64 (x_5.length : Int))) rfl rfl (r_len Try.underlying31 rfl) ?_
    refine lv (v := (.int .i64 0)) rfl rfl (r_move rfl) ?_
    refine lnil ?_
    refine wblock ?_
    refine wloop (fun n f w_45 => ∃ (col_46 : Col) (k_43 : Nat) (l_44 : List Int), n = l_44.length ∧ x_5.drop k_43 = l_44 ∧ m_dag_fits_L4 p0_parents (m_dag_fits_L1 p0_parents l_6) l_44  = some r ∧ St w0 (col0 col) col_46 w_45 ∧ Sl (Rep.slice (Rep.int .i64)) col_46 w_45 a0 cap0 p0_parents ∧ Sl (Rep.int .i64) col_46 w_45 a_40 cap_41 x_5 ∧ f 20 = (.int .i64 (k_43 : Int)) ∧ f 0 = (.slice a0 p0_parents.length cap0) ∧ f 12 = (.slice a0 p0_parents.length cap0) ∧ f 13 = (.int .i64 (p0_parents.length : Int)) ∧ f 14 = (.int .i64 (k_1 : Int)) ∧ f 18 = (.slice a_40 x_5.length cap_41) ∧ f 19 = (.int .i64 (x_5.length : Int)) ∧ f 1000000 = (enc [])) x_5.length ⟨col_4, 0, x_5, rfl, rfl, hm, hst, h0, h_42, rfl, rfl, rfl, rfl, rfl, rfl, rfl, rfl⟩ ?_
    clear hm; intro n f w_45 hI
    obtain ⟨col_46, k_43, l_44, hn, hl, hm, hst, h0, h_42, hs20, hs0, hs12, hs13, hs14, hs18, hs19, hs1000000⟩ := hI
    subst hn
    refine .ld (d := 20) (v := (.int .i64 (k_43 : Int))) hs20 ?_
    refine .ld (d := 0) (v := (.slice a0 p0_parents.length cap0)) hs0 ?_
    refine .ld (d := 12) (v := (.slice a0 p0_parents.length cap0)) hs12 ?_
    refine .ld (d := 13) (v := (.int .i64 (p0_parents.length : Int))) hs13 ?_
    refine .ld (d := 14) (v := (.int .i64 (k_1 : Int))) hs14 ?_
    refine .ld (d := 18) (v := (.slice a_40 x_5.length cap_41)) hs18 ?_
    refine .ld (d := 19) (v := (.int .i64 (x_5.length : Int))) hs19 ?_
    refine .ld (d := 1000000) (v := (enc [])) hs1000000 ?_
    clear hs20 hs0 hs12 hs13 hs14 hs18 hs19 hs1000000
    cases l_44 with
    | nil =>
      have hk : ¬ ((k_43 : Int) < (x_5.length : Int)) := by have := List.drop_eq_nil_iff.1 hl; omega
      have hkb := decide_eq_false hk
      rw [m_dag_fits_L4.eq_1] at hm
      refine wseq ?_
      refine wregion ?_
      refine lv (v := (.bool (decide ((k_43 : Int) < (x_5.length : Int))))) rfl rfl (r_lss (k_43 : Int) (x_5.length : Int) rfl rfl) ?_
      refine lnil ?_
      refine wseq ?_
      refine wcondF (congrArg Value.bool hkb) ?_
      refine wexit (inB_hit ?_)
      refine wregion ?_
      refine lv (v := (.int .i64 (IntKind.i64.wrap ((k_1 : Int) + 1)))) rfl rfl (r_add (k_1 : Int) 1 rfl rfl) ?_
      refine lv (v := (.int .i64 (IntKind.i64.wrap ((k_1 : Int) + 1)))) rfl rfl (r_move rfl) ?_
      refine lnil ?_
      exact ⟨l_6.length, by simp, ⟨col_46, (k_1 + 1), l_6, rfl, hl2, hm, hst, h0, (congrArg (Value.int .i64) (wrap_succ (Nat.lt_of_lt_of_le hlt h0.1.1))), rfl, rfl, rfl, rfl⟩⟩
    | cons x_47 l_48 =>
      obtain ⟨hat, hl2, hlt⟩ := drop_get hl
      have hk : (k_43 : Int) < (x_5.length : Int) := by omega
      have hkb := decide_eq_true hk
      rw [m_dag_fits_L4.eq_2] at hm
      refine wseq ?_
      refine wregion ?_
      refine lv (v := (.bool (decide ((k_43 : Int) < (x_5.length : Int))))) rfl rfl (r_lss (k_43 : Int) (x_5.length : Int) rfl rfl) ?_
      refine lnil ?_
      refine wseq ?_
      refine wcondT (congrArg Value.bool hkb) ?_
      refine wskip ?_
      refine wseq ?_
      refine wblock ?_
      refine wseq ?_
      refine wregion ?_
      refine lv (v := (sptr a_40 (Int.toNat (k_43 : Int) * 1))) rfl rfl (r_idx Try.underlying31 Try.sizeOf3 rfl rfl (at?_some hat).1 (at?_some hat).2.1 (h_42.addr hat)) ?_
      refine lv (v := (.int .i64 x_47)) rfl rfl (r_ld Try.isAgg3 rfl (h_42.atInt hat)) ?_
      refine lv (v := (.int .i64 x_47)) rfl rfl (r_assign rfl) ?_
      refine lnil ?_
      refine wseq ?_
      refine Wp.cut (fun f w_50 => ∃ (col_51 : Col) (v_52 : Bool), m_dag_fits_J1 (m_dag_fits_L4 p0_parents (m_dag_fits_L1 p0_parents l_6) l_48) v_52 = some r ∧ St w0 (col0 col) col_51 w_50 ∧ Sl (Rep.slice (Rep.int .i64)) col_51 w_50 a0 cap0 p0_parents ∧ Sl (Rep.int .i64) col_51 w_50 a_40 cap_41 x_5 ∧ f 0 = (.slice a0 p0_parents.length cap0) ∧ f 12 = (.slice a0 p0_parents.length cap0) ∧ f 13 = (.int .i64 (p0_parents.length : Int)) ∧ f 14 = (.int .i64 (k_1 : Int)) ∧ f 18 = (.slice a_40 x_5.length cap_41) ∧ f 19 = (.int .i64 (x_5.length : Int)) ∧ f 20 = (.int .i64 (k_43 : Int)) ∧ f 31 = (.bool v_52) ∧ f 1000000 = (enc [])) ?_ ?_
      · intro f w_50 hJ
        obtain ⟨col_51, v_52, hm, hst, h0, h_42, hs0, hs12, hs13, hs14, hs18, hs19, hs20, hs31, hs1000000⟩ := hJ
        rw [m_dag_fits_J1.eq_1] at hm
        refine .ld (d := 0) (v := (.slice a0 p0_parents.length cap0)) hs0 ?_
        refine .ld (d := 12) (v := (.slice a0 p0_parents.length cap0)) hs12 ?_
        refine .ld (d := 13) (v := (.int .i64 (p0_parents.length : Int))) hs13 ?_
        refine .ld (d := 14) (v := (.int .i64 (k_1 : Int))) hs14 ?_
        refine .ld (d := 18) (v := (.slice a_40 x_5.length cap_41)) hs18 ?_
        refine .ld (d := 19) (v := (.int .i64 (x_5.length : Int))) hs19 ?_
        refine .ld (d := 20) (v := (.int .i64 (k_43 : Int))) hs20 ?_
        refine .ld (d := 31) (v := (.bool v_52)) hs31 ?_
        refine .ld (d := 1000000) (v := (enc [])) hs1000000 ?_
        clear hs0 hs12 hs13 hs14 hs18 hs19 hs20 hs31 hs1000000
        refine wcond (v_52) rfl (fun hb => ?_) (fun hb => ?_)
        · rw [if_pos hb] at hm
          clear hb
          refine wseq ?_
          refine wregion ?_
          refine lv (v := (.int .i64 3)) rfl rfl (r_assign rfl) ?_
          refine lnil ?_
          refine wret ?_
          cases hm
          exact ⟨rfl, rfl, hst.below⟩
        · rw [if_neg (by rw [hb]; decide)] at hm
          clear hb
          refine wskip ?_
          refine wregion ?_
          refine lv (v := (.int .i64 (IntKind.i64.wrap ((k_43 : Int) + 1)))) rfl rfl (r_add (k_43 : Int) 1 rfl rfl) ?_
          refine lv (v := (.int .i64 (IntKind.i64.wrap ((k_43 : Int) + 1)))) rfl rfl (r_move rfl) ?_
          refine lnil ?_
          exact ⟨l_48.length, by simp, ⟨col_51, (k_43 + 1), l_48, rfl, hl2, hm, hst, h0, h_42, (congrArg (Value.int .i64) (wrap_succ (Nat.lt_of_lt_of_le hlt h_42.1.1))), rfl, rfl, rfl, rfl, rfl, rfl, rfl⟩⟩
      · refine wregion ?_
        refine lv (v := (.int .i64 x_47)) rfl rfl (r_move rfl) ?_
        refine lv (v := (.bool (decide (x_47 < 0)))) rfl rfl (r_lss x_47 0 rfl rfl) ?_
        refine lv (v := (.bool (decide (x_47 < 0)))) rfl rfl (r_move rfl) ?_
        by_cases hg_53 : (decide (x_47 < 0)) = true
        · rw [if_pos hg_53] at hm
          refine lp (b := decide (x_47 < 0)) 26 rfl rfl rfl rfl (by rw [hg_53]; rfl) ?_
          refine lp (b := decide (x_47 < 0)) 26 rfl rfl rfl rfl (by rw [hg_53]; rfl) ?_
          refine lp (b := decide (x_47 < 0)) 26 rfl rfl rfl rfl (by rw [hg_53]; rfl) ?_
          refine lp (b := decide (x_47 < 0)) 26 rfl rfl rfl rfl (by rw [hg_53]; rfl) ?_
          refine lv (v := (.bool true)) rfl rfl (r_pickT (congrArg Value.bool hg_53) rfl) ?_
          refine lnil ?_
          exact ⟨col_46, true, hm, hst, h0, h_42, rfl, rfl, rfl, rfl, rfl, rfl, rfl, rfl, rfl⟩
        · rw [if_neg hg_53] at hm
          replace hg_53 := Bool.eq_false_iff.2 hg_53
          refine lg (b := decide (x_47 < 0)) 26 rfl rfl rfl (by rw [hg_53]; rfl) ?_
          refine lv (v := (.int .i64 x_47)) rfl rfl (r_move rfl) ?_
          refine lg (b := decide (x_47 < 0)) 26 rfl rfl rfl (by rw [hg_53]; rfl) ?_
          refine lv (v := (.slice a0 p0_parents.length cap0)) rfl rfl (r_move rfl) ?_
          refine lg (b := decide (x_47 < 0)) 26 rfl rfl rfl (by rw [hg_53]; rfl) ?_
          refine lv (v := (.int .i64 (p0_parents.length : Int))) rfl rfl (r_len Try.underlying22 rfl) ?_
          refine lg (b := decide (x_47 < 0)) 26 rfl rfl rfl (by rw [hg_53]; rfl) ?_
          refine lv (v := (.bool (decide ((p0_parents.length : Int) ≤ x_47)))) rfl rfl (r_geq x_47 (p0_parents.length : Int) rfl rfl) ?_
          refine lv (v := (.bool (decide ((p0_parents.length : Int) ≤ x_47)))) rfl rfl (r_pickF (congrArg Value.bool hg_53) rfl) ?_
          refine lnil ?_
          exact ⟨col_46, (decide ((p0_parents.length : Int) ≤ x_47)), hm, hst, h0, h_42, rfl, rfl, rfl, rfl, rfl, rfl, rfl, rfl, rfl⟩



theorem el3_29 : ElemOk Try.prog 3 1 8 := ⟨Try.t3, _, rfl, rfl, rfl, rfl, rfl⟩

def m_dag_children_L2 (k_7 : Nat) (kk_L1 : (Nat → (List (List Int)) → Option (List (List Int)))) : List Int → (List (List Int)) → Option (List (List Int))
  | [], out_26 => kk_L1 (k_7 + 1) out_26
  | x_30 :: l_31, out_26 => (at? out_26 x_30).bind fun e_32 => chk ((e_32.length + [(k_7 : Int)].length) * 8 ≤ 140737488355328 ∧ e_32.length + [(k_7 : Int)].length ≤ maxLen) ((m_dag_children_L2 k_7 kk_L1 l_31) (out_26.set (Int.toNat x_30) (e_32 ++ [(k_7 : Int)])))

def m_dag_children_L1  : List (List Int) → Nat → (List (List Int)) → Option (List (List Int))
  | [], k_7, out_11 => some out_11
  | x_15 :: l_16, k_7, out_11 => m_dag_children_L2 k_7 (m_dag_children_L1 l_16) x_15 out_11

def m_dag_children (p0_parents : (List (List Int))) : Option (List (List Int)) :=
  chk (p0_parents.length * 24 ≤ 281474976710656 ∧ p0_parents.length ≤ maxLen) (m_dag_children_L1 p0_parents 0 (List.replicate p0_parents.length (([] : List Int) : (List Int))))

set_option maxRecDepth 100000 in
theorem c_dag_children (c1 : Nat) (col : Col) (w0 : World) (a0 : Option Addr) (cap0 : Nat) (p0_parents : (List (List Int))) (h0 : Sl (Rep.slice (Rep.int .i64)) col w0 a0 cap0 p0_parents) (r : (List (List Int))) (hm : m_dag_children p0_parents = some r) :
    Calls Try.prog 29 #[(.slice a0 p0_parents.length cap0)] w0 (fun e w' => ∃ (col' : Col) (ra1 : Option Addr) (rc2 : Nat), e = .returned ((.slice ra1 r.length rc2)) ∧ Grow col w0 col' w' ∧ Own (Rep.row 3 (Rep.int .i64)) 31 c1 col' w' ra1 rc2 r) := by
  refine calls_of1 2 (m := 37) (args := [(.slice a0 p0_parents.length cap0)]) Try.func29 rfl rfl rfl rfl rfl ?_
  rw [m_dag_children.eq_1] at hm
  have hst := St.start col w0
  replace h0 := h0.keep (Stay.start col w0)
  refine wseq ?_
  refine wregion ?_
  refine lv (v := (.slice none (([] : List (List Int)).length) 0)) rfl rfl (r_assign rfl) ?_
  refine lnil ?_
  refine wseq ?_
  refine wregion ?_
  refine lv (v := (.slice a0 p0_parents.length cap0)) rfl rfl (r_move rfl) ?_
  refine lv (v := (.int .i64 (p0_parents.length : Int))) rfl rfl (r_len Try.underlying22 rfl) ?_
  obtain ⟨hb_1, hm⟩ := chk_some hm
  refine l_make (col := (col0 col)) (w := w0) (r := (Rep.row 3 (Rep.int .i64))) (n := p0_parents.length) (x0 := ([] : List Int)) 1 rfl Try.underlying22 Try.t31 rfl rfl rfl rfl rfl rfl rfl hb_1.1 hb_1.2 rd_nilrow ?_
  intro a_2 w_3 col_4 hg_5 h_6
  replace h0 := h0.gr hg_5
  replace hst := hst.grow hg_5
  refine lv (v := (.slice a_2 ((List.replicate p0_parents.length (([] : List Int) : (List Int))).length) p0_parents.length)) rfl rfl (r_assign rfl) ?_
  refine lnil ?_
  refine wseq ?_
  refine wseq ?_
  refine wregion ?_
  refine lv (v := (.slice a0 p0_parents.length cap0)) rfl rfl (r_move rfl) ?_
  refine lv (v := (.int .i64 (p0_parents.length : Int))) rfl rfl (r_len Try.underlying22 rfl) ?_
  refine lv (v := (.int .i64 0)) rfl rfl (r_move rfl) ?_
  refine lnil ?_
  refine wblock ?_
  refine wloop (fun n f w_9 => ∃ (col_10 : Col) (k_7 : Nat) (a_12 : Option Addr) (cap_13 : Nat) (out_11 : List (List Int)) (l_8 : List (List Int)), n = l_8.length ∧ p0_parents.drop k_7 = l_8 ∧ m_dag_children_L1 l_8 k_7 out_11 = some r ∧ St w0 (col0 col) col_10 w_9 ∧ Sl (Rep.slice (Rep.int .i64)) col_10 w_9 a0 cap0 p0_parents ∧ Own (Rep.row 3 (Rep.int .i64)) 31 1 col_10 w_9 a_12 cap_13 out_11 ∧ f 13 = (.int .i64 (k_7 : Int)) ∧ f 11 = (.slice a0 p0_parents.length cap0) ∧ f 12 = (.int .i64 (p0_parents.length : Int)) ∧ f 3 = (.slice a_12 out_11.length cap_13) ∧ f 1000000 = (enc [])) p0_parents.length ⟨col_4, 0, a_2, p0_parents.length, (List.replicate p0_parents.length (([] : List Int) : (List Int))), p0_parents, rfl, rfl, hm, hst, h0, h_6, rfl, rfl, rfl, rfl, rfl⟩ ?_
  clear hm; intro n f w_9 hI
  obtain ⟨col_10, k_7, a_12, cap_13, out_11, l_8, hn, hl, hm, hst, h0, h_14, hs13, hs11, hs12, hs3, hs1000000⟩ := hI
  subst hn
  refine .ld (d := 13) (v := (.int .i64 (k_7 : Int))) hs13 ?_
  refine .ld (d := 11) (v := (.slice a0 p0_parents.length cap0)) hs11 ?_
  refine .ld (d := 12) (v := (.int .i64 (p0_parents.length : Int))) hs12 ?_
  refine .ld (d := 3) (v := (.slice a_12 out_11.length cap_13)) hs3 ?_
  refine .ld (d := 1000000) (v := (enc [])) hs1000000 ?_
  clear hs13 hs11 hs12 hs3 hs1000000
  cases l_8 with
  | nil =>
    have hk : ¬ ((k_7 : Int) < (p0_parents.length : Int)) := by have := List.drop_eq_nil_iff.1 hl; omega
    have hkb := decide_eq_false hk
    rw [m_dag_children_L1.eq_1] at hm
    refine wseq ?_
    refine wregion ?_
    refine lv (v := (.bool (decide ((k_7 : Int) < (p0_parents.length : Int))))) rfl rfl (r_lss (k_7 : Int) (p0_parents.length : Int) rfl rfl) ?_
    refine lnil ?_
    refine wseq ?_
    refine wcondF (congrArg Value.bool hkb) ?_
    refine wexit (inB_hit ?_)
    refine wseq ?_
    refine wregion ?_
    refine lv (v := (.slice a_12 out_11.length cap_13)) rfl rfl (r_move rfl) ?_
    refine lv (v := (.slice a_12 out_11.length cap_13)) rfl rfl (r_assign rfl) ?_
    refine lnil ?_
    refine wret ?_
    cases hm
    exact ⟨rfl, colF w0.heap.size col col_10 (fun n => bif Nat.beq n 1 then c1 else 0), a_12, cap_13, rfl, hst.fin (fun n => bif Nat.beq n 1 then c1 else 0), hst.finOwn (g := (fun n => bif Nat.beq n 1 then c1 else 0)) rfl h_14 (by decide) (by decide) rfl⟩
  | cons x_15 l_16 =>
    obtain ⟨hat, hl2, hlt⟩ := drop_get hl
    have hk : (k_7 : Int) < (p0_parents.length : Int) := by omega
    have hkb := decide_eq_true hk
    rw [m_dag_children_L1.eq_2] at hm
    refine wseq ?_
    refine wregion ?_
    refine lv (v := (.bool (decide ((k_7 : Int) < (p0_parents.length : Int))))) rfl rfl (r_lss (k_7 : Int) (p0_parents.length : Int) rfl rfl) ?_
    refine lnil ?_
    refine wseq ?_
    refine wcondT (congrArg Value.bool hkb) ?_
    refine wskip ?_
    refine wseq ?_
    refine wblock ?_
    refine wseq ?_
    refine wregion ?_
    refine lv (v := (.int .i64 (k_7 : Int))) rfl rfl (r_move rfl) ?_
    refine lv (v := (sptr a0 (Int.toNat (k_7 : Int) * 1))) rfl rfl (r_idx Try.underlying22 Try.sizeOf31 rfl rfl (at?_some hat).1 (at?_some hat).2.1 (h0.addr hat)) ?_
    obtain ⟨_, hr_17, hA_18⟩ := h0.atN hat
    obtain ⟨⟨a_19, cap_20, rfl, h_21⟩, _⟩ := hr_17
    refine lv (v := (.slice a_19 x_15.length cap_20)) rfl rfl (r_ld Try.isAgg31 rfl hA_18.one) ?_
    refine lv (v := (.int .i64 (k_7 : Int))) rfl rfl (r_assign rfl) ?_
    refine lv (v := (.slice a_19 x_15.length cap_20)) rfl rfl (r_assign rfl) ?_
    refine lnil ?_
    refine wseq ?_
    refine wregion ?_
    refine lv (v := (.slice a_19 x_15.length cap_20)) rfl rfl (r_move rfl) ?_
    refine lv (v := (.int .i64 (x_15.length : Int))) rfl rfl (r_len Try.underlying31 rfl) ?_
    refine lv (v := (.int .i64 0)) rfl rfl (r_move rfl) ?_
    refine lnil ?_
    refine wblock ?_
    refine wloop (fun n f w_24 => ∃ (col_25 : Col) (k_22 : Nat) (a_27 : Option Addr) (cap_28 : Nat) (out_26 : List (List Int)) (l_23 : List Int), n = l_23.length ∧ x_15.drop k_22 = l_23 ∧ m_dag_children_L2 k_7 (m_dag_children_L1 l_16) l_23 out_26 = some r ∧ St w0 (col0 col) col_25 w_24 ∧ Sl (Rep.slice (Rep.int .i64)) col_25 w_24 a0 cap0 p0_parents ∧ Sl (Rep.int .i64) col_25 w_24 a_19 cap_20 x_15 ∧ Own (Rep.row 3 (Rep.int .i64)) 31 1 col_25 w_24 a_27 cap_28 out_26 ∧ f 20 = (.int .i64 (k_22 : Int)) ∧ f 11 = (.slice a0 p0_parents.length cap0) ∧ f 12 = (.int .i64 (p0_parents.length : Int)) ∧ f 13 = (.int .i64 (k_7 : Int)) ∧ f 18 = (.slice a_19 x_15.length cap_20) ∧ f 19 = (.int .i64 (x_15.length : Int)) ∧ f 3 = (.slice a_27 out_26.length cap_28) ∧ f 4 = (.int .i64 (k_7 : Int)) ∧ f 1000000 = (enc [])) x_15.length ⟨col_10, 0, a_12, cap_13, out_11, x_15, rfl, rfl, hm, hst, h0, h_21, h_14, rfl, rfl, rfl, rfl, rfl, rfl, rfl, rfl, rfl⟩ ?_
    clear hm; intro n f w_24 hI
    obtain ⟨col_25, k_22, a_27, cap_28, out_26, l_23, hn, hl, hm, hst, h0, h_21, h_29, hs20, hs11, hs12, hs13, hs18, hs19, hs3, hs4, hs1000000⟩ := hI
    subst hn
    refine .ld (d := 20) (v := (.int .i64 (k_22 : Int))) hs20 ?_
    refine .ld (d := 11) (v := (.slice a0 p0_parents.length cap0)) hs11 ?_
    refine .ld (d := 12) (v := (.int .i64 (p0_parents.length : Int))) hs12 ?_
    refine .ld (d := 13) (v := (.int .i64 (k_7 : Int))) hs13 ?_
    refine .ld (d := 18) (v := (.slice a_19 x_15.length cap_20)) hs18 ?_
    refine .ld (d := 19) (v := (.int .i64 (x_15.length : Int))) hs19 ?_
    refine .ld (d := 3) (v := (.slice a_27 out_26.length cap_28)) hs3 ?_
    refine .ld (d := 4) (v := (.int .i64 (k_7 : Int))) hs4 ?_
    refine .ld (d := 1000000) (v := (enc [])) hs1000000 ?_
    clear hs20 hs11 hs12 hs13 hs18 hs19 hs3 hs4 hs1000000
    cases l_23 with
    | nil =>
      have hk : ¬ ((k_22 : Int) < (x_15.length : Int)) := by have := List.drop_eq_nil_iff.1 hl; omega
      have hkb := decide_eq_false hk
      rw [m_dag_children_L2.eq_1] at hm
      refine wseq ?_
      refine wregion ?_
      refine lv (v := (.bool (decide ((k_22 : Int) < (x_15.length : Int))))) rfl rfl (r_lss (k_22 : Int) (x_15.length : Int) rfl rfl) ?_
      refine lnil ?_
      refine wseq ?_
      refine wcondF (congrArg Value.bool hkb) ?_
      refine wexit (inB_hit ?_)
      refine wregion ?_
      refine lv (v := (.int .i64 (IntKind.i64.wrap ((k_7 : Int) + 1)))) rfl rfl (r_add (k_7 : Int) 1 rfl rfl) ?_
      refine lv (v := (.int .i64 (IntKind.i64.wrap ((k_7 : Int) + 1)))) rfl rfl (r_move rfl) ?_
      refine lnil ?_
      exact ⟨l_16.length, by simp, ⟨col_25, (k_7 + 1), a_27, cap_28, out_26, l_16, rfl, hl2, hm, hst, h0, h_29, (congrArg (Value.int .i64) (wrap_succ (Nat.lt_of_lt_of_le hlt h0.1.1))), rfl, rfl, rfl, rfl⟩⟩
    | cons x_30 l_31 =>
      obtain ⟨hat, hl2, hlt⟩ := drop_get hl
      have hk : (k_22 : Int) < (x_15.length : Int) := by omega
      have hkb := decide_eq_true hk
      rw [m_dag_children_L2.eq_2] at hm
      refine wseq ?_
      refine wregion ?_
      refine lv (v := (.bool (decide ((k_22 : Int) < (x_15.length : Int))))) rfl rfl (r_lss (k_22 : Int) (x_15.length : Int) rfl rfl) ?_
      refine lnil ?_
      refine wseq ?_
      refine wcondT (congrArg Value.bool hkb) ?_
      refine wskip ?_
      refine wseq ?_
      refine wblock ?_
      refine wseq ?_
      refine wregion ?_
      refine lv (v := (sptr a_19 (Int.toNat (k_22 : Int) * 1))) rfl rfl (r_idx Try.underlying31 Try.sizeOf3 rfl rfl (at?_some hat).1 (at?_some hat).2.1 (h_21.addr hat)) ?_
      refine lv (v := (.int .i64 x_30)) rfl rfl (r_ld Try.isAgg3 rfl (h_21.atInt hat)) ?_
      refine lv (v := (.int .i64 x_30)) rfl rfl (r_assign rfl) ?_
      refine lnil ?_
      refine wregion ?_
      refine lv (v := (.slice a_27 out_26.length cap_28)) rfl rfl (r_move rfl) ?_
      refine lv (v := (.int .i64 x_30)) rfl rfl (r_move rfl) ?_
      refine lv (v := (.slice a_27 out_26.length cap_28)) rfl rfl (r_move rfl) ?_
      refine lv (v := (.int .i64 x_30)) rfl rfl (r_move rfl) ?_
      obtain ⟨e_32, hj_33, hm⟩ := bind_some hm
      refine lv (v := (sptr a_27 (Int.toNat x_30 * 1))) rfl rfl (r_idx Try.underlying22 Try.sizeOf31 rfl rfl (at?_some hj_33).1 (at?_some hj_33).2.1 (h_29.addr hj_33)) ?_
      obtain ⟨_, col_37, hk_35, hH_36, hs_34⟩ := h_29.open_ 2 (by decide) hj_33
      replace h0 := h0.kpp hk_35 rfl
      replace h_21 := h_21.kpp hk_35 rfl
      replace hst := hst.kpp hk_35 rfl rfl
      obtain ⟨a_38, cap_39, rfl, h_40⟩ := hs_34.row
      clear h_29
      replace hH_36 : Hole (Rep.row 3 (Rep.int .i64)) 31 1 col_37 w_24 a_27 cap_28 out_26 (Int.toNat x_30) [(.slice a_38 e_32.length cap_39)] := hH_36
      refine lv (v := (.slice a_38 e_32.length cap_39)) rfl rfl (r_ld Try.isAgg31 rfl hH_36.atN.one) ?_
      refine lv (v := (.int .i64 (k_7 : Int))) rfl rfl (r_move rfl) ?_
      refine l_lit (col := col_37) (r := (Rep.int .i64)) (xs := [(k_7 : Int)]) [(.int .i64 (k_7 : Int))] 3 rfl Try.underlying31 el3_29 rfl rfl rfl rfl rfl rfl (by intro v hv; simp only [List.mem_cons, List.not_mem_nil, or_false] at hv; subst hv; rfl) (RowsH.ofF (Rows.consF (r := (Rep.int .i64)) (x := (k_7 : Int)) (cs := [(.int .i64 (k_7 : Int))]) (rd_int .i64 (k_7 : Int)) Rows.nil0)) ?_
      intro a_41 w_42 col_43 hg_44 h_45
      replace h0 := h0.gr hg_44
      replace h_21 := h_21.gr hg_44
      replace hH_36 := hH_36.gr hg_44
      replace h_40 := h_40.gr hg_44
      replace hst := hst.grow hg_44
      obtain ⟨hb_46, hm⟩ := chk_some hm
      refine l_ext (col := col_43) (w := w_42) (r := (Rep.int .i64)) (c := 2) (c2 := 2) (h_40.ex) (h_45.srcN (NB.int (k := .i64))) rfl Try.underlying31 el3_29 rfl rfl rfl hb_46.1 hb_46.2 (by decide) ?_
      intro a_47 cap_48 w_49 col_50 hk_51 h_52
      replace h0 := h0.kpp hk_51 rfl
      replace h_21 := h_21.kpp hk_51 rfl
      replace hH_36 := hH_36.kpp hk_51 rfl rfl
      replace h_45 := h_45.kpp hk_51 rfl rfl
      replace hst := hst.kpp hk_51 rfl rfl
      clear h_40
      refine lv (v := (sptr a_27 (Int.toNat x_30 * 1))) rfl rfl (r_idx Try.underlying22 Try.sizeOf31 rfl rfl (at?_some hj_33).1 (at?_some hj_33).2.1 (hH_36.addr)) ?_
      refine l_storeH (v := (.slice a_47 ((e_32 ++ [(k_7 : Int)]).length) cap_48)) hH_36 rfl Try.sizeOf31 rfl (by intro u hu; simp only [Value.cells, List.mem_cons, List.not_mem_nil, or_false] at hu; subst hu; rfl) rfl rfl (by decide) ?_
      intro w_53 hk_54 hs_55 hH_56
      replace h0 := h0.kp hk_54 (by decide)
      replace h_21 := h_21.kp hk_54 (by decide)
      replace h_52 := h_52.kp hk_54 (by decide) (by decide)
      replace hst := hst.kp hk_54 hs_55 (by decide) (by decide)
      replace hH_56 : Hole (Rep.row 3 (Rep.int .i64)) 31 1 col_50 w_53 a_27 cap_28 out_26 (Int.toNat x_30) [(.slice a_47 ((e_32 ++ [(k_7 : Int)]).length) cap_48)] := hH_56
      clear hH_36
      have h_57 := h_52.new
      clear h_52
      have h_58 := hH_56.close h_57.has (by decide) (by decide)
      replace h0 := h0.recol 2 1 (by decide)
      replace h_21 := h_21.recol 2 1 (by decide)
      replace hst := hst.recol 2 1 (by decide) (by decide)
      clear hH_56
      refine .ld (d := 3) (v := (.slice a_27 ((out_26.set (Int.toNat x_30) (e_32 ++ [(k_7 : Int)])).length) cap_28)) (congrArg (fun n => Value.slice a_27 n cap_28) (show out_26.length = (out_26.set (Int.toNat x_30) (e_32 ++ [(k_7 : Int)])).length by rw [List.length_set])) ?_
      refine lnil ?_
      refine wregion ?_
      refine lv (v := (.int .i64 (IntKind.i64.wrap ((k_22 : Int) + 1)))) rfl rfl (r_add (k_22 : Int) 1 rfl rfl) ?_
      refine lv (v := (.int .i64 (IntKind.i64.wrap ((k_22 : Int) + 1)))) rfl rfl (r_move rfl) ?_
      refine lnil ?_
      exact ⟨l_31.length, by simp, ⟨(rcC 2 1 col_50), (k_22 + 1), a_27, cap_28, (out_26.set (Int.toNat x_30) (e_32 ++ [(k_7 : Int)])), l_31, rfl, hl2, hm, hst, h0, h_21, h_58, (congrArg (Value.int .i64) (wrap_succ (Nat.lt_of_lt_of_le hlt h_21.1.1))), rfl, rfl, rfl, rfl, rfl, rfl, rfl, rfl⟩⟩



theorem el3_39 : ElemOk Try.prog 3 1 8 := ⟨Try.t3, _, rfl, rfl, rfl, rfl, rfl⟩

def m_dag_heap_push_J1 (h_21 : List Int) (i_25 : Int) (kk_L1 : ((List Int) → Int → Option (List Int))) (v_35 : Bool) : Option (List Int) :=
  if v_35 = true then ((at? h_21 (IntKind.i64.wrap (Int.tdiv (IntKind.i64.wrap (i_25 - 1)) 2))).bind fun e_36 => (at? h_21 i_25).bind fun e_38 => (some (h_21.set (Int.toNat i_25) e_36)).bind fun xs_46 => (at? xs_46 (IntKind.i64.wrap (Int.tdiv (IntKind.i64.wrap (i_25 - 1)) 2))).bind fun e_47 => (some (xs_46.set (Int.toNat (IntKind.i64.wrap (Int.tdiv (IntKind.i64.wrap (i_25 - 1)) 2))) e_38)).bind fun xs_55 => kk_L1 xs_55 (IntKind.i64.wrap (Int.tdiv (IntKind.i64.wrap (i_25 - 1)) 2))) else (some h_21)

def m_dag_heap_push_L1 (N : Nat)  : Nat → (List Int) → Int → Option (List Int)
  | 0, _, _ => none
  | n_18 + 1, h_21, i_25 => if (decide (0 < i_25)) = true then ((at? h_21 i_25).bind fun e_58 => (at? h_21 (IntKind.i64.wrap (Int.tdiv (IntKind.i64.wrap (i_25 - 1)) 2))).bind fun e_60 => m_dag_heap_push_J1 h_21 i_25 (m_dag_heap_push_L1 N n_18) (decide (e_58 < e_60))) else (m_dag_heap_push_J1 h_21 i_25 (m_dag_heap_push_L1 N n_18) false)

def m_dag_heap_push (N : Nat) (p0_h : (List Int)) (p1_x : Int) : Option (List Int) :=
  chk ((p0_h.length + [p1_x].length) * 8 ≤ 140737488355328 ∧ p0_h.length + [p1_x].length ≤ maxLen) (m_dag_heap_push_L1 N N (p0_h ++ [p1_x]) (IntKind.i64.wrap (((p0_h ++ [p1_x]).length : Int) - 1)))

set_option maxRecDepth 100000 in
theorem c_dag_heap_push (N : Nat) (col : Col) (w0 : World) (q0 : Nat) (q0_1 : Nat) (hd : dstB [q0, q0_1] = true) (g0 : Nat) (p0_h : (List Int)) (a0_2 : Option Addr) (cap0_2 : Nat) (p1_x : Int) (h0_2 : Own (Rep.int .i64) 3 q0_1 col w0 a0_2 cap0_2 p0_h) (hb0 : Box 57 q0 col w0 g0 #[(.slice a0_2 p0_h.length cap0_2)]) (r : (List Int)) (hm : m_dag_heap_push N p0_h p1_x = some r) :
    Calls Try.prog 39 #[(.pointer (some ⟨g0, 0, none⟩)), (.int .i64 p1_x)] w0 (fun e w' => ∃ (col' : Col) (oa1 : Option Addr) (oc2 : Nat), e = .returned (.tuple #[]) ∧ KeepP (pS [q0, q0_1]) col w0 col' w' ∧ Own (Rep.int .i64) 3 q0_1 col' w' oa1 oc2 r ∧ Box 57 q0 col' w' g0 #[(.slice oa1 r.length oc2)]) := by
  refine calls_of0  (m := 66) (args := [(.pointer (some ⟨g0, 0, none⟩)), (.int .i64 p1_x)]) Try.func39 rfl rfl rfl rfl ?_
  rw [m_dag_heap_push.eq_1] at hm
  have hst := St.startL (l := [q0, q0_1]) rfl col w0
  replace hb0 := hb0.startL (dst_nz hd 0 rfl) (dst_ix hd 0 rfl)
  replace h0_2 := h0_2.startL (dst_nz hd 1 rfl) (dst_ix hd 1 rfl)
  refine wseq ?_
  refine wregion ?_
  refine lv (v := (.pointer (some ⟨g0, 0, none⟩))) rfl rfl (r_move rfl) ?_
  refine lv (v := (.pointer (some ⟨g0, 0, none⟩))) rfl rfl (r_move rfl) ?_
  refine lv (v := (.pointer (some ⟨g0, 0, none⟩))) rfl rfl (r_nilCheck rfl) ?_
  refine lv (v := (.slice a0_2 p0_h.length cap0_2)) rfl rfl (r_ld Try.isAgg57 rfl hb0.at1) ?_
  refine lv (v := (.int .i64 p1_x)) rfl rfl (r_move rfl) ?_
  refine l_lit (col := (colL [q0, q0_1] col)) (r := (Rep.int .i64)) (xs := [p1_x]) [(.int .i64 p1_x)] 1 rfl Try.underlying57 el3_39 rfl rfl rfl rfl rfl rfl (by intro v hv; simp only [List.mem_cons, List.not_mem_nil, or_false] at hv; subst hv; rfl) (RowsH.ofF (Rows.consF (r := (Rep.int .i64)) (x := p1_x) (cs := [(.int .i64 p1_x)]) (rd_int .i64 p1_x) Rows.nil0)) ?_
  intro a_1 w_2 col_3 hg_4 h_5
  replace h0_2 := h0_2.gr hg_4
  replace hb0 := hb0.gr hg_4
  replace hst := hst.grow hg_4
  obtain ⟨hb_6, hm⟩ := chk_some hm
  refine l_ext (col := col_3) (w := w_2) (r := (Rep.int .i64)) (c := 441) (c2 := 441) (h0_2.ex) (h_5.srcN (NB.int (k := .i64))) rfl Try.underlying57 el3_39 rfl rfl rfl hb_6.1 hb_6.2 (by decide) ?_
  intro a_7 cap_8 w_9 col_10 hk_11 h_12
  replace h_5 := h_5.kpp hk_11 rfl rfl
  replace hb0 := hb0.kpp hk_11 rfl
  replace hst := hst.kpp hk_11 rfl rfl
  clear h0_2
  refine lv (v := (.pointer (some ⟨g0, 0, none⟩))) rfl rfl (r_nilCheck rfl) ?_
  refine l_bstore (v := (.slice a_7 ((p0_h ++ [p1_x]).length) cap_8)) hb0 Try.sizeOf57 rfl rfl (by intro u hu; simp only [Value.cells, List.mem_cons, List.not_mem_nil, or_false] at hu; subst hu; rfl) rfl rfl ?_
  intro w_13 hk_14 hs_15 hb_16
  replace h_12 := h_12.kp hk_14 (by decide) (by decide)
  replace hst := hst.kp hk_14 hs_15 (by decide) (by decide)
  clear hb0
  replace hb_16 : Box 57 440 col_10 w_13 g0 #[(.slice a_7 ((p0_h ++ [p1_x]).length) cap_8)] := hb_16
  have h_17 := h_12.new
  clear h_12
  refine lnil ?_
  refine wseq ?_
  refine wregion ?_
  refine lv (v := (.pointer (some ⟨g0, 0, none⟩))) rfl rfl (r_move rfl) ?_
  refine lv (v := (.pointer (some ⟨g0, 0, none⟩))) rfl rfl (r_nilCheck rfl) ?_
  refine lv (v := (.slice a_7 ((p0_h ++ [p1_x]).length) cap_8)) rfl rfl (r_ld Try.isAgg57 rfl hb_16.at1) ?_
  refine lv (v := (.int .i64 ((p0_h ++ [p1_x]).length : Int))) rfl rfl (r_len Try.underlying57 rfl) ?_
  refine lv (v := (.int .i64 (IntKind.i64.wrap (((p0_h ++ [p1_x]).length : Int) - 1)))) rfl rfl (r_sub ((p0_h ++ [p1_x]).length : Int) 1 rfl rfl) ?_
  refine lv (v := (.int .i64 (IntKind.i64.wrap (((p0_h ++ [p1_x]).length : Int) - 1)))) rfl rfl (r_assign rfl) ?_
  refine lnil ?_
  refine wblock ?_
  refine wloop (fun n f w_19 => ∃ (col_20 : Col) (a_22 : Option Addr) (cap_23 : Nat) (h_21 : List Int) (i_25 : Int) (n_18 : Nat), n_18 = n ∧ m_dag_heap_push_L1 N n_18 h_21 i_25 = some r ∧ St w0 (colL [q0, q0_1] col) col_20 w_19 ∧ Own (Rep.int .i64) 3 441 col_20 w_19 a_22 cap_23 h_21 ∧ Box 57 440 col_20 w_19 g0 #[(.slice a_22 h_21.length cap_23)] ∧ f 0 = (.pointer (some ⟨g0, 0, none⟩)) ∧ f 4 = (.int .i64 i_25) ∧ f 1000000 = (enc [])) N ⟨col_10, a_7, cap_8, (p0_h ++ [p1_x]), (IntKind.i64.wrap (((p0_h ++ [p1_x]).length : Int) - 1)), N, rfl, hm, hst, h_17, hb_16, rfl, rfl, rfl⟩ ?_
  clear hm; intro n f w_19 hI
  obtain ⟨col_20, a_22, cap_23, h_21, i_25, n_18, hn, hm, hst, h_24, hb_16, hs0, hs4, hs1000000⟩ := hI
  subst hn
  refine .ld (d := 0) (v := (.pointer (some ⟨g0, 0, none⟩))) hs0 ?_
  refine .ld (d := 4) (v := (.int .i64 i_25)) hs4 ?_
  refine .ld (d := 1000000) (v := (enc [])) hs1000000 ?_
  clear hs0 hs4 hs1000000
  cases n_18 with
  | zero => rw [m_dag_heap_push_L1.eq_1] at hm; cases hm
  | succ n_18 =>
    rw [m_dag_heap_push_L1.eq_2] at hm
    refine wseq ?_
    refine wseq ?_
    refine Wp.cut (fun f w_33 => ∃ (col_34 : Col) (v_35 : Bool), m_dag_heap_push_J1 h_21 i_25 (m_dag_heap_push_L1 N n_18) v_35 = some r ∧ St w0 (colL [q0, q0_1] col) col_34 w_33 ∧ Own (Rep.int .i64) 3 441 col_34 w_33 a_22 cap_23 h_21 ∧ Box 57 440 col_34 w_33 g0 #[(.slice a_22 h_21.length cap_23)] ∧ f 0 = (.pointer (some ⟨g0, 0, none⟩)) ∧ f 36 = (.bool v_35) ∧ f 4 = (.int .i64 i_25) ∧ f 1000000 = (enc [])) ?_ ?_
    · intro f w_33 hJ
      obtain ⟨col_34, v_35, hm, hst, h_24, hb_16, hs0, hs36, hs4, hs1000000⟩ := hJ
      rw [m_dag_heap_push_J1.eq_1] at hm
      refine .ld (d := 0) (v := (.pointer (some ⟨g0, 0, none⟩))) hs0 ?_
      refine .ld (d := 36) (v := (.bool v_35)) hs36 ?_
      refine .ld (d := 4) (v := (.int .i64 i_25)) hs4 ?_
      refine .ld (d := 1000000) (v := (enc [])) hs1000000 ?_
      clear hs0 hs36 hs4 hs1000000
      refine wcond (v_35) rfl (fun hb => ?_) (fun hb => ?_)
      · rw [if_pos hb] at hm
        clear hb
        refine wskip ?_
        refine wseq ?_
        refine wblock ?_
        refine wmix (col := col_34) [(0, 1), (1, 1), (2, 0), (3, 1), (4, 1), (5, 1), (6, 0), (7, 1), (8, 1), (9, 1), (10, 1), (11, 1), (12, 0), (13, 1), (14, 1), (15, 1), (16, 1), (17, 0), (18, 1), (19, 1), (20, 0), (21, 1), (22, 1), (23, 0), (24, 1), (25, 2), (26, 1), (27, 2)] (by kernel_rfl) (by kernel_rfl) ?_
        refine xu (v := (.pointer (some ⟨g0, 0, none⟩))) rfl rfl (fun _ => r_move rfl) ?_
        refine xu (v := (.pointer (some ⟨g0, 0, none⟩))) rfl rfl (fun _ => r_nilCheck rfl) ?_
        refine xv (v := (.slice a_22 h_21.length cap_23)) rfl rfl (fun _ hC => r_ld Try.isAgg57 rfl (hb_16.at1.gr (Grow.of_below (col := col_34) hC.below))) ?_
        refine xu (v := (.int .i64 i_25)) rfl rfl (fun _ => r_move rfl) ?_
        refine xu (v := (.pointer (some ⟨g0, 0, none⟩))) rfl rfl (fun _ => r_move rfl) ?_
        refine xu (v := (.pointer (some ⟨g0, 0, none⟩))) rfl rfl (fun _ => r_nilCheck rfl) ?_
        refine xv (v := (.slice a_22 h_21.length cap_23)) rfl rfl (fun _ hC => r_ld Try.isAgg57 rfl (hb_16.at1.gr (Grow.of_below (col := col_34) hC.below))) ?_
        refine xu (v := (.int .i64 i_25)) rfl rfl (fun _ => r_move rfl) ?_
        refine xu (v := (.int .i64 (IntKind.i64.wrap (i_25 - 1)))) rfl rfl (fun _ => r_sub i_25 1 rfl rfl) ?_
        refine xu (v := (.int .i64 (IntKind.i64.wrap (Int.tdiv (IntKind.i64.wrap (i_25 - 1)) 2)))) rfl rfl (fun _ => r_quo (IntKind.i64.wrap (i_25 - 1)) 2 rfl rfl (by decide)) ?_
        refine xu (v := (.pointer (some ⟨g0, 0, none⟩))) rfl rfl (fun _ => r_move rfl) ?_
        refine xu (v := (.pointer (some ⟨g0, 0, none⟩))) rfl rfl (fun _ => r_nilCheck rfl) ?_
        refine xv (v := (.slice a_22 h_21.length cap_23)) rfl rfl (fun _ hC => r_ld Try.isAgg57 rfl (hb_16.at1.gr (Grow.of_below (col := col_34) hC.below))) ?_
        refine xu (v := (.int .i64 i_25)) rfl rfl (fun _ => r_move rfl) ?_
        refine xu (v := (.int .i64 (IntKind.i64.wrap (i_25 - 1)))) rfl rfl (fun _ => r_sub i_25 1 rfl rfl) ?_
        refine xu (v := (.int .i64 (IntKind.i64.wrap (Int.tdiv (IntKind.i64.wrap (i_25 - 1)) 2)))) rfl rfl (fun _ => r_quo (IntKind.i64.wrap (i_25 - 1)) 2 rfl rfl (by decide)) ?_
        obtain ⟨e_36, hj_37, hm⟩ := bind_some hm
        refine xu (v := (sptr a_22 (Int.toNat (IntKind.i64.wrap (Int.tdiv (IntKind.i64.wrap (i_25 - 1)) 2)) * 1))) rfl rfl (fun _ => r_idx Try.underlying57 Try.sizeOf3 rfl rfl (at?_some hj_37).1 (at?_some hj_37).2.1 (h_24.addr hj_37)) ?_
        refine xv (v := (.int .i64 e_36)) rfl rfl (fun _ hC => r_ld Try.isAgg3 rfl ((h_24.gr (Grow.of_below (col := col_34) hC.below)).atInt hj_37)) ?_
        refine xu (v := (.pointer (some ⟨g0, 0, none⟩))) rfl rfl (fun _ => r_move rfl) ?_
        refine xu (v := (.pointer (some ⟨g0, 0, none⟩))) rfl rfl (fun _ => r_nilCheck rfl) ?_
        refine xv (v := (.slice a_22 h_21.length cap_23)) rfl rfl (fun _ hC => r_ld Try.isAgg57 rfl (hb_16.at1.gr (Grow.of_below (col := col_34) hC.below))) ?_
        refine xu (v := (.int .i64 i_25)) rfl rfl (fun _ => r_move rfl) ?_
        obtain ⟨e_38, hj_39, hm⟩ := bind_some hm
        refine xu (v := (sptr a_22 (Int.toNat i_25 * 1))) rfl rfl (fun _ => r_idx Try.underlying57 Try.sizeOf3 rfl rfl (at?_some hj_39).1 (at?_some hj_39).2.1 (h_24.addr hj_39)) ?_
        refine xv (v := (.int .i64 e_38)) rfl rfl (fun _ hC => r_ld Try.isAgg3 rfl ((h_24.gr (Grow.of_below (col := col_34) hC.below)).atInt hj_39)) ?_
        refine xu (v := (sptr a_22 (Int.toNat i_25 * 1))) rfl rfl (fun _ => r_idx Try.underlying57 Try.sizeOf3 rfl rfl (at?_some hj_39).1 (at?_some hj_39).2.1 (h_24.addr hj_39)) ?_
        refine xe rfl rfl ?_
        intro w_40 hC0
        have hC : Grow col_34 w_33 col_34 w_40 := .of_below hC0.below
        replace h_24 := h_24.gr hC
        replace hb_16 := hb_16.gr hC
        replace hst := hst.grow hC
        obtain ⟨xs_46, hz_45, hm⟩ := bind_some hm
        have hz_45 : xs_46 = h_21.set (Int.toNat i_25) e_36 := (Option.some.inj hz_45).symm
        refine l_store (x1 := e_36) (v := (.int .i64 e_36)) h_24 hj_39 rfl Try.sizeOf3 (rd_int .i64 e_36) rfl rfl (by decide) ?_
        intro w_41 hk_42 hs_43 h_44
        rw [← hz_45] at h_44
        replace hb_16 := hb_16.kp hk_42 (by decide)
        replace hst := hst.kp hk_42 hs_43 (by decide) (by decide)
        refine .ld (d := 46) (v := (.slice a_22 xs_46.length cap_23)) (congrArg (fun n => Value.slice a_22 n cap_23) (show h_21.length = xs_46.length by rw [hz_45, List.length_set])) ?_
        replace hb_16 : Box 57 440 col_34 w_41 g0 #[(.slice a_22 xs_46.length cap_23)] := by rw [← (show h_21.length = xs_46.length by rw [hz_45, List.length_set])]; exact hb_16
        clear h_24
        refine lnil ⟨fun w' => Grow col_34 w_41 col_34 w', Grow.refl _ _, fun h => absurd h (by decide), ?_⟩
        obtain ⟨e_47, hj_48, hm⟩ := bind_some hm
        refine xu (v := (sptr a_22 (Int.toNat (IntKind.i64.wrap (Int.tdiv (IntKind.i64.wrap (i_25 - 1)) 2)) * 1))) rfl rfl (fun _ => r_idx Try.underlying57 Try.sizeOf3 rfl rfl (at?_some hj_48).1 (at?_some hj_48).2.1 (h_44.addr hj_48)) ?_
        refine xe rfl rfl ?_
        intro w_49 hC0
        have hC : Grow col_34 w_41 col_34 w_49 := .of_below hC0.below
        replace h_44 := h_44.gr hC
        replace hb_16 := hb_16.gr hC
        replace hst := hst.grow hC
        obtain ⟨xs_55, hz_54, hm⟩ := bind_some hm
        have hz_54 : xs_55 = xs_46.set (Int.toNat (IntKind.i64.wrap (Int.tdiv (IntKind.i64.wrap (i_25 - 1)) 2))) e_38 := (Option.some.inj hz_54).symm
        refine l_store (x1 := e_38) (v := (.int .i64 e_38)) h_44 hj_48 rfl Try.sizeOf3 (rd_int .i64 e_38) rfl rfl (by decide) ?_
        intro w_50 hk_51 hs_52 h_53
        rw [← hz_54] at h_53
        replace hb_16 := hb_16.kp hk_51 (by decide)
        replace hst := hst.kp hk_51 hs_52 (by decide) (by decide)
        replace hb_16 : Box 57 440 col_34 w_50 g0 #[(.slice a_22 xs_55.length cap_23)] := by rw [← (show xs_46.length = xs_55.length by rw [hz_54, List.length_set])]; exact hb_16
        clear h_44
        refine lnil ⟨fun w' => Grow col_34 w_50 col_34 w', Grow.refl _ _, fun h => absurd h (by decide), ?_⟩
        refine xnil ?_
        intro w_56 hC
        replace hC : Grow col_34 w_50 col_34 w_56 := .of_below hC.below
        replace h_53 := h_53.gr hC
        replace hb_16 := hb_16.gr hC
        replace hst := hst.grow hC
        refine wregion ?_
        refine lv (v := (.int .i64 i_25)) rfl rfl (r_move rfl) ?_
        refine lv (v := (.int .i64 (IntKind.i64.wrap (i_25 - 1)))) rfl rfl (r_sub i_25 1 rfl rfl) ?_
        refine lv (v := (.int .i64 (IntKind.i64.wrap (Int.tdiv (IntKind.i64.wrap (i_25 - 1)) 2)))) rfl rfl (r_quo (IntKind.i64.wrap (i_25 - 1)) 2 rfl rfl (by decide)) ?_
        refine lv (v := (.int .i64 (IntKind.i64.wrap (Int.tdiv (IntKind.i64.wrap (i_25 - 1)) 2)))) rfl rfl (r_assign rfl) ?_
        refine lnil ?_
        exact ⟨n_18, by omega, ⟨col_34, a_22, cap_23, xs_55, (IntKind.i64.wrap (Int.tdiv (IntKind.i64.wrap (i_25 - 1)) 2)), n_18, rfl, hm, hst, h_53, hb_16, rfl, rfl, rfl⟩⟩
      · rw [if_neg (by rw [hb]; decide)] at hm
        clear hb
        refine wexit (inB_hit ?_)
        cases hm
        exact ⟨rfl, colFL w0.heap.size [q0, q0_1] col col_34 (fun n => bif Nat.beq n 441 then q0_1 else bif Nat.beq n 440 then q0 else 0), a_22, cap_23, rfl, hst.finL rfl (fun n => bif Nat.beq n 441 then q0_1 else bif Nat.beq n 440 then q0 else 0), hst.finOwnL (g := (fun n => bif Nat.beq n 441 then q0_1 else bif Nat.beq n 440 then q0 else 0)) rfl h_24 (by decide) (by decide) rfl, hst.finBoxL (g := (fun n => bif Nat.beq n 441 then q0_1 else bif Nat.beq n 440 then q0 else 0)) hb_16 (by decide) (by decide) rfl⟩
    · refine wquiet (col := col_20) (by kernel_rfl) (by kernel_rfl) ?_
      refine qv (v := (.int .i64 i_25)) rfl (fun _ hC => r_move rfl) ?_
      refine qv (v := (.bool (decide (0 < i_25)))) rfl (fun _ hC => r_gtr i_25 0 rfl rfl) ?_
      refine qv (v := (.bool (decide (0 < i_25)))) rfl (fun _ hC => r_move rfl) ?_
      by_cases hg_57 : (decide (0 < i_25)) = true
      · rw [if_pos hg_57] at hm
        refine qg (b := decide (0 < i_25)) 20 rfl rfl rfl (by rw [hg_57]; rfl) ?_
        refine qv (v := (.pointer (some ⟨g0, 0, none⟩))) rfl (fun _ hC => r_move rfl) ?_
        refine qg (b := decide (0 < i_25)) 20 rfl rfl rfl (by rw [hg_57]; rfl) ?_
        refine qv (v := (.pointer (some ⟨g0, 0, none⟩))) rfl (fun _ hC => r_nilCheck rfl) ?_
        refine qg (b := decide (0 < i_25)) 20 rfl rfl rfl (by rw [hg_57]; rfl) ?_
        refine qv (v := (.slice a_22 h_21.length cap_23)) rfl (fun _ hC => r_ld Try.isAgg57 rfl (hb_16.at1.gr (Grow.of_below (col := col_20) hC.below))) ?_
        refine qg (b := decide (0 < i_25)) 20 rfl rfl rfl (by rw [hg_57]; rfl) ?_
        refine qv (v := (.int .i64 i_25)) rfl (fun _ hC => r_move rfl) ?_
        refine qg (b := decide (0 < i_25)) 20 rfl rfl rfl (by rw [hg_57]; rfl) ?_
        obtain ⟨e_58, hj_59, hm⟩ := bind_some hm
        refine qv (v := (sptr a_22 (Int.toNat i_25 * 1))) rfl (fun _ hC => r_idx Try.underlying57 Try.sizeOf3 rfl rfl (at?_some hj_59).1 (at?_some hj_59).2.1 (h_24.addr hj_59)) ?_
        refine qg (b := decide (0 < i_25)) 20 rfl rfl rfl (by rw [hg_57]; rfl) ?_
        refine qv (v := (.int .i64 e_58)) rfl (fun _ hC => r_ld Try.isAgg3 rfl ((h_24.gr (Grow.of_below (col := col_20) hC.below)).atInt hj_59)) ?_
        refine qg (b := decide (0 < i_25)) 20 rfl rfl rfl (by rw [hg_57]; rfl) ?_
        refine qv (v := (.pointer (some ⟨g0, 0, none⟩))) rfl (fun _ hC => r_move rfl) ?_
        refine qg (b := decide (0 < i_25)) 20 rfl rfl rfl (by rw [hg_57]; rfl) ?_
        refine qv (v := (.pointer (some ⟨g0, 0, none⟩))) rfl (fun _ hC => r_nilCheck rfl) ?_
        refine qg (b := decide (0 < i_25)) 20 rfl rfl rfl (by rw [hg_57]; rfl) ?_
        refine qv (v := (.slice a_22 h_21.length cap_23)) rfl (fun _ hC => r_ld Try.isAgg57 rfl (hb_16.at1.gr (Grow.of_below (col := col_20) hC.below))) ?_
        refine qg (b := decide (0 < i_25)) 20 rfl rfl rfl (by rw [hg_57]; rfl) ?_
        refine qv (v := (.int .i64 i_25)) rfl (fun _ hC => r_move rfl) ?_
        refine qg (b := decide (0 < i_25)) 20 rfl rfl rfl (by rw [hg_57]; rfl) ?_
        refine qv (v := (.int .i64 (IntKind.i64.wrap (i_25 - 1)))) rfl (fun _ hC => r_sub i_25 1 rfl rfl) ?_
        refine qg (b := decide (0 < i_25)) 20 rfl rfl rfl (by rw [hg_57]; rfl) ?_
        refine qv (v := (.int .i64 (IntKind.i64.wrap (Int.tdiv (IntKind.i64.wrap (i_25 - 1)) 2)))) rfl (fun _ hC => r_quo (IntKind.i64.wrap (i_25 - 1)) 2 rfl rfl (by decide)) ?_
        refine qg (b := decide (0 < i_25)) 20 rfl rfl rfl (by rw [hg_57]; rfl) ?_
        obtain ⟨e_60, hj_61, hm⟩ := bind_some hm
        refine qv (v := (sptr a_22 (Int.toNat (IntKind.i64.wrap (Int.tdiv (IntKind.i64.wrap (i_25 - 1)) 2)) * 1))) rfl (fun _ hC => r_idx Try.underlying57 Try.sizeOf3 rfl rfl (at?_some hj_61).1 (at?_some hj_61).2.1 (h_24.addr hj_61)) ?_
        refine qg (b := decide (0 < i_25)) 20 rfl rfl rfl (by rw [hg_57]; rfl) ?_
        refine qv (v := (.int .i64 e_60)) rfl (fun _ hC => r_ld Try.isAgg3 rfl ((h_24.gr (Grow.of_below (col := col_20) hC.below)).atInt hj_61)) ?_
        refine qg (b := decide (0 < i_25)) 20 rfl rfl rfl (by rw [hg_57]; rfl) ?_
        refine qv (v := (.bool (decide (e_58 < e_60)))) rfl (fun _ hC => r_lss e_58 e_60 rfl rfl) ?_
        refine qv (v := (.bool (decide (e_58 < e_60)))) rfl (fun _ hC => r_pickT (congrArg Value.bool hg_57) rfl) ?_
        refine qnil ?_
        intro w_62 hC
        replace hC : Grow col_20 w_19 col_20 w_62 := .of_below hC.below
        replace h_24 := h_24.gr hC
        replace hb_16 := hb_16.gr hC
        replace hst := hst.grow hC
        exact ⟨col_20, (decide (e_58 < e_60)), hm, hst, h_24, hb_16, rfl, rfl, rfl, rfl⟩
      · rw [if_neg hg_57] at hm
        replace hg_57 := Bool.eq_false_iff.2 hg_57
        refine qp (b := decide (0 < i_25)) 20 rfl rfl rfl rfl (by rw [hg_57]; rfl) ?_
        refine qp (b := decide (0 < i_25)) 20 rfl rfl rfl rfl (by rw [hg_57]; rfl) ?_
        refine qp (b := decide (0 < i_25)) 20 rfl rfl rfl rfl (by rw [hg_57]; rfl) ?_
        refine qp (b := decide (0 < i_25)) 20 rfl rfl rfl rfl (by rw [hg_57]; rfl) ?_
        refine qp (b := decide (0 < i_25)) 20 rfl rfl rfl rfl (by rw [hg_57]; rfl) ?_
        refine qp (b := decide (0 < i_25)) 20 rfl rfl rfl rfl (by rw [hg_57]; rfl) ?_
        refine qp (b := decide (0 < i_25)) 20 rfl rfl rfl rfl (by rw [hg_57]; rfl) ?_
        refine qp (b := decide (0 < i_25)) 20 rfl rfl rfl rfl (by rw [hg_57]; rfl) ?_
        refine qp (b := decide (0 < i_25)) 20 rfl rfl rfl rfl (by rw [hg_57]; rfl) ?_
        refine qp (b := decide (0 < i_25)) 20 rfl rfl rfl rfl (by rw [hg_57]; rfl) ?_
        refine qp (b := decide (0 < i_25)) 20 rfl rfl rfl rfl (by rw [hg_57]; rfl) ?_
        refine qp (b := decide (0 < i_25)) 20 rfl rfl rfl rfl (by rw [hg_57]; rfl) ?_
        refine qp (b := decide (0 < i_25)) 20 rfl rfl rfl rfl (by rw [hg_57]; rfl) ?_
        refine qp (b := decide (0 < i_25)) 20 rfl rfl rfl rfl (by rw [hg_57]; rfl) ?_
        refine qp (b := decide (0 < i_25)) 20 rfl rfl rfl rfl (by rw [hg_57]; rfl) ?_
        refine qv (v := (.bool false)) rfl (fun _ hC => r_pickF (congrArg Value.bool hg_57) rfl) ?_
        refine qnil ?_
        intro w_63 hC
        replace hC : Grow col_20 w_19 col_20 w_63 := .of_below hC.below
        replace h_24 := h_24.gr hC
        replace hb_16 := hb_16.gr hC
        replace hst := hst.grow hC
        exact ⟨col_20, false, hm, hst, h_24, hb_16, rfl, rfl, rfl, rfl⟩




def m_dag_heap_pop_J1 (v_27 : Int) (kk_L2 : (Int → Int → Option (Int × (List Int)))) (least_31 : Int) : Option (Int × (List Int)) :=
  kk_L2 (IntKind.i64.wrap (v_27 + 1)) least_31

def m_dag_heap_pop_J2 (v_27 : Int) (least_28 : Int) (kk_L2 : (Int → Int → Option (Int × (List Int)))) (e_32 : Int) (v_43 : Bool) : Option (Int × (List Int)) :=
  if v_43 = true then (m_dag_heap_pop_J1 v_27 kk_L2 e_32) else (m_dag_heap_pop_J1 v_27 kk_L2 least_28)

def m_dag_heap_pop_L2 (N : Nat) (p0_h : (List Int)) (e_1 : Int) (l_19 : List Int) (i_23 : Int) (kk_L1 : ((List Int) → Int → Option (Int × (List Int)))) : Nat → Int → Int → Option (Int × (List Int))
  | 0, _, _ => none
  | n_24 + 1, v_27, least_28 => if (decide (v_27 < 2)) = true then ((at? [IntKind.i64.wrap ((IntKind.i64.wrap (2 * i_23)) + 1), IntKind.i64.wrap ((IntKind.i64.wrap (2 * i_23)) + 2)] v_27).bind fun e_32 => if (decide (e_32 < (IntKind.i64.wrap ((p0_h.length : Int) - 1)))) = true then ((at? l_19 e_32).bind fun e_45 => (at? l_19 least_28).bind fun e_47 => m_dag_heap_pop_J2 v_27 least_28 (m_dag_heap_pop_L2 N p0_h e_1 l_19 i_23 kk_L1 n_24) e_32 (decide (e_45 < e_47))) else (m_dag_heap_pop_J2 v_27 least_28 (m_dag_heap_pop_L2 N p0_h e_1 l_19 i_23 kk_L1 n_24) e_32 false)) else (if (decide (least_28 = i_23)) = true then (some (e_1, l_19.take (Int.toNat (IntKind.i64.wrap ((p0_h.length : Int) - 1))))) else ((at? l_19 least_28).bind fun e_51 => (at? l_19 i_23).bind fun e_53 => (some (l_19.set (Int.toNat i_23) e_51)).bind fun xs_61 => (at? xs_61 least_28).bind fun e_62 => (some (xs_61.set (Int.toNat least_28) e_53)).bind fun xs_70 => kk_L1 xs_70 least_28))

def m_dag_heap_pop_L1 (N : Nat) (p0_h : (List Int)) (e_1 : Int) : Nat → (List Int) → Int → Option (Int × (List Int))
  | 0, _, _ => none
  | n_16 + 1, l_19, i_23 => m_dag_heap_pop_L2 N p0_h e_1 l_19 i_23 (m_dag_heap_pop_L1 N p0_h e_1 n_16) N 0 i_23

def m_dag_heap_pop (N : Nat) (p0_h : (List Int)) : Option (Int × (List Int)) :=
  (at? p0_h 0).bind fun e_1 => (at? p0_h (IntKind.i64.wrap ((p0_h.length : Int) - 1))).bind fun e_3 => (some (p0_h.set (Int.toNat 0) e_3)).bind fun xs_10 => chk ((0 : Int) ≤ (IntKind.i64.wrap ((p0_h.length : Int) - 1)) ∧ (IntKind.i64.wrap ((p0_h.length : Int) - 1)) ≤ (xs_10.length : Int)) (m_dag_heap_pop_L1 N p0_h e_1 N xs_10 0)

set_option maxRecDepth 100000 in
theorem c_dag_heap_pop (N : Nat) (col : Col) (w0 : World) (q0 : Nat) (q0_1 : Nat) (hd : dstB [q0, q0_1] = true) (g0 : Nat) (p0_h : (List Int)) (a0_2 : Option Addr) (cap0_2 : Nat) (h0_2 : Own (Rep.int .i64) 3 q0_1 col w0 a0_2 cap0_2 p0_h) (hb0 : Box 57 q0 col w0 g0 #[(.slice a0_2 p0_h.length cap0_2)]) (r : (Int × (List Int))) (hm : m_dag_heap_pop N p0_h = some r) :
    Calls Try.prog 40 #[(.pointer (some ⟨g0, 0, none⟩))] w0 (fun e w' => ∃ (col' : Col) (oa1 : Option Addr) (oc2 : Nat), e = .returned ((.int .i64 r.1)) ∧ KeepP (pS [q0, q0_1]) col w0 col' w' ∧ Own (Rep.int .i64) 3 q0_1 col' w' oa1 oc2 r.2 ∧ Box 57 q0 col' w' g0 #[(.slice oa1 r.2.length oc2)]) := by
  refine calls_of1 2 (m := 76) (args := [(.pointer (some ⟨g0, 0, none⟩))]) Try.func40 rfl rfl rfl rfl rfl ?_
  rw [m_dag_heap_pop.eq_1] at hm
  have hst := St.startL (l := [q0, q0_1]) rfl col w0
  replace hb0 := hb0.startL (dst_nz hd 0 rfl) (dst_ix hd 0 rfl)
  replace h0_2 := h0_2.startL (dst_nz hd 1 rfl) (dst_ix hd 1 rfl)
  refine wseq ?_
  refine wregion ?_
  refine lv (v := (.int .i64 0)) rfl rfl (r_assign rfl) ?_
  refine lnil ?_
  refine wseq ?_
  refine wregion ?_
  refine lv (v := (.pointer (some ⟨g0, 0, none⟩))) rfl rfl (r_move rfl) ?_
  refine lv (v := (.pointer (some ⟨g0, 0, none⟩))) rfl rfl (r_nilCheck rfl) ?_
  refine lv (v := (.slice a0_2 p0_h.length cap0_2)) rfl rfl (r_ld Try.isAgg57 rfl hb0.at1) ?_
  refine lv (v := (.slice a0_2 p0_h.length cap0_2)) rfl rfl (r_assign rfl) ?_
  refine lnil ?_
  refine wseq ?_
  refine wregion ?_
  refine lv (v := (.slice a0_2 p0_h.length cap0_2)) rfl rfl (r_move rfl) ?_
  obtain ⟨e_1, hj_2, hm⟩ := bind_some hm
  refine lv (v := (sptr a0_2 (Int.toNat 0 * 1))) rfl rfl (r_idx Try.underlying57 Try.sizeOf3 rfl rfl (at?_some hj_2).1 (at?_some hj_2).2.1 (h0_2.addr hj_2)) ?_
  refine lv (v := (.int .i64 e_1)) rfl rfl (r_ld Try.isAgg3 rfl (h0_2.atInt hj_2)) ?_
  refine lv (v := (.slice a0_2 p0_h.length cap0_2)) rfl rfl (r_move rfl) ?_
  refine lv (v := (.int .i64 (p0_h.length : Int))) rfl rfl (r_len Try.underlying57 rfl) ?_
  refine lv (v := (.int .i64 (IntKind.i64.wrap ((p0_h.length : Int) - 1)))) rfl rfl (r_sub (p0_h.length : Int) 1 rfl rfl) ?_
  refine lv (v := (.int .i64 e_1)) rfl rfl (r_assign rfl) ?_
  refine lv (v := (.int .i64 (IntKind.i64.wrap ((p0_h.length : Int) - 1)))) rfl rfl (r_assign rfl) ?_
  refine lnil ?_
  refine wseq ?_
  refine wregion ?_
  refine lv (v := (.slice a0_2 p0_h.length cap0_2)) rfl rfl (r_move rfl) ?_
  refine lv (v := (.slice a0_2 p0_h.length cap0_2)) rfl rfl (r_move rfl) ?_
  refine lv (v := (.int .i64 (IntKind.i64.wrap ((p0_h.length : Int) - 1)))) rfl rfl (r_move rfl) ?_
  obtain ⟨e_3, hj_4, hm⟩ := bind_some hm
  refine lv (v := (sptr a0_2 (Int.toNat (IntKind.i64.wrap ((p0_h.length : Int) - 1)) * 1))) rfl rfl (r_idx Try.underlying57 Try.sizeOf3 rfl rfl (at?_some hj_4).1 (at?_some hj_4).2.1 (h0_2.addr hj_4)) ?_
  refine lv (v := (.int .i64 e_3)) rfl rfl (r_ld Try.isAgg3 rfl (h0_2.atInt hj_4)) ?_
  refine lv (v := (sptr a0_2 (Int.toNat 0 * 1))) rfl rfl (r_idx Try.underlying57 Try.sizeOf3 rfl rfl (at?_some hj_2).1 (at?_some hj_2).2.1 (h0_2.addr hj_2)) ?_
  obtain ⟨xs_10, hz_9, hm⟩ := bind_some hm
  have hz_9 : xs_10 = p0_h.set (Int.toNat 0) e_3 := (Option.some.inj hz_9).symm
  refine l_store (x1 := e_3) (v := (.int .i64 e_3)) h0_2 hj_2 rfl Try.sizeOf3 (rd_int .i64 e_3) rfl rfl (by decide) ?_
  intro w_5 hk_6 hs_7 h_8
  rw [← hz_9] at h_8
  replace hb0 := hb0.kp hk_6 (by decide)
  replace hst := hst.kp hk_6 hs_7 (by decide) (by decide)
  refine .ld (d := 3) (v := (.slice a0_2 xs_10.length cap0_2)) (congrArg (fun n => Value.slice a0_2 n cap0_2) (show p0_h.length = xs_10.length by rw [hz_9, List.length_set])) ?_
  replace hb0 : Box 57 440 (colL [q0, q0_1] col) w_5 g0 #[(.slice a0_2 xs_10.length cap0_2)] := by rw [← (show p0_h.length = xs_10.length by rw [hz_9, List.length_set])]; exact hb0
  clear h0_2
  refine lnil ?_
  refine wseq ?_
  refine wregion ?_
  refine lv (v := (.pointer (some ⟨g0, 0, none⟩))) rfl rfl (r_move rfl) ?_
  refine lv (v := (.slice a0_2 xs_10.length cap0_2)) rfl rfl (r_move rfl) ?_
  refine lv (v := (.int .i64 (IntKind.i64.wrap ((p0_h.length : Int) - 1)))) rfl rfl (r_move rfl) ?_
  obtain ⟨hb_11, hm⟩ := chk_some hm
  refine lv (v := .slice a0_2 (Int.toNat (IntKind.i64.wrap ((p0_h.length : Int) - 1))) cap0_2) rfl rfl (r_sliceH Try.underlying57 Try.sizeOf3 rfl rfl hb_11.1 (by have := h_8.lecap; have := hb_11.2; omega)) ?_
  refine .ld (d := 28) (v := (.slice a0_2 ((xs_10.take (Int.toNat (IntKind.i64.wrap ((p0_h.length : Int) - 1)))).length) cap0_2)) (congrArg (fun n => Value.slice a0_2 n cap0_2) (show (Int.toNat (IntKind.i64.wrap ((p0_h.length : Int) - 1))) = (xs_10.take (Int.toNat (IntKind.i64.wrap ((p0_h.length : Int) - 1)))).length by rw [List.length_take]; have := hb_11.2; omega)) ?_
  refine lv (v := (.pointer (some ⟨g0, 0, none⟩))) rfl rfl (r_nilCheck rfl) ?_
  refine l_bstore (v := (.slice a0_2 ((xs_10.take (Int.toNat (IntKind.i64.wrap ((p0_h.length : Int) - 1)))).length) cap0_2)) hb0 Try.sizeOf57 rfl rfl (by intro u hu; simp only [Value.cells, List.mem_cons, List.not_mem_nil, or_false] at hu; subst hu; rfl) rfl rfl ?_
  intro w_12 hk_13 hs_14 hb_15
  replace h_8 := h_8.kp hk_13 (by decide) (by decide)
  replace hst := hst.kp hk_13 hs_14 (by decide) (by decide)
  clear hb0
  replace hb_15 : Box 57 440 (colL [q0, q0_1] col) w_12 g0 #[(.slice a0_2 ((xs_10.take (Int.toNat (IntKind.i64.wrap ((p0_h.length : Int) - 1)))).length) cap0_2)] := hb_15
  refine lnil ?_
  refine wseq ?_
  refine wregion ?_
  refine lv (v := (.int .i64 0)) rfl rfl (r_assign rfl) ?_
  refine lnil ?_
  refine wblock ?_
  refine wloop (fun n f w_17 => ∃ (col_18 : Col) (a_20 : Option Addr) (cap_21 : Nat) (l_19 : List Int) (i_23 : Int) (n_16 : Nat), n_16 = n ∧ m_dag_heap_pop_L1 N p0_h e_1 n_16 l_19 i_23 = some r ∧ St w0 (colL [q0, q0_1] col) col_18 w_17 ∧ Own (Rep.int .i64) 3 441 col_18 w_17 a_20 cap_21 l_19 ∧ Box 57 440 col_18 w_17 g0 #[(.slice a_20 ((l_19.take (Int.toNat (IntKind.i64.wrap ((p0_h.length : Int) - 1)))).length) cap_21)] ∧ f 3 = (.slice a_20 l_19.length cap_21) ∧ f 4 = (.int .i64 e_1) ∧ f 5 = (.int .i64 (IntKind.i64.wrap ((p0_h.length : Int) - 1))) ∧ f 6 = (.int .i64 i_23) ∧ f 1000000 = (enc [])) N ⟨(colL [q0, q0_1] col), a0_2, cap0_2, xs_10, 0, N, rfl, hm, hst, h_8, hb_15, rfl, rfl, rfl, rfl, rfl⟩ ?_
  clear hm; intro n f w_17 hI
  obtain ⟨col_18, a_20, cap_21, l_19, i_23, n_16, hn, hm, hst, h_22, hb_15, hs3, hs4, hs5, hs6, hs1000000⟩ := hI
  subst hn
  refine .ld (d := 3) (v := (.slice a_20 l_19.length cap_21)) hs3 ?_
  refine .ld (d := 4) (v := (.int .i64 e_1)) hs4 ?_
  refine .ld (d := 5) (v := (.int .i64 (IntKind.i64.wrap ((p0_h.length : Int) - 1)))) hs5 ?_
  refine .ld (d := 6) (v := (.int .i64 i_23)) hs6 ?_
  refine .ld (d := 1000000) (v := (enc [])) hs1000000 ?_
  clear hs3 hs4 hs5 hs6 hs1000000
  cases n_16 with
  | zero => rw [m_dag_heap_pop_L1.eq_1] at hm; cases hm
  | succ n_16 =>
    rw [m_dag_heap_pop_L1.eq_2] at hm
    refine wblock ?_
    refine wseq ?_
    refine wregion ?_
    refine lv (v := (.int .i64 i_23)) rfl rfl (r_move rfl) ?_
    refine lv (v := (.int .i64 i_23)) rfl rfl (r_assign rfl) ?_
    refine lnil ?_
    refine wseq ?_
    refine wseq ?_
    refine wregion ?_
    refine lv (v := (.int .i64 i_23)) rfl rfl (r_move rfl) ?_
    refine lv (v := (.int .i64 (IntKind.i64.wrap (2 * i_23)))) rfl rfl (r_mul 2 i_23 rfl rfl) ?_
    refine lv (v := (.int .i64 (IntKind.i64.wrap ((IntKind.i64.wrap (2 * i_23)) + 1)))) rfl rfl (r_add (IntKind.i64.wrap (2 * i_23)) 1 rfl rfl) ?_
    refine lv (v := (.int .i64 i_23)) rfl rfl (r_move rfl) ?_
    refine lv (v := (.int .i64 (IntKind.i64.wrap (2 * i_23)))) rfl rfl (r_mul 2 i_23 rfl rfl) ?_
    refine lv (v := (.int .i64 (IntKind.i64.wrap ((IntKind.i64.wrap (2 * i_23)) + 2)))) rfl rfl (r_add (IntKind.i64.wrap (2 * i_23)) 2 rfl rfl) ?_
    refine lv (v := (.agg #[(.int .i64 (IntKind.i64.wrap ((IntKind.i64.wrap (2 * i_23)) + 1))), (.int .i64 (IntKind.i64.wrap ((IntKind.i64.wrap (2 * i_23)) + 2)))])) rfl rfl (r_buildA Try.underlying63 Try.sizeOf3 Try.zeroValue63 rfl) ?_
    refine lv (v := (.int .i64 0)) rfl rfl (r_move rfl) ?_
    refine lnil ?_
    refine wblock ?_
    refine wloop (fun n f w_25 => ∃ (col_26 : Col) (v_27 : Int) (least_28 : Int) (n_24 : Nat), n_24 = n ∧ m_dag_heap_pop_L2 N p0_h e_1 l_19 i_23 (m_dag_heap_pop_L1 N p0_h e_1 n_16) n_24 v_27 least_28 = some r ∧ St w0 (colL [q0, q0_1] col) col_26 w_25 ∧ Own (Rep.int .i64) 3 441 col_26 w_25 a_20 cap_21 l_19 ∧ Box 57 440 col_26 w_25 g0 #[(.slice a_20 ((l_19.take (Int.toNat (IntKind.i64.wrap ((p0_h.length : Int) - 1)))).length) cap_21)] ∧ f 3 = (.slice a_20 l_19.length cap_21) ∧ f 37 = (.agg #[(.int .i64 (IntKind.i64.wrap ((IntKind.i64.wrap (2 * i_23)) + 1))), (.int .i64 (IntKind.i64.wrap ((IntKind.i64.wrap (2 * i_23)) + 2)))]) ∧ f 38 = (.int .i64 v_27) ∧ f 4 = (.int .i64 e_1) ∧ f 5 = (.int .i64 (IntKind.i64.wrap ((p0_h.length : Int) - 1))) ∧ f 6 = (.int .i64 i_23) ∧ f 7 = (.int .i64 least_28) ∧ f 1000000 = (enc [])) N ⟨col_18, 0, i_23, N, rfl, hm, hst, h_22, hb_15, rfl, rfl, rfl, rfl, rfl, rfl, rfl, rfl⟩ ?_
    clear hm; intro n f w_25 hI
    obtain ⟨col_26, v_27, least_28, n_24, hn, hm, hst, h_22, hb_15, hs3, hs37, hs38, hs4, hs5, hs6, hs7, hs1000000⟩ := hI
    subst hn
    refine .ld (d := 3) (v := (.slice a_20 l_19.length cap_21)) hs3 ?_
    refine .ld (d := 37) (v := (.agg #[(.int .i64 (IntKind.i64.wrap ((IntKind.i64.wrap (2 * i_23)) + 1))), (.int .i64 (IntKind.i64.wrap ((IntKind.i64.wrap (2 * i_23)) + 2)))])) hs37 ?_
    refine .ld (d := 38) (v := (.int .i64 v_27)) hs38 ?_
    refine .ld (d := 4) (v := (.int .i64 e_1)) hs4 ?_
    refine .ld (d := 5) (v := (.int .i64 (IntKind.i64.wrap ((p0_h.length : Int) - 1)))) hs5 ?_
    refine .ld (d := 6) (v := (.int .i64 i_23)) hs6 ?_
    refine .ld (d := 7) (v := (.int .i64 least_28)) hs7 ?_
    refine .ld (d := 1000000) (v := (enc [])) hs1000000 ?_
    clear hs3 hs37 hs38 hs4 hs5 hs6 hs7 hs1000000
    cases n_24 with
    | zero => rw [m_dag_heap_pop_L2.eq_1] at hm; cases hm
    | succ n_24 =>
      rw [m_dag_heap_pop_L2.eq_2] at hm
      refine wseq ?_
      refine wregion ?_
      refine lv (v := (.bool (decide (v_27 < 2)))) rfl rfl (r_lss v_27 2 rfl rfl) ?_
      refine lnil ?_
      refine wseq ?_
      refine wcond (decide (v_27 < 2)) rfl (fun hb => ?_) (fun hb => ?_)
      · rw [if_pos hb] at hm
        clear hb
        refine wskip ?_
        refine wseq ?_
        refine Wp.cut (fun f w_29 => ∃ (col_30 : Col) (least_31 : Int), m_dag_heap_pop_J1 v_27 (m_dag_heap_pop_L2 N p0_h e_1 l_19 i_23 (m_dag_heap_pop_L1 N p0_h e_1 n_16) n_24) least_31 = some r ∧ St w0 (colL [q0, q0_1] col) col_30 w_29 ∧ Own (Rep.int .i64) 3 441 col_30 w_29 a_20 cap_21 l_19 ∧ Box 57 440 col_30 w_29 g0 #[(.slice a_20 ((l_19.take (Int.toNat (IntKind.i64.wrap ((p0_h.length : Int) - 1)))).length) cap_21)] ∧ f 3 = (.slice a_20 l_19.length cap_21) ∧ f 37 = (.agg #[(.int .i64 (IntKind.i64.wrap ((IntKind.i64.wrap (2 * i_23)) + 1))), (.int .i64 (IntKind.i64.wrap ((IntKind.i64.wrap (2 * i_23)) + 2)))]) ∧ f 38 = (.int .i64 v_27) ∧ f 4 = (.int .i64 e_1) ∧ f 5 = (.int .i64 (IntKind.i64.wrap ((p0_h.length : Int) - 1))) ∧ f 6 = (.int .i64 i_23) ∧ f 7 = (.int .i64 least_31) ∧ f 1000000 = (enc [])) ?_ ?_
        · intro f w_29 hJ
          obtain ⟨col_30, least_31, hm, hst, h_22, hb_15, hs3, hs37, hs38, hs4, hs5, hs6, hs7, hs1000000⟩ := hJ
          rw [m_dag_heap_pop_J1.eq_1] at hm
          refine .ld (d := 3) (v := (.slice a_20 l_19.length cap_21)) hs3 ?_
          refine .ld (d := 37) (v := (.agg #[(.int .i64 (IntKind.i64.wrap ((IntKind.i64.wrap (2 * i_23)) + 1))), (.int .i64 (IntKind.i64.wrap ((IntKind.i64.wrap (2 * i_23)) + 2)))])) hs37 ?_
          refine .ld (d := 38) (v := (.int .i64 v_27)) hs38 ?_
          refine .ld (d := 4) (v := (.int .i64 e_1)) hs4 ?_
          refine .ld (d := 5) (v := (.int .i64 (IntKind.i64.wrap ((p0_h.length : Int) - 1)))) hs5 ?_
          refine .ld (d := 6) (v := (.int .i64 i_23)) hs6 ?_
          refine .ld (d := 7) (v := (.int .i64 least_31)) hs7 ?_
          refine .ld (d := 1000000) (v := (enc [])) hs1000000 ?_
          clear hs3 hs37 hs38 hs4 hs5 hs6 hs7 hs1000000
          refine wregion ?_
          refine lv (v := (.int .i64 (IntKind.i64.wrap (v_27 + 1)))) rfl rfl (r_add v_27 1 rfl rfl) ?_
          refine lv (v := (.int .i64 (IntKind.i64.wrap (v_27 + 1)))) rfl rfl (r_move rfl) ?_
          refine lnil ?_
          exact ⟨n_24, by omega, ⟨col_30, (IntKind.i64.wrap (v_27 + 1)), least_31, n_24, rfl, hm, hst, h_22, hb_15, rfl, rfl, rfl, rfl, rfl, rfl, rfl, rfl⟩⟩
        · refine wblock ?_
          refine wseq ?_
          refine wregion ?_
          obtain ⟨e_32, hj_33, hm⟩ := bind_some hm
          refine lv (v := (.int .i64 e_32)) rfl rfl (r_indexI (l := [IntKind.i64.wrap ((IntKind.i64.wrap (2 * i_23)) + 1), IntKind.i64.wrap ((IntKind.i64.wrap (2 * i_23)) + 2)]) (k := .i64) Try.underlying63 Try.sizeOf3 Try.isAgg3 rfl rfl rfl hj_33) ?_
          refine lv (v := (.int .i64 e_32)) rfl rfl (r_assign rfl) ?_
          refine lnil ?_
          refine wseq ?_
          refine Wp.cut (fun f w_41 => ∃ (col_42 : Col) (v_43 : Bool), m_dag_heap_pop_J2 v_27 least_28 (m_dag_heap_pop_L2 N p0_h e_1 l_19 i_23 (m_dag_heap_pop_L1 N p0_h e_1 n_16) n_24) e_32 v_43 = some r ∧ St w0 (colL [q0, q0_1] col) col_42 w_41 ∧ Own (Rep.int .i64) 3 441 col_42 w_41 a_20 cap_21 l_19 ∧ Box 57 440 col_42 w_41 g0 #[(.slice a_20 ((l_19.take (Int.toNat (IntKind.i64.wrap ((p0_h.length : Int) - 1)))).length) cap_21)] ∧ f 3 = (.slice a_20 l_19.length cap_21) ∧ f 37 = (.agg #[(.int .i64 (IntKind.i64.wrap ((IntKind.i64.wrap (2 * i_23)) + 1))), (.int .i64 (IntKind.i64.wrap ((IntKind.i64.wrap (2 * i_23)) + 2)))]) ∧ f 38 = (.int .i64 v_27) ∧ f 4 = (.int .i64 e_1) ∧ f 5 = (.int .i64 (IntKind.i64.wrap ((p0_h.length : Int) - 1))) ∧ f 54 = (.bool v_43) ∧ f 6 = (.int .i64 i_23) ∧ f 7 = (.int .i64 least_28) ∧ f 9 = (.int .i64 e_32) ∧ f 1000000 = (enc [])) ?_ ?_
          · intro f w_41 hJ
            obtain ⟨col_42, v_43, hm, hst, h_22, hb_15, hs3, hs37, hs38, hs4, hs5, hs54, hs6, hs7, hs9, hs1000000⟩ := hJ
            rw [m_dag_heap_pop_J2.eq_1] at hm
            refine .ld (d := 3) (v := (.slice a_20 l_19.length cap_21)) hs3 ?_
            refine .ld (d := 37) (v := (.agg #[(.int .i64 (IntKind.i64.wrap ((IntKind.i64.wrap (2 * i_23)) + 1))), (.int .i64 (IntKind.i64.wrap ((IntKind.i64.wrap (2 * i_23)) + 2)))])) hs37 ?_
            refine .ld (d := 38) (v := (.int .i64 v_27)) hs38 ?_
            refine .ld (d := 4) (v := (.int .i64 e_1)) hs4 ?_
            refine .ld (d := 5) (v := (.int .i64 (IntKind.i64.wrap ((p0_h.length : Int) - 1)))) hs5 ?_
            refine .ld (d := 54) (v := (.bool v_43)) hs54 ?_
            refine .ld (d := 6) (v := (.int .i64 i_23)) hs6 ?_
            refine .ld (d := 7) (v := (.int .i64 least_28)) hs7 ?_
            refine .ld (d := 9) (v := (.int .i64 e_32)) hs9 ?_
            refine .ld (d := 1000000) (v := (enc [])) hs1000000 ?_
            clear hs3 hs37 hs38 hs4 hs5 hs54 hs6 hs7 hs9 hs1000000
            refine wcond (v_43) rfl (fun hb => ?_) (fun hb => ?_)
            · rw [if_pos hb] at hm
              clear hb
              refine wregion ?_
              refine lv (v := (.int .i64 e_32)) rfl rfl (r_move rfl) ?_
              refine lv (v := (.int .i64 e_32)) rfl rfl (r_assign rfl) ?_
              refine lnil ?_
              exact ⟨col_42, e_32, hm, hst, h_22, hb_15, rfl, rfl, rfl, rfl, rfl, rfl, rfl, rfl⟩
            · rw [if_neg (by rw [hb]; decide)] at hm
              clear hb
              refine wskip ?_
              exact ⟨col_42, least_28, hm, hst, h_22, hb_15, rfl, rfl, rfl, rfl, rfl, rfl, rfl, rfl⟩
          · refine wquiet (col := col_26) (by kernel_rfl) (by kernel_rfl) ?_
            refine qv (v := (.int .i64 e_32)) rfl (fun _ hC => r_move rfl) ?_
            refine qv (v := (.int .i64 (IntKind.i64.wrap ((p0_h.length : Int) - 1)))) rfl (fun _ hC => r_move rfl) ?_
            refine qv (v := (.bool (decide (e_32 < (IntKind.i64.wrap ((p0_h.length : Int) - 1)))))) rfl (fun _ hC => r_lss e_32 (IntKind.i64.wrap ((p0_h.length : Int) - 1)) rfl rfl) ?_
            refine qv (v := (.bool (decide (e_32 < (IntKind.i64.wrap ((p0_h.length : Int) - 1)))))) rfl (fun _ hC => r_move rfl) ?_
            by_cases hg_44 : (decide (e_32 < (IntKind.i64.wrap ((p0_h.length : Int) - 1)))) = true
            · rw [if_pos hg_44] at hm
              refine qg (b := decide (e_32 < (IntKind.i64.wrap ((p0_h.length : Int) - 1)))) 44 rfl rfl rfl (by rw [hg_44]; rfl) ?_
              refine qv (v := (.slice a_20 l_19.length cap_21)) rfl (fun _ hC => r_move rfl) ?_
              refine qg (b := decide (e_32 < (IntKind.i64.wrap ((p0_h.length : Int) - 1)))) 44 rfl rfl rfl (by rw [hg_44]; rfl) ?_
              refine qv (v := (.int .i64 e_32)) rfl (fun _ hC => r_move rfl) ?_
              refine qg (b := decide (e_32 < (IntKind.i64.wrap ((p0_h.length : Int) - 1)))) 44 rfl rfl rfl (by rw [hg_44]; rfl) ?_
              obtain ⟨e_45, hj_46, hm⟩ := bind_some hm
              refine qv (v := (sptr a_20 (Int.toNat e_32 * 1))) rfl (fun _ hC => r_idx Try.underlying57 Try.sizeOf3 rfl rfl (at?_some hj_46).1 (at?_some hj_46).2.1 (h_22.addr hj_46)) ?_
              refine qg (b := decide (e_32 < (IntKind.i64.wrap ((p0_h.length : Int) - 1)))) 44 rfl rfl rfl (by rw [hg_44]; rfl) ?_
              refine qv (v := (.int .i64 e_45)) rfl (fun _ hC => r_ld Try.isAgg3 rfl ((h_22.gr (Grow.of_below (col := col_26) hC.below)).atInt hj_46)) ?_
              refine qg (b := decide (e_32 < (IntKind.i64.wrap ((p0_h.length : Int) - 1)))) 44 rfl rfl rfl (by rw [hg_44]; rfl) ?_
              refine qv (v := (.slice a_20 l_19.length cap_21)) rfl (fun _ hC => r_move rfl) ?_
              refine qg (b := decide (e_32 < (IntKind.i64.wrap ((p0_h.length : Int) - 1)))) 44 rfl rfl rfl (by rw [hg_44]; rfl) ?_
              refine qv (v := (.int .i64 least_28)) rfl (fun _ hC => r_move rfl) ?_
              refine qg (b := decide (e_32 < (IntKind.i64.wrap ((p0_h.length : Int) - 1)))) 44 rfl rfl rfl (by rw [hg_44]; rfl) ?_
              obtain ⟨e_47, hj_48, hm⟩ := bind_some hm
              refine qv (v := (sptr a_20 (Int.toNat least_28 * 1))) rfl (fun _ hC => r_idx Try.underlying57 Try.sizeOf3 rfl rfl (at?_some hj_48).1 (at?_some hj_48).2.1 (h_22.addr hj_48)) ?_
              refine qg (b := decide (e_32 < (IntKind.i64.wrap ((p0_h.length : Int) - 1)))) 44 rfl rfl rfl (by rw [hg_44]; rfl) ?_
              refine qv (v := (.int .i64 e_47)) rfl (fun _ hC => r_ld Try.isAgg3 rfl ((h_22.gr (Grow.of_below (col := col_26) hC.below)).atInt hj_48)) ?_
              refine qg (b := decide (e_32 < (IntKind.i64.wrap ((p0_h.length : Int) - 1)))) 44 rfl rfl rfl (by rw [hg_44]; rfl) ?_
              refine qv (v := (.bool (decide (e_45 < e_47)))) rfl (fun _ hC => r_lss e_45 e_47 rfl rfl) ?_
              refine qv (v := (.bool (decide (e_45 < e_47)))) rfl (fun _ hC => r_pickT (congrArg Value.bool hg_44) rfl) ?_
              refine qnil ?_
              intro w_49 hC
              replace hC : Grow col_26 w_25 col_26 w_49 := .of_below hC.below
              replace h_22 := h_22.gr hC
              replace hb_15 := hb_15.gr hC
              replace hst := hst.grow hC
              exact ⟨col_26, (decide (e_45 < e_47)), hm, hst, h_22, hb_15, rfl, rfl, rfl, rfl, rfl, rfl, rfl, rfl, rfl, rfl⟩
            · rw [if_neg hg_44] at hm
              replace hg_44 := Bool.eq_false_iff.2 hg_44
              refine qp (b := decide (e_32 < (IntKind.i64.wrap ((p0_h.length : Int) - 1)))) 44 rfl rfl rfl rfl (by rw [hg_44]; rfl) ?_
              refine qp (b := decide (e_32 < (IntKind.i64.wrap ((p0_h.length : Int) - 1)))) 44 rfl rfl rfl rfl (by rw [hg_44]; rfl) ?_
              refine qp (b := decide (e_32 < (IntKind.i64.wrap ((p0_h.length : Int) - 1)))) 44 rfl rfl rfl rfl (by rw [hg_44]; rfl) ?_
              refine qp (b := decide (e_32 < (IntKind.i64.wrap ((p0_h.length : Int) - 1)))) 44 rfl rfl rfl rfl (by rw [hg_44]; rfl) ?_
              refine qp (b := decide (e_32 < (IntKind.i64.wrap ((p0_h.length : Int) - 1)))) 44 rfl rfl rfl rfl (by rw [hg_44]; rfl) ?_
              refine qp (b := decide (e_32 < (IntKind.i64.wrap ((p0_h.length : Int) - 1)))) 44 rfl rfl rfl rfl (by rw [hg_44]; rfl) ?_
              refine qp (b := decide (e_32 < (IntKind.i64.wrap ((p0_h.length : Int) - 1)))) 44 rfl rfl rfl rfl (by rw [hg_44]; rfl) ?_
              refine qp (b := decide (e_32 < (IntKind.i64.wrap ((p0_h.length : Int) - 1)))) 44 rfl rfl rfl rfl (by rw [hg_44]; rfl) ?_
              refine qp (b := decide (e_32 < (IntKind.i64.wrap ((p0_h.length : Int) - 1)))) 44 rfl rfl rfl rfl (by rw [hg_44]; rfl) ?_
              refine qv (v := (.bool false)) rfl (fun _ hC => r_pickF (congrArg Value.bool hg_44) rfl) ?_
              refine qnil ?_
              intro w_50 hC
              replace hC : Grow col_26 w_25 col_26 w_50 := .of_below hC.below
              replace h_22 := h_22.gr hC
              replace hb_15 := hb_15.gr hC
              replace hst := hst.grow hC
              exact ⟨col_26, false, hm, hst, h_22, hb_15, rfl, rfl, rfl, rfl, rfl, rfl, rfl, rfl, rfl, rfl⟩
      · rw [if_neg (by rw [hb]; decide)] at hm
        clear hb
        refine wexit (inB_hit ?_)
        refine wseq ?_
        refine wseq ?_
        refine wregion ?_
        refine lv (v := (.int .i64 least_28)) rfl rfl (r_move rfl) ?_
        refine lv (v := (.int .i64 i_23)) rfl rfl (r_move rfl) ?_
        refine lv (v := (.bool (decide (least_28 = i_23)))) rfl rfl (r_eql least_28 i_23 rfl rfl) ?_
        refine lnil ?_
        refine wcond (decide (least_28 = i_23)) rfl (fun hb => ?_) (fun hb => ?_)
        · rw [if_pos hb] at hm
          clear hb
          refine wseq ?_
          refine wregion ?_
          refine lv (v := (.int .i64 e_1)) rfl rfl (r_move rfl) ?_
          refine lv (v := (.int .i64 e_1)) rfl rfl (r_assign rfl) ?_
          refine lnil ?_
          refine wret ?_
          cases hm
          exact ⟨rfl, colFL w0.heap.size [q0, q0_1] col col_26 (fun n => bif Nat.beq n 441 then q0_1 else bif Nat.beq n 440 then q0 else 0), a_20, cap_21, rfl, hst.finL rfl (fun n => bif Nat.beq n 441 then q0_1 else bif Nat.beq n 440 then q0 else 0), hst.finOwnL (g := (fun n => bif Nat.beq n 441 then q0_1 else bif Nat.beq n 440 then q0 else 0)) rfl (h_22.take (Int.toNat (IntKind.i64.wrap ((p0_h.length : Int) - 1)))) (by decide) (by decide) rfl, hst.finBoxL (g := (fun n => bif Nat.beq n 441 then q0_1 else bif Nat.beq n 440 then q0 else 0)) hb_15 (by decide) (by decide) rfl⟩
        · rw [if_neg (by rw [hb]; decide)] at hm
          clear hb
          refine wskip ?_
          refine wseq ?_
          refine wmix (col := col_26) [(0, 1), (1, 1), (2, 1), (3, 1), (4, 1), (5, 1), (6, 1), (7, 0), (8, 1), (9, 1), (10, 1), (11, 0), (12, 1), (13, 2), (14, 1), (15, 2)] (by kernel_rfl) (by kernel_rfl) ?_
          refine xu (v := (.slice a_20 l_19.length cap_21)) rfl rfl (fun _ => r_move rfl) ?_
          refine xu (v := (.int .i64 i_23)) rfl rfl (fun _ => r_move rfl) ?_
          refine xu (v := (.slice a_20 l_19.length cap_21)) rfl rfl (fun _ => r_move rfl) ?_
          refine xu (v := (.int .i64 least_28)) rfl rfl (fun _ => r_move rfl) ?_
          refine xu (v := (.slice a_20 l_19.length cap_21)) rfl rfl (fun _ => r_move rfl) ?_
          refine xu (v := (.int .i64 least_28)) rfl rfl (fun _ => r_move rfl) ?_
          obtain ⟨e_51, hj_52, hm⟩ := bind_some hm
          refine xu (v := (sptr a_20 (Int.toNat least_28 * 1))) rfl rfl (fun _ => r_idx Try.underlying57 Try.sizeOf3 rfl rfl (at?_some hj_52).1 (at?_some hj_52).2.1 (h_22.addr hj_52)) ?_
          refine xv (v := (.int .i64 e_51)) rfl rfl (fun _ hC => r_ld Try.isAgg3 rfl ((h_22.gr (Grow.of_below (col := col_26) hC.below)).atInt hj_52)) ?_
          refine xu (v := (.slice a_20 l_19.length cap_21)) rfl rfl (fun _ => r_move rfl) ?_
          refine xu (v := (.int .i64 i_23)) rfl rfl (fun _ => r_move rfl) ?_
          obtain ⟨e_53, hj_54, hm⟩ := bind_some hm
          refine xu (v := (sptr a_20 (Int.toNat i_23 * 1))) rfl rfl (fun _ => r_idx Try.underlying57 Try.sizeOf3 rfl rfl (at?_some hj_54).1 (at?_some hj_54).2.1 (h_22.addr hj_54)) ?_
          refine xv (v := (.int .i64 e_53)) rfl rfl (fun _ hC => r_ld Try.isAgg3 rfl ((h_22.gr (Grow.of_below (col := col_26) hC.below)).atInt hj_54)) ?_
          refine xu (v := (sptr a_20 (Int.toNat i_23 * 1))) rfl rfl (fun _ => r_idx Try.underlying57 Try.sizeOf3 rfl rfl (at?_some hj_54).1 (at?_some hj_54).2.1 (h_22.addr hj_54)) ?_
          refine xe rfl rfl ?_
          intro w_55 hC0
          have hC : Grow col_26 w_25 col_26 w_55 := .of_below hC0.below
          replace h_22 := h_22.gr hC
          replace hb_15 := hb_15.gr hC
          replace hst := hst.grow hC
          obtain ⟨xs_61, hz_60, hm⟩ := bind_some hm
          have hz_60 : xs_61 = l_19.set (Int.toNat i_23) e_51 := (Option.some.inj hz_60).symm
          refine l_store (x1 := e_51) (v := (.int .i64 e_51)) h_22 hj_54 rfl Try.sizeOf3 (rd_int .i64 e_51) rfl rfl (by decide) ?_
          intro w_56 hk_57 hs_58 h_59
          rw [← hz_60] at h_59
          replace hb_15 := hb_15.kp hk_57 (by decide)
          replace hst := hst.kp hk_57 hs_58 (by decide) (by decide)
          refine .ld (d := 3) (v := (.slice a_20 xs_61.length cap_21)) (congrArg (fun n => Value.slice a_20 n cap_21) (show l_19.length = xs_61.length by rw [hz_60, List.length_set])) ?_
          refine .ld (d := 63) (v := (.slice a_20 xs_61.length cap_21)) (congrArg (fun n => Value.slice a_20 n cap_21) (show l_19.length = xs_61.length by rw [hz_60, List.length_set])) ?_
          replace hb_15 : Box 57 440 col_26 w_56 g0 #[(.slice a_20 ((xs_61.take (Int.toNat (IntKind.i64.wrap ((p0_h.length : Int) - 1)))).length) cap_21)] := by rw [← (show (l_19.take (Int.toNat (IntKind.i64.wrap ((p0_h.length : Int) - 1)))).length = (xs_61.take (Int.toNat (IntKind.i64.wrap ((p0_h.length : Int) - 1)))).length by rw [List.length_take, List.length_take, (show l_19.length = xs_61.length by rw [hz_60, List.length_set])])]; exact hb_15
          clear h_22
          refine lnil ⟨fun w' => Grow col_26 w_56 col_26 w', Grow.refl _ _, fun h => absurd h (by decide), ?_⟩
          obtain ⟨e_62, hj_63, hm⟩ := bind_some hm
          refine xu (v := (sptr a_20 (Int.toNat least_28 * 1))) rfl rfl (fun _ => r_idx Try.underlying57 Try.sizeOf3 rfl rfl (at?_some hj_63).1 (at?_some hj_63).2.1 (h_59.addr hj_63)) ?_
          refine xe rfl rfl ?_
          intro w_64 hC0
          have hC : Grow col_26 w_56 col_26 w_64 := .of_below hC0.below
          replace h_59 := h_59.gr hC
          replace hb_15 := hb_15.gr hC
          replace hst := hst.grow hC
          obtain ⟨xs_70, hz_69, hm⟩ := bind_some hm
          have hz_69 : xs_70 = xs_61.set (Int.toNat least_28) e_53 := (Option.some.inj hz_69).symm
          refine l_store (x1 := e_53) (v := (.int .i64 e_53)) h_59 hj_63 rfl Try.sizeOf3 (rd_int .i64 e_53) rfl rfl (by decide) ?_
          intro w_65 hk_66 hs_67 h_68
          rw [← hz_69] at h_68
          replace hb_15 := hb_15.kp hk_66 (by decide)
          replace hst := hst.kp hk_66 hs_67 (by decide) (by decide)
          refine .ld (d := 3) (v := (.slice a_20 xs_70.length cap_21)) (congrArg (fun n => Value.slice a_20 n cap_21) (show xs_61.length = xs_70.length by rw [hz_69, List.length_set])) ?_
          replace hb_15 : Box 57 440 col_26 w_65 g0 #[(.slice a_20 ((xs_70.take (Int.toNat (IntKind.i64.wrap ((p0_h.length : Int) - 1)))).length) cap_21)] := by rw [← (show (xs_61.take (Int.toNat (IntKind.i64.wrap ((p0_h.length : Int) - 1)))).length = (xs_70.take (Int.toNat (IntKind.i64.wrap ((p0_h.length : Int) - 1)))).length by rw [List.length_take, List.length_take, (show xs_61.length = xs_70.length by rw [hz_69, List.length_set])])]; exact hb_15
          clear h_59
          refine lnil ⟨fun w' => Grow col_26 w_65 col_26 w', Grow.refl _ _, fun h => absurd h (by decide), ?_⟩
          refine xnil ?_
          intro w_71 hC
          replace hC : Grow col_26 w_65 col_26 w_71 := .of_below hC.below
          replace h_68 := h_68.gr hC
          replace hb_15 := hb_15.gr hC
          replace hst := hst.grow hC
          refine wregion ?_
          refine lv (v := (.int .i64 least_28)) rfl rfl (r_move rfl) ?_
          refine lv (v := (.int .i64 least_28)) rfl rfl (r_assign rfl) ?_
          refine lnil ?_
          exact ⟨n_16, by omega, ⟨col_26, a_20, cap_21, xs_70, least_28, n_16, rfl, hm, hst, h_68, hb_15, rfl, rfl, rfl, rfl, rfl⟩⟩



theorem el3_28 : ElemOk Try.prog 3 1 8 := ⟨Try.t3, _, rfl, rfl, rfl, rfl, rfl⟩

def m_dag_sorted_J1 (kk_L3 : ((List Int) → (List Int) → Option (List Int))) (left_85 : List Int) (ready_89 : List Int) : Option (List Int) :=
  kk_L3 left_85 ready_89

def m_dag_sorted_L3 (N : Nat) (out_37 : List Int) (kk_L2 : ((List Int) → (List Int) → (List Int) → Option (List Int))) (r_41 : (Int × (List Int))) : List Int → (List Int) → (List Int) → Option (List Int)
  | [], left_73, ready_77 => kk_L2 left_73 ready_77 (out_37 ++ [r_41.1])
  | x_81 :: l_82, left_73, ready_77 => (at? left_73 x_81).bind fun e_93 => (some (left_73.set (Int.toNat x_81) (IntKind.i64.wrap (e_93 - 1)))).bind fun xs_100 => (at? xs_100 x_81).bind fun e_101 => if (decide (e_101 = 0)) = true then ((m_dag_heap_push N ready_77 x_81).bind fun r_103 => m_dag_sorted_J1 (m_dag_sorted_L3 N out_37 kk_L2 r_41 l_82) xs_100 r_103) else (m_dag_sorted_J1 (m_dag_sorted_L3 N out_37 kk_L2 r_41 l_82) xs_100 ready_77)

def m_dag_sorted_L2 (N : Nat) (p1_down : (List (List Int))) : Nat → (List Int) → (List Int) → (List Int) → Option (List Int)
  | 0, _, _, _ => none
  | n_26 + 1, left_29, ready_33, out_37 => if (decide (0 < (ready_33.length : Int))) = true then ((m_dag_heap_pop N ready_33).bind fun r_41 => chk ((out_37.length + [r_41.1].length) * 8 ≤ 140737488355328 ∧ out_37.length + [r_41.1].length ≤ maxLen) ((at? p1_down r_41.1).bind fun e_62 => m_dag_sorted_L3 N out_37 (m_dag_sorted_L2 N p1_down n_26) r_41 e_62 left_29 r_41.2)) else (some out_37)

def m_dag_sorted_J2 (k_12 : Nat) (kk_L1 : (Nat → (List Int) → (List Int) → Option (List Int))) (left_114 : List Int) (ready_118 : List Int) : Option (List Int) :=
  kk_L1 (k_12 + 1) left_114 ready_118

def m_dag_sorted_L1 (N : Nat) (p1_down : (List (List Int))) : List (List Int) → Nat → (List Int) → (List Int) → Option (List Int)
  | [], k_12, left_16, ready_20 => m_dag_sorted_L2 N p1_down N left_16 ready_20 ([] : List Int)
  | x_24 :: l_25, k_12, left_16, ready_20 => (at? left_16 (k_12 : Int)).bind fun e_127 => (some (left_16.set (Int.toNat (k_12 : Int)) (x_24.length : Int))).bind fun xs_134 => if (decide ((x_24.length : Int) = 0)) = true then ((m_dag_heap_push N ready_20 (k_12 : Int)).bind fun r_135 => m_dag_sorted_J2 k_12 (m_dag_sorted_L1 N p1_down l_25) xs_134 r_135) else (m_dag_sorted_J2 k_12 (m_dag_sorted_L1 N p1_down l_25) xs_134 ready_20)

def m_dag_sorted (N : Nat) (p0_parents : (List (List Int))) (p1_down : (List (List Int))) : Option (List Int) :=
  chk (p0_parents.length * 8 ≤ 281474976710656 ∧ p0_parents.length ≤ maxLen) (m_dag_sorted_L1 N p1_down p0_parents 0 (List.replicate p0_parents.length (0 : Int)) ([] : List Int))

set_option maxRecDepth 100000 in
theorem c_dag_sorted (N : Nat) (c1 : Nat) (col : Col) (w0 : World) (a0 : Option Addr) (cap0 : Nat) (p0_parents : (List (List Int))) (a1 : Option Addr) (cap1 : Nat) (p1_down : (List (List Int))) (h0 : Sl (Rep.slice (Rep.int .i64)) col w0 a0 cap0 p0_parents) (h1 : Sl (Rep.slice (Rep.int .i64)) col w0 a1 cap1 p1_down) (r : (List Int)) (hm : m_dag_sorted N p0_parents p1_down = some r) :
    Calls Try.prog 28 #[(.slice a0 p0_parents.length cap0), (.slice a1 p1_down.length cap1)] w0 (fun e w' => ∃ (col' : Col) (ra1 : Option Addr) (rc2 : Nat), e = .returned ((.slice ra1 r.length rc2)) ∧ Grow col w0 col' w' ∧ Own (Rep.int .i64) 3 c1 col' w' ra1 rc2 r) := by
  refine calls_of1 4 (m := 66) (args := [(.slice a0 p0_parents.length cap0), (.slice a1 p1_down.length cap1)]) Try.func28 rfl rfl rfl rfl rfl ?_
  rw [m_dag_sorted.eq_1] at hm
  have hst := St.start col w0
  replace h0 := h0.keep (Stay.start col w0)
  replace h1 := h1.keep (Stay.start col w0)
  refine wseq ?_
  refine wregion ?_
  refine lv (v := (.slice none (([] : List Int).length) 0)) rfl rfl (r_assign rfl) ?_
  refine lnil ?_
  refine wseq ?_
  refine wregion ?_
  refine lv (v := (.slice a0 p0_parents.length cap0)) rfl rfl (r_move rfl) ?_
  refine lv (v := (.int .i64 (p0_parents.length : Int))) rfl rfl (r_len Try.underlying22 rfl) ?_
  obtain ⟨hb_1, hm⟩ := chk_some hm
  refine l_make (col := (col0 col)) (w := w0) (r := (Rep.int .i64)) (n := p0_parents.length) (x0 := 0) 1 rfl Try.underlying31 Try.t3 rfl rfl rfl rfl rfl rfl rfl hb_1.1 hb_1.2 (rd_int .i64 0) ?_
  intro a_2 w_3 col_4 hg_5 h_6
  replace h0 := h0.gr hg_5
  replace h1 := h1.gr hg_5
  replace hst := hst.grow hg_5
  refine lv (v := (.slice a_2 ((List.replicate p0_parents.length (0 : Int)).length) p0_parents.length)) rfl rfl (r_assign rfl) ?_
  refine lnil ?_
  refine wseq ?_
  refine wregion ?_
  refine l_alloc (col := col_4) (v := (.slice none (([] : List Int).length) 0)) 2 rfl Try.zeroValue57 ?_
  intro g_7 w_8 col_9 hg_10 hb_11
  replace h0 := h0.gr hg_10
  replace h1 := h1.gr hg_10
  replace h_6 := h_6.gr hg_10
  replace hst := hst.grow hg_10
  replace hb_11 : Box 57 2 col_9 w_8 g_7 #[(.slice none (([] : List Int).length) 0)] := hb_11
  refine lnil ?_
  refine wseq ?_
  refine wseq ?_
  refine wregion ?_
  refine lv (v := (.slice a0 p0_parents.length cap0)) rfl rfl (r_move rfl) ?_
  refine lv (v := (.int .i64 (p0_parents.length : Int))) rfl rfl (r_len Try.underlying22 rfl) ?_
  refine lv (v := (.int .i64 0)) rfl rfl (r_move rfl) ?_
  refine lnil ?_
  refine wblock ?_
  refine wloop (fun n f w_14 => ∃ (col_15 : Col) (k_12 : Nat) (a_17 : Option Addr) (cap_18 : Nat) (left_16 : List Int) (a_21 : Option Addr) (cap_22 : Nat) (ready_20 : List Int) (l_13 : List (List Int)), n = l_13.length ∧ p0_parents.drop k_12 = l_13 ∧ m_dag_sorted_L1 N p1_down l_13 k_12 left_16 ready_20 = some r ∧ St w0 (col0 col) col_15 w_14 ∧ Sl (Rep.slice (Rep.int .i64)) col_15 w_14 a1 cap1 p1_down ∧ Sl (Rep.slice (Rep.int .i64)) col_15 w_14 a0 cap0 p0_parents ∧ Own (Rep.int .i64) 3 1 col_15 w_14 a_17 cap_18 left_16 ∧ Own (Rep.int .i64) 3 3 col_15 w_14 a_21 cap_22 ready_20 ∧ Box 57 2 col_15 w_14 g_7 #[(.slice a_21 ready_20.length cap_22)] ∧ f 18 = (.int .i64 (k_12 : Int)) ∧ f 1 = (.slice a1 p1_down.length cap1) ∧ f 16 = (.slice a0 p0_parents.length cap0) ∧ f 17 = (.int .i64 (p0_parents.length : Int)) ∧ f 5 = (.slice a_17 left_16.length cap_18) ∧ f 6 = (.pointer (some ⟨g_7, 0, none⟩)) ∧ f 1000000 = (enc [])) p0_parents.length ⟨col_9, 0, a_2, p0_parents.length, (List.replicate p0_parents.length (0 : Int)), none, 0, ([] : List Int), p0_parents, rfl, rfl, hm, hst, h1, h0, h_6, Own.nil, hb_11, rfl, rfl, rfl, rfl, rfl, rfl, rfl⟩ ?_
  clear hm; intro n f w_14 hI
  obtain ⟨col_15, k_12, a_17, cap_18, left_16, a_21, cap_22, ready_20, l_13, hn, hl, hm, hst, h1, h0, h_19, h_23, hb_11, hs18, hs1, hs16, hs17, hs5, hs6, hs1000000⟩ := hI
  subst hn
  refine .ld (d := 18) (v := (.int .i64 (k_12 : Int))) hs18 ?_
  refine .ld (d := 1) (v := (.slice a1 p1_down.length cap1)) hs1 ?_
  refine .ld (d := 16) (v := (.slice a0 p0_parents.length cap0)) hs16 ?_
  refine .ld (d := 17) (v := (.int .i64 (p0_parents.length : Int))) hs17 ?_
  refine .ld (d := 5) (v := (.slice a_17 left_16.length cap_18)) hs5 ?_
  refine .ld (d := 6) (v := (.pointer (some ⟨g_7, 0, none⟩))) hs6 ?_
  refine .ld (d := 1000000) (v := (enc [])) hs1000000 ?_
  clear hs18 hs1 hs16 hs17 hs5 hs6 hs1000000
  cases l_13 with
  | nil =>
    have hk : ¬ ((k_12 : Int) < (p0_parents.length : Int)) := by have := List.drop_eq_nil_iff.1 hl; omega
    have hkb := decide_eq_false hk
    rw [m_dag_sorted_L1.eq_1] at hm
    refine wseq ?_
    refine wregion ?_
    refine lv (v := (.bool (decide ((k_12 : Int) < (p0_parents.length : Int))))) rfl rfl (r_lss (k_12 : Int) (p0_parents.length : Int) rfl rfl) ?_
    refine lnil ?_
    refine wseq ?_
    refine wcondF (congrArg Value.bool hkb) ?_
    refine wexit (inB_hit ?_)
    refine wseq ?_
    refine wregion ?_
    refine lv (v := (.slice none (([] : List Int).length) 0)) rfl rfl (r_assign rfl) ?_
    refine lnil ?_
    refine wseq ?_
    refine wblock ?_
    refine wloop (fun n f w_27 => ∃ (col_28 : Col) (a_30 : Option Addr) (cap_31 : Nat) (left_29 : List Int) (a_34 : Option Addr) (cap_35 : Nat) (ready_33 : List Int) (a_38 : Option Addr) (cap_39 : Nat) (out_37 : List Int) (n_26 : Nat), n_26 = n ∧ m_dag_sorted_L2 N p1_down n_26 left_29 ready_33 out_37 = some r ∧ St w0 (col0 col) col_28 w_27 ∧ Sl (Rep.slice (Rep.int .i64)) col_28 w_27 a1 cap1 p1_down ∧ Own (Rep.int .i64) 3 1 col_28 w_27 a_30 cap_31 left_29 ∧ Own (Rep.int .i64) 3 3 col_28 w_27 a_34 cap_35 ready_33 ∧ Box 57 2 col_28 w_27 g_7 #[(.slice a_34 ready_33.length cap_35)] ∧ Own (Rep.int .i64) 3 4 col_28 w_27 a_38 cap_39 out_37 ∧ f 1 = (.slice a1 p1_down.length cap1) ∧ f 5 = (.slice a_30 left_29.length cap_31) ∧ f 6 = (.pointer (some ⟨g_7, 0, none⟩)) ∧ f 9 = (.slice a_38 out_37.length cap_39) ∧ f 1000000 = (enc [])) N ⟨col_15, a_17, cap_18, left_16, a_21, cap_22, ready_20, none, 0, ([] : List Int), N, rfl, hm, hst, h1, h_19, h_23, hb_11, Own.nil, rfl, rfl, rfl, rfl, rfl⟩ ?_
    clear hm; intro n f w_27 hI
    obtain ⟨col_28, a_30, cap_31, left_29, a_34, cap_35, ready_33, a_38, cap_39, out_37, n_26, hn, hm, hst, h1, h_32, h_36, hb_11, h_40, hs1, hs5, hs6, hs9, hs1000000⟩ := hI
    subst hn
    refine .ld (d := 1) (v := (.slice a1 p1_down.length cap1)) hs1 ?_
    refine .ld (d := 5) (v := (.slice a_30 left_29.length cap_31)) hs5 ?_
    refine .ld (d := 6) (v := (.pointer (some ⟨g_7, 0, none⟩))) hs6 ?_
    refine .ld (d := 9) (v := (.slice a_38 out_37.length cap_39)) hs9 ?_
    refine .ld (d := 1000000) (v := (enc [])) hs1000000 ?_
    clear hs1 hs5 hs6 hs9 hs1000000
    cases n_26 with
    | zero => rw [m_dag_sorted_L2.eq_1] at hm; cases hm
    | succ n_26 =>
      rw [m_dag_sorted_L2.eq_2] at hm
      refine wseq ?_
      refine wseq ?_
      refine wregion ?_
      refine lv (v := (.slice a_34 ready_33.length cap_35)) rfl rfl (r_ld Try.isAgg57 rfl hb_11.at1) ?_
      refine lv (v := (.int .i64 (ready_33.length : Int))) rfl rfl (r_len Try.underlying57 rfl) ?_
      refine lv (v := (.bool (decide (0 < (ready_33.length : Int))))) rfl rfl (r_gtr (ready_33.length : Int) 0 rfl rfl) ?_
      refine lnil ?_
      refine wcond (decide (0 < (ready_33.length : Int))) rfl (fun hb => ?_) (fun hb => ?_)
      · rw [if_pos hb] at hm
        clear hb
        refine wskip ?_
        refine wblock ?_
        refine wseq ?_
        refine wregion ?_
        obtain ⟨r_41, hr_42, hm⟩ := bind_some hm
        refine lc rfl rfl (r_call1 Try.call40 rfl) (c_dag_heap_pop N col_28 _ 2 3 rfl g_7 ready_33 a_34 cap_35 h_36 hb_11 r_41 hr_42) ?_
        rintro _ w_47 ⟨col_49, oa_43, oc_44, rfl, hg_48, oh_45, ohb_46⟩
        refine ⟨_, rfl, ?_⟩
        replace h1 := h1.kpp hg_48 rfl
        replace h_32 := h_32.kpp hg_48 rfl rfl
        replace h_40 := h_40.kpp hg_48 rfl rfl
        replace hst := hst.kpp hg_48 rfl rfl
        clear h_36
        clear hb_11
        refine lv (v := (.int .i64 r_41.1)) rfl rfl (r_assign rfl) ?_
        refine lnil ?_
        refine wseq ?_
        refine wregion ?_
        refine lv (v := (.slice a_38 out_37.length cap_39)) rfl rfl (r_move rfl) ?_
        refine lv (v := (.int .i64 r_41.1)) rfl rfl (r_move rfl) ?_
        refine l_lit (col := col_49) (r := (Rep.int .i64)) (xs := [r_41.1]) [(.int .i64 r_41.1)] 5 rfl Try.underlying31 el3_28 rfl rfl rfl rfl rfl rfl (by intro v hv; simp only [List.mem_cons, List.not_mem_nil, or_false] at hv; subst hv; rfl) (RowsH.ofF (Rows.consF (r := (Rep.int .i64)) (x := r_41.1) (cs := [(.int .i64 r_41.1)]) (rd_int .i64 r_41.1) Rows.nil0)) ?_
        intro a_50 w_51 col_52 hg_53 h_54
        replace h1 := h1.gr hg_53
        replace h_32 := h_32.gr hg_53
        replace oh_45 := oh_45.gr hg_53
        replace h_40 := h_40.gr hg_53
        replace ohb_46 := ohb_46.gr hg_53
        replace hst := hst.grow hg_53
        obtain ⟨hb_55, hm⟩ := chk_some hm
        refine l_appendM (col := col_52) (w := w_51) (r := (Rep.int .i64)) (c := 4) (c2 := 4) (xs := out_37) (ys := [r_41.1]) h_40 (h_54.srcN (NB.int (k := .i64))) rfl Try.underlying31 el3_28 rfl rfl rfl hb_55.1 hb_55.2 (by decide) ?_
        intro a_56 cap_57 w_58 col_59 hk_60 h_61
        replace h1 := h1.kpp hk_60 rfl
        replace h_32 := h_32.kpp hk_60 rfl rfl
        replace oh_45 := oh_45.kpp hk_60 rfl rfl
        replace h_54 := h_54.kpp hk_60 rfl rfl
        replace ohb_46 := ohb_46.kpp hk_60 rfl
        replace hst := hst.kpp hk_60 rfl rfl
        clear h_40
        refine lv (v := (.slice a_56 ((out_37 ++ [r_41.1]).length) cap_57)) rfl rfl (r_assign rfl) ?_
        refine lnil ?_
        refine wseq ?_
        refine wregion ?_
        refine lv (v := (.slice a1 p1_down.length cap1)) rfl rfl (r_move rfl) ?_
        refine lv (v := (.int .i64 r_41.1)) rfl rfl (r_move rfl) ?_
        obtain ⟨e_62, hj_63, hm⟩ := bind_some hm
        refine lv (v := (sptr a1 (Int.toNat r_41.1 * 1))) rfl rfl (r_idx Try.underlying22 Try.sizeOf31 rfl rfl (at?_some hj_63).1 (at?_some hj_63).2.1 (h1.addr hj_63)) ?_
        obtain ⟨_, hr_64, hA_65⟩ := h1.atN hj_63
        obtain ⟨⟨a_66, cap_67, rfl, h_68⟩, _⟩ := hr_64
        refine lv (v := (.slice a_66 e_62.length cap_67)) rfl rfl (r_ld Try.isAgg31 rfl hA_65.one) ?_
        refine lv (v := (.int .i64 (e_62.length : Int))) rfl rfl (r_len Try.underlying31 rfl) ?_
        refine lv (v := (.int .i64 0)) rfl rfl (r_move rfl) ?_
        refine lnil ?_
        refine wblock ?_
        refine wloop (fun n f w_71 => ∃ (col_72 : Col) (k_69 : Nat) (a_74 : Option Addr) (cap_75 : Nat) (left_73 : List Int) (a_78 : Option Addr) (cap_79 : Nat) (ready_77 : List Int) (l_70 : List Int), n = l_70.length ∧ e_62.drop k_69 = l_70 ∧ m_dag_sorted_L3 N out_37 (m_dag_sorted_L2 N p1_down n_26) r_41 l_70 left_73 ready_77 = some r ∧ St w0 (col0 col) col_72 w_71 ∧ Sl (Rep.slice (Rep.int .i64)) col_72 w_71 a1 cap1 p1_down ∧ Sl (Rep.int .i64) col_72 w_71 a_66 cap_67 e_62 ∧ Own (Rep.int .i64) 3 1 col_72 w_71 a_74 cap_75 left_73 ∧ Own (Rep.int .i64) 3 3 col_72 w_71 a_78 cap_79 ready_77 ∧ Box 57 2 col_72 w_71 g_7 #[(.slice a_78 ready_77.length cap_79)] ∧ Own (Rep.int .i64) 3 4 col_72 w_71 a_56 cap_57 (out_37 ++ [r_41.1]) ∧ f 47 = (.int .i64 (k_69 : Int)) ∧ f 1 = (.slice a1 p1_down.length cap1) ∧ f 45 = (.slice a_66 e_62.length cap_67) ∧ f 46 = (.int .i64 (e_62.length : Int)) ∧ f 5 = (.slice a_74 left_73.length cap_75) ∧ f 6 = (.pointer (some ⟨g_7, 0, none⟩)) ∧ f 9 = (.slice a_56 ((out_37 ++ [r_41.1]).length) cap_57) ∧ f 1000000 = (enc [])) e_62.length ⟨col_59, 0, a_30, cap_31, left_29, oa_43, oc_44, r_41.2, e_62, rfl, rfl, hm, hst, h1, h_68, h_32, oh_45, ohb_46, h_61, rfl, rfl, rfl, rfl, rfl, rfl, rfl, rfl⟩ ?_
        clear hm; intro n f w_71 hI
        obtain ⟨col_72, k_69, a_74, cap_75, left_73, a_78, cap_79, ready_77, l_70, hn, hl, hm, hst, h1, h_68, h_76, h_80, ohb_46, h_61, hs47, hs1, hs45, hs46, hs5, hs6, hs9, hs1000000⟩ := hI
        subst hn
        refine .ld (d := 47) (v := (.int .i64 (k_69 : Int))) hs47 ?_
        refine .ld (d := 1) (v := (.slice a1 p1_down.length cap1)) hs1 ?_
        refine .ld (d := 45) (v := (.slice a_66 e_62.length cap_67)) hs45 ?_
        refine .ld (d := 46) (v := (.int .i64 (e_62.length : Int))) hs46 ?_
        refine .ld (d := 5) (v := (.slice a_74 left_73.length cap_75)) hs5 ?_
        refine .ld (d := 6) (v := (.pointer (some ⟨g_7, 0, none⟩))) hs6 ?_
        refine .ld (d := 9) (v := (.slice a_56 ((out_37 ++ [r_41.1]).length) cap_57)) hs9 ?_
        refine .ld (d := 1000000) (v := (enc [])) hs1000000 ?_
        clear hs47 hs1 hs45 hs46 hs5 hs6 hs9 hs1000000
        cases l_70 with
        | nil =>
          have hk : ¬ ((k_69 : Int) < (e_62.length : Int)) := by have := List.drop_eq_nil_iff.1 hl; omega
          have hkb := decide_eq_false hk
          rw [m_dag_sorted_L3.eq_1] at hm
          refine wseq ?_
          refine wregion ?_
          refine lv (v := (.bool (decide ((k_69 : Int) < (e_62.length : Int))))) rfl rfl (r_lss (k_69 : Int) (e_62.length : Int) rfl rfl) ?_
          refine lnil ?_
          refine wseq ?_
          refine wcondF (congrArg Value.bool hkb) ?_
          refine wexit (inB_hit ?_)
          exact ⟨n_26, by omega, ⟨col_72, a_74, cap_75, left_73, a_78, cap_79, ready_77, a_56, cap_57, (out_37 ++ [r_41.1]), n_26, rfl, hm, hst, h1, h_76, h_80, ohb_46, h_61, rfl, rfl, rfl, rfl, rfl⟩⟩
        | cons x_81 l_82 =>
          obtain ⟨hat, hl2, hlt⟩ := drop_get hl
          have hk : (k_69 : Int) < (e_62.length : Int) := by omega
          have hkb := decide_eq_true hk
          rw [m_dag_sorted_L3.eq_2] at hm
          refine wseq ?_
          refine wregion ?_
          refine lv (v := (.bool (decide ((k_69 : Int) < (e_62.length : Int))))) rfl rfl (r_lss (k_69 : Int) (e_62.length : Int) rfl rfl) ?_
          refine lnil ?_
          refine wseq ?_
          refine wcondT (congrArg Value.bool hkb) ?_
          refine wskip ?_
          refine wseq ?_
          refine Wp.cut (fun f w_83 => ∃ (col_84 : Col) (a_86 : Option Addr) (cap_87 : Nat) (left_85 : List Int) (a_90 : Option Addr) (cap_91 : Nat) (ready_89 : List Int), m_dag_sorted_J1 (m_dag_sorted_L3 N out_37 (m_dag_sorted_L2 N p1_down n_26) r_41 l_82) left_85 ready_89 = some r ∧ St w0 (col0 col) col_84 w_83 ∧ Sl (Rep.slice (Rep.int .i64)) col_84 w_83 a1 cap1 p1_down ∧ Sl (Rep.int .i64) col_84 w_83 a_66 cap_67 e_62 ∧ Own (Rep.int .i64) 3 1 col_84 w_83 a_86 cap_87 left_85 ∧ Own (Rep.int .i64) 3 3 col_84 w_83 a_90 cap_91 ready_89 ∧ Box 57 2 col_84 w_83 g_7 #[(.slice a_90 ready_89.length cap_91)] ∧ Own (Rep.int .i64) 3 4 col_84 w_83 a_56 cap_57 (out_37 ++ [r_41.1]) ∧ f 1 = (.slice a1 p1_down.length cap1) ∧ f 45 = (.slice a_66 e_62.length cap_67) ∧ f 46 = (.int .i64 (e_62.length : Int)) ∧ f 47 = (.int .i64 (k_69 : Int)) ∧ f 5 = (.slice a_86 left_85.length cap_87) ∧ f 6 = (.pointer (some ⟨g_7, 0, none⟩)) ∧ f 9 = (.slice a_56 ((out_37 ++ [r_41.1]).length) cap_57) ∧ f 1000000 = (enc [])) ?_ ?_
          · intro f w_83 hJ
            obtain ⟨col_84, a_86, cap_87, left_85, a_90, cap_91, ready_89, hm, hst, h1, h_68, h_88, h_92, ohb_46, h_61, hs1, hs45, hs46, hs47, hs5, hs6, hs9, hs1000000⟩ := hJ
            rw [m_dag_sorted_J1.eq_1] at hm
            refine .ld (d := 1) (v := (.slice a1 p1_down.length cap1)) hs1 ?_
            refine .ld (d := 45) (v := (.slice a_66 e_62.length cap_67)) hs45 ?_
            refine .ld (d := 46) (v := (.int .i64 (e_62.length : Int))) hs46 ?_
            refine .ld (d := 47) (v := (.int .i64 (k_69 : Int))) hs47 ?_
            refine .ld (d := 5) (v := (.slice a_86 left_85.length cap_87)) hs5 ?_
            refine .ld (d := 6) (v := (.pointer (some ⟨g_7, 0, none⟩))) hs6 ?_
            refine .ld (d := 9) (v := (.slice a_56 ((out_37 ++ [r_41.1]).length) cap_57)) hs9 ?_
            refine .ld (d := 1000000) (v := (enc [])) hs1000000 ?_
            clear hs1 hs45 hs46 hs47 hs5 hs6 hs9 hs1000000
            refine wregion ?_
            refine lv (v := (.int .i64 (IntKind.i64.wrap ((k_69 : Int) + 1)))) rfl rfl (r_add (k_69 : Int) 1 rfl rfl) ?_
            refine lv (v := (.int .i64 (IntKind.i64.wrap ((k_69 : Int) + 1)))) rfl rfl (r_move rfl) ?_
            refine lnil ?_
            exact ⟨l_82.length, by simp, ⟨col_84, (k_69 + 1), a_86, cap_87, left_85, a_90, cap_91, ready_89, l_82, rfl, hl2, hm, hst, h1, h_68, h_88, h_92, ohb_46, h_61, (congrArg (Value.int .i64) (wrap_succ (Nat.lt_of_lt_of_le hlt h_68.1.1))), rfl, rfl, rfl, rfl, rfl, rfl, rfl⟩⟩
          · refine wblock ?_
            refine wseq ?_
            refine wregion ?_
            refine lv (v := (sptr a_66 (Int.toNat (k_69 : Int) * 1))) rfl rfl (r_idx Try.underlying31 Try.sizeOf3 rfl rfl (at?_some hat).1 (at?_some hat).2.1 (h_68.addr hat)) ?_
            refine lv (v := (.int .i64 x_81)) rfl rfl (r_ld Try.isAgg3 rfl (h_68.atInt hat)) ?_
            refine lv (v := (.int .i64 x_81)) rfl rfl (r_assign rfl) ?_
            refine lnil ?_
            refine wseq ?_
            refine wregion ?_
            refine lv (v := (.slice a_74 left_73.length cap_75)) rfl rfl (r_move rfl) ?_
            refine lv (v := (.int .i64 x_81)) rfl rfl (r_move rfl) ?_
            obtain ⟨e_93, hj_94, hm⟩ := bind_some hm
            refine lv (v := (sptr a_74 (Int.toNat x_81 * 1))) rfl rfl (r_idx Try.underlying31 Try.sizeOf3 rfl rfl (at?_some hj_94).1 (at?_some hj_94).2.1 (h_76.addr hj_94)) ?_
            refine lv (v := (.int .i64 e_93)) rfl rfl (r_ld Try.isAgg3 rfl (h_76.atInt hj_94)) ?_
            refine lv (v := (.int .i64 (IntKind.i64.wrap (e_93 - 1)))) rfl rfl (r_sub e_93 1 rfl rfl) ?_
            refine lv (v := (sptr a_74 (Int.toNat x_81 * 1))) rfl rfl (r_idx Try.underlying31 Try.sizeOf3 rfl rfl (at?_some hj_94).1 (at?_some hj_94).2.1 (h_76.addr hj_94)) ?_
            obtain ⟨xs_100, hz_99, hm⟩ := bind_some hm
            have hz_99 : xs_100 = left_73.set (Int.toNat x_81) (IntKind.i64.wrap (e_93 - 1)) := (Option.some.inj hz_99).symm
            refine l_store (x1 := IntKind.i64.wrap (e_93 - 1)) (v := (.int .i64 (IntKind.i64.wrap (e_93 - 1)))) h_76 hj_94 rfl Try.sizeOf3 (rd_int .i64 (IntKind.i64.wrap (e_93 - 1))) rfl rfl (by decide) ?_
            intro w_95 hk_96 hs_97 h_98
            rw [← hz_99] at h_98
            replace h1 := h1.kp hk_96 (by decide)
            replace h_68 := h_68.kp hk_96 (by decide)
            replace h_80 := h_80.kp hk_96 (by decide) (by decide)
            replace h_61 := h_61.kp hk_96 (by decide) (by decide)
            replace ohb_46 := ohb_46.kp hk_96 (by decide)
            replace hst := hst.kp hk_96 hs_97 (by decide) (by decide)
            refine .ld (d := 5) (v := (.slice a_74 xs_100.length cap_75)) (congrArg (fun n => Value.slice a_74 n cap_75) (show left_73.length = xs_100.length by rw [hz_99, List.length_set])) ?_
            clear h_76
            refine lnil ?_
            refine wseq ?_
            refine wregion ?_
            refine lv (v := (.slice a_74 xs_100.length cap_75)) rfl rfl (r_move rfl) ?_
            refine lv (v := (.int .i64 x_81)) rfl rfl (r_move rfl) ?_
            obtain ⟨e_101, hj_102, hm⟩ := bind_some hm
            refine lv (v := (sptr a_74 (Int.toNat x_81 * 1))) rfl rfl (r_idx Try.underlying31 Try.sizeOf3 rfl rfl (at?_some hj_102).1 (at?_some hj_102).2.1 (h_98.addr hj_102)) ?_
            refine lv (v := (.int .i64 e_101)) rfl rfl (r_ld Try.isAgg3 rfl (h_98.atInt hj_102)) ?_
            refine lv (v := (.bool (decide (e_101 = 0)))) rfl rfl (r_eql e_101 0 rfl rfl) ?_
            refine lnil ?_
            refine wcond (decide (e_101 = 0)) rfl (fun hb => ?_) (fun hb => ?_)
            · rw [if_pos hb] at hm
              clear hb
              refine wregion ?_
              refine lv (v := (.int .i64 x_81)) rfl rfl (r_move rfl) ?_
              obtain ⟨r_103, hr_104, hm⟩ := bind_some hm
              refine lc rfl rfl (r_call2 Try.call39 rfl rfl) (c_dag_heap_push N col_72 _ 2 3 rfl g_7 ready_77 a_78 cap_79 x_81 h_80 ohb_46 r_103 hr_104) ?_
              rintro _ w_109 ⟨col_111, oa_105, oc_106, rfl, hg_110, oh_107, ohb_108⟩
              refine ⟨_, rfl, ?_⟩
              replace h1 := h1.kpp hg_110 rfl
              replace h_68 := h_68.kpp hg_110 rfl
              replace h_98 := h_98.kpp hg_110 rfl rfl
              replace h_61 := h_61.kpp hg_110 rfl rfl
              replace hst := hst.kpp hg_110 rfl rfl
              clear h_80
              clear ohb_46
              refine lnil ?_
              exact ⟨col_111, a_74, cap_75, xs_100, oa_105, oc_106, r_103, hm, hst, h1, h_68, h_98, oh_107, ohb_108, h_61, rfl, rfl, rfl, rfl, rfl, rfl, rfl, rfl⟩
            · rw [if_neg (by rw [hb]; decide)] at hm
              clear hb
              refine wskip ?_
              exact ⟨col_72, a_74, cap_75, xs_100, a_78, cap_79, ready_77, hm, hst, h1, h_68, h_98, h_80, ohb_46, h_61, rfl, rfl, rfl, rfl, rfl, rfl, rfl, rfl⟩
      · rw [if_neg (by rw [hb]; decide)] at hm
        clear hb
        refine wexit (inB_hit ?_)
        refine wseq ?_
        refine wregion ?_
        refine lv (v := (.slice a_38 out_37.length cap_39)) rfl rfl (r_move rfl) ?_
        refine lv (v := (.slice a_38 out_37.length cap_39)) rfl rfl (r_assign rfl) ?_
        refine lnil ?_
        refine wret ?_
        cases hm
        exact ⟨rfl, colF w0.heap.size col col_28 (fun n => bif Nat.beq n 4 then c1 else 0), a_38, cap_39, rfl, hst.fin (fun n => bif Nat.beq n 4 then c1 else 0), hst.finOwn (g := (fun n => bif Nat.beq n 4 then c1 else 0)) rfl h_40 (by decide) (by decide) rfl⟩
  | cons x_24 l_25 =>
    obtain ⟨hat, hl2, hlt⟩ := drop_get hl
    have hk : (k_12 : Int) < (p0_parents.length : Int) := by omega
    have hkb := decide_eq_true hk
    rw [m_dag_sorted_L1.eq_2] at hm
    refine wseq ?_
    refine wregion ?_
    refine lv (v := (.bool (decide ((k_12 : Int) < (p0_parents.length : Int))))) rfl rfl (r_lss (k_12 : Int) (p0_parents.length : Int) rfl rfl) ?_
    refine lnil ?_
    refine wseq ?_
    refine wcondT (congrArg Value.bool hkb) ?_
    refine wskip ?_
    refine wseq ?_
    refine Wp.cut (fun f w_112 => ∃ (col_113 : Col) (a_115 : Option Addr) (cap_116 : Nat) (left_114 : List Int) (a_119 : Option Addr) (cap_120 : Nat) (ready_118 : List Int), m_dag_sorted_J2 k_12 (m_dag_sorted_L1 N p1_down l_25) left_114 ready_118 = some r ∧ St w0 (col0 col) col_113 w_112 ∧ Sl (Rep.slice (Rep.int .i64)) col_113 w_112 a1 cap1 p1_down ∧ Sl (Rep.slice (Rep.int .i64)) col_113 w_112 a0 cap0 p0_parents ∧ Own (Rep.int .i64) 3 1 col_113 w_112 a_115 cap_116 left_114 ∧ Own (Rep.int .i64) 3 3 col_113 w_112 a_119 cap_120 ready_118 ∧ Box 57 2 col_113 w_112 g_7 #[(.slice a_119 ready_118.length cap_120)] ∧ f 1 = (.slice a1 p1_down.length cap1) ∧ f 16 = (.slice a0 p0_parents.length cap0) ∧ f 17 = (.int .i64 (p0_parents.length : Int)) ∧ f 18 = (.int .i64 (k_12 : Int)) ∧ f 5 = (.slice a_115 left_114.length cap_116) ∧ f 6 = (.pointer (some ⟨g_7, 0, none⟩)) ∧ f 1000000 = (enc [])) ?_ ?_
    · intro f w_112 hJ
      obtain ⟨col_113, a_115, cap_116, left_114, a_119, cap_120, ready_118, hm, hst, h1, h0, h_117, h_121, hb_11, hs1, hs16, hs17, hs18, hs5, hs6, hs1000000⟩ := hJ
      rw [m_dag_sorted_J2.eq_1] at hm
      refine .ld (d := 1) (v := (.slice a1 p1_down.length cap1)) hs1 ?_
      refine .ld (d := 16) (v := (.slice a0 p0_parents.length cap0)) hs16 ?_
      refine .ld (d := 17) (v := (.int .i64 (p0_parents.length : Int))) hs17 ?_
      refine .ld (d := 18) (v := (.int .i64 (k_12 : Int))) hs18 ?_
      refine .ld (d := 5) (v := (.slice a_115 left_114.length cap_116)) hs5 ?_
      refine .ld (d := 6) (v := (.pointer (some ⟨g_7, 0, none⟩))) hs6 ?_
      refine .ld (d := 1000000) (v := (enc [])) hs1000000 ?_
      clear hs1 hs16 hs17 hs18 hs5 hs6 hs1000000
      refine wregion ?_
      refine lv (v := (.int .i64 (IntKind.i64.wrap ((k_12 : Int) + 1)))) rfl rfl (r_add (k_12 : Int) 1 rfl rfl) ?_
      refine lv (v := (.int .i64 (IntKind.i64.wrap ((k_12 : Int) + 1)))) rfl rfl (r_move rfl) ?_
      refine lnil ?_
      exact ⟨l_25.length, by simp, ⟨col_113, (k_12 + 1), a_115, cap_116, left_114, a_119, cap_120, ready_118, l_25, rfl, hl2, hm, hst, h1, h0, h_117, h_121, hb_11, (congrArg (Value.int .i64) (wrap_succ (Nat.lt_of_lt_of_le hlt h0.1.1))), rfl, rfl, rfl, rfl, rfl, rfl⟩⟩
    · refine wblock ?_
      refine wseq ?_
      refine wregion ?_
      refine lv (v := (.int .i64 (k_12 : Int))) rfl rfl (r_move rfl) ?_
      refine lv (v := (sptr a0 (Int.toNat (k_12 : Int) * 1))) rfl rfl (r_idx Try.underlying22 Try.sizeOf31 rfl rfl (at?_some hat).1 (at?_some hat).2.1 (h0.addr hat)) ?_
      obtain ⟨_, hr_122, hA_123⟩ := h0.atN hat
      obtain ⟨⟨a_124, cap_125, rfl, h_126⟩, _⟩ := hr_122
      refine lv (v := (.slice a_124 x_24.length cap_125)) rfl rfl (r_ld Try.isAgg31 rfl hA_123.one) ?_
      refine lv (v := (.int .i64 (k_12 : Int))) rfl rfl (r_assign rfl) ?_
      refine lv (v := (.slice a_124 x_24.length cap_125)) rfl rfl (r_assign rfl) ?_
      refine lnil ?_
      refine wseq ?_
      refine wregion ?_
      refine lv (v := (.slice a_17 left_16.length cap_18)) rfl rfl (r_move rfl) ?_
      refine lv (v := (.int .i64 (k_12 : Int))) rfl rfl (r_move rfl) ?_
      refine lv (v := (.slice a_124 x_24.length cap_125)) rfl rfl (r_move rfl) ?_
      refine lv (v := (.int .i64 (x_24.length : Int))) rfl rfl (r_len Try.underlying31 rfl) ?_
      obtain ⟨e_127, hj_128, hm⟩ := bind_some hm
      refine lv (v := (sptr a_17 (Int.toNat (k_12 : Int) * 1))) rfl rfl (r_idx Try.underlying31 Try.sizeOf3 rfl rfl (at?_some hj_128).1 (at?_some hj_128).2.1 (h_19.addr hj_128)) ?_
      obtain ⟨xs_134, hz_133, hm⟩ := bind_some hm
      have hz_133 : xs_134 = left_16.set (Int.toNat (k_12 : Int)) (x_24.length : Int) := (Option.some.inj hz_133).symm
      refine l_store (x1 := (x_24.length : Int)) (v := (.int .i64 (x_24.length : Int))) h_19 hj_128 rfl Try.sizeOf3 (rd_int .i64 (x_24.length : Int)) rfl rfl (by decide) ?_
      intro w_129 hk_130 hs_131 h_132
      rw [← hz_133] at h_132
      replace h1 := h1.kp hk_130 (by decide)
      replace h0 := h0.kp hk_130 (by decide)
      replace h_23 := h_23.kp hk_130 (by decide) (by decide)
      replace h_126 := h_126.kp hk_130 (by decide)
      replace hb_11 := hb_11.kp hk_130 (by decide)
      replace hst := hst.kp hk_130 hs_131 (by decide) (by decide)
      refine .ld (d := 5) (v := (.slice a_17 xs_134.length cap_18)) (congrArg (fun n => Value.slice a_17 n cap_18) (show left_16.length = xs_134.length by rw [hz_133, List.length_set])) ?_
      clear h_19
      refine lnil ?_
      refine wseq ?_
      refine wregion ?_
      refine lv (v := (.slice a_124 x_24.length cap_125)) rfl rfl (r_move rfl) ?_
      refine lv (v := (.int .i64 (x_24.length : Int))) rfl rfl (r_len Try.underlying31 rfl) ?_
      refine lv (v := (.bool (decide ((x_24.length : Int) = 0)))) rfl rfl (r_eql (x_24.length : Int) 0 rfl rfl) ?_
      refine lnil ?_
      refine wcond (decide ((x_24.length : Int) = 0)) rfl (fun hb => ?_) (fun hb => ?_)
      · rw [if_pos hb] at hm
        clear hb
        refine wregion ?_
        refine lv (v := (.int .i64 (k_12 : Int))) rfl rfl (r_move rfl) ?_
        obtain ⟨r_135, hr_136, hm⟩ := bind_some hm
        refine lc rfl rfl (r_call2 Try.call39 rfl rfl) (c_dag_heap_push N col_15 _ 2 3 rfl g_7 ready_20 a_21 cap_22 (k_12 : Int) h_23 hb_11 r_135 hr_136) ?_
        rintro _ w_141 ⟨col_143, oa_137, oc_138, rfl, hg_142, oh_139, ohb_140⟩
        refine ⟨_, rfl, ?_⟩
        replace h1 := h1.kpp hg_142 rfl
        replace h0 := h0.kpp hg_142 rfl
        replace h_132 := h_132.kpp hg_142 rfl rfl
        replace hst := hst.kpp hg_142 rfl rfl
        clear h_23
        clear hb_11
        refine lnil ?_
        exact ⟨col_143, a_17, cap_18, xs_134, oa_137, oc_138, r_135, hm, hst, h1, h0, h_132, oh_139, ohb_140, rfl, rfl, rfl, rfl, rfl, rfl, rfl⟩
      · rw [if_neg (by rw [hb]; decide)] at hm
        clear hb
        refine wskip ?_
        exact ⟨col_15, a_17, cap_18, xs_134, a_21, cap_22, ready_20, hm, hst, h1, h0, h_132, h_23, hb_11, rfl, rfl, rfl, rfl, rfl, rfl, rfl⟩




def m_dag_Order (N : Nat) (p0_parents : (List (List Int))) : Option ((List Int) × Int) :=
  (m_dag_fits p0_parents).bind fun r_1 => if (!decide (r_1 = 0)) = true then (some (([] : List Int), r_1)) else ((m_dag_children p0_parents).bind fun r_5 => (m_dag_sorted N p0_parents r_5).bind fun r_13 => if (decide ((r_13.length : Int) < (p0_parents.length : Int))) = true then (some (([] : List Int), 42)) else (some (r_13, 0)))

set_option maxRecDepth 100000 in
theorem c_dag_Order (N : Nat) (c1 : Nat) (col : Col) (w0 : World) (a0 : Option Addr) (cap0 : Nat) (p0_parents : (List (List Int))) (h0 : Sl (Rep.slice (Rep.int .i64)) col w0 a0 cap0 p0_parents) (r : ((List Int) × Int)) (hm : m_dag_Order N p0_parents = some r) :
    Calls Try.prog 16 #[(.slice a0 p0_parents.length cap0)] w0 (fun e w' => ∃ (col' : Col) (ra1 : Option Addr) (rc2 : Nat), e = .returned (.tuple #[(.slice ra1 r.1.length rc2), (.int .i64 r.2)]) ∧ Grow col w0 col' w' ∧ Own (Rep.int .i64) 3 c1 col' w' ra1 rc2 r.1) := by
  refine calls_of2 2 3 (m := 21) (args := [(.slice a0 p0_parents.length cap0)]) Try.func16 rfl rfl rfl rfl rfl ?_
  rw [m_dag_Order.eq_1] at hm
  have hst := St.start col w0
  replace h0 := h0.keep (Stay.start col w0)
  refine wseq ?_
  refine wregion ?_
  refine lv (v := (.slice none (([] : List Int).length) 0)) rfl rfl (r_assign rfl) ?_
  refine lv (v := (.int .i64 0)) rfl rfl (r_assign rfl) ?_
  refine lnil ?_
  refine wseq ?_
  refine wseq ?_
  refine wregion ?_
  refine lv (v := (.slice a0 p0_parents.length cap0)) rfl rfl (r_move rfl) ?_
  obtain ⟨r_1, hr_2, hm⟩ := bind_some hm
  refine lc rfl rfl (r_call1 Try.call27 rfl) (c_dag_fits (col0 col) _ a0 cap0 p0_parents h0 r_1 hr_2) ?_
  rintro _ w_3 ⟨rfl, hg_4⟩
  refine ⟨_, rfl, ?_⟩
  replace hg_4 : Grow (col0 col) w0 (col0 col) w_3 := .of_below hg_4
  replace h0 := h0.gr hg_4
  replace hst := hst.grow hg_4
  refine lv (v := (.int .i64 r_1)) rfl rfl (r_assign rfl) ?_
  refine lnil ?_
  refine wseq ?_
  refine wregion ?_
  refine lv (v := (.int .i64 r_1)) rfl rfl (r_move rfl) ?_
  refine lv (v := (.bool (!decide (r_1 = 0)))) rfl rfl (r_neq r_1 0 rfl rfl) ?_
  refine lnil ?_
  refine wcond (!decide (r_1 = 0)) rfl (fun hb => ?_) (fun hb => ?_)
  · rw [if_pos hb] at hm
    clear hb
    refine wseq ?_
    refine wregion ?_
    refine lv (v := (.int .i64 r_1)) rfl rfl (r_move rfl) ?_
    refine lv (v := (.slice none (([] : List Int).length) 0)) rfl rfl (r_assign rfl) ?_
    refine lv (v := (.int .i64 r_1)) rfl rfl (r_assign rfl) ?_
    refine lnil ?_
    refine wret ?_
    cases hm
    exact ⟨rfl, colF w0.heap.size col (col0 col) (fun n => 0), none, 0, rfl, hst.fin (fun n => 0), Own.nil⟩
  · rw [if_neg (by rw [hb]; decide)] at hm
    clear hb
    refine wskip ?_
    refine wseq ?_
    refine wregion ?_
    refine lv (v := (.slice a0 p0_parents.length cap0)) rfl rfl (r_move rfl) ?_
    refine lv (v := (.slice a0 p0_parents.length cap0)) rfl rfl (r_move rfl) ?_
    obtain ⟨r_5, hr_6, hm⟩ := bind_some hm
    refine lc rfl rfl (r_call1 Try.call29 rfl) (c_dag_children 1 (col0 col) _ a0 cap0 p0_parents h0 r_5 hr_6) ?_
    rintro _ w_10 ⟨col_12, ra_7, rc_8, rfl, hg_11, rh_9⟩
    refine ⟨_, rfl, ?_⟩
    replace h0 := h0.gr hg_11
    replace hst := hst.grow hg_11
    obtain ⟨r_13, hr_14, hm⟩ := bind_some hm
    refine lc rfl rfl (r_call2 Try.call28 rfl rfl) (c_dag_sorted N 2 (frC 1 col_12) _ a0 cap0 p0_parents ra_7 rc_8 r_5 (h0.froz 1) (rh_9.toSlF (Froz.row (Froz.int .i64))) r_13 hr_14) ?_
    rintro _ w_18 ⟨col_20, ra_15, rc_16, rfl, hg_19, rh_17⟩
    refine ⟨_, rfl, ?_⟩
    replace rh_17 := rh_17.thaw (flat_int .i64) hg_19 ((Fz.refl (col := col_12)).froz 1) (by decide)
    replace hg_19 := hg_19.thawR (col := col_12)
    generalize colR w_10.heap.size col_12 col_20 = col_21 at *
    replace h0 := h0.gr hg_19
    replace rh_9 := rh_9.gr hg_19
    replace hst := hst.grow hg_19
    refine lv (v := (.slice ra_15 r_13.length rc_16)) rfl rfl (r_assign rfl) ?_
    refine lnil ?_
    refine wseq ?_
    refine wseq ?_
    refine wregion ?_
    refine lv (v := (.slice ra_15 r_13.length rc_16)) rfl rfl (r_move rfl) ?_
    refine lv (v := (.int .i64 (r_13.length : Int))) rfl rfl (r_len Try.underlying31 rfl) ?_
    refine lv (v := (.slice a0 p0_parents.length cap0)) rfl rfl (r_move rfl) ?_
    refine lv (v := (.int .i64 (p0_parents.length : Int))) rfl rfl (r_len Try.underlying22 rfl) ?_
    refine lv (v := (.bool (decide ((r_13.length : Int) < (p0_parents.length : Int))))) rfl rfl (r_lss (r_13.length : Int) (p0_parents.length : Int) rfl rfl) ?_
    refine lnil ?_
    refine wcond (decide ((r_13.length : Int) < (p0_parents.length : Int))) rfl (fun hb => ?_) (fun hb => ?_)
    · rw [if_pos hb] at hm
      clear hb
      refine wseq ?_
      refine wregion ?_
      refine lv (v := (.slice none (([] : List Int).length) 0)) rfl rfl (r_assign rfl) ?_
      refine lv (v := (.int .i64 42)) rfl rfl (r_assign rfl) ?_
      refine lnil ?_
      refine wret ?_
      cases hm
      exact ⟨rfl, colF w0.heap.size col col_21 (fun n => 0), none, 0, rfl, hst.fin (fun n => 0), Own.nil⟩
    · rw [if_neg (by rw [hb]; decide)] at hm
      clear hb
      refine wskip ?_
      refine wseq ?_
      refine wregion ?_
      refine lv (v := (.slice ra_15 r_13.length rc_16)) rfl rfl (r_move rfl) ?_
      refine lv (v := (.slice ra_15 r_13.length rc_16)) rfl rfl (r_assign rfl) ?_
      refine lv (v := (.int .i64 0)) rfl rfl (r_assign rfl) ?_
      refine lnil ?_
      refine wret ?_
      cases hm
      exact ⟨rfl, colF w0.heap.size col col_21 (fun n => bif Nat.beq n 2 then c1 else 0), ra_15, rc_16, rfl, hst.fin (fun n => bif Nat.beq n 2 then c1 else 0), hst.finOwn (g := (fun n => bif Nat.beq n 2 then c1 else 0)) rfl rh_17 (by decide) (by decide) rfl⟩




def m_dag_Check (N : Nat) (p0_parents : (List (List Int))) : Option Int :=
  (m_dag_Order N p0_parents).bind fun r_1 => some r_1.2

set_option maxRecDepth 100000 in
theorem c_dag_Check (N : Nat) (col : Col) (w0 : World) (a0 : Option Addr) (cap0 : Nat) (p0_parents : (List (List Int))) (h0 : Sl (Rep.slice (Rep.int .i64)) col w0 a0 cap0 p0_parents) (r : Int) (hm : m_dag_Check N p0_parents = some r) :
    Calls Try.prog 18 #[(.slice a0 p0_parents.length cap0)] w0 (fun e w' => e = .returned ((.int .i64 r)) ∧ Below w0.heap.size w0 w') := by
  refine calls_of1 2 (m := 11) (args := [(.slice a0 p0_parents.length cap0)]) Try.func18 rfl rfl rfl rfl rfl ?_
  rw [m_dag_Check.eq_1] at hm
  have hst := St.start col w0
  replace h0 := h0.keep (Stay.start col w0)
  refine wseq ?_
  refine wregion ?_
  refine lv (v := (.int .i64 0)) rfl rfl (r_assign rfl) ?_
  refine lnil ?_
  refine wseq ?_
  refine wregion ?_
  refine lv (v := (.slice a0 p0_parents.length cap0)) rfl rfl (r_move rfl) ?_
  obtain ⟨r_1, hr_2, hm⟩ := bind_some hm
  refine lc rfl rfl (r_call1 Try.call16 rfl) (c_dag_Order N 1 (col0 col) _ a0 cap0 p0_parents h0 r_1 hr_2) ?_
  rintro _ w_6 ⟨col_8, ra_3, rc_4, rfl, hg_7, rh_5⟩
  refine ⟨_, rfl, ?_⟩
  replace h0 := h0.gr hg_7
  replace hst := hst.grow hg_7
  refine lv (v := (.tuple #[(.slice ra_3 r_1.1.length rc_4), (.int .i64 r_1.2)])) rfl rfl (r_move rfl) ?_
  refine lv (v := (.slice ra_3 r_1.1.length rc_4)) rfl rfl (r_extract rfl rfl) ?_
  refine lv (v := (.int .i64 r_1.2)) rfl rfl (r_extract rfl rfl) ?_
  refine lv (v := (.slice ra_3 r_1.1.length rc_4)) rfl rfl (r_assign rfl) ?_
  refine lv (v := (.int .i64 r_1.2)) rfl rfl (r_assign rfl) ?_
  refine lnil ?_
  refine wseq ?_
  refine wregion ?_
  refine lv (v := (.int .i64 r_1.2)) rfl rfl (r_move rfl) ?_
  refine lv (v := (.int .i64 r_1.2)) rfl rfl (r_assign rfl) ?_
  refine lnil ?_
  refine wret ?_
  cases hm
  exact ⟨rfl, rfl, hst.below⟩



theorem el3_47 : ElemOk Try.prog 3 1 8 := ⟨Try.t3, _, rfl, rfl, rfl, rfl, rfl⟩

def m_dag_reach_1 (p0_p : Int) (p1_v : List (Int × Int)) (p2_v : (List Int)) : Option (List (Int × Int) × (List Int)) :=
  if (decide (((mget p1_v p0_p).getD 0) = 0)) = true then ((some (mput p1_v p0_p 1)).bind fun es_5 => chk ((p2_v.length + [p0_p].length) * 8 ≤ 140737488355328 ∧ p2_v.length + [p0_p].length ≤ maxLen) (some (es_5, p2_v ++ [p0_p]))) else (some (p1_v, p2_v))

set_option maxRecDepth 100000 in
theorem c_dag_reach_1 (col : Col) (w0 : World) (q1 : Nat) (q1_1 : Nat) (q2 : Nat) (q2_1 : Nat) (hd : dstB [q1, q1_1, q2, q2_1] = true) (p0_p : Int) (g1 : Nat) (p1_v : List (Int × Int)) (gm1_2 : Nat) (g2 : Nat) (p2_v : (List Int)) (a2_2 : Option Addr) (cap2_2 : Nat) (h1_2 : MapO (Value.int .i64) (Value.int .i64) q1_1 col w0 gm1_2 p1_v) (hb1 : Box 51 q1 col w0 g1 #[(.map (some gm1_2))]) (h2_2 : Own (Rep.int .i64) 3 q2_1 col w0 a2_2 cap2_2 p2_v) (hb2 : Box 31 q2 col w0 g2 #[(.slice a2_2 p2_v.length cap2_2)]) (r : (List (Int × Int) × (List Int))) (hm : m_dag_reach_1 p0_p p1_v p2_v = some r) :
    Calls Try.prog 47 #[(.int .i64 p0_p), (.pointer (some ⟨g1, 0, none⟩)), (.pointer (some ⟨g2, 0, none⟩))] w0 (fun e w' => ∃ (col' : Col) (og1 : Nat) (oa4 : Option Addr) (oc5 : Nat), e = .returned (.tuple #[]) ∧ KeepP (pS [q1, q1_1, q2, q2_1]) col w0 col' w' ∧ MapO (Value.int .i64) (Value.int .i64) q1_1 col' w' og1 r.1 ∧ Box 51 q1 col' w' g1 #[(.map (some og1))] ∧ Own (Rep.int .i64) 3 q2_1 col' w' oa4 oc5 r.2 ∧ Box 31 q2 col' w' g2 #[(.slice oa4 r.2.length oc5)]) := by
  refine calls_of0  (m := 14) (args := [(.int .i64 p0_p), (.pointer (some ⟨g1, 0, none⟩)), (.pointer (some ⟨g2, 0, none⟩))]) Try.func47 rfl rfl rfl rfl ?_
  rw [m_dag_reach_1.eq_1] at hm
  have hst := St.startL (l := [q1, q1_1, q2, q2_1]) rfl col w0
  replace hb1 := hb1.startL (dst_nz hd 0 rfl) (dst_ix hd 0 rfl)
  replace h1_2 := h1_2.startL (dst_nz hd 1 rfl) (dst_ix hd 1 rfl)
  replace hb2 := hb2.startL (dst_nz hd 2 rfl) (dst_ix hd 2 rfl)
  replace h2_2 := h2_2.startL (dst_nz hd 3 rfl) (dst_ix hd 3 rfl)
  refine wseq ?_
  refine wregion ?_
  refine lv (v := (.map (some gm1_2))) rfl rfl (r_ld Try.isAgg51 rfl hb1.at1) ?_
  refine lv (v := (.int .i64 p0_p)) rfl rfl (r_move rfl) ?_
  refine lv (v := (.int .i64 ((mget p1_v p0_p).getD 0))) rfl rfl (r_lookup KeyD.int h1_2 Try.underlying51 Try.underlying3 Try.zeroValue3 rfl rfl) ?_
  refine lv (v := (.bool (decide (((mget p1_v p0_p).getD 0) = 0)))) rfl rfl (r_eql ((mget p1_v p0_p).getD 0) 0 rfl rfl) ?_
  refine lnil ?_
  refine wcond (decide (((mget p1_v p0_p).getD 0) = 0)) rfl (fun hb => ?_) (fun hb => ?_)
  · rw [if_pos hb] at hm
    clear hb
    refine wseq ?_
    refine wregion ?_
    refine lv (v := (.map (some gm1_2))) rfl rfl (r_ld Try.isAgg51 rfl hb1.at1) ?_
    refine lv (v := (.int .i64 p0_p)) rfl rfl (r_move rfl) ?_
    obtain ⟨es_5, hz_6, hm⟩ := bind_some hm
    have hz_6 : es_5 = mput p1_v p0_p 1 := (Option.some.inj hz_6).symm
    refine l_mapUpdate (k := p0_p) (v := 1) KeyD.int h1_2 Try.underlying51 Try.underlying3 rfl rfl rfl ?_
    intro w_1 hk_2 hs_3 h_4
    rw [← hz_6] at h_4
    clear hz_6
    replace h2_2 := h2_2.kp hk_2 (by decide) (by decide)
    replace hb1 := hb1.kp hk_2 (by decide)
    replace hb2 := hb2.kp hk_2 (by decide)
    replace hst := hst.kp hk_2 hs_3 (by decide) (by decide)
    clear h1_2
    refine lnil ?_
    refine wregion ?_
    refine lv (v := (.slice a2_2 p2_v.length cap2_2)) rfl rfl (r_ld Try.isAgg31 rfl hb2.at1) ?_
    refine lv (v := (.int .i64 p0_p)) rfl rfl (r_move rfl) ?_
    refine l_lit (col := (colL [q1, q1_1, q2, q2_1] col)) (r := (Rep.int .i64)) (xs := [p0_p]) [(.int .i64 p0_p)] 1 rfl Try.underlying31 el3_47 rfl rfl rfl rfl rfl rfl (by intro v hv; simp only [List.mem_cons, List.not_mem_nil, or_false] at hv; subst hv; rfl) (RowsH.ofF (Rows.consF (r := (Rep.int .i64)) (x := p0_p) (cs := [(.int .i64 p0_p)]) (rd_int .i64 p0_p) Rows.nil0)) ?_
    intro a_7 w_8 col_9 hg_10 h_11
    replace h2_2 := h2_2.gr hg_10
    replace h_4 := h_4.gr hg_10
    replace hb1 := hb1.gr hg_10
    replace hb2 := hb2.gr hg_10
    replace hst := hst.grow hg_10
    obtain ⟨hb_12, hm⟩ := chk_some hm
    refine l_ext (col := col_9) (w := w_8) (r := (Rep.int .i64)) (c := 443) (c2 := 443) (h2_2.ex) (h_11.srcN (NB.int (k := .i64))) rfl Try.underlying31 el3_47 rfl rfl rfl hb_12.1 hb_12.2 (by decide) ?_
    intro a_13 cap_14 w_15 col_16 hk_17 h_18
    replace h_11 := h_11.kpp hk_17 rfl rfl
    replace h_4 := h_4.kpp hk_17 rfl
    replace hb1 := hb1.kpp hk_17 rfl
    replace hb2 := hb2.kpp hk_17 rfl
    replace hst := hst.kpp hk_17 rfl rfl
    clear h2_2
    refine l_bstore (v := (.slice a_13 ((p2_v ++ [p0_p]).length) cap_14)) hb2 Try.sizeOf31 rfl rfl (by intro u hu; simp only [Value.cells, List.mem_cons, List.not_mem_nil, or_false] at hu; subst hu; rfl) rfl rfl ?_
    intro w_19 hk_20 hs_21 hb_22
    replace h_18 := h_18.kp hk_20 (by decide) (by decide)
    replace h_4 := h_4.kp hk_20 (by decide)
    replace hb1 := hb1.kp hk_20 (by decide)
    replace hst := hst.kp hk_20 hs_21 (by decide) (by decide)
    clear hb2
    replace hb_22 : Box 31 442 col_16 w_19 g2 #[(.slice a_13 ((p2_v ++ [p0_p]).length) cap_14)] := hb_22
    have h_23 := h_18.new
    clear h_18
    refine lnil ?_
    cases hm
    exact ⟨rfl, colFL w0.heap.size [q1, q1_1, q2, q2_1] col col_16 (fun n => bif Nat.beq n 441 then q1_1 else bif Nat.beq n 440 then q1 else bif Nat.beq n 443 then q2_1 else bif Nat.beq n 442 then q2 else 0), gm1_2, a_13, cap_14, rfl, hst.finL rfl (fun n => bif Nat.beq n 441 then q1_1 else bif Nat.beq n 440 then q1 else bif Nat.beq n 443 then q2_1 else bif Nat.beq n 442 then q2 else 0), hst.finMapL (G := (fun n => bif Nat.beq n 441 then q1_1 else bif Nat.beq n 440 then q1 else bif Nat.beq n 443 then q2_1 else bif Nat.beq n 442 then q2 else 0)) h_4 (by decide) (by decide) rfl, hst.finBoxL (g := (fun n => bif Nat.beq n 441 then q1_1 else bif Nat.beq n 440 then q1 else bif Nat.beq n 443 then q2_1 else bif Nat.beq n 442 then q2 else 0)) hb1 (by decide) (by decide) rfl, hst.finOwnL (g := (fun n => bif Nat.beq n 441 then q1_1 else bif Nat.beq n 440 then q1 else bif Nat.beq n 443 then q2_1 else bif Nat.beq n 442 then q2 else 0)) rfl h_23 (by decide) (by decide) rfl, hst.finBoxL (g := (fun n => bif Nat.beq n 441 then q1_1 else bif Nat.beq n 440 then q1 else bif Nat.beq n 443 then q2_1 else bif Nat.beq n 442 then q2 else 0)) hb_22 (by decide) (by decide) rfl⟩
  · rw [if_neg (by rw [hb]; decide)] at hm
    clear hb
    refine wskip ?_
    cases hm
    exact ⟨rfl, colFL w0.heap.size [q1, q1_1, q2, q2_1] col (colL [q1, q1_1, q2, q2_1] col) (fun n => bif Nat.beq n 441 then q1_1 else bif Nat.beq n 440 then q1 else bif Nat.beq n 443 then q2_1 else bif Nat.beq n 442 then q2 else 0), gm1_2, a2_2, cap2_2, rfl, hst.finL rfl (fun n => bif Nat.beq n 441 then q1_1 else bif Nat.beq n 440 then q1 else bif Nat.beq n 443 then q2_1 else bif Nat.beq n 442 then q2 else 0), hst.finMapL (G := (fun n => bif Nat.beq n 441 then q1_1 else bif Nat.beq n 440 then q1 else bif Nat.beq n 443 then q2_1 else bif Nat.beq n 442 then q2 else 0)) h1_2 (by decide) (by decide) rfl, hst.finBoxL (g := (fun n => bif Nat.beq n 441 then q1_1 else bif Nat.beq n 440 then q1 else bif Nat.beq n 443 then q2_1 else bif Nat.beq n 442 then q2 else 0)) hb1 (by decide) (by decide) rfl, hst.finOwnL (g := (fun n => bif Nat.beq n 441 then q1_1 else bif Nat.beq n 440 then q1 else bif Nat.beq n 443 then q2_1 else bif Nat.beq n 442 then q2 else 0)) rfl h2_2 (by decide) (by decide) rfl, hst.finBoxL (g := (fun n => bif Nat.beq n 441 then q1_1 else bif Nat.beq n 440 then q1 else bif Nat.beq n 443 then q2_1 else bif Nat.beq n 442 then q2 else 0)) hb2 (by decide) (by decide) rfl⟩



theorem c_slices_Sort_int_int (col : Col) (w0 : World) (q0 : Nat) (hd : dstB [q0] = true) (a0 : Option Addr) (cap0 : Nat) (p0_x : (List Int)) (h0 : Own (Rep.int .i64) 3 q0 col w0 a0 cap0 p0_x) (r : (List Int)) (hm : lib_sort p0_x = some r) :
    Calls Try.prog 48 #[(.slice a0 p0_x.length cap0)] w0 (fun e w' => ∃ (col' : Col), e = .returned (.tuple #[]) ∧ KeepP (pS [q0]) col w0 col' w' ∧ Own (Rep.int .i64) 3 q0 col' w' a0 cap0 r ∧ r.length = p0_x.length) :=
  sort_int Try.slices_Sort_int Try.slices_Sort_int_none col w0 q0 hd a0 cap0 p0_x h0 r hm




def m_dag_reach_L3 (i_36 : Int) (kk_L2 : (Int → (List Int) → (List (Int × Int)) → Option ((List Int) × Int))) : List Int → (List Int) → (List (Int × Int)) → Option ((List Int) × Int)
  | [], out_57, seen_62 => kk_L2 (IntKind.i64.wrap (i_36 + 1)) out_57 seen_62
  | x_64 :: l_65, out_57, seen_62 => (m_dag_reach_1 x_64 seen_62 out_57).bind fun r_66 => (m_dag_reach_L3 i_36 kk_L2 l_65) r_66.2 r_66.1

def m_dag_reach_L2 (N : Nat) (p0_ways : (List (List Int))) : Nat → Int → (List Int) → (List (Int × Int)) → Option ((List Int) × Int)
  | 0, _, _, _ => none
  | n_33 + 1, i_36, out_37, seen_42 => if (decide (i_36 < (out_37.length : Int))) = true then ((at? out_37 i_36).bind fun e_44 => (at? p0_ways e_44).bind fun e_46 => m_dag_reach_L3 i_36 (m_dag_reach_L2 N p0_ways n_33) e_46 out_37 seen_42) else ((lib_sort out_37).bind fun r_78 => some (r_78, 0))

def m_dag_reach_J1 (out_24 : List Int) (seen_29 : List (Int × Int)) (kk_L1 : ((List Int) → (List (Int × Int)) → Option ((List Int) × Int))) (x_31 : Int) (v_88 : Bool) : Option ((List Int) × Int) :=
  if v_88 = true then (some (([] : List Int), 3)) else ((m_dag_reach_1 x_31 seen_29 out_24).bind fun r_89 => kk_L1 r_89.2 r_89.1)

def m_dag_reach_L1 (N : Nat) (p0_ways : (List (List Int))) : List Int → (List Int) → (List (Int × Int)) → Option ((List Int) × Int)
  | [], out_24, seen_29 => m_dag_reach_L2 N p0_ways N 0 out_24 seen_29
  | x_31 :: l_32, out_24, seen_29 => if (decide (x_31 < 0)) = true then (m_dag_reach_J1 out_24 seen_29 (m_dag_reach_L1 N p0_ways l_32) x_31 true) else (m_dag_reach_J1 out_24 seen_29 (m_dag_reach_L1 N p0_ways l_32) x_31 (decide ((p0_ways.length : Int) ≤ x_31)))

def m_dag_reach (N : Nat) (p0_ways : (List (List Int))) (p1_points : (List Int)) : Option ((List Int) × Int) :=
  m_dag_reach_L1 N p0_ways p1_points ([] : List Int) ([] : List (Int × Int))

set_option maxRecDepth 100000 in
theorem c_dag_reach (N : Nat) (c1 : Nat) (col : Col) (w0 : World) (a0 : Option Addr) (cap0 : Nat) (p0_ways : (List (List Int))) (a1 : Option Addr) (cap1 : Nat) (p1_points : (List Int)) (h0 : Sl (Rep.slice (Rep.int .i64)) col w0 a0 cap0 p0_ways) (h1 : Sl (Rep.int .i64) col w0 a1 cap1 p1_points) (r : ((List Int) × Int)) (hm : m_dag_reach N p0_ways p1_points = some r) :
    Calls Try.prog 38 #[(.slice a0 p0_ways.length cap0), (.slice a1 p1_points.length cap1)] w0 (fun e w' => ∃ (col' : Col) (ra1 : Option Addr) (rc2 : Nat), e = .returned (.tuple #[(.slice ra1 r.1.length rc2), (.int .i64 r.2)]) ∧ Grow col w0 col' w' ∧ Own (Rep.int .i64) 3 c1 col' w' ra1 rc2 r.1) := by
  refine calls_of2 4 5 (m := 61) (args := [(.slice a0 p0_ways.length cap0), (.slice a1 p1_points.length cap1)]) Try.func38 rfl rfl rfl rfl rfl ?_
  rw [m_dag_reach.eq_1] at hm
  have hst := St.start col w0
  replace h0 := h0.keep (Stay.start col w0)
  replace h1 := h1.keep (Stay.start col w0)
  refine wseq ?_
  refine wregion ?_
  refine lv (v := (.slice none (([] : List Int).length) 0)) rfl rfl (r_assign rfl) ?_
  refine lv (v := (.int .i64 0)) rfl rfl (r_assign rfl) ?_
  refine lnil ?_
  refine wseq ?_
  refine wregion ?_
  refine lv (v := (.slice a1 p1_points.length cap1)) rfl rfl (r_move rfl) ?_
  refine lv (v := (.int .i64 (p1_points.length : Int))) rfl rfl (r_len Try.underlying31 rfl) ?_
  refine l_makeMapN (col := (col0 col)) (fk := (Value.int .i64)) (fv := (Value.int .i64)) 1 rfl Try.underlying51 rfl ?_
  intro g_1 w_2 col_3 hg_4 h_5
  replace h0 := h0.gr hg_4
  replace h1 := h1.gr hg_4
  replace hst := hst.grow hg_4
  refine l_alloc (col := col_3) (v := (.map none)) 2 rfl Try.zeroValue51 ?_
  intro g_6 w_7 col_8 hg_9 hb_10
  replace h0 := h0.gr hg_9
  replace h1 := h1.gr hg_9
  replace h_5 := h_5.gr hg_9
  replace hst := hst.grow hg_9
  replace hb_10 : Box 51 2 col_8 w_7 g_6 #[(.map none)] := hb_10
  refine l_bstore (v := (.map (some g_1))) hb_10 Try.sizeOf51 rfl rfl (by intro u hu; simp only [Value.cells, List.mem_cons, List.not_mem_nil, or_false] at hu; subst hu; rfl) rfl rfl ?_
  intro w_11 hk_12 hs_13 hb_14
  replace h0 := h0.kp hk_12 (by decide)
  replace h1 := h1.kp hk_12 (by decide)
  replace h_5 := h_5.kp hk_12 (by decide)
  replace hst := hst.kp hk_12 hs_13 (by decide) (by decide)
  clear hb_10
  replace hb_14 : Box 51 2 col_8 w_11 g_6 #[(.map (some g_1))] := hb_14
  refine lnil ?_
  refine wseq ?_
  refine wregion ?_
  refine l_alloc (col := col_8) (v := (.slice none (([] : List Int).length) 0)) 3 rfl Try.zeroValue31 ?_
  intro g_15 w_16 col_17 hg_18 hb_19
  replace h0 := h0.gr hg_18
  replace h1 := h1.gr hg_18
  replace h_5 := h_5.gr hg_18
  replace hb_14 := hb_14.gr hg_18
  replace hst := hst.grow hg_18
  replace hb_19 : Box 31 3 col_17 w_16 g_15 #[(.slice none (([] : List Int).length) 0)] := hb_19
  refine lnil ?_
  refine wseq ?_
  refine wregion ?_
  refine lv (v := (.func (.func 47) #[] #[(.pointer (some ⟨g_6, 0, none⟩)), (.pointer (some ⟨g_15, 0, none⟩))])) rfl rfl (r_func2 rfl rfl) ?_
  refine lv (v := (.func (.func 47) #[] #[(.pointer (some ⟨g_6, 0, none⟩)), (.pointer (some ⟨g_15, 0, none⟩))])) rfl rfl (r_assign rfl) ?_
  refine lnil ?_
  refine wseq ?_
  refine wseq ?_
  refine wregion ?_
  refine lv (v := (.slice a1 p1_points.length cap1)) rfl rfl (r_move rfl) ?_
  refine lv (v := (.int .i64 (p1_points.length : Int))) rfl rfl (r_len Try.underlying31 rfl) ?_
  refine lv (v := (.int .i64 0)) rfl rfl (r_move rfl) ?_
  refine lnil ?_
  refine wblock ?_
  refine wloop (fun n f w_22 => ∃ (col_23 : Col) (k_20 : Nat) (a_25 : Option Addr) (cap_26 : Nat) (out_24 : List Int) (g_28 : Nat) (seen_29 : List (Int × Int)) (l_21 : List Int), n = l_21.length ∧ p1_points.drop k_20 = l_21 ∧ m_dag_reach_L1 N p0_ways l_21 out_24 seen_29 = some r ∧ St w0 (col0 col) col_23 w_22 ∧ Sl (Rep.slice (Rep.int .i64)) col_23 w_22 a0 cap0 p0_ways ∧ Sl (Rep.int .i64) col_23 w_22 a1 cap1 p1_points ∧ Own (Rep.int .i64) 3 4 col_23 w_22 a_25 cap_26 out_24 ∧ Box 31 3 col_23 w_22 g_15 #[(.slice a_25 out_24.length cap_26)] ∧ MapO (Value.int .i64) (Value.int .i64) 1 col_23 w_22 g_28 seen_29 ∧ Box 51 2 col_23 w_22 g_6 #[(.map (some g_28))] ∧ f 20 = (.int .i64 (k_20 : Int)) ∧ f 0 = (.slice a0 p0_ways.length cap0) ∧ f 18 = (.slice a1 p1_points.length cap1) ∧ f 19 = (.int .i64 (p1_points.length : Int)) ∧ f 7 = (.pointer (some ⟨g_15, 0, none⟩)) ∧ f 8 = (.func (.func 47) #[] #[(.pointer (some ⟨g_6, 0, none⟩)), (.pointer (some ⟨g_15, 0, none⟩))]) ∧ f 1000000 = (enc [])) p1_points.length ⟨col_17, 0, none, 0, ([] : List Int), g_1, ([] : List (Int × Int)), p1_points, rfl, rfl, hm, hst, h0, h1, Own.nil, hb_19, h_5, hb_14, rfl, rfl, rfl, rfl, rfl, rfl, rfl⟩ ?_
  clear hm; intro n f w_22 hI
  obtain ⟨col_23, k_20, a_25, cap_26, out_24, g_28, seen_29, l_21, hn, hl, hm, hst, h0, h1, h_27, hb_19, h_30, hb_14, hs20, hs0, hs18, hs19, hs7, hs8, hs1000000⟩ := hI
  subst hn
  refine .ld (d := 20) (v := (.int .i64 (k_20 : Int))) hs20 ?_
  refine .ld (d := 0) (v := (.slice a0 p0_ways.length cap0)) hs0 ?_
  refine .ld (d := 18) (v := (.slice a1 p1_points.length cap1)) hs18 ?_
  refine .ld (d := 19) (v := (.int .i64 (p1_points.length : Int))) hs19 ?_
  refine .ld (d := 7) (v := (.pointer (some ⟨g_15, 0, none⟩))) hs7 ?_
  refine .ld (d := 8) (v := (.func (.func 47) #[] #[(.pointer (some ⟨g_6, 0, none⟩)), (.pointer (some ⟨g_15, 0, none⟩))])) hs8 ?_
  refine .ld (d := 1000000) (v := (enc [])) hs1000000 ?_
  clear hs20 hs0 hs18 hs19 hs7 hs8 hs1000000
  cases l_21 with
  | nil =>
    have hk : ¬ ((k_20 : Int) < (p1_points.length : Int)) := by have := List.drop_eq_nil_iff.1 hl; omega
    have hkb := decide_eq_false hk
    rw [m_dag_reach_L1.eq_1] at hm
    refine wseq ?_
    refine wregion ?_
    refine lv (v := (.bool (decide ((k_20 : Int) < (p1_points.length : Int))))) rfl rfl (r_lss (k_20 : Int) (p1_points.length : Int) rfl rfl) ?_
    refine lnil ?_
    refine wseq ?_
    refine wcondF (congrArg Value.bool hkb) ?_
    refine wexit (inB_hit ?_)
    refine wseq ?_
    refine wseq ?_
    refine wregion ?_
    refine lv (v := (.int .i64 0)) rfl rfl (r_assign rfl) ?_
    refine lnil ?_
    refine wblock ?_
    refine wloop (fun n f w_34 => ∃ (col_35 : Col) (i_36 : Int) (a_38 : Option Addr) (cap_39 : Nat) (out_37 : List Int) (g_41 : Nat) (seen_42 : List (Int × Int)) (n_33 : Nat), n_33 = n ∧ m_dag_reach_L2 N p0_ways n_33 i_36 out_37 seen_42 = some r ∧ St w0 (col0 col) col_35 w_34 ∧ Sl (Rep.slice (Rep.int .i64)) col_35 w_34 a0 cap0 p0_ways ∧ Own (Rep.int .i64) 3 4 col_35 w_34 a_38 cap_39 out_37 ∧ Box 31 3 col_35 w_34 g_15 #[(.slice a_38 out_37.length cap_39)] ∧ MapO (Value.int .i64) (Value.int .i64) 1 col_35 w_34 g_41 seen_42 ∧ Box 51 2 col_35 w_34 g_6 #[(.map (some g_41))] ∧ f 0 = (.slice a0 p0_ways.length cap0) ∧ f 11 = (.int .i64 i_36) ∧ f 7 = (.pointer (some ⟨g_15, 0, none⟩)) ∧ f 8 = (.func (.func 47) #[] #[(.pointer (some ⟨g_6, 0, none⟩)), (.pointer (some ⟨g_15, 0, none⟩))]) ∧ f 1000000 = (enc [])) N ⟨col_23, 0, a_25, cap_26, out_24, g_28, seen_29, N, rfl, hm, hst, h0, h_27, hb_19, h_30, hb_14, rfl, rfl, rfl, rfl, rfl⟩ ?_
    clear hm; intro n f w_34 hI
    obtain ⟨col_35, i_36, a_38, cap_39, out_37, g_41, seen_42, n_33, hn, hm, hst, h0, h_40, hb_19, h_43, hb_14, hs0, hs11, hs7, hs8, hs1000000⟩ := hI
    subst hn
    refine .ld (d := 0) (v := (.slice a0 p0_ways.length cap0)) hs0 ?_
    refine .ld (d := 11) (v := (.int .i64 i_36)) hs11 ?_
    refine .ld (d := 7) (v := (.pointer (some ⟨g_15, 0, none⟩))) hs7 ?_
    refine .ld (d := 8) (v := (.func (.func 47) #[] #[(.pointer (some ⟨g_6, 0, none⟩)), (.pointer (some ⟨g_15, 0, none⟩))])) hs8 ?_
    refine .ld (d := 1000000) (v := (enc [])) hs1000000 ?_
    clear hs0 hs11 hs7 hs8 hs1000000
    cases n_33 with
    | zero => rw [m_dag_reach_L2.eq_1] at hm; cases hm
    | succ n_33 =>
      rw [m_dag_reach_L2.eq_2] at hm
      refine wseq ?_
      refine wseq ?_
      refine wregion ?_
      refine lv (v := (.int .i64 i_36)) rfl rfl (r_move rfl) ?_
      refine lv (v := (.slice a_38 out_37.length cap_39)) rfl rfl (r_ld Try.isAgg31 rfl hb_19.at1) ?_
      refine lv (v := (.int .i64 (out_37.length : Int))) rfl rfl (r_len Try.underlying31 rfl) ?_
      refine lv (v := (.bool (decide (i_36 < (out_37.length : Int))))) rfl rfl (r_lss i_36 (out_37.length : Int) rfl rfl) ?_
      refine lnil ?_
      refine wcond (decide (i_36 < (out_37.length : Int))) rfl (fun hb => ?_) (fun hb => ?_)
      · rw [if_pos hb] at hm
        clear hb
        refine wskip ?_
        refine wseq ?_
        refine wblock ?_
        refine wseq ?_
        refine wregion ?_
        refine lv (v := (.slice a0 p0_ways.length cap0)) rfl rfl (r_move rfl) ?_
        refine lv (v := (.slice a_38 out_37.length cap_39)) rfl rfl (r_ld Try.isAgg31 rfl hb_19.at1) ?_
        refine lv (v := (.int .i64 i_36)) rfl rfl (r_move rfl) ?_
        obtain ⟨e_44, hj_45, hm⟩ := bind_some hm
        refine lv (v := (sptr a_38 (Int.toNat i_36 * 1))) rfl rfl (r_idx Try.underlying31 Try.sizeOf3 rfl rfl (at?_some hj_45).1 (at?_some hj_45).2.1 (h_40.addr hj_45)) ?_
        refine lv (v := (.int .i64 e_44)) rfl rfl (r_ld Try.isAgg3 rfl (h_40.atInt hj_45)) ?_
        obtain ⟨e_46, hj_47, hm⟩ := bind_some hm
        refine lv (v := (sptr a0 (Int.toNat e_44 * 1))) rfl rfl (r_idx Try.underlying22 Try.sizeOf31 rfl rfl (at?_some hj_47).1 (at?_some hj_47).2.1 (h0.addr hj_47)) ?_
        obtain ⟨_, hr_48, hA_49⟩ := h0.atN hj_47
        obtain ⟨⟨a_50, cap_51, rfl, h_52⟩, _⟩ := hr_48
        refine lv (v := (.slice a_50 e_46.length cap_51)) rfl rfl (r_ld Try.isAgg31 rfl hA_49.one) ?_
        refine lv (v := (.int .i64 (e_46.length : Int))) rfl rfl (r_len Try.underlying31 rfl) ?_
        refine lv (v := (.int .i64 0)) rfl rfl (r_move rfl) ?_
        refine lnil ?_
        refine wblock ?_
        refine wloop (fun n f w_55 => ∃ (col_56 : Col) (k_53 : Nat) (a_58 : Option Addr) (cap_59 : Nat) (out_57 : List Int) (g_61 : Nat) (seen_62 : List (Int × Int)) (l_54 : List Int), n = l_54.length ∧ e_46.drop k_53 = l_54 ∧ m_dag_reach_L3 i_36 (m_dag_reach_L2 N p0_ways n_33) l_54 out_57 seen_62 = some r ∧ St w0 (col0 col) col_56 w_55 ∧ Sl (Rep.slice (Rep.int .i64)) col_56 w_55 a0 cap0 p0_ways ∧ Sl (Rep.int .i64) col_56 w_55 a_50 cap_51 e_46 ∧ Own (Rep.int .i64) 3 4 col_56 w_55 a_58 cap_59 out_57 ∧ Box 31 3 col_56 w_55 g_15 #[(.slice a_58 out_57.length cap_59)] ∧ MapO (Value.int .i64) (Value.int .i64) 1 col_56 w_55 g_61 seen_62 ∧ Box 51 2 col_56 w_55 g_6 #[(.map (some g_61))] ∧ f 50 = (.int .i64 (k_53 : Int)) ∧ f 0 = (.slice a0 p0_ways.length cap0) ∧ f 11 = (.int .i64 i_36) ∧ f 48 = (.slice a_50 e_46.length cap_51) ∧ f 49 = (.int .i64 (e_46.length : Int)) ∧ f 7 = (.pointer (some ⟨g_15, 0, none⟩)) ∧ f 8 = (.func (.func 47) #[] #[(.pointer (some ⟨g_6, 0, none⟩)), (.pointer (some ⟨g_15, 0, none⟩))]) ∧ f 1000000 = (enc [])) e_46.length ⟨col_35, 0, a_38, cap_39, out_37, g_41, seen_42, e_46, rfl, rfl, hm, hst, h0, h_52, h_40, hb_19, h_43, hb_14, rfl, rfl, rfl, rfl, rfl, rfl, rfl, rfl⟩ ?_
        clear hm; intro n f w_55 hI
        obtain ⟨col_56, k_53, a_58, cap_59, out_57, g_61, seen_62, l_54, hn, hl, hm, hst, h0, h_52, h_60, hb_19, h_63, hb_14, hs50, hs0, hs11, hs48, hs49, hs7, hs8, hs1000000⟩ := hI
        subst hn
        refine .ld (d := 50) (v := (.int .i64 (k_53 : Int))) hs50 ?_
        refine .ld (d := 0) (v := (.slice a0 p0_ways.length cap0)) hs0 ?_
        refine .ld (d := 11) (v := (.int .i64 i_36)) hs11 ?_
        refine .ld (d := 48) (v := (.slice a_50 e_46.length cap_51)) hs48 ?_
        refine .ld (d := 49) (v := (.int .i64 (e_46.length : Int))) hs49 ?_
        refine .ld (d := 7) (v := (.pointer (some ⟨g_15, 0, none⟩))) hs7 ?_
        refine .ld (d := 8) (v := (.func (.func 47) #[] #[(.pointer (some ⟨g_6, 0, none⟩)), (.pointer (some ⟨g_15, 0, none⟩))])) hs8 ?_
        refine .ld (d := 1000000) (v := (enc [])) hs1000000 ?_
        clear hs50 hs0 hs11 hs48 hs49 hs7 hs8 hs1000000
        cases l_54 with
        | nil =>
          have hk : ¬ ((k_53 : Int) < (e_46.length : Int)) := by have := List.drop_eq_nil_iff.1 hl; omega
          have hkb := decide_eq_false hk
          rw [m_dag_reach_L3.eq_1] at hm
          refine wseq ?_
          refine wregion ?_
          refine lv (v := (.bool (decide ((k_53 : Int) < (e_46.length : Int))))) rfl rfl (r_lss (k_53 : Int) (e_46.length : Int) rfl rfl) ?_
          refine lnil ?_
          refine wseq ?_
          refine wcondF (congrArg Value.bool hkb) ?_
          refine wexit (inB_hit ?_)
          refine wregion ?_
          refine lv (v := (.int .i64 i_36)) rfl rfl (r_move rfl) ?_
          refine lv (v := (.int .i64 (IntKind.i64.wrap (i_36 + 1)))) rfl rfl (r_add i_36 1 rfl rfl) ?_
          refine lv (v := (.int .i64 (IntKind.i64.wrap (i_36 + 1)))) rfl rfl (r_assign rfl) ?_
          refine lnil ?_
          exact ⟨n_33, by omega, ⟨col_56, (IntKind.i64.wrap (i_36 + 1)), a_58, cap_59, out_57, g_61, seen_62, n_33, rfl, hm, hst, h0, h_60, hb_19, h_63, hb_14, rfl, rfl, rfl, rfl, rfl⟩⟩
        | cons x_64 l_65 =>
          obtain ⟨hat, hl2, hlt⟩ := drop_get hl
          have hk : (k_53 : Int) < (e_46.length : Int) := by omega
          have hkb := decide_eq_true hk
          rw [m_dag_reach_L3.eq_2] at hm
          refine wseq ?_
          refine wregion ?_
          refine lv (v := (.bool (decide ((k_53 : Int) < (e_46.length : Int))))) rfl rfl (r_lss (k_53 : Int) (e_46.length : Int) rfl rfl) ?_
          refine lnil ?_
          refine wseq ?_
          refine wcondT (congrArg Value.bool hkb) ?_
          refine wskip ?_
          refine wseq ?_
          refine wblock ?_
          refine wseq ?_
          refine wregion ?_
          refine lv (v := (sptr a_50 (Int.toNat (k_53 : Int) * 1))) rfl rfl (r_idx Try.underlying31 Try.sizeOf3 rfl rfl (at?_some hat).1 (at?_some hat).2.1 (h_52.addr hat)) ?_
          refine lv (v := (.int .i64 x_64)) rfl rfl (r_ld Try.isAgg3 rfl (h_52.atInt hat)) ?_
          refine lv (v := (.int .i64 x_64)) rfl rfl (r_assign rfl) ?_
          refine lnil ?_
          refine wregion ?_
          refine lv (v := (.func (.func 47) #[] #[(.pointer (some ⟨g_6, 0, none⟩)), (.pointer (some ⟨g_15, 0, none⟩))])) rfl rfl (r_move rfl) ?_
          refine lv (v := (.int .i64 x_64)) rfl rfl (r_move rfl) ?_
          obtain ⟨r_66, hr_67, hm⟩ := bind_some hm
          refine lc rfl rfl (r_callv1 Try.call47 rfl rfl) (c_dag_reach_1 col_56 _ 2 1 3 4 rfl x_64 g_6 seen_62 g_61 g_15 out_57 a_58 cap_59 h_63 hb_14 h_60 hb_19 r_66 hr_67) ?_
          rintro _ w_75 ⟨col_77, og_68, oa_71, oc_72, rfl, hg_76, oh_69, ohb_70, oh_73, ohb_74⟩
          refine ⟨_, rfl, ?_⟩
          replace h0 := h0.kpp hg_76 rfl
          replace h_52 := h_52.kpp hg_76 rfl
          replace hst := hst.kpp hg_76 rfl rfl
          clear h_60
          clear h_63
          clear hb_14
          clear hb_19
          refine lnil ?_
          refine wregion ?_
          refine lv (v := (.int .i64 (IntKind.i64.wrap ((k_53 : Int) + 1)))) rfl rfl (r_add (k_53 : Int) 1 rfl rfl) ?_
          refine lv (v := (.int .i64 (IntKind.i64.wrap ((k_53 : Int) + 1)))) rfl rfl (r_move rfl) ?_
          refine lnil ?_
          exact ⟨l_65.length, by simp, ⟨col_77, (k_53 + 1), oa_71, oc_72, r_66.2, og_68, r_66.1, l_65, rfl, hl2, hm, hst, h0, h_52, oh_73, ohb_74, oh_69, ohb_70, (congrArg (Value.int .i64) (wrap_succ (Nat.lt_of_lt_of_le hlt h_52.1.1))), rfl, rfl, rfl, rfl, rfl, rfl, rfl⟩⟩
      · rw [if_neg (by rw [hb]; decide)] at hm
        clear hb
        refine wexit (inB_hit ?_)
        refine wseq ?_
        refine wregion ?_
        refine lv (v := (.slice a_38 out_37.length cap_39)) rfl rfl (r_ld Try.isAgg31 rfl hb_19.at1) ?_
        obtain ⟨r_78, hr_79, hm⟩ := bind_some hm
        refine lc rfl rfl (r_call1 Try.call48 rfl) (c_slices_Sort_int_int col_35 _ 4 rfl a_38 cap_39 out_37 h_40 r_78 hr_79) ?_
        rintro _ w_82 ⟨col_84, rfl, hg_83, oh_80, ohl_81⟩
        refine ⟨_, rfl, ?_⟩
        replace hb_19 := hb_19.kpp hg_83 rfl
        replace hst := hst.kpp hg_83 rfl rfl
        clear h_40
        refine .ld (d := 58) (v := (.slice a_38 r_78.length cap_39)) (congrArg (fun n => Value.slice a_38 n cap_39) (show out_37.length = r_78.length from ohl_81.symm)) ?_
        replace hb_19 : Box 31 3 col_84 w_82 g_15 #[(.slice a_38 r_78.length cap_39)] := by rw [← (show out_37.length = r_78.length from ohl_81.symm)]; exact hb_19
        refine lnil ?_
        refine wseq ?_
        refine wregion ?_
        refine lv (v := (.slice a_38 r_78.length cap_39)) rfl rfl (r_ld Try.isAgg31 rfl hb_19.at1) ?_
        refine lv (v := (.slice a_38 r_78.length cap_39)) rfl rfl (r_assign rfl) ?_
        refine lv (v := (.int .i64 0)) rfl rfl (r_assign rfl) ?_
        refine lnil ?_
        refine wret ?_
        cases hm
        exact ⟨rfl, colF w0.heap.size col col_84 (fun n => bif Nat.beq n 4 then c1 else 0), a_38, cap_39, rfl, hst.fin (fun n => bif Nat.beq n 4 then c1 else 0), hst.finOwn (g := (fun n => bif Nat.beq n 4 then c1 else 0)) rfl oh_80 (by decide) (by decide) rfl⟩
  | cons x_31 l_32 =>
    obtain ⟨hat, hl2, hlt⟩ := drop_get hl
    have hk : (k_20 : Int) < (p1_points.length : Int) := by omega
    have hkb := decide_eq_true hk
    rw [m_dag_reach_L1.eq_2] at hm
    refine wseq ?_
    refine wregion ?_
    refine lv (v := (.bool (decide ((k_20 : Int) < (p1_points.length : Int))))) rfl rfl (r_lss (k_20 : Int) (p1_points.length : Int) rfl rfl) ?_
    refine lnil ?_
    refine wseq ?_
    refine wcondT (congrArg Value.bool hkb) ?_
    refine wskip ?_
    refine wseq ?_
    refine wblock ?_
    refine wseq ?_
    refine wregion ?_
    refine lv (v := (sptr a1 (Int.toNat (k_20 : Int) * 1))) rfl rfl (r_idx Try.underlying31 Try.sizeOf3 rfl rfl (at?_some hat).1 (at?_some hat).2.1 (h1.addr hat)) ?_
    refine lv (v := (.int .i64 x_31)) rfl rfl (r_ld Try.isAgg3 rfl (h1.atInt hat)) ?_
    refine lv (v := (.int .i64 x_31)) rfl rfl (r_assign rfl) ?_
    refine lnil ?_
    refine wseq ?_
    refine wseq ?_
    refine Wp.cut (fun f w_86 => ∃ (col_87 : Col) (v_88 : Bool), m_dag_reach_J1 out_24 seen_29 (m_dag_reach_L1 N p0_ways l_32) x_31 v_88 = some r ∧ St w0 (col0 col) col_87 w_86 ∧ Sl (Rep.slice (Rep.int .i64)) col_87 w_86 a0 cap0 p0_ways ∧ Sl (Rep.int .i64) col_87 w_86 a1 cap1 p1_points ∧ Own (Rep.int .i64) 3 4 col_87 w_86 a_25 cap_26 out_24 ∧ Box 31 3 col_87 w_86 g_15 #[(.slice a_25 out_24.length cap_26)] ∧ MapO (Value.int .i64) (Value.int .i64) 1 col_87 w_86 g_28 seen_29 ∧ Box 51 2 col_87 w_86 g_6 #[(.map (some g_28))] ∧ f 0 = (.slice a0 p0_ways.length cap0) ∧ f 10 = (.int .i64 x_31) ∧ f 18 = (.slice a1 p1_points.length cap1) ∧ f 19 = (.int .i64 (p1_points.length : Int)) ∧ f 20 = (.int .i64 (k_20 : Int)) ∧ f 31 = (.bool v_88) ∧ f 7 = (.pointer (some ⟨g_15, 0, none⟩)) ∧ f 8 = (.func (.func 47) #[] #[(.pointer (some ⟨g_6, 0, none⟩)), (.pointer (some ⟨g_15, 0, none⟩))]) ∧ f 1000000 = (enc [])) ?_ ?_
    · intro f w_86 hJ
      obtain ⟨col_87, v_88, hm, hst, h0, h1, h_27, hb_19, h_30, hb_14, hs0, hs10, hs18, hs19, hs20, hs31, hs7, hs8, hs1000000⟩ := hJ
      rw [m_dag_reach_J1.eq_1] at hm
      refine .ld (d := 0) (v := (.slice a0 p0_ways.length cap0)) hs0 ?_
      refine .ld (d := 10) (v := (.int .i64 x_31)) hs10 ?_
      refine .ld (d := 18) (v := (.slice a1 p1_points.length cap1)) hs18 ?_
      refine .ld (d := 19) (v := (.int .i64 (p1_points.length : Int))) hs19 ?_
      refine .ld (d := 20) (v := (.int .i64 (k_20 : Int))) hs20 ?_
      refine .ld (d := 31) (v := (.bool v_88)) hs31 ?_
      refine .ld (d := 7) (v := (.pointer (some ⟨g_15, 0, none⟩))) hs7 ?_
      refine .ld (d := 8) (v := (.func (.func 47) #[] #[(.pointer (some ⟨g_6, 0, none⟩)), (.pointer (some ⟨g_15, 0, none⟩))])) hs8 ?_
      refine .ld (d := 1000000) (v := (enc [])) hs1000000 ?_
      clear hs0 hs10 hs18 hs19 hs20 hs31 hs7 hs8 hs1000000
      refine wcond (v_88) rfl (fun hb => ?_) (fun hb => ?_)
      · rw [if_pos hb] at hm
        clear hb
        refine wseq ?_
        refine wregion ?_
        refine lv (v := (.slice none (([] : List Int).length) 0)) rfl rfl (r_assign rfl) ?_
        refine lv (v := (.int .i64 3)) rfl rfl (r_assign rfl) ?_
        refine lnil ?_
        refine wret ?_
        cases hm
        exact ⟨rfl, colF w0.heap.size col col_87 (fun n => 0), none, 0, rfl, hst.fin (fun n => 0), Own.nil⟩
      · rw [if_neg (by rw [hb]; decide)] at hm
        clear hb
        refine wskip ?_
        refine wregion ?_
        refine lv (v := (.func (.func 47) #[] #[(.pointer (some ⟨g_6, 0, none⟩)), (.pointer (some ⟨g_15, 0, none⟩))])) rfl rfl (r_move rfl) ?_
        refine lv (v := (.int .i64 x_31)) rfl rfl (r_move rfl) ?_
        obtain ⟨r_89, hr_90, hm⟩ := bind_some hm
        refine lc rfl rfl (r_callv1 Try.call47 rfl rfl) (c_dag_reach_1 col_87 _ 2 1 3 4 rfl x_31 g_6 seen_29 g_28 g_15 out_24 a_25 cap_26 h_30 hb_14 h_27 hb_19 r_89 hr_90) ?_
        rintro _ w_98 ⟨col_100, og_91, oa_94, oc_95, rfl, hg_99, oh_92, ohb_93, oh_96, ohb_97⟩
        refine ⟨_, rfl, ?_⟩
        replace h0 := h0.kpp hg_99 rfl
        replace h1 := h1.kpp hg_99 rfl
        replace hst := hst.kpp hg_99 rfl rfl
        clear h_27
        clear h_30
        clear hb_14
        clear hb_19
        refine lnil ?_
        refine wregion ?_
        refine lv (v := (.int .i64 (IntKind.i64.wrap ((k_20 : Int) + 1)))) rfl rfl (r_add (k_20 : Int) 1 rfl rfl) ?_
        refine lv (v := (.int .i64 (IntKind.i64.wrap ((k_20 : Int) + 1)))) rfl rfl (r_move rfl) ?_
        refine lnil ?_
        exact ⟨l_32.length, by simp, ⟨col_100, (k_20 + 1), oa_94, oc_95, r_89.2, og_91, r_89.1, l_32, rfl, hl2, hm, hst, h0, h1, oh_96, ohb_97, oh_92, ohb_93, (congrArg (Value.int .i64) (wrap_succ (Nat.lt_of_lt_of_le hlt h1.1.1))), rfl, rfl, rfl, rfl, rfl, rfl⟩⟩
    · refine wregion ?_
      refine lv (v := (.int .i64 x_31)) rfl rfl (r_move rfl) ?_
      refine lv (v := (.bool (decide (x_31 < 0)))) rfl rfl (r_lss x_31 0 rfl rfl) ?_
      refine lv (v := (.bool (decide (x_31 < 0)))) rfl rfl (r_move rfl) ?_
      by_cases hg_101 : (decide (x_31 < 0)) = true
      · rw [if_pos hg_101] at hm
        refine lp (b := decide (x_31 < 0)) 26 rfl rfl rfl rfl (by rw [hg_101]; rfl) ?_
        refine lp (b := decide (x_31 < 0)) 26 rfl rfl rfl rfl (by rw [hg_101]; rfl) ?_
        refine lp (b := decide (x_31 < 0)) 26 rfl rfl rfl rfl (by rw [hg_101]; rfl) ?_
        refine lp (b := decide (x_31 < 0)) 26 rfl rfl rfl rfl (by rw [hg_101]; rfl) ?_
        refine lv (v := (.bool true)) rfl rfl (r_pickT (congrArg Value.bool hg_101) rfl) ?_
        refine lnil ?_
        exact ⟨col_23, true, hm, hst, h0, h1, h_27, hb_19, h_30, hb_14, rfl, rfl, rfl, rfl, rfl, rfl, rfl, rfl, rfl⟩
      · rw [if_neg hg_101] at hm
        replace hg_101 := Bool.eq_false_iff.2 hg_101
        refine lg (b := decide (x_31 < 0)) 26 rfl rfl rfl (by rw [hg_101]; rfl) ?_
        refine lv (v := (.int .i64 x_31)) rfl rfl (r_move rfl) ?_
        refine lg (b := decide (x_31 < 0)) 26 rfl rfl rfl (by rw [hg_101]; rfl) ?_
        refine lv (v := (.slice a0 p0_ways.length cap0)) rfl rfl (r_move rfl) ?_
        refine lg (b := decide (x_31 < 0)) 26 rfl rfl rfl (by rw [hg_101]; rfl) ?_
        refine lv (v := (.int .i64 (p0_ways.length : Int))) rfl rfl (r_len Try.underlying22 rfl) ?_
        refine lg (b := decide (x_31 < 0)) 26 rfl rfl rfl (by rw [hg_101]; rfl) ?_
        refine lv (v := (.bool (decide ((p0_ways.length : Int) ≤ x_31)))) rfl rfl (r_geq x_31 (p0_ways.length : Int) rfl rfl) ?_
        refine lv (v := (.bool (decide ((p0_ways.length : Int) ≤ x_31)))) rfl rfl (r_pickF (congrArg Value.bool hg_101) rfl) ?_
        refine lnil ?_
        exact ⟨col_23, (decide ((p0_ways.length : Int) ≤ x_31)), hm, hst, h0, h1, h_27, hb_19, h_30, hb_14, rfl, rfl, rfl, rfl, rfl, rfl, rfl, rfl, rfl⟩




def m_dag_Above (N : Nat) (p0_parents : (List (List Int))) (p1_points : (List Int)) : Option ((List Int) × Int) :=
  (m_dag_Check N p0_parents).bind fun r_1 => if (!decide (r_1 = 0)) = true then (some (([] : List Int), r_1)) else ((m_dag_reach N p0_parents p1_points).bind fun r_5 => some (r_5.1, r_5.2))

set_option maxRecDepth 100000 in
theorem c_dag_Above (N : Nat) (c1 : Nat) (col : Col) (w0 : World) (a0 : Option Addr) (cap0 : Nat) (p0_parents : (List (List Int))) (a1 : Option Addr) (cap1 : Nat) (p1_points : (List Int)) (h0 : Sl (Rep.slice (Rep.int .i64)) col w0 a0 cap0 p0_parents) (h1 : Sl (Rep.int .i64) col w0 a1 cap1 p1_points) (r : ((List Int) × Int)) (hm : m_dag_Above N p0_parents p1_points = some r) :
    Calls Try.prog 24 #[(.slice a0 p0_parents.length cap0), (.slice a1 p1_points.length cap1)] w0 (fun e w' => ∃ (col' : Col) (ra1 : Option Addr) (rc2 : Nat), e = .returned (.tuple #[(.slice ra1 r.1.length rc2), (.int .i64 r.2)]) ∧ Grow col w0 col' w' ∧ Own (Rep.int .i64) 3 c1 col' w' ra1 rc2 r.1) := by
  refine calls_of2 4 5 (m := 17) (args := [(.slice a0 p0_parents.length cap0), (.slice a1 p1_points.length cap1)]) Try.func24 rfl rfl rfl rfl rfl ?_
  rw [m_dag_Above.eq_1] at hm
  have hst := St.start col w0
  replace h0 := h0.keep (Stay.start col w0)
  replace h1 := h1.keep (Stay.start col w0)
  refine wseq ?_
  refine wregion ?_
  refine lv (v := (.slice none (([] : List Int).length) 0)) rfl rfl (r_assign rfl) ?_
  refine lv (v := (.int .i64 0)) rfl rfl (r_assign rfl) ?_
  refine lnil ?_
  refine wseq ?_
  refine wseq ?_
  refine wregion ?_
  refine lv (v := (.slice a0 p0_parents.length cap0)) rfl rfl (r_move rfl) ?_
  obtain ⟨r_1, hr_2, hm⟩ := bind_some hm
  refine lc rfl rfl (r_call1 Try.call18 rfl) (c_dag_Check N (col0 col) _ a0 cap0 p0_parents h0 r_1 hr_2) ?_
  rintro _ w_3 ⟨rfl, hg_4⟩
  refine ⟨_, rfl, ?_⟩
  replace hg_4 : Grow (col0 col) w0 (col0 col) w_3 := .of_below hg_4
  replace h0 := h0.gr hg_4
  replace h1 := h1.gr hg_4
  replace hst := hst.grow hg_4
  refine lv (v := (.int .i64 r_1)) rfl rfl (r_assign rfl) ?_
  refine lnil ?_
  refine wseq ?_
  refine wregion ?_
  refine lv (v := (.int .i64 r_1)) rfl rfl (r_move rfl) ?_
  refine lv (v := (.bool (!decide (r_1 = 0)))) rfl rfl (r_neq r_1 0 rfl rfl) ?_
  refine lnil ?_
  refine wcond (!decide (r_1 = 0)) rfl (fun hb => ?_) (fun hb => ?_)
  · rw [if_pos hb] at hm
    clear hb
    refine wseq ?_
    refine wregion ?_
    refine lv (v := (.int .i64 r_1)) rfl rfl (r_move rfl) ?_
    refine lv (v := (.slice none (([] : List Int).length) 0)) rfl rfl (r_assign rfl) ?_
    refine lv (v := (.int .i64 r_1)) rfl rfl (r_assign rfl) ?_
    refine lnil ?_
    refine wret ?_
    cases hm
    exact ⟨rfl, colF w0.heap.size col (col0 col) (fun n => 0), none, 0, rfl, hst.fin (fun n => 0), Own.nil⟩
  · rw [if_neg (by rw [hb]; decide)] at hm
    clear hb
    refine wskip ?_
    refine wseq ?_
    refine wregion ?_
    refine lv (v := (.slice a0 p0_parents.length cap0)) rfl rfl (r_move rfl) ?_
    refine lv (v := (.slice a1 p1_points.length cap1)) rfl rfl (r_move rfl) ?_
    obtain ⟨r_5, hr_6, hm⟩ := bind_some hm
    refine lc rfl rfl (r_call2 Try.call38 rfl rfl) (c_dag_reach N 1 (col0 col) _ a0 cap0 p0_parents a1 cap1 p1_points h0 h1 r_5 hr_6) ?_
    rintro _ w_10 ⟨col_12, ra_7, rc_8, rfl, hg_11, rh_9⟩
    refine ⟨_, rfl, ?_⟩
    replace h0 := h0.gr hg_11
    replace h1 := h1.gr hg_11
    replace hst := hst.grow hg_11
    refine lv (v := (.slice ra_7 r_5.1.length rc_8)) rfl rfl (r_extract rfl rfl) ?_
    refine lv (v := (.int .i64 r_5.2)) rfl rfl (r_extract rfl rfl) ?_
    refine lv (v := (.slice ra_7 r_5.1.length rc_8)) rfl rfl (r_assign rfl) ?_
    refine lv (v := (.int .i64 r_5.2)) rfl rfl (r_assign rfl) ?_
    refine lnil ?_
    refine wret ?_
    cases hm
    exact ⟨rfl, colF w0.heap.size col col_12 (fun n => bif Nat.beq n 1 then c1 else 0), ra_7, rc_8, rfl, hst.fin (fun n => bif Nat.beq n 1 then c1 else 0), hst.finOwn (g := (fun n => bif Nat.beq n 1 then c1 else 0)) rfl rh_9 (by decide) (by decide) rfl⟩



theorem el3_30 : ElemOk Try.prog 3 1 8 := ⟨Try.t3, _, rfl, rfl, rfl, rfl, rfl⟩

def m_dag_ring_J2 (kk_L2 : ((List Int) → (List (Int × Int)) → Option (List Int))) (next_61 : List Int) (far_66 : List (Int × Int)) : Option (List Int) :=
  kk_L2 next_61 far_66

def m_dag_ring_J3 (e_33 : Int) (next_50 : List Int) (far_55 : List (Int × Int)) (kk_L2 : ((List Int) → (List (Int × Int)) → Option (List Int))) (x_57 : Int) (v_71 : Bool) : Option (List Int) :=
  if v_71 = true then ((some (mput far_55 x_57 (IntKind.i64.wrap (((mget far_55 e_33).getD 0) + 1)))).bind fun es_76 => chk ((next_50.length + [x_57].length) * 8 ≤ 140737488355328 ∧ next_50.length + [x_57].length ≤ maxLen) (m_dag_ring_J2 kk_L2 (next_50 ++ [x_57]) es_76)) else (m_dag_ring_J2 kk_L2 next_50 far_55)

def m_dag_ring_L2 (p2_s : Int) (kk_L1 : ((List Int) → (List (Int × Int)) → Option (List Int))) (e_33 : Int) : List Int → (List Int) → (List (Int × Int)) → Option (List Int)
  | [], next_50, far_55 => kk_L1 next_50 far_55
  | x_57 :: l_58, next_50, far_55 => if (!((mget far_55 x_57).isSome)) = true then (m_dag_ring_J3 e_33 next_50 far_55 (m_dag_ring_L2 p2_s kk_L1 e_33 l_58) x_57 (decide (p2_s < x_57))) else (m_dag_ring_J3 e_33 next_50 far_55 (m_dag_ring_L2 p2_s kk_L1 e_33 l_58) x_57 false)

def m_dag_ring_J4 (kk_L5 : (Int → Option (List Int))) (least_146 : Int) : Option (List Int) :=
  kk_L5 least_146

def m_dag_ring_J5 (least_129 : Int) (kk_L5 : (Int → Option (List Int))) (x_130 : Int) (v_152 : Bool) : Option (List Int) :=
  if v_152 = true then (m_dag_ring_J4 kk_L5 x_130) else (m_dag_ring_J4 kk_L5 least_129)

def m_dag_ring_L5 (far_25 : List (Int × Int)) (best_102 : Int) (out_113 : List Int) (kk_L4 : ((List Int) → Int → Option (List Int))) : List Int → Int → Option (List Int)
  | [], least_129 => chk ((out_113.length + [least_129].length) * 8 ≤ 140737488355328 ∧ out_113.length + [least_129].length ≤ maxLen) (kk_L4 (out_113 ++ [least_129]) least_129)
  | x_130 :: l_131, least_129 => if ((mget far_25 x_130).isSome) = true then (if (decide (((mget far_25 x_130).getD 0) = (IntKind.i64.wrap (best_102 - (out_113.length : Int))))) = true then (if (decide (least_129 < 0)) = true then (m_dag_ring_J5 least_129 (m_dag_ring_L5 far_25 best_102 out_113 kk_L4 l_131) x_130 true) else (m_dag_ring_J5 least_129 (m_dag_ring_L5 far_25 best_102 out_113 kk_L4 l_131) x_130 (decide (x_130 < least_129)))) else (m_dag_ring_J5 least_129 (m_dag_ring_L5 far_25 best_102 out_113 kk_L4 l_131) x_130 false)) else (m_dag_ring_J5 least_129 (m_dag_ring_L5 far_25 best_102 out_113 kk_L4 l_131) x_130 false)

def m_dag_ring_L4 (N : Nat) (p0_parents : (List (List Int))) (far_25 : List (Int × Int)) (best_102 : Int) : Nat → (List Int) → Int → Option (List Int)
  | 0, _, _ => none
  | n_110 + 1, out_113, v_117 => if (decide ((out_113.length : Int) < best_102)) = true then ((at? p0_parents v_117).bind fun e_118 => m_dag_ring_L5 far_25 best_102 out_113 (m_dag_ring_L4 N p0_parents far_25 best_102 n_110) e_118 (-1)) else (chk (out_113 ≠ []) (some out_113))

def m_dag_ring_J6 (kk_L3 : (Int → Option (List Int))) (best_158 : Int) : Option (List Int) :=
  kk_L3 best_158

def m_dag_ring_L3 (N : Nat) (p0_parents : (List (List Int))) (p2_s : Int) (p3_most : Int) (far_25 : List (Int × Int)) : List Int → Int → Option (List Int)
  | [], best_102 => if (decide (best_102 = p3_most)) = true then (some ([] : List Int)) else (m_dag_ring_L4 N p0_parents far_25 best_102 N [p2_s] p2_s)
  | x_103 :: l_104, best_102 => if ((mget far_25 x_103).isSome) = true then (m_dag_ring_J6 (m_dag_ring_L3 N p0_parents p2_s p3_most far_25 l_104) (if (IntKind.i64.wrap (((mget far_25 x_103).getD 0) + 1)) < best_102 then (IntKind.i64.wrap (((mget far_25 x_103).getD 0) + 1)) else best_102)) else (m_dag_ring_J6 (m_dag_ring_L3 N p0_parents p2_s p3_most far_25 l_104) best_102)

def m_dag_ring_J1 (N : Nat) (p0_parents : (List (List Int))) (p1_down : (List (List Int))) (p2_s : Int) (p3_most : Int) (next_20 : List Int) (far_25 : List (Int × Int)) (kk_L1 : ((List Int) → (List (Int × Int)) → Option (List Int))) (v_32 : Bool) : Option (List Int) :=
  if v_32 = true then ((at? next_20 0).bind fun e_33 => chk ((0 : Int) ≤ 1 ∧ 1 ≤ (next_20.length : Int)) ((at? p1_down e_33).bind fun e_39 => m_dag_ring_L2 p2_s kk_L1 e_33 e_39 (next_20.drop (Int.toNat 1)) far_25)) else ((at? p0_parents p2_s).bind fun e_91 => m_dag_ring_L3 N p0_parents p2_s p3_most far_25 e_91 p3_most)

def m_dag_ring_L1 (N : Nat) (p0_parents : (List (List Int))) (p1_down : (List (List Int))) (p2_s : Int) (p3_most : Int) : Nat → (List Int) → (List (Int × Int)) → Option (List Int)
  | 0, _, _ => none
  | n_17 + 1, next_20, far_25 => if (decide (0 < (next_20.length : Int))) = true then ((at? next_20 0).bind fun e_160 => m_dag_ring_J1 N p0_parents p1_down p2_s p3_most next_20 far_25 (m_dag_ring_L1 N p0_parents p1_down p2_s p3_most n_17) (decide (((mget far_25 e_160).getD 0) < (IntKind.i64.wrap (p3_most - 1))))) else (m_dag_ring_J1 N p0_parents p1_down p2_s p3_most next_20 far_25 (m_dag_ring_L1 N p0_parents p1_down p2_s p3_most n_17) false)

def m_dag_ring (N : Nat) (p0_parents : (List (List Int))) (p1_down : (List (List Int))) (p2_s : Int) (p3_most : Int) : Option (List Int) :=
  (some (mput ([] : List (Int × Int)) p2_s 0)).bind fun es_10 => m_dag_ring_L1 N p0_parents p1_down p2_s p3_most N [p2_s] es_10

set_option maxRecDepth 100000 in
theorem c_dag_ring (N : Nat) (c1 : Nat) (col : Col) (w0 : World) (a0 : Option Addr) (cap0 : Nat) (p0_parents : (List (List Int))) (a1 : Option Addr) (cap1 : Nat) (p1_down : (List (List Int))) (p2_s : Int) (p3_most : Int) (h0 : Sl (Rep.slice (Rep.int .i64)) col w0 a0 cap0 p0_parents) (h1 : Sl (Rep.slice (Rep.int .i64)) col w0 a1 cap1 p1_down) (r : (List Int)) (hm : m_dag_ring N p0_parents p1_down p2_s p3_most = some r) :
    Calls Try.prog 30 #[(.slice a0 p0_parents.length cap0), (.slice a1 p1_down.length cap1), (.int .i64 p2_s), (.int .i64 p3_most)] w0 (fun e w' => ∃ (col' : Col) (ra1 : Option Addr) (rc2 : Nat), e = .returned ((.slice ra1 r.length rc2)) ∧ Grow col w0 col' w' ∧ Own (Rep.int .i64) 3 c1 col' w' ra1 rc2 r ∧ (r = [] → ra1 = none)) := by
  refine calls_of1 8 (m := 157) (args := [(.slice a0 p0_parents.length cap0), (.slice a1 p1_down.length cap1), (.int .i64 p2_s), (.int .i64 p3_most)]) Try.func30 rfl rfl rfl rfl rfl ?_
  rw [m_dag_ring.eq_1] at hm
  have hst := St.start col w0
  replace h0 := h0.keep (Stay.start col w0)
  replace h1 := h1.keep (Stay.start col w0)
  refine wseq ?_
  refine wregion ?_
  refine lv (v := (.slice none (([] : List Int).length) 0)) rfl rfl (r_assign rfl) ?_
  refine lnil ?_
  refine wseq ?_
  refine wregion ?_
  refine l_makeMap (col := (col0 col)) (fk := (Value.int .i64)) (fv := (Value.int .i64)) 1 rfl ?_
  intro g_1 w_2 col_3 hg_4 h_5
  replace h0 := h0.gr hg_4
  replace h1 := h1.gr hg_4
  replace hst := hst.grow hg_4
  refine lv (v := (.int .i64 p2_s)) rfl rfl (r_move rfl) ?_
  obtain ⟨es_10, hz_11, hm⟩ := bind_some hm
  have hz_11 : es_10 = mput ([] : List (Int × Int)) p2_s 0 := (Option.some.inj hz_11).symm
  refine l_mapUpdateI (k := p2_s) (v := 0) KeyD.int h_5 Try.underlying51 Try.underlying3 rfl rfl rfl ?_
  intro w_6 hk_7 hs_8 h_9
  rw [← hz_11] at h_9
  clear hz_11
  replace h0 := h0.kp hk_7 (by decide)
  replace h1 := h1.kp hk_7 (by decide)
  replace hst := hst.kp hk_7 hs_8 (by decide) (by decide)
  clear h_5
  refine lv (v := (.map (some g_1))) rfl rfl (r_move rfl) ?_
  refine lv (v := (.map (some g_1))) rfl rfl (r_assign rfl) ?_
  refine lnil ?_
  refine wseq ?_
  refine wseq ?_
  refine wregion ?_
  refine lv (v := (.int .i64 p2_s)) rfl rfl (r_move rfl) ?_
  refine l_lit (col := col_3) (r := (Rep.int .i64)) (xs := [p2_s]) [(.int .i64 p2_s)] 2 rfl Try.underlying31 el3_30 rfl rfl rfl rfl rfl rfl (by intro v hv; simp only [List.mem_cons, List.not_mem_nil, or_false] at hv; subst hv; rfl) (RowsH.ofF (Rows.consF (r := (Rep.int .i64)) (x := p2_s) (cs := [(.int .i64 p2_s)]) (rd_int .i64 p2_s) Rows.nil0)) ?_
  intro a_12 w_13 col_14 hg_15 h_16
  replace h0 := h0.gr hg_15
  replace h1 := h1.gr hg_15
  replace h_9 := h_9.gr hg_15
  replace hst := hst.grow hg_15
  refine lv (v := (.slice a_12 ([p2_s].length) 1)) rfl rfl (r_assign rfl) ?_
  refine lnil ?_
  refine wblock ?_
  refine wloop (fun n f w_18 => ∃ (col_19 : Col) (a_21 : Option Addr) (cap_22 : Nat) (next_20 : List Int) (g_24 : Nat) (far_25 : List (Int × Int)) (n_17 : Nat), n_17 = n ∧ m_dag_ring_L1 N p0_parents p1_down p2_s p3_most n_17 next_20 far_25 = some r ∧ St w0 (col0 col) col_19 w_18 ∧ Sl (Rep.slice (Rep.int .i64)) col_19 w_18 a0 cap0 p0_parents ∧ Sl (Rep.slice (Rep.int .i64)) col_19 w_18 a1 cap1 p1_down ∧ Que (Rep.int .i64) 3 2 col_19 w_18 a_21 cap_22 next_20 ∧ MapO (Value.int .i64) (Value.int .i64) 1 col_19 w_18 g_24 far_25 ∧ f 0 = (.slice a0 p0_parents.length cap0) ∧ f 1 = (.slice a1 p1_down.length cap1) ∧ f 10 = (.slice a_21 next_20.length cap_22) ∧ f 2 = (.int .i64 p2_s) ∧ f 3 = (.int .i64 p3_most) ∧ f 9 = (.map (some g_24)) ∧ f 1000000 = (enc [])) N ⟨col_14, a_12, 1, [p2_s], g_1, es_10, N, rfl, hm, hst, h0, h1, (h_16.que (NB.int (k := .i64))), h_9, rfl, rfl, rfl, rfl, rfl, rfl, rfl⟩ ?_
  clear hm; intro n f w_18 hI
  obtain ⟨col_19, a_21, cap_22, next_20, g_24, far_25, n_17, hn, hm, hst, h0, h1, h_23, h_26, hs0, hs1, hs10, hs2, hs3, hs9, hs1000000⟩ := hI
  subst hn
  refine .ld (d := 0) (v := (.slice a0 p0_parents.length cap0)) hs0 ?_
  refine .ld (d := 1) (v := (.slice a1 p1_down.length cap1)) hs1 ?_
  refine .ld (d := 10) (v := (.slice a_21 next_20.length cap_22)) hs10 ?_
  refine .ld (d := 2) (v := (.int .i64 p2_s)) hs2 ?_
  refine .ld (d := 3) (v := (.int .i64 p3_most)) hs3 ?_
  refine .ld (d := 9) (v := (.map (some g_24))) hs9 ?_
  refine .ld (d := 1000000) (v := (enc [])) hs1000000 ?_
  clear hs0 hs1 hs10 hs2 hs3 hs9 hs1000000
  cases n_17 with
  | zero => rw [m_dag_ring_L1.eq_1] at hm; cases hm
  | succ n_17 =>
    rw [m_dag_ring_L1.eq_2] at hm
    refine wseq ?_
    refine wseq ?_
    refine Wp.cut (fun f w_30 => ∃ (col_31 : Col) (v_32 : Bool), m_dag_ring_J1 N p0_parents p1_down p2_s p3_most next_20 far_25 (m_dag_ring_L1 N p0_parents p1_down p2_s p3_most n_17) v_32 = some r ∧ St w0 (col0 col) col_31 w_30 ∧ Sl (Rep.slice (Rep.int .i64)) col_31 w_30 a0 cap0 p0_parents ∧ Sl (Rep.slice (Rep.int .i64)) col_31 w_30 a1 cap1 p1_down ∧ Que (Rep.int .i64) 3 2 col_31 w_30 a_21 cap_22 next_20 ∧ MapO (Value.int .i64) (Value.int .i64) 1 col_31 w_30 g_24 far_25 ∧ f 0 = (.slice a0 p0_parents.length cap0) ∧ f 1 = (.slice a1 p1_down.length cap1) ∧ f 10 = (.slice a_21 next_20.length cap_22) ∧ f 2 = (.int .i64 p2_s) ∧ f 3 = (.int .i64 p3_most) ∧ f 45 = (.bool v_32) ∧ f 9 = (.map (some g_24)) ∧ f 1000000 = (enc [])) ?_ ?_
    · intro f w_30 hJ
      obtain ⟨col_31, v_32, hm, hst, h0, h1, h_23, h_26, hs0, hs1, hs10, hs2, hs3, hs45, hs9, hs1000000⟩ := hJ
      rw [m_dag_ring_J1.eq_1] at hm
      refine .ld (d := 0) (v := (.slice a0 p0_parents.length cap0)) hs0 ?_
      refine .ld (d := 1) (v := (.slice a1 p1_down.length cap1)) hs1 ?_
      refine .ld (d := 10) (v := (.slice a_21 next_20.length cap_22)) hs10 ?_
      refine .ld (d := 2) (v := (.int .i64 p2_s)) hs2 ?_
      refine .ld (d := 3) (v := (.int .i64 p3_most)) hs3 ?_
      refine .ld (d := 45) (v := (.bool v_32)) hs45 ?_
      refine .ld (d := 9) (v := (.map (some g_24))) hs9 ?_
      refine .ld (d := 1000000) (v := (enc [])) hs1000000 ?_
      clear hs0 hs1 hs10 hs2 hs3 hs45 hs9 hs1000000
      refine wcond (v_32) rfl (fun hb => ?_) (fun hb => ?_)
      · rw [if_pos hb] at hm
        clear hb
        refine wskip ?_
        refine wblock ?_
        refine wseq ?_
        refine wregion ?_
        refine lv (v := (.slice a_21 next_20.length cap_22)) rfl rfl (r_move rfl) ?_
        obtain ⟨e_33, hj_34, hm⟩ := bind_some hm
        refine lv (v := (sptr a_21 (Int.toNat 0 * 1))) rfl rfl (r_idx Try.underlying31 Try.sizeOf3 rfl rfl (at?_some hj_34).1 (at?_some hj_34).2.1 (h_23.addr hj_34)) ?_
        refine lv (v := (.int .i64 e_33)) rfl rfl (r_ld Try.isAgg3 rfl (h_23.atInt hj_34)) ?_
        refine lv (v := (.int .i64 e_33)) rfl rfl (r_assign rfl) ?_
        refine lnil ?_
        refine wseq ?_
        refine wregion ?_
        refine lv (v := (.slice a_21 next_20.length cap_22)) rfl rfl (r_move rfl) ?_
        obtain ⟨hb_35, hm⟩ := chk_some hm
        have h_38 := h_23.drop (sz := 1) rfl (Int.toNat 1)
        clear h_23
        refine lv (v := .slice (if cap_22 = (Int.toNat 1) then a_21 else a_21.map (·.add ((Int.toNat 1) * 1))) (next_20.length - (Int.toNat 1)) (cap_22 - (Int.toNat 1))) rfl rfl (r_sliceL Try.underlying31 Try.sizeOf3 rfl rfl hb_35.1 hb_35.2) ?_
        generalize (if cap_22 = (Int.toNat 1) then a_21 else a_21.map (·.add ((Int.toNat 1) * 1))) = a_36 at *
        refine .ld (d := 50) (v := (.slice a_36 ((next_20.drop (Int.toNat 1)).length) (cap_22 - (Int.toNat 1)))) (congrArg (fun n => Value.slice a_36 n (cap_22 - (Int.toNat 1))) (List.length_drop (i := (Int.toNat 1)) (l := next_20)).symm) ?_
        refine lv (v := (.slice a_36 ((next_20.drop (Int.toNat 1)).length) (cap_22 - (Int.toNat 1)))) rfl rfl (r_assign rfl) ?_
        refine lnil ?_
        refine wseq ?_
        refine wregion ?_
        refine lv (v := (.slice a1 p1_down.length cap1)) rfl rfl (r_move rfl) ?_
        refine lv (v := (.int .i64 e_33)) rfl rfl (r_move rfl) ?_
        obtain ⟨e_39, hj_40, hm⟩ := bind_some hm
        refine lv (v := (sptr a1 (Int.toNat e_33 * 1))) rfl rfl (r_idx Try.underlying22 Try.sizeOf31 rfl rfl (at?_some hj_40).1 (at?_some hj_40).2.1 (h1.addr hj_40)) ?_
        obtain ⟨_, hr_41, hA_42⟩ := h1.atN hj_40
        obtain ⟨⟨a_43, cap_44, rfl, h_45⟩, _⟩ := hr_41
        refine lv (v := (.slice a_43 e_39.length cap_44)) rfl rfl (r_ld Try.isAgg31 rfl hA_42.one) ?_
        refine lv (v := (.int .i64 (e_39.length : Int))) rfl rfl (r_len Try.underlying31 rfl) ?_
        refine lv (v := (.int .i64 0)) rfl rfl (r_move rfl) ?_
        refine lnil ?_
        refine wblock ?_
        refine wloop (fun n f w_48 => ∃ (col_49 : Col) (a_51 : Option Addr) (cap_52 : Nat) (next_50 : List Int) (k_46 : Nat) (g_54 : Nat) (far_55 : List (Int × Int)) (l_47 : List Int), n = l_47.length ∧ e_39.drop k_46 = l_47 ∧ m_dag_ring_L2 p2_s (m_dag_ring_L1 N p0_parents p1_down p2_s p3_most n_17) e_33 l_47 next_50 far_55 = some r ∧ St w0 (col0 col) col_49 w_48 ∧ Sl (Rep.slice (Rep.int .i64)) col_49 w_48 a0 cap0 p0_parents ∧ Sl (Rep.slice (Rep.int .i64)) col_49 w_48 a1 cap1 p1_down ∧ Que (Rep.int .i64) 3 2 col_49 w_48 a_51 cap_52 next_50 ∧ Sl (Rep.int .i64) col_49 w_48 a_43 cap_44 e_39 ∧ MapO (Value.int .i64) (Value.int .i64) 1 col_49 w_48 g_54 far_55 ∧ f 56 = (.int .i64 (k_46 : Int)) ∧ f 0 = (.slice a0 p0_parents.length cap0) ∧ f 1 = (.slice a1 p1_down.length cap1) ∧ f 10 = (.slice a_51 next_50.length cap_52) ∧ f 11 = (.int .i64 e_33) ∧ f 2 = (.int .i64 p2_s) ∧ f 3 = (.int .i64 p3_most) ∧ f 54 = (.slice a_43 e_39.length cap_44) ∧ f 55 = (.int .i64 (e_39.length : Int)) ∧ f 9 = (.map (some g_54)) ∧ f 1000000 = (enc [])) e_39.length ⟨col_31, a_36, (cap_22 - (Int.toNat 1)), (next_20.drop (Int.toNat 1)), 0, g_24, far_25, e_39, rfl, rfl, hm, hst, h0, h1, h_38, h_45, h_26, rfl, rfl, rfl, rfl, rfl, rfl, rfl, rfl, rfl, rfl, rfl⟩ ?_
        clear hm; intro n f w_48 hI
        obtain ⟨col_49, a_51, cap_52, next_50, k_46, g_54, far_55, l_47, hn, hl, hm, hst, h0, h1, h_53, h_45, h_56, hs56, hs0, hs1, hs10, hs11, hs2, hs3, hs54, hs55, hs9, hs1000000⟩ := hI
        subst hn
        refine .ld (d := 56) (v := (.int .i64 (k_46 : Int))) hs56 ?_
        refine .ld (d := 0) (v := (.slice a0 p0_parents.length cap0)) hs0 ?_
        refine .ld (d := 1) (v := (.slice a1 p1_down.length cap1)) hs1 ?_
        refine .ld (d := 10) (v := (.slice a_51 next_50.length cap_52)) hs10 ?_
        refine .ld (d := 11) (v := (.int .i64 e_33)) hs11 ?_
        refine .ld (d := 2) (v := (.int .i64 p2_s)) hs2 ?_
        refine .ld (d := 3) (v := (.int .i64 p3_most)) hs3 ?_
        refine .ld (d := 54) (v := (.slice a_43 e_39.length cap_44)) hs54 ?_
        refine .ld (d := 55) (v := (.int .i64 (e_39.length : Int))) hs55 ?_
        refine .ld (d := 9) (v := (.map (some g_54))) hs9 ?_
        refine .ld (d := 1000000) (v := (enc [])) hs1000000 ?_
        clear hs56 hs0 hs1 hs10 hs11 hs2 hs3 hs54 hs55 hs9 hs1000000
        cases l_47 with
        | nil =>
          have hk : ¬ ((k_46 : Int) < (e_39.length : Int)) := by have := List.drop_eq_nil_iff.1 hl; omega
          have hkb := decide_eq_false hk
          rw [m_dag_ring_L2.eq_1] at hm
          refine wseq ?_
          refine wregion ?_
          refine lv (v := (.bool (decide ((k_46 : Int) < (e_39.length : Int))))) rfl rfl (r_lss (k_46 : Int) (e_39.length : Int) rfl rfl) ?_
          refine lnil ?_
          refine wseq ?_
          refine wcondF (congrArg Value.bool hkb) ?_
          refine wexit (inB_hit ?_)
          exact ⟨n_17, by omega, ⟨col_49, a_51, cap_52, next_50, g_54, far_55, n_17, rfl, hm, hst, h0, h1, h_53, h_56, rfl, rfl, rfl, rfl, rfl, rfl, rfl⟩⟩
        | cons x_57 l_58 =>
          obtain ⟨hat, hl2, hlt⟩ := drop_get hl
          have hk : (k_46 : Int) < (e_39.length : Int) := by omega
          have hkb := decide_eq_true hk
          rw [m_dag_ring_L2.eq_2] at hm
          refine wseq ?_
          refine wregion ?_
          refine lv (v := (.bool (decide ((k_46 : Int) < (e_39.length : Int))))) rfl rfl (r_lss (k_46 : Int) (e_39.length : Int) rfl rfl) ?_
          refine lnil ?_
          refine wseq ?_
          refine wcondT (congrArg Value.bool hkb) ?_
          refine wskip ?_
          refine wseq ?_
          refine Wp.cut (fun f w_59 => ∃ (col_60 : Col) (a_62 : Option Addr) (cap_63 : Nat) (next_61 : List Int) (g_65 : Nat) (far_66 : List (Int × Int)), m_dag_ring_J2 (m_dag_ring_L2 p2_s (m_dag_ring_L1 N p0_parents p1_down p2_s p3_most n_17) e_33 l_58) next_61 far_66 = some r ∧ St w0 (col0 col) col_60 w_59 ∧ Sl (Rep.slice (Rep.int .i64)) col_60 w_59 a0 cap0 p0_parents ∧ Sl (Rep.slice (Rep.int .i64)) col_60 w_59 a1 cap1 p1_down ∧ Que (Rep.int .i64) 3 2 col_60 w_59 a_62 cap_63 next_61 ∧ Sl (Rep.int .i64) col_60 w_59 a_43 cap_44 e_39 ∧ MapO (Value.int .i64) (Value.int .i64) 1 col_60 w_59 g_65 far_66 ∧ f 0 = (.slice a0 p0_parents.length cap0) ∧ f 1 = (.slice a1 p1_down.length cap1) ∧ f 10 = (.slice a_62 next_61.length cap_63) ∧ f 11 = (.int .i64 e_33) ∧ f 2 = (.int .i64 p2_s) ∧ f 3 = (.int .i64 p3_most) ∧ f 54 = (.slice a_43 e_39.length cap_44) ∧ f 55 = (.int .i64 (e_39.length : Int)) ∧ f 56 = (.int .i64 (k_46 : Int)) ∧ f 9 = (.map (some g_65)) ∧ f 1000000 = (enc [])) ?_ ?_
          · intro f w_59 hJ
            obtain ⟨col_60, a_62, cap_63, next_61, g_65, far_66, hm, hst, h0, h1, h_64, h_45, h_67, hs0, hs1, hs10, hs11, hs2, hs3, hs54, hs55, hs56, hs9, hs1000000⟩ := hJ
            rw [m_dag_ring_J2.eq_1] at hm
            refine .ld (d := 0) (v := (.slice a0 p0_parents.length cap0)) hs0 ?_
            refine .ld (d := 1) (v := (.slice a1 p1_down.length cap1)) hs1 ?_
            refine .ld (d := 10) (v := (.slice a_62 next_61.length cap_63)) hs10 ?_
            refine .ld (d := 11) (v := (.int .i64 e_33)) hs11 ?_
            refine .ld (d := 2) (v := (.int .i64 p2_s)) hs2 ?_
            refine .ld (d := 3) (v := (.int .i64 p3_most)) hs3 ?_
            refine .ld (d := 54) (v := (.slice a_43 e_39.length cap_44)) hs54 ?_
            refine .ld (d := 55) (v := (.int .i64 (e_39.length : Int))) hs55 ?_
            refine .ld (d := 56) (v := (.int .i64 (k_46 : Int))) hs56 ?_
            refine .ld (d := 9) (v := (.map (some g_65))) hs9 ?_
            refine .ld (d := 1000000) (v := (enc [])) hs1000000 ?_
            clear hs0 hs1 hs10 hs11 hs2 hs3 hs54 hs55 hs56 hs9 hs1000000
            refine wregion ?_
            refine lv (v := (.int .i64 (IntKind.i64.wrap ((k_46 : Int) + 1)))) rfl rfl (r_add (k_46 : Int) 1 rfl rfl) ?_
            refine lv (v := (.int .i64 (IntKind.i64.wrap ((k_46 : Int) + 1)))) rfl rfl (r_move rfl) ?_
            refine lnil ?_
            exact ⟨l_58.length, by simp, ⟨col_60, a_62, cap_63, next_61, (k_46 + 1), g_65, far_66, l_58, rfl, hl2, hm, hst, h0, h1, h_64, h_45, h_67, (congrArg (Value.int .i64) (wrap_succ (Nat.lt_of_lt_of_le hlt h_45.1.1))), rfl, rfl, rfl, rfl, rfl, rfl, rfl, rfl, rfl, rfl⟩⟩
          · refine wblock ?_
            refine wseq ?_
            refine wregion ?_
            refine lv (v := (sptr a_43 (Int.toNat (k_46 : Int) * 1))) rfl rfl (r_idx Try.underlying31 Try.sizeOf3 rfl rfl (at?_some hat).1 (at?_some hat).2.1 (h_45.addr hat)) ?_
            refine lv (v := (.int .i64 x_57)) rfl rfl (r_ld Try.isAgg3 rfl (h_45.atInt hat)) ?_
            refine lv (v := (.int .i64 x_57)) rfl rfl (r_assign rfl) ?_
            refine lnil ?_
            refine wseq ?_
            refine wregion ?_
            refine lv (v := (.map (some g_54))) rfl rfl (r_move rfl) ?_
            refine lv (v := (.int .i64 x_57)) rfl rfl (r_move rfl) ?_
            refine lv (v := (.tuple #[(.int .i64 ((mget far_55 x_57).getD 0)), (.bool ((mget far_55 x_57).isSome))])) rfl rfl (r_lookupOk KeyD.int h_56 Try.underlying51 Try.underlying3 Try.zeroValue3 rfl rfl) ?_
            refine lv (v := (.tuple #[(.int .i64 ((mget far_55 x_57).getD 0)), (.bool ((mget far_55 x_57).isSome))])) rfl rfl (r_move rfl) ?_
            refine lv (v := (.int .i64 ((mget far_55 x_57).getD 0))) rfl rfl (r_extract rfl rfl) ?_
            refine lv (v := (.bool ((mget far_55 x_57).isSome))) rfl rfl (r_extract rfl rfl) ?_
            refine lv (v := (.int .i64 ((mget far_55 x_57).getD 0))) rfl rfl (r_assign rfl) ?_
            refine lv (v := (.bool ((mget far_55 x_57).isSome))) rfl rfl (r_assign rfl) ?_
            refine lnil ?_
            refine wseq ?_
            refine Wp.cut (fun f w_69 => ∃ (col_70 : Col) (v_71 : Bool), m_dag_ring_J3 e_33 next_50 far_55 (m_dag_ring_L2 p2_s (m_dag_ring_L1 N p0_parents p1_down p2_s p3_most n_17) e_33 l_58) x_57 v_71 = some r ∧ St w0 (col0 col) col_70 w_69 ∧ Sl (Rep.slice (Rep.int .i64)) col_70 w_69 a0 cap0 p0_parents ∧ Sl (Rep.slice (Rep.int .i64)) col_70 w_69 a1 cap1 p1_down ∧ Que (Rep.int .i64) 3 2 col_70 w_69 a_51 cap_52 next_50 ∧ Sl (Rep.int .i64) col_70 w_69 a_43 cap_44 e_39 ∧ MapO (Value.int .i64) (Value.int .i64) 1 col_70 w_69 g_54 far_55 ∧ f 0 = (.slice a0 p0_parents.length cap0) ∧ f 1 = (.slice a1 p1_down.length cap1) ∧ f 10 = (.slice a_51 next_50.length cap_52) ∧ f 11 = (.int .i64 e_33) ∧ f 13 = (.int .i64 x_57) ∧ f 2 = (.int .i64 p2_s) ∧ f 3 = (.int .i64 p3_most) ∧ f 54 = (.slice a_43 e_39.length cap_44) ∧ f 55 = (.int .i64 (e_39.length : Int)) ∧ f 56 = (.int .i64 (k_46 : Int)) ∧ f 72 = (.bool v_71) ∧ f 9 = (.map (some g_54)) ∧ f 1000000 = (enc [])) ?_ ?_
            · intro f w_69 hJ
              obtain ⟨col_70, v_71, hm, hst, h0, h1, h_53, h_45, h_56, hs0, hs1, hs10, hs11, hs13, hs2, hs3, hs54, hs55, hs56, hs72, hs9, hs1000000⟩ := hJ
              rw [m_dag_ring_J3.eq_1] at hm
              refine .ld (d := 0) (v := (.slice a0 p0_parents.length cap0)) hs0 ?_
              refine .ld (d := 1) (v := (.slice a1 p1_down.length cap1)) hs1 ?_
              refine .ld (d := 10) (v := (.slice a_51 next_50.length cap_52)) hs10 ?_
              refine .ld (d := 11) (v := (.int .i64 e_33)) hs11 ?_
              refine .ld (d := 13) (v := (.int .i64 x_57)) hs13 ?_
              refine .ld (d := 2) (v := (.int .i64 p2_s)) hs2 ?_
              refine .ld (d := 3) (v := (.int .i64 p3_most)) hs3 ?_
              refine .ld (d := 54) (v := (.slice a_43 e_39.length cap_44)) hs54 ?_
              refine .ld (d := 55) (v := (.int .i64 (e_39.length : Int))) hs55 ?_
              refine .ld (d := 56) (v := (.int .i64 (k_46 : Int))) hs56 ?_
              refine .ld (d := 72) (v := (.bool v_71)) hs72 ?_
              refine .ld (d := 9) (v := (.map (some g_54))) hs9 ?_
              refine .ld (d := 1000000) (v := (enc [])) hs1000000 ?_
              clear hs0 hs1 hs10 hs11 hs13 hs2 hs3 hs54 hs55 hs56 hs72 hs9 hs1000000
              refine wcond (v_71) rfl (fun hb => ?_) (fun hb => ?_)
              · rw [if_pos hb] at hm
                clear hb
                refine wseq ?_
                refine wregion ?_
                refine lv (v := (.map (some g_54))) rfl rfl (r_move rfl) ?_
                refine lv (v := (.int .i64 x_57)) rfl rfl (r_move rfl) ?_
                refine lv (v := (.map (some g_54))) rfl rfl (r_move rfl) ?_
                refine lv (v := (.int .i64 e_33)) rfl rfl (r_move rfl) ?_
                refine lv (v := (.int .i64 ((mget far_55 e_33).getD 0))) rfl rfl (r_lookup KeyD.int h_56 Try.underlying51 Try.underlying3 Try.zeroValue3 rfl rfl) ?_
                refine lv (v := (.int .i64 (IntKind.i64.wrap (((mget far_55 e_33).getD 0) + 1)))) rfl rfl (r_add ((mget far_55 e_33).getD 0) 1 rfl rfl) ?_
                obtain ⟨es_76, hz_77, hm⟩ := bind_some hm
                have hz_77 : es_76 = mput far_55 x_57 (IntKind.i64.wrap (((mget far_55 e_33).getD 0) + 1)) := (Option.some.inj hz_77).symm
                refine l_mapUpdate (k := x_57) (v := (IntKind.i64.wrap (((mget far_55 e_33).getD 0) + 1))) KeyD.int h_56 Try.underlying51 Try.underlying3 rfl rfl rfl ?_
                intro w_72 hk_73 hs_74 h_75
                rw [← hz_77] at h_75
                clear hz_77
                replace h0 := h0.kp hk_73 (by decide)
                replace h1 := h1.kp hk_73 (by decide)
                replace h_53 := h_53.kp hk_73 (by decide) (by decide)
                replace h_45 := h_45.kp hk_73 (by decide)
                replace hst := hst.kp hk_73 hs_74 (by decide) (by decide)
                clear h_56
                refine lnil ?_
                refine wregion ?_
                refine lv (v := (.slice a_51 next_50.length cap_52)) rfl rfl (r_move rfl) ?_
                refine lv (v := (.int .i64 x_57)) rfl rfl (r_move rfl) ?_
                refine l_lit (col := col_70) (r := (Rep.int .i64)) (xs := [x_57]) [(.int .i64 x_57)] 3 rfl Try.underlying31 el3_30 rfl rfl rfl rfl rfl rfl (by intro v hv; simp only [List.mem_cons, List.not_mem_nil, or_false] at hv; subst hv; rfl) (RowsH.ofF (Rows.consF (r := (Rep.int .i64)) (x := x_57) (cs := [(.int .i64 x_57)]) (rd_int .i64 x_57) Rows.nil0)) ?_
                intro a_78 w_79 col_80 hg_81 h_82
                replace h0 := h0.gr hg_81
                replace h1 := h1.gr hg_81
                replace h_45 := h_45.gr hg_81
                replace h_75 := h_75.gr hg_81
                replace h_53 := h_53.gr hg_81
                replace hst := hst.grow hg_81
                obtain ⟨hb_83, hm⟩ := chk_some hm
                refine l_appendQ (col := col_80) (w := w_79) (r := (Rep.int .i64)) (c := 2) (c2 := 2) (xs := next_50) (ys := [x_57]) h_53 (NB.int (k := .i64)) (h_82.srcN (NB.int (k := .i64))) rfl Try.underlying31 el3_30 rfl rfl rfl hb_83.1 hb_83.2 (by decide) ?_
                intro a_84 cap_85 w_86 col_87 hk_88 h_89
                replace h0 := h0.kpp hk_88 rfl
                replace h1 := h1.kpp hk_88 rfl
                replace h_45 := h_45.kpp hk_88 rfl
                replace h_75 := h_75.kpp hk_88 rfl
                replace h_82 := h_82.kpp hk_88 rfl rfl
                replace hst := hst.kpp hk_88 rfl rfl
                clear h_53
                refine lv (v := (.slice a_84 ((next_50 ++ [x_57]).length) cap_85)) rfl rfl (r_assign rfl) ?_
                refine lnil ?_
                exact ⟨col_87, a_84, cap_85, (next_50 ++ [x_57]), g_54, es_76, hm, hst, h0, h1, h_89, h_45, h_75, rfl, rfl, rfl, rfl, rfl, rfl, rfl, rfl, rfl, rfl, rfl⟩
              · rw [if_neg (by rw [hb]; decide)] at hm
                clear hb
                refine wskip ?_
                exact ⟨col_70, a_51, cap_52, next_50, g_54, far_55, hm, hst, h0, h1, h_53, h_45, h_56, rfl, rfl, rfl, rfl, rfl, rfl, rfl, rfl, rfl, rfl, rfl⟩
            · refine wregion ?_
              refine lv (v := (.bool ((mget far_55 x_57).isSome))) rfl rfl (r_move rfl) ?_
              refine lv (v := (.bool (!((mget far_55 x_57).isSome)))) rfl rfl (r_not ((mget far_55 x_57).isSome) rfl) ?_
              refine lv (v := (.bool (!((mget far_55 x_57).isSome)))) rfl rfl (r_move rfl) ?_
              by_cases hg_90 : (!((mget far_55 x_57).isSome)) = true
              · rw [if_pos hg_90] at hm
                refine lg (b := !((mget far_55 x_57).isSome)) 68 rfl rfl rfl (by rw [hg_90]; rfl) ?_
                refine lv (v := (.int .i64 x_57)) rfl rfl (r_move rfl) ?_
                refine lg (b := !((mget far_55 x_57).isSome)) 68 rfl rfl rfl (by rw [hg_90]; rfl) ?_
                refine lv (v := (.int .i64 p2_s)) rfl rfl (r_move rfl) ?_
                refine lg (b := !((mget far_55 x_57).isSome)) 68 rfl rfl rfl (by rw [hg_90]; rfl) ?_
                refine lv (v := (.bool (decide (p2_s < x_57)))) rfl rfl (r_gtr x_57 p2_s rfl rfl) ?_
                refine lv (v := (.bool (decide (p2_s < x_57)))) rfl rfl (r_pickT (congrArg Value.bool hg_90) rfl) ?_
                refine lnil ?_
                exact ⟨col_49, (decide (p2_s < x_57)), hm, hst, h0, h1, h_53, h_45, h_56, rfl, rfl, rfl, rfl, rfl, rfl, rfl, rfl, rfl, rfl, rfl, rfl, rfl⟩
              · rw [if_neg hg_90] at hm
                replace hg_90 := Bool.eq_false_iff.2 hg_90
                refine lp (b := !((mget far_55 x_57).isSome)) 68 rfl rfl rfl rfl (by rw [hg_90]; rfl) ?_
                refine lp (b := !((mget far_55 x_57).isSome)) 68 rfl rfl rfl rfl (by rw [hg_90]; rfl) ?_
                refine lp (b := !((mget far_55 x_57).isSome)) 68 rfl rfl rfl rfl (by rw [hg_90]; rfl) ?_
                refine lv (v := (.bool false)) rfl rfl (r_pickF (congrArg Value.bool hg_90) rfl) ?_
                refine lnil ?_
                exact ⟨col_49, false, hm, hst, h0, h1, h_53, h_45, h_56, rfl, rfl, rfl, rfl, rfl, rfl, rfl, rfl, rfl, rfl, rfl, rfl, rfl⟩
      · rw [if_neg (by rw [hb]; decide)] at hm
        clear hb
        refine wexit (inB_hit ?_)
        refine wseq ?_
        refine wregion ?_
        refine lv (v := (.int .i64 p3_most)) rfl rfl (r_move rfl) ?_
        refine lv (v := (.int .i64 p3_most)) rfl rfl (r_assign rfl) ?_
        refine lnil ?_
        refine wseq ?_
        refine wseq ?_
        refine wregion ?_
        refine lv (v := (.slice a0 p0_parents.length cap0)) rfl rfl (r_move rfl) ?_
        refine lv (v := (.int .i64 p2_s)) rfl rfl (r_move rfl) ?_
        obtain ⟨e_91, hj_92, hm⟩ := bind_some hm
        refine lv (v := (sptr a0 (Int.toNat p2_s * 1))) rfl rfl (r_idx Try.underlying22 Try.sizeOf31 rfl rfl (at?_some hj_92).1 (at?_some hj_92).2.1 (h0.addr hj_92)) ?_
        obtain ⟨_, hr_93, hA_94⟩ := h0.atN hj_92
        obtain ⟨⟨a_95, cap_96, rfl, h_97⟩, _⟩ := hr_93
        refine lv (v := (.slice a_95 e_91.length cap_96)) rfl rfl (r_ld Try.isAgg31 rfl hA_94.one) ?_
        refine lv (v := (.int .i64 (e_91.length : Int))) rfl rfl (r_len Try.underlying31 rfl) ?_
        refine lv (v := (.int .i64 0)) rfl rfl (r_move rfl) ?_
        refine lnil ?_
        refine wblock ?_
        refine wloop (fun n f w_100 => ∃ (col_101 : Col) (best_102 : Int) (k_98 : Nat) (l_99 : List Int), n = l_99.length ∧ e_91.drop k_98 = l_99 ∧ m_dag_ring_L3 N p0_parents p2_s p3_most far_25 l_99 best_102 = some r ∧ St w0 (col0 col) col_101 w_100 ∧ Sl (Rep.slice (Rep.int .i64)) col_101 w_100 a0 cap0 p0_parents ∧ Sl (Rep.int .i64) col_101 w_100 a_95 cap_96 e_91 ∧ MapO (Value.int .i64) (Value.int .i64) 1 col_101 w_100 g_24 far_25 ∧ f 90 = (.int .i64 (k_98 : Int)) ∧ f 0 = (.slice a0 p0_parents.length cap0) ∧ f 16 = (.int .i64 best_102) ∧ f 2 = (.int .i64 p2_s) ∧ f 3 = (.int .i64 p3_most) ∧ f 88 = (.slice a_95 e_91.length cap_96) ∧ f 89 = (.int .i64 (e_91.length : Int)) ∧ f 9 = (.map (some g_24)) ∧ f 1000000 = (enc [])) e_91.length ⟨col_31, p3_most, 0, e_91, rfl, rfl, hm, hst, h0, h_97, h_26, rfl, rfl, rfl, rfl, rfl, rfl, rfl, rfl, rfl⟩ ?_
        clear hm; intro n f w_100 hI
        obtain ⟨col_101, best_102, k_98, l_99, hn, hl, hm, hst, h0, h_97, h_26, hs90, hs0, hs16, hs2, hs3, hs88, hs89, hs9, hs1000000⟩ := hI
        subst hn
        refine .ld (d := 90) (v := (.int .i64 (k_98 : Int))) hs90 ?_
        refine .ld (d := 0) (v := (.slice a0 p0_parents.length cap0)) hs0 ?_
        refine .ld (d := 16) (v := (.int .i64 best_102)) hs16 ?_
        refine .ld (d := 2) (v := (.int .i64 p2_s)) hs2 ?_
        refine .ld (d := 3) (v := (.int .i64 p3_most)) hs3 ?_
        refine .ld (d := 88) (v := (.slice a_95 e_91.length cap_96)) hs88 ?_
        refine .ld (d := 89) (v := (.int .i64 (e_91.length : Int))) hs89 ?_
        refine .ld (d := 9) (v := (.map (some g_24))) hs9 ?_
        refine .ld (d := 1000000) (v := (enc [])) hs1000000 ?_
        clear hs90 hs0 hs16 hs2 hs3 hs88 hs89 hs9 hs1000000
        cases l_99 with
        | nil =>
          have hk : ¬ ((k_98 : Int) < (e_91.length : Int)) := by have := List.drop_eq_nil_iff.1 hl; omega
          have hkb := decide_eq_false hk
          rw [m_dag_ring_L3.eq_1] at hm
          refine wseq ?_
          refine wregion ?_
          refine lv (v := (.bool (decide ((k_98 : Int) < (e_91.length : Int))))) rfl rfl (r_lss (k_98 : Int) (e_91.length : Int) rfl rfl) ?_
          refine lnil ?_
          refine wseq ?_
          refine wcondF (congrArg Value.bool hkb) ?_
          refine wexit (inB_hit ?_)
          refine wseq ?_
          refine wseq ?_
          refine wregion ?_
          refine lv (v := (.int .i64 best_102)) rfl rfl (r_move rfl) ?_
          refine lv (v := (.int .i64 p3_most)) rfl rfl (r_move rfl) ?_
          refine lv (v := (.bool (decide (best_102 = p3_most)))) rfl rfl (r_eql best_102 p3_most rfl rfl) ?_
          refine lnil ?_
          refine wcond (decide (best_102 = p3_most)) rfl (fun hb => ?_) (fun hb => ?_)
          · rw [if_pos hb] at hm
            clear hb
            refine wseq ?_
            refine wregion ?_
            refine lv (v := (.slice none (([] : List Int).length) 0)) rfl rfl (r_assign rfl) ?_
            refine lnil ?_
            refine wret ?_
            cases hm
            exact ⟨rfl, colF w0.heap.size col col_101 (fun n => 0), none, 0, rfl, hst.fin (fun n => 0), Own.nil, (fun _ => rfl)⟩
          · rw [if_neg (by rw [hb]; decide)] at hm
            clear hb
            refine wskip ?_
            refine wseq ?_
            refine wregion ?_
            refine lv (v := (.int .i64 p2_s)) rfl rfl (r_move rfl) ?_
            refine l_lit (col := col_101) (r := (Rep.int .i64)) (xs := [p2_s]) [(.int .i64 p2_s)] 4 rfl Try.underlying31 el3_30 rfl rfl rfl rfl rfl rfl (by intro v hv; simp only [List.mem_cons, List.not_mem_nil, or_false] at hv; subst hv; rfl) (RowsH.ofF (Rows.consF (r := (Rep.int .i64)) (x := p2_s) (cs := [(.int .i64 p2_s)]) (rd_int .i64 p2_s) Rows.nil0)) ?_
            intro a_105 w_106 col_107 hg_108 h_109
            replace h0 := h0.gr hg_108
            replace h_26 := h_26.gr hg_108
            replace hst := hst.grow hg_108
            refine lv (v := (.slice a_105 ([p2_s].length) 1)) rfl rfl (r_assign rfl) ?_
            refine lnil ?_
            refine wseq ?_
            refine wseq ?_
            refine wregion ?_
            refine lv (v := (.int .i64 p2_s)) rfl rfl (r_move rfl) ?_
            refine lv (v := (.int .i64 p2_s)) rfl rfl (r_assign rfl) ?_
            refine lnil ?_
            refine wblock ?_
            refine wloop (fun n f w_111 => ∃ (col_112 : Col) (a_114 : Option Addr) (cap_115 : Nat) (out_113 : List Int) (v_117 : Int) (n_110 : Nat), n_110 = n ∧ m_dag_ring_L4 N p0_parents far_25 best_102 n_110 out_113 v_117 = some r ∧ St w0 (col0 col) col_112 w_111 ∧ Sl (Rep.slice (Rep.int .i64)) col_112 w_111 a0 cap0 p0_parents ∧ Own (Rep.int .i64) 3 4 col_112 w_111 a_114 cap_115 out_113 ∧ MapO (Value.int .i64) (Value.int .i64) 1 col_112 w_111 g_24 far_25 ∧ f 0 = (.slice a0 p0_parents.length cap0) ∧ f 16 = (.int .i64 best_102) ∧ f 21 = (.slice a_114 out_113.length cap_115) ∧ f 22 = (.int .i64 v_117) ∧ f 9 = (.map (some g_24)) ∧ f 1000000 = (enc [])) N ⟨col_107, a_105, 1, [p2_s], p2_s, N, rfl, hm, hst, h0, h_109, h_26, rfl, rfl, rfl, rfl, rfl, rfl⟩ ?_
            clear hm; intro n f w_111 hI
            obtain ⟨col_112, a_114, cap_115, out_113, v_117, n_110, hn, hm, hst, h0, h_116, h_26, hs0, hs16, hs21, hs22, hs9, hs1000000⟩ := hI
            subst hn
            refine .ld (d := 0) (v := (.slice a0 p0_parents.length cap0)) hs0 ?_
            refine .ld (d := 16) (v := (.int .i64 best_102)) hs16 ?_
            refine .ld (d := 21) (v := (.slice a_114 out_113.length cap_115)) hs21 ?_
            refine .ld (d := 22) (v := (.int .i64 v_117)) hs22 ?_
            refine .ld (d := 9) (v := (.map (some g_24))) hs9 ?_
            refine .ld (d := 1000000) (v := (enc [])) hs1000000 ?_
            clear hs0 hs16 hs21 hs22 hs9 hs1000000
            cases n_110 with
            | zero => rw [m_dag_ring_L4.eq_1] at hm; cases hm
            | succ n_110 =>
              rw [m_dag_ring_L4.eq_2] at hm
              refine wseq ?_
              refine wseq ?_
              refine wregion ?_
              refine lv (v := (.slice a_114 out_113.length cap_115)) rfl rfl (r_move rfl) ?_
              refine lv (v := (.int .i64 (out_113.length : Int))) rfl rfl (r_len Try.underlying31 rfl) ?_
              refine lv (v := (.int .i64 best_102)) rfl rfl (r_move rfl) ?_
              refine lv (v := (.bool (decide ((out_113.length : Int) < best_102)))) rfl rfl (r_lss (out_113.length : Int) best_102 rfl rfl) ?_
              refine lnil ?_
              refine wcond (decide ((out_113.length : Int) < best_102)) rfl (fun hb => ?_) (fun hb => ?_)
              · rw [if_pos hb] at hm
                clear hb
                refine wskip ?_
                refine wblock ?_
                refine wseq ?_
                refine wregion ?_
                refine lv (v := (.int .i64 (-1))) rfl rfl (r_assign rfl) ?_
                refine lnil ?_
                refine wseq ?_
                refine wseq ?_
                refine wregion ?_
                refine lv (v := (.slice a0 p0_parents.length cap0)) rfl rfl (r_move rfl) ?_
                refine lv (v := (.int .i64 v_117)) rfl rfl (r_move rfl) ?_
                obtain ⟨e_118, hj_119, hm⟩ := bind_some hm
                refine lv (v := (sptr a0 (Int.toNat v_117 * 1))) rfl rfl (r_idx Try.underlying22 Try.sizeOf31 rfl rfl (at?_some hj_119).1 (at?_some hj_119).2.1 (h0.addr hj_119)) ?_
                obtain ⟨_, hr_120, hA_121⟩ := h0.atN hj_119
                obtain ⟨⟨a_122, cap_123, rfl, h_124⟩, _⟩ := hr_120
                refine lv (v := (.slice a_122 e_118.length cap_123)) rfl rfl (r_ld Try.isAgg31 rfl hA_121.one) ?_
                refine lv (v := (.int .i64 (e_118.length : Int))) rfl rfl (r_len Try.underlying31 rfl) ?_
                refine lv (v := (.int .i64 0)) rfl rfl (r_move rfl) ?_
                refine lnil ?_
                refine wblock ?_
                refine wloop (fun n f w_127 => ∃ (col_128 : Col) (k_125 : Nat) (least_129 : Int) (l_126 : List Int), n = l_126.length ∧ e_118.drop k_125 = l_126 ∧ m_dag_ring_L5 far_25 best_102 out_113 (m_dag_ring_L4 N p0_parents far_25 best_102 n_110) l_126 least_129 = some r ∧ St w0 (col0 col) col_128 w_127 ∧ Sl (Rep.slice (Rep.int .i64)) col_128 w_127 a0 cap0 p0_parents ∧ Sl (Rep.int .i64) col_128 w_127 a_122 cap_123 e_118 ∧ Own (Rep.int .i64) 3 4 col_128 w_127 a_114 cap_115 out_113 ∧ MapO (Value.int .i64) (Value.int .i64) 1 col_128 w_127 g_24 far_25 ∧ f 121 = (.int .i64 (k_125 : Int)) ∧ f 0 = (.slice a0 p0_parents.length cap0) ∧ f 119 = (.slice a_122 e_118.length cap_123) ∧ f 120 = (.int .i64 (e_118.length : Int)) ∧ f 16 = (.int .i64 best_102) ∧ f 21 = (.slice a_114 out_113.length cap_115) ∧ f 23 = (.int .i64 least_129) ∧ f 9 = (.map (some g_24)) ∧ f 1000000 = (enc [])) e_118.length ⟨col_112, 0, (-1), e_118, rfl, rfl, hm, hst, h0, h_124, h_116, h_26, rfl, rfl, rfl, rfl, rfl, rfl, rfl, rfl, rfl⟩ ?_
                clear hm; intro n f w_127 hI
                obtain ⟨col_128, k_125, least_129, l_126, hn, hl, hm, hst, h0, h_124, h_116, h_26, hs121, hs0, hs119, hs120, hs16, hs21, hs23, hs9, hs1000000⟩ := hI
                subst hn
                refine .ld (d := 121) (v := (.int .i64 (k_125 : Int))) hs121 ?_
                refine .ld (d := 0) (v := (.slice a0 p0_parents.length cap0)) hs0 ?_
                refine .ld (d := 119) (v := (.slice a_122 e_118.length cap_123)) hs119 ?_
                refine .ld (d := 120) (v := (.int .i64 (e_118.length : Int))) hs120 ?_
                refine .ld (d := 16) (v := (.int .i64 best_102)) hs16 ?_
                refine .ld (d := 21) (v := (.slice a_114 out_113.length cap_115)) hs21 ?_
                refine .ld (d := 23) (v := (.int .i64 least_129)) hs23 ?_
                refine .ld (d := 9) (v := (.map (some g_24))) hs9 ?_
                refine .ld (d := 1000000) (v := (enc [])) hs1000000 ?_
                clear hs121 hs0 hs119 hs120 hs16 hs21 hs23 hs9 hs1000000
                cases l_126 with
                | nil =>
                  have hk : ¬ ((k_125 : Int) < (e_118.length : Int)) := by have := List.drop_eq_nil_iff.1 hl; omega
                  have hkb := decide_eq_false hk
                  rw [m_dag_ring_L5.eq_1] at hm
                  refine wseq ?_
                  refine wregion ?_
                  refine lv (v := (.bool (decide ((k_125 : Int) < (e_118.length : Int))))) rfl rfl (r_lss (k_125 : Int) (e_118.length : Int) rfl rfl) ?_
                  refine lnil ?_
                  refine wseq ?_
                  refine wcondF (congrArg Value.bool hkb) ?_
                  refine wexit (inB_hit ?_)
                  refine wseq ?_
                  refine wregion ?_
                  refine lv (v := (.int .i64 least_129)) rfl rfl (r_move rfl) ?_
                  refine lv (v := (.int .i64 least_129)) rfl rfl (r_assign rfl) ?_
                  refine lnil ?_
                  refine wregion ?_
                  refine lv (v := (.slice a_114 out_113.length cap_115)) rfl rfl (r_move rfl) ?_
                  refine lv (v := (.int .i64 least_129)) rfl rfl (r_move rfl) ?_
                  refine l_lit (col := col_128) (r := (Rep.int .i64)) (xs := [least_129]) [(.int .i64 least_129)] 5 rfl Try.underlying31 el3_30 rfl rfl rfl rfl rfl rfl (by intro v hv; simp only [List.mem_cons, List.not_mem_nil, or_false] at hv; subst hv; rfl) (RowsH.ofF (Rows.consF (r := (Rep.int .i64)) (x := least_129) (cs := [(.int .i64 least_129)]) (rd_int .i64 least_129) Rows.nil0)) ?_
                  intro a_132 w_133 col_134 hg_135 h_136
                  replace h0 := h0.gr hg_135
                  replace h_26 := h_26.gr hg_135
                  replace h_116 := h_116.gr hg_135
                  replace hst := hst.grow hg_135
                  obtain ⟨hb_137, hm⟩ := chk_some hm
                  refine l_appendM (col := col_134) (w := w_133) (r := (Rep.int .i64)) (c := 4) (c2 := 4) (xs := out_113) (ys := [least_129]) h_116 (h_136.srcN (NB.int (k := .i64))) rfl Try.underlying31 el3_30 rfl rfl rfl hb_137.1 hb_137.2 (by decide) ?_
                  intro a_138 cap_139 w_140 col_141 hk_142 h_143
                  replace h0 := h0.kpp hk_142 rfl
                  replace h_26 := h_26.kpp hk_142 rfl
                  replace h_136 := h_136.kpp hk_142 rfl rfl
                  replace hst := hst.kpp hk_142 rfl rfl
                  clear h_116
                  refine lv (v := (.slice a_138 ((out_113 ++ [least_129]).length) cap_139)) rfl rfl (r_assign rfl) ?_
                  refine lnil ?_
                  exact ⟨n_110, by omega, ⟨col_141, a_138, cap_139, (out_113 ++ [least_129]), least_129, n_110, rfl, hm, hst, h0, h_143, h_26, rfl, rfl, rfl, rfl, rfl, rfl⟩⟩
                | cons x_130 l_131 =>
                  obtain ⟨hat, hl2, hlt⟩ := drop_get hl
                  have hk : (k_125 : Int) < (e_118.length : Int) := by omega
                  have hkb := decide_eq_true hk
                  rw [m_dag_ring_L5.eq_2] at hm
                  refine wseq ?_
                  refine wregion ?_
                  refine lv (v := (.bool (decide ((k_125 : Int) < (e_118.length : Int))))) rfl rfl (r_lss (k_125 : Int) (e_118.length : Int) rfl rfl) ?_
                  refine lnil ?_
                  refine wseq ?_
                  refine wcondT (congrArg Value.bool hkb) ?_
                  refine wskip ?_
                  refine wseq ?_
                  refine Wp.cut (fun f w_144 => ∃ (col_145 : Col) (least_146 : Int), m_dag_ring_J4 (m_dag_ring_L5 far_25 best_102 out_113 (m_dag_ring_L4 N p0_parents far_25 best_102 n_110) l_131) least_146 = some r ∧ St w0 (col0 col) col_145 w_144 ∧ Sl (Rep.slice (Rep.int .i64)) col_145 w_144 a0 cap0 p0_parents ∧ Sl (Rep.int .i64) col_145 w_144 a_122 cap_123 e_118 ∧ Own (Rep.int .i64) 3 4 col_145 w_144 a_114 cap_115 out_113 ∧ MapO (Value.int .i64) (Value.int .i64) 1 col_145 w_144 g_24 far_25 ∧ f 0 = (.slice a0 p0_parents.length cap0) ∧ f 119 = (.slice a_122 e_118.length cap_123) ∧ f 120 = (.int .i64 (e_118.length : Int)) ∧ f 121 = (.int .i64 (k_125 : Int)) ∧ f 16 = (.int .i64 best_102) ∧ f 21 = (.slice a_114 out_113.length cap_115) ∧ f 23 = (.int .i64 least_146) ∧ f 9 = (.map (some g_24)) ∧ f 1000000 = (enc [])) ?_ ?_
                  · intro f w_144 hJ
                    obtain ⟨col_145, least_146, hm, hst, h0, h_124, h_116, h_26, hs0, hs119, hs120, hs121, hs16, hs21, hs23, hs9, hs1000000⟩ := hJ
                    rw [m_dag_ring_J4.eq_1] at hm
                    refine .ld (d := 0) (v := (.slice a0 p0_parents.length cap0)) hs0 ?_
                    refine .ld (d := 119) (v := (.slice a_122 e_118.length cap_123)) hs119 ?_
                    refine .ld (d := 120) (v := (.int .i64 (e_118.length : Int))) hs120 ?_
                    refine .ld (d := 121) (v := (.int .i64 (k_125 : Int))) hs121 ?_
                    refine .ld (d := 16) (v := (.int .i64 best_102)) hs16 ?_
                    refine .ld (d := 21) (v := (.slice a_114 out_113.length cap_115)) hs21 ?_
                    refine .ld (d := 23) (v := (.int .i64 least_146)) hs23 ?_
                    refine .ld (d := 9) (v := (.map (some g_24))) hs9 ?_
                    refine .ld (d := 1000000) (v := (enc [])) hs1000000 ?_
                    clear hs0 hs119 hs120 hs121 hs16 hs21 hs23 hs9 hs1000000
                    refine wregion ?_
                    refine lv (v := (.int .i64 (IntKind.i64.wrap ((k_125 : Int) + 1)))) rfl rfl (r_add (k_125 : Int) 1 rfl rfl) ?_
                    refine lv (v := (.int .i64 (IntKind.i64.wrap ((k_125 : Int) + 1)))) rfl rfl (r_move rfl) ?_
                    refine lnil ?_
                    exact ⟨l_131.length, by simp, ⟨col_145, (k_125 + 1), least_146, l_131, rfl, hl2, hm, hst, h0, h_124, h_116, h_26, (congrArg (Value.int .i64) (wrap_succ (Nat.lt_of_lt_of_le hlt h_124.1.1))), rfl, rfl, rfl, rfl, rfl, rfl, rfl, rfl⟩⟩
                  · refine wblock ?_
                    refine wseq ?_
                    refine wregion ?_
                    refine lv (v := (sptr a_122 (Int.toNat (k_125 : Int) * 1))) rfl rfl (r_idx Try.underlying31 Try.sizeOf3 rfl rfl (at?_some hat).1 (at?_some hat).2.1 (h_124.addr hat)) ?_
                    refine lv (v := (.int .i64 x_130)) rfl rfl (r_ld Try.isAgg3 rfl (h_124.atInt hat)) ?_
                    refine lv (v := (.int .i64 x_130)) rfl rfl (r_assign rfl) ?_
                    refine lnil ?_
                    refine wseq ?_
                    refine wregion ?_
                    refine lv (v := (.map (some g_24))) rfl rfl (r_move rfl) ?_
                    refine lv (v := (.int .i64 x_130)) rfl rfl (r_move rfl) ?_
                    refine lv (v := (.tuple #[(.int .i64 ((mget far_25 x_130).getD 0)), (.bool ((mget far_25 x_130).isSome))])) rfl rfl (r_lookupOk KeyD.int h_26 Try.underlying51 Try.underlying3 Try.zeroValue3 rfl rfl) ?_
                    refine lv (v := (.tuple #[(.int .i64 ((mget far_25 x_130).getD 0)), (.bool ((mget far_25 x_130).isSome))])) rfl rfl (r_move rfl) ?_
                    refine lv (v := (.int .i64 ((mget far_25 x_130).getD 0))) rfl rfl (r_extract rfl rfl) ?_
                    refine lv (v := (.bool ((mget far_25 x_130).isSome))) rfl rfl (r_extract rfl rfl) ?_
                    refine lv (v := (.int .i64 ((mget far_25 x_130).getD 0))) rfl rfl (r_assign rfl) ?_
                    refine lv (v := (.bool ((mget far_25 x_130).isSome))) rfl rfl (r_assign rfl) ?_
                    refine lnil ?_
                    refine wseq ?_
                    refine Wp.cut (fun f w_150 => ∃ (col_151 : Col) (v_152 : Bool), m_dag_ring_J5 least_129 (m_dag_ring_L5 far_25 best_102 out_113 (m_dag_ring_L4 N p0_parents far_25 best_102 n_110) l_131) x_130 v_152 = some r ∧ St w0 (col0 col) col_151 w_150 ∧ Sl (Rep.slice (Rep.int .i64)) col_151 w_150 a0 cap0 p0_parents ∧ Sl (Rep.int .i64) col_151 w_150 a_122 cap_123 e_118 ∧ Own (Rep.int .i64) 3 4 col_151 w_150 a_114 cap_115 out_113 ∧ MapO (Value.int .i64) (Value.int .i64) 1 col_151 w_150 g_24 far_25 ∧ f 0 = (.slice a0 p0_parents.length cap0) ∧ f 119 = (.slice a_122 e_118.length cap_123) ∧ f 120 = (.int .i64 (e_118.length : Int)) ∧ f 121 = (.int .i64 (k_125 : Int)) ∧ f 148 = (.bool v_152) ∧ f 16 = (.int .i64 best_102) ∧ f 21 = (.slice a_114 out_113.length cap_115) ∧ f 23 = (.int .i64 least_129) ∧ f 25 = (.int .i64 x_130) ∧ f 9 = (.map (some g_24)) ∧ f 1000000 = (enc [])) ?_ ?_
                    · intro f w_150 hJ
                      obtain ⟨col_151, v_152, hm, hst, h0, h_124, h_116, h_26, hs0, hs119, hs120, hs121, hs148, hs16, hs21, hs23, hs25, hs9, hs1000000⟩ := hJ
                      rw [m_dag_ring_J5.eq_1] at hm
                      refine .ld (d := 0) (v := (.slice a0 p0_parents.length cap0)) hs0 ?_
                      refine .ld (d := 119) (v := (.slice a_122 e_118.length cap_123)) hs119 ?_
                      refine .ld (d := 120) (v := (.int .i64 (e_118.length : Int))) hs120 ?_
                      refine .ld (d := 121) (v := (.int .i64 (k_125 : Int))) hs121 ?_
                      refine .ld (d := 148) (v := (.bool v_152)) hs148 ?_
                      refine .ld (d := 16) (v := (.int .i64 best_102)) hs16 ?_
                      refine .ld (d := 21) (v := (.slice a_114 out_113.length cap_115)) hs21 ?_
                      refine .ld (d := 23) (v := (.int .i64 least_129)) hs23 ?_
                      refine .ld (d := 25) (v := (.int .i64 x_130)) hs25 ?_
                      refine .ld (d := 9) (v := (.map (some g_24))) hs9 ?_
                      refine .ld (d := 1000000) (v := (enc [])) hs1000000 ?_
                      clear hs0 hs119 hs120 hs121 hs148 hs16 hs21 hs23 hs25 hs9 hs1000000
                      refine wcond (v_152) rfl (fun hb => ?_) (fun hb => ?_)
                      · rw [if_pos hb] at hm
                        clear hb
                        refine wregion ?_
                        refine lv (v := (.int .i64 x_130)) rfl rfl (r_move rfl) ?_
                        refine lv (v := (.int .i64 x_130)) rfl rfl (r_assign rfl) ?_
                        refine lnil ?_
                        exact ⟨col_151, x_130, hm, hst, h0, h_124, h_116, h_26, rfl, rfl, rfl, rfl, rfl, rfl, rfl, rfl, rfl⟩
                      · rw [if_neg (by rw [hb]; decide)] at hm
                        clear hb
                        refine wskip ?_
                        exact ⟨col_151, least_129, hm, hst, h0, h_124, h_116, h_26, rfl, rfl, rfl, rfl, rfl, rfl, rfl, rfl, rfl⟩
                    · refine wregion ?_
                      refine lv (v := (.bool ((mget far_25 x_130).isSome))) rfl rfl (r_move rfl) ?_
                      refine lv (v := (.bool ((mget far_25 x_130).isSome))) rfl rfl (r_move rfl) ?_
                      by_cases hg_153 : ((mget far_25 x_130).isSome) = true
                      · rw [if_pos hg_153] at hm
                        refine lg (b := (mget far_25 x_130).isSome) 132 rfl rfl rfl (by rw [hg_153]; rfl) ?_
                        refine lv (v := (.int .i64 ((mget far_25 x_130).getD 0))) rfl rfl (r_move rfl) ?_
                        refine lg (b := (mget far_25 x_130).isSome) 132 rfl rfl rfl (by rw [hg_153]; rfl) ?_
                        refine lv (v := (.int .i64 best_102)) rfl rfl (r_move rfl) ?_
                        refine lg (b := (mget far_25 x_130).isSome) 132 rfl rfl rfl (by rw [hg_153]; rfl) ?_
                        refine lv (v := (.slice a_114 out_113.length cap_115)) rfl rfl (r_move rfl) ?_
                        refine lg (b := (mget far_25 x_130).isSome) 132 rfl rfl rfl (by rw [hg_153]; rfl) ?_
                        refine lv (v := (.int .i64 (out_113.length : Int))) rfl rfl (r_len Try.underlying31 rfl) ?_
                        refine lg (b := (mget far_25 x_130).isSome) 132 rfl rfl rfl (by rw [hg_153]; rfl) ?_
                        refine lv (v := (.int .i64 (IntKind.i64.wrap (best_102 - (out_113.length : Int))))) rfl rfl (r_sub best_102 (out_113.length : Int) rfl rfl) ?_
                        refine lg (b := (mget far_25 x_130).isSome) 132 rfl rfl rfl (by rw [hg_153]; rfl) ?_
                        refine lv (v := (.bool (decide (((mget far_25 x_130).getD 0) = (IntKind.i64.wrap (best_102 - (out_113.length : Int))))))) rfl rfl (r_eql ((mget far_25 x_130).getD 0) (IntKind.i64.wrap (best_102 - (out_113.length : Int))) rfl rfl) ?_
                        refine lv (v := (.bool (decide (((mget far_25 x_130).getD 0) = (IntKind.i64.wrap (best_102 - (out_113.length : Int))))))) rfl rfl (r_pickT (congrArg Value.bool hg_153) rfl) ?_
                        refine lv (v := (.bool (decide (((mget far_25 x_130).getD 0) = (IntKind.i64.wrap (best_102 - (out_113.length : Int))))))) rfl rfl (r_move rfl) ?_
                        by_cases hg_154 : (decide (((mget far_25 x_130).getD 0) = (IntKind.i64.wrap (best_102 - (out_113.length : Int))))) = true
                        · rw [if_pos hg_154] at hm
                          refine lg (b := decide (((mget far_25 x_130).getD 0) = (IntKind.i64.wrap (best_102 - (out_113.length : Int))))) 140 rfl rfl rfl (by rw [hg_154]; rfl) ?_
                          refine lv (v := (.int .i64 least_129)) rfl rfl (r_move rfl) ?_
                          refine lg (b := decide (((mget far_25 x_130).getD 0) = (IntKind.i64.wrap (best_102 - (out_113.length : Int))))) 140 rfl rfl rfl (by rw [hg_154]; rfl) ?_
                          refine lv (v := (.bool (decide (least_129 < 0)))) rfl rfl (r_lss least_129 0 rfl rfl) ?_
                          refine lg (b := decide (((mget far_25 x_130).getD 0) = (IntKind.i64.wrap (best_102 - (out_113.length : Int))))) 140 rfl rfl rfl (by rw [hg_154]; rfl) ?_
                          refine lv (v := (.bool (decide (least_129 < 0)))) rfl rfl (r_move rfl) ?_
                          by_cases hg_155 : (decide (least_129 < 0)) = true
                          · rw [if_pos hg_155] at hm
                            refine lp (b := decide (least_129 < 0)) 143 rfl rfl rfl rfl (by rw [hg_155]; rfl) ?_
                            refine lp (b := decide (least_129 < 0)) 143 rfl rfl rfl rfl (by rw [hg_155]; rfl) ?_
                            refine lp (b := decide (least_129 < 0)) 143 rfl rfl rfl rfl (by rw [hg_155]; rfl) ?_
                            refine lg (b := decide (((mget far_25 x_130).getD 0) = (IntKind.i64.wrap (best_102 - (out_113.length : Int))))) 140 rfl rfl rfl (by rw [hg_154]; rfl) ?_
                            refine lv (v := (.bool true)) rfl rfl (r_pickT (congrArg Value.bool hg_155) rfl) ?_
                            refine lv (v := (.bool true)) rfl rfl (r_pickT (congrArg Value.bool hg_154) rfl) ?_
                            refine lnil ?_
                            exact ⟨col_128, true, hm, hst, h0, h_124, h_116, h_26, rfl, rfl, rfl, rfl, rfl, rfl, rfl, rfl, rfl, rfl, rfl⟩
                          · rw [if_neg hg_155] at hm
                            replace hg_155 := Bool.eq_false_iff.2 hg_155
                            refine lg (b := decide (least_129 < 0)) 143 rfl rfl rfl (by rw [hg_155]; rfl) ?_
                            refine lv (v := (.int .i64 x_130)) rfl rfl (r_move rfl) ?_
                            refine lg (b := decide (least_129 < 0)) 143 rfl rfl rfl (by rw [hg_155]; rfl) ?_
                            refine lv (v := (.int .i64 least_129)) rfl rfl (r_move rfl) ?_
                            refine lg (b := decide (least_129 < 0)) 143 rfl rfl rfl (by rw [hg_155]; rfl) ?_
                            refine lv (v := (.bool (decide (x_130 < least_129)))) rfl rfl (r_lss x_130 least_129 rfl rfl) ?_
                            refine lg (b := decide (((mget far_25 x_130).getD 0) = (IntKind.i64.wrap (best_102 - (out_113.length : Int))))) 140 rfl rfl rfl (by rw [hg_154]; rfl) ?_
                            refine lv (v := (.bool (decide (x_130 < least_129)))) rfl rfl (r_pickF (congrArg Value.bool hg_155) rfl) ?_
                            refine lv (v := (.bool (decide (x_130 < least_129)))) rfl rfl (r_pickT (congrArg Value.bool hg_154) rfl) ?_
                            refine lnil ?_
                            exact ⟨col_128, (decide (x_130 < least_129)), hm, hst, h0, h_124, h_116, h_26, rfl, rfl, rfl, rfl, rfl, rfl, rfl, rfl, rfl, rfl, rfl⟩
                        · rw [if_neg hg_154] at hm
                          replace hg_154 := Bool.eq_false_iff.2 hg_154
                          refine lp (b := decide (((mget far_25 x_130).getD 0) = (IntKind.i64.wrap (best_102 - (out_113.length : Int))))) 140 rfl rfl rfl rfl (by rw [hg_154]; rfl) ?_
                          refine lp (b := decide (((mget far_25 x_130).getD 0) = (IntKind.i64.wrap (best_102 - (out_113.length : Int))))) 140 rfl rfl rfl rfl (by rw [hg_154]; rfl) ?_
                          refine lp (b := decide (((mget far_25 x_130).getD 0) = (IntKind.i64.wrap (best_102 - (out_113.length : Int))))) 140 rfl rfl rfl rfl (by rw [hg_154]; rfl) ?_
                          refine lpU 143 rfl rfl rfl rfl ?_
                          refine lpU 143 rfl rfl rfl rfl ?_
                          refine lpU 143 rfl rfl rfl rfl ?_
                          refine lp (b := decide (((mget far_25 x_130).getD 0) = (IntKind.i64.wrap (best_102 - (out_113.length : Int))))) 140 rfl rfl rfl rfl (by rw [hg_154]; rfl) ?_
                          refine lv (v := (.bool false)) rfl rfl (r_pickF (congrArg Value.bool hg_154) rfl) ?_
                          refine lnil ?_
                          exact ⟨col_128, false, hm, hst, h0, h_124, h_116, h_26, rfl, rfl, rfl, rfl, rfl, rfl, rfl, rfl, rfl, rfl, rfl⟩
                      · rw [if_neg hg_153] at hm
                        replace hg_153 := Bool.eq_false_iff.2 hg_153
                        refine lp (b := (mget far_25 x_130).isSome) 132 rfl rfl rfl rfl (by rw [hg_153]; rfl) ?_
                        refine lp (b := (mget far_25 x_130).isSome) 132 rfl rfl rfl rfl (by rw [hg_153]; rfl) ?_
                        refine lp (b := (mget far_25 x_130).isSome) 132 rfl rfl rfl rfl (by rw [hg_153]; rfl) ?_
                        refine lp (b := (mget far_25 x_130).isSome) 132 rfl rfl rfl rfl (by rw [hg_153]; rfl) ?_
                        refine lp (b := (mget far_25 x_130).isSome) 132 rfl rfl rfl rfl (by rw [hg_153]; rfl) ?_
                        refine lp (b := (mget far_25 x_130).isSome) 132 rfl rfl rfl rfl (by rw [hg_153]; rfl) ?_
                        refine lv (v := (.bool false)) rfl rfl (r_pickF (congrArg Value.bool hg_153) rfl) ?_
                        refine lv (v := (.bool false)) rfl rfl (r_move rfl) ?_
                        refine lp (b := false) 140 rfl rfl rfl rfl rfl ?_
                        refine lp (b := false) 140 rfl rfl rfl rfl rfl ?_
                        refine lp (b := false) 140 rfl rfl rfl rfl rfl ?_
                        refine lpU 143 rfl rfl rfl rfl ?_
                        refine lpU 143 rfl rfl rfl rfl ?_
                        refine lpU 143 rfl rfl rfl rfl ?_
                        refine lp (b := false) 140 rfl rfl rfl rfl rfl ?_
                        refine lv (v := (.bool false)) rfl rfl (r_pickF rfl rfl) ?_
                        refine lnil ?_
                        exact ⟨col_128, false, hm, hst, h0, h_124, h_116, h_26, rfl, rfl, rfl, rfl, rfl, rfl, rfl, rfl, rfl, rfl, rfl⟩
              · rw [if_neg (by rw [hb]; decide)] at hm
                clear hb
                refine wexit (inB_hit ?_)
                refine wseq ?_
                refine wregion ?_
                refine lv (v := (.slice a_114 out_113.length cap_115)) rfl rfl (r_move rfl) ?_
                refine lv (v := (.slice a_114 out_113.length cap_115)) rfl rfl (r_assign rfl) ?_
                refine lnil ?_
                refine wret ?_
                obtain ⟨hnn, hm⟩ := chk_some hm
                cases hm
                exact ⟨rfl, colF w0.heap.size col col_112 (fun n => bif Nat.beq n 4 then c1 else 0), a_114, cap_115, rfl, hst.fin (fun n => bif Nat.beq n 4 then c1 else 0), hst.finOwn (g := (fun n => bif Nat.beq n 4 then c1 else 0)) rfl h_116 (by decide) (by decide) rfl, (fun h => absurd h hnn)⟩
        | cons x_103 l_104 =>
          obtain ⟨hat, hl2, hlt⟩ := drop_get hl
          have hk : (k_98 : Int) < (e_91.length : Int) := by omega
          have hkb := decide_eq_true hk
          rw [m_dag_ring_L3.eq_2] at hm
          refine wseq ?_
          refine wregion ?_
          refine lv (v := (.bool (decide ((k_98 : Int) < (e_91.length : Int))))) rfl rfl (r_lss (k_98 : Int) (e_91.length : Int) rfl rfl) ?_
          refine lnil ?_
          refine wseq ?_
          refine wcondT (congrArg Value.bool hkb) ?_
          refine wskip ?_
          refine wseq ?_
          refine Wp.cut (fun f w_156 => ∃ (col_157 : Col) (best_158 : Int), m_dag_ring_J6 (m_dag_ring_L3 N p0_parents p2_s p3_most far_25 l_104) best_158 = some r ∧ St w0 (col0 col) col_157 w_156 ∧ Sl (Rep.slice (Rep.int .i64)) col_157 w_156 a0 cap0 p0_parents ∧ Sl (Rep.int .i64) col_157 w_156 a_95 cap_96 e_91 ∧ MapO (Value.int .i64) (Value.int .i64) 1 col_157 w_156 g_24 far_25 ∧ f 0 = (.slice a0 p0_parents.length cap0) ∧ f 16 = (.int .i64 best_158) ∧ f 2 = (.int .i64 p2_s) ∧ f 3 = (.int .i64 p3_most) ∧ f 88 = (.slice a_95 e_91.length cap_96) ∧ f 89 = (.int .i64 (e_91.length : Int)) ∧ f 9 = (.map (some g_24)) ∧ f 90 = (.int .i64 (k_98 : Int)) ∧ f 1000000 = (enc [])) ?_ ?_
          · intro f w_156 hJ
            obtain ⟨col_157, best_158, hm, hst, h0, h_97, h_26, hs0, hs16, hs2, hs3, hs88, hs89, hs9, hs90, hs1000000⟩ := hJ
            rw [m_dag_ring_J6.eq_1] at hm
            refine .ld (d := 0) (v := (.slice a0 p0_parents.length cap0)) hs0 ?_
            refine .ld (d := 16) (v := (.int .i64 best_158)) hs16 ?_
            refine .ld (d := 2) (v := (.int .i64 p2_s)) hs2 ?_
            refine .ld (d := 3) (v := (.int .i64 p3_most)) hs3 ?_
            refine .ld (d := 88) (v := (.slice a_95 e_91.length cap_96)) hs88 ?_
            refine .ld (d := 89) (v := (.int .i64 (e_91.length : Int))) hs89 ?_
            refine .ld (d := 9) (v := (.map (some g_24))) hs9 ?_
            refine .ld (d := 90) (v := (.int .i64 (k_98 : Int))) hs90 ?_
            refine .ld (d := 1000000) (v := (enc [])) hs1000000 ?_
            clear hs0 hs16 hs2 hs3 hs88 hs89 hs9 hs90 hs1000000
            refine wregion ?_
            refine lv (v := (.int .i64 (IntKind.i64.wrap ((k_98 : Int) + 1)))) rfl rfl (r_add (k_98 : Int) 1 rfl rfl) ?_
            refine lv (v := (.int .i64 (IntKind.i64.wrap ((k_98 : Int) + 1)))) rfl rfl (r_move rfl) ?_
            refine lnil ?_
            exact ⟨l_104.length, by simp, ⟨col_157, best_158, (k_98 + 1), l_104, rfl, hl2, hm, hst, h0, h_97, h_26, (congrArg (Value.int .i64) (wrap_succ (Nat.lt_of_lt_of_le hlt h_97.1.1))), rfl, rfl, rfl, rfl, rfl, rfl, rfl, rfl⟩⟩
          · refine wblock ?_
            refine wseq ?_
            refine wregion ?_
            refine lv (v := (sptr a_95 (Int.toNat (k_98 : Int) * 1))) rfl rfl (r_idx Try.underlying31 Try.sizeOf3 rfl rfl (at?_some hat).1 (at?_some hat).2.1 (h_97.addr hat)) ?_
            refine lv (v := (.int .i64 x_103)) rfl rfl (r_ld Try.isAgg3 rfl (h_97.atInt hat)) ?_
            refine lv (v := (.int .i64 x_103)) rfl rfl (r_assign rfl) ?_
            refine lnil ?_
            refine wseq ?_
            refine wregion ?_
            refine lv (v := (.map (some g_24))) rfl rfl (r_move rfl) ?_
            refine lv (v := (.int .i64 x_103)) rfl rfl (r_move rfl) ?_
            refine lv (v := (.tuple #[(.int .i64 ((mget far_25 x_103).getD 0)), (.bool ((mget far_25 x_103).isSome))])) rfl rfl (r_lookupOk KeyD.int h_26 Try.underlying51 Try.underlying3 Try.zeroValue3 rfl rfl) ?_
            refine lv (v := (.tuple #[(.int .i64 ((mget far_25 x_103).getD 0)), (.bool ((mget far_25 x_103).isSome))])) rfl rfl (r_move rfl) ?_
            refine lv (v := (.int .i64 ((mget far_25 x_103).getD 0))) rfl rfl (r_extract rfl rfl) ?_
            refine lv (v := (.bool ((mget far_25 x_103).isSome))) rfl rfl (r_extract rfl rfl) ?_
            refine lv (v := (.int .i64 ((mget far_25 x_103).getD 0))) rfl rfl (r_assign rfl) ?_
            refine lv (v := (.bool ((mget far_25 x_103).isSome))) rfl rfl (r_assign rfl) ?_
            refine lnil ?_
            refine wseq ?_
            refine wregion ?_
            refine lv (v := (.bool ((mget far_25 x_103).isSome))) rfl rfl (r_move rfl) ?_
            refine lnil ?_
            refine wcond ((mget far_25 x_103).isSome) rfl (fun hb => ?_) (fun hb => ?_)
            · rw [if_pos hb] at hm
              clear hb
              refine wregion ?_
              refine lv (v := (.int .i64 best_102)) rfl rfl (r_move rfl) ?_
              refine lv (v := (.int .i64 ((mget far_25 x_103).getD 0))) rfl rfl (r_move rfl) ?_
              refine lv (v := (.int .i64 (IntKind.i64.wrap (((mget far_25 x_103).getD 0) + 1)))) rfl rfl (r_add ((mget far_25 x_103).getD 0) 1 rfl rfl) ?_
              refine lv (v := (.int .i64 (if (IntKind.i64.wrap (((mget far_25 x_103).getD 0) + 1)) < best_102 then (IntKind.i64.wrap (((mget far_25 x_103).getD 0) + 1)) else best_102))) rfl rfl (r_min best_102 (IntKind.i64.wrap (((mget far_25 x_103).getD 0) + 1)) rfl rfl) ?_
              refine lv (v := (.int .i64 (if (IntKind.i64.wrap (((mget far_25 x_103).getD 0) + 1)) < best_102 then (IntKind.i64.wrap (((mget far_25 x_103).getD 0) + 1)) else best_102))) rfl rfl (r_assign rfl) ?_
              refine lnil ?_
              exact ⟨col_101, (if (IntKind.i64.wrap (((mget far_25 x_103).getD 0) + 1)) < best_102 then (IntKind.i64.wrap (((mget far_25 x_103).getD 0) + 1)) else best_102), hm, hst, h0, h_97, h_26, rfl, rfl, rfl, rfl, rfl, rfl, rfl, rfl, rfl⟩
            · rw [if_neg (by rw [hb]; decide)] at hm
              clear hb
              refine wskip ?_
              exact ⟨col_101, best_102, hm, hst, h0, h_97, h_26, rfl, rfl, rfl, rfl, rfl, rfl, rfl, rfl, rfl⟩
    · refine wregion ?_
      refine lv (v := (.slice a_21 next_20.length cap_22)) rfl rfl (r_move rfl) ?_
      refine lv (v := (.int .i64 (next_20.length : Int))) rfl rfl (r_len Try.underlying31 rfl) ?_
      refine lv (v := (.bool (decide (0 < (next_20.length : Int))))) rfl rfl (r_gtr (next_20.length : Int) 0 rfl rfl) ?_
      refine lv (v := (.bool (decide (0 < (next_20.length : Int))))) rfl rfl (r_move rfl) ?_
      by_cases hg_159 : (decide (0 < (next_20.length : Int))) = true
      · rw [if_pos hg_159] at hm
        refine lg (b := decide (0 < (next_20.length : Int))) 36 rfl rfl rfl (by rw [hg_159]; rfl) ?_
        refine lv (v := (.map (some g_24))) rfl rfl (r_move rfl) ?_
        refine lg (b := decide (0 < (next_20.length : Int))) 36 rfl rfl rfl (by rw [hg_159]; rfl) ?_
        refine lv (v := (.slice a_21 next_20.length cap_22)) rfl rfl (r_move rfl) ?_
        refine lg (b := decide (0 < (next_20.length : Int))) 36 rfl rfl rfl (by rw [hg_159]; rfl) ?_
        obtain ⟨e_160, hj_161, hm⟩ := bind_some hm
        refine lv (v := (sptr a_21 (Int.toNat 0 * 1))) rfl rfl (r_idx Try.underlying31 Try.sizeOf3 rfl rfl (at?_some hj_161).1 (at?_some hj_161).2.1 (h_23.addr hj_161)) ?_
        refine lg (b := decide (0 < (next_20.length : Int))) 36 rfl rfl rfl (by rw [hg_159]; rfl) ?_
        refine lv (v := (.int .i64 e_160)) rfl rfl (r_ld Try.isAgg3 rfl (h_23.atInt hj_161)) ?_
        refine lg (b := decide (0 < (next_20.length : Int))) 36 rfl rfl rfl (by rw [hg_159]; rfl) ?_
        refine lv (v := (.int .i64 ((mget far_25 e_160).getD 0))) rfl rfl (r_lookup KeyD.int h_26 Try.underlying51 Try.underlying3 Try.zeroValue3 rfl rfl) ?_
        refine lg (b := decide (0 < (next_20.length : Int))) 36 rfl rfl rfl (by rw [hg_159]; rfl) ?_
        refine lv (v := (.int .i64 p3_most)) rfl rfl (r_move rfl) ?_
        refine lg (b := decide (0 < (next_20.length : Int))) 36 rfl rfl rfl (by rw [hg_159]; rfl) ?_
        refine lv (v := (.int .i64 (IntKind.i64.wrap (p3_most - 1)))) rfl rfl (r_sub p3_most 1 rfl rfl) ?_
        refine lg (b := decide (0 < (next_20.length : Int))) 36 rfl rfl rfl (by rw [hg_159]; rfl) ?_
        refine lv (v := (.bool (decide (((mget far_25 e_160).getD 0) < (IntKind.i64.wrap (p3_most - 1)))))) rfl rfl (r_lss ((mget far_25 e_160).getD 0) (IntKind.i64.wrap (p3_most - 1)) rfl rfl) ?_
        refine lv (v := (.bool (decide (((mget far_25 e_160).getD 0) < (IntKind.i64.wrap (p3_most - 1)))))) rfl rfl (r_pickT (congrArg Value.bool hg_159) rfl) ?_
        refine lnil ?_
        exact ⟨col_19, (decide (((mget far_25 e_160).getD 0) < (IntKind.i64.wrap (p3_most - 1)))), hm, hst, h0, h1, h_23, h_26, rfl, rfl, rfl, rfl, rfl, rfl, rfl, rfl⟩
      · rw [if_neg hg_159] at hm
        replace hg_159 := Bool.eq_false_iff.2 hg_159
        refine lp (b := decide (0 < (next_20.length : Int))) 36 rfl rfl rfl rfl (by rw [hg_159]; rfl) ?_
        refine lp (b := decide (0 < (next_20.length : Int))) 36 rfl rfl rfl rfl (by rw [hg_159]; rfl) ?_
        refine lp (b := decide (0 < (next_20.length : Int))) 36 rfl rfl rfl rfl (by rw [hg_159]; rfl) ?_
        refine lp (b := decide (0 < (next_20.length : Int))) 36 rfl rfl rfl rfl (by rw [hg_159]; rfl) ?_
        refine lp (b := decide (0 < (next_20.length : Int))) 36 rfl rfl rfl rfl (by rw [hg_159]; rfl) ?_
        refine lp (b := decide (0 < (next_20.length : Int))) 36 rfl rfl rfl rfl (by rw [hg_159]; rfl) ?_
        refine lp (b := decide (0 < (next_20.length : Int))) 36 rfl rfl rfl rfl (by rw [hg_159]; rfl) ?_
        refine lp (b := decide (0 < (next_20.length : Int))) 36 rfl rfl rfl rfl (by rw [hg_159]; rfl) ?_
        refine lv (v := (.bool false)) rfl rfl (r_pickF (congrArg Value.bool hg_159) rfl) ?_
        refine lnil ?_
        exact ⟨col_19, false, hm, hst, h0, h1, h_23, h_26, rfl, rfl, rfl, rfl, rfl, rfl, rfl, rfl⟩




def m_dag_Cycle_J1 (k_36 : Nat) (kk_L2 : (Nat → (List Int) → Int → Option (List Int))) (best_49 : List Int) (most_53 : Int) : Option (List Int) :=
  kk_L2 (k_36 + 1) best_49 most_53

def m_dag_Cycle_L2 (N : Nat) (p0_parents : (List (List Int))) (r_5 : (List (List Int))) (out_32 : List (Int × Int)) : List (List Int) → Nat → (List Int) → Int → Option (List Int)
  | [], k_36, best_40, most_44 => some best_40
  | x_45 :: l_46, k_36, best_40, most_44 => if (decide (0 < ((mget out_32 (k_36 : Int)).getD 0))) = true then (m_dag_Cycle_J1 k_36 (m_dag_Cycle_L2 N p0_parents r_5 out_32 l_46) best_40 most_44) else ((m_dag_ring N p0_parents r_5 (k_36 : Int) most_44).bind fun r_54 => if (!decide (r_54 = [])) = true then (m_dag_Cycle_J1 k_36 (m_dag_Cycle_L2 N p0_parents r_5 out_32 l_46) r_54 (r_54.length : Int)) else (m_dag_Cycle_J1 k_36 (m_dag_Cycle_L2 N p0_parents r_5 out_32 l_46) best_40 most_44))

def m_dag_Cycle_L1 (N : Nat) (p0_parents : (List (List Int))) (r_5 : (List (List Int))) : List Int → (List (Int × Int)) → Option (List Int)
  | [], out_32 => m_dag_Cycle_L2 N p0_parents r_5 out_32 p0_parents 0 ([] : List Int) (IntKind.i64.wrap ((p0_parents.length : Int) + 1))
  | x_34 :: l_35, out_32 => (some (mput out_32 x_34 1)).bind fun es_68 => (m_dag_Cycle_L1 N p0_parents r_5 l_35) es_68

def m_dag_Cycle (N : Nat) (p0_parents : (List (List Int))) : Option (List Int) :=
  (m_dag_Check N p0_parents).bind fun r_1 => if (!decide (r_1 = 42)) = true then (some ([] : List Int)) else ((m_dag_children p0_parents).bind fun r_5 => (m_dag_sorted N p0_parents r_5).bind fun r_18 => m_dag_Cycle_L1 N p0_parents r_5 r_18 ([] : List (Int × Int)))

set_option maxRecDepth 100000 in
theorem c_dag_Cycle (N : Nat) (c1 : Nat) (col : Col) (w0 : World) (a0 : Option Addr) (cap0 : Nat) (p0_parents : (List (List Int))) (h0 : Sl (Rep.slice (Rep.int .i64)) col w0 a0 cap0 p0_parents) (r : (List Int)) (hm : m_dag_Cycle N p0_parents = some r) :
    Calls Try.prog 17 #[(.slice a0 p0_parents.length cap0)] w0 (fun e w' => ∃ (col' : Col) (ra1 : Option Addr) (rc2 : Nat), e = .returned ((.slice ra1 r.length rc2)) ∧ Grow col w0 col' w' ∧ Own (Rep.int .i64) 3 c1 col' w' ra1 rc2 r) := by
  refine calls_of1 2 (m := 54) (args := [(.slice a0 p0_parents.length cap0)]) Try.func17 rfl rfl rfl rfl rfl ?_
  rw [m_dag_Cycle.eq_1] at hm
  have hst := St.start col w0
  replace h0 := h0.keep (Stay.start col w0)
  refine wseq ?_
  refine wregion ?_
  refine lv (v := (.slice none (([] : List Int).length) 0)) rfl rfl (r_assign rfl) ?_
  refine lnil ?_
  refine wseq ?_
  refine wseq ?_
  refine wregion ?_
  refine lv (v := (.slice a0 p0_parents.length cap0)) rfl rfl (r_move rfl) ?_
  obtain ⟨r_1, hr_2, hm⟩ := bind_some hm
  refine lc rfl rfl (r_call1 Try.call18 rfl) (c_dag_Check N (col0 col) _ a0 cap0 p0_parents h0 r_1 hr_2) ?_
  rintro _ w_3 ⟨rfl, hg_4⟩
  refine ⟨_, rfl, ?_⟩
  replace hg_4 : Grow (col0 col) w0 (col0 col) w_3 := .of_below hg_4
  replace h0 := h0.gr hg_4
  replace hst := hst.grow hg_4
  refine lv (v := (.bool (!decide (r_1 = 42)))) rfl rfl (r_neq r_1 42 rfl rfl) ?_
  refine lnil ?_
  refine wcond (!decide (r_1 = 42)) rfl (fun hb => ?_) (fun hb => ?_)
  · rw [if_pos hb] at hm
    clear hb
    refine wseq ?_
    refine wregion ?_
    refine lv (v := (.slice none (([] : List Int).length) 0)) rfl rfl (r_assign rfl) ?_
    refine lnil ?_
    refine wret ?_
    cases hm
    exact ⟨rfl, colF w0.heap.size col (col0 col) (fun n => 0), none, 0, rfl, hst.fin (fun n => 0), Own.nil⟩
  · rw [if_neg (by rw [hb]; decide)] at hm
    clear hb
    refine wskip ?_
    refine wseq ?_
    refine wregion ?_
    refine lv (v := (.slice a0 p0_parents.length cap0)) rfl rfl (r_move rfl) ?_
    obtain ⟨r_5, hr_6, hm⟩ := bind_some hm
    refine lc rfl rfl (r_call1 Try.call29 rfl) (c_dag_children 1 (col0 col) _ a0 cap0 p0_parents h0 r_5 hr_6) ?_
    rintro _ w_10 ⟨col_12, ra_7, rc_8, rfl, hg_11, rh_9⟩
    refine ⟨_, rfl, ?_⟩
    replace h0 := h0.gr hg_11
    replace hst := hst.grow hg_11
    refine lv (v := (.slice ra_7 r_5.length rc_8)) rfl rfl (r_assign rfl) ?_
    refine lnil ?_
    refine wseq ?_
    refine wregion ?_
    refine lv (v := (.slice a0 p0_parents.length cap0)) rfl rfl (r_move rfl) ?_
    refine lv (v := (.int .i64 (p0_parents.length : Int))) rfl rfl (r_len Try.underlying22 rfl) ?_
    refine l_makeMapN (col := col_12) (fk := (Value.int .i64)) (fv := (Value.int .i64)) 2 rfl Try.underlying51 rfl ?_
    intro g_13 w_14 col_15 hg_16 h_17
    replace h0 := h0.gr hg_16
    replace rh_9 := rh_9.gr hg_16
    replace hst := hst.grow hg_16
    refine lv (v := (.map (some g_13))) rfl rfl (r_assign rfl) ?_
    refine lnil ?_
    refine wseq ?_
    refine wseq ?_
    refine wregion ?_
    refine lv (v := (.slice a0 p0_parents.length cap0)) rfl rfl (r_move rfl) ?_
    refine lv (v := (.slice ra_7 r_5.length rc_8)) rfl rfl (r_move rfl) ?_
    obtain ⟨r_18, hr_19, hm⟩ := bind_some hm
    refine lc rfl rfl (r_call2 Try.call28 rfl rfl) (c_dag_sorted N 3 (frC 1 col_15) _ a0 cap0 p0_parents ra_7 rc_8 r_5 (h0.froz 1) (rh_9.toSlF (Froz.row (Froz.int .i64))) r_18 hr_19) ?_
    rintro _ w_23 ⟨col_25, ra_20, rc_21, rfl, hg_24, rh_22⟩
    refine ⟨_, rfl, ?_⟩
    replace rh_22 := rh_22.thaw (flat_int .i64) hg_24 ((Fz.refl (col := col_15)).froz 1) (by decide)
    replace hg_24 := hg_24.thawR (col := col_15)
    generalize colR w_14.heap.size col_15 col_25 = col_26 at *
    replace h0 := h0.gr hg_24
    replace rh_9 := rh_9.gr hg_24
    replace h_17 := h_17.gr hg_24
    replace hst := hst.grow hg_24
    refine lv (v := (.int .i64 (r_18.length : Int))) rfl rfl (r_len Try.underlying31 rfl) ?_
    refine lv (v := (.int .i64 0)) rfl rfl (r_move rfl) ?_
    refine lnil ?_
    refine wblock ?_
    refine wloop (fun n f w_29 => ∃ (col_30 : Col) (k_27 : Nat) (g_31 : Nat) (out_32 : List (Int × Int)) (l_28 : List Int), n = l_28.length ∧ r_18.drop k_27 = l_28 ∧ m_dag_Cycle_L1 N p0_parents r_5 l_28 out_32 = some r ∧ St w0 (col0 col) col_30 w_29 ∧ Sl (Rep.slice (Rep.int .i64)) col_30 w_29 a0 cap0 p0_parents ∧ Own (Rep.int .i64) 3 3 col_30 w_29 ra_20 rc_21 r_18 ∧ Own (Rep.row 3 (Rep.int .i64)) 31 1 col_30 w_29 ra_7 rc_8 r_5 ∧ MapO (Value.int .i64) (Value.int .i64) 2 col_30 w_29 g_31 out_32 ∧ f 23 = (.int .i64 (k_27 : Int)) ∧ f 0 = (.slice a0 p0_parents.length cap0) ∧ f 21 = (.slice ra_20 r_18.length rc_21) ∧ f 22 = (.int .i64 (r_18.length : Int)) ∧ f 3 = (.slice ra_7 r_5.length rc_8) ∧ f 4 = (.map (some g_31)) ∧ f 1000000 = (enc [])) r_18.length ⟨col_26, 0, g_13, ([] : List (Int × Int)), r_18, rfl, rfl, hm, hst, h0, rh_22, rh_9, h_17, rfl, rfl, rfl, rfl, rfl, rfl, rfl⟩ ?_
    clear hm; intro n f w_29 hI
    obtain ⟨col_30, k_27, g_31, out_32, l_28, hn, hl, hm, hst, h0, rh_22, rh_9, h_33, hs23, hs0, hs21, hs22, hs3, hs4, hs1000000⟩ := hI
    subst hn
    refine .ld (d := 23) (v := (.int .i64 (k_27 : Int))) hs23 ?_
    refine .ld (d := 0) (v := (.slice a0 p0_parents.length cap0)) hs0 ?_
    refine .ld (d := 21) (v := (.slice ra_20 r_18.length rc_21)) hs21 ?_
    refine .ld (d := 22) (v := (.int .i64 (r_18.length : Int))) hs22 ?_
    refine .ld (d := 3) (v := (.slice ra_7 r_5.length rc_8)) hs3 ?_
    refine .ld (d := 4) (v := (.map (some g_31))) hs4 ?_
    refine .ld (d := 1000000) (v := (enc [])) hs1000000 ?_
    clear hs23 hs0 hs21 hs22 hs3 hs4 hs1000000
    cases l_28 with
    | nil =>
      have hk : ¬ ((k_27 : Int) < (r_18.length : Int)) := by have := List.drop_eq_nil_iff.1 hl; omega
      have hkb := decide_eq_false hk
      rw [m_dag_Cycle_L1.eq_1] at hm
      refine wseq ?_
      refine wregion ?_
      refine lv (v := (.bool (decide ((k_27 : Int) < (r_18.length : Int))))) rfl rfl (r_lss (k_27 : Int) (r_18.length : Int) rfl rfl) ?_
      refine lnil ?_
      refine wseq ?_
      refine wcondF (congrArg Value.bool hkb) ?_
      refine wexit (inB_hit ?_)
      refine wseq ?_
      refine wregion ?_
      refine lv (v := (.slice none (([] : List Int).length) 0)) rfl rfl (r_assign rfl) ?_
      refine lnil ?_
      refine wseq ?_
      refine wregion ?_
      refine lv (v := (.slice a0 p0_parents.length cap0)) rfl rfl (r_move rfl) ?_
      refine lv (v := (.int .i64 (p0_parents.length : Int))) rfl rfl (r_len Try.underlying22 rfl) ?_
      refine lv (v := (.int .i64 (IntKind.i64.wrap ((p0_parents.length : Int) + 1)))) rfl rfl (r_add (p0_parents.length : Int) 1 rfl rfl) ?_
      refine lv (v := (.int .i64 (IntKind.i64.wrap ((p0_parents.length : Int) + 1)))) rfl rfl (r_assign rfl) ?_
      refine lnil ?_
      refine wseq ?_
      refine wseq ?_
      refine wregion ?_
      refine lv (v := (.slice a0 p0_parents.length cap0)) rfl rfl (r_move rfl) ?_
      refine lv (v := (.int .i64 (p0_parents.length : Int))) rfl rfl (r_len Try.underlying22 rfl) ?_
      refine lv (v := (.int .i64 0)) rfl rfl (r_move rfl) ?_
      refine lnil ?_
      refine wblock ?_
      refine wloop (fun n f w_38 => ∃ (col_39 : Col) (k_36 : Nat) (a_41 : Option Addr) (cap_42 : Nat) (best_40 : List Int) (most_44 : Int) (l_37 : List (List Int)), n = l_37.length ∧ p0_parents.drop k_36 = l_37 ∧ m_dag_Cycle_L2 N p0_parents r_5 out_32 l_37 k_36 best_40 most_44 = some r ∧ St w0 (col0 col) col_39 w_38 ∧ Sl (Rep.slice (Rep.int .i64)) col_39 w_38 a0 cap0 p0_parents ∧ Own (Rep.row 3 (Rep.int .i64)) 31 1 col_39 w_38 ra_7 rc_8 r_5 ∧ MapO (Value.int .i64) (Value.int .i64) 2 col_39 w_38 g_31 out_32 ∧ Own (Rep.int .i64) 3 4 col_39 w_38 a_41 cap_42 best_40 ∧ f 35 = (.int .i64 (k_36 : Int)) ∧ f 0 = (.slice a0 p0_parents.length cap0) ∧ f 3 = (.slice ra_7 r_5.length rc_8) ∧ f 34 = (.int .i64 (p0_parents.length : Int)) ∧ f 4 = (.map (some g_31)) ∧ f 7 = (.slice a_41 best_40.length cap_42) ∧ f 8 = (.int .i64 most_44) ∧ f 1000000 = (enc [])) p0_parents.length ⟨col_30, 0, none, 0, ([] : List Int), (IntKind.i64.wrap ((p0_parents.length : Int) + 1)), p0_parents, rfl, rfl, hm, hst, h0, rh_9, h_33, Own.nil, rfl, rfl, rfl, rfl, rfl, rfl, rfl, rfl⟩ ?_
      clear hm; intro n f w_38 hI
      obtain ⟨col_39, k_36, a_41, cap_42, best_40, most_44, l_37, hn, hl, hm, hst, h0, rh_9, h_33, h_43, hs35, hs0, hs3, hs34, hs4, hs7, hs8, hs1000000⟩ := hI
      subst hn
      refine .ld (d := 35) (v := (.int .i64 (k_36 : Int))) hs35 ?_
      refine .ld (d := 0) (v := (.slice a0 p0_parents.length cap0)) hs0 ?_
      refine .ld (d := 3) (v := (.slice ra_7 r_5.length rc_8)) hs3 ?_
      refine .ld (d := 34) (v := (.int .i64 (p0_parents.length : Int))) hs34 ?_
      refine .ld (d := 4) (v := (.map (some g_31))) hs4 ?_
      refine .ld (d := 7) (v := (.slice a_41 best_40.length cap_42)) hs7 ?_
      refine .ld (d := 8) (v := (.int .i64 most_44)) hs8 ?_
      refine .ld (d := 1000000) (v := (enc [])) hs1000000 ?_
      clear hs35 hs0 hs3 hs34 hs4 hs7 hs8 hs1000000
      cases l_37 with
      | nil =>
        have hk : ¬ ((k_36 : Int) < (p0_parents.length : Int)) := by have := List.drop_eq_nil_iff.1 hl; omega
        have hkb := decide_eq_false hk
        rw [m_dag_Cycle_L2.eq_1] at hm
        refine wseq ?_
        refine wregion ?_
        refine lv (v := (.bool (decide ((k_36 : Int) < (p0_parents.length : Int))))) rfl rfl (r_lss (k_36 : Int) (p0_parents.length : Int) rfl rfl) ?_
        refine lnil ?_
        refine wseq ?_
        refine wcondF (congrArg Value.bool hkb) ?_
        refine wexit (inB_hit ?_)
        refine wseq ?_
        refine wregion ?_
        refine lv (v := (.slice a_41 best_40.length cap_42)) rfl rfl (r_move rfl) ?_
        refine lv (v := (.slice a_41 best_40.length cap_42)) rfl rfl (r_assign rfl) ?_
        refine lnil ?_
        refine wret ?_
        cases hm
        exact ⟨rfl, colF w0.heap.size col col_39 (fun n => bif Nat.beq n 4 then c1 else 0), a_41, cap_42, rfl, hst.fin (fun n => bif Nat.beq n 4 then c1 else 0), hst.finOwn (g := (fun n => bif Nat.beq n 4 then c1 else 0)) rfl h_43 (by decide) (by decide) rfl⟩
      | cons x_45 l_46 =>
        obtain ⟨hat, hl2, hlt⟩ := drop_get hl
        have hk : (k_36 : Int) < (p0_parents.length : Int) := by omega
        have hkb := decide_eq_true hk
        rw [m_dag_Cycle_L2.eq_2] at hm
        refine wseq ?_
        refine wregion ?_
        refine lv (v := (.bool (decide ((k_36 : Int) < (p0_parents.length : Int))))) rfl rfl (r_lss (k_36 : Int) (p0_parents.length : Int) rfl rfl) ?_
        refine lnil ?_
        refine wseq ?_
        refine wcondT (congrArg Value.bool hkb) ?_
        refine wskip ?_
        refine wseq ?_
        refine Wp.cut (fun f w_47 => ∃ (col_48 : Col) (a_50 : Option Addr) (cap_51 : Nat) (best_49 : List Int) (most_53 : Int), m_dag_Cycle_J1 k_36 (m_dag_Cycle_L2 N p0_parents r_5 out_32 l_46) best_49 most_53 = some r ∧ St w0 (col0 col) col_48 w_47 ∧ Sl (Rep.slice (Rep.int .i64)) col_48 w_47 a0 cap0 p0_parents ∧ Own (Rep.row 3 (Rep.int .i64)) 31 1 col_48 w_47 ra_7 rc_8 r_5 ∧ MapO (Value.int .i64) (Value.int .i64) 2 col_48 w_47 g_31 out_32 ∧ Own (Rep.int .i64) 3 4 col_48 w_47 a_50 cap_51 best_49 ∧ f 0 = (.slice a0 p0_parents.length cap0) ∧ f 3 = (.slice ra_7 r_5.length rc_8) ∧ f 34 = (.int .i64 (p0_parents.length : Int)) ∧ f 35 = (.int .i64 (k_36 : Int)) ∧ f 4 = (.map (some g_31)) ∧ f 7 = (.slice a_50 best_49.length cap_51) ∧ f 8 = (.int .i64 most_53) ∧ f 1000000 = (enc [])) ?_ ?_
        · intro f w_47 hJ
          obtain ⟨col_48, a_50, cap_51, best_49, most_53, hm, hst, h0, rh_9, h_33, h_52, hs0, hs3, hs34, hs35, hs4, hs7, hs8, hs1000000⟩ := hJ
          rw [m_dag_Cycle_J1.eq_1] at hm
          refine .ld (d := 0) (v := (.slice a0 p0_parents.length cap0)) hs0 ?_
          refine .ld (d := 3) (v := (.slice ra_7 r_5.length rc_8)) hs3 ?_
          refine .ld (d := 34) (v := (.int .i64 (p0_parents.length : Int))) hs34 ?_
          refine .ld (d := 35) (v := (.int .i64 (k_36 : Int))) hs35 ?_
          refine .ld (d := 4) (v := (.map (some g_31))) hs4 ?_
          refine .ld (d := 7) (v := (.slice a_50 best_49.length cap_51)) hs7 ?_
          refine .ld (d := 8) (v := (.int .i64 most_53)) hs8 ?_
          refine .ld (d := 1000000) (v := (enc [])) hs1000000 ?_
          clear hs0 hs3 hs34 hs35 hs4 hs7 hs8 hs1000000
          refine wregion ?_
          refine lv (v := (.int .i64 (IntKind.i64.wrap ((k_36 : Int) + 1)))) rfl rfl (r_add (k_36 : Int) 1 rfl rfl) ?_
          refine lv (v := (.int .i64 (IntKind.i64.wrap ((k_36 : Int) + 1)))) rfl rfl (r_move rfl) ?_
          refine lnil ?_
          exact ⟨l_46.length, by simp, ⟨col_48, (k_36 + 1), a_50, cap_51, best_49, most_53, l_46, rfl, hl2, hm, hst, h0, rh_9, h_33, h_52, (congrArg (Value.int .i64) (wrap_succ (Nat.lt_of_lt_of_le hlt h0.1.1))), rfl, rfl, rfl, rfl, rfl, rfl, rfl⟩⟩
        · refine wblock ?_
          refine wseq ?_
          refine wregion ?_
          refine lv (v := (.int .i64 (k_36 : Int))) rfl rfl (r_move rfl) ?_
          refine lv (v := (.int .i64 (k_36 : Int))) rfl rfl (r_assign rfl) ?_
          refine lnil ?_
          refine wseq ?_
          refine wseq ?_
          refine wregion ?_
          refine lv (v := (.map (some g_31))) rfl rfl (r_move rfl) ?_
          refine lv (v := (.int .i64 (k_36 : Int))) rfl rfl (r_move rfl) ?_
          refine lv (v := (.int .i64 ((mget out_32 (k_36 : Int)).getD 0))) rfl rfl (r_lookup KeyD.int h_33 Try.underlying51 Try.underlying3 Try.zeroValue3 rfl rfl) ?_
          refine lv (v := (.bool (decide (0 < ((mget out_32 (k_36 : Int)).getD 0))))) rfl rfl (r_gtr ((mget out_32 (k_36 : Int)).getD 0) 0 rfl rfl) ?_
          refine lnil ?_
          refine wcond (decide (0 < ((mget out_32 (k_36 : Int)).getD 0))) rfl (fun hb => ?_) (fun hb => ?_)
          · rw [if_pos hb] at hm
            clear hb
            refine wexit (inB_hit ?_)
            exact ⟨col_39, a_41, cap_42, best_40, most_44, hm, hst, h0, rh_9, h_33, h_43, rfl, rfl, rfl, rfl, rfl, rfl, rfl, rfl⟩
          · rw [if_neg (by rw [hb]; decide)] at hm
            clear hb
            refine wskip ?_
            refine wseq ?_
            refine wregion ?_
            refine lv (v := (.slice a0 p0_parents.length cap0)) rfl rfl (r_move rfl) ?_
            refine lv (v := (.slice ra_7 r_5.length rc_8)) rfl rfl (r_move rfl) ?_
            refine lv (v := (.int .i64 (k_36 : Int))) rfl rfl (r_move rfl) ?_
            refine lv (v := (.int .i64 most_44)) rfl rfl (r_move rfl) ?_
            obtain ⟨r_54, hr_55, hm⟩ := bind_some hm
            refine lc rfl rfl (r_call4 Try.call30 rfl rfl rfl rfl) (c_dag_ring N 5 (frC 1 col_39) _ a0 cap0 p0_parents ra_7 rc_8 r_5 (k_36 : Int) most_44 (h0.froz 1) (rh_9.toSlF (Froz.row (Froz.int .i64))) r_54 hr_55) ?_
            rintro _ w_60 ⟨col_62, ra_56, rc_57, rfl, hg_61, rh_58, hnn_59⟩
            refine ⟨_, rfl, ?_⟩
            replace rh_58 := rh_58.thaw (flat_int .i64) hg_61 ((Fz.refl (col := col_39)).froz 1) (by decide)
            replace hg_61 := hg_61.thawR (col := col_39)
            generalize colR w_38.heap.size col_39 col_62 = col_63 at *
            replace h0 := h0.gr hg_61
            replace rh_9 := rh_9.gr hg_61
            replace h_33 := h_33.gr hg_61
            replace h_43 := h_43.gr hg_61
            replace hst := hst.grow hg_61
            refine lv (v := (.slice ra_56 r_54.length rc_57)) rfl rfl (r_assign rfl) ?_
            refine lnil ?_
            refine wseq ?_
            refine wregion ?_
            refine lv (v := (.slice ra_56 r_54.length rc_57)) rfl rfl (r_move rfl) ?_
            refine lv (v := .bool (!ra_56.isNone)) rfl rfl (r_neqNil Try.underlying31 rfl) ?_
            refine .ld (d := 48) (v := .bool (!decide (r_54 = []))) (congrArg (fun b => Value.bool (!b)) (nil_nnO rh_58 hnn_59)) ?_
            refine lnil ?_
            refine wcond (!decide (r_54 = [])) rfl (fun hb => ?_) (fun hb => ?_)
            · rw [if_pos hb] at hm
              clear hb
              refine wregion ?_
              refine lv (v := (.slice ra_56 r_54.length rc_57)) rfl rfl (r_move rfl) ?_
              refine lv (v := (.slice ra_56 r_54.length rc_57)) rfl rfl (r_move rfl) ?_
              refine lv (v := (.int .i64 (r_54.length : Int))) rfl rfl (r_len Try.underlying31 rfl) ?_
              refine lv (v := (.slice ra_56 r_54.length rc_57)) rfl rfl (r_assign rfl) ?_
              refine lv (v := (.int .i64 (r_54.length : Int))) rfl rfl (r_assign rfl) ?_
              refine lnil ?_
              replace h0 := h0.recol 5 4 (by decide)
              replace rh_9 := rh_9.recol 5 4 (by decide)
              replace h_33 := h_33.recol 5 4 (by decide)
              replace rh_58 := rh_58.recolSelf 4 (by decide)
              replace hst := hst.recol 5 4 (by decide) (by decide)
              exact ⟨(rcC 5 4 col_63), ra_56, rc_57, r_54, (r_54.length : Int), hm, hst, h0, rh_9, h_33, rh_58, rfl, rfl, rfl, rfl, rfl, rfl, rfl, rfl⟩
            · rw [if_neg (by rw [hb]; decide)] at hm
              clear hb
              refine wskip ?_
              exact ⟨col_63, a_41, cap_42, best_40, most_44, hm, hst, h0, rh_9, h_33, h_43, rfl, rfl, rfl, rfl, rfl, rfl, rfl, rfl⟩
    | cons x_34 l_35 =>
      obtain ⟨hat, hl2, hlt⟩ := drop_get hl
      have hk : (k_27 : Int) < (r_18.length : Int) := by omega
      have hkb := decide_eq_true hk
      rw [m_dag_Cycle_L1.eq_2] at hm
      refine wseq ?_
      refine wregion ?_
      refine lv (v := (.bool (decide ((k_27 : Int) < (r_18.length : Int))))) rfl rfl (r_lss (k_27 : Int) (r_18.length : Int) rfl rfl) ?_
      refine lnil ?_
      refine wseq ?_
      refine wcondT (congrArg Value.bool hkb) ?_
      refine wskip ?_
      refine wseq ?_
      refine wblock ?_
      refine wseq ?_
      refine wregion ?_
      refine lv (v := (sptr ra_20 (Int.toNat (k_27 : Int) * 1))) rfl rfl (r_idx Try.underlying31 Try.sizeOf3 rfl rfl (at?_some hat).1 (at?_some hat).2.1 (rh_22.addr hat)) ?_
      refine lv (v := (.int .i64 x_34)) rfl rfl (r_ld Try.isAgg3 rfl (rh_22.atInt hat)) ?_
      refine lv (v := (.int .i64 x_34)) rfl rfl (r_assign rfl) ?_
      refine lnil ?_
      refine wregion ?_
      refine lv (v := (.map (some g_31))) rfl rfl (r_move rfl) ?_
      refine lv (v := (.int .i64 x_34)) rfl rfl (r_move rfl) ?_
      obtain ⟨es_68, hz_69, hm⟩ := bind_some hm
      have hz_69 : es_68 = mput out_32 x_34 1 := (Option.some.inj hz_69).symm
      refine l_mapUpdate (k := x_34) (v := 1) KeyD.int h_33 Try.underlying51 Try.underlying3 rfl rfl rfl ?_
      intro w_64 hk_65 hs_66 h_67
      rw [← hz_69] at h_67
      clear hz_69
      replace h0 := h0.kp hk_65 (by decide)
      replace rh_22 := rh_22.kp hk_65 (by decide) (by decide)
      replace rh_9 := rh_9.kp hk_65 (by decide) (by decide)
      replace hst := hst.kp hk_65 hs_66 (by decide) (by decide)
      clear h_33
      refine lnil ?_
      refine wregion ?_
      refine lv (v := (.int .i64 (IntKind.i64.wrap ((k_27 : Int) + 1)))) rfl rfl (r_add (k_27 : Int) 1 rfl rfl) ?_
      refine lv (v := (.int .i64 (IntKind.i64.wrap ((k_27 : Int) + 1)))) rfl rfl (r_move rfl) ?_
      refine lnil ?_
      exact ⟨l_35.length, by simp, ⟨col_30, (k_27 + 1), g_31, es_68, l_35, rfl, hl2, hm, hst, h0, rh_22, rh_9, h_67, (congrArg (Value.int .i64) (wrap_succ (Nat.lt_of_lt_of_le hlt rh_22.len))), rfl, rfl, rfl, rfl, rfl, rfl⟩⟩




def m_credenceref14_Same_L1 (N : Nat) (p0_a : (List Int)) (p1_b : (List Int)) : Nat → Int → Option Bool
  | 0, _ => none
  | n_1 + 1, i_4 => if (decide (i_4 < (p0_a.length : Int))) = true then ((at? p0_a i_4).bind fun e_5 => (at? p1_b i_4).bind fun e_7 => if (!decide (e_5 = e_7)) = true then (some false) else ((m_credenceref14_Same_L1 N p0_a p1_b n_1) (IntKind.i64.wrap (i_4 + 1)))) else (some true)

def m_credenceref14_Same (N : Nat) (p0_a : (List Int)) (p1_b : (List Int)) : Option Bool :=
  if (!decide ((p0_a.length : Int) = (p1_b.length : Int))) = true then (some false) else (m_credenceref14_Same_L1 N p0_a p1_b N 0)

set_option maxRecDepth 100000 in
theorem c_credenceref14_Same (N : Nat) (col : Col) (w0 : World) (a0 : Option Addr) (cap0 : Nat) (p0_a : (List Int)) (a1 : Option Addr) (cap1 : Nat) (p1_b : (List Int)) (h0 : Sl (Rep.int .i64) col w0 a0 cap0 p0_a) (h1 : Sl (Rep.int .i64) col w0 a1 cap1 p1_b) (r : Bool) (hm : m_credenceref14_Same N p0_a p1_b = some r) :
    Calls Try.prog 12 #[(.slice a0 p0_a.length cap0), (.slice a1 p1_b.length cap1)] w0 (fun e w' => e = .returned ((.bool r)) ∧ Below w0.heap.size w0 w') := by
  refine calls_of1 4 (m := 26) (args := [(.slice a0 p0_a.length cap0), (.slice a1 p1_b.length cap1)]) Try.func12 rfl rfl rfl rfl rfl ?_
  rw [m_credenceref14_Same.eq_1] at hm
  have hst := St.start col w0
  replace h0 := h0.keep (Stay.start col w0)
  replace h1 := h1.keep (Stay.start col w0)
  refine wseq ?_
  refine wregion ?_
  refine lv (v := (.bool false)) rfl rfl (r_assign rfl) ?_
  refine lnil ?_
  refine wseq ?_
  refine wseq ?_
  refine wregion ?_
  refine lv (v := (.slice a0 p0_a.length cap0)) rfl rfl (r_move rfl) ?_
  refine lv (v := (.int .i64 (p0_a.length : Int))) rfl rfl (r_len Try.underlying31 rfl) ?_
  refine lv (v := (.slice a1 p1_b.length cap1)) rfl rfl (r_move rfl) ?_
  refine lv (v := (.int .i64 (p1_b.length : Int))) rfl rfl (r_len Try.underlying31 rfl) ?_
  refine lv (v := (.bool (!decide ((p0_a.length : Int) = (p1_b.length : Int))))) rfl rfl (r_neq (p0_a.length : Int) (p1_b.length : Int) rfl rfl) ?_
  refine lnil ?_
  refine wcond (!decide ((p0_a.length : Int) = (p1_b.length : Int))) rfl (fun hb => ?_) (fun hb => ?_)
  · rw [if_pos hb] at hm
    clear hb
    refine wseq ?_
    refine wregion ?_
    refine lv (v := (.bool false)) rfl rfl (r_assign rfl) ?_
    refine lnil ?_
    refine wret ?_
    cases hm
    exact ⟨rfl, rfl, hst.below⟩
  · rw [if_neg (by rw [hb]; decide)] at hm
    clear hb
    refine wskip ?_
    refine wseq ?_
    refine wseq ?_
    refine wregion ?_
    refine lv (v := (.int .i64 0)) rfl rfl (r_assign rfl) ?_
    refine lnil ?_
    refine wblock ?_
    refine wloop (fun n f w_2 => ∃ (col_3 : Col) (i_4 : Int) (n_1 : Nat), n_1 = n ∧ m_credenceref14_Same_L1 N p0_a p1_b n_1 i_4 = some r ∧ St w0 (col0 col) col_3 w_2 ∧ Sl (Rep.int .i64) col_3 w_2 a0 cap0 p0_a ∧ Sl (Rep.int .i64) col_3 w_2 a1 cap1 p1_b ∧ f 0 = (.slice a0 p0_a.length cap0) ∧ f 1 = (.slice a1 p1_b.length cap1) ∧ f 5 = (.int .i64 i_4) ∧ f 1000000 = (enc [])) N ⟨(col0 col), 0, N, rfl, hm, hst, h0, h1, rfl, rfl, rfl, rfl⟩ ?_
    clear hm; intro n f w_2 hI
    obtain ⟨col_3, i_4, n_1, hn, hm, hst, h0, h1, hs0, hs1, hs5, hs1000000⟩ := hI
    subst hn
    refine .ld (d := 0) (v := (.slice a0 p0_a.length cap0)) hs0 ?_
    refine .ld (d := 1) (v := (.slice a1 p1_b.length cap1)) hs1 ?_
    refine .ld (d := 5) (v := (.int .i64 i_4)) hs5 ?_
    refine .ld (d := 1000000) (v := (enc [])) hs1000000 ?_
    clear hs0 hs1 hs5 hs1000000
    cases n_1 with
    | zero => rw [m_credenceref14_Same_L1.eq_1] at hm; cases hm
    | succ n_1 =>
      rw [m_credenceref14_Same_L1.eq_2] at hm
      refine wseq ?_
      refine wseq ?_
      refine wregion ?_
      refine lv (v := (.int .i64 i_4)) rfl rfl (r_move rfl) ?_
      refine lv (v := (.slice a0 p0_a.length cap0)) rfl rfl (r_move rfl) ?_
      refine lv (v := (.int .i64 (p0_a.length : Int))) rfl rfl (r_len Try.underlying31 rfl) ?_
      refine lv (v := (.bool (decide (i_4 < (p0_a.length : Int))))) rfl rfl (r_lss i_4 (p0_a.length : Int) rfl rfl) ?_
      refine lnil ?_
      refine wcond (decide (i_4 < (p0_a.length : Int))) rfl (fun hb => ?_) (fun hb => ?_)
      · rw [if_pos hb] at hm
        clear hb
        refine wskip ?_
        refine wseq ?_
        refine wblock ?_
        refine wseq ?_
        refine wquiet (col := col_3) (by kernel_rfl) (by kernel_rfl) ?_
        refine qv (v := (.slice a0 p0_a.length cap0)) rfl (fun _ hC => r_move rfl) ?_
        refine qv (v := (.int .i64 i_4)) rfl (fun _ hC => r_move rfl) ?_
        obtain ⟨e_5, hj_6, hm⟩ := bind_some hm
        refine qv (v := (sptr a0 (Int.toNat i_4 * 1))) rfl (fun _ hC => r_idx Try.underlying31 Try.sizeOf3 rfl rfl (at?_some hj_6).1 (at?_some hj_6).2.1 (h0.addr hj_6)) ?_
        refine qv (v := (.int .i64 e_5)) rfl (fun _ hC => r_ld Try.isAgg3 rfl ((h0.gr (Grow.of_below (col := col_3) hC.below)).atInt hj_6)) ?_
        refine qv (v := (.slice a1 p1_b.length cap1)) rfl (fun _ hC => r_move rfl) ?_
        refine qv (v := (.int .i64 i_4)) rfl (fun _ hC => r_move rfl) ?_
        obtain ⟨e_7, hj_8, hm⟩ := bind_some hm
        refine qv (v := (sptr a1 (Int.toNat i_4 * 1))) rfl (fun _ hC => r_idx Try.underlying31 Try.sizeOf3 rfl rfl (at?_some hj_8).1 (at?_some hj_8).2.1 (h1.addr hj_8)) ?_
        refine qv (v := (.int .i64 e_7)) rfl (fun _ hC => r_ld Try.isAgg3 rfl ((h1.gr (Grow.of_below (col := col_3) hC.below)).atInt hj_8)) ?_
        refine qv (v := (.bool (!decide (e_5 = e_7)))) rfl (fun _ hC => r_neq e_5 e_7 rfl rfl) ?_
        refine qnil ?_
        intro w_9 hC
        replace hC : Grow col_3 w_2 col_3 w_9 := .of_below hC.below
        replace h0 := h0.gr hC
        replace h1 := h1.gr hC
        replace hst := hst.grow hC
        refine wcond (!decide (e_5 = e_7)) rfl (fun hb => ?_) (fun hb => ?_)
        · rw [if_pos hb] at hm
          clear hb
          refine wseq ?_
          refine wregion ?_
          refine lv (v := (.bool false)) rfl rfl (r_assign rfl) ?_
          refine lnil ?_
          refine wret ?_
          cases hm
          exact ⟨rfl, rfl, hst.below⟩
        · rw [if_neg (by rw [hb]; decide)] at hm
          clear hb
          refine wskip ?_
          refine wregion ?_
          refine lv (v := (.int .i64 i_4)) rfl rfl (r_move rfl) ?_
          refine lv (v := (.int .i64 (IntKind.i64.wrap (i_4 + 1)))) rfl rfl (r_add i_4 1 rfl rfl) ?_
          refine lv (v := (.int .i64 (IntKind.i64.wrap (i_4 + 1)))) rfl rfl (r_assign rfl) ?_
          refine lnil ?_
          exact ⟨n_1, by omega, ⟨col_3, (IntKind.i64.wrap (i_4 + 1)), n_1, rfl, hm, hst, h0, h1, rfl, rfl, rfl, rfl⟩⟩
      · rw [if_neg (by rw [hb]; decide)] at hm
        clear hb
        refine wexit (inB_hit ?_)
        refine wseq ?_
        refine wregion ?_
        refine lv (v := (.bool true)) rfl rfl (r_assign rfl) ?_
        refine lnil ?_
        refine wret ?_
        cases hm
        exact ⟨rfl, rfl, hst.below⟩


end Go.Proofs.Ytpenklmcacfkpaa
