/-
  What functions of the program compute, as plain Lean functions (m_..), and proofs that they compute it (c_..). Printed by a program of the author; no conditions.
-/
import Derived.Test.YtpenklmcacfkpaaQue
import Derived.Test.YtpenklmcacfkpaaProg
import Derived.Test.YtpenklmcacfkpaaDagOrderF3
set_option linter.unusedVariables false
namespace Go.Proofs.Ytpenklmcacfkpaa
open Go Go.RowKit



def m_credencelaw14_DagOrder_L2 (N : Nat) (p0_parents : (List (List Int))) (r_9 : ((List Int) × Int)) (i_42 : Int) (kk_L1 : (Int → Option Bool)) (r_43 : Int) : Nat → Int → Option Bool
  | 0, _ => none
  | n_47 + 1, k_50 => (at? p0_parents i_42).bind fun e_51 => if (decide (k_50 < (e_51.length : Int))) = true then ((at? e_51 k_50).bind fun e_63 => (m_credencelaw14_place N r_9.1 e_63).bind fun r_65 => if (decide (r_43 ≤ r_65)) = true then (some false) else ((m_credencelaw14_DagOrder_L2 N p0_parents r_9 i_42 kk_L1 r_43 n_47) (IntKind.i64.wrap (k_50 + 1)))) else (kk_L1 (IntKind.i64.wrap (i_42 + 1)))

def m_credencelaw14_DagOrder_L1 (N : Nat) (p0_parents : (List (List Int))) (r_9 : ((List Int) × Int)) : Nat → Int → Option Bool
  | 0, _ => none
  | n_39 + 1, i_42 => if (decide (i_42 < (p0_parents.length : Int))) = true then ((m_credencelaw14_place N r_9.1 i_42).bind fun r_43 => if (decide (r_43 < 0)) = true then (some false) else (m_credencelaw14_DagOrder_L2 N p0_parents r_9 i_42 (m_credencelaw14_DagOrder_L1 N p0_parents r_9 n_39) r_43 N 0)) else (some true)

def m_credencelaw14_DagOrder_J3 (N : Nat) (p0_parents : (List (List Int))) (r_9 : ((List Int) × Int)) (v_38 : Bool) : Option Bool :=
  if v_38 = true then (some false) else (m_credencelaw14_DagOrder_L1 N p0_parents r_9 N 0)

def m_credencelaw14_DagOrder_J5 (i_77 : Int) (kk_L3 : (Int → Option Bool)) (v_108 : Bool) : Option Bool :=
  if v_108 = true then (some false) else (kk_L3 (IntKind.i64.wrap (i_77 + 1)))

def m_credencelaw14_DagOrder_L3 (N : Nat) (p0_parents : (List (List Int))) (r_17 : (List Int)) : Nat → Int → Option Bool
  | 0, _ => none
  | n_74 + 1, i_77 => if (decide (i_77 < (r_17.length : Int))) = true then (chk ((r_17.length : Int) ≠ 0) ((at? r_17 (Int.tmod (IntKind.i64.wrap (i_77 + 1)) (r_17.length : Int))).bind fun e_79 => (at? r_17 i_77).bind fun e_109 => if (decide (e_109 < 0)) = true then (m_credencelaw14_DagOrder_J5 i_77 (m_credencelaw14_DagOrder_L3 N p0_parents r_17 n_74) true) else (if (decide ((p0_parents.length : Int) ≤ e_109)) = true then (m_credencelaw14_DagOrder_J5 i_77 (m_credencelaw14_DagOrder_L3 N p0_parents r_17 n_74) true) else ((at? p0_parents e_109).bind fun e_115 => (m_credencelaw14_in N e_115 e_79).bind fun r_122 => if (!r_122) = true then (m_credencelaw14_DagOrder_J5 i_77 (m_credencelaw14_DagOrder_L3 N p0_parents r_17 n_74) true) else (chk ((0 : Int) ≤ i_77 ∧ i_77 ≤ (r_17.length : Int)) ((m_credencelaw14_in N (r_17.take (Int.toNat i_77)) e_109).bind fun r_127 => if r_127 = true then (m_credencelaw14_DagOrder_J5 i_77 (m_credencelaw14_DagOrder_L3 N p0_parents r_17 n_74) true) else ((at? r_17 0).bind fun e_131 => m_credencelaw14_DagOrder_J5 i_77 (m_credencelaw14_DagOrder_L3 N p0_parents r_17 n_74) (decide (e_109 < e_131))))))))) else (some true)

def m_credencelaw14_DagOrder_J4 (N : Nat) (p0_parents : (List (List Int))) (r_17 : (List Int)) (v_73 : Bool) : Option Bool :=
  if v_73 = true then (some false) else (m_credencelaw14_DagOrder_L3 N p0_parents r_17 N 0)

def m_credencelaw14_DagOrder_J2 (N : Nat) (p0_parents : (List (List Int))) (r_9 : ((List Int) × Int)) (r_17 : (List Int)) : Option Bool :=
  if (decide (r_9.2 = 0)) = true then (if (!decide ((r_9.1.length : Int) = (p0_parents.length : Int))) = true then (m_credencelaw14_DagOrder_J3 N p0_parents r_9 true) else (m_credencelaw14_DagOrder_J3 N p0_parents r_9 (!decide ((r_17.length : Int) = 0)))) else (if (decide ((r_17.length : Int) = 0)) = true then (m_credencelaw14_DagOrder_J4 N p0_parents r_17 true) else (m_credencelaw14_DagOrder_J4 N p0_parents r_17 (!decide ((r_9.1.length : Int) = 0))))

def m_credencelaw14_DagOrder_J7 (v_142 : Bool) : Option Bool :=
  some v_142

def m_credencelaw14_DagOrder_J6 (N : Nat) (p0_parents : (List (List Int))) (r_9 : ((List Int) × Int)) (r_17 : (List Int)) (v_138 : Bool) : Option Bool :=
  if v_138 = true then (if (decide ((r_9.1.length : Int) = 0)) = true then (m_credencelaw14_DagOrder_J7 (decide ((r_17.length : Int) = 0))) else (m_credencelaw14_DagOrder_J7 false)) else (m_credencelaw14_DagOrder_J2 N p0_parents r_9 r_17)

def m_credencelaw14_DagOrder_J1 (N : Nat) (p0_parents : (List (List Int))) (r_9 : ((List Int) × Int)) (r_17 : (List Int)) (v_32 : Bool) : Option Bool :=
  if v_32 = true then (some false) else (if (!decide (r_9.2 = 0)) = true then (m_credencelaw14_DagOrder_J6 N p0_parents r_9 r_17 (!decide (r_9.2 = 42))) else (m_credencelaw14_DagOrder_J6 N p0_parents r_9 r_17 false))

def m_credencelaw14_DagOrder (N : Nat) (p0_parents : (List (List Int))) : Option Bool :=
  (m_credencelaw14_alive N).bind fun r_1 => (m_credencelaw14_many N p0_parents).bind fun r_5 => if r_5 = true then (some r_1) else ((m_dag_Order N p0_parents).bind fun r_9 => (m_dag_Cycle N p0_parents).bind fun r_17 => if (!r_1) = true then (m_credencelaw14_DagOrder_J1 N p0_parents r_9 r_17 true) else ((m_dag_Check N p0_parents).bind fun r_146 => m_credencelaw14_DagOrder_J1 N p0_parents r_9 r_17 (!decide (r_9.2 = r_146))))

set_option maxRecDepth 100000 in
theorem c_credencelaw14_DagOrder (N : Nat) (col : Col) (w0 : World) (a0 : Option Addr) (cap0 : Nat) (p0_parents : (List (List Int))) (h0 : Sl (Rep.slice (Rep.int .i64)) col w0 a0 cap0 p0_parents) (r : Bool) (hm : m_credencelaw14_DagOrder N p0_parents = some r) :
    Calls Try.prog 5 #[(.slice a0 p0_parents.length cap0)] w0 (fun e w' => e = .returned ((.bool r)) ∧ Below w0.heap.size w0 w') := by
  refine calls_of1 2 (m := 156) (args := [(.slice a0 p0_parents.length cap0)]) Try.func5 rfl rfl rfl rfl rfl ?_
  rw [m_credencelaw14_DagOrder.eq_1] at hm
  have hst := St.start col w0
  replace h0 := h0.keep (Stay.start col w0)
  refine wseq ?_
  refine wregion ?_
  refine lv (v := (.bool false)) rfl rfl (r_assign rfl) ?_
  refine lnil ?_
  refine wseq ?_
  refine wregion ?_
  obtain ⟨r_1, hr_2, hm⟩ := bind_some hm
  refine lc rfl rfl (r_call0 Try.call15 ) (c_credencelaw14_alive N (col0 col) _ r_1 hr_2) ?_
  rintro _ w_3 ⟨rfl, hg_4⟩
  refine ⟨_, rfl, ?_⟩
  replace hg_4 : Grow (col0 col) w0 (col0 col) w_3 := .of_below hg_4
  replace h0 := h0.gr hg_4
  replace hst := hst.grow hg_4
  refine lv (v := (.bool r_1)) rfl rfl (r_assign rfl) ?_
  refine lnil ?_
  refine wseq ?_
  refine wseq ?_
  refine wregion ?_
  refine lv (v := (.slice a0 p0_parents.length cap0)) rfl rfl (r_move rfl) ?_
  obtain ⟨r_5, hr_6, hm⟩ := bind_some hm
  refine lc rfl rfl (r_call1 Try.call8 rfl) (c_credencelaw14_many N (col0 col) _ a0 cap0 p0_parents h0 r_5 hr_6) ?_
  rintro _ w_7 ⟨rfl, hg_8⟩
  refine ⟨_, rfl, ?_⟩
  replace hg_8 : Grow (col0 col) w_3 (col0 col) w_7 := .of_below hg_8
  replace h0 := h0.gr hg_8
  replace hst := hst.grow hg_8
  refine lnil ?_
  refine wcond (r_5) rfl (fun hb => ?_) (fun hb => ?_)
  · rw [if_pos hb] at hm
    clear hb
    refine wseq ?_
    refine wregion ?_
    refine lv (v := (.bool r_1)) rfl rfl (r_move rfl) ?_
    refine lv (v := (.bool r_1)) rfl rfl (r_assign rfl) ?_
    refine lnil ?_
    refine wret ?_
    cases hm
    exact ⟨rfl, rfl, hst.below⟩
  · rw [if_neg (by rw [hb]; decide)] at hm
    clear hb
    refine wskip ?_
    refine wseq ?_
    refine wregion ?_
    refine lv (v := (.slice a0 p0_parents.length cap0)) rfl rfl (r_move rfl) ?_
    obtain ⟨r_9, hr_10, hm⟩ := bind_some hm
    refine lc rfl rfl (r_call1 Try.call16 rfl) (c_dag_Order N 1 (col0 col) _ a0 cap0 p0_parents h0 r_9 hr_10) ?_
    rintro _ w_14 ⟨col_16, ra_11, rc_12, rfl, hg_15, rh_13⟩
    refine ⟨_, rfl, ?_⟩
    replace h0 := h0.gr hg_15
    replace hst := hst.grow hg_15
    refine lv (v := (.tuple #[(.slice ra_11 r_9.1.length rc_12), (.int .i64 r_9.2)])) rfl rfl (r_move rfl) ?_
    refine lv (v := (.slice ra_11 r_9.1.length rc_12)) rfl rfl (r_extract rfl rfl) ?_
    refine lv (v := (.int .i64 r_9.2)) rfl rfl (r_extract rfl rfl) ?_
    refine lv (v := (.slice ra_11 r_9.1.length rc_12)) rfl rfl (r_assign rfl) ?_
    refine lv (v := (.int .i64 r_9.2)) rfl rfl (r_assign rfl) ?_
    refine lnil ?_
    refine wseq ?_
    refine wregion ?_
    refine lv (v := (.slice a0 p0_parents.length cap0)) rfl rfl (r_move rfl) ?_
    obtain ⟨r_17, hr_18, hm⟩ := bind_some hm
    refine lc rfl rfl (r_call1 Try.call17 rfl) (c_dag_Cycle N 2 col_16 _ a0 cap0 p0_parents h0 r_17 hr_18) ?_
    rintro _ w_22 ⟨col_24, ra_19, rc_20, rfl, hg_23, rh_21⟩
    refine ⟨_, rfl, ?_⟩
    replace h0 := h0.gr hg_23
    replace rh_13 := rh_13.gr hg_23
    replace hst := hst.grow hg_23
    refine lv (v := (.slice ra_19 r_17.length rc_20)) rfl rfl (r_assign rfl) ?_
    refine lnil ?_
    refine wseq ?_
    refine wseq ?_
    refine Wp.cut (fun f w_30 => ∃ (col_31 : Col) (v_32 : Bool), m_credencelaw14_DagOrder_J1 N p0_parents r_9 r_17 v_32 = some r ∧ St w0 (col0 col) col_31 w_30 ∧ Sl (Rep.slice (Rep.int .i64)) col_31 w_30 a0 cap0 p0_parents ∧ Own (Rep.int .i64) 3 1 col_31 w_30 ra_11 rc_12 r_9.1 ∧ Own (Rep.int .i64) 3 2 col_31 w_30 ra_19 rc_20 r_17 ∧ f 0 = (.slice a0 p0_parents.length cap0) ∧ f 30 = (.bool v_32) ∧ f 4 = (.slice ra_11 r_9.1.length rc_12) ∧ f 5 = (.int .i64 r_9.2) ∧ f 6 = (.slice ra_19 r_17.length rc_20) ∧ f 1000000 = (enc [])) ?_ ?_
    · intro f w_30 hJ
      obtain ⟨col_31, v_32, hm, hst, h0, rh_13, rh_21, hs0, hs30, hs4, hs5, hs6, hs1000000⟩ := hJ
      rw [m_credencelaw14_DagOrder_J1.eq_1] at hm
      refine .ld (d := 0) (v := (.slice a0 p0_parents.length cap0)) hs0 ?_
      refine .ld (d := 30) (v := (.bool v_32)) hs30 ?_
      refine .ld (d := 4) (v := (.slice ra_11 r_9.1.length rc_12)) hs4 ?_
      refine .ld (d := 5) (v := (.int .i64 r_9.2)) hs5 ?_
      refine .ld (d := 6) (v := (.slice ra_19 r_17.length rc_20)) hs6 ?_
      refine .ld (d := 1000000) (v := (enc [])) hs1000000 ?_
      clear hs0 hs30 hs4 hs5 hs6 hs1000000
      refine wcond (v_32) rfl (fun hb => ?_) (fun hb => ?_)
      · rw [if_pos hb] at hm
        clear hb
        refine wseq ?_
        refine wregion ?_
        refine lv (v := (.bool false)) rfl rfl (r_assign rfl) ?_
        refine lnil ?_
        refine wret ?_
        cases hm
        exact ⟨rfl, rfl, hst.below⟩
      · rw [if_neg (by rw [hb]; decide)] at hm
        clear hb
        refine wskip ?_
        refine wseq ?_
        refine Wp.cut (fun f w_33 => ∃ (col_34 : Col), m_credencelaw14_DagOrder_J2 N p0_parents r_9 r_17  = some r ∧ St w0 (col0 col) col_34 w_33 ∧ Sl (Rep.slice (Rep.int .i64)) col_34 w_33 a0 cap0 p0_parents ∧ Own (Rep.int .i64) 3 1 col_34 w_33 ra_11 rc_12 r_9.1 ∧ Own (Rep.int .i64) 3 2 col_34 w_33 ra_19 rc_20 r_17 ∧ f 0 = (.slice a0 p0_parents.length cap0) ∧ f 4 = (.slice ra_11 r_9.1.length rc_12) ∧ f 5 = (.int .i64 r_9.2) ∧ f 6 = (.slice ra_19 r_17.length rc_20) ∧ f 1000000 = (enc [])) ?_ ?_
        · intro f w_33 hJ
          obtain ⟨col_34, hm, hst, h0, rh_13, rh_21, hs0, hs4, hs5, hs6, hs1000000⟩ := hJ
          rw [m_credencelaw14_DagOrder_J2.eq_1] at hm
          refine .ld (d := 0) (v := (.slice a0 p0_parents.length cap0)) hs0 ?_
          refine .ld (d := 4) (v := (.slice ra_11 r_9.1.length rc_12)) hs4 ?_
          refine .ld (d := 5) (v := (.int .i64 r_9.2)) hs5 ?_
          refine .ld (d := 6) (v := (.slice ra_19 r_17.length rc_20)) hs6 ?_
          refine .ld (d := 1000000) (v := (enc [])) hs1000000 ?_
          clear hs0 hs4 hs5 hs6 hs1000000
          refine wseq ?_
          refine wseq ?_
          refine wregion ?_
          refine lv (v := (.int .i64 r_9.2)) rfl rfl (r_move rfl) ?_
          refine lv (v := (.bool (decide (r_9.2 = 0)))) rfl rfl (r_eql r_9.2 0 rfl rfl) ?_
          refine lnil ?_
          refine wcond (decide (r_9.2 = 0)) rfl (fun hb => ?_) (fun hb => ?_)
          · rw [if_pos hb] at hm
            clear hb
            refine wseq ?_
            refine wseq ?_
            refine Wp.cut (fun f w_36 => ∃ (col_37 : Col) (v_38 : Bool), m_credencelaw14_DagOrder_J3 N p0_parents r_9 v_38 = some r ∧ St w0 (col0 col) col_37 w_36 ∧ Sl (Rep.slice (Rep.int .i64)) col_37 w_36 a0 cap0 p0_parents ∧ Own (Rep.int .i64) 3 1 col_37 w_36 ra_11 rc_12 r_9.1 ∧ f 0 = (.slice a0 p0_parents.length cap0) ∧ f 4 = (.slice ra_11 r_9.1.length rc_12) ∧ f 56 = (.bool v_38) ∧ f 1000000 = (enc [])) ?_ ?_
            · intro f w_36 hJ
              obtain ⟨col_37, v_38, hm, hst, h0, rh_13, hs0, hs4, hs56, hs1000000⟩ := hJ
              rw [m_credencelaw14_DagOrder_J3.eq_1] at hm
              refine .ld (d := 0) (v := (.slice a0 p0_parents.length cap0)) hs0 ?_
              refine .ld (d := 4) (v := (.slice ra_11 r_9.1.length rc_12)) hs4 ?_
              refine .ld (d := 56) (v := (.bool v_38)) hs56 ?_
              refine .ld (d := 1000000) (v := (enc [])) hs1000000 ?_
              clear hs0 hs4 hs56 hs1000000
              refine wcond (v_38) rfl (fun hb => ?_) (fun hb => ?_)
              · rw [if_pos hb] at hm
                clear hb
                refine wseq ?_
                refine wregion ?_
                refine lv (v := (.bool false)) rfl rfl (r_assign rfl) ?_
                refine lnil ?_
                refine wret ?_
                cases hm
                exact ⟨rfl, rfl, hst.below⟩
              · rw [if_neg (by rw [hb]; decide)] at hm
                clear hb
                refine wskip ?_
                refine wseq ?_
                refine wseq ?_
                refine wregion ?_
                refine lv (v := (.int .i64 0)) rfl rfl (r_assign rfl) ?_
                refine lnil ?_
                refine wblock ?_
                refine wloop (fun n f w_40 => ∃ (col_41 : Col) (i_42 : Int) (n_39 : Nat), n_39 = n ∧ m_credencelaw14_DagOrder_L1 N p0_parents r_9 n_39 i_42 = some r ∧ St w0 (col0 col) col_41 w_40 ∧ Sl (Rep.slice (Rep.int .i64)) col_41 w_40 a0 cap0 p0_parents ∧ Own (Rep.int .i64) 3 1 col_41 w_40 ra_11 rc_12 r_9.1 ∧ f 0 = (.slice a0 p0_parents.length cap0) ∧ f 4 = (.slice ra_11 r_9.1.length rc_12) ∧ f 7 = (.int .i64 i_42) ∧ f 1000000 = (enc [])) N ⟨col_37, 0, N, rfl, hm, hst, h0, rh_13, rfl, rfl, rfl, rfl⟩ ?_
                clear hm; intro n f w_40 hI
                obtain ⟨col_41, i_42, n_39, hn, hm, hst, h0, rh_13, hs0, hs4, hs7, hs1000000⟩ := hI
                subst hn
                refine .ld (d := 0) (v := (.slice a0 p0_parents.length cap0)) hs0 ?_
                refine .ld (d := 4) (v := (.slice ra_11 r_9.1.length rc_12)) hs4 ?_
                refine .ld (d := 7) (v := (.int .i64 i_42)) hs7 ?_
                refine .ld (d := 1000000) (v := (enc [])) hs1000000 ?_
                clear hs0 hs4 hs7 hs1000000
                cases n_39 with
                | zero => rw [m_credencelaw14_DagOrder_L1.eq_1] at hm; cases hm
                | succ n_39 =>
                  rw [m_credencelaw14_DagOrder_L1.eq_2] at hm
                  refine wseq ?_
                  refine wseq ?_
                  refine wregion ?_
                  refine lv (v := (.int .i64 i_42)) rfl rfl (r_move rfl) ?_
                  refine lv (v := (.slice a0 p0_parents.length cap0)) rfl rfl (r_move rfl) ?_
                  refine lv (v := (.int .i64 (p0_parents.length : Int))) rfl rfl (r_len Try.underlying22 rfl) ?_
                  refine lv (v := (.bool (decide (i_42 < (p0_parents.length : Int))))) rfl rfl (r_lss i_42 (p0_parents.length : Int) rfl rfl) ?_
                  refine lnil ?_
                  refine wcond (decide (i_42 < (p0_parents.length : Int))) rfl (fun hb => ?_) (fun hb => ?_)
                  · rw [if_pos hb] at hm
                    clear hb
                    refine wskip ?_
                    refine wseq ?_
                    refine wblock ?_
                    refine wseq ?_
                    refine wregion ?_
                    refine lv (v := (.slice ra_11 r_9.1.length rc_12)) rfl rfl (r_move rfl) ?_
                    refine lv (v := (.int .i64 i_42)) rfl rfl (r_move rfl) ?_
                    obtain ⟨r_43, hr_44, hm⟩ := bind_some hm
                    refine lc rfl rfl (r_call2 Try.call19 rfl rfl) (c_credencelaw14_place N (frC 1 col_41) _ ra_11 rc_12 r_9.1 i_42 (rh_13.toSlF (Froz.int .i64)) r_43 hr_44) ?_
                    rintro _ w_45 ⟨rfl, hg_46⟩
                    refine ⟨_, rfl, ?_⟩
                    replace hg_46 : Grow col_41 w_40 col_41 w_45 := .of_below hg_46
                    replace h0 := h0.gr hg_46
                    replace rh_13 := rh_13.gr hg_46
                    replace hst := hst.grow hg_46
                    refine lv (v := (.int .i64 r_43)) rfl rfl (r_assign rfl) ?_
                    refine lnil ?_
                    refine wseq ?_
                    refine wseq ?_
                    refine wregion ?_
                    refine lv (v := (.int .i64 r_43)) rfl rfl (r_move rfl) ?_
                    refine lv (v := (.bool (decide (r_43 < 0)))) rfl rfl (r_lss r_43 0 rfl rfl) ?_
                    refine lnil ?_
                    refine wcond (decide (r_43 < 0)) rfl (fun hb => ?_) (fun hb => ?_)
                    · rw [if_pos hb] at hm
                      clear hb
                      refine wseq ?_
                      refine wregion ?_
                      refine lv (v := (.bool false)) rfl rfl (r_assign rfl) ?_
                      refine lnil ?_
                      refine wret ?_
                      cases hm
                      exact ⟨rfl, rfl, hst.below⟩
                    · rw [if_neg (by rw [hb]; decide)] at hm
                      clear hb
                      refine wskip ?_
                      refine wseq ?_
                      refine wregion ?_
                      refine lv (v := (.int .i64 0)) rfl rfl (r_assign rfl) ?_
                      refine lnil ?_
                      refine wblock ?_
                      refine wloop (fun n f w_48 => ∃ (col_49 : Col) (k_50 : Int) (n_47 : Nat), n_47 = n ∧ m_credencelaw14_DagOrder_L2 N p0_parents r_9 i_42 (m_credencelaw14_DagOrder_L1 N p0_parents r_9 n_39) r_43 n_47 k_50 = some r ∧ St w0 (col0 col) col_49 w_48 ∧ Sl (Rep.slice (Rep.int .i64)) col_49 w_48 a0 cap0 p0_parents ∧ Own (Rep.int .i64) 3 1 col_49 w_48 ra_11 rc_12 r_9.1 ∧ f 0 = (.slice a0 p0_parents.length cap0) ∧ f 4 = (.slice ra_11 r_9.1.length rc_12) ∧ f 7 = (.int .i64 i_42) ∧ f 8 = (.int .i64 r_43) ∧ f 9 = (.int .i64 k_50) ∧ f 1000000 = (enc [])) N ⟨col_41, 0, N, rfl, hm, hst, h0, rh_13, rfl, rfl, rfl, rfl, rfl, rfl⟩ ?_
                      clear hm; intro n f w_48 hI
                      obtain ⟨col_49, k_50, n_47, hn, hm, hst, h0, rh_13, hs0, hs4, hs7, hs8, hs9, hs1000000⟩ := hI
                      subst hn
                      refine .ld (d := 0) (v := (.slice a0 p0_parents.length cap0)) hs0 ?_
                      refine .ld (d := 4) (v := (.slice ra_11 r_9.1.length rc_12)) hs4 ?_
                      refine .ld (d := 7) (v := (.int .i64 i_42)) hs7 ?_
                      refine .ld (d := 8) (v := (.int .i64 r_43)) hs8 ?_
                      refine .ld (d := 9) (v := (.int .i64 k_50)) hs9 ?_
                      refine .ld (d := 1000000) (v := (enc [])) hs1000000 ?_
                      clear hs0 hs4 hs7 hs8 hs9 hs1000000
                      cases n_47 with
                      | zero => rw [m_credencelaw14_DagOrder_L2.eq_1] at hm; cases hm
                      | succ n_47 =>
                        rw [m_credencelaw14_DagOrder_L2.eq_2] at hm
                        refine wseq ?_
                        refine wseq ?_
                        refine wregion ?_
                        refine lv (v := (.int .i64 k_50)) rfl rfl (r_move rfl) ?_
                        refine lv (v := (.slice a0 p0_parents.length cap0)) rfl rfl (r_move rfl) ?_
                        refine lv (v := (.int .i64 i_42)) rfl rfl (r_move rfl) ?_
                        obtain ⟨e_51, hj_52, hm⟩ := bind_some hm
                        refine lv (v := (sptr a0 (Int.toNat i_42 * 1))) rfl rfl (r_idx Try.underlying22 Try.sizeOf31 rfl rfl (at?_some hj_52).1 (at?_some hj_52).2.1 (h0.addr hj_52)) ?_
                        obtain ⟨_, hr_53, hA_54⟩ := h0.atN hj_52
                        obtain ⟨⟨a_55, cap_56, rfl, h_57⟩, _⟩ := hr_53
                        refine lv (v := (.slice a_55 e_51.length cap_56)) rfl rfl (r_ld Try.isAgg31 rfl hA_54.one) ?_
                        refine lv (v := (.int .i64 (e_51.length : Int))) rfl rfl (r_len Try.underlying31 rfl) ?_
                        refine lv (v := (.bool (decide (k_50 < (e_51.length : Int))))) rfl rfl (r_lss k_50 (e_51.length : Int) rfl rfl) ?_
                        refine lnil ?_
                        refine wcond (decide (k_50 < (e_51.length : Int))) rfl (fun hb => ?_) (fun hb => ?_)
                        · rw [if_pos hb] at hm
                          clear hb
                          refine wskip ?_
                          refine wseq ?_
                          refine wblock ?_
                          refine wseq ?_
                          refine wregion ?_
                          refine lv (v := (.slice ra_11 r_9.1.length rc_12)) rfl rfl (r_move rfl) ?_
                          refine lv (v := (.slice a0 p0_parents.length cap0)) rfl rfl (r_move rfl) ?_
                          refine lv (v := (.int .i64 i_42)) rfl rfl (r_move rfl) ?_
                          refine lv (v := (sptr a0 (Int.toNat i_42 * 1))) rfl rfl (r_idx Try.underlying22 Try.sizeOf31 rfl rfl (at?_some hj_52).1 (at?_some hj_52).2.1 (h0.addr hj_52)) ?_
                          obtain ⟨_, hr_58, hA_59⟩ := h0.atN hj_52
                          obtain ⟨⟨a_60, cap_61, rfl, h_62⟩, _⟩ := hr_58
                          refine lv (v := (.slice a_60 e_51.length cap_61)) rfl rfl (r_ld Try.isAgg31 rfl hA_59.one) ?_
                          refine lv (v := (.int .i64 k_50)) rfl rfl (r_move rfl) ?_
                          obtain ⟨e_63, hj_64, hm⟩ := bind_some hm
                          refine lv (v := (sptr a_60 (Int.toNat k_50 * 1))) rfl rfl (r_idx Try.underlying31 Try.sizeOf3 rfl rfl (at?_some hj_64).1 (at?_some hj_64).2.1 (h_62.addr hj_64)) ?_
                          refine lv (v := (.int .i64 e_63)) rfl rfl (r_ld Try.isAgg3 rfl (h_62.atInt hj_64)) ?_
                          obtain ⟨r_65, hr_66, hm⟩ := bind_some hm
                          refine lc rfl rfl (r_call2 Try.call19 rfl rfl) (c_credencelaw14_place N (frC 1 col_49) _ ra_11 rc_12 r_9.1 e_63 (rh_13.toSlF (Froz.int .i64)) r_65 hr_66) ?_
                          rintro _ w_67 ⟨rfl, hg_68⟩
                          refine ⟨_, rfl, ?_⟩
                          replace hg_68 : Grow col_49 w_48 col_49 w_67 := .of_below hg_68
                          replace h0 := h0.gr hg_68
                          replace rh_13 := rh_13.gr hg_68
                          replace hst := hst.grow hg_68
                          refine lv (v := (.int .i64 r_43)) rfl rfl (r_move rfl) ?_
                          refine lv (v := (.bool (decide (r_43 ≤ r_65)))) rfl rfl (r_geq r_65 r_43 rfl rfl) ?_
                          refine lnil ?_
                          refine wcond (decide (r_43 ≤ r_65)) rfl (fun hb => ?_) (fun hb => ?_)
                          · rw [if_pos hb] at hm
                            clear hb
                            refine wseq ?_
                            refine wregion ?_
                            refine lv (v := (.bool false)) rfl rfl (r_assign rfl) ?_
                            refine lnil ?_
                            refine wret ?_
                            cases hm
                            exact ⟨rfl, rfl, hst.below⟩
                          · rw [if_neg (by rw [hb]; decide)] at hm
                            clear hb
                            refine wskip ?_
                            refine wregion ?_
                            refine lv (v := (.int .i64 k_50)) rfl rfl (r_move rfl) ?_
                            refine lv (v := (.int .i64 (IntKind.i64.wrap (k_50 + 1)))) rfl rfl (r_add k_50 1 rfl rfl) ?_
                            refine lv (v := (.int .i64 (IntKind.i64.wrap (k_50 + 1)))) rfl rfl (r_assign rfl) ?_
                            refine lnil ?_
                            exact ⟨n_47, by omega, ⟨col_49, (IntKind.i64.wrap (k_50 + 1)), n_47, rfl, hm, hst, h0, rh_13, rfl, rfl, rfl, rfl, rfl, rfl⟩⟩
                        · rw [if_neg (by rw [hb]; decide)] at hm
                          clear hb
                          refine wexit (inB_hit ?_)
                          refine wregion ?_
                          refine lv (v := (.int .i64 i_42)) rfl rfl (r_move rfl) ?_
                          refine lv (v := (.int .i64 (IntKind.i64.wrap (i_42 + 1)))) rfl rfl (r_add i_42 1 rfl rfl) ?_
                          refine lv (v := (.int .i64 (IntKind.i64.wrap (i_42 + 1)))) rfl rfl (r_assign rfl) ?_
                          refine lnil ?_
                          exact ⟨n_39, by omega, ⟨col_49, (IntKind.i64.wrap (i_42 + 1)), n_39, rfl, hm, hst, h0, rh_13, rfl, rfl, rfl, rfl⟩⟩
                  · rw [if_neg (by rw [hb]; decide)] at hm
                    clear hb
                    refine wexit (inB_hit ?_)
                    refine wseq ?_
                    refine wregion ?_
                    refine lv (v := (.bool true)) rfl rfl (r_assign rfl) ?_
                    refine lnil ?_
                    refine wret ?_
                    cases hm
                    exact ⟨rfl, rfl, hst.below⟩
            · refine wregion ?_
              refine lv (v := (.slice ra_11 r_9.1.length rc_12)) rfl rfl (r_move rfl) ?_
              refine lv (v := (.int .i64 (r_9.1.length : Int))) rfl rfl (r_len Try.underlying31 rfl) ?_
              refine lv (v := (.slice a0 p0_parents.length cap0)) rfl rfl (r_move rfl) ?_
              refine lv (v := (.int .i64 (p0_parents.length : Int))) rfl rfl (r_len Try.underlying22 rfl) ?_
              refine lv (v := (.bool (!decide ((r_9.1.length : Int) = (p0_parents.length : Int))))) rfl rfl (r_neq (r_9.1.length : Int) (p0_parents.length : Int) rfl rfl) ?_
              refine lv (v := (.bool (!decide ((r_9.1.length : Int) = (p0_parents.length : Int))))) rfl rfl (r_move rfl) ?_
              by_cases hg_69 : (!decide ((r_9.1.length : Int) = (p0_parents.length : Int))) = true
              · rw [if_pos hg_69] at hm
                refine lp (b := !decide ((r_9.1.length : Int) = (p0_parents.length : Int))) 52 rfl rfl rfl rfl (by rw [hg_69]; rfl) ?_
                refine lp (b := !decide ((r_9.1.length : Int) = (p0_parents.length : Int))) 52 rfl rfl rfl rfl (by rw [hg_69]; rfl) ?_
                refine lp (b := !decide ((r_9.1.length : Int) = (p0_parents.length : Int))) 52 rfl rfl rfl rfl (by rw [hg_69]; rfl) ?_
                refine lv (v := (.bool true)) rfl rfl (r_pickT (congrArg Value.bool hg_69) rfl) ?_
                refine lnil ?_
                exact ⟨col_34, true, hm, hst, h0, rh_13, rfl, rfl, rfl, rfl⟩
              · rw [if_neg hg_69] at hm
                replace hg_69 := Bool.eq_false_iff.2 hg_69
                refine lg (b := !decide ((r_9.1.length : Int) = (p0_parents.length : Int))) 52 rfl rfl rfl (by rw [hg_69]; rfl) ?_
                refine lv (v := (.slice ra_19 r_17.length rc_20)) rfl rfl (r_move rfl) ?_
                refine lg (b := !decide ((r_9.1.length : Int) = (p0_parents.length : Int))) 52 rfl rfl rfl (by rw [hg_69]; rfl) ?_
                refine lv (v := (.int .i64 (r_17.length : Int))) rfl rfl (r_len Try.underlying31 rfl) ?_
                refine lg (b := !decide ((r_9.1.length : Int) = (p0_parents.length : Int))) 52 rfl rfl rfl (by rw [hg_69]; rfl) ?_
                refine lv (v := (.bool (!decide ((r_17.length : Int) = 0)))) rfl rfl (r_neq (r_17.length : Int) 0 rfl rfl) ?_
                refine lv (v := (.bool (!decide ((r_17.length : Int) = 0)))) rfl rfl (r_pickF (congrArg Value.bool hg_69) rfl) ?_
                refine lnil ?_
                exact ⟨col_34, (!decide ((r_17.length : Int) = 0)), hm, hst, h0, rh_13, rfl, rfl, rfl, rfl⟩
          · rw [if_neg (by rw [hb]; decide)] at hm
            clear hb
            refine wskip ?_
            refine wseq ?_
            refine wseq ?_
            refine Wp.cut (fun f w_71 => ∃ (col_72 : Col) (v_73 : Bool), m_credencelaw14_DagOrder_J4 N p0_parents r_17 v_73 = some r ∧ St w0 (col0 col) col_72 w_71 ∧ Sl (Rep.slice (Rep.int .i64)) col_72 w_71 a0 cap0 p0_parents ∧ Own (Rep.int .i64) 3 2 col_72 w_71 ra_19 rc_20 r_17 ∧ f 0 = (.slice a0 p0_parents.length cap0) ∧ f 6 = (.slice ra_19 r_17.length rc_20) ∧ f 95 = (.bool v_73) ∧ f 1000000 = (enc [])) ?_ ?_
            · intro f w_71 hJ
              obtain ⟨col_72, v_73, hm, hst, h0, rh_21, hs0, hs6, hs95, hs1000000⟩ := hJ
              rw [m_credencelaw14_DagOrder_J4.eq_1] at hm
              refine .ld (d := 0) (v := (.slice a0 p0_parents.length cap0)) hs0 ?_
              refine .ld (d := 6) (v := (.slice ra_19 r_17.length rc_20)) hs6 ?_
              refine .ld (d := 95) (v := (.bool v_73)) hs95 ?_
              refine .ld (d := 1000000) (v := (enc [])) hs1000000 ?_
              clear hs0 hs6 hs95 hs1000000
              refine wcond (v_73) rfl (fun hb => ?_) (fun hb => ?_)
              · rw [if_pos hb] at hm
                clear hb
                refine wseq ?_
                refine wregion ?_
                refine lv (v := (.bool false)) rfl rfl (r_assign rfl) ?_
                refine lnil ?_
                refine wret ?_
                cases hm
                exact ⟨rfl, rfl, hst.below⟩
              · rw [if_neg (by rw [hb]; decide)] at hm
                clear hb
                refine wskip ?_
                refine wseq ?_
                refine wseq ?_
                refine wregion ?_
                refine lv (v := (.int .i64 0)) rfl rfl (r_assign rfl) ?_
                refine lnil ?_
                refine wblock ?_
                refine wloop (fun n f w_75 => ∃ (col_76 : Col) (i_77 : Int) (n_74 : Nat), n_74 = n ∧ m_credencelaw14_DagOrder_L3 N p0_parents r_17 n_74 i_77 = some r ∧ St w0 (col0 col) col_76 w_75 ∧ Sl (Rep.slice (Rep.int .i64)) col_76 w_75 a0 cap0 p0_parents ∧ Own (Rep.int .i64) 3 2 col_76 w_75 ra_19 rc_20 r_17 ∧ f 0 = (.slice a0 p0_parents.length cap0) ∧ f 10 = (.int .i64 i_77) ∧ f 6 = (.slice ra_19 r_17.length rc_20) ∧ f 1000000 = (enc [])) N ⟨col_72, 0, N, rfl, hm, hst, h0, rh_21, rfl, rfl, rfl, rfl⟩ ?_
                clear hm; intro n f w_75 hI
                obtain ⟨col_76, i_77, n_74, hn, hm, hst, h0, rh_21, hs0, hs10, hs6, hs1000000⟩ := hI
                subst hn
                refine .ld (d := 0) (v := (.slice a0 p0_parents.length cap0)) hs0 ?_
                refine .ld (d := 10) (v := (.int .i64 i_77)) hs10 ?_
                refine .ld (d := 6) (v := (.slice ra_19 r_17.length rc_20)) hs6 ?_
                refine .ld (d := 1000000) (v := (enc [])) hs1000000 ?_
                clear hs0 hs10 hs6 hs1000000
                cases n_74 with
                | zero => rw [m_credencelaw14_DagOrder_L3.eq_1] at hm; cases hm
                | succ n_74 =>
                  rw [m_credencelaw14_DagOrder_L3.eq_2] at hm
                  refine wseq ?_
                  refine wseq ?_
                  refine wregion ?_
                  refine lv (v := (.int .i64 i_77)) rfl rfl (r_move rfl) ?_
                  refine lv (v := (.slice ra_19 r_17.length rc_20)) rfl rfl (r_move rfl) ?_
                  refine lv (v := (.int .i64 (r_17.length : Int))) rfl rfl (r_len Try.underlying31 rfl) ?_
                  refine lv (v := (.bool (decide (i_77 < (r_17.length : Int))))) rfl rfl (r_lss i_77 (r_17.length : Int) rfl rfl) ?_
                  refine lnil ?_
                  refine wcond (decide (i_77 < (r_17.length : Int))) rfl (fun hb => ?_) (fun hb => ?_)
                  · rw [if_pos hb] at hm
                    clear hb
                    refine wskip ?_
                    refine wseq ?_
                    refine wblock ?_
                    refine wseq ?_
                    refine wregion ?_
                    refine lv (v := (.slice ra_19 r_17.length rc_20)) rfl rfl (r_move rfl) ?_
                    refine lv (v := (.int .i64 i_77)) rfl rfl (r_move rfl) ?_
                    refine lv (v := (.int .i64 (IntKind.i64.wrap (i_77 + 1)))) rfl rfl (r_add i_77 1 rfl rfl) ?_
                    refine lv (v := (.slice ra_19 r_17.length rc_20)) rfl rfl (r_move rfl) ?_
                    refine lv (v := (.int .i64 (r_17.length : Int))) rfl rfl (r_len Try.underlying31 rfl) ?_
                    obtain ⟨h0_78, hm⟩ := chk_some hm
                    refine lv (v := (.int .i64 (Int.tmod (IntKind.i64.wrap (i_77 + 1)) (r_17.length : Int)))) rfl rfl (r_rem (IntKind.i64.wrap (i_77 + 1)) (r_17.length : Int) rfl rfl h0_78) ?_
                    obtain ⟨e_79, hj_80, hm⟩ := bind_some hm
                    refine lv (v := (sptr ra_19 (Int.toNat (Int.tmod (IntKind.i64.wrap (i_77 + 1)) (r_17.length : Int)) * 1))) rfl rfl (r_idx Try.underlying31 Try.sizeOf3 rfl rfl (at?_some hj_80).1 (at?_some hj_80).2.1 (rh_21.addr hj_80)) ?_
                    refine lv (v := (.int .i64 e_79)) rfl rfl (r_ld Try.isAgg3 rfl (rh_21.atInt hj_80)) ?_
                    refine lv (v := (.int .i64 e_79)) rfl rfl (r_assign rfl) ?_
                    refine lnil ?_
                    refine wseq ?_
                    refine Wp.cut (fun f w_106 => ∃ (col_107 : Col) (v_108 : Bool), m_credencelaw14_DagOrder_J5 i_77 (m_credencelaw14_DagOrder_L3 N p0_parents r_17 n_74) v_108 = some r ∧ St w0 (col0 col) col_107 w_106 ∧ Sl (Rep.slice (Rep.int .i64)) col_107 w_106 a0 cap0 p0_parents ∧ Own (Rep.int .i64) 3 2 col_107 w_106 ra_19 rc_20 r_17 ∧ f 0 = (.slice a0 p0_parents.length cap0) ∧ f 10 = (.int .i64 i_77) ∧ f 155 = (.bool v_108) ∧ f 6 = (.slice ra_19 r_17.length rc_20) ∧ f 1000000 = (enc [])) ?_ ?_
                    · intro f w_106 hJ
                      obtain ⟨col_107, v_108, hm, hst, h0, rh_21, hs0, hs10, hs155, hs6, hs1000000⟩ := hJ
                      rw [m_credencelaw14_DagOrder_J5.eq_1] at hm
                      refine .ld (d := 0) (v := (.slice a0 p0_parents.length cap0)) hs0 ?_
                      refine .ld (d := 10) (v := (.int .i64 i_77)) hs10 ?_
                      refine .ld (d := 155) (v := (.bool v_108)) hs155 ?_
                      refine .ld (d := 6) (v := (.slice ra_19 r_17.length rc_20)) hs6 ?_
                      refine .ld (d := 1000000) (v := (enc [])) hs1000000 ?_
                      clear hs0 hs10 hs155 hs6 hs1000000
                      refine wcond (v_108) rfl (fun hb => ?_) (fun hb => ?_)
                      · rw [if_pos hb] at hm
                        clear hb
                        refine wseq ?_
                        refine wregion ?_
                        refine lv (v := (.bool false)) rfl rfl (r_assign rfl) ?_
                        refine lnil ?_
                        refine wret ?_
                        cases hm
                        exact ⟨rfl, rfl, hst.below⟩
                      · rw [if_neg (by rw [hb]; decide)] at hm
                        clear hb
                        refine wskip ?_
                        refine wregion ?_
                        refine lv (v := (.int .i64 i_77)) rfl rfl (r_move rfl) ?_
                        refine lv (v := (.int .i64 (IntKind.i64.wrap (i_77 + 1)))) rfl rfl (r_add i_77 1 rfl rfl) ?_
                        refine lv (v := (.int .i64 (IntKind.i64.wrap (i_77 + 1)))) rfl rfl (r_assign rfl) ?_
                        refine lnil ?_
                        exact ⟨n_74, by omega, ⟨col_107, (IntKind.i64.wrap (i_77 + 1)), n_74, rfl, hm, hst, h0, rh_21, rfl, rfl, rfl, rfl⟩⟩
                    · refine wquiet (col := col_76) (by kernel_rfl) (by kernel_rfl) ?_
                      refine qv (v := (.slice ra_19 r_17.length rc_20)) rfl (fun _ hC => r_move rfl) ?_
                      refine qv (v := (.int .i64 i_77)) rfl (fun _ hC => r_move rfl) ?_
                      obtain ⟨e_109, hj_110, hm⟩ := bind_some hm
                      refine qv (v := (sptr ra_19 (Int.toNat i_77 * 1))) rfl (fun _ hC => r_idx Try.underlying31 Try.sizeOf3 rfl rfl (at?_some hj_110).1 (at?_some hj_110).2.1 (rh_21.addr hj_110)) ?_
                      refine qv (v := (.int .i64 e_109)) rfl (fun _ hC => r_ld Try.isAgg3 rfl ((rh_21.gr (Grow.of_below (col := col_76) hC.below)).atInt hj_110)) ?_
                      refine qv (v := (.bool (decide (e_109 < 0)))) rfl (fun _ hC => r_lss e_109 0 rfl rfl) ?_
                      refine qv (v := (.bool (decide (e_109 < 0)))) rfl (fun _ hC => r_move rfl) ?_
                      by_cases hg_111 : (decide (e_109 < 0)) = true
                      · rw [if_pos hg_111] at hm
                        refine qp (b := decide (e_109 < 0)) 115 rfl rfl rfl rfl (by rw [hg_111]; rfl) ?_
                        refine qp (b := decide (e_109 < 0)) 115 rfl rfl rfl rfl (by rw [hg_111]; rfl) ?_
                        refine qp (b := decide (e_109 < 0)) 115 rfl rfl rfl rfl (by rw [hg_111]; rfl) ?_
                        refine qp (b := decide (e_109 < 0)) 115 rfl rfl rfl rfl (by rw [hg_111]; rfl) ?_
                        refine qp (b := decide (e_109 < 0)) 115 rfl rfl rfl rfl (by rw [hg_111]; rfl) ?_
                        refine qp (b := decide (e_109 < 0)) 115 rfl rfl rfl rfl (by rw [hg_111]; rfl) ?_
                        refine qp (b := decide (e_109 < 0)) 115 rfl rfl rfl rfl (by rw [hg_111]; rfl) ?_
                        refine qv (v := (.bool true)) rfl (fun _ hC => r_pickT (congrArg Value.bool hg_111) rfl) ?_
                        refine qv (v := (.bool true)) rfl (fun _ hC => r_move rfl) ?_
                        refine qp (b := true) 124 rfl rfl rfl rfl rfl ?_
                        refine qp (b := true) 124 rfl rfl rfl rfl rfl ?_
                        refine qp (b := true) 124 rfl rfl rfl rfl rfl ?_
                        refine qp (b := true) 124 rfl rfl rfl rfl rfl ?_
                        refine qp (b := true) 124 rfl rfl rfl rfl rfl ?_
                        refine qp (b := true) 124 rfl rfl rfl rfl rfl ?_
                        refine qp (b := true) 124 rfl rfl rfl rfl rfl ?_
                        refine qp (b := true) 124 rfl rfl rfl rfl rfl ?_
                        refine qp (b := true) 124 rfl rfl rfl rfl rfl ?_
                        refine qp (b := true) 124 rfl rfl rfl rfl rfl ?_
                        refine qv (v := (.bool true)) rfl (fun _ hC => r_pickT rfl rfl) ?_
                        refine qv (v := (.bool true)) rfl (fun _ hC => r_move rfl) ?_
                        refine qp (b := true) 136 rfl rfl rfl rfl rfl ?_
                        refine qp (b := true) 136 rfl rfl rfl rfl rfl ?_
                        refine qp (b := true) 136 rfl rfl rfl rfl rfl ?_
                        refine qp (b := true) 136 rfl rfl rfl rfl rfl ?_
                        refine qp (b := true) 136 rfl rfl rfl rfl rfl ?_
                        refine qp (b := true) 136 rfl rfl rfl rfl rfl ?_
                        refine qp (b := true) 136 rfl rfl rfl rfl rfl ?_
                        refine qp (b := true) 136 rfl rfl rfl rfl rfl ?_
                        refine qv (v := (.bool true)) rfl (fun _ hC => r_pickT rfl rfl) ?_
                        refine qv (v := (.bool true)) rfl (fun _ hC => r_move rfl) ?_
                        refine qp (b := true) 146 rfl rfl rfl rfl rfl ?_
                        refine qp (b := true) 146 rfl rfl rfl rfl rfl ?_
                        refine qp (b := true) 146 rfl rfl rfl rfl rfl ?_
                        refine qp (b := true) 146 rfl rfl rfl rfl rfl ?_
                        refine qp (b := true) 146 rfl rfl rfl rfl rfl ?_
                        refine qp (b := true) 146 rfl rfl rfl rfl rfl ?_
                        refine qp (b := true) 146 rfl rfl rfl rfl rfl ?_
                        refine qp (b := true) 146 rfl rfl rfl rfl rfl ?_
                        refine qv (v := (.bool true)) rfl (fun _ hC => r_pickT rfl rfl) ?_
                        refine qnil ?_
                        intro w_112 hC
                        replace hC : Grow col_76 w_75 col_76 w_112 := .of_below hC.below
                        replace h0 := h0.gr hC
                        replace rh_21 := rh_21.gr hC
                        replace hst := hst.grow hC
                        exact ⟨col_76, true, hm, hst, h0, rh_21, rfl, rfl, rfl, rfl, rfl⟩
                      · rw [if_neg hg_111] at hm
                        replace hg_111 := Bool.eq_false_iff.2 hg_111
                        refine qg (b := decide (e_109 < 0)) 115 rfl rfl rfl (by rw [hg_111]; rfl) ?_
                        refine qv (v := (.slice ra_19 r_17.length rc_20)) rfl (fun _ hC => r_move rfl) ?_
                        refine qg (b := decide (e_109 < 0)) 115 rfl rfl rfl (by rw [hg_111]; rfl) ?_
                        refine qv (v := (.int .i64 i_77)) rfl (fun _ hC => r_move rfl) ?_
                        refine qg (b := decide (e_109 < 0)) 115 rfl rfl rfl (by rw [hg_111]; rfl) ?_
                        refine qv (v := (sptr ra_19 (Int.toNat i_77 * 1))) rfl (fun _ hC => r_idx Try.underlying31 Try.sizeOf3 rfl rfl (at?_some hj_110).1 (at?_some hj_110).2.1 (rh_21.addr hj_110)) ?_
                        refine qg (b := decide (e_109 < 0)) 115 rfl rfl rfl (by rw [hg_111]; rfl) ?_
                        refine qv (v := (.int .i64 e_109)) rfl (fun _ hC => r_ld Try.isAgg3 rfl ((rh_21.gr (Grow.of_below (col := col_76) hC.below)).atInt hj_110)) ?_
                        refine qg (b := decide (e_109 < 0)) 115 rfl rfl rfl (by rw [hg_111]; rfl) ?_
                        refine qv (v := (.slice a0 p0_parents.length cap0)) rfl (fun _ hC => r_move rfl) ?_
                        refine qg (b := decide (e_109 < 0)) 115 rfl rfl rfl (by rw [hg_111]; rfl) ?_
                        refine qv (v := (.int .i64 (p0_parents.length : Int))) rfl (fun _ hC => r_len Try.underlying22 rfl) ?_
                        refine qg (b := decide (e_109 < 0)) 115 rfl rfl rfl (by rw [hg_111]; rfl) ?_
                        refine qv (v := (.bool (decide ((p0_parents.length : Int) ≤ e_109)))) rfl (fun _ hC => r_geq e_109 (p0_parents.length : Int) rfl rfl) ?_
                        refine qv (v := (.bool (decide ((p0_parents.length : Int) ≤ e_109)))) rfl (fun _ hC => r_pickF (congrArg Value.bool hg_111) rfl) ?_
                        refine qv (v := (.bool (decide ((p0_parents.length : Int) ≤ e_109)))) rfl (fun _ hC => r_move rfl) ?_
                        by_cases hg_113 : (decide ((p0_parents.length : Int) ≤ e_109)) = true
                        · rw [if_pos hg_113] at hm
                          refine qp (b := decide ((p0_parents.length : Int) ≤ e_109)) 124 rfl rfl rfl rfl (by rw [hg_113]; rfl) ?_
                          refine qp (b := decide ((p0_parents.length : Int) ≤ e_109)) 124 rfl rfl rfl rfl (by rw [hg_113]; rfl) ?_
                          refine qp (b := decide ((p0_parents.length : Int) ≤ e_109)) 124 rfl rfl rfl rfl (by rw [hg_113]; rfl) ?_
                          refine qp (b := decide ((p0_parents.length : Int) ≤ e_109)) 124 rfl rfl rfl rfl (by rw [hg_113]; rfl) ?_
                          refine qp (b := decide ((p0_parents.length : Int) ≤ e_109)) 124 rfl rfl rfl rfl (by rw [hg_113]; rfl) ?_
                          refine qp (b := decide ((p0_parents.length : Int) ≤ e_109)) 124 rfl rfl rfl rfl (by rw [hg_113]; rfl) ?_
                          refine qp (b := decide ((p0_parents.length : Int) ≤ e_109)) 124 rfl rfl rfl rfl (by rw [hg_113]; rfl) ?_
                          refine qp (b := decide ((p0_parents.length : Int) ≤ e_109)) 124 rfl rfl rfl rfl (by rw [hg_113]; rfl) ?_
                          refine qp (b := decide ((p0_parents.length : Int) ≤ e_109)) 124 rfl rfl rfl rfl (by rw [hg_113]; rfl) ?_
                          refine qp (b := decide ((p0_parents.length : Int) ≤ e_109)) 124 rfl rfl rfl rfl (by rw [hg_113]; rfl) ?_
                          refine qv (v := (.bool true)) rfl (fun _ hC => r_pickT (congrArg Value.bool hg_113) rfl) ?_
                          refine qv (v := (.bool true)) rfl (fun _ hC => r_move rfl) ?_
                          refine qp (b := true) 136 rfl rfl rfl rfl rfl ?_
                          refine qp (b := true) 136 rfl rfl rfl rfl rfl ?_
                          refine qp (b := true) 136 rfl rfl rfl rfl rfl ?_
                          refine qp (b := true) 136 rfl rfl rfl rfl rfl ?_
                          refine qp (b := true) 136 rfl rfl rfl rfl rfl ?_
                          refine qp (b := true) 136 rfl rfl rfl rfl rfl ?_
                          refine qp (b := true) 136 rfl rfl rfl rfl rfl ?_
                          refine qp (b := true) 136 rfl rfl rfl rfl rfl ?_
                          refine qv (v := (.bool true)) rfl (fun _ hC => r_pickT rfl rfl) ?_
                          refine qv (v := (.bool true)) rfl (fun _ hC => r_move rfl) ?_
                          refine qp (b := true) 146 rfl rfl rfl rfl rfl ?_
                          refine qp (b := true) 146 rfl rfl rfl rfl rfl ?_
                          refine qp (b := true) 146 rfl rfl rfl rfl rfl ?_
                          refine qp (b := true) 146 rfl rfl rfl rfl rfl ?_
                          refine qp (b := true) 146 rfl rfl rfl rfl rfl ?_
                          refine qp (b := true) 146 rfl rfl rfl rfl rfl ?_
                          refine qp (b := true) 146 rfl rfl rfl rfl rfl ?_
                          refine qp (b := true) 146 rfl rfl rfl rfl rfl ?_
                          refine qv (v := (.bool true)) rfl (fun _ hC => r_pickT rfl rfl) ?_
                          refine qnil ?_
                          intro w_114 hC
                          replace hC : Grow col_76 w_75 col_76 w_114 := .of_below hC.below
                          replace h0 := h0.gr hC
                          replace rh_21 := rh_21.gr hC
                          replace hst := hst.grow hC
                          exact ⟨col_76, true, hm, hst, h0, rh_21, rfl, rfl, rfl, rfl, rfl⟩
                        · rw [if_neg hg_113] at hm
                          replace hg_113 := Bool.eq_false_iff.2 hg_113
                          refine qg (b := decide ((p0_parents.length : Int) ≤ e_109)) 124 rfl rfl rfl (by rw [hg_113]; rfl) ?_
                          refine qv (v := (.slice a0 p0_parents.length cap0)) rfl (fun _ hC => r_move rfl) ?_
                          refine qg (b := decide ((p0_parents.length : Int) ≤ e_109)) 124 rfl rfl rfl (by rw [hg_113]; rfl) ?_
                          refine qv (v := (.slice ra_19 r_17.length rc_20)) rfl (fun _ hC => r_move rfl) ?_
                          refine qg (b := decide ((p0_parents.length : Int) ≤ e_109)) 124 rfl rfl rfl (by rw [hg_113]; rfl) ?_
                          refine qv (v := (.int .i64 i_77)) rfl (fun _ hC => r_move rfl) ?_
                          refine qg (b := decide ((p0_parents.length : Int) ≤ e_109)) 124 rfl rfl rfl (by rw [hg_113]; rfl) ?_
                          refine qv (v := (sptr ra_19 (Int.toNat i_77 * 1))) rfl (fun _ hC => r_idx Try.underlying31 Try.sizeOf3 rfl rfl (at?_some hj_110).1 (at?_some hj_110).2.1 (rh_21.addr hj_110)) ?_
                          refine qg (b := decide ((p0_parents.length : Int) ≤ e_109)) 124 rfl rfl rfl (by rw [hg_113]; rfl) ?_
                          refine qv (v := (.int .i64 e_109)) rfl (fun _ hC => r_ld Try.isAgg3 rfl ((rh_21.gr (Grow.of_below (col := col_76) hC.below)).atInt hj_110)) ?_
                          refine qg (b := decide ((p0_parents.length : Int) ≤ e_109)) 124 rfl rfl rfl (by rw [hg_113]; rfl) ?_
                          obtain ⟨e_115, hj_116, hm⟩ := bind_some hm
                          refine qv (v := (sptr a0 (Int.toNat e_109 * 1))) rfl (fun _ hC => r_idx Try.underlying22 Try.sizeOf31 rfl rfl (at?_some hj_116).1 (at?_some hj_116).2.1 (h0.addr hj_116)) ?_
                          refine qg (b := decide ((p0_parents.length : Int) ≤ e_109)) 124 rfl rfl rfl (by rw [hg_113]; rfl) ?_
                          obtain ⟨_, hr_117, hA_118⟩ := h0.atN hj_116
                          obtain ⟨⟨a_119, cap_120, rfl, h_121⟩, _⟩ := hr_117
                          refine qv (v := (.slice a_119 e_115.length cap_120)) rfl (fun _ hC => r_ld Try.isAgg31 rfl (hA_118.one.gr (Grow.of_below (col := col_76) hC.below))) ?_
                          refine qg (b := decide ((p0_parents.length : Int) ≤ e_109)) 124 rfl rfl rfl (by rw [hg_113]; rfl) ?_
                          refine qv (v := (.int .i64 e_79)) rfl (fun _ hC => r_move rfl) ?_
                          refine qg (b := decide ((p0_parents.length : Int) ≤ e_109)) 124 rfl rfl rfl (by rw [hg_113]; rfl) ?_
                          obtain ⟨r_122, hr_123, hm⟩ := bind_some hm
                          refine qc (v := (.bool r_122)) rfl (fun _ hC => ⟨_, _, r_call2 Try.call20 rfl rfl, (c_credencelaw14_in N col_76 _ a_119 cap_120 e_115 e_79 (h_121.gr (Grow.of_below (col := col_76) hC.below)) r_122 hr_123).mono fun _ _ h => ⟨h.1, hC.trans (.of_below h.2)⟩⟩) ?_
                          refine qg (b := decide ((p0_parents.length : Int) ≤ e_109)) 124 rfl rfl rfl (by rw [hg_113]; rfl) ?_
                          refine qv (v := (.bool (!r_122))) rfl (fun _ hC => r_not r_122 rfl) ?_
                          refine qv (v := (.bool (!r_122))) rfl (fun _ hC => r_pickF (congrArg Value.bool hg_113) rfl) ?_
                          refine qv (v := (.bool (!r_122))) rfl (fun _ hC => r_move rfl) ?_
                          by_cases hg_124 : (!r_122) = true
                          · rw [if_pos hg_124] at hm
                            refine qp (b := !r_122) 136 rfl rfl rfl rfl (by rw [hg_124]; rfl) ?_
                            refine qp (b := !r_122) 136 rfl rfl rfl rfl (by rw [hg_124]; rfl) ?_
                            refine qp (b := !r_122) 136 rfl rfl rfl rfl (by rw [hg_124]; rfl) ?_
                            refine qp (b := !r_122) 136 rfl rfl rfl rfl (by rw [hg_124]; rfl) ?_
                            refine qp (b := !r_122) 136 rfl rfl rfl rfl (by rw [hg_124]; rfl) ?_
                            refine qp (b := !r_122) 136 rfl rfl rfl rfl (by rw [hg_124]; rfl) ?_
                            refine qp (b := !r_122) 136 rfl rfl rfl rfl (by rw [hg_124]; rfl) ?_
                            refine qp (b := !r_122) 136 rfl rfl rfl rfl (by rw [hg_124]; rfl) ?_
                            refine qv (v := (.bool true)) rfl (fun _ hC => r_pickT (congrArg Value.bool hg_124) rfl) ?_
                            refine qv (v := (.bool true)) rfl (fun _ hC => r_move rfl) ?_
                            refine qp (b := true) 146 rfl rfl rfl rfl rfl ?_
                            refine qp (b := true) 146 rfl rfl rfl rfl rfl ?_
                            refine qp (b := true) 146 rfl rfl rfl rfl rfl ?_
                            refine qp (b := true) 146 rfl rfl rfl rfl rfl ?_
                            refine qp (b := true) 146 rfl rfl rfl rfl rfl ?_
                            refine qp (b := true) 146 rfl rfl rfl rfl rfl ?_
                            refine qp (b := true) 146 rfl rfl rfl rfl rfl ?_
                            refine qp (b := true) 146 rfl rfl rfl rfl rfl ?_
                            refine qv (v := (.bool true)) rfl (fun _ hC => r_pickT rfl rfl) ?_
                            refine qnil ?_
                            intro w_125 hC
                            replace hC : Grow col_76 w_75 col_76 w_125 := .of_below hC.below
                            replace h0 := h0.gr hC
                            replace rh_21 := rh_21.gr hC
                            replace hst := hst.grow hC
                            exact ⟨col_76, true, hm, hst, h0, rh_21, rfl, rfl, rfl, rfl, rfl⟩
                          · rw [if_neg hg_124] at hm
                            replace hg_124 := Bool.eq_false_iff.2 hg_124
                            refine qg (b := !r_122) 136 rfl rfl rfl (by rw [hg_124]; rfl) ?_
                            refine qv (v := (.slice ra_19 r_17.length rc_20)) rfl (fun _ hC => r_move rfl) ?_
                            refine qg (b := !r_122) 136 rfl rfl rfl (by rw [hg_124]; rfl) ?_
                            refine qv (v := (.int .i64 i_77)) rfl (fun _ hC => r_move rfl) ?_
                            refine qg (b := !r_122) 136 rfl rfl rfl (by rw [hg_124]; rfl) ?_
                            obtain ⟨hb_126, hm⟩ := chk_some hm
                            refine qv (v := .slice ra_19 (Int.toNat i_77) rc_20) rfl (fun _ hC => r_sliceH Try.underlying31 Try.sizeOf3 rfl rfl hb_126.1 (by have := rh_21.lecap; have := hb_126.2; omega)) ?_
                            refine .ld (d := 139) (v := (.slice ra_19 ((r_17.take (Int.toNat i_77)).length) rc_20)) (congrArg (fun n => Value.slice ra_19 n rc_20) (List.length_take_of_le (show (Int.toNat i_77) ≤ r_17.length by have := hb_126.2; omega)).symm) ?_
                            refine qg (b := !r_122) 136 rfl rfl rfl (by rw [hg_124]; rfl) ?_
                            refine qv (v := (.slice ra_19 r_17.length rc_20)) rfl (fun _ hC => r_move rfl) ?_
                            refine qg (b := !r_122) 136 rfl rfl rfl (by rw [hg_124]; rfl) ?_
                            refine qv (v := (.int .i64 i_77)) rfl (fun _ hC => r_move rfl) ?_
                            refine qg (b := !r_122) 136 rfl rfl rfl (by rw [hg_124]; rfl) ?_
                            refine qv (v := (sptr ra_19 (Int.toNat i_77 * 1))) rfl (fun _ hC => r_idx Try.underlying31 Try.sizeOf3 rfl rfl (at?_some hj_110).1 (at?_some hj_110).2.1 (rh_21.addr hj_110)) ?_
                            refine qg (b := !r_122) 136 rfl rfl rfl (by rw [hg_124]; rfl) ?_
                            refine qv (v := (.int .i64 e_109)) rfl (fun _ hC => r_ld Try.isAgg3 rfl ((rh_21.gr (Grow.of_below (col := col_76) hC.below)).atInt hj_110)) ?_
                            refine qg (b := !r_122) 136 rfl rfl rfl (by rw [hg_124]; rfl) ?_
                            obtain ⟨r_127, hr_128, hm⟩ := bind_some hm
                            refine qc (v := (.bool r_127)) rfl (fun _ hC => ⟨_, _, r_call2 Try.call20 rfl rfl, (c_credencelaw14_in N (frC 2 col_76) _ ra_19 rc_20 (r_17.take (Int.toNat i_77)) e_109 (((rh_21.take (Int.toNat i_77)).gr (Grow.of_below (col := col_76) hC.below)).toSlF (Froz.int .i64)) r_127 hr_128).mono fun _ _ h => ⟨h.1, hC.trans (.of_below h.2)⟩⟩) ?_
                            refine qv (v := (.bool r_127)) rfl (fun _ hC => r_pickF (congrArg Value.bool hg_124) rfl) ?_
                            refine qv (v := (.bool r_127)) rfl (fun _ hC => r_move rfl) ?_
                            by_cases hg_129 : r_127 = true
                            · rw [if_pos hg_129] at hm
                              refine qp (b := r_127) 146 rfl rfl rfl rfl (by rw [hg_129]; rfl) ?_
                              refine qp (b := r_127) 146 rfl rfl rfl rfl (by rw [hg_129]; rfl) ?_
                              refine qp (b := r_127) 146 rfl rfl rfl rfl (by rw [hg_129]; rfl) ?_
                              refine qp (b := r_127) 146 rfl rfl rfl rfl (by rw [hg_129]; rfl) ?_
                              refine qp (b := r_127) 146 rfl rfl rfl rfl (by rw [hg_129]; rfl) ?_
                              refine qp (b := r_127) 146 rfl rfl rfl rfl (by rw [hg_129]; rfl) ?_
                              refine qp (b := r_127) 146 rfl rfl rfl rfl (by rw [hg_129]; rfl) ?_
                              refine qp (b := r_127) 146 rfl rfl rfl rfl (by rw [hg_129]; rfl) ?_
                              refine qv (v := (.bool true)) rfl (fun _ hC => r_pickT (congrArg Value.bool hg_129) rfl) ?_
                              refine qnil ?_
                              intro w_130 hC
                              replace hC : Grow col_76 w_75 col_76 w_130 := .of_below hC.below
                              replace h0 := h0.gr hC
                              replace rh_21 := rh_21.gr hC
                              replace hst := hst.grow hC
                              exact ⟨col_76, true, hm, hst, h0, rh_21, rfl, rfl, rfl, rfl, rfl⟩
                            · rw [if_neg hg_129] at hm
                              replace hg_129 := Bool.eq_false_iff.2 hg_129
                              refine qg (b := r_127) 146 rfl rfl rfl (by rw [hg_129]; rfl) ?_
                              refine qv (v := (.slice ra_19 r_17.length rc_20)) rfl (fun _ hC => r_move rfl) ?_
                              refine qg (b := r_127) 146 rfl rfl rfl (by rw [hg_129]; rfl) ?_
                              refine qv (v := (.int .i64 i_77)) rfl (fun _ hC => r_move rfl) ?_
                              refine qg (b := r_127) 146 rfl rfl rfl (by rw [hg_129]; rfl) ?_
                              refine qv (v := (sptr ra_19 (Int.toNat i_77 * 1))) rfl (fun _ hC => r_idx Try.underlying31 Try.sizeOf3 rfl rfl (at?_some hj_110).1 (at?_some hj_110).2.1 (rh_21.addr hj_110)) ?_
                              refine qg (b := r_127) 146 rfl rfl rfl (by rw [hg_129]; rfl) ?_
                              refine qv (v := (.int .i64 e_109)) rfl (fun _ hC => r_ld Try.isAgg3 rfl ((rh_21.gr (Grow.of_below (col := col_76) hC.below)).atInt hj_110)) ?_
                              refine qg (b := r_127) 146 rfl rfl rfl (by rw [hg_129]; rfl) ?_
                              refine qv (v := (.slice ra_19 r_17.length rc_20)) rfl (fun _ hC => r_move rfl) ?_
                              refine qg (b := r_127) 146 rfl rfl rfl (by rw [hg_129]; rfl) ?_
                              obtain ⟨e_131, hj_132, hm⟩ := bind_some hm
                              refine qv (v := (sptr ra_19 (Int.toNat 0 * 1))) rfl (fun _ hC => r_idx Try.underlying31 Try.sizeOf3 rfl rfl (at?_some hj_132).1 (at?_some hj_132).2.1 (rh_21.addr hj_132)) ?_
                              refine qg (b := r_127) 146 rfl rfl rfl (by rw [hg_129]; rfl) ?_
                              refine qv (v := (.int .i64 e_131)) rfl (fun _ hC => r_ld Try.isAgg3 rfl ((rh_21.gr (Grow.of_below (col := col_76) hC.below)).atInt hj_132)) ?_
                              refine qg (b := r_127) 146 rfl rfl rfl (by rw [hg_129]; rfl) ?_
                              refine qv (v := (.bool (decide (e_109 < e_131)))) rfl (fun _ hC => r_lss e_109 e_131 rfl rfl) ?_
                              refine qv (v := (.bool (decide (e_109 < e_131)))) rfl (fun _ hC => r_pickF (congrArg Value.bool hg_129) rfl) ?_
                              refine qnil ?_
                              intro w_133 hC
                              replace hC : Grow col_76 w_75 col_76 w_133 := .of_below hC.below
                              replace h0 := h0.gr hC
                              replace rh_21 := rh_21.gr hC
                              replace hst := hst.grow hC
                              exact ⟨col_76, (decide (e_109 < e_131)), hm, hst, h0, rh_21, rfl, rfl, rfl, rfl, rfl⟩
                  · rw [if_neg (by rw [hb]; decide)] at hm
                    clear hb
                    refine wexit (inB_hit ?_)
                    refine wseq ?_
                    refine wregion ?_
                    refine lv (v := (.bool true)) rfl rfl (r_assign rfl) ?_
                    refine lnil ?_
                    refine wret ?_
                    cases hm
                    exact ⟨rfl, rfl, hst.below⟩
            · refine wregion ?_
              refine lv (v := (.slice ra_19 r_17.length rc_20)) rfl rfl (r_move rfl) ?_
              refine lv (v := (.int .i64 (r_17.length : Int))) rfl rfl (r_len Try.underlying31 rfl) ?_
              refine lv (v := (.bool (decide ((r_17.length : Int) = 0)))) rfl rfl (r_eql (r_17.length : Int) 0 rfl rfl) ?_
              refine lv (v := (.bool (decide ((r_17.length : Int) = 0)))) rfl rfl (r_move rfl) ?_
              by_cases hg_134 : (decide ((r_17.length : Int) = 0)) = true
              · rw [if_pos hg_134] at hm
                refine lp (b := decide ((r_17.length : Int) = 0)) 91 rfl rfl rfl rfl (by rw [hg_134]; rfl) ?_
                refine lp (b := decide ((r_17.length : Int) = 0)) 91 rfl rfl rfl rfl (by rw [hg_134]; rfl) ?_
                refine lp (b := decide ((r_17.length : Int) = 0)) 91 rfl rfl rfl rfl (by rw [hg_134]; rfl) ?_
                refine lv (v := (.bool true)) rfl rfl (r_pickT (congrArg Value.bool hg_134) rfl) ?_
                refine lnil ?_
                exact ⟨col_34, true, hm, hst, h0, rh_21, rfl, rfl, rfl, rfl⟩
              · rw [if_neg hg_134] at hm
                replace hg_134 := Bool.eq_false_iff.2 hg_134
                refine lg (b := decide ((r_17.length : Int) = 0)) 91 rfl rfl rfl (by rw [hg_134]; rfl) ?_
                refine lv (v := (.slice ra_11 r_9.1.length rc_12)) rfl rfl (r_move rfl) ?_
                refine lg (b := decide ((r_17.length : Int) = 0)) 91 rfl rfl rfl (by rw [hg_134]; rfl) ?_
                refine lv (v := (.int .i64 (r_9.1.length : Int))) rfl rfl (r_len Try.underlying31 rfl) ?_
                refine lg (b := decide ((r_17.length : Int) = 0)) 91 rfl rfl rfl (by rw [hg_134]; rfl) ?_
                refine lv (v := (.bool (!decide ((r_9.1.length : Int) = 0)))) rfl rfl (r_neq (r_9.1.length : Int) 0 rfl rfl) ?_
                refine lv (v := (.bool (!decide ((r_9.1.length : Int) = 0)))) rfl rfl (r_pickF (congrArg Value.bool hg_134) rfl) ?_
                refine lnil ?_
                exact ⟨col_34, (!decide ((r_9.1.length : Int) = 0)), hm, hst, h0, rh_21, rfl, rfl, rfl, rfl⟩
        · refine wseq ?_
          refine Wp.cut (fun f w_136 => ∃ (col_137 : Col) (v_138 : Bool), m_credencelaw14_DagOrder_J6 N p0_parents r_9 r_17 v_138 = some r ∧ St w0 (col0 col) col_137 w_136 ∧ Sl (Rep.slice (Rep.int .i64)) col_137 w_136 a0 cap0 p0_parents ∧ Own (Rep.int .i64) 3 1 col_137 w_136 ra_11 rc_12 r_9.1 ∧ Own (Rep.int .i64) 3 2 col_137 w_136 ra_19 rc_20 r_17 ∧ f 0 = (.slice a0 p0_parents.length cap0) ∧ f 36 = (.bool v_138) ∧ f 4 = (.slice ra_11 r_9.1.length rc_12) ∧ f 5 = (.int .i64 r_9.2) ∧ f 6 = (.slice ra_19 r_17.length rc_20) ∧ f 1000000 = (enc [])) ?_ ?_
          · intro f w_136 hJ
            obtain ⟨col_137, v_138, hm, hst, h0, rh_13, rh_21, hs0, hs36, hs4, hs5, hs6, hs1000000⟩ := hJ
            rw [m_credencelaw14_DagOrder_J6.eq_1] at hm
            refine .ld (d := 0) (v := (.slice a0 p0_parents.length cap0)) hs0 ?_
            refine .ld (d := 36) (v := (.bool v_138)) hs36 ?_
            refine .ld (d := 4) (v := (.slice ra_11 r_9.1.length rc_12)) hs4 ?_
            refine .ld (d := 5) (v := (.int .i64 r_9.2)) hs5 ?_
            refine .ld (d := 6) (v := (.slice ra_19 r_17.length rc_20)) hs6 ?_
            refine .ld (d := 1000000) (v := (enc [])) hs1000000 ?_
            clear hs0 hs36 hs4 hs5 hs6 hs1000000
            refine wcond (v_138) rfl (fun hb => ?_) (fun hb => ?_)
            · rw [if_pos hb] at hm
              clear hb
              refine wseq ?_
              refine Wp.cut (fun f w_140 => ∃ (col_141 : Col) (v_142 : Bool), m_credencelaw14_DagOrder_J7 v_142 = some r ∧ St w0 (col0 col) col_141 w_140 ∧ f 2 = (.bool v_142) ∧ f 1000000 = (enc [])) ?_ ?_
              · intro f w_140 hJ
                obtain ⟨col_141, v_142, hm, hst, hs2, hs1000000⟩ := hJ
                rw [m_credencelaw14_DagOrder_J7.eq_1] at hm
                refine .ld (d := 2) (v := (.bool v_142)) hs2 ?_
                refine .ld (d := 1000000) (v := (enc [])) hs1000000 ?_
                clear hs2 hs1000000
                refine wret ?_
                cases hm
                exact ⟨rfl, rfl, hst.below⟩
              · refine wregion ?_
                refine lv (v := (.slice ra_11 r_9.1.length rc_12)) rfl rfl (r_move rfl) ?_
                refine lv (v := (.int .i64 (r_9.1.length : Int))) rfl rfl (r_len Try.underlying31 rfl) ?_
                refine lv (v := (.bool (decide ((r_9.1.length : Int) = 0)))) rfl rfl (r_eql (r_9.1.length : Int) 0 rfl rfl) ?_
                refine lv (v := (.bool (decide ((r_9.1.length : Int) = 0)))) rfl rfl (r_move rfl) ?_
                by_cases hg_143 : (decide ((r_9.1.length : Int) = 0)) = true
                · rw [if_pos hg_143] at hm
                  refine lg (b := decide ((r_9.1.length : Int) = 0)) 40 rfl rfl rfl (by rw [hg_143]; rfl) ?_
                  refine lv (v := (.slice ra_19 r_17.length rc_20)) rfl rfl (r_move rfl) ?_
                  refine lg (b := decide ((r_9.1.length : Int) = 0)) 40 rfl rfl rfl (by rw [hg_143]; rfl) ?_
                  refine lv (v := (.int .i64 (r_17.length : Int))) rfl rfl (r_len Try.underlying31 rfl) ?_
                  refine lg (b := decide ((r_9.1.length : Int) = 0)) 40 rfl rfl rfl (by rw [hg_143]; rfl) ?_
                  refine lv (v := (.bool (decide ((r_17.length : Int) = 0)))) rfl rfl (r_eql (r_17.length : Int) 0 rfl rfl) ?_
                  refine lv (v := (.bool (decide ((r_17.length : Int) = 0)))) rfl rfl (r_pickT (congrArg Value.bool hg_143) rfl) ?_
                  refine lv (v := (.bool (decide ((r_17.length : Int) = 0)))) rfl rfl (r_assign rfl) ?_
                  refine lnil ?_
                  exact ⟨col_137, (decide ((r_17.length : Int) = 0)), hm, hst, rfl, rfl⟩
                · rw [if_neg hg_143] at hm
                  replace hg_143 := Bool.eq_false_iff.2 hg_143
                  refine lp (b := decide ((r_9.1.length : Int) = 0)) 40 rfl rfl rfl rfl (by rw [hg_143]; rfl) ?_
                  refine lp (b := decide ((r_9.1.length : Int) = 0)) 40 rfl rfl rfl rfl (by rw [hg_143]; rfl) ?_
                  refine lp (b := decide ((r_9.1.length : Int) = 0)) 40 rfl rfl rfl rfl (by rw [hg_143]; rfl) ?_
                  refine lv (v := (.bool false)) rfl rfl (r_pickF (congrArg Value.bool hg_143) rfl) ?_
                  refine lv (v := (.bool false)) rfl rfl (r_assign rfl) ?_
                  refine lnil ?_
                  exact ⟨col_137, false, hm, hst, rfl, rfl⟩
            · rw [if_neg (by rw [hb]; decide)] at hm
              clear hb
              refine wskip ?_
              exact ⟨col_137, hm, hst, h0, rh_13, rh_21, rfl, rfl, rfl, rfl, rfl⟩
          · refine wregion ?_
            refine lv (v := (.int .i64 r_9.2)) rfl rfl (r_move rfl) ?_
            refine lv (v := (.bool (!decide (r_9.2 = 0)))) rfl rfl (r_neq r_9.2 0 rfl rfl) ?_
            refine lv (v := (.bool (!decide (r_9.2 = 0)))) rfl rfl (r_move rfl) ?_
            by_cases hg_144 : (!decide (r_9.2 = 0)) = true
            · rw [if_pos hg_144] at hm
              refine lg (b := !decide (r_9.2 = 0)) 33 rfl rfl rfl (by rw [hg_144]; rfl) ?_
              refine lv (v := (.int .i64 r_9.2)) rfl rfl (r_move rfl) ?_
              refine lg (b := !decide (r_9.2 = 0)) 33 rfl rfl rfl (by rw [hg_144]; rfl) ?_
              refine lv (v := (.bool (!decide (r_9.2 = 42)))) rfl rfl (r_neq r_9.2 42 rfl rfl) ?_
              refine lv (v := (.bool (!decide (r_9.2 = 42)))) rfl rfl (r_pickT (congrArg Value.bool hg_144) rfl) ?_
              refine lnil ?_
              exact ⟨col_31, (!decide (r_9.2 = 42)), hm, hst, h0, rh_13, rh_21, rfl, rfl, rfl, rfl, rfl, rfl⟩
            · rw [if_neg hg_144] at hm
              replace hg_144 := Bool.eq_false_iff.2 hg_144
              refine lp (b := !decide (r_9.2 = 0)) 33 rfl rfl rfl rfl (by rw [hg_144]; rfl) ?_
              refine lp (b := !decide (r_9.2 = 0)) 33 rfl rfl rfl rfl (by rw [hg_144]; rfl) ?_
              refine lv (v := (.bool false)) rfl rfl (r_pickF (congrArg Value.bool hg_144) rfl) ?_
              refine lnil ?_
              exact ⟨col_31, false, hm, hst, h0, rh_13, rh_21, rfl, rfl, rfl, rfl, rfl, rfl⟩
    · refine wregion ?_
      refine lv (v := (.bool r_1)) rfl rfl (r_move rfl) ?_
      refine lv (v := (.bool (!r_1))) rfl rfl (r_not r_1 rfl) ?_
      refine lv (v := (.bool (!r_1))) rfl rfl (r_move rfl) ?_
      by_cases hg_145 : (!r_1) = true
      · rw [if_pos hg_145] at hm
        refine lp (b := !r_1) 25 rfl rfl rfl rfl (by rw [hg_145]; rfl) ?_
        refine lp (b := !r_1) 25 rfl rfl rfl rfl (by rw [hg_145]; rfl) ?_
        refine lp (b := !r_1) 25 rfl rfl rfl rfl (by rw [hg_145]; rfl) ?_
        refine lp (b := !r_1) 25 rfl rfl rfl rfl (by rw [hg_145]; rfl) ?_
        refine lv (v := (.bool true)) rfl rfl (r_pickT (congrArg Value.bool hg_145) rfl) ?_
        refine lnil ?_
        exact ⟨col_24, true, hm, hst, h0, rh_13, rh_21, rfl, rfl, rfl, rfl, rfl, rfl⟩
      · rw [if_neg hg_145] at hm
        replace hg_145 := Bool.eq_false_iff.2 hg_145
        refine lg (b := !r_1) 25 rfl rfl rfl (by rw [hg_145]; rfl) ?_
        refine lv (v := (.int .i64 r_9.2)) rfl rfl (r_move rfl) ?_
        refine lg (b := !r_1) 25 rfl rfl rfl (by rw [hg_145]; rfl) ?_
        refine lv (v := (.slice a0 p0_parents.length cap0)) rfl rfl (r_move rfl) ?_
        refine lg (b := !r_1) 25 rfl rfl rfl (by rw [hg_145]; rfl) ?_
        obtain ⟨r_146, hr_147, hm⟩ := bind_some hm
        refine lc rfl rfl (r_call1 Try.call18 rfl) (c_dag_Check N col_24 _ a0 cap0 p0_parents h0 r_146 hr_147) ?_
        rintro _ w_148 ⟨rfl, hg_149⟩
        refine ⟨_, rfl, ?_⟩
        replace hg_149 : Grow col_24 w_22 col_24 w_148 := .of_below hg_149
        replace h0 := h0.gr hg_149
        replace rh_13 := rh_13.gr hg_149
        replace rh_21 := rh_21.gr hg_149
        replace hst := hst.grow hg_149
        refine lg (b := !r_1) 25 rfl rfl rfl (by rw [hg_145]; rfl) ?_
        refine lv (v := (.bool (!decide (r_9.2 = r_146)))) rfl rfl (r_neq r_9.2 r_146 rfl rfl) ?_
        refine lv (v := (.bool (!decide (r_9.2 = r_146)))) rfl rfl (r_pickF (congrArg Value.bool hg_145) rfl) ?_
        refine lnil ?_
        exact ⟨col_24, (!decide (r_9.2 = r_146)), hm, hst, h0, rh_13, rh_21, rfl, rfl, rfl, rfl, rfl, rfl⟩



def OrdL (P : List (List Int)) (l : List Int) : Prop := ∀ (j : Nat) (hj : j < l.length), ∀ q ∈ way P l[j], q ∈ l.take j
theorem ord_step {P : List (List Int)} {l : List Int} {p : Nat} (h : OrdL P l) (hn : nextF P l 0 = some p) : OrdL P (l ++ [(p : Int)]) := by
  obtain ⟨_, h2, h3, _⟩ := nextF_some hn
  obtain ⟨h4, h5⟩ := (rdyB_iff h2).1 h3
  intro j hj q hq
  by_cases hjl : j < l.length
  · rw [List.getElem_append_left hjl] at hq
    rw [List.take_append_of_le_length (by omega)]
    exact h j hjl q hq
  · have : j = l.length := by simp at hj; omega
    subst this
    rw [List.getElem_append_right (by omega)] at hq
    simp only [Nat.sub_self, List.getElem_cons_zero, way, Int.toNat_natCast] at hq
    rw [lgetD_lt h2] at hq
    rw [List.take_left]
    exact h5 q hq
theorem out_ord {N : Nat} {P : List (List Int)} (hP : P.length < 1048576) (hls : ∀ x ∈ P, x.length ≤ 1048576) (hN : 1048576 < N) : ∀ (n : Nat) (l r : List Int), OutOk P l → OrdL P l → m_credenceref14_out_L1 N P n l = some r → OrdL P r
  | 0, l, r, _, _, h => by rw [m_credenceref14_out_L1.eq_1] at h; cases h
  | n + 1, l, r, ho, hl, h => by
    have hlen := ho.len
    rw [out_step (by omega) hls (by omega) hN] at h
    cases hnx : nextF P l 0 with
    | none => rw [hnx] at h; cases h; exact hl
    | some p => rw [hnx] at h; exact out_ord hP hls hN n _ r (ho.step hnx).1 (ord_step hl hnx) h

/-- Where a number stands; -1: nowhere. -/
def plc (l : List Int) (x : Int) : Int := if x ∈ l then (l.idxOf x : Int) else -1
theorem place_L1 (N : Nat) (l : List Int) (x : Int) (hl : l.length ≤ 1048576) : ∀ (n k : Nat), l.length < n + k → k ≤ l.length → m_credencelaw14_place_L1 N l x n (k : Int) = some (if x ∈ l.drop k then ((k + (l.drop k).idxOf x : Nat) : Int) else -1)
  | 0, k, h, hk => by omega
  | n + 1, k, h, hk => by
    rw [m_credencelaw14_place_L1.eq_2]
    by_cases hlt : k < l.length
    · rw [if_pos (by simpa using hlt), at?_lt hlt, Option.bind_some, wS (by omega), place_L1 N l x hl n (k + 1) (by omega) (by omega), List.drop_eq_getElem_cons hlt]
      by_cases he : l[k] = x
      · rw [if_pos (by simpa using he), if_pos (by rw [he]; exact List.mem_cons_self), he, List.idxOf_cons_self]; rfl
      · rw [if_neg (by simpa using he)]
        by_cases hm : x ∈ l.drop (k + 1)
        · rw [if_pos hm, if_pos (List.mem_cons_of_mem _ hm), List.idxOf_cons, show (l[k] == x) = false by simpa using he]
          simp only [cond_false]; congr 2; omega
        · rw [if_neg hm, if_neg (fun h => (List.mem_cons.1 h).elim (fun h => he h.symm) hm)]
    · rw [if_neg (by simpa using hlt), List.drop_eq_nil_of_le (by omega)]; simp
theorem place_eq {N : Nat} {l : List Int} {x : Int} (hl : l.length ≤ 1048576) (hN : 1048576 < N) : m_credencelaw14_place N l x = some (plc l x) := by
  rw [m_credencelaw14_place, plc]
  have := place_L1 N l x hl N 0 (by omega) (by omega)
  simpa using this

theorem all_in {n : Nat} {l : List Int} (hnd : l.Nodup) (hr : InR n l) (hl : l.length = n) (i : Nat) (hi : i < n) : (i : Int) ∈ l := by
  refine Classical.byContradiction fun h => ?_
  have h1 : InR n ((i : Int) :: l) := fun x hx => by
    rcases List.mem_cons.1 hx with rfl | hx
    · omega
    · exact hr x hx
  have := h1.len (List.nodup_cons.2 ⟨h, hnd⟩)
  rw [List.length_cons] at this; omega
section
variable {N : Nat} {P : List (List Int)} (h : Sml P) (hN : 2000000 < N) {l : List Int} (hok : OutOk P l) (hord : OrdL P l) (hlen : l.length = P.length)
include h hN hok hord hlen
omit h hN in
theorem place_lt (i : Nat) (hi : i < P.length) : 0 ≤ plc l i ∧ ∀ q ∈ P[i], plc l q < plc l i := by
  have hm := all_in hok.1 hok.2.1 hlen i hi
  have hj := List.idxOf_lt_length_of_mem hm
  have e : l[l.idxOf (i : Int)] = (i : Int) := List.getElem_idxOf hj
  have e1 : plc l i = (l.idxOf (i : Int) : Int) := if_pos hm
  refine ⟨by rw [e1]; omega, fun q hq => ?_⟩
  have hq2 := hord _ hj q (by rw [e, way, Int.toNat_natCast, lgetD_lt hi]; exact hq)
  have hq3 : q ∈ l := List.mem_of_mem_take hq2
  have e2 : plc l q = (l.idxOf q : Int) := if_pos hq3
  have e3 : l.idxOf q < l.idxOf (i : Int) := by
    have h1 : l = l.take (l.idxOf (i : Int)) ++ l.drop (l.idxOf (i : Int)) := (List.take_append_drop _ _).symm
    have h2 : l.idxOf q = (l.take (l.idxOf (i : Int))).idxOf q := by
      conv => lhs; rw [h1]
      rw [List.idxOf_append, if_pos hq2]
    have h3 := List.idxOf_lt_length_of_mem hq2
    rw [h2]
    refine Nat.lt_of_lt_of_le h3 ?_
    rw [List.length_take]; omega
  rw [e1, e2]; omega
theorem DO_L2 (e0 : Int) (i : Nat) (hi : i < P.length) (kk : Int → Option Bool) : ∀ (n k : Nat), P[i].length < n + k → k ≤ P[i].length →
    m_credencelaw14_DagOrder_L2 N P (l, e0) (i : Int) kk (plc l i) n (k : Int) = kk ((i + 1 : Nat) : Int)
  | 0, k, hn, hk => by omega
  | n + 1, k, hn, hk => by
    have hls := h.ls _ (List.getElem_mem hi)
    have hPn := h.n
    have hll : l.length ≤ 1048576 := by omega
    rw [m_credencelaw14_DagOrder_L2.eq_2, at?_lt hi, Option.bind_some]
    by_cases hlt : k < P[i].length
    · have h1 := (place_lt hok hord hlen i hi).2 _ (List.getElem_mem hlt)
      rw [if_pos (by simpa using hlt), at?_lt hlt, Option.bind_some, place_eq hll (by omega), Option.bind_some, if_neg (by rw [decide_eq_true_eq]; omega), wS (by omega)]
      exact DO_L2 e0 i hi kk n (k + 1) (by omega) (by omega)
    · rw [if_neg (by simpa using hlt), wS (by omega)]
theorem DO_L1 (e0 : Int) : ∀ (n i : Nat), P.length < n + i → i ≤ P.length → m_credencelaw14_DagOrder_L1 N P (l, e0) n (i : Int) = some true
  | 0, i, hn, hi => by omega
  | n + 1, i, hn, hi => by
    have hPn := h.n
    rw [m_credencelaw14_DagOrder_L1.eq_2]
    by_cases hlt : i < P.length
    · have hll : l.length ≤ 1048576 := by omega
      have hls := h.ls _ (List.getElem_mem hlt)
      have h1 := (place_lt hok hord hlen i hlt).1
      have h2 := DO_L2 h hN hok hord hlen e0 i hlt (m_credencelaw14_DagOrder_L1 N P (l, e0) n) N 0 (by omega) (Nat.zero_le _)
      rw [if_pos (by simpa using hlt), place_eq hll (by omega), Option.bind_some, if_neg (by rw [decide_eq_true_eq]; omega)]
      exact h2.trans (DO_L1 e0 n (i + 1) (by omega) (by omega))
    · rw [if_neg (by simpa using hlt)]
end


/-- What the map of distances says. -/
structure Far (P : List (List Int)) (n : Nat) (s : Int) (far : List (Int × Int)) : Prop where
  at0 : mget far s = some 0
  all : ∀ c d, mget far c = some d → (0 ≤ c ∧ c < (n : Int)) ∧ 0 ≤ d ∧ ((d = 0 ∧ c = s) ∨ (s < c ∧ ∃ v, mget far v = some (d - 1) ∧ v ∈ way P c))
theorem Far.zero {P : List (List Int)} {n : Nat} {s c : Int} {far : List (Int × Int)} (h : Far P n s far) (hc : mget far c = some 0) : c = s := by
  obtain ⟨_, _, h1 | ⟨_, v, h2, _⟩⟩ := h.all c 0 hc
  · exact h1.2
  · have := (h.all v _ h2).2.1; omega
theorem Far.chain {P : List (List Int)} {n : Nat} {s : Int} {far : List (Int × Int)} (h : Far P n s far) : ∀ (d : Nat) (c : Int), mget far c = some (d : Int) → ∃ L : List Int, L.length = d + 1 ∧ L.Nodup ∧ InR n L ∧ ∀ x ∈ L, ∃ e : Int, mget far x = some e ∧ e ≤ d
  | 0, c, hc => ⟨[c], rfl, by simp, fun x hx => by rw [List.mem_singleton] at hx; rw [hx]; exact (h.all c _ hc).1, fun x hx => by rw [List.mem_singleton] at hx; subst hx; exact ⟨_, hc, Int.le_refl _⟩⟩
  | d + 1, c, hc => by
    obtain ⟨h1, _, h2 | ⟨_, v, h3, _⟩⟩ := h.all c _ hc
    · omega
    · obtain ⟨L, k1, k2, k3, k4⟩ := h.chain d v (by rw [h3]; congr 1; omega)
      refine ⟨c :: L, by rw [List.length_cons, k1], List.nodup_cons.2 ⟨fun hm => ?_, k2⟩, fun x hx => ?_, fun x hx => ?_⟩
      · obtain ⟨e, h5, h6⟩ := k4 c hm
        rw [hc] at h5; cases h5; omega
      · rcases List.mem_cons.1 hx with rfl | hx
        · exact h1
        · exact k3 x hx
      · rcases List.mem_cons.1 hx with rfl | hx
        · exact ⟨_, hc, Int.le_refl _⟩
        · obtain ⟨e, h5, h6⟩ := k4 x hx
          exact ⟨e, h5, by omega⟩
theorem Far.lt {P : List (List Int)} {n : Nat} {s c d : Int} {far : List (Int × Int)} (h : Far P n s far) (hc : mget far c = some d) : d < (n : Int) := by
  have h0 := (h.all c d hc).2.1
  obtain ⟨L, k1, k2, k3, _⟩ := h.chain d.toNat c (by rw [hc]; congr 1; omega)
  have := k3.len k2
  omega

/-- The search so far: 'don' are done with, 'next' wait. -/
structure Bfs (P D : List (List Int)) (n : Nat) (s : Int) (don next : List Int) (far : List (Int × Int)) : Prop where
  fr : Far P n s far
  nd : (don ++ next).Nodup
  ir : InR n (don ++ next)
  key : ∀ c, (mget far c).isSome = true ↔ c ∈ don ++ next
  cls : ∀ v ∈ don, ∀ c ∈ way D v, s < c → c ∈ don ++ next

section
variable {N n : Nat} {P D : List (List Int)} (hn : n ≤ 1000000) (hP : P.length = n) (hD : D.length = n) (hturn : ∀ x y : Int, (0 ≤ x ∧ x < (n : Int)) → (0 ≤ y ∧ y < (n : Int)) → (y ∈ way P x ↔ x ∈ way D y)) (hDr : ∀ x y : Int, y ∈ way D x → 0 ≤ y ∧ y < (n : Int))
theorem ring_L2 (hn : n ≤ 1000000) (s : Int) (kk : List Int → List (Int × Int) → Option (List Int)) (v : Int) (dv : Int) (hdv : 0 ≤ dv ∧ dv ≤ 1000000) (don : List Int) (hv : v ∈ don) : ∀ (l next : List Int) (far : List (Int × Int)), mget far v = some dv → Far P n s far → (don ++ next).Nodup → InR n (don ++ next) → (∀ c, (mget far c).isSome = true ↔ c ∈ don ++ next) →
    (∀ x ∈ l, (0 ≤ x ∧ x < (n : Int)) ∧ v ∈ way P x) →
    ∃ z far', m_dag_ring_L2 s kk v l next far = kk (next ++ z) far' ∧ mget far' v = some dv ∧ Far P n s far' ∧ (don ++ (next ++ z)).Nodup ∧ InR n (don ++ (next ++ z)) ∧ (∀ c, (mget far' c).isSome = true ↔ c ∈ don ++ (next ++ z)) ∧ ∀ x ∈ l, s < x → x ∈ don ++ (next ++ z)
  | [], next, far, h1, h2, h3, h4, h5, _ => ⟨[], far, by rw [m_dag_ring_L2.eq_1, List.append_nil], h1, h2, by rw [List.append_nil]; exact h3, by rw [List.append_nil]; exact h4, fun c => by rw [List.append_nil]; exact h5 c, by simp⟩
  | x :: l, next, far, h1, h2, h3, h4, h5, h6 => by
    obtain ⟨hx, hvx⟩ := h6 x List.mem_cons_self
    have h6' : ∀ y ∈ l, (0 ≤ y ∧ y < (n : Int)) ∧ v ∈ way P y := fun y hy => h6 y (List.mem_cons_of_mem _ hy)
    have hnx : next.length ≤ 1000000 := by have := h4.len h3; simp at this; omega
    rw [m_dag_ring_L2.eq_2, m_dag_ring_J3, m_dag_ring_J3, h1]
    by_cases hin : (mget far x).isSome = true
    · obtain ⟨z, far', k1, k2, k3, k4, k5, k6, k7⟩ := ring_L2 hn s kk v dv hdv don hv l next far h1 h2 h3 h4 h5 h6'
      refine ⟨z, far', ?_, k2, k3, k4, k5, k6, fun y hy hs => ?_⟩
      · rw [if_neg (by simp [hin]), if_neg (by decide), m_dag_ring_J2]; exact k1
      · rcases List.mem_cons.1 hy with rfl | hy
        · have h7 := (h5 y).1 hin
          rw [← List.append_assoc]; exact List.mem_append_left _ h7
        · exact k7 y hy hs
    · rw [if_pos (by simp only [Bool.not_eq_true] at hin; rw [hin]; rfl)]
      have hxn : x ∉ don ++ next := fun h => hin ((h5 x).2 h)
      have hnone : mget far x = none := by simpa using hin
      by_cases hs : s < x
      · have hw : IntKind.i64.wrap ((some dv).getD 0 + 1) = dv + 1 := by rw [Option.getD_some, w64 (by omega)]
        have hm : ∀ c, mget (mput far x (dv + 1)) c = if c = x then some (dv + 1) else mget far c := fun c => mget_mput far x c (dv + 1)
        have hne : ∀ {c d}, mget far c = some d → c ≠ x := fun hc e => by rw [e, hnone] at hc; cases hc
        obtain ⟨z, far', k1, k2, k3, k4, k5, k6, k7⟩ := ring_L2 hn s kk v dv hdv don hv l (next ++ [x]) (mput far x (dv + 1)) (by rw [hm, if_neg (hne h1)]; exact h1)
          ⟨by rw [hm, if_neg (hne h2.at0)]; exact h2.at0, fun c d hc => by
            rw [hm] at hc
            by_cases hcx : c = x
            · subst hcx
              rw [if_pos rfl] at hc; cases hc
              exact ⟨hx, by omega, .inr ⟨hs, v, by rw [hm, if_neg (hne h1), h1]; congr 1; omega, hvx⟩⟩
            · rw [if_neg hcx] at hc
              obtain ⟨q1, q2, q3⟩ := h2.all c d hc
              refine ⟨q1, q2, q3.imp id fun ⟨q4, u, q5, q6⟩ => ⟨q4, u, by rw [hm, if_neg (hne q5)]; exact q5, q6⟩⟩⟩
          (by
            rw [← List.append_assoc, List.nodup_append]
            refine ⟨h3, by simp, fun a ha b hb e => ?_⟩
            rw [List.mem_singleton] at hb; subst hb; subst e; exact hxn ha)
          (fun y hy => by
            rw [← List.append_assoc] at hy
            rcases List.mem_append.1 hy with hy | hy
            · exact h4 y hy
            · rw [List.mem_singleton] at hy; rw [hy]; exact hx)
          (fun c => by
            rw [hm, ← List.append_assoc, List.mem_append, List.mem_singleton]
            by_cases hcx : c = x
            · subst hcx; simp
            · rw [if_neg hcx, h5 c]; simp [hcx]) h6'
        refine ⟨x :: z, far', ?_, k2, k3, by simpa using k4, by simpa using k5, fun c => by rw [k6 c]; simp, fun y hy hys => ?_⟩
        · rw [if_pos (decide_eq_true hs), hw, Option.bind_some, chk_pos (by simp only [List.length_cons, List.length_nil, maxLen]; omega), m_dag_ring_J2, k1, List.append_assoc]; rfl
        · rcases List.mem_cons.1 hy with rfl | hy
          · simp
          · have := k7 y hy hys; simpa using this
      · obtain ⟨z, far', k1, k2, k3, k4, k5, k6, k7⟩ := ring_L2 hn s kk v dv hdv don hv l next far h1 h2 h3 h4 h5 h6'
        refine ⟨z, far', ?_, k2, k3, k4, k5, k6, fun y hy hys => ?_⟩
        · rw [if_neg (by simpa using hs), m_dag_ring_J2]; exact k1
        · rcases List.mem_cons.1 hy with rfl | hy
          · exact absurd hys hs
          · exact k7 y hy hys

/-- The search's end: what follows it is asked of a map of distances; where nothing cuts the search short, that map has all that can be come to. -/
theorem ring_L1 (hn : n ≤ 1000000) (hP : P.length = n) (hD : D.length = n) (hturn : ∀ x y : Int, (0 ≤ x ∧ x < (n : Int)) → (0 ≤ y ∧ y < (n : Int)) → (y ∈ way P x ↔ x ∈ way D y)) (hDr : ∀ x y : Int, y ∈ way D x → 0 ≤ y ∧ y < (n : Int))
    (s most : Int) (hs : 0 ≤ s ∧ s < (n : Int)) (hm : 1 ≤ most ∧ most ≤ (n : Int) + 1) : ∀ (f : Nat) (don next : List Int) (far : List (Int × Int)), n < f + don.length → Bfs P D n s don next far →
    ∃ far', m_dag_ring_L1 N P D s most f next far = (m_dag_ring_L3 N P s most far' (way P s) most) ∧ Far P n s far' ∧ (most = (n : Int) + 1 → ∀ v, (mget far' v).isSome = true → ∀ c ∈ way D v, s < c → (mget far' c).isSome = true)
  | 0, don, next, far, hf, hb => by
    have := hb.ir.len hb.nd
    simp at this; omega
  | f + 1, don, next, far, hf, hb => by
    have hle := hb.ir.len hb.nd
    rw [List.length_append] at hle
    have hPs : at? P s = some (way P s) := at?_of hs.1 (by rw [List.getElem?_eq_getElem (by omega), way, lgetD_lt (by omega)])
    rw [m_dag_ring_L1.eq_2]
    match next, hb, hle with
    | [], hb, hle =>
      rw [if_neg (by decide), m_dag_ring_J1, if_neg (by decide), hPs, Option.bind_some]
      refine ⟨far, rfl, hb.fr, fun _ v hv c hc hsc => ?_⟩
      have h1 := (hb.key v).1 hv
      rw [List.append_nil] at h1
      exact (hb.key c).2 (hb.cls v h1 c hc hsc)
    | v :: next, hb, hle =>
      rw [List.length_cons] at hle
      have hvm : v ∈ don ++ v :: next := by simp
      obtain ⟨dv, hdv⟩ := Option.isSome_iff_exists.1 ((hb.key v).2 hvm)
      have hdv0 := (hb.fr.all v dv hdv).2.1
      have hdvl := hb.fr.lt hdv
      have hat : at? (v :: next) 0 = some v := rfl
      rw [if_pos (decide_eq_true (by rw [List.length_cons]; omega)), hat, Option.bind_some, hdv, Option.getD_some, w64 (by omega), m_dag_ring_J1, hat, Option.bind_some, hPs, Option.bind_some]
      by_cases hlt : dv < most - 1
      · have hvr := hb.ir v hvm
        have hDv : at? D v = some (way D v) := at?_of hvr.1 (by rw [List.getElem?_eq_getElem (by omega), way, lgetD_lt (by omega)])
        have e1 : don ++ v :: next = (don ++ [v]) ++ next := by simp
        have hnd := hb.nd
        have hir := hb.ir
        have hkey := hb.key
        rw [e1] at hnd hir
        obtain ⟨z, far', k1, k2, k3, k4, k5, k6, k7⟩ := ring_L2 (P := P) (n := n) hn s (m_dag_ring_L1 N P D s most f) v dv ⟨hdv0, by omega⟩ (don ++ [v]) (by simp) (way D v) next far hdv hb.fr hnd hir (fun c => by rw [hkey c, e1]) (fun x hx => by
          have h1 := hDr v x hx
          exact ⟨h1, (hturn x v h1 hvr).2 hx⟩)
        obtain ⟨far2, q1, q2, q3⟩ := ring_L1 hn hP hD hturn hDr s most hs hm f (don ++ [v]) (next ++ z) far' (by rw [List.length_append, List.length_cons, List.length_nil]; omega) ⟨k3, k4, k5, k6, fun u hu c hc hsc => by
          rcases List.mem_append.1 hu with hu | hu
          · have h1 := hb.cls u hu c hc hsc
            rw [e1] at h1
            rw [← List.append_assoc]; exact List.mem_append_left _ h1
          · rw [List.mem_singleton] at hu; subst hu
            exact k7 c hc hsc⟩
        refine ⟨far2, ?_, q2, q3⟩
        rw [if_pos (decide_eq_true hlt), chk_pos (by rw [List.length_cons]; omega), hDv, Option.bind_some]
        exact k1.trans q1
      · refine ⟨far, by rw [if_neg (by simpa using hlt)], hb.fr, fun hmn => ?_⟩
        omega

/-- The fewest steps. -/
theorem ring_L3 (s most : Int) (far : List (Int × Int)) (hb : ∀ c d, mget far c = some d → 0 ≤ d ∧ d ≤ 1000000) : ∀ (l : List Int) (best : Int), ∃ b, m_dag_ring_L3 N P s most far l best = (if b = most then some [] else m_dag_ring_L4 N P far b N [s] s) ∧ b ≤ best ∧ (b = best ∨ ∃ p ∈ l, mget far p = some (b - 1)) ∧ ∀ p ∈ l, ∀ d, mget far p = some d → b ≤ d + 1
  | [], best => ⟨best, by rw [m_dag_ring_L3.eq_1]; by_cases h : best = most <;> simp [h], Int.le_refl _, .inl rfl, by simp⟩
  | x :: l, best => by
    rw [m_dag_ring_L3.eq_2, m_dag_ring_J6, m_dag_ring_J6]
    cases hx : mget far x with
    | none =>
      obtain ⟨b, h1, h2, h3, h4⟩ := ring_L3 s most far hb l best
      refine ⟨b, by rw [if_neg (by simp)]; exact h1, h2, h3.imp id fun ⟨p, hp, h⟩ => ⟨p, List.mem_cons_of_mem _ hp, h⟩, fun p hp d hd => ?_⟩
      rcases List.mem_cons.1 hp with rfl | hp
      · rw [hx] at hd; cases hd
      · exact h4 p hp d hd
    | some dx =>
      have hdx := hb x dx hx
      rw [if_pos (by simp), Option.getD_some, w64 (by omega)]
      obtain ⟨b, h1, h2, h3, h4⟩ := ring_L3 s most far hb l (if dx + 1 < best then dx + 1 else best)
      refine ⟨b, h1, ?_, ?_, fun p hp d hd => ?_⟩
      · split at h2 <;> omega
      · rcases h3 with h3 | ⟨p, hp, h⟩
        · split at h3
          · exact .inr ⟨x, List.mem_cons_self, by rw [hx, h3]; congr 1; omega⟩
          · exact .inl h3
        · exact .inr ⟨p, List.mem_cons_of_mem _ hp, h⟩
      · rcases List.mem_cons.1 hp with rfl | hp
        · rw [hx] at hd; cases hd
          split at h2 <;> omega
        · exact h4 p hp d hd

/-- A way that leads back. -/
def Cyc (P : List (List Int)) (n : Nat) (c : List Int) : Prop := c ≠ [] ∧ ∀ (i : Nat) (hi : i < c.length), (0 ≤ c[i] ∧ c[i] < (n : Int)) ∧ c.getD ((i + 1) % c.length) 0 ∈ way P c[i] ∧ c[i] ∉ c.take i ∧ c.getD 0 0 ≤ c[i]

theorem ring_L5 (far : List (Int × Int)) (best : Int) (out : List Int) (kk : List Int → Int → Option (List Int)) (v d : Int) (hw : IntKind.i64.wrap (best - (out.length : Int)) = d) (hol : out.length ≤ 1000000) : ∀ (l : List Int) (least : Int), (∀ x ∈ l, x ∈ way P v ∧ 0 ≤ x) → (least = -1 ∨ (least ∈ way P v ∧ mget far least = some d)) → (least = -1 → ∃ p ∈ l, mget far p = some d) →
    ∃ q, q ∈ way P v ∧ mget far q = some d ∧ m_dag_ring_L5 far best out kk l least = kk (out ++ [q]) q
  | [], least, h1, h2, h3 => by
    rcases h2 with h2 | ⟨h2, h4⟩
    · obtain ⟨p, hp, _⟩ := h3 h2; simp at hp
    · exact ⟨least, h2, h4, by rw [m_dag_ring_L5.eq_1, chk_pos (by simp only [List.length_cons, List.length_nil, maxLen]; omega)]⟩
  | x :: l, least, h1, h2, h3 => by
    obtain ⟨hx1, hx2⟩ := h1 x List.mem_cons_self
    have h1' : ∀ y ∈ l, y ∈ way P v ∧ 0 ≤ y := fun y hy => h1 y (List.mem_cons_of_mem _ hy)
    have hkeep : mget far x ≠ some d → ∃ q, q ∈ way P v ∧ mget far q = some d ∧ m_dag_ring_L5 far best out kk l least = kk (out ++ [q]) q := fun hne => ring_L5 far best out kk v d hw hol l least h1' h2 fun h => by
      obtain ⟨p, hp, hpd⟩ := h3 h
      rcases List.mem_cons.1 hp with rfl | hp
      · exact absurd hpd hne
      · exact ⟨p, hp, hpd⟩
    rw [m_dag_ring_L5.eq_2, hw]
    simp only [m_dag_ring_J5, m_dag_ring_J4]
    cases hfx : mget far x with
    | none =>
      rw [if_neg (by simp), if_neg (by decide)]
      exact hkeep (by rw [hfx]; simp)
    | some dx =>
      rw [if_pos (by simp), Option.getD_some]
      by_cases hdx : dx = d
      · subst hdx
        have htake := ring_L5 far best out kk v dx hw hol l x h1' (.inr ⟨hx1, hfx⟩) (fun h => by omega)
        rw [if_pos (decide_eq_true rfl)]
        by_cases h0 : least < 0
        · rw [if_pos (decide_eq_true h0), if_pos trivial]; exact htake
        · rw [if_neg (by simpa using h0)]
          by_cases h5 : x < least
          · rw [if_pos (decide_eq_true h5)]; exact htake
          · rw [if_neg (by simpa using h5)]
            refine ring_L5 far best out kk v dx hw hol l least h1' h2 fun h => by omega
      · rw [if_neg (by simpa using hdx), if_neg (by decide)]
        exact hkeep (by rw [hfx]; intro h; cases h; exact hdx rfl)

theorem lastI {α : Type} {d : α} (l : List α) (x : α) : (l ++ [x]).getD l.length d = x := by rw [List.getD_eq_getElem?_getD]; simp
theorem getD_app {α : Type} {d : α} (l : List α) (x : α) {j : Nat} (hj : j < l.length) : (l ++ [x]).getD j d = l.getD j d := by
  rw [List.getD_eq_getElem?_getD, List.getD_eq_getElem?_getD, List.getElem?_append_left hj]
theorem ring_L4 (hn : n ≤ 1000000) (hP : P.length = n) (hPr : ∀ x y : Int, y ∈ way P x → 0 ≤ y ∧ y < (n : Int)) (s : Int) (hs : 0 ≤ s ∧ s < (n : Int)) (far : List (Int × Int)) (hf : Far P n s far) (b : Int) (hb : 1 ≤ b ∧ b ≤ (n : Int)) :
    ∀ (f : Nat) (out : List Int) (v : Int), b.toNat < f + out.length → out.getD 0 0 = s → 1 ≤ out.length → (out.length : Int) ≤ b → out.getD (out.length - 1) 0 = v → (∀ j : Nat, 1 ≤ j → j < out.length → mget far (out.getD j 0) = some (b - (j : Int))) →
      (∀ j : Nat, j + 1 < out.length → out.getD (j + 1) 0 ∈ way P (out.getD j 0)) → (∃ p ∈ way P v, mget far p = some (b - (out.length : Int))) → ∃ c, m_dag_ring_L4 N P far b f out v = some c ∧ Cyc P n c
  | 0, out, v, h0, h1, h2, h3, h4, h5, h6, h7 => by omega
  | f + 1, out, v, h0, h1, h2, h3, h4, h5, h6, h7 => by
    have hv : 0 ≤ v ∧ v < (n : Int) := by
      by_cases h : out.length = 1
      · rw [h, Nat.sub_self, h1] at h4; rw [← h4]; exact hs
      · exact (hf.all v _ (by rw [← h4]; exact h5 (out.length - 1) (by omega) (by omega))).1
    have hPv : at? P v = some (way P v) := at?_of hv.1 (by rw [List.getElem?_eq_getElem (by omega), way, lgetD_lt (by omega)])
    rw [m_dag_ring_L4.eq_2]
    by_cases hlt : (out.length : Int) < b
    · rw [if_pos (decide_eq_true hlt), hPv, Option.bind_some]
      obtain ⟨q, k1, k2, k3⟩ := ring_L5 (P := P) far b out (m_dag_ring_L4 N P far b f) v (b - (out.length : Int)) (w64 (by omega)) (by omega) (way P v) (-1) (fun x hx => ⟨hx, (hPr v x hx).1⟩) (.inl rfl) (fun _ => h7)
      rw [k3]
      have hl : (out ++ [q]).length = out.length + 1 := by simp
      refine ring_L4 hn hP hPr s hs far hf b hb f (out ++ [q]) q (by rw [hl]; omega) (by rw [getD_app _ _ (by omega)]; exact h1) (by omega) (by rw [hl]; omega) (by rw [hl, Nat.add_sub_cancel]; exact lastI _ _) (fun j hj1 hj2 => ?_) (fun j hj => ?_) ?_
      · by_cases hj : j < out.length
        · rw [getD_app _ _ hj]; exact h5 j hj1 hj
        · have : j = out.length := by omega
          subst this
          rw [lastI]; exact k2
      · by_cases hj2 : j + 1 < out.length
        · rw [getD_app _ _ hj2, getD_app _ _ (by omega)]; exact h6 j hj2
        · have : j = out.length - 1 := by omega
          subst this
          rw [show out.length - 1 + 1 = out.length by omega, lastI, getD_app _ _ (by omega), h4]; exact k1
      · obtain ⟨_, _, h8 | ⟨_, u, h9, h10⟩⟩ := hf.all q _ k2
        · omega
        · exact ⟨u, h10, by rw [h9, hl]; congr 1; omega⟩
    · have hlb : (out.length : Int) = b := by omega
      have hne : out ≠ [] := fun h => by rw [h] at h2; simp at h2
      refine ⟨out, by rw [if_neg (by simpa using hlt), chk_pos hne], hne, fun i hi => ?_⟩
      have eg : ∀ (k : Nat) (hk : k < out.length), out[k] = out.getD k 0 := fun k hk => (lgetD_lt hk).symm
      have hfar : ∀ k : Nat, k < out.length → mget far (out.getD k 0) = some (if k = 0 then 0 else b - (k : Int)) := fun k hk => by
        by_cases hk0 : k = 0
        · subst hk0; rw [if_pos rfl, h1]; exact hf.at0
        · rw [if_neg hk0]; exact h5 k (by omega) hk
      refine ⟨(hf.all _ _ (by rw [eg i hi]; exact hfar i hi)).1, ?_, fun hm => ?_, ?_⟩
      · rw [eg i hi]
        by_cases hi2 : i + 1 < out.length
        · rw [Nat.mod_eq_of_lt hi2]; exact h6 i hi2
        · rw [show i + 1 = out.length by omega, Nat.mod_self, h1]
          obtain ⟨p, hp, hpf⟩ := h7
          have e0 : b - (out.length : Int) = 0 := by omega
          rw [e0] at hpf
          rw [hf.zero hpf] at hp
          rw [show i = out.length - 1 by omega, h4]; exact hp
      · obtain ⟨j, hj, hje⟩ := List.getElem_of_mem hm
        rw [List.getElem_take] at hje
        have hji : j < i := by rw [List.length_take] at hj; omega
        have q1 := hfar j (by omega)
        have q2 := hfar i hi
        rw [← eg j (by omega), hje, eg i hi, q2] at q1
        have q3 := Option.some.inj q1
        split at q3 <;> split at q3 <;> omega
      · rw [eg i hi, h1]
        by_cases hi0 : i = 0
        · rw [hi0, h1]; exact Int.le_refl _
        · obtain ⟨_, _, h8 | ⟨h9, _⟩⟩ := hf.all _ _ (hfar i hi)
          · rw [if_neg hi0] at h8; omega
          · omega

/-- What is found from s, with fewer than 'most' steps. -/
theorem ring_eq (hn : n ≤ 1000000) (hN : 2000000 < N) (hP : P.length = n) (hD : D.length = n) (hturn : ∀ x y : Int, (0 ≤ x ∧ x < (n : Int)) → (0 ≤ y ∧ y < (n : Int)) → (y ∈ way P x ↔ x ∈ way D y)) (hPr : ∀ x y : Int, y ∈ way P x → 0 ≤ y ∧ y < (n : Int)) (hDr : ∀ x y : Int, y ∈ way D x → 0 ≤ y ∧ y < (n : Int))
    (s most : Int) (hs : 0 ≤ s ∧ s < (n : Int)) (hm : 1 ≤ most ∧ most ≤ (n : Int) + 1) :
    ∃ r, m_dag_ring N P D s most = some r ∧ (r = [] ∨ Cyc P n r) ∧
      (most = (n : Int) + 1 → (∀ F : Int → Prop, F s → (∀ v, F v → ∀ c ∈ way D v, s < c → F c) → ∃ p ∈ way P s, F p) → r ≠ []) := by
  rw [m_dag_ring, Option.bind_some]
  have hf0 : ∀ c, mget (mput ([] : List (Int × Int)) s 0) c = if c = s then some 0 else none := fun c => by rw [mget_mput]; rfl
  obtain ⟨far, h1, h2, h3⟩ := ring_L1 (N := N) hn hP hD hturn hDr s most hs hm N [] [s] (mput [] s 0) (by simp; omega) ⟨⟨by rw [hf0, if_pos rfl], fun c d hc => by
      rw [hf0] at hc
      by_cases hcs : c = s
      · subst hcs; rw [if_pos rfl] at hc; cases hc
        exact ⟨hs, Int.le_refl _, .inl ⟨rfl, rfl⟩⟩
      · rw [if_neg hcs] at hc; cases hc⟩, by simp, fun x hx => by simp at hx; rw [hx]; exact hs, fun c => by rw [hf0]; by_cases hcs : c = s <;> simp [hcs], fun v hv => by simp at hv⟩
  have hfb : ∀ c d, mget far c = some d → 0 ≤ d ∧ d ≤ 1000000 := fun c d hc => by
    have q1 := (h2.all c d hc).2.1
    have q2 := h2.lt hc
    omega
  obtain ⟨b, k1, k2, k3, k4⟩ := ring_L3 (N := N) (P := P) s most far hfb (way P s) most
  rw [h1, k1]
  by_cases hbm : b = most
  · rw [if_pos hbm]
    refine ⟨[], rfl, .inl rfl, fun hmn hF => ?_⟩
    obtain ⟨p, hp, hpf⟩ := hF (fun c => (mget far c).isSome = true) (by rw [h2.at0]; rfl) (h3 hmn)
    obtain ⟨d, hd⟩ := Option.isSome_iff_exists.1 hpf
    have q1 := k4 p hp d hd
    have q2 := h2.lt hd
    omega
  · rw [if_neg hbm]
    obtain ⟨p, hp, hpf⟩ := k3.resolve_left hbm
    have q1 := (h2.all p _ hpf).2.1
    have q2 := h2.lt hpf
    obtain ⟨c, q3, q4⟩ := ring_L4 (N := N) hn hP hPr s hs far h2 b (by omega) N [s] s (by simp; omega) rfl (by simp) (by simp; omega) rfl (fun j hj1 hj2 => by simp at hj2; omega) (fun j hj => by simp at hj) ⟨p, hp, by rw [hpf]; rfl⟩
    exact ⟨c, q3, .inr q4, fun _ _ => q4.1⟩
end


theorem Cyc.len {P : List (List Int)} {n : Nat} {c : List Int} (h : Cyc P n c) : 1 ≤ c.length ∧ c.length ≤ n := by
  refine ⟨List.length_pos_iff.2 h.1, ?_⟩
  have hnd : c.Nodup := by
    rw [List.Nodup, List.pairwise_iff_getElem]
    intro i j hi hj hij e
    refine (h.2 j hj).2.2.1 ?_
    rw [← e, List.mem_take_iff_getElem]
    exact ⟨i, by omega, rfl⟩
  refine InR.len (fun x hx => ?_) hnd
  obtain ⟨i, hi, rfl⟩ := List.getElem_of_mem hx
  exact (h.2 i hi).1

def itf (f : Int → Int) : Nat → Int → Int
  | 0, x => x
  | k + 1, x => f (itf f k x)
theorem itf_add (f : Int → Int) (a b : Nat) (x : Int) : itf f (a + b) x = itf f a (itf f b x) := by
  induction a with
  | zero => rw [Nat.zero_add]; rfl
  | succ a ih => rw [show a + 1 + b = (a + b) + 1 by omega]; simp only [itf, ih]
theorem least_of (g : Nat → Int) : ∀ k, 0 < k → ∃ t0, t0 < k ∧ ∀ t, t < k → g t0 ≤ g t
  | 0, h => by omega
  | k + 1, _ => by
    by_cases hk : k = 0
    · exact ⟨0, by omega, fun t ht => by rw [show t = 0 by omega]; exact Int.le_refl _⟩
    · obtain ⟨t0, h1, h2⟩ := least_of g k (by omega)
      by_cases h3 : g t0 ≤ g k
      · exact ⟨t0, by omega, fun t ht => by
          by_cases htk : t = k
          · rw [htk]; exact h3
          · exact h2 t (by omega)⟩
      · exact ⟨k, by omega, fun t ht => by
          by_cases htk : t = k
          · rw [htk]; exact Int.le_refl _
          · have := h2 t (by omega); omega⟩

/-- Among points of which each has a parent among them there is one from which a ring of none less leads back. -/
theorem special {P D : List (List Int)} {n : Nat} (hturn : ∀ x y : Int, (0 ≤ x ∧ x < (n : Int)) → (0 ≤ y ∧ y < (n : Int)) → (y ∈ way P x ↔ x ∈ way D y)) {U : Int → Prop} (hU : ∀ x, U x → 0 ≤ x ∧ x < (n : Int)) {f : Int → Int} (hf : ∀ x, U x → U (f x) ∧ f x ∈ way P x) {u0 : Int} (h0 : U u0) :
    ∃ s, U s ∧ ∀ F : Int → Prop, F s → (∀ v, F v → ∀ c ∈ way D v, s < c → F c) → ∃ p ∈ way P s, F p := by
  have hit : ∀ k, U (itf f k u0) := fun k => by
    induction k with
    | zero => exact h0
    | succ k ih => exact (hf _ ih).1
  obtain ⟨i, j, hij, he⟩ : ∃ i j : Nat, i < j ∧ itf f i u0 = itf f j u0 := by
    refine Classical.byContradiction fun h => ?_
    have hnd : ((List.range (n + 1)).map fun k => itf f k u0).Nodup := by
      rw [List.Nodup, List.pairwise_map]
      exact List.pairwise_lt_range.imp fun {a b} hab e => h ⟨a, b, hab, e⟩
    have hir : InR n ((List.range (n + 1)).map fun k => itf f k u0) := fun x hx => by
      obtain ⟨k, _, rfl⟩ := List.mem_map.1 hx
      exact hU _ (hit k)
    have := hir.len hnd
    rw [List.length_map, List.length_range] at this; omega
  obtain ⟨k, hk, rfl⟩ : ∃ k, 0 < k ∧ j = k + i := ⟨j - i, by omega, by omega⟩
  rw [itf_add] at he
  generalize hx : itf f i u0 = x at he
  have hxU : U x := by rw [← hx]; exact hit i
  have hper : ∀ t, itf f (t + k) x = itf f t x := fun t => by rw [itf_add, ← he]
  have hmul : ∀ q t, itf f (t + k * q) x = itf f t x := fun q t => by
    induction q with
    | zero => rfl
    | succ q ih => rw [Nat.mul_succ, ← Nat.add_assoc, hper, ih]
  obtain ⟨t0, h1, h2⟩ := least_of (fun t => itf f t x) k hk
  have hmin : ∀ t, itf f t0 x ≤ itf f t x := fun t => by
    have := h2 (t % k) (Nat.mod_lt _ hk)
    have e : itf f t x = itf f (t % k) x := by
      conv => lhs; rw [← Nat.mod_add_div t k]
      exact hmul _ _
    rw [e]; exact this
  have hall : ∀ t, U (itf f t x) := fun t => by
    induction t with
    | zero => exact hxU
    | succ t ih => exact (hf _ ih).1
  refine ⟨itf f t0 x, hall t0, fun F hF hcl => ?_⟩
  have hback : ∀ m t, m + t = k → 1 ≤ t → F (itf f (t + t0) x) := by
    intro m
    induction m with
    | zero =>
      intro t ht _
      have : t = k := by omega
      rw [this, Nat.add_comm, hper]; exact hF
    | succ m ih =>
      intro t ht h1t
      have h3 := ih (t + 1) (by omega) (by omega)
      have h4 := hmin (t + t0)
      by_cases h5 : itf f (t + t0) x = itf f t0 x
      · rw [h5]; exact hF
      · refine hcl _ h3 _ ?_ (by omega)
        have h6 := (hf _ (hall (t + t0))).2
        rw [show t + 1 + t0 = (t + t0) + 1 by omega]
        exact (hturn _ _ (hU _ (hall _)) (hU _ (hall _))).1 h6
  refine ⟨itf f (1 + t0) x, ?_, hback (k - 1) 1 (by omega) (Nat.le_refl _)⟩
  rw [Nat.add_comm]
  exact (hf _ (hall t0)).2

theorem left_special {P D : List (List Int)} (hturn : ∀ x y : Int, (0 ≤ x ∧ x < (P.length : Int)) → (0 ≤ y ∧ y < (P.length : Int)) → (y ∈ way P x ↔ x ∈ way D y)) (hPr : ∀ x y : Int, y ∈ way P x → 0 ≤ y ∧ y < (P.length : Int)) {l : List Int} (hok : OutOk P l) (hmx : nextF P l 0 = none) (hlt : l.length < P.length) :
    ∃ s : Nat, s < P.length ∧ (s : Int) ∉ l ∧ ∀ F : Int → Prop, F s → (∀ v, F v → ∀ c ∈ way D v, (s : Int) < c → F c) → ∃ p ∈ way P s, F p := by
  have hpar : ∀ x : Int, (0 ≤ x ∧ x < (P.length : Int)) ∧ x ∉ l → ∃ p ∈ way P x, p ∉ l := fun x ⟨hx, hxl⟩ => by
    have h1 := nextF_none hmx x.toNat (Nat.zero_le _) (by omega)
    refine Classical.byContradiction fun h => ?_
    have h2 : rdyB P l x.toNat = true := (rdyB_iff (by omega)).2 ⟨by rw [show ((x.toNat : Nat) : Int) = x by omega]; exact hxl, fun p hp => Classical.byContradiction fun hpl => h ⟨p, by rw [way, lgetD_lt (by omega)]; exact hp, hpl⟩⟩
    rw [h1] at h2; cases h2
  obtain ⟨i, hi, hil⟩ : ∃ i : Nat, i < P.length ∧ (i : Int) ∉ l := by
    refine Classical.byContradiction fun h => ?_
    have h1 := nodup_le (l := (List.range P.length).map fun i : Nat => (i : Int)) (r := l) (by
      rw [List.Nodup, List.pairwise_map]
      exact List.pairwise_lt_range.imp fun {a b} hab e => by omega) (fun x hx => by
      obtain ⟨k, hk, rfl⟩ := List.mem_map.1 hx
      exact Classical.byContradiction fun hn => h ⟨k, List.mem_range.1 hk, hn⟩)
    rw [List.length_map, List.length_range] at h1; omega
  let f : Int → Int := fun x => if h : ∃ p, p ∈ way P x ∧ p ∉ l then h.choose else 0
  obtain ⟨s, ⟨h1, h2⟩, h3⟩ := special (P := P) (D := D) (n := P.length) hturn (U := fun x => (0 ≤ x ∧ x < (P.length : Int)) ∧ x ∉ l) (fun x h => h.1) (f := f) (fun x hx => by
    obtain ⟨p, hp, hpl⟩ := hpar x hx
    have hex : ∃ p, p ∈ way P x ∧ p ∉ l := ⟨p, hp, hpl⟩
    have e : f x = hex.choose := dif_pos hex
    rw [e]
    exact ⟨⟨hPr x _ hex.choose_spec.1, hex.choose_spec.2⟩, hex.choose_spec.1⟩) (u0 := (i : Int)) ⟨by omega, hil⟩
  refine ⟨s.toNat, by omega, ?_, ?_⟩
  · rw [show ((s.toNat : Nat) : Int) = s by omega]; exact h2
  · rw [show ((s.toNat : Nat) : Int) = s by omega]; exact h3

section
variable {N : Nat} {P D : List (List Int)} (hn : P.length ≤ 1000000) (hN : 2000000 < N) (hD : D.length = P.length) (hturn : ∀ x y : Int, (0 ≤ x ∧ x < (P.length : Int)) → (0 ≤ y ∧ y < (P.length : Int)) → (y ∈ way P x ↔ x ∈ way D y)) (hPr : ∀ x y : Int, y ∈ way P x → 0 ≤ y ∧ y < (P.length : Int)) (hDr : ∀ x y : Int, y ∈ way D x → 0 ≤ y ∧ y < (P.length : Int))
include hn hN hD hturn hPr hDr
theorem Cycle_L2 (l : List Int) (out : List (Int × Int)) (ho : ∀ c, 0 < (mget out c).getD 0 ↔ c ∈ l) (s : Nat) (hs : s < P.length) (hsl : (s : Int) ∉ l) (hsp : ∀ F : Int → Prop, F s → (∀ v, F v → ∀ c ∈ way D v, (s : Int) < c → F c) → ∃ p ∈ way P s, F p) :
    ∀ (Q : List (List Int)) (k : Nat) (best : List Int) (most : Int), P.drop k = Q → k ≤ P.length → ((best = [] ∧ most = (P.length : Int) + 1 ∧ k ≤ s) ∨ (Cyc P P.length best ∧ most = (best.length : Int))) →
      ∃ c, m_dag_Cycle_L2 N P D out Q k best most = some c ∧ Cyc P P.length c
  | [], k, best, most, hQ, hk, hb => by
    have hkP : k = P.length := by have := congrArg List.length hQ; simp at this; omega
    rcases hb with ⟨_, _, h⟩ | ⟨h, _⟩
    · omega
    · exact ⟨best, by rw [m_dag_Cycle_L2.eq_1], h⟩
  | x :: Q, k, best, most, hQ, hk, hb => by
    have hkl : k < P.length := by
      rcases Nat.lt_or_ge k P.length with h | h
      · exact h
      · rw [List.drop_eq_nil_of_le h] at hQ; cases hQ
    rw [List.drop_eq_getElem_cons hkl] at hQ
    obtain ⟨_, hQ⟩ := List.cons.inj hQ
    rw [m_dag_Cycle_L2.eq_2]
    simp only [m_dag_Cycle_J1]
    by_cases hkm : (k : Int) ∈ l
    · rw [if_pos (decide_eq_true ((ho _).2 hkm))]
      refine Cycle_L2 l out ho s hs hsl hsp Q (k + 1) best most hQ (by omega) (hb.imp (fun ⟨h1, h2, h3⟩ => ⟨h1, h2, ?_⟩) id)
      have : k ≠ s := fun e => hsl (by rw [← e]; exact hkm)
      omega
    · rw [if_neg (fun h => hkm ((ho _).1 (of_decide_eq_true h)))]
      have hm : 1 ≤ most ∧ most ≤ (P.length : Int) + 1 := by
        rcases hb with ⟨_, h, _⟩ | ⟨h, h2⟩
        · omega
        · have := h.len; omega
      obtain ⟨r, h1, h2, h3⟩ := ring_eq (N := N) hn hN rfl hD hturn hPr hDr (k : Int) most (by omega) hm
      rw [h1, Option.bind_some]
      by_cases hr : r = []
      · subst hr
        rw [if_neg (by simp)]
        refine Cycle_L2 l out ho s hs hsl hsp Q (k + 1) best most hQ (by omega) (hb.imp (fun ⟨q1, q2, q3⟩ => ⟨q1, q2, ?_⟩) id)
        have : k ≠ s := fun e => h3 q2 (by rw [e]; exact hsp) rfl
        omega
      · rw [if_pos (by simp [hr])]
        exact Cycle_L2 l out ho s hs hsl hsp Q (k + 1) r _ hQ (by omega) (.inr ⟨h2.resolve_left hr, rfl⟩)
omit hn hN hD hturn hPr hDr in
theorem Cycle_L1 : ∀ (l : List Int) (out : List (Int × Int)) (S : List Int), (∀ k, mget out k = if k ∈ S then some 1 else none) → ∃ out', m_dag_Cycle_L1 N P D l out = m_dag_Cycle_L2 N P D out' P 0 [] (IntKind.i64.wrap ((P.length : Int) + 1)) ∧ ∀ k, mget out' k = if k ∈ S ++ l then some 1 else none
  | [], out, S, h => ⟨out, by rw [m_dag_Cycle_L1.eq_1], fun k => by rw [List.append_nil]; exact h k⟩
  | x :: l, out, S, h => by
    rw [m_dag_Cycle_L1.eq_2, Option.bind_some]
    obtain ⟨out', h1, h2⟩ := Cycle_L1 l (mput out x 1) (S ++ [x]) (fun k => by
      rw [mget_mput, h k]
      by_cases hk : k = x
      · subst hk; rw [if_pos rfl, if_pos (by simp)]
      · rw [if_neg hk]
        by_cases hs : k ∈ S
        · rw [if_pos hs, if_pos (by simp [hs])]
        · rw [if_neg hs, if_neg (by simp [hs, hk])])
    exact ⟨out', h1, fun k => by rw [h2 k, List.append_assoc]; rfl⟩
end
theorem cycle_eq {N : Nat} {P : List (List Int)} (h : Sml P) (hN : 2000000 < N) (I : insideB P.length P = true) {l : List Int} (o : m_credenceref14_out N P = some l) (ok : OutOk P l) (mx : nextF P l 0 = none) (lt : l.length < P.length) (hc : m_dag_Check N P = some 42) : ∃ c, m_dag_Cycle N P = some c ∧ Cyc P P.length c := by
  have hn := h.n
  have ht := h.t
  have hls' : ∀ x ∈ P, x.length ≤ 1048576 := fun x hx => by have := h.ls x hx; omega
  obtain ⟨D, h4, h5, h6⟩ := children_eq (P := P) (by omega) (by omega) (inside_InR I)
  have hPr : ∀ x y : Int, y ∈ way P x → 0 ≤ y ∧ y < (P.length : Int) := fun x y hy => way_InR (W := P) (inside_InR I) x y hy
  have hkm : ∀ (p c : Nat), p < P.length → ((c : Int) ∈ D.getD p [] ↔ (p : Int) ∈ P.getD c []) := fun p c hp => by
    rw [h6 p hp, ← List.count_pos_iff, kids_count (p : Int) 0 P c, if_pos (Nat.zero_le _), Nat.sub_zero, List.count_pos_iff]
  have hDr : ∀ x y : Int, y ∈ way D x → 0 ≤ y ∧ y < (P.length : Int) := fun x y hy => by
    unfold way at hy
    by_cases hx : x.toNat < D.length
    · rw [h6 _ (by omega)] at hy
      obtain ⟨c, h1, _, h2⟩ := kids_mem _ 0 P y hy
      omega
    · rw [List.getD_eq_getElem?_getD, List.getElem?_eq_none (by omega)] at hy; simp at hy
  have hturn : ∀ x y : Int, (0 ≤ x ∧ x < (P.length : Int)) → (0 ≤ y ∧ y < (P.length : Int)) → (y ∈ way P x ↔ x ∈ way D y) := fun x y hx hy => by
    have := hkm y.toNat x.toNat (by omega)
    rw [show ((x.toNat : Nat) : Int) = x by omega, show ((y.toNat : Nat) : Int) = y by omega] at this
    exact this.symm
  obtain ⟨s, hs, hsl, hsp⟩ := left_special hturn hPr ok mx lt
  obtain ⟨out', k1, k2⟩ := Cycle_L1 (N := N) (P := P) (D := D) l [] [] (fun k => by simp [mget])
  obtain ⟨c, k3, k4⟩ := Cycle_L2 (N := N) hn hN h5 hturn hPr hDr l out' (fun c => by
    rw [k2 c, List.nil_append]
    by_cases hc : c ∈ l <;> simp [hc]) s hs hsl hsp P 0 [] _ rfl (Nat.zero_le _) (.inl ⟨rfl, rfl, Nat.zero_le _⟩)
  refine ⟨c, ?_, k4⟩
  rw [m_dag_Cycle, hc, Option.bind_some, if_neg (by decide), h4, Option.bind_some, sorted_eq (by omega) hls' (by omega) hN h5 h6, o, Option.bind_some, k1, w64 (by omega)]
  exact k3
theorem cycle_nil {N : Nat} {P : List (List Int)} {e : Int} (hc : m_dag_Check N P = some e) (he : e ≠ 42) : m_dag_Cycle N P = some [] := by
  rw [m_dag_Cycle, hc, Option.bind_some, if_pos (by simp [he])]

theorem DO_L3 {N : Nat} {P : List (List Int)} (h : Sml P) (hN : 2000000 < N) {c : List Int} (hc : Cyc P P.length c) : ∀ (n i : Nat), c.length < n + i → i ≤ c.length → m_credencelaw14_DagOrder_L3 N P c n (i : Int) = some true
  | 0, i, hn, hi => by omega
  | n + 1, i, hn, hi => by
    have hPn := h.n
    have hl := hc.len
    rw [m_credencelaw14_DagOrder_L3.eq_2]
    by_cases hlt : i < c.length
    · obtain ⟨h1, h2, h3, h4⟩ := hc.2 i hlt
      have hmod : Int.tmod (IntKind.i64.wrap ((i : Int) + 1)) (c.length : Int) = (((i + 1) % c.length : Nat) : Int) := by rw [wS (by omega)]; rfl
      have hml : (i + 1) % c.length < c.length := Nat.mod_lt _ (by omega)
      have hat : at? P c[i] = some (way P c[i]) := at?_of h1.1 (by rw [List.getElem?_eq_getElem (by omega), way, lgetD_lt (by omega)])
      have hwl : (way P c[i]).length ≤ 1000000 := by rw [way, lgetD_lt (by omega)]; exact h.ls _ (List.getElem_mem _)
      have h0 : at? c 0 = some (c.getD 0 0) := at?_getD (j := 0) 0 (by omega)
      rw [if_pos (decide_eq_true (by omega)), chk_pos (by omega), hmod, at?_getD 0 hml, Option.bind_some, at?_lt hlt, Option.bind_some, if_neg (by rw [decide_eq_true_eq]; omega), if_neg (by rw [decide_eq_true_eq]; omega), hat, Option.bind_some, in_eq (by omega) (by omega), Option.bind_some, decide_eq_true h2, if_neg (by decide), chk_pos (by omega), Int.toNat_natCast, in_eq (by rw [List.length_take]; omega) (by omega), Option.bind_some, decide_eq_false h3, if_neg (by decide), h0, Option.bind_some, m_credencelaw14_DagOrder_J5, if_neg (by rw [decide_eq_true_eq]; omega), wS (by omega)]
      exact DO_L3 h hN hc n (i + 1) (by omega) (by omega)
    · rw [if_neg (by rw [decide_eq_true_eq]; omega)]
theorem DagOrder_true {N : Nat} {P : List (List Int)} (hn : P.length ≤ 1048576) (ht : totl P ≤ 1048576) (hN : 2000000 < N) (hal : m_credencelaw14_alive N = some true) : m_credencelaw14_DagOrder N P = some true := by
  obtain ⟨b, h1, h2⟩ := many_eq (N := N) (P := P) (by omega) (by omega) (by omega)
  rw [m_credencelaw14_DagOrder, hal, Option.bind_some, h1, Option.bind_some]
  cases b
  · obtain ⟨h6, h7⟩ := h2 rfl
    have h : Sml P := ⟨by omega, by omega⟩
    have hls' : ∀ x ∈ P, x.length ≤ 1048576 := fun x hx => by have := h.ls x hx; omega
    rw [if_neg (by decide)]
    rcases says h hN with ⟨e, Dd, R, hne⟩ | ⟨I, _, l, o, ok, mx, lt, Dd, R⟩ | ⟨I, _, l, o, ok, mx, eq, Dd, R⟩
    · have hC : m_dag_Check N P = some e := by rw [m_dag_Check, Dd]; rfl
      rw [Dd, Option.bind_some, cycle_nil hC (by omega), Option.bind_some, if_neg (by decide), hC, Option.bind_some]
      rcases hne with rfl | rfl <;> rfl
    · have hC : m_dag_Check N P = some 42 := by rw [m_dag_Check, Dd]; rfl
      obtain ⟨c, hc1, hc2⟩ := cycle_eq h hN I o ok mx lt hC
      have hl := hc2.len
      have h3 := DO_L3 h hN hc2 N 0 (by omega) (Nat.zero_le _)
      rw [Dd, Option.bind_some, hc1, Option.bind_some, if_neg (by decide), hC, Option.bind_some, m_credencelaw14_DagOrder_J1, if_neg (by decide), if_pos (by decide), m_credencelaw14_DagOrder_J6, if_neg (by decide), m_credencelaw14_DagOrder_J2, if_neg (by decide), if_neg (by rw [decide_eq_true_eq]; omega), m_credencelaw14_DagOrder_J4, if_neg (by decide)]
      exact h3
    · have hC : m_dag_Check N P = some 0 := by rw [m_dag_Check, Dd]; rfl
      have hord := out_ord (N := N) (P := P) (by omega) hls' (by omega) N [] l ⟨.nil, by simp, by simp⟩ (fun j hj => by simp at hj) (by rw [m_credenceref14_out] at o; exact o)
      have h3 := DO_L1 h hN ok hord eq 0 N 0 (by omega) (Nat.zero_le _)
      rw [Dd, Option.bind_some, cycle_nil hC (by decide), Option.bind_some, if_neg (by decide), hC, Option.bind_some, m_credencelaw14_DagOrder_J1, if_neg (by simp), if_neg (by simp), m_credencelaw14_DagOrder_J6, if_neg (by decide), m_credencelaw14_DagOrder_J2, if_pos (by simp), if_neg (by simp [eq]), m_credencelaw14_DagOrder_J3, if_neg (by simp)]
      exact h3
  · rw [if_pos rfl]

end Go.Proofs.Ytpenklmcacfkpaa
