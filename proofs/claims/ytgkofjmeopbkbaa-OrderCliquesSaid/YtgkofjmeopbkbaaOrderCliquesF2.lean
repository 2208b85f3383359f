/-
  What functions of the program compute, as plain Lean functions (m_..), and proofs that they compute it (c_..). Printed by a program of the author; no conditions.
-/
import Derived.Test.YtgkofjmeopbkbaaOrderCliquesBFloat
import Derived.Test.YtgkofjmeopbkbaaProg
import Derived.Test.YtgkofjmeopbkbaaOrderCliquesBDelete
import Derived.Test.YtgkofjmeopbkbaaOrderCliquesBGraph
import Derived.Test.YtgkofjmeopbkbaaOrderCliquesBInsert
import Derived.Test.YtgkofjmeopbkbaaOrderCliquesBKeys
import Derived.Test.YtgkofjmeopbkbaaOrderCliquesF1
set_option linter.unusedVariables false
namespace Go.Proofs.Ytgkofjmeopbkbaa
open Go Go.RowKit


set_option maxRecDepth 100000 in
theorem el47_53 : ElemOk Try.prog 47 2 16 := ⟨Try.t47, _, rfl, rfl, rfl, rfl, rfl⟩

def m_graph_Graph_wanting_J1 (kk_L2 : ((List (Int × Int)) → Option (List (Int × Int)))) (l_35 : List (Int × Int)) : Option (List (Int × Int)) :=
  kk_L2 l_35

def m_graph_Graph_wanting_L2 (p0_g : List (List Bool)) (k_9 : Nat) (kk_L1 : (Nat → (List (Int × Int)) → Option (List (Int × Int)))) (x_17 : Int) : List Int → (List (Int × Int)) → Option (List (Int × Int))
  | [], l_27 => kk_L1 (k_9 + 1) l_27
  | x_31 :: l_32, l_27 => (at? p0_g x_17).bind fun row_39 => if (!(gat row_39 x_31)) = true then (chk ((l_27.length + [(x_17, x_31)].length) * 16 ≤ 140737488355328 ∧ l_27.length + [(x_17, x_31)].length ≤ maxLen) (m_graph_Graph_wanting_J1 (m_graph_Graph_wanting_L2 p0_g k_9 kk_L1 x_17 l_32) (l_27 ++ [(x_17, x_31)]))) else (m_graph_Graph_wanting_J1 (m_graph_Graph_wanting_L2 p0_g k_9 kk_L1 x_17 l_32) l_27)

def m_graph_Graph_wanting_L1 (p0_g : List (List Bool)) (r_1 : (List Int)) : List Int → Nat → (List (Int × Int)) → Option (List (Int × Int))
  | [], k_9, l_13 => some l_13
  | x_17 :: l_18, k_9, l_13 => chk ((0 : Int) ≤ (IntKind.i64.wrap ((k_9 : Int) + 1)) ∧ (IntKind.i64.wrap ((k_9 : Int) + 1)) ≤ (r_1.length : Int)) (m_graph_Graph_wanting_L2 p0_g k_9 (m_graph_Graph_wanting_L1 p0_g r_1 l_18) x_17 (r_1.drop (Int.toNat (IntKind.i64.wrap ((k_9 : Int) + 1)))) l_13)

def m_graph_Graph_wanting (p0_g : List (List Bool)) (p1_a : Int) : Option (List (Int × Int)) :=
  (m_graph_Graph_Near p0_g p1_a).bind fun r_1 => m_graph_Graph_wanting_L1 p0_g r_1 r_1 0 ([] : List (Int × Int))

set_option maxRecDepth 100000 in
set_option maxHeartbeats 2000000 in
theorem c_graph_Graph_wanting (c1 : Nat) (col : Col) (w0 : World) (qc0 : Nat) (hqqc0 : qc0 ≠ 0) (o0 : GObj) (p0_g : List (List Bool)) (p1_a : Int) (h0 : GO 85 86 qc0 col w0 o0 p0_g) (r : (List (Int × Int))) (hm : m_graph_Graph_wanting p0_g p1_a = some r) :
    Calls Try.prog 53 #[(.pointer (some ⟨o0.g, 0, none⟩)), (.int .i64 p1_a)] w0 (fun e w' => ∃ (col' : Col) (ra1 : Option Addr) (rc2 : Nat), e = .returned ((.slice ra1 r.length rc2)) ∧ Grow col w0 col' w' ∧ Own (Rep.pair (Rep.int .i64) (Rep.int .i64)) 47 c1 col' w' ra1 rc2 r) := by
  refine calls_of1 4 (m := 49) (args := [(.pointer (some ⟨o0.g, 0, none⟩)), (.int .i64 p1_a)]) Try.func53 rfl rfl rfl rfl rfl ?_
  rw [m_graph_Graph_wanting.eq_1] at hm
  have hst := St.start col w0
  replace h0 := h0.start0 hqqc0
  refine wseq ?_
  refine wregion ?_
  refine lv (v := (.slice none (([] : List (Int × Int)).length) 0)) rfl rfl (r_assign rfl) ?_
  refine lnil ?_
  refine wseq ?_
  refine wregion ?_
  refine lv (v := (.slice none (([] : List (Int × Int)).length) 0)) rfl rfl (r_assign rfl) ?_
  refine lnil ?_
  refine wseq ?_
  refine wregion ?_
  refine lv (v := (.pointer (some ⟨o0.g, 0, none⟩))) rfl rfl (r_move rfl) ?_
  refine lv (v := (.int .i64 p1_a)) rfl rfl (r_move rfl) ?_
  obtain ⟨r_1, hr_2, hm⟩ := bind_some hm
  refine lc rfl rfl (r_call2 Try.call22 rfl rfl) (c_graph_Graph_Near 1 (col0 col) _ 999 (by decide) o0 p0_g p1_a h0 r_1 hr_2) ?_
  rintro _ w_6 ⟨col_8, ra_3, rc_4, rfl, hg_7, rh_5⟩
  refine ⟨_, rfl, ?_⟩
  replace h0 := h0.gr hg_7
  replace hst := hst.grow hg_7
  refine lv (v := (.slice ra_3 r_1.length rc_4)) rfl rfl (r_assign rfl) ?_
  refine lnil ?_
  refine wseq ?_
  refine wseq ?_
  refine wregion ?_
  refine lv (v := (.slice ra_3 r_1.length rc_4)) rfl rfl (r_move rfl) ?_
  refine lv (v := (.int .i64 (r_1.length : Int))) rfl rfl (r_len Try.underlying22 rfl) ?_
  refine lv (v := (.int .i64 0)) rfl rfl (r_move rfl) ?_
  refine lnil ?_
  refine wblock ?_
  replace h0 := h0.froz 1 (by decide)
  replace rh_5 := (rh_5).toSlF (Froz.int .i64)
  replace hst := hst.froz 1 (by decide) (by decide)
  refine wloop (fun n f w_11 => ∃ (col_12 : Col) (k_9 : Nat) (a_14 : Option Addr) (cap_15 : Nat) (l_13 : List (Int × Int)) (l_10 : List Int), n = l_10.length ∧ r_1.drop k_9 = l_10 ∧ m_graph_Graph_wanting_L1 p0_g r_1 l_10 k_9 l_13 = some r ∧ St w0 (col0 col) col_12 w_11 ∧ GO 85 86 999 col_12 w_11 o0 p0_g ∧ Sl (Rep.int .i64) col_12 w_11 ra_3 rc_4 r_1 ∧ Own (Rep.pair (Rep.int .i64) (Rep.int .i64)) 47 2 col_12 w_11 a_14 cap_15 l_13 ∧ f 16 = (.int .i64 (k_9 : Int)) ∧ f 0 = (.pointer (some ⟨o0.g, 0, none⟩)) ∧ f 14 = (.slice ra_3 r_1.length rc_4) ∧ f 15 = (.int .i64 (r_1.length : Int)) ∧ f 5 = (.slice a_14 l_13.length cap_15) ∧ f 6 = (.slice ra_3 r_1.length rc_4) ∧ f 1000000 = (enc [])) r_1.length ⟨(frC 1 col_8), 0, none, 0, ([] : List (Int × Int)), r_1, rfl, rfl, hm, hst, h0, rh_5, Own.nil, rfl, rfl, rfl, rfl, rfl, rfl, rfl⟩ ?_
  clear hm; intro n f w_11 hI
  obtain ⟨col_12, k_9, a_14, cap_15, l_13, l_10, hn, hl, hm, hst, h0, rh_5, h_16, hs16, hs0, hs14, hs15, hs5, hs6, hs1000000⟩ := hI
  subst hn
  refine .ld (d := 16) (v := (.int .i64 (k_9 : Int))) hs16 ?_
  refine .ld (d := 0) (v := (.pointer (some ⟨o0.g, 0, none⟩))) hs0 ?_
  refine .ld (d := 14) (v := (.slice ra_3 r_1.length rc_4)) hs14 ?_
  refine .ld (d := 15) (v := (.int .i64 (r_1.length : Int))) hs15 ?_
  refine .ld (d := 5) (v := (.slice a_14 l_13.length cap_15)) hs5 ?_
  refine .ld (d := 6) (v := (.slice ra_3 r_1.length rc_4)) hs6 ?_
  refine .ld (d := 1000000) (v := (enc [])) hs1000000 ?_
  clear hs16 hs0 hs14 hs15 hs5 hs6 hs1000000
  cases l_10 with
  | nil =>
    have hk : ¬ ((k_9 : Int) < (r_1.length : Int)) := by have := List.drop_eq_nil_iff.1 hl; omega
    have hkb := decide_eq_false hk
    rw [m_graph_Graph_wanting_L1.eq_1] at hm
    refine wseq ?_
    refine wregion ?_
    refine lv (v := (.bool (decide ((k_9 : Int) < (r_1.length : Int))))) rfl rfl (r_lss (k_9 : Int) (r_1.length : Int) rfl rfl) ?_
    refine lnil ?_
    refine wseq ?_
    refine wcondF (congrArg Value.bool hkb) ?_
    refine wexit (inB_hit ?_)
    refine wseq ?_
    refine wregion ?_
    refine lv (v := (.slice a_14 l_13.length cap_15)) rfl rfl (r_move rfl) ?_
    refine lv (v := (.slice a_14 l_13.length cap_15)) rfl rfl (r_assign rfl) ?_
    refine lnil ?_
    refine wret ?_
    cases hm
    exact ⟨rfl, colF w0.heap.size col col_12 (fun n => bif Nat.beq n 2 then c1 else 0), a_14, cap_15, rfl, hst.fin (fun n => bif Nat.beq n 2 then c1 else 0), hst.finOwn (g := (fun n => bif Nat.beq n 2 then c1 else 0)) rfl h_16 (by decide) (by decide) rfl⟩
  | cons x_17 l_18 =>
    obtain ⟨hat, hl2, hlt⟩ := drop_get hl
    have hk : (k_9 : Int) < (r_1.length : Int) := by omega
    have hkb := decide_eq_true hk
    rw [m_graph_Graph_wanting_L1.eq_2] at hm
    refine wseq ?_
    refine wregion ?_
    refine lv (v := (.bool (decide ((k_9 : Int) < (r_1.length : Int))))) rfl rfl (r_lss (k_9 : Int) (r_1.length : Int) rfl rfl) ?_
    refine lnil ?_
    refine wseq ?_
    refine wcondT (congrArg Value.bool hkb) ?_
    refine wskip ?_
    refine wseq ?_
    refine wblock ?_
    refine wseq ?_
    refine wregion ?_
    refine lv (v := (.int .i64 (k_9 : Int))) rfl rfl (r_move rfl) ?_
    refine lv (v := (sptr ra_3 (Int.toNat (k_9 : Int) * 1))) rfl rfl (r_idx Try.underlying22 Try.sizeOf3 rfl rfl (at?_some hat).1 (at?_some hat).2.1 (rh_5.addr hat)) ?_
    refine lv (v := (.int .i64 x_17)) rfl rfl (r_ld Try.isAgg3 rfl (rh_5.atInt hat)) ?_
    refine lv (v := (.int .i64 (k_9 : Int))) rfl rfl (r_assign rfl) ?_
    refine lv (v := (.int .i64 x_17)) rfl rfl (r_assign rfl) ?_
    refine lnil ?_
    refine wseq ?_
    refine wregion ?_
    refine lv (v := (.slice ra_3 r_1.length rc_4)) rfl rfl (r_move rfl) ?_
    refine lv (v := (.int .i64 (k_9 : Int))) rfl rfl (r_move rfl) ?_
    refine lv (v := (.int .i64 (IntKind.i64.wrap ((k_9 : Int) + 1)))) rfl rfl (r_add (k_9 : Int) 1 rfl rfl) ?_
    obtain ⟨hb_19, hm⟩ := chk_some hm
    have h_22 := rh_5.drop (sz := 1) rfl (Int.toNat (IntKind.i64.wrap ((k_9 : Int) + 1)))
    refine lv (v := .slice (if rc_4 = (Int.toNat (IntKind.i64.wrap ((k_9 : Int) + 1))) then ra_3 else ra_3.map (·.add ((Int.toNat (IntKind.i64.wrap ((k_9 : Int) + 1))) * 1))) (r_1.length - (Int.toNat (IntKind.i64.wrap ((k_9 : Int) + 1)))) (rc_4 - (Int.toNat (IntKind.i64.wrap ((k_9 : Int) + 1))))) rfl rfl (r_sliceL Try.underlying22 Try.sizeOf3 rfl rfl hb_19.1 hb_19.2) ?_
    generalize (if rc_4 = (Int.toNat (IntKind.i64.wrap ((k_9 : Int) + 1))) then ra_3 else ra_3.map (·.add ((Int.toNat (IntKind.i64.wrap ((k_9 : Int) + 1))) * 1))) = a_20 at *
    refine .ld (d := 24) (v := (.slice a_20 ((r_1.drop (Int.toNat (IntKind.i64.wrap ((k_9 : Int) + 1)))).length) (rc_4 - (Int.toNat (IntKind.i64.wrap ((k_9 : Int) + 1)))))) (congrArg (fun n => Value.slice a_20 n (rc_4 - (Int.toNat (IntKind.i64.wrap ((k_9 : Int) + 1))))) (List.length_drop (i := (Int.toNat (IntKind.i64.wrap ((k_9 : Int) + 1)))) (l := r_1)).symm) ?_
    refine lv (v := (.int .i64 ((r_1.drop (Int.toNat (IntKind.i64.wrap ((k_9 : Int) + 1)))).length : Int))) rfl rfl (r_len Try.underlying22 rfl) ?_
    refine lv (v := (.int .i64 0)) rfl rfl (r_move rfl) ?_
    refine lnil ?_
    refine wblock ?_
    refine wloop (fun n f w_25 => ∃ (col_26 : Col) (k_23 : Nat) (a_28 : Option Addr) (cap_29 : Nat) (l_27 : List (Int × Int)) (l_24 : List Int), n = l_24.length ∧ (r_1.drop (Int.toNat (IntKind.i64.wrap ((k_9 : Int) + 1)))).drop k_23 = l_24 ∧ m_graph_Graph_wanting_L2 p0_g k_9 (m_graph_Graph_wanting_L1 p0_g r_1 l_18) x_17 l_24 l_27 = some r ∧ St w0 (col0 col) col_26 w_25 ∧ GO 85 86 999 col_26 w_25 o0 p0_g ∧ Sl (Rep.int .i64) col_26 w_25 ra_3 rc_4 r_1 ∧ Sl (Rep.int .i64) col_26 w_25 a_20 (rc_4 - (Int.toNat (IntKind.i64.wrap ((k_9 : Int) + 1)))) (r_1.drop (Int.toNat (IntKind.i64.wrap ((k_9 : Int) + 1)))) ∧ Own (Rep.pair (Rep.int .i64) (Rep.int .i64)) 47 2 col_26 w_25 a_28 cap_29 l_27 ∧ f 26 = (.int .i64 (k_23 : Int)) ∧ f 0 = (.pointer (some ⟨o0.g, 0, none⟩)) ∧ f 14 = (.slice ra_3 r_1.length rc_4) ∧ f 15 = (.int .i64 (r_1.length : Int)) ∧ f 16 = (.int .i64 (k_9 : Int)) ∧ f 24 = (.slice a_20 ((r_1.drop (Int.toNat (IntKind.i64.wrap ((k_9 : Int) + 1)))).length) (rc_4 - (Int.toNat (IntKind.i64.wrap ((k_9 : Int) + 1))))) ∧ f 25 = (.int .i64 ((r_1.drop (Int.toNat (IntKind.i64.wrap ((k_9 : Int) + 1)))).length : Int)) ∧ f 5 = (.slice a_28 l_27.length cap_29) ∧ f 6 = (.slice ra_3 r_1.length rc_4) ∧ f 8 = (.int .i64 x_17) ∧ f 1000000 = (enc [])) (r_1.drop (Int.toNat (IntKind.i64.wrap ((k_9 : Int) + 1)))).length ⟨col_12, 0, a_14, cap_15, l_13, (r_1.drop (Int.toNat (IntKind.i64.wrap ((k_9 : Int) + 1)))), rfl, rfl, hm, hst, h0, rh_5, h_22, h_16, rfl, rfl, rfl, rfl, rfl, rfl, rfl, rfl, rfl, rfl, rfl⟩ ?_
    clear hm; intro n f w_25 hI
    obtain ⟨col_26, k_23, a_28, cap_29, l_27, l_24, hn, hl, hm, hst, h0, rh_5, h_22, h_30, hs26, hs0, hs14, hs15, hs16, hs24, hs25, hs5, hs6, hs8, hs1000000⟩ := hI
    subst hn
    refine .ld (d := 26) (v := (.int .i64 (k_23 : Int))) hs26 ?_
    refine .ld (d := 0) (v := (.pointer (some ⟨o0.g, 0, none⟩))) hs0 ?_
    refine .ld (d := 14) (v := (.slice ra_3 r_1.length rc_4)) hs14 ?_
    refine .ld (d := 15) (v := (.int .i64 (r_1.length : Int))) hs15 ?_
    refine .ld (d := 16) (v := (.int .i64 (k_9 : Int))) hs16 ?_
    refine .ld (d := 24) (v := (.slice a_20 ((r_1.drop (Int.toNat (IntKind.i64.wrap ((k_9 : Int) + 1)))).length) (rc_4 - (Int.toNat (IntKind.i64.wrap ((k_9 : Int) + 1)))))) hs24 ?_
    refine .ld (d := 25) (v := (.int .i64 ((r_1.drop (Int.toNat (IntKind.i64.wrap ((k_9 : Int) + 1)))).length : Int))) hs25 ?_
    refine .ld (d := 5) (v := (.slice a_28 l_27.length cap_29)) hs5 ?_
    refine .ld (d := 6) (v := (.slice ra_3 r_1.length rc_4)) hs6 ?_
    refine .ld (d := 8) (v := (.int .i64 x_17)) hs8 ?_
    refine .ld (d := 1000000) (v := (enc [])) hs1000000 ?_
    clear hs26 hs0 hs14 hs15 hs16 hs24 hs25 hs5 hs6 hs8 hs1000000
    cases l_24 with
    | nil =>
      have hk : ¬ ((k_23 : Int) < ((r_1.drop (Int.toNat (IntKind.i64.wrap ((k_9 : Int) + 1)))).length : Int)) := by have := List.drop_eq_nil_iff.1 hl; omega
      have hkb := decide_eq_false hk
      rw [m_graph_Graph_wanting_L2.eq_1] at hm
      refine wseq ?_
      refine wregion ?_
      refine lv (v := (.bool (decide ((k_23 : Int) < ((r_1.drop (Int.toNat (IntKind.i64.wrap ((k_9 : Int) + 1)))).length : Int))))) rfl rfl (r_lss (k_23 : Int) ((r_1.drop (Int.toNat (IntKind.i64.wrap ((k_9 : Int) + 1)))).length : Int) rfl rfl) ?_
      refine lnil ?_
      refine wseq ?_
      refine wcondF (congrArg Value.bool hkb) ?_
      refine wexit (inB_hit ?_)
      refine wregion ?_
      refine lv (v := (.int .i64 (IntKind.i64.wrap ((k_9 : Int) + 1)))) rfl rfl (r_add (k_9 : Int) 1 rfl rfl) ?_
      refine lv (v := (.int .i64 (IntKind.i64.wrap ((k_9 : Int) + 1)))) rfl rfl (r_move rfl) ?_
      refine lnil ?_
      exact ⟨l_18.length, by simp, ⟨col_26, (k_9 + 1), a_28, cap_29, l_27, l_18, rfl, hl2, hm, hst, h0, rh_5, h_30, (congrArg (Value.int .i64) (wrap_succ (Nat.lt_of_lt_of_le hlt rh_5.1.1))), rfl, rfl, rfl, rfl, rfl, rfl⟩⟩
    | cons x_31 l_32 =>
      obtain ⟨hat, hl2, hlt⟩ := drop_get hl
      have hk : (k_23 : Int) < ((r_1.drop (Int.toNat (IntKind.i64.wrap ((k_9 : Int) + 1)))).length : Int) := by omega
      have hkb := decide_eq_true hk
      rw [m_graph_Graph_wanting_L2.eq_2] at hm
      refine wseq ?_
      refine wregion ?_
      refine lv (v := (.bool (decide ((k_23 : Int) < ((r_1.drop (Int.toNat (IntKind.i64.wrap ((k_9 : Int) + 1)))).length : Int))))) rfl rfl (r_lss (k_23 : Int) ((r_1.drop (Int.toNat (IntKind.i64.wrap ((k_9 : Int) + 1)))).length : Int) rfl rfl) ?_
      refine lnil ?_
      refine wseq ?_
      refine wcondT (congrArg Value.bool hkb) ?_
      refine wskip ?_
      refine wseq ?_
      refine Wp.cut (fun f w_33 => ∃ (col_34 : Col) (a_36 : Option Addr) (cap_37 : Nat) (l_35 : List (Int × Int)), m_graph_Graph_wanting_J1 (m_graph_Graph_wanting_L2 p0_g k_9 (m_graph_Graph_wanting_L1 p0_g r_1 l_18) x_17 l_32) l_35 = some r ∧ St w0 (col0 col) col_34 w_33 ∧ GO 85 86 999 col_34 w_33 o0 p0_g ∧ Sl (Rep.int .i64) col_34 w_33 ra_3 rc_4 r_1 ∧ Sl (Rep.int .i64) col_34 w_33 a_20 (rc_4 - (Int.toNat (IntKind.i64.wrap ((k_9 : Int) + 1)))) (r_1.drop (Int.toNat (IntKind.i64.wrap ((k_9 : Int) + 1)))) ∧ Own (Rep.pair (Rep.int .i64) (Rep.int .i64)) 47 2 col_34 w_33 a_36 cap_37 l_35 ∧ f 0 = (.pointer (some ⟨o0.g, 0, none⟩)) ∧ f 14 = (.slice ra_3 r_1.length rc_4) ∧ f 15 = (.int .i64 (r_1.length : Int)) ∧ f 16 = (.int .i64 (k_9 : Int)) ∧ f 24 = (.slice a_20 ((r_1.drop (Int.toNat (IntKind.i64.wrap ((k_9 : Int) + 1)))).length) (rc_4 - (Int.toNat (IntKind.i64.wrap ((k_9 : Int) + 1))))) ∧ f 25 = (.int .i64 ((r_1.drop (Int.toNat (IntKind.i64.wrap ((k_9 : Int) + 1)))).length : Int)) ∧ f 26 = (.int .i64 (k_23 : Int)) ∧ f 5 = (.slice a_36 l_35.length cap_37) ∧ f 6 = (.slice ra_3 r_1.length rc_4) ∧ f 8 = (.int .i64 x_17) ∧ f 1000000 = (enc [])) ?_ ?_
      · intro f w_33 hJ
        obtain ⟨col_34, a_36, cap_37, l_35, hm, hst, h0, rh_5, h_22, h_38, hs0, hs14, hs15, hs16, hs24, hs25, hs26, hs5, hs6, hs8, hs1000000⟩ := hJ
        rw [m_graph_Graph_wanting_J1.eq_1] at hm
        refine .ld (d := 0) (v := (.pointer (some ⟨o0.g, 0, none⟩))) hs0 ?_
        refine .ld (d := 14) (v := (.slice ra_3 r_1.length rc_4)) hs14 ?_
        refine .ld (d := 15) (v := (.int .i64 (r_1.length : Int))) hs15 ?_
        refine .ld (d := 16) (v := (.int .i64 (k_9 : Int))) hs16 ?_
        refine .ld (d := 24) (v := (.slice a_20 ((r_1.drop (Int.toNat (IntKind.i64.wrap ((k_9 : Int) + 1)))).length) (rc_4 - (Int.toNat (IntKind.i64.wrap ((k_9 : Int) + 1)))))) hs24 ?_
        refine .ld (d := 25) (v := (.int .i64 ((r_1.drop (Int.toNat (IntKind.i64.wrap ((k_9 : Int) + 1)))).length : Int))) hs25 ?_
        refine .ld (d := 26) (v := (.int .i64 (k_23 : Int))) hs26 ?_
        refine .ld (d := 5) (v := (.slice a_36 l_35.length cap_37)) hs5 ?_
        refine .ld (d := 6) (v := (.slice ra_3 r_1.length rc_4)) hs6 ?_
        refine .ld (d := 8) (v := (.int .i64 x_17)) hs8 ?_
        refine .ld (d := 1000000) (v := (enc [])) hs1000000 ?_
        clear hs0 hs14 hs15 hs16 hs24 hs25 hs26 hs5 hs6 hs8 hs1000000
        refine wregion ?_
        refine lv (v := (.int .i64 (IntKind.i64.wrap ((k_23 : Int) + 1)))) rfl rfl (r_add (k_23 : Int) 1 rfl rfl) ?_
        refine lv (v := (.int .i64 (IntKind.i64.wrap ((k_23 : Int) + 1)))) rfl rfl (r_move rfl) ?_
        refine lnil ?_
        exact ⟨l_32.length, by simp, ⟨col_34, (k_23 + 1), a_36, cap_37, l_35, l_32, rfl, hl2, hm, hst, h0, rh_5, h_22, h_38, (congrArg (Value.int .i64) (wrap_succ (Nat.lt_of_lt_of_le hlt h_22.1.1))), rfl, rfl, rfl, rfl, rfl, rfl, rfl, rfl, rfl, rfl⟩⟩
      · refine wblock ?_
        refine wseq ?_
        refine wregion ?_
        refine lv (v := (sptr a_20 (Int.toNat (k_23 : Int) * 1))) rfl rfl (r_idx Try.underlying22 Try.sizeOf3 rfl rfl (at?_some hat).1 (at?_some hat).2.1 (h_22.addr hat)) ?_
        refine lv (v := (.int .i64 x_31)) rfl rfl (r_ld Try.isAgg3 rfl (h_22.atInt hat)) ?_
        refine lv (v := (.int .i64 x_31)) rfl rfl (r_assign rfl) ?_
        refine lnil ?_
        refine wseq ?_
        refine wregion ?_
        refine lv (v := (.pointer (some ⟨o0.g, 0, none⟩))) rfl rfl (r_move rfl) ?_
        refine lv (v := (.pointer (some ⟨o0.g, 0, none⟩))) rfl rfl (r_nilCheck rfl) ?_
        refine lv (v := (.pointer ((some (⟨o0.g, 0, none⟩ : Addr)).map (·.add 0)))) rfl rfl (r_fieldAddr (sz := 1) (off := 0) Try.underlying85 rfl Try.sizeOf83 (by decide) rfl rfl ⟨_, _, rfl⟩) ?_
        refine lv (v := (.slice o0.a p0_g.length o0.cap)) rfl rfl (r_ld Try.isAgg83 rfl ((h0.box.atN).nth (q := 0) (v := (.slice o0.a p0_g.length o0.cap)) rfl)) ?_
        refine lv (v := (.int .i64 x_17)) rfl rfl (r_move rfl) ?_
        obtain ⟨row_39, hj_40, hm⟩ := bind_some hm
        obtain ⟨b_41, hb_42, _, hb_43⟩ := h0.blk hj_40
        refine lv (v := (sptr o0.a (Int.toNat x_17 * 1))) rfl rfl (r_idx Try.underlying83 Try.sizeOf86 rfl rfl (at?_some hj_40).1 (at?_some hj_40).2.1 (h0.addr hb_42)) ?_
        refine lv (v := (.map (some b_41))) rfl rfl (r_ld Try.isAgg86 rfl (h0.at1 hb_42)) ?_
        refine lv (v := (.int .i64 x_31)) rfl rfl (r_move rfl) ?_
        refine lv (v := (.bool (gat row_39 x_31))) rfl rfl (r_glookup_g (h0.maps _ _ _ hb_43 (at?_some hj_40).2.2) Try.underlying86 Try.underlying3 Try.zeroValue4 rfl rfl) ?_
        refine lv (v := (.bool (!(gat row_39 x_31)))) rfl rfl (r_not (gat row_39 x_31) rfl) ?_
        refine lnil ?_
        refine wcond (!(gat row_39 x_31)) rfl (fun hb => ?_) (fun hb => ?_)
        · rw [if_pos hb] at hm
          clear hb
          refine wregion ?_
          refine lv (v := (.slice a_28 l_27.length cap_29)) rfl rfl (r_move rfl) ?_
          refine lv (v := (.int .i64 x_17)) rfl rfl (r_move rfl) ?_
          refine lv (v := (.int .i64 x_31)) rfl rfl (r_move rfl) ?_
          refine lv (v := (.agg #[(.int .i64 x_17), (.int .i64 x_31)])) rfl rfl (r_build (l := [_, _]) (qs := [(0, 1), (1, 1)]) Try.underlying47 Try.zeroValue47 ⟨rfl, Try.sizeOf3, rfl, Try.sizeOf3, trivial⟩ rfl) ?_
          refine l_lit (col := col_26) (r := (Rep.pair (Rep.int .i64) (Rep.int .i64))) (xs := [(x_17, x_31)]) [(.agg #[(.int .i64 x_17), (.int .i64 x_31)])] 3 rfl Try.underlying29 el47_53 rfl rfl rfl rfl rfl rfl (by intro v hv; simp only [List.mem_cons, List.not_mem_nil, or_false] at hv; subst hv; rfl) (RowsH.ofF (Rows.consF (r := (Rep.pair (Rep.int .i64) (Rep.int .i64))) (x := (x_17, x_31)) (cs := [(.int .i64 x_17), (.int .i64 x_31)]) (rd_pairI (rd_int .i64 x_17) (rd_int .i64 x_31)) Rows.nil0)) ?_
          intro a_44 w_45 col_46 hg_47 h_48
          replace h0 := h0.gr hg_47
          replace rh_5 := rh_5.gr hg_47
          replace h_22 := h_22.gr hg_47
          replace h_30 := h_30.gr hg_47
          replace hst := hst.grow hg_47
          obtain ⟨hb_49, hm⟩ := chk_some hm
          refine l_appendM (col := col_46) (w := w_45) (r := (Rep.pair (Rep.int .i64) (Rep.int .i64))) (c := 2) (c2 := 2) (xs := l_27) (ys := [(x_17, x_31)]) h_30 (h_48.srcN (NB.pair (NB.int (k := .i64)) (NB.int (k := .i64)))) rfl Try.underlying29 el47_53 rfl rfl rfl hb_49.1 hb_49.2 (by decide) ?_
          intro a_50 cap_51 w_52 col_53 hk_54 h_55
          replace h0 := h0.kpp hk_54 rfl rfl
          replace rh_5 := rh_5.kpp hk_54 rfl
          replace h_22 := h_22.kpp hk_54 rfl
          replace h_48 := h_48.kpp hk_54 rfl rfl
          replace hst := hst.kpp hk_54 rfl rfl
          clear h_30
          refine lv (v := (.slice a_50 ((l_27 ++ [(x_17, x_31)]).length) cap_51)) rfl rfl (r_assign rfl) ?_
          refine lnil ?_
          exact ⟨col_53, a_50, cap_51, (l_27 ++ [(x_17, x_31)]), hm, hst, h0, rh_5, h_22, h_55, rfl, rfl, rfl, rfl, rfl, rfl, rfl, rfl, rfl, rfl, rfl⟩
        · rw [if_neg (by rw [hb]; decide)] at hm
          clear hb
          refine wskip ?_
          exact ⟨col_26, a_28, cap_29, l_27, hm, hst, h0, rh_5, h_22, h_30, rfl, rfl, rfl, rfl, rfl, rfl, rfl, rfl, rfl, rfl, rfl⟩




def m_graph_Graph_Fill (p0_g : List (List Bool)) (p1_a : Int) : Option Int :=
  (m_graph_Graph_wanting p0_g p1_a).bind fun r_1 => some (r_1.length : Int)

set_option maxRecDepth 100000 in
set_option maxHeartbeats 2000000 in
theorem c_graph_Graph_Fill (col : Col) (w0 : World) (qc0 : Nat) (hqqc0 : qc0 ≠ 0) (o0 : GObj) (p0_g : List (List Bool)) (p1_a : Int) (h0 : GO 85 86 qc0 col w0 o0 p0_g) (r : Int) (hm : m_graph_Graph_Fill p0_g p1_a = some r) :
    Calls Try.prog 16 #[(.pointer (some ⟨o0.g, 0, none⟩)), (.int .i64 p1_a)] w0 (fun e w' => e = .returned ((.int .i64 r)) ∧ Below w0.heap.size w0 w') := by
  refine calls_of1 4 (m := 9) (args := [(.pointer (some ⟨o0.g, 0, none⟩)), (.int .i64 p1_a)]) Try.func16 rfl rfl rfl rfl rfl ?_
  rw [m_graph_Graph_Fill.eq_1] at hm
  have hst := St.start col w0
  replace h0 := h0.start0 hqqc0
  refine wseq ?_
  refine wregion ?_
  refine lv (v := (.int .i64 0)) rfl rfl (r_assign rfl) ?_
  refine lnil ?_
  refine wseq ?_
  refine wregion ?_
  refine lv (v := (.pointer (some ⟨o0.g, 0, none⟩))) rfl rfl (r_move rfl) ?_
  refine lv (v := (.int .i64 p1_a)) rfl rfl (r_move rfl) ?_
  obtain ⟨r_1, hr_2, hm⟩ := bind_some hm
  refine lc rfl rfl (r_call2 Try.call53 rfl rfl) (c_graph_Graph_wanting 1 (col0 col) _ 999 (by decide) o0 p0_g p1_a h0 r_1 hr_2) ?_
  rintro _ w_6 ⟨col_8, ra_3, rc_4, rfl, hg_7, rh_5⟩
  refine ⟨_, rfl, ?_⟩
  replace h0 := h0.gr hg_7
  replace hst := hst.grow hg_7
  refine lv (v := (.int .i64 (r_1.length : Int))) rfl rfl (r_len Try.underlying29 rfl) ?_
  refine lv (v := (.int .i64 (r_1.length : Int))) rfl rfl (r_assign rfl) ?_
  refine lnil ?_
  refine wret ?_
  cases hm
  exact ⟨rfl, rfl, hst.below⟩




def m_cmp_isNaN_int (p0_x : Int) : Option Bool :=
  some (!decide (p0_x = p0_x))

set_option maxRecDepth 100000 in
set_option maxHeartbeats 2000000 in
theorem c_cmp_isNaN_int (col : Col) (w0 : World) (p0_x : Int) (r : Bool) (hm : m_cmp_isNaN_int p0_x = some r) :
    Calls Try.prog 111 #[(.int .i64 p0_x)] w0 (fun e w' => e = .returned ((.bool r)) ∧ Below w0.heap.size w0 w') := by
  refine calls_of1 2 (m := 6) (args := [(.int .i64 p0_x)]) Try.func111 rfl rfl rfl rfl rfl ?_
  rw [m_cmp_isNaN_int.eq_1] at hm
  have hst := St.start col w0
  refine wseq ?_
  refine wregion ?_
  refine lv (v := (.bool false)) rfl rfl (r_assign rfl) ?_
  refine lnil ?_
  refine wseq ?_
  refine wregion ?_
  refine lv (v := (.int .i64 p0_x)) rfl rfl (r_move rfl) ?_
  refine lv (v := (.int .i64 p0_x)) rfl rfl (r_move rfl) ?_
  refine lv (v := (.bool (!decide (p0_x = p0_x)))) rfl rfl (r_neq p0_x p0_x rfl rfl) ?_
  refine lv (v := (.bool (!decide (p0_x = p0_x)))) rfl rfl (r_assign rfl) ?_
  refine lnil ?_
  refine wret ?_
  cases hm
  exact ⟨rfl, rfl, hst.below⟩




def m_cmp_Less_int_J1 (v_13 : Bool) : Option Bool :=
  some v_13

def m_cmp_Less_int (p0_x : Int) (p1_y : Int) : Option Bool :=
  (m_cmp_isNaN_int p0_x).bind fun r_14 => if r_14 = true then ((m_cmp_isNaN_int p1_y).bind fun r_19 => if (!r_19) = true then (m_cmp_Less_int_J1 true) else (m_cmp_Less_int_J1 (decide (p0_x < p1_y)))) else (m_cmp_Less_int_J1 (decide (p0_x < p1_y)))

set_option maxRecDepth 100000 in
set_option maxHeartbeats 2000000 in
theorem c_cmp_Less_int (col : Col) (w0 : World) (p0_x : Int) (p1_y : Int) (r : Bool) (hm : m_cmp_Less_int p0_x p1_y = some r) :
    Calls Try.prog 88 #[(.int .i64 p0_x), (.int .i64 p1_y)] w0 (fun e w' => e = .returned ((.bool r)) ∧ Below w0.heap.size w0 w') := by
  refine calls_of1 4 (m := 17) (args := [(.int .i64 p0_x), (.int .i64 p1_y)]) Try.func88 rfl rfl rfl rfl rfl ?_
  rw [m_cmp_Less_int.eq_1] at hm
  have hst := St.start col w0
  refine wseq ?_
  refine wregion ?_
  refine lv (v := (.bool false)) rfl rfl (r_assign rfl) ?_
  refine lnil ?_
  refine wseq ?_
  refine Wp.cut (fun f w_11 => ∃ (col_12 : Col) (v_13 : Bool), m_cmp_Less_int_J1 v_13 = some r ∧ St w0 (col0 col) col_12 w_11 ∧ f 4 = (.bool v_13) ∧ f 1000000 = (enc [])) ?_ ?_
  · intro f w_11 hJ
    obtain ⟨col_12, v_13, hm, hst, hs4, hs1000000⟩ := hJ
    rw [m_cmp_Less_int_J1.eq_1] at hm
    refine .ld (d := 4) (v := (.bool v_13)) hs4 ?_
    refine .ld (d := 1000000) (v := (enc [])) hs1000000 ?_
    clear hs4 hs1000000
    refine wret ?_
    cases hm
    exact ⟨rfl, rfl, hst.below⟩
  · refine wregion ?_
    refine lv (v := (.int .i64 p0_x)) rfl rfl (r_move rfl) ?_
    obtain ⟨r_14, hr_15, hm⟩ := bind_some hm
    refine lc rfl rfl (r_call1 Try.call111 rfl) (c_cmp_isNaN_int (col0 col) _ p0_x r_14 hr_15) ?_
    rintro _ w_16 ⟨rfl, hg_17⟩
    refine ⟨_, rfl, ?_⟩
    replace hg_17 : Grow (col0 col) w0 (col0 col) w_16 := .of_below hg_17
    replace hst := hst.grow hg_17
    refine lv (v := (.bool r_14)) rfl rfl (r_move rfl) ?_
    by_cases hg_18 : r_14 = true
    · rw [if_pos hg_18] at hm
      refine lg (b := r_14) 7 rfl rfl rfl (by rw [hg_18]; rfl) ?_
      refine lv (v := (.int .i64 p1_y)) rfl rfl (r_move rfl) ?_
      refine lg (b := r_14) 7 rfl rfl rfl (by rw [hg_18]; rfl) ?_
      obtain ⟨r_19, hr_20, hm⟩ := bind_some hm
      refine lc rfl rfl (r_call1 Try.call111 rfl) (c_cmp_isNaN_int (col0 col) _ p1_y r_19 hr_20) ?_
      rintro _ w_21 ⟨rfl, hg_22⟩
      refine ⟨_, rfl, ?_⟩
      replace hg_22 : Grow (col0 col) w_16 (col0 col) w_21 := .of_below hg_22
      replace hst := hst.grow hg_22
      refine lg (b := r_14) 7 rfl rfl rfl (by rw [hg_18]; rfl) ?_
      refine lv (v := (.bool (!r_19))) rfl rfl (r_not r_19 rfl) ?_
      refine lv (v := (.bool (!r_19))) rfl rfl (r_pickT (congrArg Value.bool hg_18) rfl) ?_
      refine lv (v := (.bool (!r_19))) rfl rfl (r_move rfl) ?_
      by_cases hg_23 : (!r_19) = true
      · rw [if_pos hg_23] at hm
        refine lp (b := !r_19) 12 rfl rfl rfl rfl (by rw [hg_23]; rfl) ?_
        refine lp (b := !r_19) 12 rfl rfl rfl rfl (by rw [hg_23]; rfl) ?_
        refine lp (b := !r_19) 12 rfl rfl rfl rfl (by rw [hg_23]; rfl) ?_
        refine lv (v := (.bool true)) rfl rfl (r_pickT (congrArg Value.bool hg_23) rfl) ?_
        refine lv (v := (.bool true)) rfl rfl (r_assign rfl) ?_
        refine lnil ?_
        exact ⟨(col0 col), true, hm, hst, rfl, rfl⟩
      · rw [if_neg hg_23] at hm
        replace hg_23 := Bool.eq_false_iff.2 hg_23
        refine lg (b := !r_19) 12 rfl rfl rfl (by rw [hg_23]; rfl) ?_
        refine lv (v := (.int .i64 p0_x)) rfl rfl (r_move rfl) ?_
        refine lg (b := !r_19) 12 rfl rfl rfl (by rw [hg_23]; rfl) ?_
        refine lv (v := (.int .i64 p1_y)) rfl rfl (r_move rfl) ?_
        refine lg (b := !r_19) 12 rfl rfl rfl (by rw [hg_23]; rfl) ?_
        refine lv (v := (.bool (decide (p0_x < p1_y)))) rfl rfl (r_lss p0_x p1_y rfl rfl) ?_
        refine lv (v := (.bool (decide (p0_x < p1_y)))) rfl rfl (r_pickF (congrArg Value.bool hg_23) rfl) ?_
        refine lv (v := (.bool (decide (p0_x < p1_y)))) rfl rfl (r_assign rfl) ?_
        refine lnil ?_
        exact ⟨(col0 col), (decide (p0_x < p1_y)), hm, hst, rfl, rfl⟩
    · rw [if_neg hg_18] at hm
      replace hg_18 := Bool.eq_false_iff.2 hg_18
      refine lp (b := r_14) 7 rfl rfl rfl rfl (by rw [hg_18]; rfl) ?_
      refine lp (b := r_14) 7 rfl rfl rfl rfl (by rw [hg_18]; rfl) ?_
      refine lp (b := r_14) 7 rfl rfl rfl rfl (by rw [hg_18]; rfl) ?_
      refine lv (v := (.bool false)) rfl rfl (r_pickF (congrArg Value.bool hg_18) rfl) ?_
      refine lv (v := (.bool false)) rfl rfl (r_move rfl) ?_
      refine lg (b := false) 12 rfl rfl rfl rfl ?_
      refine lv (v := (.int .i64 p0_x)) rfl rfl (r_move rfl) ?_
      refine lg (b := false) 12 rfl rfl rfl rfl ?_
      refine lv (v := (.int .i64 p1_y)) rfl rfl (r_move rfl) ?_
      refine lg (b := false) 12 rfl rfl rfl rfl ?_
      refine lv (v := (.bool (decide (p0_x < p1_y)))) rfl rfl (r_lss p0_x p1_y rfl rfl) ?_
      refine lv (v := (.bool (decide (p0_x < p1_y)))) rfl rfl (r_pickF rfl rfl) ?_
      refine lv (v := (.bool (decide (p0_x < p1_y)))) rfl rfl (r_assign rfl) ?_
      refine lnil ?_
      exact ⟨(col0 col), (decide (p0_x < p1_y)), hm, hst, rfl, rfl⟩




def m_slices_isNaN_int (p0_x : Int) : Option Bool :=
  some (!decide (p0_x = p0_x))

set_option maxRecDepth 100000 in
set_option maxHeartbeats 2000000 in
theorem c_slices_isNaN_int (col : Col) (w0 : World) (p0_x : Int) (r : Bool) (hm : m_slices_isNaN_int p0_x = some r) :
    Calls Try.prog 89 #[(.int .i64 p0_x)] w0 (fun e w' => e = .returned ((.bool r)) ∧ Below w0.heap.size w0 w') := by
  refine calls_of1 2 (m := 6) (args := [(.int .i64 p0_x)]) Try.func89 rfl rfl rfl rfl rfl ?_
  rw [m_slices_isNaN_int.eq_1] at hm
  have hst := St.start col w0
  refine wseq ?_
  refine wregion ?_
  refine lv (v := (.bool false)) rfl rfl (r_assign rfl) ?_
  refine lnil ?_
  refine wseq ?_
  refine wregion ?_
  refine lv (v := (.int .i64 p0_x)) rfl rfl (r_move rfl) ?_
  refine lv (v := (.int .i64 p0_x)) rfl rfl (r_move rfl) ?_
  refine lv (v := (.bool (!decide (p0_x = p0_x)))) rfl rfl (r_neq p0_x p0_x rfl rfl) ?_
  refine lv (v := (.bool (!decide (p0_x = p0_x)))) rfl rfl (r_assign rfl) ?_
  refine lnil ?_
  refine wret ?_
  cases hm
  exact ⟨rfl, rfl, hst.below⟩




def m_slices_BinarySearch_int_int_J1 (v_27 : Int) (v_28 : Bool) : Option (Int × Bool) :=
  some (v_27, v_28)

def m_slices_BinarySearch_int_int_L1 (N : Nat) (p0_x : (List Int)) (p1_target : Int) : Nat → Int → Int → Option (Int × Bool)
  | 0, _, _ => none
  | n_1 + 1, i_4, j_5 => if (decide (i_4 < j_5)) = true then ((at? p0_x (IntKind.i64.wrap (ishr .u64 (IntKind.u64.wrap (IntKind.i64.wrap (i_4 + j_5))) 1))).bind fun e_6 => (m_cmp_Less_int e_6 p1_target).bind fun r_8 => if r_8 = true then ((m_slices_BinarySearch_int_int_L1 N p0_x p1_target n_1) (IntKind.i64.wrap ((IntKind.i64.wrap (ishr .u64 (IntKind.u64.wrap (IntKind.i64.wrap (i_4 + j_5))) 1)) + 1)) j_5) else ((m_slices_BinarySearch_int_int_L1 N p0_x p1_target n_1) i_4 (IntKind.i64.wrap (ishr .u64 (IntKind.u64.wrap (IntKind.i64.wrap (i_4 + j_5))) 1)))) else (if (decide (i_4 < (p0_x.length : Int))) = true then ((at? p0_x i_4).bind fun e_30 => if (decide (e_30 = p1_target)) = true then (m_slices_BinarySearch_int_int_J1 i_4 true) else ((m_slices_isNaN_int e_30).bind fun r_33 => if r_33 = true then ((m_slices_isNaN_int p1_target).bind fun r_38 => m_slices_BinarySearch_int_int_J1 i_4 r_38) else (m_slices_BinarySearch_int_int_J1 i_4 false))) else (m_slices_BinarySearch_int_int_J1 i_4 false))

def m_slices_BinarySearch_int_int (N : Nat) (p0_x : (List Int)) (p1_target : Int) : Option (Int × Bool) :=
  m_slices_BinarySearch_int_int_L1 N p0_x p1_target N 0 (p0_x.length : Int)

set_option maxRecDepth 100000 in
set_option maxHeartbeats 2000000 in
theorem c_slices_BinarySearch_int_int (N : Nat) (col : Col) (w0 : World) (a0 : Option Addr) (cap0 : Nat) (p0_x : (List Int)) (p1_target : Int) (h0 : Sl (Rep.int .i64) col w0 a0 cap0 p0_x) (r : (Int × Bool)) (hm : m_slices_BinarySearch_int_int N p0_x p1_target = some r) :
    Calls Try.prog 57 #[(.slice a0 p0_x.length cap0), (.int .i64 p1_target)] w0 (fun e w' => e = .returned (.tuple #[(.int .i64 r.1), (.bool r.2)]) ∧ Below w0.heap.size w0 w') := by
  refine calls_of2 4 5 (m := 54) (args := [(.slice a0 p0_x.length cap0), (.int .i64 p1_target)]) Try.func57 rfl rfl rfl rfl rfl ?_
  rw [m_slices_BinarySearch_int_int.eq_1] at hm
  have hst := St.start col w0
  replace h0 := h0.keep (Stay.start col w0)
  refine wseq ?_
  refine wregion ?_
  refine lv (v := (.int .i64 0)) rfl rfl (r_assign rfl) ?_
  refine lv (v := (.bool false)) rfl rfl (r_assign rfl) ?_
  refine lnil ?_
  refine wseq ?_
  refine wregion ?_
  refine lv (v := (.slice a0 p0_x.length cap0)) rfl rfl (r_move rfl) ?_
  refine lv (v := (.int .i64 (p0_x.length : Int))) rfl rfl (r_len Try.underlying22 rfl) ?_
  refine lv (v := (.int .i64 (p0_x.length : Int))) rfl rfl (r_assign rfl) ?_
  refine lnil ?_
  refine wseq ?_
  refine wregion ?_
  refine lv (v := (.int .i64 (p0_x.length : Int))) rfl rfl (r_move rfl) ?_
  refine lv (v := (.int .i64 0)) rfl rfl (r_assign rfl) ?_
  refine lv (v := (.int .i64 (p0_x.length : Int))) rfl rfl (r_assign rfl) ?_
  refine lnil ?_
  refine wseq ?_
  refine wblock ?_
  refine wloop (fun n f w_2 => ∃ (col_3 : Col) (i_4 : Int) (j_5 : Int) (n_1 : Nat), n_1 = n ∧ m_slices_BinarySearch_int_int_L1 N p0_x p1_target n_1 i_4 j_5 = some r ∧ St w0 (col0 col) col_3 w_2 ∧ Sl (Rep.int .i64) col_3 w_2 a0 cap0 p0_x ∧ f 0 = (.slice a0 p0_x.length cap0) ∧ f 1 = (.int .i64 p1_target) ∧ f 6 = (.int .i64 (p0_x.length : Int)) ∧ f 7 = (.int .i64 i_4) ∧ f 8 = (.int .i64 j_5) ∧ f 1000000 = (enc [])) N ⟨(col0 col), 0, (p0_x.length : Int), N, rfl, hm, hst, h0, rfl, rfl, rfl, rfl, rfl, rfl⟩ ?_
  clear hm; intro n f w_2 hI
  obtain ⟨col_3, i_4, j_5, n_1, hn, hm, hst, h0, hs0, hs1, hs6, hs7, hs8, hs1000000⟩ := hI
  subst hn
  refine .ld (d := 0) (v := (.slice a0 p0_x.length cap0)) hs0 ?_
  refine .ld (d := 1) (v := (.int .i64 p1_target)) hs1 ?_
  refine .ld (d := 6) (v := (.int .i64 (p0_x.length : Int))) hs6 ?_
  refine .ld (d := 7) (v := (.int .i64 i_4)) hs7 ?_
  refine .ld (d := 8) (v := (.int .i64 j_5)) hs8 ?_
  refine .ld (d := 1000000) (v := (enc [])) hs1000000 ?_
  clear hs0 hs1 hs6 hs7 hs8 hs1000000
  cases n_1 with
  | zero => rw [m_slices_BinarySearch_int_int_L1.eq_1] at hm; cases hm
  | succ n_1 =>
    rw [m_slices_BinarySearch_int_int_L1.eq_2] at hm
    refine wseq ?_
    refine wseq ?_
    refine wregion ?_
    refine lv (v := (.int .i64 i_4)) rfl rfl (r_move rfl) ?_
    refine lv (v := (.int .i64 j_5)) rfl rfl (r_move rfl) ?_
    refine lv (v := (.bool (decide (i_4 < j_5)))) rfl rfl (r_lss i_4 j_5 rfl rfl) ?_
    refine lnil ?_
    refine wcond (decide (i_4 < j_5)) rfl (fun hb => ?_) (fun hb => ?_)
    · rw [if_pos hb] at hm
      clear hb
      refine wskip ?_
      refine wblock ?_
      refine wseq ?_
      refine wregion ?_
      refine lv (v := (.int .i64 i_4)) rfl rfl (r_move rfl) ?_
      refine lv (v := (.int .i64 j_5)) rfl rfl (r_move rfl) ?_
      refine lv (v := (.int .i64 (IntKind.i64.wrap (i_4 + j_5)))) rfl rfl (r_add i_4 j_5 rfl rfl) ?_
      refine lv (v := (.int .u64 (IntKind.u64.wrap (IntKind.i64.wrap (i_4 + j_5))))) rfl rfl (r_conv (IntKind.i64.wrap (i_4 + j_5)) ⟨_, Try.underlying3⟩ Try.underlying122 rfl) ?_
      refine lv (v := (.int .u64 (ishr .u64 (IntKind.u64.wrap (IntKind.i64.wrap (i_4 + j_5))) 1))) rfl rfl (r_shr (IntKind.u64.wrap (IntKind.i64.wrap (i_4 + j_5))) 1 rfl rfl (by decide)) ?_
      refine lv (v := (.int .i64 (IntKind.i64.wrap (ishr .u64 (IntKind.u64.wrap (IntKind.i64.wrap (i_4 + j_5))) 1)))) rfl rfl (r_conv (ishr .u64 (IntKind.u64.wrap (IntKind.i64.wrap (i_4 + j_5))) 1) ⟨_, Try.underlying122⟩ Try.underlying3 rfl) ?_
      refine lv (v := (.int .i64 (IntKind.i64.wrap (ishr .u64 (IntKind.u64.wrap (IntKind.i64.wrap (i_4 + j_5))) 1)))) rfl rfl (r_assign rfl) ?_
      refine lnil ?_
      refine wseq ?_
      refine wregion ?_
      refine lv (v := (.slice a0 p0_x.length cap0)) rfl rfl (r_move rfl) ?_
      refine lv (v := (.int .i64 (IntKind.i64.wrap (ishr .u64 (IntKind.u64.wrap (IntKind.i64.wrap (i_4 + j_5))) 1)))) rfl rfl (r_move rfl) ?_
      obtain ⟨e_6, hj_7, hm⟩ := bind_some hm
      refine lv (v := (sptr a0 (Int.toNat (IntKind.i64.wrap (ishr .u64 (IntKind.u64.wrap (IntKind.i64.wrap (i_4 + j_5))) 1)) * 1))) rfl rfl (r_idx Try.underlying22 Try.sizeOf3 rfl rfl (at?_some hj_7).1 (at?_some hj_7).2.1 (h0.addr hj_7)) ?_
      refine lv (v := (.int .i64 e_6)) rfl rfl (r_ld Try.isAgg3 rfl (h0.atInt hj_7)) ?_
      refine lv (v := (.int .i64 p1_target)) rfl rfl (r_move rfl) ?_
      obtain ⟨r_8, hr_9, hm⟩ := bind_some hm
      refine lc rfl rfl (r_call2 Try.call88 rfl rfl) (c_cmp_Less_int col_3 _ e_6 p1_target r_8 hr_9) ?_
      rintro _ w_10 ⟨rfl, hg_11⟩
      refine ⟨_, rfl, ?_⟩
      replace hg_11 : Grow col_3 w_2 col_3 w_10 := .of_below hg_11
      replace h0 := h0.gr hg_11
      replace hst := hst.grow hg_11
      refine lnil ?_
      refine wcond (r_8) rfl (fun hb => ?_) (fun hb => ?_)
      · rw [if_pos hb] at hm
        clear hb
        refine wregion ?_
        refine lv (v := (.int .i64 (IntKind.i64.wrap (ishr .u64 (IntKind.u64.wrap (IntKind.i64.wrap (i_4 + j_5))) 1)))) rfl rfl (r_move rfl) ?_
        refine lv (v := (.int .i64 (IntKind.i64.wrap ((IntKind.i64.wrap (ishr .u64 (IntKind.u64.wrap (IntKind.i64.wrap (i_4 + j_5))) 1)) + 1)))) rfl rfl (r_add (IntKind.i64.wrap (ishr .u64 (IntKind.u64.wrap (IntKind.i64.wrap (i_4 + j_5))) 1)) 1 rfl rfl) ?_
        refine lv (v := (.int .i64 (IntKind.i64.wrap ((IntKind.i64.wrap (ishr .u64 (IntKind.u64.wrap (IntKind.i64.wrap (i_4 + j_5))) 1)) + 1)))) rfl rfl (r_assign rfl) ?_
        refine lnil ?_
        exact ⟨n_1, by omega, ⟨col_3, (IntKind.i64.wrap ((IntKind.i64.wrap (ishr .u64 (IntKind.u64.wrap (IntKind.i64.wrap (i_4 + j_5))) 1)) + 1)), j_5, n_1, rfl, hm, hst, h0, rfl, rfl, rfl, rfl, rfl, rfl⟩⟩
      · rw [if_neg (by rw [hb]; decide)] at hm
        clear hb
        refine wregion ?_
        refine lv (v := (.int .i64 (IntKind.i64.wrap (ishr .u64 (IntKind.u64.wrap (IntKind.i64.wrap (i_4 + j_5))) 1)))) rfl rfl (r_move rfl) ?_
        refine lv (v := (.int .i64 (IntKind.i64.wrap (ishr .u64 (IntKind.u64.wrap (IntKind.i64.wrap (i_4 + j_5))) 1)))) rfl rfl (r_assign rfl) ?_
        refine lnil ?_
        exact ⟨n_1, by omega, ⟨col_3, i_4, (IntKind.i64.wrap (ishr .u64 (IntKind.u64.wrap (IntKind.i64.wrap (i_4 + j_5))) 1)), n_1, rfl, hm, hst, h0, rfl, rfl, rfl, rfl, rfl, rfl⟩⟩
    · rw [if_neg (by rw [hb]; decide)] at hm
      clear hb
      refine wexit (inB_hit ?_)
      refine wseq ?_
      refine Wp.cut (fun f w_25 => ∃ (col_26 : Col) (v_27 : Int) (v_28 : Bool), m_slices_BinarySearch_int_int_J1 v_27 v_28 = some r ∧ St w0 (col0 col) col_26 w_25 ∧ f 4 = (.int .i64 v_27) ∧ f 5 = (.bool v_28) ∧ f 1000000 = (enc [])) ?_ ?_
      · intro f w_25 hJ
        obtain ⟨col_26, v_27, v_28, hm, hst, hs4, hs5, hs1000000⟩ := hJ
        rw [m_slices_BinarySearch_int_int_J1.eq_1] at hm
        refine .ld (d := 4) (v := (.int .i64 v_27)) hs4 ?_
        refine .ld (d := 5) (v := (.bool v_28)) hs5 ?_
        refine .ld (d := 1000000) (v := (enc [])) hs1000000 ?_
        clear hs4 hs5 hs1000000
        refine wret ?_
        cases hm
        exact ⟨rfl, rfl, hst.below⟩
      · refine wregion ?_
        refine lv (v := (.int .i64 i_4)) rfl rfl (r_move rfl) ?_
        refine lv (v := (.int .i64 i_4)) rfl rfl (r_move rfl) ?_
        refine lv (v := (.int .i64 (p0_x.length : Int))) rfl rfl (r_move rfl) ?_
        refine lv (v := (.bool (decide (i_4 < (p0_x.length : Int))))) rfl rfl (r_lss i_4 (p0_x.length : Int) rfl rfl) ?_
        refine lv (v := (.bool (decide (i_4 < (p0_x.length : Int))))) rfl rfl (r_move rfl) ?_
        by_cases hg_29 : (decide (i_4 < (p0_x.length : Int))) = true
        · rw [if_pos hg_29] at hm
          refine lg (b := decide (i_4 < (p0_x.length : Int))) 35 rfl rfl rfl (by rw [hg_29]; rfl) ?_
          refine lv (v := (.slice a0 p0_x.length cap0)) rfl rfl (r_move rfl) ?_
          refine lg (b := decide (i_4 < (p0_x.length : Int))) 35 rfl rfl rfl (by rw [hg_29]; rfl) ?_
          refine lv (v := (.int .i64 i_4)) rfl rfl (r_move rfl) ?_
          refine lg (b := decide (i_4 < (p0_x.length : Int))) 35 rfl rfl rfl (by rw [hg_29]; rfl) ?_
          obtain ⟨e_30, hj_31, hm⟩ := bind_some hm
          refine lv (v := (sptr a0 (Int.toNat i_4 * 1))) rfl rfl (r_idx Try.underlying22 Try.sizeOf3 rfl rfl (at?_some hj_31).1 (at?_some hj_31).2.1 (h0.addr hj_31)) ?_
          refine lg (b := decide (i_4 < (p0_x.length : Int))) 35 rfl rfl rfl (by rw [hg_29]; rfl) ?_
          refine lv (v := (.int .i64 e_30)) rfl rfl (r_ld Try.isAgg3 rfl (h0.atInt hj_31)) ?_
          refine lg (b := decide (i_4 < (p0_x.length : Int))) 35 rfl rfl rfl (by rw [hg_29]; rfl) ?_
          refine lv (v := (.int .i64 p1_target)) rfl rfl (r_move rfl) ?_
          refine lg (b := decide (i_4 < (p0_x.length : Int))) 35 rfl rfl rfl (by rw [hg_29]; rfl) ?_
          refine lv (v := (.bool (decide (e_30 = p1_target)))) rfl rfl (r_eql e_30 p1_target rfl rfl) ?_
          refine lg (b := decide (i_4 < (p0_x.length : Int))) 35 rfl rfl rfl (by rw [hg_29]; rfl) ?_
          refine lv (v := (.bool (decide (e_30 = p1_target)))) rfl rfl (r_move rfl) ?_
          by_cases hg_32 : (decide (e_30 = p1_target)) = true
          · rw [if_pos hg_32] at hm
            refine lp (b := decide (e_30 = p1_target)) 42 rfl rfl rfl rfl (by rw [hg_32]; rfl) ?_
            refine lp (b := decide (e_30 = p1_target)) 42 rfl rfl rfl rfl (by rw [hg_32]; rfl) ?_
            refine lp (b := decide (e_30 = p1_target)) 42 rfl rfl rfl rfl (by rw [hg_32]; rfl) ?_
            refine lp (b := decide (e_30 = p1_target)) 42 rfl rfl rfl rfl (by rw [hg_32]; rfl) ?_
            refine lp (b := decide (e_30 = p1_target)) 42 rfl rfl rfl rfl (by rw [hg_32]; rfl) ?_
            refine lp (b := decide (e_30 = p1_target)) 42 rfl rfl rfl rfl (by rw [hg_32]; rfl) ?_
            refine lpU 48 rfl rfl rfl rfl ?_
            refine lpU 48 rfl rfl rfl rfl ?_
            refine lp (b := decide (e_30 = p1_target)) 42 rfl rfl rfl rfl (by rw [hg_32]; rfl) ?_
            refine lg (b := decide (i_4 < (p0_x.length : Int))) 35 rfl rfl rfl (by rw [hg_29]; rfl) ?_
            refine lv (v := (.bool true)) rfl rfl (r_pickT (congrArg Value.bool hg_32) rfl) ?_
            refine lv (v := (.bool true)) rfl rfl (r_pickT (congrArg Value.bool hg_29) rfl) ?_
            refine lv (v := (.int .i64 i_4)) rfl rfl (r_assign rfl) ?_
            refine lv (v := (.bool true)) rfl rfl (r_assign rfl) ?_
            refine lnil ?_
            exact ⟨col_3, i_4, true, hm, hst, rfl, rfl, rfl⟩
          · rw [if_neg hg_32] at hm
            replace hg_32 := Bool.eq_false_iff.2 hg_32
            refine lg (b := decide (e_30 = p1_target)) 42 rfl rfl rfl (by rw [hg_32]; rfl) ?_
            refine lv (v := (.slice a0 p0_x.length cap0)) rfl rfl (r_move rfl) ?_
            refine lg (b := decide (e_30 = p1_target)) 42 rfl rfl rfl (by rw [hg_32]; rfl) ?_
            refine lv (v := (.int .i64 i_4)) rfl rfl (r_move rfl) ?_
            refine lg (b := decide (e_30 = p1_target)) 42 rfl rfl rfl (by rw [hg_32]; rfl) ?_
            refine lv (v := (sptr a0 (Int.toNat i_4 * 1))) rfl rfl (r_idx Try.underlying22 Try.sizeOf3 rfl rfl (at?_some hj_31).1 (at?_some hj_31).2.1 (h0.addr hj_31)) ?_
            refine lg (b := decide (e_30 = p1_target)) 42 rfl rfl rfl (by rw [hg_32]; rfl) ?_
            refine lv (v := (.int .i64 e_30)) rfl rfl (r_ld Try.isAgg3 rfl (h0.atInt hj_31)) ?_
            refine lg (b := decide (e_30 = p1_target)) 42 rfl rfl rfl (by rw [hg_32]; rfl) ?_
            obtain ⟨r_33, hr_34, hm⟩ := bind_some hm
            refine lc rfl rfl (r_call1 Try.call89 rfl) (c_slices_isNaN_int col_3 _ e_30 r_33 hr_34) ?_
            rintro _ w_35 ⟨rfl, hg_36⟩
            refine ⟨_, rfl, ?_⟩
            replace hg_36 : Grow col_3 w_2 col_3 w_35 := .of_below hg_36
            replace hst := hst.grow hg_36
            refine lg (b := decide (e_30 = p1_target)) 42 rfl rfl rfl (by rw [hg_32]; rfl) ?_
            refine lv (v := (.bool r_33)) rfl rfl (r_move rfl) ?_
            by_cases hg_37 : r_33 = true
            · rw [if_pos hg_37] at hm
              refine lg (b := r_33) 48 rfl rfl rfl (by rw [hg_37]; rfl) ?_
              refine lv (v := (.int .i64 p1_target)) rfl rfl (r_move rfl) ?_
              refine lg (b := r_33) 48 rfl rfl rfl (by rw [hg_37]; rfl) ?_
              obtain ⟨r_38, hr_39, hm⟩ := bind_some hm
              refine lc rfl rfl (r_call1 Try.call89 rfl) (c_slices_isNaN_int col_3 _ p1_target r_38 hr_39) ?_
              rintro _ w_40 ⟨rfl, hg_41⟩
              refine ⟨_, rfl, ?_⟩
              replace hg_41 : Grow col_3 w_35 col_3 w_40 := .of_below hg_41
              replace hst := hst.grow hg_41
              refine lg (b := decide (e_30 = p1_target)) 42 rfl rfl rfl (by rw [hg_32]; rfl) ?_
              refine lv (v := (.bool r_38)) rfl rfl (r_pickT (congrArg Value.bool hg_37) rfl) ?_
              refine lg (b := decide (i_4 < (p0_x.length : Int))) 35 rfl rfl rfl (by rw [hg_29]; rfl) ?_
              refine lv (v := (.bool r_38)) rfl rfl (r_pickF (congrArg Value.bool hg_32) rfl) ?_
              refine lv (v := (.bool r_38)) rfl rfl (r_pickT (congrArg Value.bool hg_29) rfl) ?_
              refine lv (v := (.int .i64 i_4)) rfl rfl (r_assign rfl) ?_
              refine lv (v := (.bool r_38)) rfl rfl (r_assign rfl) ?_
              refine lnil ?_
              exact ⟨col_3, i_4, r_38, hm, hst, rfl, rfl, rfl⟩
            · rw [if_neg hg_37] at hm
              replace hg_37 := Bool.eq_false_iff.2 hg_37
              refine lp (b := r_33) 48 rfl rfl rfl rfl (by rw [hg_37]; rfl) ?_
              refine lp (b := r_33) 48 rfl rfl rfl rfl (by rw [hg_37]; rfl) ?_
              refine lg (b := decide (e_30 = p1_target)) 42 rfl rfl rfl (by rw [hg_32]; rfl) ?_
              refine lv (v := (.bool false)) rfl rfl (r_pickF (congrArg Value.bool hg_37) rfl) ?_
              refine lg (b := decide (i_4 < (p0_x.length : Int))) 35 rfl rfl rfl (by rw [hg_29]; rfl) ?_
              refine lv (v := (.bool false)) rfl rfl (r_pickF (congrArg Value.bool hg_32) rfl) ?_
              refine lv (v := (.bool false)) rfl rfl (r_pickT (congrArg Value.bool hg_29) rfl) ?_
              refine lv (v := (.int .i64 i_4)) rfl rfl (r_assign rfl) ?_
              refine lv (v := (.bool false)) rfl rfl (r_assign rfl) ?_
              refine lnil ?_
              exact ⟨col_3, i_4, false, hm, hst, rfl, rfl, rfl⟩
        · rw [if_neg hg_29] at hm
          replace hg_29 := Bool.eq_false_iff.2 hg_29
          refine lp (b := decide (i_4 < (p0_x.length : Int))) 35 rfl rfl rfl rfl (by rw [hg_29]; rfl) ?_
          refine lp (b := decide (i_4 < (p0_x.length : Int))) 35 rfl rfl rfl rfl (by rw [hg_29]; rfl) ?_
          refine lp (b := decide (i_4 < (p0_x.length : Int))) 35 rfl rfl rfl rfl (by rw [hg_29]; rfl) ?_
          refine lp (b := decide (i_4 < (p0_x.length : Int))) 35 rfl rfl rfl rfl (by rw [hg_29]; rfl) ?_
          refine lp (b := decide (i_4 < (p0_x.length : Int))) 35 rfl rfl rfl rfl (by rw [hg_29]; rfl) ?_
          refine lp (b := decide (i_4 < (p0_x.length : Int))) 35 rfl rfl rfl rfl (by rw [hg_29]; rfl) ?_
          refine lp (b := decide (i_4 < (p0_x.length : Int))) 35 rfl rfl rfl rfl (by rw [hg_29]; rfl) ?_
          refine lpU 42 rfl rfl rfl rfl ?_
          refine lpU 42 rfl rfl rfl rfl ?_
          refine lpU 42 rfl rfl rfl rfl ?_
          refine lpU 42 rfl rfl rfl rfl ?_
          refine lpU 42 rfl rfl rfl rfl ?_
          refine lpU 42 rfl rfl rfl rfl ?_
          refine lpU 48 rfl rfl rfl rfl ?_
          refine lpU 48 rfl rfl rfl rfl ?_
          refine lpU 42 rfl rfl rfl rfl ?_
          refine lp (b := decide (i_4 < (p0_x.length : Int))) 35 rfl rfl rfl rfl (by rw [hg_29]; rfl) ?_
          refine lv (v := (.bool false)) rfl rfl (r_pickF (congrArg Value.bool hg_29) rfl) ?_
          refine lv (v := (.int .i64 i_4)) rfl rfl (r_assign rfl) ?_
          refine lv (v := (.bool false)) rfl rfl (r_assign rfl) ?_
          refine lnil ?_
          exact ⟨col_3, i_4, false, hm, hst, rfl, rfl, rfl⟩



set_option maxRecDepth 100000 in
theorem el3_17 : ElemOk Try.prog 3 1 8 := ⟨Try.t3, _, rfl, rfl, rfl, rfl, rfl⟩

def m_graph_Graph_Remove_L2 (N : Nat) (p1_a : Int) (r_5 : (List (Int × Int))) (row_13 : List Bool) : List (Int × Int) → (List (List Bool)) → Option ((List Int) × (List (Int × Int)) × List (List Bool))
  | [], g_53 => (m_slices_BinarySearch_int_int N (gkeys row_13) p1_a).bind fun r_57 => (lib_insert (gkeys row_13) r_57.1 [p1_a]).bind fun r_66 => some (r_66, r_5, g_53)
  | x_55 :: l_56, g_53 => (m_graph_Graph_Join g_53 x_55.1 x_55.2).bind fun r_87 => (m_graph_Graph_Remove_L2 N p1_a r_5 row_13 l_56) r_87.2

def m_graph_Graph_Remove_L1 (N : Nat) (p1_a : Int) (r_5 : (List (Int × Int))) (row_13 : List Bool) : List Int → (List (List Bool)) → Option ((List Int) × (List (Int × Int)) × List (List Bool))
  | [], g_34 => (at? g_34 p1_a).bind fun row_38 => (some (g_34.set (Int.toNat p1_a) (List.replicate row_38.length false))).bind fun es_47 => m_graph_Graph_Remove_L2 N p1_a r_5 row_13 r_5 es_47
  | x_36 :: l_37, g_34 => (at? g_34 x_36).bind fun row_93 => (some (g_34.set (Int.toNat x_36) (rset row_93 p1_a false))).bind fun es_102 => (m_graph_Graph_Remove_L1 N p1_a r_5 row_13 l_37) es_102

def m_graph_Graph_Remove (N : Nat) (p0_g : List (List Bool)) (p1_a : Int) : Option ((List Int) × (List (Int × Int)) × List (List Bool)) :=
  (m_graph_Graph_in p0_g p1_a).bind fun r_1 => if (!r_1) = true then (some (([] : List Int), ([] : List (Int × Int)), p0_g)) else ((m_graph_Graph_wanting p0_g p1_a).bind fun r_5 => (at? p0_g p1_a).bind fun row_13 => chk (row_13.length ≤ 1048576) (m_graph_Graph_Remove_L1 N p1_a r_5 row_13 (gkeys row_13) p0_g))

set_option maxRecDepth 100000 in
set_option maxHeartbeats 2000000 in
theorem c_graph_Graph_Remove (N : Nat) (c1 : Nat) (c2 : Nat) (col : Col) (w0 : World) (qc0 : Nat) (hd : dstB [qc0] = true) (o0 : GObj) (p0_g : List (List Bool)) (p1_a : Int) (h0 : GO 85 86 qc0 col w0 o0 p0_g) (r : ((List Int) × (List (Int × Int)) × List (List Bool))) (hm : m_graph_Graph_Remove N p0_g p1_a = some r) :
    Calls Try.prog 17 #[(.pointer (some ⟨o0.g, 0, none⟩)), (.int .i64 p1_a)] w0 (fun e w' => ∃ (col' : Col) (ra1 : Option Addr) (rc2 : Nat) (ra4 : Option Addr) (rc5 : Nat), e = .returned (.tuple #[(.slice ra1 r.1.length rc2), (.slice ra4 r.2.1.length rc5)]) ∧ KeepP (pS [qc0]) col w0 col' w' ∧ Own (Rep.int .i64) 3 c1 col' w' ra1 rc2 r.1 ∧ Own (Rep.pair (Rep.int .i64) (Rep.int .i64)) 47 c2 col' w' ra4 rc5 r.2.1 ∧ GO 85 86 qc0 col' w' o0 r.2.2) := by
  refine calls_of2 4 5 (m := 77) (args := [(.pointer (some ⟨o0.g, 0, none⟩)), (.int .i64 p1_a)]) Try.func17 rfl rfl rfl rfl rfl ?_
  rw [m_graph_Graph_Remove.eq_1] at hm
  have hst := St.startL (l := [qc0]) rfl col w0
  replace h0 := h0.startL (dst_nz hd 0 rfl) (dst_ix hd 0 rfl)
  refine wseq ?_
  refine wregion ?_
  refine lv (v := (.slice none (([] : List Int).length) 0)) rfl rfl (r_assign rfl) ?_
  refine lv (v := (.slice none (([] : List (Int × Int)).length) 0)) rfl rfl (r_assign rfl) ?_
  refine lnil ?_
  refine wseq ?_
  refine wseq ?_
  refine wregion ?_
  refine lv (v := (.pointer (some ⟨o0.g, 0, none⟩))) rfl rfl (r_move rfl) ?_
  refine lv (v := (.int .i64 p1_a)) rfl rfl (r_move rfl) ?_
  obtain ⟨r_1, hr_2, hm⟩ := bind_some hm
  refine lc rfl rfl (r_call2 Try.call54 rfl rfl) (c_graph_Graph_in (colL [qc0] col) _ 440 (by decide) o0 p0_g p1_a h0 r_1 hr_2) ?_
  rintro _ w_3 ⟨rfl, hg_4⟩
  refine ⟨_, rfl, ?_⟩
  replace hg_4 : Grow (colL [qc0] col) w0 (colL [qc0] col) w_3 := .of_below hg_4
  replace h0 := h0.gr hg_4
  replace hst := hst.grow hg_4
  refine lv (v := (.bool (!r_1))) rfl rfl (r_not r_1 rfl) ?_
  refine lnil ?_
  refine wcond (!r_1) rfl (fun hb => ?_) (fun hb => ?_)
  · rw [if_pos hb] at hm
    clear hb
    refine wseq ?_
    refine wregion ?_
    refine lv (v := (.slice none (([] : List Int).length) 0)) rfl rfl (r_assign rfl) ?_
    refine lv (v := (.slice none (([] : List (Int × Int)).length) 0)) rfl rfl (r_assign rfl) ?_
    refine lnil ?_
    refine wret ?_
    cases hm
    exact ⟨rfl, colFL w0.heap.size [qc0] col (colL [qc0] col) (fun n => bif Nat.beq n 440 then qc0 else 0), none, 0, none, 0, rfl, hst.finL rfl (fun n => bif Nat.beq n 440 then qc0 else 0), Own.nil, Own.nil, hst.finGOL (G := (fun n => bif Nat.beq n 440 then qc0 else 0)) rfl h0 (by decide) (by decide) rfl⟩
  · rw [if_neg (by rw [hb]; decide)] at hm
    clear hb
    refine wskip ?_
    refine wseq ?_
    refine wregion ?_
    refine lv (v := (.pointer (some ⟨o0.g, 0, none⟩))) rfl rfl (r_move rfl) ?_
    refine lv (v := (.int .i64 p1_a)) rfl rfl (r_move rfl) ?_
    obtain ⟨r_5, hr_6, hm⟩ := bind_some hm
    refine lc rfl rfl (r_call2 Try.call53 rfl rfl) (c_graph_Graph_wanting 1 (colL [qc0] col) _ 440 (by decide) o0 p0_g p1_a h0 r_5 hr_6) ?_
    rintro _ w_10 ⟨col_12, ra_7, rc_8, rfl, hg_11, rh_9⟩
    refine ⟨_, rfl, ?_⟩
    replace h0 := h0.gr hg_11
    replace hst := hst.grow hg_11
    refine lv (v := (.slice ra_7 r_5.length rc_8)) rfl rfl (r_assign rfl) ?_
    refine lnil ?_
    refine wseq ?_
    refine wregion ?_
    refine lv (v := (.pointer (some ⟨o0.g, 0, none⟩))) rfl rfl (r_move rfl) ?_
    refine lv (v := (.pointer (some ⟨o0.g, 0, none⟩))) rfl rfl (r_nilCheck rfl) ?_
    refine lv (v := (.pointer ((some (⟨o0.g, 0, none⟩ : Addr)).map (·.add 0)))) rfl rfl (r_fieldAddr (sz := 1) (off := 0) Try.underlying85 rfl Try.sizeOf83 (by decide) rfl rfl ⟨_, _, rfl⟩) ?_
    refine lv (v := (.slice o0.a p0_g.length o0.cap)) rfl rfl (r_ld Try.isAgg83 rfl ((h0.box.atN).nth (q := 0) (v := (.slice o0.a p0_g.length o0.cap)) rfl)) ?_
    refine lv (v := (.int .i64 p1_a)) rfl rfl (r_move rfl) ?_
    obtain ⟨row_13, hj_14, hm⟩ := bind_some hm
    obtain ⟨b_15, hb_16, _, hb_17⟩ := h0.blk hj_14
    refine lv (v := (sptr o0.a (Int.toNat p1_a * 1))) rfl rfl (r_idx Try.underlying83 Try.sizeOf86 rfl rfl (at?_some hj_14).1 (at?_some hj_14).2.1 (h0.addr hb_16)) ?_
    refine lv (v := (.map (some b_15))) rfl rfl (r_ld Try.isAgg86 rfl (h0.at1 hb_16)) ?_
    refine lc rfl rfl (r_call1 Try.call56 rfl) (c_keys 2 b_15 col_12 _) ?_
    rintro _ w_18 ⟨col_19, g_20, rfl, hg_21, hb_22⟩
    refine ⟨_, rfl, ?_⟩
    replace h0 := h0.gr hg_21
    replace rh_9 := rh_9.gr hg_21
    replace hst := hst.grow hg_21
    obtain ⟨hc_29, hm⟩ := chk_some hm
    refine lc rfl rfl (r_call1 Try.call55 rfl) (c_sortedKeys 3 2 440 b_15 g_20 col_19 _ row_13 hb_22 (h0.maps _ _ _ hb_17 (at?_some hj_14).2.2) hc_29) ?_
    rintro _ w_23 ⟨col_24, a_25, cap_26, rfl, hg_27, h_28⟩
    refine ⟨_, rfl, ?_⟩
    replace h0 := h0.gr hg_27
    replace rh_9 := rh_9.gr hg_27
    replace hst := hst.grow hg_27
    refine lv (v := (.slice a_25 ((gkeys row_13).length) cap_26)) rfl rfl (r_assign rfl) ?_
    refine lnil ?_
    refine wseq ?_
    refine wseq ?_
    refine wregion ?_
    refine lv (v := (.slice a_25 ((gkeys row_13).length) cap_26)) rfl rfl (r_move rfl) ?_
    refine lv (v := (.int .i64 ((gkeys row_13).length : Int))) rfl rfl (r_len Try.underlying22 rfl) ?_
    refine lv (v := (.int .i64 0)) rfl rfl (r_move rfl) ?_
    refine lnil ?_
    refine wblock ?_
    refine wloop (fun n f w_32 => ∃ (col_33 : Col) (g_34 : List (List Bool)) (k_30 : Nat) (l_31 : List Int), n = l_31.length ∧ (gkeys row_13).drop k_30 = l_31 ∧ m_graph_Graph_Remove_L1 N p1_a r_5 row_13 l_31 g_34 = some r ∧ St w0 (colL [qc0] col) col_33 w_32 ∧ GO 85 86 440 col_33 w_32 o0 g_34 ∧ Own (Rep.int .i64) 3 3 col_33 w_32 a_25 cap_26 (gkeys row_13) ∧ Own (Rep.pair (Rep.int .i64) (Rep.int .i64)) 47 1 col_33 w_32 ra_7 rc_8 r_5 ∧ f 32 = (.int .i64 (k_30 : Int)) ∧ f 0 = (.pointer (some ⟨o0.g, 0, none⟩)) ∧ f 1 = (.int .i64 p1_a) ∧ f 30 = (.slice a_25 ((gkeys row_13).length) cap_26) ∧ f 31 = (.int .i64 ((gkeys row_13).length : Int)) ∧ f 6 = (.slice ra_7 r_5.length rc_8) ∧ f 7 = (.slice a_25 ((gkeys row_13).length) cap_26) ∧ f 1000000 = (enc [])) (gkeys row_13).length ⟨col_24, p0_g, 0, (gkeys row_13), rfl, rfl, hm, hst, h0, h_28, rh_9, rfl, rfl, rfl, rfl, rfl, rfl, rfl, rfl⟩ ?_
    clear hm; intro n f w_32 hI
    obtain ⟨col_33, g_34, k_30, l_31, hn, hl, hm, hst, h_35, h_28, rh_9, hs32, hs0, hs1, hs30, hs31, hs6, hs7, hs1000000⟩ := hI
    subst hn
    refine .ld (d := 32) (v := (.int .i64 (k_30 : Int))) hs32 ?_
    refine .ld (d := 0) (v := (.pointer (some ⟨o0.g, 0, none⟩))) hs0 ?_
    refine .ld (d := 1) (v := (.int .i64 p1_a)) hs1 ?_
    refine .ld (d := 30) (v := (.slice a_25 ((gkeys row_13).length) cap_26)) hs30 ?_
    refine .ld (d := 31) (v := (.int .i64 ((gkeys row_13).length : Int))) hs31 ?_
    refine .ld (d := 6) (v := (.slice ra_7 r_5.length rc_8)) hs6 ?_
    refine .ld (d := 7) (v := (.slice a_25 ((gkeys row_13).length) cap_26)) hs7 ?_
    refine .ld (d := 1000000) (v := (enc [])) hs1000000 ?_
    clear hs32 hs0 hs1 hs30 hs31 hs6 hs7 hs1000000
    cases l_31 with
    | nil =>
      have hk : ¬ ((k_30 : Int) < ((gkeys row_13).length : Int)) := by have := List.drop_eq_nil_iff.1 hl; omega
      have hkb := decide_eq_false hk
      rw [m_graph_Graph_Remove_L1.eq_1] at hm
      refine wseq ?_
      refine wregion ?_
      refine lv (v := (.bool (decide ((k_30 : Int) < ((gkeys row_13).length : Int))))) rfl rfl (r_lss (k_30 : Int) ((gkeys row_13).length : Int) rfl rfl) ?_
      refine lnil ?_
      refine wseq ?_
      refine wcondF (congrArg Value.bool hkb) ?_
      refine wexit (inB_hit ?_)
      refine wseq ?_
      refine wregion ?_
      refine lv (v := (.pointer (some ⟨o0.g, 0, none⟩))) rfl rfl (r_move rfl) ?_
      refine lv (v := (.pointer (some ⟨o0.g, 0, none⟩))) rfl rfl (r_nilCheck rfl) ?_
      refine lv (v := (.pointer ((some (⟨o0.g, 0, none⟩ : Addr)).map (·.add 0)))) rfl rfl (r_fieldAddr (sz := 1) (off := 0) Try.underlying85 rfl Try.sizeOf83 (by decide) rfl rfl ⟨_, _, rfl⟩) ?_
      refine lv (v := (.slice o0.a g_34.length o0.cap)) rfl rfl (r_ld Try.isAgg83 rfl ((h_35.box.atN).nth (q := 0) (v := (.slice o0.a g_34.length o0.cap)) rfl)) ?_
      refine lv (v := (.int .i64 p1_a)) rfl rfl (r_move rfl) ?_
      obtain ⟨row_38, hj_39, hm⟩ := bind_some hm
      obtain ⟨b_40, hb_41, _, hb_42⟩ := h_35.blk hj_39
      refine lv (v := (sptr o0.a (Int.toNat p1_a * 1))) rfl rfl (r_idx Try.underlying83 Try.sizeOf86 rfl rfl (at?_some hj_39).1 (at?_some hj_39).2.1 (h_35.addr hb_41)) ?_
      refine lv (v := (.map (some b_40))) rfl rfl (r_ld Try.isAgg86 rfl (h_35.at1 hb_41)) ?_
      obtain ⟨es_47, hz_48, hm⟩ := bind_some hm
      have hz_48 : es_47 = g_34.set (Int.toNat p1_a) (List.replicate row_38.length false) := (Option.some.inj hz_48).symm
      refine l_gclear h_35 (by decide) hb_42 (at?_some hj_39).2.2 Try.underlying86 rfl ?_
      intro w_43 hk_44 hs_45 h_46
      rw [← hz_48] at h_46
      clear hz_48
      replace rh_9 := rh_9.kp hk_44 (by decide) (by decide)
      replace h_28 := h_28.kp hk_44 (by decide) (by decide)
      replace hst := hst.kp hk_44 hs_45 (by decide) (by decide)
      clear h_35
      refine lnil ?_
      refine wseq ?_
      refine wseq ?_
      refine wregion ?_
      refine lv (v := (.slice ra_7 r_5.length rc_8)) rfl rfl (r_move rfl) ?_
      refine lv (v := (.int .i64 (r_5.length : Int))) rfl rfl (r_len Try.underlying29 rfl) ?_
      refine lv (v := (.int .i64 0)) rfl rfl (r_move rfl) ?_
      refine lnil ?_
      refine wblock ?_
      refine wloop (fun n f w_51 => ∃ (col_52 : Col) (g_53 : List (List Bool)) (k_49 : Nat) (l_50 : List (Int × Int)), n = l_50.length ∧ r_5.drop k_49 = l_50 ∧ m_graph_Graph_Remove_L2 N p1_a r_5 row_13 l_50 g_53 = some r ∧ St w0 (colL [qc0] col) col_52 w_51 ∧ GO 85 86 440 col_52 w_51 o0 g_53 ∧ Own (Rep.pair (Rep.int .i64) (Rep.int .i64)) 47 1 col_52 w_51 ra_7 rc_8 r_5 ∧ Own (Rep.int .i64) 3 3 col_52 w_51 a_25 cap_26 (gkeys row_13) ∧ f 54 = (.int .i64 (k_49 : Int)) ∧ f 0 = (.pointer (some ⟨o0.g, 0, none⟩)) ∧ f 1 = (.int .i64 p1_a) ∧ f 52 = (.slice ra_7 r_5.length rc_8) ∧ f 53 = (.int .i64 (r_5.length : Int)) ∧ f 6 = (.slice ra_7 r_5.length rc_8) ∧ f 7 = (.slice a_25 ((gkeys row_13).length) cap_26) ∧ f 1000000 = (enc [])) r_5.length ⟨col_33, es_47, 0, r_5, rfl, rfl, hm, hst, h_46, rh_9, h_28, rfl, rfl, rfl, rfl, rfl, rfl, rfl, rfl⟩ ?_
      clear hm; intro n f w_51 hI
      obtain ⟨col_52, g_53, k_49, l_50, hn, hl, hm, hst, h_54, rh_9, h_28, hs54, hs0, hs1, hs52, hs53, hs6, hs7, hs1000000⟩ := hI
      subst hn
      refine .ld (d := 54) (v := (.int .i64 (k_49 : Int))) hs54 ?_
      refine .ld (d := 0) (v := (.pointer (some ⟨o0.g, 0, none⟩))) hs0 ?_
      refine .ld (d := 1) (v := (.int .i64 p1_a)) hs1 ?_
      refine .ld (d := 52) (v := (.slice ra_7 r_5.length rc_8)) hs52 ?_
      refine .ld (d := 53) (v := (.int .i64 (r_5.length : Int))) hs53 ?_
      refine .ld (d := 6) (v := (.slice ra_7 r_5.length rc_8)) hs6 ?_
      refine .ld (d := 7) (v := (.slice a_25 ((gkeys row_13).length) cap_26)) hs7 ?_
      refine .ld (d := 1000000) (v := (enc [])) hs1000000 ?_
      clear hs54 hs0 hs1 hs52 hs53 hs6 hs7 hs1000000
      cases l_50 with
      | nil =>
        have hk : ¬ ((k_49 : Int) < (r_5.length : Int)) := by have := List.drop_eq_nil_iff.1 hl; omega
        have hkb := decide_eq_false hk
        rw [m_graph_Graph_Remove_L2.eq_1] at hm
        refine wseq ?_
        refine wregion ?_
        refine lv (v := (.bool (decide ((k_49 : Int) < (r_5.length : Int))))) rfl rfl (r_lss (k_49 : Int) (r_5.length : Int) rfl rfl) ?_
        refine lnil ?_
        refine wseq ?_
        refine wcondF (congrArg Value.bool hkb) ?_
        refine wexit (inB_hit ?_)
        refine wseq ?_
        refine wregion ?_
        refine lv (v := (.slice a_25 ((gkeys row_13).length) cap_26)) rfl rfl (r_move rfl) ?_
        refine lv (v := (.int .i64 p1_a)) rfl rfl (r_move rfl) ?_
        obtain ⟨r_57, hr_58, hm⟩ := bind_some hm
        refine lc rfl rfl (r_call2 Try.call57 rfl rfl) (c_slices_BinarySearch_int_int N (frC 3 col_52) _ a_25 cap_26 (gkeys row_13) p1_a (h_28.toSlF (Froz.int .i64)) r_57 hr_58) ?_
        rintro _ w_59 ⟨rfl, hg_60⟩
        refine ⟨_, rfl, ?_⟩
        replace hg_60 : Grow col_52 w_51 col_52 w_59 := .of_below hg_60
        replace rh_9 := rh_9.gr hg_60
        replace h_28 := h_28.gr hg_60
        replace h_54 := h_54.gr hg_60
        replace hst := hst.grow hg_60
        refine lv (v := (.tuple #[(.int .i64 r_57.1), (.bool r_57.2)])) rfl rfl (r_move rfl) ?_
        refine lv (v := (.int .i64 r_57.1)) rfl rfl (r_extract rfl rfl) ?_
        refine lv (v := (.bool r_57.2)) rfl rfl (r_extract rfl rfl) ?_
        refine lv (v := (.int .i64 r_57.1)) rfl rfl (r_assign rfl) ?_
        refine lv (v := (.bool r_57.2)) rfl rfl (r_assign rfl) ?_
        refine lnil ?_
        refine wseq ?_
        refine wregion ?_
        refine lv (v := (.slice a_25 ((gkeys row_13).length) cap_26)) rfl rfl (r_move rfl) ?_
        refine lv (v := (.int .i64 r_57.1)) rfl rfl (r_move rfl) ?_
        refine lv (v := (.int .i64 p1_a)) rfl rfl (r_move rfl) ?_
        refine l_lit (col := col_52) (r := (Rep.int .i64)) (xs := [p1_a]) [(.int .i64 p1_a)] 4 rfl Try.underlying22 el3_17 rfl rfl rfl rfl rfl rfl (by intro v hv; simp only [List.mem_cons, List.not_mem_nil, or_false] at hv; subst hv; rfl) (RowsH.ofF (Rows.consF (r := (Rep.int .i64)) (x := p1_a) (cs := [(.int .i64 p1_a)]) (rd_int .i64 p1_a) Rows.nil0)) ?_
        intro a_61 w_62 col_63 hg_64 h_65
        replace rh_9 := rh_9.gr hg_64
        replace h_54 := h_54.gr hg_64
        replace h_28 := h_28.gr hg_64
        replace hst := hst.grow hg_64
        obtain ⟨r_66, hr_67, hm⟩ := bind_some hm
        refine lc rfl rfl (r_call3 Try.call58 rfl rfl rfl) (c_insert 3 4 (by decide) (by decide) col_63 _ a_25 cap_26 (gkeys row_13) r_57.1 a_61 1 [p1_a] h_28 h_65 r_66 hr_67) ?_
        rintro _ w_68 ⟨col_69, a_70, cap_71, rfl, hk_72, h_73⟩
        refine ⟨_, rfl, ?_⟩
        replace rh_9 := rh_9.kpp hk_72 rfl rfl
        replace h_54 := h_54.kpp hk_72 rfl rfl
        replace h_65 := h_65.kpp hk_72 rfl rfl
        replace hst := hst.kpp hk_72 rfl rfl
        clear h_28
        refine lv (v := (.slice ra_7 r_5.length rc_8)) rfl rfl (r_move rfl) ?_
        refine lv (v := (.slice a_70 r_66.length cap_71)) rfl rfl (r_assign rfl) ?_
        refine lv (v := (.slice ra_7 r_5.length rc_8)) rfl rfl (r_assign rfl) ?_
        refine lnil ?_
        refine wret ?_
        cases hm
        exact ⟨rfl, colFL w0.heap.size [qc0] col col_69 (fun n => bif Nat.beq n 3 then c1 else bif Nat.beq n 1 then c2 else bif Nat.beq n 440 then qc0 else 0), a_70, cap_71, ra_7, rc_8, rfl, hst.finL rfl (fun n => bif Nat.beq n 3 then c1 else bif Nat.beq n 1 then c2 else bif Nat.beq n 440 then qc0 else 0), hst.finOwnL (g := (fun n => bif Nat.beq n 3 then c1 else bif Nat.beq n 1 then c2 else bif Nat.beq n 440 then qc0 else 0)) rfl h_73 (by decide) (by decide) rfl, hst.finOwnL (g := (fun n => bif Nat.beq n 3 then c1 else bif Nat.beq n 1 then c2 else bif Nat.beq n 440 then qc0 else 0)) rfl rh_9 (by decide) (by decide) rfl, hst.finGOL (G := (fun n => bif Nat.beq n 3 then c1 else bif Nat.beq n 1 then c2 else bif Nat.beq n 440 then qc0 else 0)) rfl h_54 (by decide) (by decide) rfl⟩
      | cons x_55 l_56 =>
        obtain ⟨hat, hl2, hlt⟩ := drop_get hl
        have hk : (k_49 : Int) < (r_5.length : Int) := by omega
        have hkb := decide_eq_true hk
        rw [m_graph_Graph_Remove_L2.eq_2] at hm
        refine wseq ?_
        refine wregion ?_
        refine lv (v := (.bool (decide ((k_49 : Int) < (r_5.length : Int))))) rfl rfl (r_lss (k_49 : Int) (r_5.length : Int) rfl rfl) ?_
        refine lnil ?_
        refine wseq ?_
        refine wcondT (congrArg Value.bool hkb) ?_
        refine wskip ?_
        refine wseq ?_
        refine wblock ?_
        refine wseq ?_
        refine wregion ?_
        refine lv (v := (sptr ra_7 (Int.toNat (k_49 : Int) * 2))) rfl rfl (r_idx Try.underlying29 Try.sizeOf47 rfl rfl (at?_some hat).1 (at?_some hat).2.1 (rh_9.addr hat)) ?_
        obtain ⟨_, hr_74, hA_75⟩ := rh_9.atN hat
        obtain ⟨_, _, rfl, hp_76, hp_77⟩ := hr_74.parts
        obtain rfl := hp_76.int
        obtain rfl := hp_77.int
        refine lv (v := (.agg #[(.int .i64 x_55.1), (.int .i64 x_55.2)])) rfl rfl (r_ldN Try.isAgg47 Try.sizeOf47 rfl rfl hA_75) ?_
        refine l_alloc (col := col_52) (v := (.agg #[(.int .i64 0), (.int .i64 0)])) 5 rfl Try.zeroValue47 ?_
        intro g_78 w_79 col_80 hg_81 hb_82
        replace h_54 := h_54.gr hg_81
        replace rh_9 := rh_9.gr hg_81
        replace h_28 := h_28.gr hg_81
        replace hst := hst.grow hg_81
        replace hb_82 : Box 47 5 col_80 w_79 g_78 #[(.int .i64 0), (.int .i64 0)] := hb_82
        refine l_bstore (v := (.agg #[(.int .i64 x_55.1), (.int .i64 x_55.2)])) hb_82 Try.sizeOf47 rfl rfl (by intro u hu; simp only [Value.cells, List.mem_cons, List.not_mem_nil, or_false] at hu; rcases hu with rfl | rfl <;> rfl) rfl rfl ?_
        intro w_83 hk_84 hs_85 hb_86
        replace h_54 := h_54.kp hk_84 (by decide) (by decide)
        replace rh_9 := rh_9.kp hk_84 (by decide) (by decide)
        replace h_28 := h_28.kp hk_84 (by decide) (by decide)
        replace hst := hst.kp hk_84 hs_85 (by decide) (by decide)
        clear hb_82
        replace hb_86 : Box 47 5 col_80 w_83 g_78 #[(.int .i64 x_55.1), (.int .i64 x_55.2)] := hb_86
        refine lnil ?_
        refine wregion ?_
        refine lv (v := (.pointer (some ⟨o0.g, 0, none⟩))) rfl rfl (r_move rfl) ?_
        refine lv (v := (.pointer ((some (⟨g_78, 0, none⟩ : Addr)).map (·.add 0)))) rfl rfl (r_fieldAddr (sz := 1) (off := 0) Try.underlying47 rfl Try.sizeOf3 (by decide) rfl rfl ⟨_, _, rfl⟩) ?_
        refine lv (v := (.int .i64 x_55.1)) rfl rfl (r_ld Try.isAgg3 rfl ((hb_86.atN).nth (q := 0) (v := (.int .i64 x_55.1)) rfl)) ?_
        refine lv (v := (.pointer ((some (⟨g_78, 0, none⟩ : Addr)).map (·.add 1)))) rfl rfl (r_fieldAddr (sz := 1) (off := 1) Try.underlying47 rfl Try.sizeOf3 (by decide) rfl rfl ⟨_, _, rfl⟩) ?_
        refine lv (v := (.int .i64 x_55.2)) rfl rfl (r_ld Try.isAgg3 rfl ((hb_86.atN).nth (q := 1) (v := (.int .i64 x_55.2)) rfl)) ?_
        obtain ⟨r_87, hr_88, hm⟩ := bind_some hm
        refine lc rfl rfl (r_call3 Try.call23 rfl rfl rfl) (c_graph_Graph_Join col_80 _ 440 rfl o0 g_53 x_55.1 x_55.2 h_54 r_87 hr_88) ?_
        rintro _ w_90 ⟨col_92, rfl, hg_91, oh_89⟩
        refine ⟨_, rfl, ?_⟩
        replace rh_9 := rh_9.kpp hg_91 rfl rfl
        replace h_28 := h_28.kpp hg_91 rfl rfl
        replace hst := hst.kpp hg_91 rfl rfl
        clear h_54
        refine lnil ?_
        refine wregion ?_
        refine lv (v := (.int .i64 (IntKind.i64.wrap ((k_49 : Int) + 1)))) rfl rfl (r_add (k_49 : Int) 1 rfl rfl) ?_
        refine lv (v := (.int .i64 (IntKind.i64.wrap ((k_49 : Int) + 1)))) rfl rfl (r_move rfl) ?_
        refine lnil ?_
        exact ⟨l_56.length, by simp, ⟨col_92, r_87.2, (k_49 + 1), l_56, rfl, hl2, hm, hst, oh_89, rh_9, h_28, (congrArg (Value.int .i64) (wrap_succ (Nat.lt_of_lt_of_le hlt rh_9.len))), rfl, rfl, rfl, rfl, rfl, rfl, rfl⟩⟩
    | cons x_36 l_37 =>
      obtain ⟨hat, hl2, hlt⟩ := drop_get hl
      have hk : (k_30 : Int) < ((gkeys row_13).length : Int) := by omega
      have hkb := decide_eq_true hk
      rw [m_graph_Graph_Remove_L1.eq_2] at hm
      refine wseq ?_
      refine wregion ?_
      refine lv (v := (.bool (decide ((k_30 : Int) < ((gkeys row_13).length : Int))))) rfl rfl (r_lss (k_30 : Int) ((gkeys row_13).length : Int) rfl rfl) ?_
      refine lnil ?_
      refine wseq ?_
      refine wcondT (congrArg Value.bool hkb) ?_
      refine wskip ?_
      refine wseq ?_
      refine wblock ?_
      refine wseq ?_
      refine wregion ?_
      refine lv (v := (sptr a_25 (Int.toNat (k_30 : Int) * 1))) rfl rfl (r_idx Try.underlying22 Try.sizeOf3 rfl rfl (at?_some hat).1 (at?_some hat).2.1 (h_28.addr hat)) ?_
      refine lv (v := (.int .i64 x_36)) rfl rfl (r_ld Try.isAgg3 rfl (h_28.atInt hat)) ?_
      refine lv (v := (.int .i64 x_36)) rfl rfl (r_assign rfl) ?_
      refine lnil ?_
      refine wregion ?_
      refine lv (v := (.pointer (some ⟨o0.g, 0, none⟩))) rfl rfl (r_move rfl) ?_
      refine lv (v := (.pointer (some ⟨o0.g, 0, none⟩))) rfl rfl (r_nilCheck rfl) ?_
      refine lv (v := (.pointer ((some (⟨o0.g, 0, none⟩ : Addr)).map (·.add 0)))) rfl rfl (r_fieldAddr (sz := 1) (off := 0) Try.underlying85 rfl Try.sizeOf83 (by decide) rfl rfl ⟨_, _, rfl⟩) ?_
      refine lv (v := (.slice o0.a g_34.length o0.cap)) rfl rfl (r_ld Try.isAgg83 rfl ((h_35.box.atN).nth (q := 0) (v := (.slice o0.a g_34.length o0.cap)) rfl)) ?_
      refine lv (v := (.int .i64 x_36)) rfl rfl (r_move rfl) ?_
      obtain ⟨row_93, hj_94, hm⟩ := bind_some hm
      obtain ⟨b_95, hb_96, _, hb_97⟩ := h_35.blk hj_94
      refine lv (v := (sptr o0.a (Int.toNat x_36 * 1))) rfl rfl (r_idx Try.underlying83 Try.sizeOf86 rfl rfl (at?_some hj_94).1 (at?_some hj_94).2.1 (h_35.addr hb_96)) ?_
      refine lv (v := (.map (some b_95))) rfl rfl (r_ld Try.isAgg86 rfl (h_35.at1 hb_96)) ?_
      refine lv (v := (.int .i64 p1_a)) rfl rfl (r_move rfl) ?_
      obtain ⟨es_102, hz_103, hm⟩ := bind_some hm
      have hz_103 : es_102 = g_34.set (Int.toNat x_36) (rset row_93 p1_a false) := (Option.some.inj hz_103).symm
      refine l_gdel (k := p1_a) h_35 (by decide) hb_97 (at?_some hj_94).2.2 Try.underlying86 Try.underlying3 rfl rfl ?_
      intro w_98 hk_99 hs_100 h_101
      rw [← hz_103] at h_101
      clear hz_103
      replace h_28 := h_28.kp hk_99 (by decide) (by decide)
      replace rh_9 := rh_9.kp hk_99 (by decide) (by decide)
      replace hst := hst.kp hk_99 hs_100 (by decide) (by decide)
      clear h_35
      refine lnil ?_
      refine wregion ?_
      refine lv (v := (.int .i64 (IntKind.i64.wrap ((k_30 : Int) + 1)))) rfl rfl (r_add (k_30 : Int) 1 rfl rfl) ?_
      refine lv (v := (.int .i64 (IntKind.i64.wrap ((k_30 : Int) + 1)))) rfl rfl (r_move rfl) ?_
      refine lnil ?_
      exact ⟨l_37.length, by simp, ⟨col_33, es_102, (k_30 + 1), l_37, rfl, hl2, hm, hst, h_101, h_28, rh_9, (congrArg (Value.int .i64) (wrap_succ (Nat.lt_of_lt_of_le hlt h_28.len))), rfl, rfl, rfl, rfl, rfl, rfl, rfl⟩⟩



set_option maxRecDepth 100000 in
theorem el3_71V2F16 : ElemOk Try.prog 3 1 8 := ⟨Try.t3, _, rfl, rfl, rfl, rfl, rfl⟩

def m_order_by_v2f16_L1 (N : Nat)  : Nat → (List Int) → (List Int) → Option ((List Int) × Int)
  | 0, _, _ => none
  | n_31 + 1, left_34, list_38 => if (decide (0 < (left_34.length : Int))) = true then ((at? left_34 0).bind fun e_42 => none) else (some (list_38, 0))

def m_order_by_v2f16_J1 (k_82 : Nat) (kk_L3 : (Nat → Int → Int → (List (List Bool)) → Option ((List Int) × Int))) (best_128 : Int) (least_129 : Int) (h_130 : List (List Bool)) : Option ((List Int) × Int) :=
  kk_L3 (k_82 + 1) best_128 least_129 h_130

def m_order_by_v2f16_L3 (N : Nat) (left_62 : List Int) (list_66 : List Int) (kk_L2 : ((List Int) → (List Int) → (List (List Bool)) → Option ((List Int) × Int))) : List Int → Nat → Int → Int → (List (List Bool)) → Option ((List Int) × Int)
  | [], k_82, best_86, least_87, h_88 => (at? left_62 best_86).bind fun e_92 => chk ((list_66.length + [e_92].length) * 8 ≤ 140737488355328 ∧ list_66.length + [e_92].length ≤ maxLen) ((m_graph_Graph_Remove N h_88 e_92).bind fun r_106 => (lib_delete left_62 best_86 (IntKind.i64.wrap (best_86 + 1))).bind fun r_118 => kk_L2 r_118 (list_66 ++ [e_92]) r_106.2.2)
  | x_90 :: l_91, k_82, best_86, least_87, h_88 => (m_graph_Graph_Fill h_88 x_90).bind fun r_132 => if (decide (r_132 < least_87)) = true then (m_order_by_v2f16_J1 k_82 (m_order_by_v2f16_L3 N left_62 list_66 kk_L2 l_91) (IntKind.i64.wrap ((k_82 : Int) + 1)) r_132 h_88) else (m_order_by_v2f16_J1 k_82 (m_order_by_v2f16_L3 N left_62 list_66 kk_L2 l_91) best_86 least_87 h_88)

def m_order_by_v2f16_L2 (N : Nat)  : Nat → (List Int) → (List Int) → (List (List Bool)) → Option ((List Int) × Int)
  | 0, _, _, _ => none
  | n_59 + 1, left_62, list_66, h_70 => if (decide (0 < (left_62.length : Int))) = true then ((at? left_62 0).bind fun e_72 => (m_graph_Graph_Fill h_70 e_72).bind fun r_74 => chk ((0 : Int) ≤ 1 ∧ 1 ≤ (left_62.length : Int)) (m_order_by_v2f16_L3 N left_62 list_66 (m_order_by_v2f16_L2 N n_59) (left_62.drop (Int.toNat 1)) 0 0 r_74 h_70)) else (some (list_66, 0))

def m_order_by_v2f16 (N : Nat) (p0_g : List (List Bool)) (p1_points : (List Int)) : Option ((List Int) × Int) :=
  (m_order_wrong p0_g p1_points).bind fun r_1 => if (!decide (r_1 = 0)) = true then (some (([] : List Int), r_1)) else ((m_order_copied N p0_g).bind fun r_5 => optC (r_5) ((m_slices_Values_int_int p1_points).bind fun r_16 => (m_slices_Sorted_int r_16).bind fun r_23 => m_order_by_v2f16_L1 N N r_23 ([] : List Int)) (fun t_12 => (m_slices_Values_int_int p1_points).bind fun r_44 => (m_slices_Sorted_int r_44).bind fun r_51 => m_order_by_v2f16_L2 N N r_51 ([] : List Int) t_12))

set_option maxRecDepth 100000 in
set_option maxHeartbeats 2000000 in
theorem c_order_by_v2f16 (N : Nat) (c1 : Nat) (col : Col) (w0 : World) (qc0 : Nat) (hqqc0 : qc0 ≠ 0) (o0 : GObj) (p0_g : List (List Bool)) (a1 : Option Addr) (cap1 : Nat) (p1_points : (List Int)) (h0 : GO 85 86 qc0 col w0 o0 p0_g) (h1 : Sl (Rep.int .i64) col w0 a1 cap1 p1_points) (r : ((List Int) × Int)) (hm : m_order_by_v2f16 N p0_g p1_points = some r) :
    Calls Try.prog 71 #[(.pointer (some ⟨o0.g, 0, none⟩)), (.slice a1 p1_points.length cap1), (.func (.func 16) #[] #[])] w0 (fun e w' => ∃ (col' : Col) (ra1 : Option Addr) (rc2 : Nat), e = .returned (.tuple #[(.slice ra1 r.1.length rc2), (.int .i64 r.2)]) ∧ Grow col w0 col' w' ∧ Own (Rep.int .i64) 3 c1 col' w' ra1 rc2 r.1) := by
  refine calls_of2 6 7 (m := 75) (args := [(.pointer (some ⟨o0.g, 0, none⟩)), (.slice a1 p1_points.length cap1), (.func (.func 16) #[] #[])]) Try.func71 rfl rfl rfl rfl rfl ?_
  rw [m_order_by_v2f16.eq_1] at hm
  have hst := St.start col w0
  replace h0 := h0.start0 hqqc0
  replace h1 := h1.keep (Stay.start col w0)
  refine wseq ?_
  refine wregion ?_
  refine lv (v := (.slice none (([] : List Int).length) 0)) rfl rfl (r_assign rfl) ?_
  refine lv (v := (.int .i64 0)) rfl rfl (r_assign rfl) ?_
  refine lnil ?_
  refine wseq ?_
  refine wseq ?_
  refine wregion ?_
  refine lv (v := (.pointer (some ⟨o0.g, 0, none⟩))) rfl rfl (r_move rfl) ?_
  refine lv (v := (.slice a1 p1_points.length cap1)) rfl rfl (r_move rfl) ?_
  obtain ⟨r_1, hr_2, hm⟩ := bind_some hm
  refine lc rfl rfl (r_call2 Try.call75 rfl rfl) (c_order_wrong (col0 col) _ 999 (by decide) o0 p0_g a1 cap1 p1_points h0 h1 r_1 hr_2) ?_
  rintro _ w_3 ⟨rfl, hg_4⟩
  refine ⟨_, rfl, ?_⟩
  replace hg_4 : Grow (col0 col) w0 (col0 col) w_3 := .of_below hg_4
  replace h0 := h0.gr hg_4
  replace h1 := h1.gr hg_4
  replace hst := hst.grow hg_4
  refine lv (v := (.int .i64 r_1)) rfl rfl (r_assign rfl) ?_
  refine lnil ?_
  refine wseq ?_
  refine wregion ?_
  refine lv (v := (.int .i64 r_1)) rfl rfl (r_move rfl) ?_
  refine lv (v := (.bool (!decide (r_1 = 0)))) rfl rfl (r_neq r_1 0 rfl rfl) ?_
  refine lnil ?_
  refine wcond (!decide (r_1 = 0)) rfl (fun hb => ?_) (fun hb => ?_)
  · rw [if_pos hb] at hm
    clear hb
    refine wseq ?_
    refine wregion ?_
    refine lv (v := (.int .i64 r_1)) rfl rfl (r_move rfl) ?_
    refine lv (v := (.slice none (([] : List Int).length) 0)) rfl rfl (r_assign rfl) ?_
    refine lv (v := (.int .i64 r_1)) rfl rfl (r_assign rfl) ?_
    refine lnil ?_
    refine wret ?_
    cases hm
    exact ⟨rfl, colF w0.heap.size col (col0 col) (fun n => 0), none, 0, rfl, hst.fin (fun n => 0), Own.nil⟩
  · rw [if_neg (by rw [hb]; decide)] at hm
    clear hb
    refine wskip ?_
    refine wseq ?_
    refine wregion ?_
    refine lv (v := (.pointer (some ⟨o0.g, 0, none⟩))) rfl rfl (r_move rfl) ?_
    obtain ⟨r_5, hr_6, hm⟩ := bind_some hm
    refine lc rfl rfl (r_call1 Try.call76 rfl) (c_order_copied N 1 (col0 col) _ 999 (by decide) o0 p0_g h0 r_5 hr_6) ?_
    rintro _ w_9 ⟨col_11, rv_7, rfl, hg_10, rh_8⟩
    refine ⟨_, rfl, ?_⟩
    replace h1 := h1.gr hg_10
    replace h0 := h0.gr hg_10
    replace hst := hst.grow hg_10
    cases hx_13 : r_5 with
    | none =>
      rw [hx_13] at hm rh_8
      replace hm := optC_none hm
      obtain rfl := optP_none rh_8
      clear rh_8
      refine lv (v := (.pointer none)) rfl rfl (r_assign rfl) ?_
      refine lnil ?_
      refine wseq ?_
      refine wregion ?_
      refine lv (v := (.slice a1 p1_points.length cap1)) rfl rfl (r_move rfl) ?_
      obtain ⟨r_16, hr_17, hm⟩ := bind_some hm
      refine lc rfl rfl (r_call1 Try.call80 rfl) (c_slices_Values_int_int col_11 _ a1 cap1 p1_points h1 r_16 hr_17) ?_
      rintro _ w_20 ⟨col_22, rv_18, rfl, hg_21, rh_19⟩
      refine ⟨_, rfl, ?_⟩
      replace h1 := h1.gr hg_21
      replace hst := hst.grow hg_21
      obtain ⟨r_23, hr_24, hm⟩ := bind_some hm
      refine lc rfl rfl (r_call1 Try.call55 rfl) (c_slices_Sorted_int 2 col_22 _ rv_18 r_16 rh_19 r_23 hr_24) ?_
      rintro _ w_28 ⟨col_30, ra_25, rc_26, rfl, hg_29, rh_27⟩
      refine ⟨_, rfl, ?_⟩
      replace rh_19 := rh_19.gr hg_29
      replace hst := hst.grow hg_29
      refine lv (v := (.slice ra_25 r_23.length rc_26)) rfl rfl (r_assign rfl) ?_
      refine lnil ?_
      refine wseq ?_
      refine wregion ?_
      refine lv (v := (.slice none (([] : List Int).length) 0)) rfl rfl (r_assign rfl) ?_
      refine lnil ?_
      refine wseq ?_
      refine wblock ?_
      refine wloop (fun n f w_32 => ∃ (col_33 : Col) (a_35 : Option Addr) (cap_36 : Nat) (left_34 : List Int) (a_39 : Option Addr) (cap_40 : Nat) (list_38 : List Int) (n_31 : Nat), n_31 = n ∧ m_order_by_v2f16_L1 N n_31 left_34 list_38 = some r ∧ St w0 (col0 col) col_33 w_32 ∧ Own (Rep.int .i64) 3 2 col_33 w_32 a_35 cap_36 left_34 ∧ Own (Rep.int .i64) 3 3 col_33 w_32 a_39 cap_40 list_38 ∧ f 10 = (.slice a_35 left_34.length cap_36) ∧ f 11 = (.slice a_39 list_38.length cap_40) ∧ f 2 = (.func (.func 16) #[] #[]) ∧ f 9 = (.pointer none) ∧ f 1000000 = (enc [])) N ⟨col_30, ra_25, rc_26, r_23, none, 0, ([] : List Int), N, rfl, hm, hst, rh_27, Own.nil, rfl, rfl, rfl, rfl, rfl⟩ ?_
      clear hm; intro n f w_32 hI
      obtain ⟨col_33, a_35, cap_36, left_34, a_39, cap_40, list_38, n_31, hn, hm, hst, h_37, h_41, hs10, hs11, hs2, hs9, hs1000000⟩ := hI
      subst hn
      refine .ld (d := 10) (v := (.slice a_35 left_34.length cap_36)) hs10 ?_
      refine .ld (d := 11) (v := (.slice a_39 list_38.length cap_40)) hs11 ?_
      refine .ld (d := 2) (v := (.func (.func 16) #[] #[])) hs2 ?_
      refine .ld (d := 9) (v := (.pointer none)) hs9 ?_
      refine .ld (d := 1000000) (v := (enc [])) hs1000000 ?_
      clear hs10 hs11 hs2 hs9 hs1000000
      cases n_31 with
      | zero => rw [m_order_by_v2f16_L1.eq_1] at hm; cases hm
      | succ n_31 =>
        rw [m_order_by_v2f16_L1.eq_2] at hm
        refine wseq ?_
        refine wseq ?_
        refine wregion ?_
        refine lv (v := (.slice a_35 left_34.length cap_36)) rfl rfl (r_move rfl) ?_
        refine lv (v := (.int .i64 (left_34.length : Int))) rfl rfl (r_len Try.underlying22 rfl) ?_
        refine lv (v := (.bool (decide (0 < (left_34.length : Int))))) rfl rfl (r_gtr (left_34.length : Int) 0 rfl rfl) ?_
        refine lnil ?_
        refine wcond (decide (0 < (left_34.length : Int))) rfl (fun hb => ?_) (fun hb => ?_)
        · rw [if_pos hb] at hm
          clear hb
          refine wskip ?_
          refine wblock ?_
          refine wseq ?_
          refine wregion ?_
          refine lv (v := (.func (.func 16) #[] #[])) rfl rfl (r_move rfl) ?_
          refine lv (v := (.pointer none)) rfl rfl (r_move rfl) ?_
          refine lv (v := (.slice a_35 left_34.length cap_36)) rfl rfl (r_move rfl) ?_
          obtain ⟨e_42, hj_43, hm⟩ := bind_some hm
          refine lv (v := (sptr a_35 (Int.toNat 0 * 1))) rfl rfl (r_idx Try.underlying22 Try.sizeOf3 rfl rfl (at?_some hj_43).1 (at?_some hj_43).2.1 (h_37.addr hj_43)) ?_
          refine lv (v := (.int .i64 e_42)) rfl rfl (r_ld Try.isAgg3 rfl (h_37.atInt hj_43)) ?_
          cases hm
        · rw [if_neg (by rw [hb]; decide)] at hm
          clear hb
          refine wexit (inB_hit ?_)
          refine wseq ?_
          refine wregion ?_
          refine lv (v := (.slice a_39 list_38.length cap_40)) rfl rfl (r_move rfl) ?_
          refine lv (v := (.slice a_39 list_38.length cap_40)) rfl rfl (r_assign rfl) ?_
          refine lv (v := (.int .i64 0)) rfl rfl (r_assign rfl) ?_
          refine lnil ?_
          refine wret ?_
          cases hm
          exact ⟨rfl, colF w0.heap.size col col_33 (fun n => bif Nat.beq n 3 then c1 else 0), a_39, cap_40, rfl, hst.fin (fun n => bif Nat.beq n 3 then c1 else 0), hst.finOwn (g := (fun n => bif Nat.beq n 3 then c1 else 0)) rfl h_41 (by decide) (by decide) rfl⟩
    | some t_12 =>
      rw [hx_13] at hm rh_8
      replace hm := optC_some hm
      obtain ⟨o_14, rfl, hG_15⟩ := optP_some rh_8
      refine lv (v := (.pointer (some ⟨o_14.g, 0, none⟩))) rfl rfl (r_assign rfl) ?_
      refine lnil ?_
      refine wseq ?_
      refine wregion ?_
      refine lv (v := (.slice a1 p1_points.length cap1)) rfl rfl (r_move rfl) ?_
      obtain ⟨r_44, hr_45, hm⟩ := bind_some hm
      refine lc rfl rfl (r_call1 Try.call80 rfl) (c_slices_Values_int_int col_11 _ a1 cap1 p1_points h1 r_44 hr_45) ?_
      rintro _ w_48 ⟨col_50, rv_46, rfl, hg_49, rh_47⟩
      refine ⟨_, rfl, ?_⟩
      replace hG_15 := hG_15.gr hg_49
      replace h1 := h1.gr hg_49
      replace hst := hst.grow hg_49
      obtain ⟨r_51, hr_52, hm⟩ := bind_some hm
      refine lc rfl rfl (r_call1 Try.call55 rfl) (c_slices_Sorted_int 4 col_50 _ rv_46 r_44 rh_47 r_51 hr_52) ?_
      rintro _ w_56 ⟨col_58, ra_53, rc_54, rfl, hg_57, rh_55⟩
      refine ⟨_, rfl, ?_⟩
      replace hG_15 := hG_15.gr hg_57
      replace rh_47 := rh_47.gr hg_57
      replace hst := hst.grow hg_57
      refine lv (v := (.slice ra_53 r_51.length rc_54)) rfl rfl (r_assign rfl) ?_
      refine lnil ?_
      refine wseq ?_
      refine wregion ?_
      refine lv (v := (.slice none (([] : List Int).length) 0)) rfl rfl (r_assign rfl) ?_
      refine lnil ?_
      refine wseq ?_
      refine wblock ?_
      refine wloop (fun n f w_60 => ∃ (col_61 : Col) (a_63 : Option Addr) (cap_64 : Nat) (left_62 : List Int) (a_67 : Option Addr) (cap_68 : Nat) (list_66 : List Int) (h_70 : List (List Bool)) (n_59 : Nat), n_59 = n ∧ m_order_by_v2f16_L2 N n_59 left_62 list_66 h_70 = some r ∧ St w0 (col0 col) col_61 w_60 ∧ Own (Rep.int .i64) 3 4 col_61 w_60 a_63 cap_64 left_62 ∧ Own (Rep.int .i64) 3 5 col_61 w_60 a_67 cap_68 list_66 ∧ GO 85 86 1 col_61 w_60 o_14 h_70 ∧ f 10 = (.slice a_63 left_62.length cap_64) ∧ f 11 = (.slice a_67 list_66.length cap_68) ∧ f 2 = (.func (.func 16) #[] #[]) ∧ f 9 = (.pointer (some ⟨o_14.g, 0, none⟩)) ∧ f 1000000 = (enc [])) N ⟨col_58, ra_53, rc_54, r_51, none, 0, ([] : List Int), t_12, N, rfl, hm, hst, rh_55, Own.nil, hG_15, rfl, rfl, rfl, rfl, rfl⟩ ?_
      clear hm; intro n f w_60 hI
      obtain ⟨col_61, a_63, cap_64, left_62, a_67, cap_68, list_66, h_70, n_59, hn, hm, hst, h_65, h_69, h_71, hs10, hs11, hs2, hs9, hs1000000⟩ := hI
      subst hn
      refine .ld (d := 10) (v := (.slice a_63 left_62.length cap_64)) hs10 ?_
      refine .ld (d := 11) (v := (.slice a_67 list_66.length cap_68)) hs11 ?_
      refine .ld (d := 2) (v := (.func (.func 16) #[] #[])) hs2 ?_
      refine .ld (d := 9) (v := (.pointer (some ⟨o_14.g, 0, none⟩))) hs9 ?_
      refine .ld (d := 1000000) (v := (enc [])) hs1000000 ?_
      clear hs10 hs11 hs2 hs9 hs1000000
      cases n_59 with
      | zero => rw [m_order_by_v2f16_L2.eq_1] at hm; cases hm
      | succ n_59 =>
        rw [m_order_by_v2f16_L2.eq_2] at hm
        refine wseq ?_
        refine wseq ?_
        refine wregion ?_
        refine lv (v := (.slice a_63 left_62.length cap_64)) rfl rfl (r_move rfl) ?_
        refine lv (v := (.int .i64 (left_62.length : Int))) rfl rfl (r_len Try.underlying22 rfl) ?_
        refine lv (v := (.bool (decide (0 < (left_62.length : Int))))) rfl rfl (r_gtr (left_62.length : Int) 0 rfl rfl) ?_
        refine lnil ?_
        refine wcond (decide (0 < (left_62.length : Int))) rfl (fun hb => ?_) (fun hb => ?_)
        · rw [if_pos hb] at hm
          clear hb
          refine wskip ?_
          refine wblock ?_
          refine wseq ?_
          refine wregion ?_
          refine lv (v := (.func (.func 16) #[] #[])) rfl rfl (r_move rfl) ?_
          refine lv (v := (.pointer (some ⟨o_14.g, 0, none⟩))) rfl rfl (r_move rfl) ?_
          refine lv (v := (.slice a_63 left_62.length cap_64)) rfl rfl (r_move rfl) ?_
          obtain ⟨e_72, hj_73, hm⟩ := bind_some hm
          refine lv (v := (sptr a_63 (Int.toNat 0 * 1))) rfl rfl (r_idx Try.underlying22 Try.sizeOf3 rfl rfl (at?_some hj_73).1 (at?_some hj_73).2.1 (h_65.addr hj_73)) ?_
          refine lv (v := (.int .i64 e_72)) rfl rfl (r_ld Try.isAgg3 rfl (h_65.atInt hj_73)) ?_
          obtain ⟨r_74, hr_75, hm⟩ := bind_some hm
          refine lc rfl rfl (r_callv2 Try.call16 rfl rfl rfl) (c_graph_Graph_Fill col_61 _ 1 (by decide) o_14 h_70 e_72 h_71 r_74 hr_75) ?_
          rintro _ w_76 ⟨rfl, hg_77⟩
          refine ⟨_, rfl, ?_⟩
          replace hg_77 : Grow col_61 w_60 col_61 w_76 := .of_below hg_77
          replace h_65 := h_65.gr hg_77
          replace h_69 := h_69.gr hg_77
          replace h_71 := h_71.gr hg_77
          replace hst := hst.grow hg_77
          refine lv (v := (.int .i64 0)) rfl rfl (r_assign rfl) ?_
          refine lv (v := (.int .i64 r_74)) rfl rfl (r_assign rfl) ?_
          refine lnil ?_
          refine wseq ?_
          refine wseq ?_
          refine wregion ?_
          refine lv (v := (.slice a_63 left_62.length cap_64)) rfl rfl (r_move rfl) ?_
          obtain ⟨hb_78, hm⟩ := chk_some hm
          have h_81 := (h_65.que (NB.int (k := .i64))).drop (sz := 1) rfl (Int.toNat 1)
          refine lv (v := .slice (if cap_64 = (Int.toNat 1) then a_63 else a_63.map (·.add ((Int.toNat 1) * 1))) (left_62.length - (Int.toNat 1)) (cap_64 - (Int.toNat 1))) rfl rfl (r_sliceL Try.underlying22 Try.sizeOf3 rfl rfl hb_78.1 hb_78.2) ?_
          generalize (if cap_64 = (Int.toNat 1) then a_63 else a_63.map (·.add ((Int.toNat 1) * 1))) = a_79 at *
          refine .ld (d := 38) (v := (.slice a_79 ((left_62.drop (Int.toNat 1)).length) (cap_64 - (Int.toNat 1)))) (congrArg (fun n => Value.slice a_79 n (cap_64 - (Int.toNat 1))) (List.length_drop (i := (Int.toNat 1)) (l := left_62)).symm) ?_
          refine lv (v := (.int .i64 ((left_62.drop (Int.toNat 1)).length : Int))) rfl rfl (r_len Try.underlying22 rfl) ?_
          refine lv (v := (.int .i64 0)) rfl rfl (r_move rfl) ?_
          refine lnil ?_
          refine wblock ?_
          refine wloop (fun n f w_84 => ∃ (col_85 : Col) (best_86 : Int) (least_87 : Int) (k_82 : Nat) (h_88 : List (List Bool)) (l_83 : List Int), n = l_83.length ∧ (left_62.drop (Int.toNat 1)).drop k_82 = l_83 ∧ m_order_by_v2f16_L3 N left_62 list_66 (m_order_by_v2f16_L2 N n_59) l_83 k_82 best_86 least_87 h_88 = some r ∧ St w0 (col0 col) col_85 w_84 ∧ Own (Rep.int .i64) 3 4 col_85 w_84 a_63 cap_64 left_62 ∧ Own (Rep.int .i64) 3 5 col_85 w_84 a_67 cap_68 list_66 ∧ Que (Rep.int .i64) 3 4 col_85 w_84 a_79 (cap_64 - (Int.toNat 1)) (left_62.drop (Int.toNat 1)) ∧ GO 85 86 1 col_85 w_84 o_14 h_88 ∧ f 40 = (.int .i64 (k_82 : Int)) ∧ f 10 = (.slice a_63 left_62.length cap_64) ∧ f 11 = (.slice a_67 list_66.length cap_68) ∧ f 12 = (.int .i64 best_86) ∧ f 13 = (.int .i64 least_87) ∧ f 2 = (.func (.func 16) #[] #[]) ∧ f 38 = (.slice a_79 ((left_62.drop (Int.toNat 1)).length) (cap_64 - (Int.toNat 1))) ∧ f 39 = (.int .i64 ((left_62.drop (Int.toNat 1)).length : Int)) ∧ f 9 = (.pointer (some ⟨o_14.g, 0, none⟩)) ∧ f 1000000 = (enc [])) (left_62.drop (Int.toNat 1)).length ⟨col_61, 0, r_74, 0, h_70, (left_62.drop (Int.toNat 1)), rfl, rfl, hm, hst, h_65, h_69, h_81, h_71, rfl, rfl, rfl, rfl, rfl, rfl, rfl, rfl, rfl, rfl⟩ ?_
          clear hm; intro n f w_84 hI
          obtain ⟨col_85, best_86, least_87, k_82, h_88, l_83, hn, hl, hm, hst, h_65, h_69, h_81, h_89, hs40, hs10, hs11, hs12, hs13, hs2, hs38, hs39, hs9, hs1000000⟩ := hI
          subst hn
          refine .ld (d := 40) (v := (.int .i64 (k_82 : Int))) hs40 ?_
          refine .ld (d := 10) (v := (.slice a_63 left_62.length cap_64)) hs10 ?_
          refine .ld (d := 11) (v := (.slice a_67 list_66.length cap_68)) hs11 ?_
          refine .ld (d := 12) (v := (.int .i64 best_86)) hs12 ?_
          refine .ld (d := 13) (v := (.int .i64 least_87)) hs13 ?_
          refine .ld (d := 2) (v := (.func (.func 16) #[] #[])) hs2 ?_
          refine .ld (d := 38) (v := (.slice a_79 ((left_62.drop (Int.toNat 1)).length) (cap_64 - (Int.toNat 1)))) hs38 ?_
          refine .ld (d := 39) (v := (.int .i64 ((left_62.drop (Int.toNat 1)).length : Int))) hs39 ?_
          refine .ld (d := 9) (v := (.pointer (some ⟨o_14.g, 0, none⟩))) hs9 ?_
          refine .ld (d := 1000000) (v := (enc [])) hs1000000 ?_
          clear hs40 hs10 hs11 hs12 hs13 hs2 hs38 hs39 hs9 hs1000000
          cases l_83 with
          | nil =>
            have hk : ¬ ((k_82 : Int) < ((left_62.drop (Int.toNat 1)).length : Int)) := by have := List.drop_eq_nil_iff.1 hl; omega
            have hkb := decide_eq_false hk
            rw [m_order_by_v2f16_L3.eq_1] at hm
            refine wseq ?_
            refine wregion ?_
            refine lv (v := (.bool (decide ((k_82 : Int) < ((left_62.drop (Int.toNat 1)).length : Int))))) rfl rfl (r_lss (k_82 : Int) ((left_62.drop (Int.toNat 1)).length : Int) rfl rfl) ?_
            refine lnil ?_
            refine wseq ?_
            refine wcondF (congrArg Value.bool hkb) ?_
            refine wexit (inB_hit ?_)
            refine wseq ?_
            refine wregion ?_
            refine lv (v := (.slice a_67 list_66.length cap_68)) rfl rfl (r_move rfl) ?_
            refine lv (v := (.slice a_63 left_62.length cap_64)) rfl rfl (r_move rfl) ?_
            refine lv (v := (.int .i64 best_86)) rfl rfl (r_move rfl) ?_
            obtain ⟨e_92, hj_93, hm⟩ := bind_some hm
            refine lv (v := (sptr a_63 (Int.toNat best_86 * 1))) rfl rfl (r_idx Try.underlying22 Try.sizeOf3 rfl rfl (at?_some hj_93).1 (at?_some hj_93).2.1 (h_65.addr hj_93)) ?_
            refine lv (v := (.int .i64 e_92)) rfl rfl (r_ld Try.isAgg3 rfl (h_65.atInt hj_93)) ?_
            refine l_lit (col := col_85) (r := (Rep.int .i64)) (xs := [e_92]) [(.int .i64 e_92)] 6 rfl Try.underlying22 el3_71V2F16 rfl rfl rfl rfl rfl rfl (by intro v hv; simp only [List.mem_cons, List.not_mem_nil, or_false] at hv; subst hv; rfl) (RowsH.ofF (Rows.consF (r := (Rep.int .i64)) (x := e_92) (cs := [(.int .i64 e_92)]) (rd_int .i64 e_92) Rows.nil0)) ?_
            intro a_94 w_95 col_96 hg_97 h_98
            replace h_65 := h_65.gr hg_97
            replace h_89 := h_89.gr hg_97
            replace h_69 := h_69.gr hg_97
            replace hst := hst.grow hg_97
            obtain ⟨hb_99, hm⟩ := chk_some hm
            refine l_appendM (col := col_96) (w := w_95) (r := (Rep.int .i64)) (c := 5) (c2 := 5) (xs := list_66) (ys := [e_92]) h_69 (h_98.srcN (NB.int (k := .i64))) rfl Try.underlying22 el3_71V2F16 rfl rfl rfl hb_99.1 hb_99.2 (by decide) ?_
            intro a_100 cap_101 w_102 col_103 hk_104 h_105
            replace h_65 := h_65.kpp hk_104 rfl rfl
            replace h_89 := h_89.kpp hk_104 rfl rfl
            replace h_98 := h_98.kpp hk_104 rfl rfl
            replace hst := hst.kpp hk_104 rfl rfl
            clear h_69
            refine lv (v := (.slice a_100 ((list_66 ++ [e_92]).length) cap_101)) rfl rfl (r_assign rfl) ?_
            refine lnil ?_
            refine wseq ?_
            refine wregion ?_
            refine lv (v := (.pointer (some ⟨o_14.g, 0, none⟩))) rfl rfl (r_move rfl) ?_
            refine lv (v := (.slice a_63 left_62.length cap_64)) rfl rfl (r_move rfl) ?_
            refine lv (v := (.int .i64 best_86)) rfl rfl (r_move rfl) ?_
            refine lv (v := (sptr a_63 (Int.toNat best_86 * 1))) rfl rfl (r_idx Try.underlying22 Try.sizeOf3 rfl rfl (at?_some hj_93).1 (at?_some hj_93).2.1 (h_65.addr hj_93)) ?_
            refine lv (v := (.int .i64 e_92)) rfl rfl (r_ld Try.isAgg3 rfl (h_65.atInt hj_93)) ?_
            obtain ⟨r_106, hr_107, hm⟩ := bind_some hm
            refine lc rfl rfl (r_call2 Try.call17 rfl rfl) (c_graph_Graph_Remove N 7 8 col_103 _ 1 rfl o_14 h_88 e_92 h_89 r_106 hr_107) ?_
            rintro _ w_115 ⟨col_117, ra_108, rc_109, ra_111, rc_112, rfl, hg_116, rh_110, rh_113, oh_114⟩
            refine ⟨_, rfl, ?_⟩
            replace h_65 := h_65.kpp hg_116 rfl rfl
            replace h_105 := h_105.kpp hg_116 rfl rfl
            replace hst := hst.kpp hg_116 rfl rfl
            clear h_89
            refine lnil ?_
            refine wregion ?_
            refine lv (v := (.slice a_63 left_62.length cap_64)) rfl rfl (r_move rfl) ?_
            refine lv (v := (.int .i64 best_86)) rfl rfl (r_move rfl) ?_
            refine lv (v := (.int .i64 best_86)) rfl rfl (r_move rfl) ?_
            refine lv (v := (.int .i64 (IntKind.i64.wrap (best_86 + 1)))) rfl rfl (r_add best_86 1 rfl rfl) ?_
            obtain ⟨r_118, hr_119, hm⟩ := bind_some hm
            refine lc rfl rfl (r_call3 Try.call104 rfl rfl rfl) (c_delete 4 (by decide) col_117 _ a_63 cap_64 left_62 best_86 (IntKind.i64.wrap (best_86 + 1)) h_65 r_118 hr_119) ?_
            rintro _ w_120 ⟨col_121, a_122, cap_123, rfl, hk_124, h_125⟩
            refine ⟨_, rfl, ?_⟩
            replace oh_114 := oh_114.kpp hk_124 rfl rfl
            replace h_105 := h_105.kpp hk_124 rfl rfl
            replace hst := hst.kpp hk_124 rfl rfl
            clear h_65
            refine lv (v := (.slice a_122 r_118.length cap_123)) rfl rfl (r_assign rfl) ?_
            refine lnil ?_
            exact ⟨n_59, by omega, ⟨col_121, a_122, cap_123, r_118, a_100, cap_101, (list_66 ++ [e_92]), r_106.2.2, n_59, rfl, hm, hst, h_125, h_105, oh_114, rfl, rfl, rfl, rfl, rfl⟩⟩
          | cons x_90 l_91 =>
            obtain ⟨hat, hl2, hlt⟩ := drop_get hl
            have hk : (k_82 : Int) < ((left_62.drop (Int.toNat 1)).length : Int) := by omega
            have hkb := decide_eq_true hk
            rw [m_order_by_v2f16_L3.eq_2] at hm
            refine wseq ?_
            refine wregion ?_
            refine lv (v := (.bool (decide ((k_82 : Int) < ((left_62.drop (Int.toNat 1)).length : Int))))) rfl rfl (r_lss (k_82 : Int) ((left_62.drop (Int.toNat 1)).length : Int) rfl rfl) ?_
            refine lnil ?_
            refine wseq ?_
            refine wcondT (congrArg Value.bool hkb) ?_
            refine wskip ?_
            refine wseq ?_
            refine Wp.cut (fun f w_126 => ∃ (col_127 : Col) (best_128 : Int) (least_129 : Int) (h_130 : List (List Bool)), m_order_by_v2f16_J1 k_82 (m_order_by_v2f16_L3 N left_62 list_66 (m_order_by_v2f16_L2 N n_59) l_91) best_128 least_129 h_130 = some r ∧ St w0 (col0 col) col_127 w_126 ∧ Own (Rep.int .i64) 3 4 col_127 w_126 a_63 cap_64 left_62 ∧ Own (Rep.int .i64) 3 5 col_127 w_126 a_67 cap_68 list_66 ∧ Que (Rep.int .i64) 3 4 col_127 w_126 a_79 (cap_64 - (Int.toNat 1)) (left_62.drop (Int.toNat 1)) ∧ GO 85 86 1 col_127 w_126 o_14 h_130 ∧ f 10 = (.slice a_63 left_62.length cap_64) ∧ f 11 = (.slice a_67 list_66.length cap_68) ∧ f 12 = (.int .i64 best_128) ∧ f 13 = (.int .i64 least_129) ∧ f 2 = (.func (.func 16) #[] #[]) ∧ f 38 = (.slice a_79 ((left_62.drop (Int.toNat 1)).length) (cap_64 - (Int.toNat 1))) ∧ f 39 = (.int .i64 ((left_62.drop (Int.toNat 1)).length : Int)) ∧ f 40 = (.int .i64 (k_82 : Int)) ∧ f 9 = (.pointer (some ⟨o_14.g, 0, none⟩)) ∧ f 1000000 = (enc [])) ?_ ?_
            · intro f w_126 hJ
              obtain ⟨col_127, best_128, least_129, h_130, hm, hst, h_65, h_69, h_81, h_131, hs10, hs11, hs12, hs13, hs2, hs38, hs39, hs40, hs9, hs1000000⟩ := hJ
              rw [m_order_by_v2f16_J1.eq_1] at hm
              refine .ld (d := 10) (v := (.slice a_63 left_62.length cap_64)) hs10 ?_
              refine .ld (d := 11) (v := (.slice a_67 list_66.length cap_68)) hs11 ?_
              refine .ld (d := 12) (v := (.int .i64 best_128)) hs12 ?_
              refine .ld (d := 13) (v := (.int .i64 least_129)) hs13 ?_
              refine .ld (d := 2) (v := (.func (.func 16) #[] #[])) hs2 ?_
              refine .ld (d := 38) (v := (.slice a_79 ((left_62.drop (Int.toNat 1)).length) (cap_64 - (Int.toNat 1)))) hs38 ?_
              refine .ld (d := 39) (v := (.int .i64 ((left_62.drop (Int.toNat 1)).length : Int))) hs39 ?_
              refine .ld (d := 40) (v := (.int .i64 (k_82 : Int))) hs40 ?_
              refine .ld (d := 9) (v := (.pointer (some ⟨o_14.g, 0, none⟩))) hs9 ?_
              refine .ld (d := 1000000) (v := (enc [])) hs1000000 ?_
              clear hs10 hs11 hs12 hs13 hs2 hs38 hs39 hs40 hs9 hs1000000
              refine wregion ?_
              refine lv (v := (.int .i64 (IntKind.i64.wrap ((k_82 : Int) + 1)))) rfl rfl (r_add (k_82 : Int) 1 rfl rfl) ?_
              refine lv (v := (.int .i64 (IntKind.i64.wrap ((k_82 : Int) + 1)))) rfl rfl (r_move rfl) ?_
              refine lnil ?_
              exact ⟨l_91.length, by simp, ⟨col_127, best_128, least_129, (k_82 + 1), h_130, l_91, rfl, hl2, hm, hst, h_65, h_69, h_81, h_131, (congrArg (Value.int .i64) (wrap_succ (Nat.lt_of_lt_of_le hlt h_81.len))), rfl, rfl, rfl, rfl, rfl, rfl, rfl, rfl, rfl⟩⟩
            · refine wblock ?_
              refine wseq ?_
              refine wregion ?_
              refine lv (v := (.int .i64 (k_82 : Int))) rfl rfl (r_move rfl) ?_
              refine lv (v := (sptr a_79 (Int.toNat (k_82 : Int) * 1))) rfl rfl (r_idx Try.underlying22 Try.sizeOf3 rfl rfl (at?_some hat).1 (at?_some hat).2.1 (h_81.addr hat)) ?_
              refine lv (v := (.int .i64 x_90)) rfl rfl (r_ld Try.isAgg3 rfl (h_81.atInt hat)) ?_
              refine lv (v := (.int .i64 (k_82 : Int))) rfl rfl (r_assign rfl) ?_
              refine lv (v := (.int .i64 x_90)) rfl rfl (r_assign rfl) ?_
              refine lnil ?_
              refine wseq ?_
              refine wregion ?_
              refine lv (v := (.func (.func 16) #[] #[])) rfl rfl (r_move rfl) ?_
              refine lv (v := (.pointer (some ⟨o_14.g, 0, none⟩))) rfl rfl (r_move rfl) ?_
              refine lv (v := (.int .i64 x_90)) rfl rfl (r_move rfl) ?_
              obtain ⟨r_132, hr_133, hm⟩ := bind_some hm
              refine lc rfl rfl (r_callv2 Try.call16 rfl rfl rfl) (c_graph_Graph_Fill col_85 _ 1 (by decide) o_14 h_88 x_90 h_89 r_132 hr_133) ?_
              rintro _ w_134 ⟨rfl, hg_135⟩
              refine ⟨_, rfl, ?_⟩
              replace hg_135 : Grow col_85 w_84 col_85 w_134 := .of_below hg_135
              replace h_65 := h_65.gr hg_135
              replace h_69 := h_69.gr hg_135
              replace h_81 := h_81.gr hg_135
              replace h_89 := h_89.gr hg_135
              replace hst := hst.grow hg_135
              refine lv (v := (.int .i64 r_132)) rfl rfl (r_assign rfl) ?_
              refine lnil ?_
              refine wseq ?_
              refine wregion ?_
              refine lv (v := (.int .i64 r_132)) rfl rfl (r_move rfl) ?_
              refine lv (v := (.int .i64 least_87)) rfl rfl (r_move rfl) ?_
              refine lv (v := (.bool (decide (r_132 < least_87)))) rfl rfl (r_lss r_132 least_87 rfl rfl) ?_
              refine lnil ?_
              refine wcond (decide (r_132 < least_87)) rfl (fun hb => ?_) (fun hb => ?_)
              · rw [if_pos hb] at hm
                clear hb
                refine wregion ?_
                refine lv (v := (.int .i64 (k_82 : Int))) rfl rfl (r_move rfl) ?_
                refine lv (v := (.int .i64 (IntKind.i64.wrap ((k_82 : Int) + 1)))) rfl rfl (r_add (k_82 : Int) 1 rfl rfl) ?_
                refine lv (v := (.int .i64 r_132)) rfl rfl (r_move rfl) ?_
                refine lv (v := (.int .i64 (IntKind.i64.wrap ((k_82 : Int) + 1)))) rfl rfl (r_assign rfl) ?_
                refine lv (v := (.int .i64 r_132)) rfl rfl (r_assign rfl) ?_
                refine lnil ?_
                exact ⟨col_85, (IntKind.i64.wrap ((k_82 : Int) + 1)), r_132, h_88, hm, hst, h_65, h_69, h_81, h_89, rfl, rfl, rfl, rfl, rfl, rfl, rfl, rfl, rfl, rfl⟩
              · rw [if_neg (by rw [hb]; decide)] at hm
                clear hb
                refine wskip ?_
                exact ⟨col_85, best_86, least_87, h_88, hm, hst, h_65, h_69, h_81, h_89, rfl, rfl, rfl, rfl, rfl, rfl, rfl, rfl, rfl, rfl⟩
        · rw [if_neg (by rw [hb]; decide)] at hm
          clear hb
          refine wexit (inB_hit ?_)
          refine wseq ?_
          refine wregion ?_
          refine lv (v := (.slice a_67 list_66.length cap_68)) rfl rfl (r_move rfl) ?_
          refine lv (v := (.slice a_67 list_66.length cap_68)) rfl rfl (r_assign rfl) ?_
          refine lv (v := (.int .i64 0)) rfl rfl (r_assign rfl) ?_
          refine lnil ?_
          refine wret ?_
          cases hm
          exact ⟨rfl, colF w0.heap.size col col_61 (fun n => bif Nat.beq n 5 then c1 else 0), a_67, cap_68, rfl, hst.fin (fun n => bif Nat.beq n 5 then c1 else 0), hst.finOwn (g := (fun n => bif Nat.beq n 5 then c1 else 0)) rfl h_69 (by decide) (by decide) rfl⟩




def m_order_Fill (N : Nat) (p0_g : List (List Bool)) (p1_points : (List Int)) : Option ((List Int) × Int) :=
  (m_order_by_v2f16 N p0_g p1_points).bind fun r_1 => some (r_1.1, r_1.2)

set_option maxRecDepth 100000 in
set_option maxHeartbeats 2000000 in
theorem c_order_Fill (N : Nat) (c1 : Nat) (col : Col) (w0 : World) (qc0 : Nat) (hqqc0 : qc0 ≠ 0) (o0 : GObj) (p0_g : List (List Bool)) (a1 : Option Addr) (cap1 : Nat) (p1_points : (List Int)) (h0 : GO 85 86 qc0 col w0 o0 p0_g) (h1 : Sl (Rep.int .i64) col w0 a1 cap1 p1_points) (r : ((List Int) × Int)) (hm : m_order_Fill N p0_g p1_points = some r) :
    Calls Try.prog 32 #[(.pointer (some ⟨o0.g, 0, none⟩)), (.slice a1 p1_points.length cap1)] w0 (fun e w' => ∃ (col' : Col) (ra1 : Option Addr) (rc2 : Nat), e = .returned (.tuple #[(.slice ra1 r.1.length rc2), (.int .i64 r.2)]) ∧ Grow col w0 col' w' ∧ Own (Rep.int .i64) 3 c1 col' w' ra1 rc2 r.1) := by
  refine calls_of2 4 5 (m := 11) (args := [(.pointer (some ⟨o0.g, 0, none⟩)), (.slice a1 p1_points.length cap1)]) Try.func32 rfl rfl rfl rfl rfl ?_
  rw [m_order_Fill.eq_1] at hm
  have hst := St.start col w0
  replace h0 := h0.start0 hqqc0
  replace h1 := h1.keep (Stay.start col w0)
  refine wseq ?_
  refine wregion ?_
  refine lv (v := (.slice none (([] : List Int).length) 0)) rfl rfl (r_assign rfl) ?_
  refine lv (v := (.int .i64 0)) rfl rfl (r_assign rfl) ?_
  refine lnil ?_
  refine wseq ?_
  refine wregion ?_
  refine lv (v := (.pointer (some ⟨o0.g, 0, none⟩))) rfl rfl (r_move rfl) ?_
  refine lv (v := (.slice a1 p1_points.length cap1)) rfl rfl (r_move rfl) ?_
  obtain ⟨r_1, hr_2, hm⟩ := bind_some hm
  refine lc rfl rfl (r_call3 Try.call71 rfl rfl rfl) (c_order_by_v2f16 N 1 (col0 col) _ 999 (by decide) o0 p0_g a1 cap1 p1_points h0 h1 r_1 hr_2) ?_
  rintro _ w_6 ⟨col_8, ra_3, rc_4, rfl, hg_7, rh_5⟩
  refine ⟨_, rfl, ?_⟩
  replace h0 := h0.gr hg_7
  replace h1 := h1.gr hg_7
  replace hst := hst.grow hg_7
  refine lv (v := (.slice ra_3 r_1.1.length rc_4)) rfl rfl (r_extract rfl rfl) ?_
  refine lv (v := (.int .i64 r_1.2)) rfl rfl (r_extract rfl rfl) ?_
  refine lv (v := (.slice ra_3 r_1.1.length rc_4)) rfl rfl (r_assign rfl) ?_
  refine lv (v := (.int .i64 r_1.2)) rfl rfl (r_assign rfl) ?_
  refine lnil ?_
  refine wret ?_
  cases hm
  exact ⟨rfl, colF w0.heap.size col col_8 (fun n => bif Nat.beq n 1 then c1 else 0), ra_3, rc_4, rfl, hst.fin (fun n => bif Nat.beq n 1 then c1 else 0), hst.finOwn (g := (fun n => bif Nat.beq n 1 then c1 else 0)) rfl rh_5 (by decide) (by decide) rfl⟩




def m_order_Degree_1_v0n (p1_a : Int) : Option Int :=
  none

set_option maxRecDepth 100000 in
set_option maxHeartbeats 2000000 in
theorem c_order_Degree_1_v0n (col : Col) (w0 : World) (p1_a : Int) (r : Int) (hm : m_order_Degree_1_v0n p1_a = some r) :
    Calls Try.prog 72 #[(.pointer none), (.int .i64 p1_a)] w0 (fun e w' => e = .returned ((.int .i64 r)) ∧ Below w0.heap.size w0 w') := by
  refine calls_of1 4 (m := 9) (args := [(.pointer none), (.int .i64 p1_a)]) Try.func72 rfl rfl rfl rfl rfl ?_
  rw [m_order_Degree_1_v0n.eq_1] at hm
  have hst := St.start col w0
  refine wseq ?_
  refine wregion ?_
  refine lv (v := (.int .i64 0)) rfl rfl (r_assign rfl) ?_
  refine lnil ?_
  refine wseq ?_
  refine wregion ?_
  refine lv (v := (.pointer none)) rfl rfl (r_move rfl) ?_
  refine lv (v := (.int .i64 p1_a)) rfl rfl (r_move rfl) ?_
  cases hm




def m_order_Degree_1 (p0_h : List (List Bool)) (p1_a : Int) : Option Int :=
  (m_graph_Graph_Near p0_h p1_a).bind fun r_1 => some (r_1.length : Int)

set_option maxRecDepth 100000 in
set_option maxHeartbeats 2000000 in
theorem c_order_Degree_1 (col : Col) (w0 : World) (qc0 : Nat) (hqqc0 : qc0 ≠ 0) (o0 : GObj) (p0_h : List (List Bool)) (p1_a : Int) (h0 : GO 85 86 qc0 col w0 o0 p0_h) (r : Int) (hm : m_order_Degree_1 p0_h p1_a = some r) :
    Calls Try.prog 72 #[(.pointer (some ⟨o0.g, 0, none⟩)), (.int .i64 p1_a)] w0 (fun e w' => e = .returned ((.int .i64 r)) ∧ Below w0.heap.size w0 w') := by
  refine calls_of1 4 (m := 9) (args := [(.pointer (some ⟨o0.g, 0, none⟩)), (.int .i64 p1_a)]) Try.func72 rfl rfl rfl rfl rfl ?_
  rw [m_order_Degree_1.eq_1] at hm
  have hst := St.start col w0
  replace h0 := h0.start0 hqqc0
  refine wseq ?_
  refine wregion ?_
  refine lv (v := (.int .i64 0)) rfl rfl (r_assign rfl) ?_
  refine lnil ?_
  refine wseq ?_
  refine wregion ?_
  refine lv (v := (.pointer (some ⟨o0.g, 0, none⟩))) rfl rfl (r_move rfl) ?_
  refine lv (v := (.int .i64 p1_a)) rfl rfl (r_move rfl) ?_
  obtain ⟨r_1, hr_2, hm⟩ := bind_some hm
  refine lc rfl rfl (r_call2 Try.call22 rfl rfl) (c_graph_Graph_Near 1 (col0 col) _ 999 (by decide) o0 p0_h p1_a h0 r_1 hr_2) ?_
  rintro _ w_6 ⟨col_8, ra_3, rc_4, rfl, hg_7, rh_5⟩
  refine ⟨_, rfl, ?_⟩
  replace h0 := h0.gr hg_7
  replace hst := hst.grow hg_7
  refine lv (v := (.int .i64 (r_1.length : Int))) rfl rfl (r_len Try.underlying22 rfl) ?_
  refine lv (v := (.int .i64 (r_1.length : Int))) rfl rfl (r_assign rfl) ?_
  refine lnil ?_
  refine wret ?_
  cases hm
  exact ⟨rfl, rfl, hst.below⟩



set_option maxRecDepth 100000 in
theorem el3_71V2F72 : ElemOk Try.prog 3 1 8 := ⟨Try.t3, _, rfl, rfl, rfl, rfl, rfl⟩

def m_order_by_v2f72_J1 (k_52 : Nat) (kk_L2 : (Nat → Int → Int → Option ((List Int) × Int))) (best_76 : Int) (least_77 : Int) : Option ((List Int) × Int) :=
  kk_L2 (k_52 + 1) best_76 least_77

def m_order_by_v2f72_L2 (left_34 : List Int) (list_38 : List Int) : List Int → Nat → Int → Int → Option ((List Int) × Int)
  | [], k_52, best_56, least_57 => (at? left_34 best_56).bind fun e_60 => chk ((list_38.length + [e_60].length) * 8 ≤ 140737488355328 ∧ list_38.length + [e_60].length ≤ maxLen) none
  | x_58 :: l_59, k_52, best_56, least_57 => (m_order_Degree_1_v0n x_58).bind fun r_78 => if (decide (r_78 < least_57)) = true then (m_order_by_v2f72_J1 k_52 (m_order_by_v2f72_L2 left_34 list_38 l_59) (IntKind.i64.wrap ((k_52 : Int) + 1)) r_78) else (m_order_by_v2f72_J1 k_52 (m_order_by_v2f72_L2 left_34 list_38 l_59) best_56 least_57)

def m_order_by_v2f72_L1 (N : Nat)  : Nat → (List Int) → (List Int) → Option ((List Int) × Int)
  | 0, _, _ => none
  | n_31 + 1, left_34, list_38 => if (decide (0 < (left_34.length : Int))) = true then ((at? left_34 0).bind fun e_42 => (m_order_Degree_1_v0n e_42).bind fun r_44 => chk ((0 : Int) ≤ 1 ∧ 1 ≤ (left_34.length : Int)) (m_order_by_v2f72_L2 left_34 list_38 (left_34.drop (Int.toNat 1)) 0 0 r_44)) else (some (list_38, 0))

def m_order_by_v2f72_J2 (k_120 : Nat) (kk_L4 : (Nat → Int → Int → (List (List Bool)) → Option ((List Int) × Int))) (best_166 : Int) (least_167 : Int) (h_168 : List (List Bool)) : Option ((List Int) × Int) :=
  kk_L4 (k_120 + 1) best_166 least_167 h_168

def m_order_by_v2f72_L4 (N : Nat) (left_100 : List Int) (list_104 : List Int) (kk_L3 : ((List Int) → (List Int) → (List (List Bool)) → Option ((List Int) × Int))) : List Int → Nat → Int → Int → (List (List Bool)) → Option ((List Int) × Int)
  | [], k_120, best_124, least_125, h_126 => (at? left_100 best_124).bind fun e_130 => chk ((list_104.length + [e_130].length) * 8 ≤ 140737488355328 ∧ list_104.length + [e_130].length ≤ maxLen) ((m_graph_Graph_Remove N h_126 e_130).bind fun r_144 => (lib_delete left_100 best_124 (IntKind.i64.wrap (best_124 + 1))).bind fun r_156 => kk_L3 r_156 (list_104 ++ [e_130]) r_144.2.2)
  | x_128 :: l_129, k_120, best_124, least_125, h_126 => (m_order_Degree_1 h_126 x_128).bind fun r_170 => if (decide (r_170 < least_125)) = true then (m_order_by_v2f72_J2 k_120 (m_order_by_v2f72_L4 N left_100 list_104 kk_L3 l_129) (IntKind.i64.wrap ((k_120 : Int) + 1)) r_170 h_126) else (m_order_by_v2f72_J2 k_120 (m_order_by_v2f72_L4 N left_100 list_104 kk_L3 l_129) best_124 least_125 h_126)

def m_order_by_v2f72_L3 (N : Nat)  : Nat → (List Int) → (List Int) → (List (List Bool)) → Option ((List Int) × Int)
  | 0, _, _, _ => none
  | n_97 + 1, left_100, list_104, h_108 => if (decide (0 < (left_100.length : Int))) = true then ((at? left_100 0).bind fun e_110 => (m_order_Degree_1 h_108 e_110).bind fun r_112 => chk ((0 : Int) ≤ 1 ∧ 1 ≤ (left_100.length : Int)) (m_order_by_v2f72_L4 N left_100 list_104 (m_order_by_v2f72_L3 N n_97) (left_100.drop (Int.toNat 1)) 0 0 r_112 h_108)) else (some (list_104, 0))

def m_order_by_v2f72 (N : Nat) (p0_g : List (List Bool)) (p1_points : (List Int)) : Option ((List Int) × Int) :=
  (m_order_wrong p0_g p1_points).bind fun r_1 => if (!decide (r_1 = 0)) = true then (some (([] : List Int), r_1)) else ((m_order_copied N p0_g).bind fun r_5 => optC (r_5) ((m_slices_Values_int_int p1_points).bind fun r_16 => (m_slices_Sorted_int r_16).bind fun r_23 => m_order_by_v2f72_L1 N N r_23 ([] : List Int)) (fun t_12 => (m_slices_Values_int_int p1_points).bind fun r_82 => (m_slices_Sorted_int r_82).bind fun r_89 => m_order_by_v2f72_L3 N N r_89 ([] : List Int) t_12))

set_option maxRecDepth 100000 in
set_option maxHeartbeats 2000000 in
theorem c_order_by_v2f72 (N : Nat) (c1 : Nat) (col : Col) (w0 : World) (qc0 : Nat) (hqqc0 : qc0 ≠ 0) (o0 : GObj) (p0_g : List (List Bool)) (a1 : Option Addr) (cap1 : Nat) (p1_points : (List Int)) (h0 : GO 85 86 qc0 col w0 o0 p0_g) (h1 : Sl (Rep.int .i64) col w0 a1 cap1 p1_points) (r : ((List Int) × Int)) (hm : m_order_by_v2f72 N p0_g p1_points = some r) :
    Calls Try.prog 71 #[(.pointer (some ⟨o0.g, 0, none⟩)), (.slice a1 p1_points.length cap1), (.func (.func 72) #[] #[])] w0 (fun e w' => ∃ (col' : Col) (ra1 : Option Addr) (rc2 : Nat), e = .returned (.tuple #[(.slice ra1 r.1.length rc2), (.int .i64 r.2)]) ∧ Grow col w0 col' w' ∧ Own (Rep.int .i64) 3 c1 col' w' ra1 rc2 r.1) := by
  refine calls_of2 6 7 (m := 75) (args := [(.pointer (some ⟨o0.g, 0, none⟩)), (.slice a1 p1_points.length cap1), (.func (.func 72) #[] #[])]) Try.func71 rfl rfl rfl rfl rfl ?_
  rw [m_order_by_v2f72.eq_1] at hm
  have hst := St.start col w0
  replace h0 := h0.start0 hqqc0
  replace h1 := h1.keep (Stay.start col w0)
  refine wseq ?_
  refine wregion ?_
  refine lv (v := (.slice none (([] : List Int).length) 0)) rfl rfl (r_assign rfl) ?_
  refine lv (v := (.int .i64 0)) rfl rfl (r_assign rfl) ?_
  refine lnil ?_
  refine wseq ?_
  refine wseq ?_
  refine wregion ?_
  refine lv (v := (.pointer (some ⟨o0.g, 0, none⟩))) rfl rfl (r_move rfl) ?_
  refine lv (v := (.slice a1 p1_points.length cap1)) rfl rfl (r_move rfl) ?_
  obtain ⟨r_1, hr_2, hm⟩ := bind_some hm
  refine lc rfl rfl (r_call2 Try.call75 rfl rfl) (c_order_wrong (col0 col) _ 999 (by decide) o0 p0_g a1 cap1 p1_points h0 h1 r_1 hr_2) ?_
  rintro _ w_3 ⟨rfl, hg_4⟩
  refine ⟨_, rfl, ?_⟩
  replace hg_4 : Grow (col0 col) w0 (col0 col) w_3 := .of_below hg_4
  replace h0 := h0.gr hg_4
  replace h1 := h1.gr hg_4
  replace hst := hst.grow hg_4
  refine lv (v := (.int .i64 r_1)) rfl rfl (r_assign rfl) ?_
  refine lnil ?_
  refine wseq ?_
  refine wregion ?_
  refine lv (v := (.int .i64 r_1)) rfl rfl (r_move rfl) ?_
  refine lv (v := (.bool (!decide (r_1 = 0)))) rfl rfl (r_neq r_1 0 rfl rfl) ?_
  refine lnil ?_
  refine wcond (!decide (r_1 = 0)) rfl (fun hb => ?_) (fun hb => ?_)
  · rw [if_pos hb] at hm
    clear hb
    refine wseq ?_
    refine wregion ?_
    refine lv (v := (.int .i64 r_1)) rfl rfl (r_move rfl) ?_
    refine lv (v := (.slice none (([] : List Int).length) 0)) rfl rfl (r_assign rfl) ?_
    refine lv (v := (.int .i64 r_1)) rfl rfl (r_assign rfl) ?_
    refine lnil ?_
    refine wret ?_
    cases hm
    exact ⟨rfl, colF w0.heap.size col (col0 col) (fun n => 0), none, 0, rfl, hst.fin (fun n => 0), Own.nil⟩
  · rw [if_neg (by rw [hb]; decide)] at hm
    clear hb
    refine wskip ?_
    refine wseq ?_
    refine wregion ?_
    refine lv (v := (.pointer (some ⟨o0.g, 0, none⟩))) rfl rfl (r_move rfl) ?_
    obtain ⟨r_5, hr_6, hm⟩ := bind_some hm
    refine lc rfl rfl (r_call1 Try.call76 rfl) (c_order_copied N 1 (col0 col) _ 999 (by decide) o0 p0_g h0 r_5 hr_6) ?_
    rintro _ w_9 ⟨col_11, rv_7, rfl, hg_10, rh_8⟩
    refine ⟨_, rfl, ?_⟩
    replace h1 := h1.gr hg_10
    replace h0 := h0.gr hg_10
    replace hst := hst.grow hg_10
    cases hx_13 : r_5 with
    | none =>
      rw [hx_13] at hm rh_8
      replace hm := optC_none hm
      obtain rfl := optP_none rh_8
      clear rh_8
      refine lv (v := (.pointer none)) rfl rfl (r_assign rfl) ?_
      refine lnil ?_
      refine wseq ?_
      refine wregion ?_
      refine lv (v := (.slice a1 p1_points.length cap1)) rfl rfl (r_move rfl) ?_
      obtain ⟨r_16, hr_17, hm⟩ := bind_some hm
      refine lc rfl rfl (r_call1 Try.call80 rfl) (c_slices_Values_int_int col_11 _ a1 cap1 p1_points h1 r_16 hr_17) ?_
      rintro _ w_20 ⟨col_22, rv_18, rfl, hg_21, rh_19⟩
      refine ⟨_, rfl, ?_⟩
      replace h1 := h1.gr hg_21
      replace hst := hst.grow hg_21
      obtain ⟨r_23, hr_24, hm⟩ := bind_some hm
      refine lc rfl rfl (r_call1 Try.call55 rfl) (c_slices_Sorted_int 2 col_22 _ rv_18 r_16 rh_19 r_23 hr_24) ?_
      rintro _ w_28 ⟨col_30, ra_25, rc_26, rfl, hg_29, rh_27⟩
      refine ⟨_, rfl, ?_⟩
      replace rh_19 := rh_19.gr hg_29
      replace hst := hst.grow hg_29
      refine lv (v := (.slice ra_25 r_23.length rc_26)) rfl rfl (r_assign rfl) ?_
      refine lnil ?_
      refine wseq ?_
      refine wregion ?_
      refine lv (v := (.slice none (([] : List Int).length) 0)) rfl rfl (r_assign rfl) ?_
      refine lnil ?_
      refine wseq ?_
      refine wblock ?_
      refine wloop (fun n f w_32 => ∃ (col_33 : Col) (a_35 : Option Addr) (cap_36 : Nat) (left_34 : List Int) (a_39 : Option Addr) (cap_40 : Nat) (list_38 : List Int) (n_31 : Nat), n_31 = n ∧ m_order_by_v2f72_L1 N n_31 left_34 list_38 = some r ∧ St w0 (col0 col) col_33 w_32 ∧ Own (Rep.int .i64) 3 2 col_33 w_32 a_35 cap_36 left_34 ∧ Own (Rep.int .i64) 3 3 col_33 w_32 a_39 cap_40 list_38 ∧ f 10 = (.slice a_35 left_34.length cap_36) ∧ f 11 = (.slice a_39 list_38.length cap_40) ∧ f 2 = (.func (.func 72) #[] #[]) ∧ f 9 = (.pointer none) ∧ f 1000000 = (enc [])) N ⟨col_30, ra_25, rc_26, r_23, none, 0, ([] : List Int), N, rfl, hm, hst, rh_27, Own.nil, rfl, rfl, rfl, rfl, rfl⟩ ?_
      clear hm; intro n f w_32 hI
      obtain ⟨col_33, a_35, cap_36, left_34, a_39, cap_40, list_38, n_31, hn, hm, hst, h_37, h_41, hs10, hs11, hs2, hs9, hs1000000⟩ := hI
      subst hn
      refine .ld (d := 10) (v := (.slice a_35 left_34.length cap_36)) hs10 ?_
      refine .ld (d := 11) (v := (.slice a_39 list_38.length cap_40)) hs11 ?_
      refine .ld (d := 2) (v := (.func (.func 72) #[] #[])) hs2 ?_
      refine .ld (d := 9) (v := (.pointer none)) hs9 ?_
      refine .ld (d := 1000000) (v := (enc [])) hs1000000 ?_
      clear hs10 hs11 hs2 hs9 hs1000000
      cases n_31 with
      | zero => rw [m_order_by_v2f72_L1.eq_1] at hm; cases hm
      | succ n_31 =>
        rw [m_order_by_v2f72_L1.eq_2] at hm
        refine wseq ?_
        refine wseq ?_
        refine wregion ?_
        refine lv (v := (.slice a_35 left_34.length cap_36)) rfl rfl (r_move rfl) ?_
        refine lv (v := (.int .i64 (left_34.length : Int))) rfl rfl (r_len Try.underlying22 rfl) ?_
        refine lv (v := (.bool (decide (0 < (left_34.length : Int))))) rfl rfl (r_gtr (left_34.length : Int) 0 rfl rfl) ?_
        refine lnil ?_
        refine wcond (decide (0 < (left_34.length : Int))) rfl (fun hb => ?_) (fun hb => ?_)
        · rw [if_pos hb] at hm
          clear hb
          refine wskip ?_
          refine wblock ?_
          refine wseq ?_
          refine wregion ?_
          refine lv (v := (.func (.func 72) #[] #[])) rfl rfl (r_move rfl) ?_
          refine lv (v := (.pointer none)) rfl rfl (r_move rfl) ?_
          refine lv (v := (.slice a_35 left_34.length cap_36)) rfl rfl (r_move rfl) ?_
          obtain ⟨e_42, hj_43, hm⟩ := bind_some hm
          refine lv (v := (sptr a_35 (Int.toNat 0 * 1))) rfl rfl (r_idx Try.underlying22 Try.sizeOf3 rfl rfl (at?_some hj_43).1 (at?_some hj_43).2.1 (h_37.addr hj_43)) ?_
          refine lv (v := (.int .i64 e_42)) rfl rfl (r_ld Try.isAgg3 rfl (h_37.atInt hj_43)) ?_
          obtain ⟨r_44, hr_45, hm⟩ := bind_some hm
          refine lc rfl rfl (r_callv2 Try.call72 rfl rfl rfl) (c_order_Degree_1_v0n col_33 _ e_42 r_44 hr_45) ?_
          rintro _ w_46 ⟨rfl, hg_47⟩
          refine ⟨_, rfl, ?_⟩
          replace hg_47 : Grow col_33 w_32 col_33 w_46 := .of_below hg_47
          replace h_37 := h_37.gr hg_47
          replace h_41 := h_41.gr hg_47
          replace hst := hst.grow hg_47
          refine lv (v := (.int .i64 0)) rfl rfl (r_assign rfl) ?_
          refine lv (v := (.int .i64 r_44)) rfl rfl (r_assign rfl) ?_
          refine lnil ?_
          refine wseq ?_
          refine wseq ?_
          refine wregion ?_
          refine lv (v := (.slice a_35 left_34.length cap_36)) rfl rfl (r_move rfl) ?_
          obtain ⟨hb_48, hm⟩ := chk_some hm
          have h_51 := (h_37.que (NB.int (k := .i64))).drop (sz := 1) rfl (Int.toNat 1)
          refine lv (v := .slice (if cap_36 = (Int.toNat 1) then a_35 else a_35.map (·.add ((Int.toNat 1) * 1))) (left_34.length - (Int.toNat 1)) (cap_36 - (Int.toNat 1))) rfl rfl (r_sliceL Try.underlying22 Try.sizeOf3 rfl rfl hb_48.1 hb_48.2) ?_
          generalize (if cap_36 = (Int.toNat 1) then a_35 else a_35.map (·.add ((Int.toNat 1) * 1))) = a_49 at *
          refine .ld (d := 38) (v := (.slice a_49 ((left_34.drop (Int.toNat 1)).length) (cap_36 - (Int.toNat 1)))) (congrArg (fun n => Value.slice a_49 n (cap_36 - (Int.toNat 1))) (List.length_drop (i := (Int.toNat 1)) (l := left_34)).symm) ?_
          refine lv (v := (.int .i64 ((left_34.drop (Int.toNat 1)).length : Int))) rfl rfl (r_len Try.underlying22 rfl) ?_
          refine lv (v := (.int .i64 0)) rfl rfl (r_move rfl) ?_
          refine lnil ?_
          refine wblock ?_
          refine wloop (fun n f w_54 => ∃ (col_55 : Col) (best_56 : Int) (least_57 : Int) (k_52 : Nat) (l_53 : List Int), n = l_53.length ∧ (left_34.drop (Int.toNat 1)).drop k_52 = l_53 ∧ m_order_by_v2f72_L2 left_34 list_38 l_53 k_52 best_56 least_57 = some r ∧ St w0 (col0 col) col_55 w_54 ∧ Own (Rep.int .i64) 3 2 col_55 w_54 a_35 cap_36 left_34 ∧ Own (Rep.int .i64) 3 3 col_55 w_54 a_39 cap_40 list_38 ∧ Que (Rep.int .i64) 3 2 col_55 w_54 a_49 (cap_36 - (Int.toNat 1)) (left_34.drop (Int.toNat 1)) ∧ f 40 = (.int .i64 (k_52 : Int)) ∧ f 10 = (.slice a_35 left_34.length cap_36) ∧ f 11 = (.slice a_39 list_38.length cap_40) ∧ f 12 = (.int .i64 best_56) ∧ f 13 = (.int .i64 least_57) ∧ f 2 = (.func (.func 72) #[] #[]) ∧ f 38 = (.slice a_49 ((left_34.drop (Int.toNat 1)).length) (cap_36 - (Int.toNat 1))) ∧ f 39 = (.int .i64 ((left_34.drop (Int.toNat 1)).length : Int)) ∧ f 9 = (.pointer none) ∧ f 1000000 = (enc [])) (left_34.drop (Int.toNat 1)).length ⟨col_33, 0, r_44, 0, (left_34.drop (Int.toNat 1)), rfl, rfl, hm, hst, h_37, h_41, h_51, rfl, rfl, rfl, rfl, rfl, rfl, rfl, rfl, rfl, rfl⟩ ?_
          clear hm; intro n f w_54 hI
          obtain ⟨col_55, best_56, least_57, k_52, l_53, hn, hl, hm, hst, h_37, h_41, h_51, hs40, hs10, hs11, hs12, hs13, hs2, hs38, hs39, hs9, hs1000000⟩ := hI
          subst hn
          refine .ld (d := 40) (v := (.int .i64 (k_52 : Int))) hs40 ?_
          refine .ld (d := 10) (v := (.slice a_35 left_34.length cap_36)) hs10 ?_
          refine .ld (d := 11) (v := (.slice a_39 list_38.length cap_40)) hs11 ?_
          refine .ld (d := 12) (v := (.int .i64 best_56)) hs12 ?_
          refine .ld (d := 13) (v := (.int .i64 least_57)) hs13 ?_
          refine .ld (d := 2) (v := (.func (.func 72) #[] #[])) hs2 ?_
          refine .ld (d := 38) (v := (.slice a_49 ((left_34.drop (Int.toNat 1)).length) (cap_36 - (Int.toNat 1)))) hs38 ?_
          refine .ld (d := 39) (v := (.int .i64 ((left_34.drop (Int.toNat 1)).length : Int))) hs39 ?_
          refine .ld (d := 9) (v := (.pointer none)) hs9 ?_
          refine .ld (d := 1000000) (v := (enc [])) hs1000000 ?_
          clear hs40 hs10 hs11 hs12 hs13 hs2 hs38 hs39 hs9 hs1000000
          cases l_53 with
          | nil =>
            have hk : ¬ ((k_52 : Int) < ((left_34.drop (Int.toNat 1)).length : Int)) := by have := List.drop_eq_nil_iff.1 hl; omega
            have hkb := decide_eq_false hk
            rw [m_order_by_v2f72_L2.eq_1] at hm
            refine wseq ?_
            refine wregion ?_
            refine lv (v := (.bool (decide ((k_52 : Int) < ((left_34.drop (Int.toNat 1)).length : Int))))) rfl rfl (r_lss (k_52 : Int) ((left_34.drop (Int.toNat 1)).length : Int) rfl rfl) ?_
            refine lnil ?_
            refine wseq ?_
            refine wcondF (congrArg Value.bool hkb) ?_
            refine wexit (inB_hit ?_)
            refine wseq ?_
            refine wregion ?_
            refine lv (v := (.slice a_39 list_38.length cap_40)) rfl rfl (r_move rfl) ?_
            refine lv (v := (.slice a_35 left_34.length cap_36)) rfl rfl (r_move rfl) ?_
            refine lv (v := (.int .i64 best_56)) rfl rfl (r_move rfl) ?_
            obtain ⟨e_60, hj_61, hm⟩ := bind_some hm
            refine lv (v := (sptr a_35 (Int.toNat best_56 * 1))) rfl rfl (r_idx Try.underlying22 Try.sizeOf3 rfl rfl (at?_some hj_61).1 (at?_some hj_61).2.1 (h_37.addr hj_61)) ?_
            refine lv (v := (.int .i64 e_60)) rfl rfl (r_ld Try.isAgg3 rfl (h_37.atInt hj_61)) ?_
            refine l_lit (col := col_55) (r := (Rep.int .i64)) (xs := [e_60]) [(.int .i64 e_60)] 4 rfl Try.underlying22 el3_71V2F72 rfl rfl rfl rfl rfl rfl (by intro v hv; simp only [List.mem_cons, List.not_mem_nil, or_false] at hv; subst hv; rfl) (RowsH.ofF (Rows.consF (r := (Rep.int .i64)) (x := e_60) (cs := [(.int .i64 e_60)]) (rd_int .i64 e_60) Rows.nil0)) ?_
            intro a_62 w_63 col_64 hg_65 h_66
            replace h_37 := h_37.gr hg_65
            replace h_41 := h_41.gr hg_65
            replace hst := hst.grow hg_65
            obtain ⟨hb_67, hm⟩ := chk_some hm
            refine l_appendM (col := col_64) (w := w_63) (r := (Rep.int .i64)) (c := 3) (c2 := 3) (xs := list_38) (ys := [e_60]) h_41 (h_66.srcN (NB.int (k := .i64))) rfl Try.underlying22 el3_71V2F72 rfl rfl rfl hb_67.1 hb_67.2 (by decide) ?_
            intro a_68 cap_69 w_70 col_71 hk_72 h_73
            replace h_37 := h_37.kpp hk_72 rfl rfl
            replace h_66 := h_66.kpp hk_72 rfl rfl
            replace hst := hst.kpp hk_72 rfl rfl
            clear h_41
            refine lv (v := (.slice a_68 ((list_38 ++ [e_60]).length) cap_69)) rfl rfl (r_assign rfl) ?_
            refine lnil ?_
            refine wseq ?_
            refine wregion ?_
            refine lv (v := (.pointer none)) rfl rfl (r_move rfl) ?_
            refine lv (v := (.slice a_35 left_34.length cap_36)) rfl rfl (r_move rfl) ?_
            refine lv (v := (.int .i64 best_56)) rfl rfl (r_move rfl) ?_
            refine lv (v := (sptr a_35 (Int.toNat best_56 * 1))) rfl rfl (r_idx Try.underlying22 Try.sizeOf3 rfl rfl (at?_some hj_61).1 (at?_some hj_61).2.1 (h_37.addr hj_61)) ?_
            refine lv (v := (.int .i64 e_60)) rfl rfl (r_ld Try.isAgg3 rfl (h_37.atInt hj_61)) ?_
            cases hm
          | cons x_58 l_59 =>
            obtain ⟨hat, hl2, hlt⟩ := drop_get hl
            have hk : (k_52 : Int) < ((left_34.drop (Int.toNat 1)).length : Int) := by omega
            have hkb := decide_eq_true hk
            rw [m_order_by_v2f72_L2.eq_2] at hm
            refine wseq ?_
            refine wregion ?_
            refine lv (v := (.bool (decide ((k_52 : Int) < ((left_34.drop (Int.toNat 1)).length : Int))))) rfl rfl (r_lss (k_52 : Int) ((left_34.drop (Int.toNat 1)).length : Int) rfl rfl) ?_
            refine lnil ?_
            refine wseq ?_
            refine wcondT (congrArg Value.bool hkb) ?_
            refine wskip ?_
            refine wseq ?_
            refine Wp.cut (fun f w_74 => ∃ (col_75 : Col) (best_76 : Int) (least_77 : Int), m_order_by_v2f72_J1 k_52 (m_order_by_v2f72_L2 left_34 list_38 l_59) best_76 least_77 = some r ∧ St w0 (col0 col) col_75 w_74 ∧ Own (Rep.int .i64) 3 2 col_75 w_74 a_35 cap_36 left_34 ∧ Own (Rep.int .i64) 3 3 col_75 w_74 a_39 cap_40 list_38 ∧ Que (Rep.int .i64) 3 2 col_75 w_74 a_49 (cap_36 - (Int.toNat 1)) (left_34.drop (Int.toNat 1)) ∧ f 10 = (.slice a_35 left_34.length cap_36) ∧ f 11 = (.slice a_39 list_38.length cap_40) ∧ f 12 = (.int .i64 best_76) ∧ f 13 = (.int .i64 least_77) ∧ f 2 = (.func (.func 72) #[] #[]) ∧ f 38 = (.slice a_49 ((left_34.drop (Int.toNat 1)).length) (cap_36 - (Int.toNat 1))) ∧ f 39 = (.int .i64 ((left_34.drop (Int.toNat 1)).length : Int)) ∧ f 40 = (.int .i64 (k_52 : Int)) ∧ f 9 = (.pointer none) ∧ f 1000000 = (enc [])) ?_ ?_
            · intro f w_74 hJ
              obtain ⟨col_75, best_76, least_77, hm, hst, h_37, h_41, h_51, hs10, hs11, hs12, hs13, hs2, hs38, hs39, hs40, hs9, hs1000000⟩ := hJ
              rw [m_order_by_v2f72_J1.eq_1] at hm
              refine .ld (d := 10) (v := (.slice a_35 left_34.length cap_36)) hs10 ?_
              refine .ld (d := 11) (v := (.slice a_39 list_38.length cap_40)) hs11 ?_
              refine .ld (d := 12) (v := (.int .i64 best_76)) hs12 ?_
              refine .ld (d := 13) (v := (.int .i64 least_77)) hs13 ?_
              refine .ld (d := 2) (v := (.func (.func 72) #[] #[])) hs2 ?_
              refine .ld (d := 38) (v := (.slice a_49 ((left_34.drop (Int.toNat 1)).length) (cap_36 - (Int.toNat 1)))) hs38 ?_
              refine .ld (d := 39) (v := (.int .i64 ((left_34.drop (Int.toNat 1)).length : Int))) hs39 ?_
              refine .ld (d := 40) (v := (.int .i64 (k_52 : Int))) hs40 ?_
              refine .ld (d := 9) (v := (.pointer none)) hs9 ?_
              refine .ld (d := 1000000) (v := (enc [])) hs1000000 ?_
              clear hs10 hs11 hs12 hs13 hs2 hs38 hs39 hs40 hs9 hs1000000
              refine wregion ?_
              refine lv (v := (.int .i64 (IntKind.i64.wrap ((k_52 : Int) + 1)))) rfl rfl (r_add (k_52 : Int) 1 rfl rfl) ?_
              refine lv (v := (.int .i64 (IntKind.i64.wrap ((k_52 : Int) + 1)))) rfl rfl (r_move rfl) ?_
              refine lnil ?_
              exact ⟨l_59.length, by simp, ⟨col_75, best_76, least_77, (k_52 + 1), l_59, rfl, hl2, hm, hst, h_37, h_41, h_51, (congrArg (Value.int .i64) (wrap_succ (Nat.lt_of_lt_of_le hlt h_51.len))), rfl, rfl, rfl, rfl, rfl, rfl, rfl, rfl, rfl⟩⟩
            · refine wblock ?_
              refine wseq ?_
              refine wregion ?_
              refine lv (v := (.int .i64 (k_52 : Int))) rfl rfl (r_move rfl) ?_
              refine lv (v := (sptr a_49 (Int.toNat (k_52 : Int) * 1))) rfl rfl (r_idx Try.underlying22 Try.sizeOf3 rfl rfl (at?_some hat).1 (at?_some hat).2.1 (h_51.addr hat)) ?_
              refine lv (v := (.int .i64 x_58)) rfl rfl (r_ld Try.isAgg3 rfl (h_51.atInt hat)) ?_
              refine lv (v := (.int .i64 (k_52 : Int))) rfl rfl (r_assign rfl) ?_
              refine lv (v := (.int .i64 x_58)) rfl rfl (r_assign rfl) ?_
              refine lnil ?_
              refine wseq ?_
              refine wregion ?_
              refine lv (v := (.func (.func 72) #[] #[])) rfl rfl (r_move rfl) ?_
              refine lv (v := (.pointer none)) rfl rfl (r_move rfl) ?_
              refine lv (v := (.int .i64 x_58)) rfl rfl (r_move rfl) ?_
              obtain ⟨r_78, hr_79, hm⟩ := bind_some hm
              refine lc rfl rfl (r_callv2 Try.call72 rfl rfl rfl) (c_order_Degree_1_v0n col_55 _ x_58 r_78 hr_79) ?_
              rintro _ w_80 ⟨rfl, hg_81⟩
              refine ⟨_, rfl, ?_⟩
              replace hg_81 : Grow col_55 w_54 col_55 w_80 := .of_below hg_81
              replace h_37 := h_37.gr hg_81
              replace h_41 := h_41.gr hg_81
              replace h_51 := h_51.gr hg_81
              replace hst := hst.grow hg_81
              refine lv (v := (.int .i64 r_78)) rfl rfl (r_assign rfl) ?_
              refine lnil ?_
              refine wseq ?_
              refine wregion ?_
              refine lv (v := (.int .i64 r_78)) rfl rfl (r_move rfl) ?_
              refine lv (v := (.int .i64 least_57)) rfl rfl (r_move rfl) ?_
              refine lv (v := (.bool (decide (r_78 < least_57)))) rfl rfl (r_lss r_78 least_57 rfl rfl) ?_
              refine lnil ?_
              refine wcond (decide (r_78 < least_57)) rfl (fun hb => ?_) (fun hb => ?_)
              · rw [if_pos hb] at hm
                clear hb
                refine wregion ?_
                refine lv (v := (.int .i64 (k_52 : Int))) rfl rfl (r_move rfl) ?_
                refine lv (v := (.int .i64 (IntKind.i64.wrap ((k_52 : Int) + 1)))) rfl rfl (r_add (k_52 : Int) 1 rfl rfl) ?_
                refine lv (v := (.int .i64 r_78)) rfl rfl (r_move rfl) ?_
                refine lv (v := (.int .i64 (IntKind.i64.wrap ((k_52 : Int) + 1)))) rfl rfl (r_assign rfl) ?_
                refine lv (v := (.int .i64 r_78)) rfl rfl (r_assign rfl) ?_
                refine lnil ?_
                exact ⟨col_55, (IntKind.i64.wrap ((k_52 : Int) + 1)), r_78, hm, hst, h_37, h_41, h_51, rfl, rfl, rfl, rfl, rfl, rfl, rfl, rfl, rfl, rfl⟩
              · rw [if_neg (by rw [hb]; decide)] at hm
                clear hb
                refine wskip ?_
                exact ⟨col_55, best_56, least_57, hm, hst, h_37, h_41, h_51, rfl, rfl, rfl, rfl, rfl, rfl, rfl, rfl, rfl, rfl⟩
        · rw [if_neg (by rw [hb]; decide)] at hm
          clear hb
          refine wexit (inB_hit ?_)
          refine wseq ?_
          refine wregion ?_
          refine lv (v := (.slice a_39 list_38.length cap_40)) rfl rfl (r_move rfl) ?_
          refine lv (v := (.slice a_39 list_38.length cap_40)) rfl rfl (r_assign rfl) ?_
          refine lv (v := (.int .i64 0)) rfl rfl (r_assign rfl) ?_
          refine lnil ?_
          refine wret ?_
          cases hm
          exact ⟨rfl, colF w0.heap.size col col_33 (fun n => bif Nat.beq n 3 then c1 else 0), a_39, cap_40, rfl, hst.fin (fun n => bif Nat.beq n 3 then c1 else 0), hst.finOwn (g := (fun n => bif Nat.beq n 3 then c1 else 0)) rfl h_41 (by decide) (by decide) rfl⟩
    | some t_12 =>
      rw [hx_13] at hm rh_8
      replace hm := optC_some hm
      obtain ⟨o_14, rfl, hG_15⟩ := optP_some rh_8
      refine lv (v := (.pointer (some ⟨o_14.g, 0, none⟩))) rfl rfl (r_assign rfl) ?_
      refine lnil ?_
      refine wseq ?_
      refine wregion ?_
      refine lv (v := (.slice a1 p1_points.length cap1)) rfl rfl (r_move rfl) ?_
      obtain ⟨r_82, hr_83, hm⟩ := bind_some hm
      refine lc rfl rfl (r_call1 Try.call80 rfl) (c_slices_Values_int_int col_11 _ a1 cap1 p1_points h1 r_82 hr_83) ?_
      rintro _ w_86 ⟨col_88, rv_84, rfl, hg_87, rh_85⟩
      refine ⟨_, rfl, ?_⟩
      replace hG_15 := hG_15.gr hg_87
      replace h1 := h1.gr hg_87
      replace hst := hst.grow hg_87
      obtain ⟨r_89, hr_90, hm⟩ := bind_some hm
      refine lc rfl rfl (r_call1 Try.call55 rfl) (c_slices_Sorted_int 5 col_88 _ rv_84 r_82 rh_85 r_89 hr_90) ?_
      rintro _ w_94 ⟨col_96, ra_91, rc_92, rfl, hg_95, rh_93⟩
      refine ⟨_, rfl, ?_⟩
      replace hG_15 := hG_15.gr hg_95
      replace rh_85 := rh_85.gr hg_95
      replace hst := hst.grow hg_95
      refine lv (v := (.slice ra_91 r_89.length rc_92)) rfl rfl (r_assign rfl) ?_
      refine lnil ?_
      refine wseq ?_
      refine wregion ?_
      refine lv (v := (.slice none (([] : List Int).length) 0)) rfl rfl (r_assign rfl) ?_
      refine lnil ?_
      refine wseq ?_
      refine wblock ?_
      refine wloop (fun n f w_98 => ∃ (col_99 : Col) (a_101 : Option Addr) (cap_102 : Nat) (left_100 : List Int) (a_105 : Option Addr) (cap_106 : Nat) (list_104 : List Int) (h_108 : List (List Bool)) (n_97 : Nat), n_97 = n ∧ m_order_by_v2f72_L3 N n_97 left_100 list_104 h_108 = some r ∧ St w0 (col0 col) col_99 w_98 ∧ Own (Rep.int .i64) 3 5 col_99 w_98 a_101 cap_102 left_100 ∧ Own (Rep.int .i64) 3 6 col_99 w_98 a_105 cap_106 list_104 ∧ GO 85 86 1 col_99 w_98 o_14 h_108 ∧ f 10 = (.slice a_101 left_100.length cap_102) ∧ f 11 = (.slice a_105 list_104.length cap_106) ∧ f 2 = (.func (.func 72) #[] #[]) ∧ f 9 = (.pointer (some ⟨o_14.g, 0, none⟩)) ∧ f 1000000 = (enc [])) N ⟨col_96, ra_91, rc_92, r_89, none, 0, ([] : List Int), t_12, N, rfl, hm, hst, rh_93, Own.nil, hG_15, rfl, rfl, rfl, rfl, rfl⟩ ?_
      clear hm; intro n f w_98 hI
      obtain ⟨col_99, a_101, cap_102, left_100, a_105, cap_106, list_104, h_108, n_97, hn, hm, hst, h_103, h_107, h_109, hs10, hs11, hs2, hs9, hs1000000⟩ := hI
      subst hn
      refine .ld (d := 10) (v := (.slice a_101 left_100.length cap_102)) hs10 ?_
      refine .ld (d := 11) (v := (.slice a_105 list_104.length cap_106)) hs11 ?_
      refine .ld (d := 2) (v := (.func (.func 72) #[] #[])) hs2 ?_
      refine .ld (d := 9) (v := (.pointer (some ⟨o_14.g, 0, none⟩))) hs9 ?_
      refine .ld (d := 1000000) (v := (enc [])) hs1000000 ?_
      clear hs10 hs11 hs2 hs9 hs1000000
      cases n_97 with
      | zero => rw [m_order_by_v2f72_L3.eq_1] at hm; cases hm
      | succ n_97 =>
        rw [m_order_by_v2f72_L3.eq_2] at hm
        refine wseq ?_
        refine wseq ?_
        refine wregion ?_
        refine lv (v := (.slice a_101 left_100.length cap_102)) rfl rfl (r_move rfl) ?_
        refine lv (v := (.int .i64 (left_100.length : Int))) rfl rfl (r_len Try.underlying22 rfl) ?_
        refine lv (v := (.bool (decide (0 < (left_100.length : Int))))) rfl rfl (r_gtr (left_100.length : Int) 0 rfl rfl) ?_
        refine lnil ?_
        refine wcond (decide (0 < (left_100.length : Int))) rfl (fun hb => ?_) (fun hb => ?_)
        · rw [if_pos hb] at hm
          clear hb
          refine wskip ?_
          refine wblock ?_
          refine wseq ?_
          refine wregion ?_
          refine lv (v := (.func (.func 72) #[] #[])) rfl rfl (r_move rfl) ?_
          refine lv (v := (.pointer (some ⟨o_14.g, 0, none⟩))) rfl rfl (r_move rfl) ?_
          refine lv (v := (.slice a_101 left_100.length cap_102)) rfl rfl (r_move rfl) ?_
          obtain ⟨e_110, hj_111, hm⟩ := bind_some hm
          refine lv (v := (sptr a_101 (Int.toNat 0 * 1))) rfl rfl (r_idx Try.underlying22 Try.sizeOf3 rfl rfl (at?_some hj_111).1 (at?_some hj_111).2.1 (h_103.addr hj_111)) ?_
          refine lv (v := (.int .i64 e_110)) rfl rfl (r_ld Try.isAgg3 rfl (h_103.atInt hj_111)) ?_
          obtain ⟨r_112, hr_113, hm⟩ := bind_some hm
          refine lc rfl rfl (r_callv2 Try.call72 rfl rfl rfl) (c_order_Degree_1 col_99 _ 1 (by decide) o_14 h_108 e_110 h_109 r_112 hr_113) ?_
          rintro _ w_114 ⟨rfl, hg_115⟩
          refine ⟨_, rfl, ?_⟩
          replace hg_115 : Grow col_99 w_98 col_99 w_114 := .of_below hg_115
          replace h_103 := h_103.gr hg_115
          replace h_107 := h_107.gr hg_115
          replace h_109 := h_109.gr hg_115
          replace hst := hst.grow hg_115
          refine lv (v := (.int .i64 0)) rfl rfl (r_assign rfl) ?_
          refine lv (v := (.int .i64 r_112)) rfl rfl (r_assign rfl) ?_
          refine lnil ?_
          refine wseq ?_
          refine wseq ?_
          refine wregion ?_
          refine lv (v := (.slice a_101 left_100.length cap_102)) rfl rfl (r_move rfl) ?_
          obtain ⟨hb_116, hm⟩ := chk_some hm
          have h_119 := (h_103.que (NB.int (k := .i64))).drop (sz := 1) rfl (Int.toNat 1)
          refine lv (v := .slice (if cap_102 = (Int.toNat 1) then a_101 else a_101.map (·.add ((Int.toNat 1) * 1))) (left_100.length - (Int.toNat 1)) (cap_102 - (Int.toNat 1))) rfl rfl (r_sliceL Try.underlying22 Try.sizeOf3 rfl rfl hb_116.1 hb_116.2) ?_
          generalize (if cap_102 = (Int.toNat 1) then a_101 else a_101.map (·.add ((Int.toNat 1) * 1))) = a_117 at *
          refine .ld (d := 38) (v := (.slice a_117 ((left_100.drop (Int.toNat 1)).length) (cap_102 - (Int.toNat 1)))) (congrArg (fun n => Value.slice a_117 n (cap_102 - (Int.toNat 1))) (List.length_drop (i := (Int.toNat 1)) (l := left_100)).symm) ?_
          refine lv (v := (.int .i64 ((left_100.drop (Int.toNat 1)).length : Int))) rfl rfl (r_len Try.underlying22 rfl) ?_
          refine lv (v := (.int .i64 0)) rfl rfl (r_move rfl) ?_
          refine lnil ?_
          refine wblock ?_
          refine wloop (fun n f w_122 => ∃ (col_123 : Col) (best_124 : Int) (least_125 : Int) (k_120 : Nat) (h_126 : List (List Bool)) (l_121 : List Int), n = l_121.length ∧ (left_100.drop (Int.toNat 1)).drop k_120 = l_121 ∧ m_order_by_v2f72_L4 N left_100 list_104 (m_order_by_v2f72_L3 N n_97) l_121 k_120 best_124 least_125 h_126 = some r ∧ St w0 (col0 col) col_123 w_122 ∧ Own (Rep.int .i64) 3 5 col_123 w_122 a_101 cap_102 left_100 ∧ Own (Rep.int .i64) 3 6 col_123 w_122 a_105 cap_106 list_104 ∧ Que (Rep.int .i64) 3 5 col_123 w_122 a_117 (cap_102 - (Int.toNat 1)) (left_100.drop (Int.toNat 1)) ∧ GO 85 86 1 col_123 w_122 o_14 h_126 ∧ f 40 = (.int .i64 (k_120 : Int)) ∧ f 10 = (.slice a_101 left_100.length cap_102) ∧ f 11 = (.slice a_105 list_104.length cap_106) ∧ f 12 = (.int .i64 best_124) ∧ f 13 = (.int .i64 least_125) ∧ f 2 = (.func (.func 72) #[] #[]) ∧ f 38 = (.slice a_117 ((left_100.drop (Int.toNat 1)).length) (cap_102 - (Int.toNat 1))) ∧ f 39 = (.int .i64 ((left_100.drop (Int.toNat 1)).length : Int)) ∧ f 9 = (.pointer (some ⟨o_14.g, 0, none⟩)) ∧ f 1000000 = (enc [])) (left_100.drop (Int.toNat 1)).length ⟨col_99, 0, r_112, 0, h_108, (left_100.drop (Int.toNat 1)), rfl, rfl, hm, hst, h_103, h_107, h_119, h_109, rfl, rfl, rfl, rfl, rfl, rfl, rfl, rfl, rfl, rfl⟩ ?_
          clear hm; intro n f w_122 hI
          obtain ⟨col_123, best_124, least_125, k_120, h_126, l_121, hn, hl, hm, hst, h_103, h_107, h_119, h_127, hs40, hs10, hs11, hs12, hs13, hs2, hs38, hs39, hs9, hs1000000⟩ := hI
          subst hn
          refine .ld (d := 40) (v := (.int .i64 (k_120 : Int))) hs40 ?_
          refine .ld (d := 10) (v := (.slice a_101 left_100.length cap_102)) hs10 ?_
          refine .ld (d := 11) (v := (.slice a_105 list_104.length cap_106)) hs11 ?_
          refine .ld (d := 12) (v := (.int .i64 best_124)) hs12 ?_
          refine .ld (d := 13) (v := (.int .i64 least_125)) hs13 ?_
          refine .ld (d := 2) (v := (.func (.func 72) #[] #[])) hs2 ?_
          refine .ld (d := 38) (v := (.slice a_117 ((left_100.drop (Int.toNat 1)).length) (cap_102 - (Int.toNat 1)))) hs38 ?_
          refine .ld (d := 39) (v := (.int .i64 ((left_100.drop (Int.toNat 1)).length : Int))) hs39 ?_
          refine .ld (d := 9) (v := (.pointer (some ⟨o_14.g, 0, none⟩))) hs9 ?_
          refine .ld (d := 1000000) (v := (enc [])) hs1000000 ?_
          clear hs40 hs10 hs11 hs12 hs13 hs2 hs38 hs39 hs9 hs1000000
          cases l_121 with
          | nil =>
            have hk : ¬ ((k_120 : Int) < ((left_100.drop (Int.toNat 1)).length : Int)) := by have := List.drop_eq_nil_iff.1 hl; omega
            have hkb := decide_eq_false hk
            rw [m_order_by_v2f72_L4.eq_1] at hm
            refine wseq ?_
            refine wregion ?_
            refine lv (v := (.bool (decide ((k_120 : Int) < ((left_100.drop (Int.toNat 1)).length : Int))))) rfl rfl (r_lss (k_120 : Int) ((left_100.drop (Int.toNat 1)).length : Int) rfl rfl) ?_
            refine lnil ?_
            refine wseq ?_
            refine wcondF (congrArg Value.bool hkb) ?_
            refine wexit (inB_hit ?_)
            refine wseq ?_
            refine wregion ?_
            refine lv (v := (.slice a_105 list_104.length cap_106)) rfl rfl (r_move rfl) ?_
            refine lv (v := (.slice a_101 left_100.length cap_102)) rfl rfl (r_move rfl) ?_
            refine lv (v := (.int .i64 best_124)) rfl rfl (r_move rfl) ?_
            obtain ⟨e_130, hj_131, hm⟩ := bind_some hm
            refine lv (v := (sptr a_101 (Int.toNat best_124 * 1))) rfl rfl (r_idx Try.underlying22 Try.sizeOf3 rfl rfl (at?_some hj_131).1 (at?_some hj_131).2.1 (h_103.addr hj_131)) ?_
            refine lv (v := (.int .i64 e_130)) rfl rfl (r_ld Try.isAgg3 rfl (h_103.atInt hj_131)) ?_
            refine l_lit (col := col_123) (r := (Rep.int .i64)) (xs := [e_130]) [(.int .i64 e_130)] 7 rfl Try.underlying22 el3_71V2F72 rfl rfl rfl rfl rfl rfl (by intro v hv; simp only [List.mem_cons, List.not_mem_nil, or_false] at hv; subst hv; rfl) (RowsH.ofF (Rows.consF (r := (Rep.int .i64)) (x := e_130) (cs := [(.int .i64 e_130)]) (rd_int .i64 e_130) Rows.nil0)) ?_
            intro a_132 w_133 col_134 hg_135 h_136
            replace h_103 := h_103.gr hg_135
            replace h_127 := h_127.gr hg_135
            replace h_107 := h_107.gr hg_135
            replace hst := hst.grow hg_135
            obtain ⟨hb_137, hm⟩ := chk_some hm
            refine l_appendM (col := col_134) (w := w_133) (r := (Rep.int .i64)) (c := 6) (c2 := 6) (xs := list_104) (ys := [e_130]) h_107 (h_136.srcN (NB.int (k := .i64))) rfl Try.underlying22 el3_71V2F72 rfl rfl rfl hb_137.1 hb_137.2 (by decide) ?_
            intro a_138 cap_139 w_140 col_141 hk_142 h_143
            replace h_103 := h_103.kpp hk_142 rfl rfl
            replace h_127 := h_127.kpp hk_142 rfl rfl
            replace h_136 := h_136.kpp hk_142 rfl rfl
            replace hst := hst.kpp hk_142 rfl rfl
            clear h_107
            refine lv (v := (.slice a_138 ((list_104 ++ [e_130]).length) cap_139)) rfl rfl (r_assign rfl) ?_
            refine lnil ?_
            refine wseq ?_
            refine wregion ?_
            refine lv (v := (.pointer (some ⟨o_14.g, 0, none⟩))) rfl rfl (r_move rfl) ?_
            refine lv (v := (.slice a_101 left_100.length cap_102)) rfl rfl (r_move rfl) ?_
            refine lv (v := (.int .i64 best_124)) rfl rfl (r_move rfl) ?_
            refine lv (v := (sptr a_101 (Int.toNat best_124 * 1))) rfl rfl (r_idx Try.underlying22 Try.sizeOf3 rfl rfl (at?_some hj_131).1 (at?_some hj_131).2.1 (h_103.addr hj_131)) ?_
            refine lv (v := (.int .i64 e_130)) rfl rfl (r_ld Try.isAgg3 rfl (h_103.atInt hj_131)) ?_
            obtain ⟨r_144, hr_145, hm⟩ := bind_some hm
            refine lc rfl rfl (r_call2 Try.call17 rfl rfl) (c_graph_Graph_Remove N 8 9 col_141 _ 1 rfl o_14 h_126 e_130 h_127 r_144 hr_145) ?_
            rintro _ w_153 ⟨col_155, ra_146, rc_147, ra_149, rc_150, rfl, hg_154, rh_148, rh_151, oh_152⟩
            refine ⟨_, rfl, ?_⟩
            replace h_103 := h_103.kpp hg_154 rfl rfl
            replace h_143 := h_143.kpp hg_154 rfl rfl
            replace hst := hst.kpp hg_154 rfl rfl
            clear h_127
            refine lnil ?_
            refine wregion ?_
            refine lv (v := (.slice a_101 left_100.length cap_102)) rfl rfl (r_move rfl) ?_
            refine lv (v := (.int .i64 best_124)) rfl rfl (r_move rfl) ?_
            refine lv (v := (.int .i64 best_124)) rfl rfl (r_move rfl) ?_
            refine lv (v := (.int .i64 (IntKind.i64.wrap (best_124 + 1)))) rfl rfl (r_add best_124 1 rfl rfl) ?_
            obtain ⟨r_156, hr_157, hm⟩ := bind_some hm
            refine lc rfl rfl (r_call3 Try.call104 rfl rfl rfl) (c_delete 5 (by decide) col_155 _ a_101 cap_102 left_100 best_124 (IntKind.i64.wrap (best_124 + 1)) h_103 r_156 hr_157) ?_
            rintro _ w_158 ⟨col_159, a_160, cap_161, rfl, hk_162, h_163⟩
            refine ⟨_, rfl, ?_⟩
            replace oh_152 := oh_152.kpp hk_162 rfl rfl
            replace h_143 := h_143.kpp hk_162 rfl rfl
            replace hst := hst.kpp hk_162 rfl rfl
            clear h_103
            refine lv (v := (.slice a_160 r_156.length cap_161)) rfl rfl (r_assign rfl) ?_
            refine lnil ?_
            exact ⟨n_97, by omega, ⟨col_159, a_160, cap_161, r_156, a_138, cap_139, (list_104 ++ [e_130]), r_144.2.2, n_97, rfl, hm, hst, h_163, h_143, oh_152, rfl, rfl, rfl, rfl, rfl⟩⟩
          | cons x_128 l_129 =>
            obtain ⟨hat, hl2, hlt⟩ := drop_get hl
            have hk : (k_120 : Int) < ((left_100.drop (Int.toNat 1)).length : Int) := by omega
            have hkb := decide_eq_true hk
            rw [m_order_by_v2f72_L4.eq_2] at hm
            refine wseq ?_
            refine wregion ?_
            refine lv (v := (.bool (decide ((k_120 : Int) < ((left_100.drop (Int.toNat 1)).length : Int))))) rfl rfl (r_lss (k_120 : Int) ((left_100.drop (Int.toNat 1)).length : Int) rfl rfl) ?_
            refine lnil ?_
            refine wseq ?_
            refine wcondT (congrArg Value.bool hkb) ?_
            refine wskip ?_
            refine wseq ?_
            refine Wp.cut (fun f w_164 => ∃ (col_165 : Col) (best_166 : Int) (least_167 : Int) (h_168 : List (List Bool)), m_order_by_v2f72_J2 k_120 (m_order_by_v2f72_L4 N left_100 list_104 (m_order_by_v2f72_L3 N n_97) l_129) best_166 least_167 h_168 = some r ∧ St w0 (col0 col) col_165 w_164 ∧ Own (Rep.int .i64) 3 5 col_165 w_164 a_101 cap_102 left_100 ∧ Own (Rep.int .i64) 3 6 col_165 w_164 a_105 cap_106 list_104 ∧ Que (Rep.int .i64) 3 5 col_165 w_164 a_117 (cap_102 - (Int.toNat 1)) (left_100.drop (Int.toNat 1)) ∧ GO 85 86 1 col_165 w_164 o_14 h_168 ∧ f 10 = (.slice a_101 left_100.length cap_102) ∧ f 11 = (.slice a_105 list_104.length cap_106) ∧ f 12 = (.int .i64 best_166) ∧ f 13 = (.int .i64 least_167) ∧ f 2 = (.func (.func 72) #[] #[]) ∧ f 38 = (.slice a_117 ((left_100.drop (Int.toNat 1)).length) (cap_102 - (Int.toNat 1))) ∧ f 39 = (.int .i64 ((left_100.drop (Int.toNat 1)).length : Int)) ∧ f 40 = (.int .i64 (k_120 : Int)) ∧ f 9 = (.pointer (some ⟨o_14.g, 0, none⟩)) ∧ f 1000000 = (enc [])) ?_ ?_
            · intro f w_164 hJ
              obtain ⟨col_165, best_166, least_167, h_168, hm, hst, h_103, h_107, h_119, h_169, hs10, hs11, hs12, hs13, hs2, hs38, hs39, hs40, hs9, hs1000000⟩ := hJ
              rw [m_order_by_v2f72_J2.eq_1] at hm
              refine .ld (d := 10) (v := (.slice a_101 left_100.length cap_102)) hs10 ?_
              refine .ld (d := 11) (v := (.slice a_105 list_104.length cap_106)) hs11 ?_
              refine .ld (d := 12) (v := (.int .i64 best_166)) hs12 ?_
              refine .ld (d := 13) (v := (.int .i64 least_167)) hs13 ?_
              refine .ld (d := 2) (v := (.func (.func 72) #[] #[])) hs2 ?_
              refine .ld (d := 38) (v := (.slice a_117 ((left_100.drop (Int.toNat 1)).length) (cap_102 - (Int.toNat 1)))) hs38 ?_
              refine .ld (d := 39) (v := (.int .i64 ((left_100.drop (Int.toNat 1)).length : Int))) hs39 ?_
              refine .ld (d := 40) (v := (.int .i64 (k_120 : Int))) hs40 ?_
              refine .ld (d := 9) (v := (.pointer (some ⟨o_14.g, 0, none⟩))) hs9 ?_
              refine .ld (d := 1000000) (v := (enc [])) hs1000000 ?_
              clear hs10 hs11 hs12 hs13 hs2 hs38 hs39 hs40 hs9 hs1000000
              refine wregion ?_
              refine lv (v := (.int .i64 (IntKind.i64.wrap ((k_120 : Int) + 1)))) rfl rfl (r_add (k_120 : Int) 1 rfl rfl) ?_
              refine lv (v := (.int .i64 (IntKind.i64.wrap ((k_120 : Int) + 1)))) rfl rfl (r_move rfl) ?_
              refine lnil ?_
              exact ⟨l_129.length, by simp, ⟨col_165, best_166, least_167, (k_120 + 1), h_168, l_129, rfl, hl2, hm, hst, h_103, h_107, h_119, h_169, (congrArg (Value.int .i64) (wrap_succ (Nat.lt_of_lt_of_le hlt h_119.len))), rfl, rfl, rfl, rfl, rfl, rfl, rfl, rfl, rfl⟩⟩
            · refine wblock ?_
              refine wseq ?_
              refine wregion ?_
              refine lv (v := (.int .i64 (k_120 : Int))) rfl rfl (r_move rfl) ?_
              refine lv (v := (sptr a_117 (Int.toNat (k_120 : Int) * 1))) rfl rfl (r_idx Try.underlying22 Try.sizeOf3 rfl rfl (at?_some hat).1 (at?_some hat).2.1 (h_119.addr hat)) ?_
              refine lv (v := (.int .i64 x_128)) rfl rfl (r_ld Try.isAgg3 rfl (h_119.atInt hat)) ?_
              refine lv (v := (.int .i64 (k_120 : Int))) rfl rfl (r_assign rfl) ?_
              refine lv (v := (.int .i64 x_128)) rfl rfl (r_assign rfl) ?_
              refine lnil ?_
              refine wseq ?_
              refine wregion ?_
              refine lv (v := (.func (.func 72) #[] #[])) rfl rfl (r_move rfl) ?_
              refine lv (v := (.pointer (some ⟨o_14.g, 0, none⟩))) rfl rfl (r_move rfl) ?_
              refine lv (v := (.int .i64 x_128)) rfl rfl (r_move rfl) ?_
              obtain ⟨r_170, hr_171, hm⟩ := bind_some hm
              refine lc rfl rfl (r_callv2 Try.call72 rfl rfl rfl) (c_order_Degree_1 col_123 _ 1 (by decide) o_14 h_126 x_128 h_127 r_170 hr_171) ?_
              rintro _ w_172 ⟨rfl, hg_173⟩
              refine ⟨_, rfl, ?_⟩
              replace hg_173 : Grow col_123 w_122 col_123 w_172 := .of_below hg_173
              replace h_103 := h_103.gr hg_173
              replace h_107 := h_107.gr hg_173
              replace h_119 := h_119.gr hg_173
              replace h_127 := h_127.gr hg_173
              replace hst := hst.grow hg_173
              refine lv (v := (.int .i64 r_170)) rfl rfl (r_assign rfl) ?_
              refine lnil ?_
              refine wseq ?_
              refine wregion ?_
              refine lv (v := (.int .i64 r_170)) rfl rfl (r_move rfl) ?_
              refine lv (v := (.int .i64 least_125)) rfl rfl (r_move rfl) ?_
              refine lv (v := (.bool (decide (r_170 < least_125)))) rfl rfl (r_lss r_170 least_125 rfl rfl) ?_
              refine lnil ?_
              refine wcond (decide (r_170 < least_125)) rfl (fun hb => ?_) (fun hb => ?_)
              · rw [if_pos hb] at hm
                clear hb
                refine wregion ?_
                refine lv (v := (.int .i64 (k_120 : Int))) rfl rfl (r_move rfl) ?_
                refine lv (v := (.int .i64 (IntKind.i64.wrap ((k_120 : Int) + 1)))) rfl rfl (r_add (k_120 : Int) 1 rfl rfl) ?_
                refine lv (v := (.int .i64 r_170)) rfl rfl (r_move rfl) ?_
                refine lv (v := (.int .i64 (IntKind.i64.wrap ((k_120 : Int) + 1)))) rfl rfl (r_assign rfl) ?_
                refine lv (v := (.int .i64 r_170)) rfl rfl (r_assign rfl) ?_
                refine lnil ?_
                exact ⟨col_123, (IntKind.i64.wrap ((k_120 : Int) + 1)), r_170, h_126, hm, hst, h_103, h_107, h_119, h_127, rfl, rfl, rfl, rfl, rfl, rfl, rfl, rfl, rfl, rfl⟩
              · rw [if_neg (by rw [hb]; decide)] at hm
                clear hb
                refine wskip ?_
                exact ⟨col_123, best_124, least_125, h_126, hm, hst, h_103, h_107, h_119, h_127, rfl, rfl, rfl, rfl, rfl, rfl, rfl, rfl, rfl, rfl⟩
        · rw [if_neg (by rw [hb]; decide)] at hm
          clear hb
          refine wexit (inB_hit ?_)
          refine wseq ?_
          refine wregion ?_
          refine lv (v := (.slice a_105 list_104.length cap_106)) rfl rfl (r_move rfl) ?_
          refine lv (v := (.slice a_105 list_104.length cap_106)) rfl rfl (r_assign rfl) ?_
          refine lv (v := (.int .i64 0)) rfl rfl (r_assign rfl) ?_
          refine lnil ?_
          refine wret ?_
          cases hm
          exact ⟨rfl, colF w0.heap.size col col_99 (fun n => bif Nat.beq n 6 then c1 else 0), a_105, cap_106, rfl, hst.fin (fun n => bif Nat.beq n 6 then c1 else 0), hst.finOwn (g := (fun n => bif Nat.beq n 6 then c1 else 0)) rfl h_107 (by decide) (by decide) rfl⟩




def m_order_Degree (N : Nat) (p0_g : List (List Bool)) (p1_points : (List Int)) : Option ((List Int) × Int) :=
  (m_order_by_v2f72 N p0_g p1_points).bind fun r_1 => some (r_1.1, r_1.2)

set_option maxRecDepth 100000 in
set_option maxHeartbeats 2000000 in
theorem c_order_Degree (N : Nat) (c1 : Nat) (col : Col) (w0 : World) (qc0 : Nat) (hqqc0 : qc0 ≠ 0) (o0 : GObj) (p0_g : List (List Bool)) (a1 : Option Addr) (cap1 : Nat) (p1_points : (List Int)) (h0 : GO 85 86 qc0 col w0 o0 p0_g) (h1 : Sl (Rep.int .i64) col w0 a1 cap1 p1_points) (r : ((List Int) × Int)) (hm : m_order_Degree N p0_g p1_points = some r) :
    Calls Try.prog 33 #[(.pointer (some ⟨o0.g, 0, none⟩)), (.slice a1 p1_points.length cap1)] w0 (fun e w' => ∃ (col' : Col) (ra1 : Option Addr) (rc2 : Nat), e = .returned (.tuple #[(.slice ra1 r.1.length rc2), (.int .i64 r.2)]) ∧ Grow col w0 col' w' ∧ Own (Rep.int .i64) 3 c1 col' w' ra1 rc2 r.1) := by
  refine calls_of2 4 5 (m := 11) (args := [(.pointer (some ⟨o0.g, 0, none⟩)), (.slice a1 p1_points.length cap1)]) Try.func33 rfl rfl rfl rfl rfl ?_
  rw [m_order_Degree.eq_1] at hm
  have hst := St.start col w0
  replace h0 := h0.start0 hqqc0
  replace h1 := h1.keep (Stay.start col w0)
  refine wseq ?_
  refine wregion ?_
  refine lv (v := (.slice none (([] : List Int).length) 0)) rfl rfl (r_assign rfl) ?_
  refine lv (v := (.int .i64 0)) rfl rfl (r_assign rfl) ?_
  refine lnil ?_
  refine wseq ?_
  refine wregion ?_
  refine lv (v := (.pointer (some ⟨o0.g, 0, none⟩))) rfl rfl (r_move rfl) ?_
  refine lv (v := (.slice a1 p1_points.length cap1)) rfl rfl (r_move rfl) ?_
  obtain ⟨r_1, hr_2, hm⟩ := bind_some hm
  refine lc rfl rfl (r_call3 Try.call71 rfl rfl rfl) (c_order_by_v2f72 N 1 (col0 col) _ 999 (by decide) o0 p0_g a1 cap1 p1_points h0 h1 r_1 hr_2) ?_
  rintro _ w_6 ⟨col_8, ra_3, rc_4, rfl, hg_7, rh_5⟩
  refine ⟨_, rfl, ?_⟩
  replace h0 := h0.gr hg_7
  replace h1 := h1.gr hg_7
  replace hst := hst.grow hg_7
  refine lv (v := (.slice ra_3 r_1.1.length rc_4)) rfl rfl (r_extract rfl rfl) ?_
  refine lv (v := (.int .i64 r_1.2)) rfl rfl (r_extract rfl rfl) ?_
  refine lv (v := (.slice ra_3 r_1.1.length rc_4)) rfl rfl (r_assign rfl) ?_
  refine lv (v := (.int .i64 r_1.2)) rfl rfl (r_assign rfl) ?_
  refine lnil ?_
  refine wret ?_
  cases hm
  exact ⟨rfl, colF w0.heap.size col col_8 (fun n => bif Nat.beq n 1 then c1 else 0), ra_3, rc_4, rfl, hst.fin (fun n => bif Nat.beq n 1 then c1 else 0), hst.finOwn (g := (fun n => bif Nat.beq n 1 then c1 else 0)) rfl rh_5 (by decide) (by decide) rfl⟩



set_option maxRecDepth 100000 in
theorem el22_40 : ElemOk Try.prog 22 1 24 := ⟨Try.t22, _, rfl, rfl, rfl, rfl, rfl⟩

def m_order_Cliques_L1  : List Int → (List (List Int)) → Option ((List (List Int)) × Int)
  | [], all_20 => some (all_20, 0)
  | x_24 :: l_25, all_20 => none

def m_order_Cliques_L2 (N : Nat) : List Int → (List (List Bool)) → (List (List Int)) → Option ((List (List Int)) × Int)
  | [], h_30, all_32 => some (all_32, 0)
  | x_36 :: l_37, h_30, all_32 => (m_graph_Graph_Remove N h_30 x_36).bind fun r_38 => chk ((all_32.length + [r_38.1].length) * 24 ≤ 140737488355328 ∧ all_32.length + [r_38.1].length ≤ maxLen) ((m_order_Cliques_L2 N l_37) r_38.2.2 (all_32 ++ [r_38.1]))

def m_order_Cliques (N : Nat) (p0_g : List (List Bool)) (p1_order : (List Int)) : Option ((List (List Int)) × Int) :=
  (m_order_wrong p0_g p1_order).bind fun r_1 => if (!decide (r_1 = 0)) = true then (some (([] : List (List Int)), r_1)) else ((m_order_copied N p0_g).bind fun r_5 => optC (r_5) (m_order_Cliques_L1 p1_order ([] : List (List Int))) (fun t_12 => m_order_Cliques_L2 N p1_order t_12 ([] : List (List Int))))

set_option maxRecDepth 100000 in
set_option maxHeartbeats 2000000 in
theorem c_order_Cliques (N : Nat) (c1 : Nat) (col : Col) (w0 : World) (qc0 : Nat) (hqqc0 : qc0 ≠ 0) (o0 : GObj) (p0_g : List (List Bool)) (a1 : Option Addr) (cap1 : Nat) (p1_order : (List Int)) (h0 : GO 85 86 qc0 col w0 o0 p0_g) (h1 : Sl (Rep.int .i64) col w0 a1 cap1 p1_order) (r : ((List (List Int)) × Int)) (hm : m_order_Cliques N p0_g p1_order = some r) :
    Calls Try.prog 40 #[(.pointer (some ⟨o0.g, 0, none⟩)), (.slice a1 p1_order.length cap1)] w0 (fun e w' => ∃ (col' : Col) (ra1 : Option Addr) (rc2 : Nat), e = .returned (.tuple #[(.slice ra1 r.1.length rc2), (.int .i64 r.2)]) ∧ Grow col w0 col' w' ∧ Own (Rep.row 3 (Rep.int .i64)) 22 c1 col' w' ra1 rc2 r.1) := by
  refine calls_of2 4 5 (m := 39) (args := [(.pointer (some ⟨o0.g, 0, none⟩)), (.slice a1 p1_order.length cap1)]) Try.func40 rfl rfl rfl rfl rfl ?_
  rw [m_order_Cliques.eq_1] at hm
  have hst := St.start col w0
  replace h0 := h0.start0 hqqc0
  replace h1 := h1.keep (Stay.start col w0)
  refine wseq ?_
  refine wregion ?_
  refine lv (v := (.slice none (([] : List (List Int)).length) 0)) rfl rfl (r_assign rfl) ?_
  refine lv (v := (.int .i64 0)) rfl rfl (r_assign rfl) ?_
  refine lnil ?_
  refine wseq ?_
  refine wseq ?_
  refine wregion ?_
  refine lv (v := (.pointer (some ⟨o0.g, 0, none⟩))) rfl rfl (r_move rfl) ?_
  refine lv (v := (.slice a1 p1_order.length cap1)) rfl rfl (r_move rfl) ?_
  obtain ⟨r_1, hr_2, hm⟩ := bind_some hm
  refine lc rfl rfl (r_call2 Try.call75 rfl rfl) (c_order_wrong (col0 col) _ 999 (by decide) o0 p0_g a1 cap1 p1_order h0 h1 r_1 hr_2) ?_
  rintro _ w_3 ⟨rfl, hg_4⟩
  refine ⟨_, rfl, ?_⟩
  replace hg_4 : Grow (col0 col) w0 (col0 col) w_3 := .of_below hg_4
  replace h0 := h0.gr hg_4
  replace h1 := h1.gr hg_4
  replace hst := hst.grow hg_4
  refine lv (v := (.int .i64 r_1)) rfl rfl (r_assign rfl) ?_
  refine lnil ?_
  refine wseq ?_
  refine wregion ?_
  refine lv (v := (.int .i64 r_1)) rfl rfl (r_move rfl) ?_
  refine lv (v := (.bool (!decide (r_1 = 0)))) rfl rfl (r_neq r_1 0 rfl rfl) ?_
  refine lnil ?_
  refine wcond (!decide (r_1 = 0)) rfl (fun hb => ?_) (fun hb => ?_)
  · rw [if_pos hb] at hm
    clear hb
    refine wseq ?_
    refine wregion ?_
    refine lv (v := (.int .i64 r_1)) rfl rfl (r_move rfl) ?_
    refine lv (v := (.slice none (([] : List (List Int)).length) 0)) rfl rfl (r_assign rfl) ?_
    refine lv (v := (.int .i64 r_1)) rfl rfl (r_assign rfl) ?_
    refine lnil ?_
    refine wret ?_
    cases hm
    exact ⟨rfl, colF w0.heap.size col (col0 col) (fun n => 0), none, 0, rfl, hst.fin (fun n => 0), Own.nil⟩
  · rw [if_neg (by rw [hb]; decide)] at hm
    clear hb
    refine wskip ?_
    refine wseq ?_
    refine wregion ?_
    refine lv (v := (.pointer (some ⟨o0.g, 0, none⟩))) rfl rfl (r_move rfl) ?_
    obtain ⟨r_5, hr_6, hm⟩ := bind_some hm
    refine lc rfl rfl (r_call1 Try.call76 rfl) (c_order_copied N 1 (col0 col) _ 999 (by decide) o0 p0_g h0 r_5 hr_6) ?_
    rintro _ w_9 ⟨col_11, rv_7, rfl, hg_10, rh_8⟩
    refine ⟨_, rfl, ?_⟩
    replace h1 := h1.gr hg_10
    replace h0 := h0.gr hg_10
    replace hst := hst.grow hg_10
    cases hx_13 : r_5 with
    | none =>
      rw [hx_13] at hm rh_8
      replace hm := optC_none hm
      obtain rfl := optP_none rh_8
      clear rh_8
      refine lv (v := (.pointer none)) rfl rfl (r_assign rfl) ?_
      refine lnil ?_
      refine wseq ?_
      refine wregion ?_
      refine lv (v := (.slice none (([] : List (List Int)).length) 0)) rfl rfl (r_assign rfl) ?_
      refine lnil ?_
      refine wseq ?_
      refine wseq ?_
      refine wregion ?_
      refine lv (v := (.slice a1 p1_order.length cap1)) rfl rfl (r_move rfl) ?_
      refine lv (v := (.int .i64 (p1_order.length : Int))) rfl rfl (r_len Try.underlying22 rfl) ?_
      refine lv (v := (.int .i64 0)) rfl rfl (r_move rfl) ?_
      refine lnil ?_
      refine wblock ?_
      refine wloop (fun n f w_18 => ∃ (col_19 : Col) (k_16 : Nat) (a_21 : Option Addr) (cap_22 : Nat) (all_20 : List (List Int)) (l_17 : List Int), n = l_17.length ∧ p1_order.drop k_16 = l_17 ∧ m_order_Cliques_L1 l_17 all_20 = some r ∧ St w0 (col0 col) col_19 w_18 ∧ Sl (Rep.int .i64) col_19 w_18 a1 cap1 p1_order ∧ Own (Rep.row 3 (Rep.int .i64)) 22 2 col_19 w_18 a_21 cap_22 all_20 ∧ f 23 = (.int .i64 (k_16 : Int)) ∧ f 21 = (.slice a1 p1_order.length cap1) ∧ f 22 = (.int .i64 (p1_order.length : Int)) ∧ f 7 = (.pointer none) ∧ f 8 = (.slice a_21 all_20.length cap_22) ∧ f 1000000 = (enc [])) p1_order.length ⟨col_11, 0, none, 0, ([] : List (List Int)), p1_order, rfl, rfl, hm, hst, h1, Own.nil, rfl, rfl, rfl, rfl, rfl, rfl⟩ ?_
      clear hm; intro n f w_18 hI
      obtain ⟨col_19, k_16, a_21, cap_22, all_20, l_17, hn, hl, hm, hst, h1, h_23, hs23, hs21, hs22, hs7, hs8, hs1000000⟩ := hI
      subst hn
      refine .ld (d := 23) (v := (.int .i64 (k_16 : Int))) hs23 ?_
      refine .ld (d := 21) (v := (.slice a1 p1_order.length cap1)) hs21 ?_
      refine .ld (d := 22) (v := (.int .i64 (p1_order.length : Int))) hs22 ?_
      refine .ld (d := 7) (v := (.pointer none)) hs7 ?_
      refine .ld (d := 8) (v := (.slice a_21 all_20.length cap_22)) hs8 ?_
      refine .ld (d := 1000000) (v := (enc [])) hs1000000 ?_
      clear hs23 hs21 hs22 hs7 hs8 hs1000000
      cases l_17 with
      | nil =>
        have hk : ¬ ((k_16 : Int) < (p1_order.length : Int)) := by have := List.drop_eq_nil_iff.1 hl; omega
        have hkb := decide_eq_false hk
        rw [m_order_Cliques_L1.eq_1] at hm
        refine wseq ?_
        refine wregion ?_
        refine lv (v := (.bool (decide ((k_16 : Int) < (p1_order.length : Int))))) rfl rfl (r_lss (k_16 : Int) (p1_order.length : Int) rfl rfl) ?_
        refine lnil ?_
        refine wseq ?_
        refine wcondF (congrArg Value.bool hkb) ?_
        refine wexit (inB_hit ?_)
        refine wseq ?_
        refine wregion ?_
        refine lv (v := (.slice a_21 all_20.length cap_22)) rfl rfl (r_move rfl) ?_
        refine lv (v := (.slice a_21 all_20.length cap_22)) rfl rfl (r_assign rfl) ?_
        refine lv (v := (.int .i64 0)) rfl rfl (r_assign rfl) ?_
        refine lnil ?_
        refine wret ?_
        cases hm
        exact ⟨rfl, colF w0.heap.size col col_19 (fun n => bif Nat.beq n 2 then c1 else 0), a_21, cap_22, rfl, hst.fin (fun n => bif Nat.beq n 2 then c1 else 0), hst.finOwn (g := (fun n => bif Nat.beq n 2 then c1 else 0)) rfl h_23 (by decide) (by decide) rfl⟩
      | cons x_24 l_25 =>
        obtain ⟨hat, hl2, hlt⟩ := drop_get hl
        have hk : (k_16 : Int) < (p1_order.length : Int) := by omega
        have hkb := decide_eq_true hk
        rw [m_order_Cliques_L1.eq_2] at hm
        refine wseq ?_
        refine wregion ?_
        refine lv (v := (.bool (decide ((k_16 : Int) < (p1_order.length : Int))))) rfl rfl (r_lss (k_16 : Int) (p1_order.length : Int) rfl rfl) ?_
        refine lnil ?_
        refine wseq ?_
        refine wcondT (congrArg Value.bool hkb) ?_
        refine wskip ?_
        refine wseq ?_
        refine wblock ?_
        refine wseq ?_
        refine wregion ?_
        refine lv (v := (sptr a1 (Int.toNat (k_16 : Int) * 1))) rfl rfl (r_idx Try.underlying22 Try.sizeOf3 rfl rfl (at?_some hat).1 (at?_some hat).2.1 (h1.addr hat)) ?_
        refine lv (v := (.int .i64 x_24)) rfl rfl (r_ld Try.isAgg3 rfl (h1.atInt hat)) ?_
        refine lv (v := (.int .i64 x_24)) rfl rfl (r_assign rfl) ?_
        refine lnil ?_
        refine wseq ?_
        refine wregion ?_
        refine lv (v := (.pointer none)) rfl rfl (r_move rfl) ?_
        refine lv (v := (.int .i64 x_24)) rfl rfl (r_move rfl) ?_
        cases hm
    | some t_12 =>
      rw [hx_13] at hm rh_8
      replace hm := optC_some hm
      obtain ⟨o_14, rfl, hG_15⟩ := optP_some rh_8
      refine lv (v := (.pointer (some ⟨o_14.g, 0, none⟩))) rfl rfl (r_assign rfl) ?_
      refine lnil ?_
      refine wseq ?_
      refine wregion ?_
      refine lv (v := (.slice none (([] : List (List Int)).length) 0)) rfl rfl (r_assign rfl) ?_
      refine lnil ?_
      refine wseq ?_
      refine wseq ?_
      refine wregion ?_
      refine lv (v := (.slice a1 p1_order.length cap1)) rfl rfl (r_move rfl) ?_
      refine lv (v := (.int .i64 (p1_order.length : Int))) rfl rfl (r_len Try.underlying22 rfl) ?_
      refine lv (v := (.int .i64 0)) rfl rfl (r_move rfl) ?_
      refine lnil ?_
      refine wblock ?_
      refine wloop (fun n f w_28 => ∃ (col_29 : Col) (k_26 : Nat) (h_30 : List (List Bool)) (a_33 : Option Addr) (cap_34 : Nat) (all_32 : List (List Int)) (l_27 : List Int), n = l_27.length ∧ p1_order.drop k_26 = l_27 ∧ m_order_Cliques_L2 N l_27 h_30 all_32 = some r ∧ St w0 (col0 col) col_29 w_28 ∧ Sl (Rep.int .i64) col_29 w_28 a1 cap1 p1_order ∧ GO 85 86 1 col_29 w_28 o_14 h_30 ∧ Own (Rep.row 3 (Rep.int .i64)) 22 3 col_29 w_28 a_33 cap_34 all_32 ∧ f 23 = (.int .i64 (k_26 : Int)) ∧ f 21 = (.slice a1 p1_order.length cap1) ∧ f 22 = (.int .i64 (p1_order.length : Int)) ∧ f 7 = (.pointer (some ⟨o_14.g, 0, none⟩)) ∧ f 8 = (.slice a_33 all_32.length cap_34) ∧ f 1000000 = (enc [])) p1_order.length ⟨col_11, 0, t_12, none, 0, ([] : List (List Int)), p1_order, rfl, rfl, hm, hst, h1, hG_15, Own.nil, rfl, rfl, rfl, rfl, rfl, rfl⟩ ?_
      clear hm; intro n f w_28 hI
      obtain ⟨col_29, k_26, h_30, a_33, cap_34, all_32, l_27, hn, hl, hm, hst, h1, h_31, h_35, hs23, hs21, hs22, hs7, hs8, hs1000000⟩ := hI
      subst hn
      refine .ld (d := 23) (v := (.int .i64 (k_26 : Int))) hs23 ?_
      refine .ld (d := 21) (v := (.slice a1 p1_order.length cap1)) hs21 ?_
      refine .ld (d := 22) (v := (.int .i64 (p1_order.length : Int))) hs22 ?_
      refine .ld (d := 7) (v := (.pointer (some ⟨o_14.g, 0, none⟩))) hs7 ?_
      refine .ld (d := 8) (v := (.slice a_33 all_32.length cap_34)) hs8 ?_
      refine .ld (d := 1000000) (v := (enc [])) hs1000000 ?_
      clear hs23 hs21 hs22 hs7 hs8 hs1000000
      cases l_27 with
      | nil =>
        have hk : ¬ ((k_26 : Int) < (p1_order.length : Int)) := by have := List.drop_eq_nil_iff.1 hl; omega
        have hkb := decide_eq_false hk
        rw [m_order_Cliques_L2.eq_1] at hm
        refine wseq ?_
        refine wregion ?_
        refine lv (v := (.bool (decide ((k_26 : Int) < (p1_order.length : Int))))) rfl rfl (r_lss (k_26 : Int) (p1_order.length : Int) rfl rfl) ?_
        refine lnil ?_
        refine wseq ?_
        refine wcondF (congrArg Value.bool hkb) ?_
        refine wexit (inB_hit ?_)
        refine wseq ?_
        refine wregion ?_
        refine lv (v := (.slice a_33 all_32.length cap_34)) rfl rfl (r_move rfl) ?_
        refine lv (v := (.slice a_33 all_32.length cap_34)) rfl rfl (r_assign rfl) ?_
        refine lv (v := (.int .i64 0)) rfl rfl (r_assign rfl) ?_
        refine lnil ?_
        refine wret ?_
        cases hm
        exact ⟨rfl, colF w0.heap.size col col_29 (fun n => bif Nat.beq n 3 then c1 else 0), a_33, cap_34, rfl, hst.fin (fun n => bif Nat.beq n 3 then c1 else 0), hst.finOwn (g := (fun n => bif Nat.beq n 3 then c1 else 0)) rfl h_35 (by decide) (by decide) rfl⟩
      | cons x_36 l_37 =>
        obtain ⟨hat, hl2, hlt⟩ := drop_get hl
        have hk : (k_26 : Int) < (p1_order.length : Int) := by omega
        have hkb := decide_eq_true hk
        rw [m_order_Cliques_L2.eq_2] at hm
        refine wseq ?_
        refine wregion ?_
        refine lv (v := (.bool (decide ((k_26 : Int) < (p1_order.length : Int))))) rfl rfl (r_lss (k_26 : Int) (p1_order.length : Int) rfl rfl) ?_
        refine lnil ?_
        refine wseq ?_
        refine wcondT (congrArg Value.bool hkb) ?_
        refine wskip ?_
        refine wseq ?_
        refine wblock ?_
        refine wseq ?_
        refine wregion ?_
        refine lv (v := (sptr a1 (Int.toNat (k_26 : Int) * 1))) rfl rfl (r_idx Try.underlying22 Try.sizeOf3 rfl rfl (at?_some hat).1 (at?_some hat).2.1 (h1.addr hat)) ?_
        refine lv (v := (.int .i64 x_36)) rfl rfl (r_ld Try.isAgg3 rfl (h1.atInt hat)) ?_
        refine lv (v := (.int .i64 x_36)) rfl rfl (r_assign rfl) ?_
        refine lnil ?_
        refine wseq ?_
        refine wregion ?_
        refine lv (v := (.pointer (some ⟨o_14.g, 0, none⟩))) rfl rfl (r_move rfl) ?_
        refine lv (v := (.int .i64 x_36)) rfl rfl (r_move rfl) ?_
        obtain ⟨r_38, hr_39, hm⟩ := bind_some hm
        refine lc rfl rfl (r_call2 Try.call17 rfl rfl) (c_graph_Graph_Remove N 4 5 col_29 _ 1 rfl o_14 h_30 x_36 h_31 r_38 hr_39) ?_
        rintro _ w_47 ⟨col_49, ra_40, rc_41, ra_43, rc_44, rfl, hg_48, rh_42, rh_45, oh_46⟩
        refine ⟨_, rfl, ?_⟩
        replace h1 := h1.kpp hg_48 rfl
        replace h_35 := h_35.kpp hg_48 rfl rfl
        replace hst := hst.kpp hg_48 rfl rfl
        clear h_31
        refine lv (v := (.tuple #[(.slice ra_40 r_38.1.length rc_41), (.slice ra_43 r_38.2.1.length rc_44)])) rfl rfl (r_move rfl) ?_
        refine lv (v := (.slice ra_40 r_38.1.length rc_41)) rfl rfl (r_extract rfl rfl) ?_
        refine lv (v := (.slice ra_43 r_38.2.1.length rc_44)) rfl rfl (r_extract rfl rfl) ?_
        refine lv (v := (.slice ra_40 r_38.1.length rc_41)) rfl rfl (r_assign rfl) ?_
        refine lv (v := (.slice ra_43 r_38.2.1.length rc_44)) rfl rfl (r_assign rfl) ?_
        refine lnil ?_
        refine wregion ?_
        refine lv (v := (.slice a_33 all_32.length cap_34)) rfl rfl (r_move rfl) ?_
        refine lv (v := (.slice ra_40 r_38.1.length rc_41)) rfl rfl (r_move rfl) ?_
        refine l_lit (col := col_49) (r := (Rep.row 3 (Rep.int .i64))) (xs := [r_38.1]) [(.slice ra_40 r_38.1.length rc_41)] 4 rfl Try.underlying33 el22_40 rfl rfl rfl rfl rfl rfl (by intro v hv; simp only [List.mem_cons, List.not_mem_nil, or_false] at hv; subst hv; rfl) (RowsH.cons1 (cs := [(.slice ra_40 r_38.1.length rc_41)]) rh_42.has Rows.nil0) ?_
        intro a_50 w_51 col_52 hg_53 h_54
        replace h1 := h1.gr hg_53
        replace oh_46 := oh_46.gr hg_53
        replace h_35 := h_35.gr hg_53
        replace rh_42 := rh_42.gr hg_53
        replace hst := hst.grow hg_53
        obtain ⟨hb_55, hm⟩ := chk_some hm
        refine l_appendM (col := col_52) (w := w_51) (r := (Rep.row 3 (Rep.int .i64))) (c := 3) (c2 := 4) (xs := all_32) (ys := [r_38.1]) h_35 (h_54.srcC (by decide)) rfl Try.underlying33 el22_40 rfl rfl rfl hb_55.1 hb_55.2 (by decide) ?_
        intro a_56 cap_57 w_58 col_59 hk_60 h_61
        replace h1 := h1.kpp hk_60 rfl
        replace oh_46 := oh_46.kpp hk_60 rfl rfl
        clear h_54
        replace hst := hst.kpp hk_60 rfl rfl
        clear h_35
        refine lv (v := (.slice a_56 ((all_32 ++ [r_38.1]).length) cap_57)) rfl rfl (r_assign rfl) ?_
        refine lnil ?_
        refine wregion ?_
        refine lv (v := (.int .i64 (IntKind.i64.wrap ((k_26 : Int) + 1)))) rfl rfl (r_add (k_26 : Int) 1 rfl rfl) ?_
        refine lv (v := (.int .i64 (IntKind.i64.wrap ((k_26 : Int) + 1)))) rfl rfl (r_move rfl) ?_
        refine lnil ?_
        exact ⟨l_37.length, by simp, ⟨col_59, (k_26 + 1), r_38.2.2, a_56, cap_57, (all_32 ++ [r_38.1]), l_37, rfl, hl2, hm, hst, h1, oh_46, h_61, (congrArg (Value.int .i64) (wrap_succ (Nat.lt_of_lt_of_le hlt h1.1.1))), rfl, rfl, rfl, rfl, rfl⟩⟩




def m_order_Width_L1 (r_1 : ((List (List Int)) × Int)) : List (List Int) → Int → Option (Int × Int)
  | [], most_13 => some (IntKind.i64.wrap (most_13 - 1), r_1.2)
  | x_14 :: l_15, most_13 => (m_order_Width_L1 r_1 l_15) (if (x_14.length : Int) > most_13 then (x_14.length : Int) else most_13)

def m_order_Width (N : Nat) (p0_g : List (List Bool)) (p1_order : (List Int)) : Option (Int × Int) :=
  (m_order_Cliques N p0_g p1_order).bind fun r_1 => m_order_Width_L1 r_1 r_1.1 1

set_option maxRecDepth 100000 in
set_option maxHeartbeats 2000000 in
theorem c_order_Width (N : Nat) (col : Col) (w0 : World) (qc0 : Nat) (hqqc0 : qc0 ≠ 0) (o0 : GObj) (p0_g : List (List Bool)) (a1 : Option Addr) (cap1 : Nat) (p1_order : (List Int)) (h0 : GO 85 86 qc0 col w0 o0 p0_g) (h1 : Sl (Rep.int .i64) col w0 a1 cap1 p1_order) (r : (Int × Int)) (hm : m_order_Width N p0_g p1_order = some r) :
    Calls Try.prog 42 #[(.pointer (some ⟨o0.g, 0, none⟩)), (.slice a1 p1_order.length cap1)] w0 (fun e w' => e = .returned (.tuple #[(.int .i64 r.1), (.int .i64 r.2)]) ∧ Below w0.heap.size w0 w') := by
  refine calls_of2 4 5 (m := 31) (args := [(.pointer (some ⟨o0.g, 0, none⟩)), (.slice a1 p1_order.length cap1)]) Try.func42 rfl rfl rfl rfl rfl ?_
  rw [m_order_Width.eq_1] at hm
  have hst := St.start col w0
  replace h0 := h0.start0 hqqc0
  replace h1 := h1.keep (Stay.start col w0)
  refine wseq ?_
  refine wregion ?_
  refine lv (v := (.int .i64 0)) rfl rfl (r_assign rfl) ?_
  refine lv (v := (.int .i64 0)) rfl rfl (r_assign rfl) ?_
  refine lnil ?_
  refine wseq ?_
  refine wregion ?_
  refine lv (v := (.pointer (some ⟨o0.g, 0, none⟩))) rfl rfl (r_move rfl) ?_
  refine lv (v := (.slice a1 p1_order.length cap1)) rfl rfl (r_move rfl) ?_
  obtain ⟨r_1, hr_2, hm⟩ := bind_some hm
  refine lc rfl rfl (r_call2 Try.call40 rfl rfl) (c_order_Cliques N 1 (col0 col) _ 999 (by decide) o0 p0_g a1 cap1 p1_order h0 h1 r_1 hr_2) ?_
  rintro _ w_6 ⟨col_8, ra_3, rc_4, rfl, hg_7, rh_5⟩
  refine ⟨_, rfl, ?_⟩
  replace h0 := h0.gr hg_7
  replace h1 := h1.gr hg_7
  replace hst := hst.grow hg_7
  refine lv (v := (.tuple #[(.slice ra_3 r_1.1.length rc_4), (.int .i64 r_1.2)])) rfl rfl (r_move rfl) ?_
  refine lv (v := (.slice ra_3 r_1.1.length rc_4)) rfl rfl (r_extract rfl rfl) ?_
  refine lv (v := (.int .i64 r_1.2)) rfl rfl (r_extract rfl rfl) ?_
  refine lv (v := (.slice ra_3 r_1.1.length rc_4)) rfl rfl (r_assign rfl) ?_
  refine lv (v := (.int .i64 r_1.2)) rfl rfl (r_assign rfl) ?_
  refine lnil ?_
  refine wseq ?_
  refine wregion ?_
  refine lv (v := (.int .i64 1)) rfl rfl (r_assign rfl) ?_
  refine lnil ?_
  refine wseq ?_
  refine wseq ?_
  refine wregion ?_
  refine lv (v := (.slice ra_3 r_1.1.length rc_4)) rfl rfl (r_move rfl) ?_
  refine lv (v := (.int .i64 (r_1.1.length : Int))) rfl rfl (r_len Try.underlying33 rfl) ?_
  refine lv (v := (.int .i64 0)) rfl rfl (r_move rfl) ?_
  refine lnil ?_
  refine wblock ?_
  refine wloop (fun n f w_11 => ∃ (col_12 : Col) (k_9 : Nat) (most_13 : Int) (l_10 : List (List Int)), n = l_10.length ∧ r_1.1.drop k_9 = l_10 ∧ m_order_Width_L1 r_1 l_10 most_13 = some r ∧ St w0 (col0 col) col_12 w_11 ∧ Own (Rep.row 3 (Rep.int .i64)) 22 1 col_12 w_11 ra_3 rc_4 r_1.1 ∧ f 19 = (.int .i64 (k_9 : Int)) ∧ f 17 = (.slice ra_3 r_1.1.length rc_4) ∧ f 18 = (.int .i64 (r_1.1.length : Int)) ∧ f 7 = (.int .i64 r_1.2) ∧ f 8 = (.int .i64 most_13) ∧ f 1000000 = (enc [])) r_1.1.length ⟨col_8, 0, 1, r_1.1, rfl, rfl, hm, hst, rh_5, rfl, rfl, rfl, rfl, rfl, rfl⟩ ?_
  clear hm; intro n f w_11 hI
  obtain ⟨col_12, k_9, most_13, l_10, hn, hl, hm, hst, rh_5, hs19, hs17, hs18, hs7, hs8, hs1000000⟩ := hI
  subst hn
  refine .ld (d := 19) (v := (.int .i64 (k_9 : Int))) hs19 ?_
  refine .ld (d := 17) (v := (.slice ra_3 r_1.1.length rc_4)) hs17 ?_
  refine .ld (d := 18) (v := (.int .i64 (r_1.1.length : Int))) hs18 ?_
  refine .ld (d := 7) (v := (.int .i64 r_1.2)) hs7 ?_
  refine .ld (d := 8) (v := (.int .i64 most_13)) hs8 ?_
  refine .ld (d := 1000000) (v := (enc [])) hs1000000 ?_
  clear hs19 hs17 hs18 hs7 hs8 hs1000000
  cases l_10 with
  | nil =>
    have hk : ¬ ((k_9 : Int) < (r_1.1.length : Int)) := by have := List.drop_eq_nil_iff.1 hl; omega
    have hkb := decide_eq_false hk
    rw [m_order_Width_L1.eq_1] at hm
    refine wseq ?_
    refine wregion ?_
    refine lv (v := (.bool (decide ((k_9 : Int) < (r_1.1.length : Int))))) rfl rfl (r_lss (k_9 : Int) (r_1.1.length : Int) rfl rfl) ?_
    refine lnil ?_
    refine wseq ?_
    refine wcondF (congrArg Value.bool hkb) ?_
    refine wexit (inB_hit ?_)
    refine wseq ?_
    refine wregion ?_
    refine lv (v := (.int .i64 most_13)) rfl rfl (r_move rfl) ?_
    refine lv (v := (.int .i64 (IntKind.i64.wrap (most_13 - 1)))) rfl rfl (r_sub most_13 1 rfl rfl) ?_
    refine lv (v := (.int .i64 r_1.2)) rfl rfl (r_move rfl) ?_
    refine lv (v := (.int .i64 (IntKind.i64.wrap (most_13 - 1)))) rfl rfl (r_assign rfl) ?_
    refine lv (v := (.int .i64 r_1.2)) rfl rfl (r_assign rfl) ?_
    refine lnil ?_
    refine wret ?_
    cases hm
    exact ⟨rfl, rfl, hst.below⟩
  | cons x_14 l_15 =>
    obtain ⟨hat, hl2, hlt⟩ := drop_get hl
    have hk : (k_9 : Int) < (r_1.1.length : Int) := by omega
    have hkb := decide_eq_true hk
    rw [m_order_Width_L1.eq_2] at hm
    refine wseq ?_
    refine wregion ?_
    refine lv (v := (.bool (decide ((k_9 : Int) < (r_1.1.length : Int))))) rfl rfl (r_lss (k_9 : Int) (r_1.1.length : Int) rfl rfl) ?_
    refine lnil ?_
    refine wseq ?_
    refine wcondT (congrArg Value.bool hkb) ?_
    refine wskip ?_
    refine wseq ?_
    refine wblock ?_
    refine wseq ?_
    refine wregion ?_
    refine lv (v := (sptr ra_3 (Int.toNat (k_9 : Int) * 1))) rfl rfl (r_idx Try.underlying33 Try.sizeOf22 rfl rfl (at?_some hat).1 (at?_some hat).2.1 (rh_5.addr hat)) ?_
    obtain ⟨_, hr_16, hA_17⟩ := rh_5.atN hat
    obtain ⟨a_18, cap_19, rfl, h_20⟩ := hr_16.row
    refine lv (v := (.slice a_18 x_14.length cap_19)) rfl rfl (r_ld Try.isAgg22 rfl hA_17.one) ?_
    refine lv (v := (.slice a_18 x_14.length cap_19)) rfl rfl (r_assign rfl) ?_
    refine lnil ?_
    refine wregion ?_
    refine lv (v := (.int .i64 most_13)) rfl rfl (r_move rfl) ?_
    refine lv (v := (.slice a_18 x_14.length cap_19)) rfl rfl (r_move rfl) ?_
    refine lv (v := (.int .i64 (x_14.length : Int))) rfl rfl (r_len Try.underlying22 rfl) ?_
    refine lv (v := (.int .i64 (if (x_14.length : Int) > most_13 then (x_14.length : Int) else most_13))) rfl rfl (r_max most_13 (x_14.length : Int) rfl rfl) ?_
    refine lv (v := (.int .i64 (if (x_14.length : Int) > most_13 then (x_14.length : Int) else most_13))) rfl rfl (r_assign rfl) ?_
    refine lnil ?_
    refine wregion ?_
    refine lv (v := (.int .i64 (IntKind.i64.wrap ((k_9 : Int) + 1)))) rfl rfl (r_add (k_9 : Int) 1 rfl rfl) ?_
    refine lv (v := (.int .i64 (IntKind.i64.wrap ((k_9 : Int) + 1)))) rfl rfl (r_move rfl) ?_
    refine lnil ?_
    exact ⟨l_15.length, by simp, ⟨col_12, (k_9 + 1), (if (x_14.length : Int) > most_13 then (x_14.length : Int) else most_13), l_15, rfl, hl2, hm, hst, rh_5, (congrArg (Value.int .i64) (wrap_succ (Nat.lt_of_lt_of_le hlt rh_5.len))), rfl, rfl, rfl, rfl, rfl⟩⟩


end Go.Proofs.Ytgkofjmeopbkbaa
