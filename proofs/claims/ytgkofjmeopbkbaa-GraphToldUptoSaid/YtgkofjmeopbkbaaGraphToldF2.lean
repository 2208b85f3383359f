/-
  What functions of the program compute, as plain Lean functions (m_..), and proofs that they compute it (c_..). Printed by a program of the author; no conditions.
-/
import Derived.Test.YtgkofjmeopbkbaaGraphToldBFloat
import Derived.Test.YtgkofjmeopbkbaaProg
import Derived.Test.YtgkofjmeopbkbaaGraphToldBBfs
import Derived.Test.YtgkofjmeopbkbaaGraphToldBGraph
import Derived.Test.YtgkofjmeopbkbaaGraphToldF1
set_option linter.unusedVariables false
namespace Go.Proofs.Ytgkofjmeopbkbaa
open Go Go.RowKit


set_option maxRecDepth 100000 in
theorem el3_27 : ElemOk Try.prog 3 1 8 := ⟨Try.t3, _, rfl, rfl, rfl, rfl, rfl⟩
set_option maxRecDepth 100000 in
theorem el22_27 : ElemOk Try.prog 22 1 24 := ⟨Try.t22, _, rfl, rfl, rfl, rfl, rfl⟩

def m_graph_Graph_Pieces_J1 (v_14 : Int) (kk_L1 : (Int → (List (List Int)) → (List Bool) → Option (List (List Int)))) (all_25 : List (List Int)) (seen_29 : List Bool) : Option (List (List Int)) :=
  kk_L1 (IntKind.i64.wrap (v_14 + 1)) all_25 seen_29

def m_graph_Graph_Pieces_L1 (N : Nat) (p0_g : List (List Bool)) : Nat → Int → (List (List Int)) → (List Bool) → Option (List (List Int))
  | 0, _, _, _ => none
  | n_11 + 1, v_14, all_15, seen_19 => if (decide (v_14 < (p0_g.length : Int))) = true then ((at? seen_19 v_14).bind fun e_33 => if e_33 = true then (m_graph_Graph_Pieces_J1 v_14 (m_graph_Graph_Pieces_L1 N p0_g n_11) all_15 seen_19) else ((some (seen_19.set (Int.toNat v_14) true)).bind fun xs_40 => chk (xs_40.length = p0_g.length ∧ gat xs_40 v_14 = true ∧ (0 ≤ v_14 ∧ v_14 < (p0_g.length : Int)) ∧ True ∧ p0_g.length ≤ 1048576) ((bfs p0_g N xs_40 [v_14] 0).bind fun q_47 => (lib_sort q_47.2).bind fun r_91 => chk ((all_15.length + [r_91].length) * 24 ≤ 140737488355328 ∧ all_15.length + [r_91].length ≤ maxLen) (m_graph_Graph_Pieces_J1 v_14 (m_graph_Graph_Pieces_L1 N p0_g n_11) (all_15 ++ [r_91]) q_47.1)))) else (some all_15)

def m_graph_Graph_Pieces (N : Nat) (p0_g : List (List Bool)) : Option (List (List Int)) :=
  (m_graph_Graph_Len p0_g).bind fun r_1 => chk ((Int.toNat r_1) * 1 ≤ 281474976710656 ∧ (Int.toNat r_1) ≤ maxLen ∧ 0 ≤ r_1) (m_graph_Graph_Pieces_L1 N p0_g N 0 ([] : List (List Int)) (List.replicate (Int.toNat r_1) (false : Bool)))

set_option maxRecDepth 100000 in
set_option maxHeartbeats 2000000 in
theorem c_graph_Graph_Pieces (N : Nat) (c1 : Nat) (col : Col) (w0 : World) (qc0 : Nat) (hqqc0 : qc0 ≠ 0) (o0 : GObj) (p0_g : List (List Bool)) (h0 : GO 85 86 qc0 col w0 o0 p0_g) (r : (List (List Int))) (hm : m_graph_Graph_Pieces N p0_g = some r) :
    Calls Try.prog 27 #[(.pointer (some ⟨o0.g, 0, none⟩))] w0 (fun e w' => ∃ (col' : Col) (ra1 : Option Addr) (rc2 : Nat), e = .returned ((.slice ra1 r.length rc2)) ∧ Grow col w0 col' w' ∧ Own (Rep.row 3 (Rep.int .i64)) 22 c1 col' w' ra1 rc2 r) := by
  refine calls_of1 2 (m := 70) (args := [(.pointer (some ⟨o0.g, 0, none⟩))]) Try.func27 rfl rfl rfl rfl rfl ?_
  rw [m_graph_Graph_Pieces.eq_1] at hm
  have hst := St.start col w0
  replace h0 := h0.start0 hqqc0
  refine wseq ?_
  refine wregion ?_
  refine lv (v := (.slice none (([] : List (List Int)).length) 0)) rfl rfl (r_assign rfl) ?_
  refine lnil ?_
  refine wseq ?_
  refine wregion ?_
  refine lv (v := (.slice none (([] : List (List Int)).length) 0)) rfl rfl (r_assign rfl) ?_
  refine lnil ?_
  refine wseq ?_
  refine wregion ?_
  refine lv (v := (.pointer (some ⟨o0.g, 0, none⟩))) rfl rfl (r_move rfl) ?_
  obtain ⟨r_1, hr_2, hm⟩ := bind_some hm
  refine lc rfl rfl (r_call1 Try.call15 rfl) (c_graph_Graph_Len (col0 col) _ 999 (by decide) o0 p0_g h0 r_1 hr_2) ?_
  rintro _ w_3 ⟨rfl, hg_4⟩
  refine ⟨_, rfl, ?_⟩
  replace hg_4 : Grow (col0 col) w0 (col0 col) w_3 := .of_below hg_4
  replace h0 := h0.gr hg_4
  replace hst := hst.grow hg_4
  obtain ⟨hb_5, hm⟩ := chk_some hm
  refine l_make (col := (col0 col)) (w := w_3) (r := Rep.bool) (n := (Int.toNat r_1)) (x0 := false) 1 rfl Try.underlying26 Try.t4 rfl rfl rfl rfl rfl (congrArg (Value.int _) (Int.toNat_of_nonneg hb_5.2.2).symm) (congrArg (Value.int _) (Int.toNat_of_nonneg hb_5.2.2).symm) hb_5.1 hb_5.2.1 (rd_bool false) ?_
  intro a_6 w_7 col_8 hg_9 h_10
  replace h0 := h0.gr hg_9
  replace hst := hst.grow hg_9
  refine lv (v := (.slice a_6 ((List.replicate (Int.toNat r_1) (false : Bool)).length) (Int.toNat r_1))) rfl rfl (r_assign rfl) ?_
  refine lnil ?_
  refine wseq ?_
  refine wseq ?_
  refine wregion ?_
  refine lv (v := (.pointer (some ⟨o0.g, 0, none⟩))) rfl rfl (r_move rfl) ?_
  refine lv (v := (.pointer (some ⟨o0.g, 0, none⟩))) rfl rfl (r_nilCheck rfl) ?_
  refine lv (v := (.pointer ((some (⟨o0.g, 0, none⟩ : Addr)).map (·.add 0)))) rfl rfl (r_fieldAddr (sz := 1) (off := 0) Try.underlying85 rfl Try.sizeOf83 (by decide) rfl rfl ⟨_, _, rfl⟩) ?_
  refine lv (v := (.slice o0.a p0_g.length o0.cap)) rfl rfl (r_ld Try.isAgg83 rfl ((h0.box.atN).nth (q := 0) (v := (.slice o0.a p0_g.length o0.cap)) rfl)) ?_
  refine lv (v := (.int .i64 (p0_g.length : Int))) rfl rfl (r_len Try.underlying83 rfl) ?_
  refine lv (v := (.int .i64 0)) rfl rfl (r_move rfl) ?_
  refine lnil ?_
  refine wblock ?_
  refine wloop (fun n f w_12 => ∃ (col_13 : Col) (v_14 : Int) (a_16 : Option Addr) (cap_17 : Nat) (all_15 : List (List Int)) (a_20 : Option Addr) (cap_21 : Nat) (seen_19 : List Bool) (n_11 : Nat), n_11 = n ∧ m_graph_Graph_Pieces_L1 N p0_g n_11 v_14 all_15 seen_19 = some r ∧ St w0 (col0 col) col_13 w_12 ∧ GO 85 86 999 col_13 w_12 o0 p0_g ∧ Own (Rep.row 3 (Rep.int .i64)) 22 2 col_13 w_12 a_16 cap_17 all_15 ∧ Own Rep.bool 4 1 col_13 w_12 a_20 cap_21 seen_19 ∧ f 0 = (.pointer (some ⟨o0.g, 0, none⟩)) ∧ f 16 = (.int .i64 (p0_g.length : Int)) ∧ f 17 = (.int .i64 v_14) ∧ f 3 = (.slice a_16 all_15.length cap_17) ∧ f 4 = (.slice a_20 seen_19.length cap_21) ∧ f 1000000 = (enc [])) N ⟨col_8, 0, none, 0, ([] : List (List Int)), a_6, (Int.toNat r_1), (List.replicate (Int.toNat r_1) (false : Bool)), N, rfl, hm, hst, h0, Own.nil, h_10, rfl, rfl, rfl, rfl, rfl, rfl⟩ ?_
  clear hm; intro n f w_12 hI
  obtain ⟨col_13, v_14, a_16, cap_17, all_15, a_20, cap_21, seen_19, n_11, hn, hm, hst, h0, h_18, h_22, hs0, hs16, hs17, hs3, hs4, hs1000000⟩ := hI
  subst hn
  refine .ld (d := 0) (v := (.pointer (some ⟨o0.g, 0, none⟩))) hs0 ?_
  refine .ld (d := 16) (v := (.int .i64 (p0_g.length : Int))) hs16 ?_
  refine .ld (d := 17) (v := (.int .i64 v_14)) hs17 ?_
  refine .ld (d := 3) (v := (.slice a_16 all_15.length cap_17)) hs3 ?_
  refine .ld (d := 4) (v := (.slice a_20 seen_19.length cap_21)) hs4 ?_
  refine .ld (d := 1000000) (v := (enc [])) hs1000000 ?_
  clear hs0 hs16 hs17 hs3 hs4 hs1000000
  cases n_11 with
  | zero => rw [m_graph_Graph_Pieces_L1.eq_1] at hm; cases hm
  | succ n_11 =>
    rw [m_graph_Graph_Pieces_L1.eq_2] at hm
    refine wseq ?_
    refine wregion ?_
    refine lv (v := (.bool (decide (v_14 < (p0_g.length : Int))))) rfl rfl (r_lss v_14 (p0_g.length : Int) rfl rfl) ?_
    refine lnil ?_
    refine wseq ?_
    refine wcond (decide (v_14 < (p0_g.length : Int))) rfl (fun hb => ?_) (fun hb => ?_)
    · rw [if_pos hb] at hm
      clear hb
      refine wskip ?_
      refine wseq ?_
      refine Wp.cut (fun f w_23 => ∃ (col_24 : Col) (a_26 : Option Addr) (cap_27 : Nat) (all_25 : List (List Int)) (a_30 : Option Addr) (cap_31 : Nat) (seen_29 : List Bool), m_graph_Graph_Pieces_J1 v_14 (m_graph_Graph_Pieces_L1 N p0_g n_11) all_25 seen_29 = some r ∧ St w0 (col0 col) col_24 w_23 ∧ GO 85 86 999 col_24 w_23 o0 p0_g ∧ Own (Rep.row 3 (Rep.int .i64)) 22 2 col_24 w_23 a_26 cap_27 all_25 ∧ Own Rep.bool 4 1 col_24 w_23 a_30 cap_31 seen_29 ∧ f 0 = (.pointer (some ⟨o0.g, 0, none⟩)) ∧ f 16 = (.int .i64 (p0_g.length : Int)) ∧ f 17 = (.int .i64 v_14) ∧ f 3 = (.slice a_26 all_25.length cap_27) ∧ f 4 = (.slice a_30 seen_29.length cap_31) ∧ f 1000000 = (enc [])) ?_ ?_
      · intro f w_23 hJ
        obtain ⟨col_24, a_26, cap_27, all_25, a_30, cap_31, seen_29, hm, hst, h0, h_28, h_32, hs0, hs16, hs17, hs3, hs4, hs1000000⟩ := hJ
        rw [m_graph_Graph_Pieces_J1.eq_1] at hm
        refine .ld (d := 0) (v := (.pointer (some ⟨o0.g, 0, none⟩))) hs0 ?_
        refine .ld (d := 16) (v := (.int .i64 (p0_g.length : Int))) hs16 ?_
        refine .ld (d := 17) (v := (.int .i64 v_14)) hs17 ?_
        refine .ld (d := 3) (v := (.slice a_26 all_25.length cap_27)) hs3 ?_
        refine .ld (d := 4) (v := (.slice a_30 seen_29.length cap_31)) hs4 ?_
        refine .ld (d := 1000000) (v := (enc [])) hs1000000 ?_
        clear hs0 hs16 hs17 hs3 hs4 hs1000000
        refine wregion ?_
        refine lv (v := (.int .i64 (IntKind.i64.wrap (v_14 + 1)))) rfl rfl (r_add v_14 1 rfl rfl) ?_
        refine lv (v := (.int .i64 (IntKind.i64.wrap (v_14 + 1)))) rfl rfl (r_move rfl) ?_
        refine lnil ?_
        exact ⟨n_11, by omega, ⟨col_24, (IntKind.i64.wrap (v_14 + 1)), a_26, cap_27, all_25, a_30, cap_31, seen_29, n_11, rfl, hm, hst, h0, h_28, h_32, rfl, rfl, rfl, rfl, rfl, rfl⟩⟩
      · refine wblock ?_
        refine wseq ?_
        refine wregion ?_
        refine lv (v := (.int .i64 v_14)) rfl rfl (r_move rfl) ?_
        refine lv (v := (.int .i64 v_14)) rfl rfl (r_assign rfl) ?_
        refine lnil ?_
        refine wseq ?_
        refine wseq ?_
        refine wregion ?_
        refine lv (v := (.slice a_20 seen_19.length cap_21)) rfl rfl (r_move rfl) ?_
        refine lv (v := (.int .i64 v_14)) rfl rfl (r_move rfl) ?_
        obtain ⟨e_33, hj_34, hm⟩ := bind_some hm
        refine lv (v := (sptr a_20 (Int.toNat v_14 * 1))) rfl rfl (r_idx Try.underlying26 Try.sizeOf4 rfl rfl (at?_some hj_34).1 (at?_some hj_34).2.1 (h_22.addr hj_34)) ?_
        refine lv (v := (.bool e_33)) rfl rfl (r_ld Try.isAgg4 rfl (h_22.atBool hj_34)) ?_
        refine lnil ?_
        refine wcond (e_33) rfl (fun hb => ?_) (fun hb => ?_)
        · rw [if_pos hb] at hm
          clear hb
          refine wexit (inB_hit ?_)
          exact ⟨col_13, a_16, cap_17, all_15, a_20, cap_21, seen_19, hm, hst, h0, h_18, h_22, rfl, rfl, rfl, rfl, rfl, rfl⟩
        · rw [if_neg (by rw [hb]; decide)] at hm
          clear hb
          refine wskip ?_
          refine wseq ?_
          refine wregion ?_
          refine lv (v := (.slice a_20 seen_19.length cap_21)) rfl rfl (r_move rfl) ?_
          refine lv (v := (.int .i64 v_14)) rfl rfl (r_move rfl) ?_
          refine lv (v := (sptr a_20 (Int.toNat v_14 * 1))) rfl rfl (r_idx Try.underlying26 Try.sizeOf4 rfl rfl (at?_some hj_34).1 (at?_some hj_34).2.1 (h_22.addr hj_34)) ?_
          obtain ⟨xs_40, hz_39, hm⟩ := bind_some hm
          have hz_39 : xs_40 = seen_19.set (Int.toNat v_14) true := (Option.some.inj hz_39).symm
          refine l_store (x1 := true) (v := (.bool true)) h_22 hj_34 rfl Try.sizeOf4 (rd_bool true) rfl rfl (by decide) ?_
          intro w_35 hk_36 hs_37 h_38
          rw [← hz_39] at h_38
          replace h0 := h0.kp hk_36 (by decide) (by decide)
          replace h_18 := h_18.kp hk_36 (by decide) (by decide)
          replace hst := hst.kp hk_36 hs_37 (by decide) (by decide)
          refine .ld (d := 4) (v := (.slice a_20 xs_40.length cap_21)) (congrArg (fun n => Value.slice a_20 n cap_21) (show seen_19.length = xs_40.length by rw [hz_39, List.length_set])) ?_
          clear h_22
          refine lnil ?_
          refine wseq ?_
          refine wregion ?_
          refine lv (v := (.int .i64 v_14)) rfl rfl (r_move rfl) ?_
          refine l_lit (col := col_13) (r := (Rep.int .i64)) (xs := [v_14]) [(.int .i64 v_14)] 3 rfl Try.underlying22 el3_27 rfl rfl rfl rfl rfl rfl (by intro v hv; simp only [List.mem_cons, List.not_mem_nil, or_false] at hv; subst hv; rfl) (RowsH.ofF (Rows.consF (r := (Rep.int .i64)) (x := v_14) (cs := [(.int .i64 v_14)]) (rd_int .i64 v_14) Rows.nil0)) ?_
          intro a_41 w_42 col_43 hg_44 h_45
          replace h0 := h0.gr hg_44
          replace h_18 := h_18.gr hg_44
          replace h_38 := h_38.gr hg_44
          replace hst := hst.grow hg_44
          refine lv (v := (.slice a_41 ([v_14].length) 1)) rfl rfl (r_assign rfl) ?_
          refine lnil ?_
          obtain ⟨hbc_46, hm⟩ := chk_some hm
          obtain ⟨q_47, hq_48, hm⟩ := bind_some hm
          refine wseq ?_
          refine wseq ?_
          refine wregion ?_
          refine lv (v := (.int .i64 0)) rfl rfl (r_assign rfl) ?_
          refine lnil ?_
          refine wblock ?_
          have hJ0 : BInv p0_g xs_40 v_14 xs_40 [v_14] 0 := BInv.start hbc_46.2.1 hbc_46.2.2.1
          have hSl_49 : xs_40.length = p0_g.length := hbc_46.1
          refine wloop (fun n f w_51 => ∃ (col_52 : Col) (a_54 : Option Addr) (cap_55 : Nat) (seen_53 : List Bool) (a_58 : Option Addr) (cap_59 : Nat) (piece_57 : List Int) (k_50 : Nat), n = p0_g.length + 1 - k_50 ∧ k_50 ≤ piece_57.length ∧ BInv p0_g xs_40 v_14 seen_53 piece_57 k_50 ∧ St w0 (col0 col) col_52 w_51 ∧ GO 85 86 999 col_52 w_51 o0 p0_g ∧ Own (Rep.row 3 (Rep.int .i64)) 22 2 col_52 w_51 a_16 cap_17 all_15 ∧ Own Rep.bool 4 1 col_52 w_51 a_54 cap_55 seen_53 ∧ Own (Rep.int .i64) 3 3 col_52 w_51 a_58 cap_59 piece_57 ∧ f 7 = (.int .i64 (k_50 : Int)) ∧ f 0 = (.pointer (some ⟨o0.g, 0, none⟩)) ∧ f 16 = (.int .i64 (p0_g.length : Int)) ∧ f 17 = (.int .i64 v_14) ∧ f 3 = (.slice a_16 all_15.length cap_17) ∧ f 4 = (.slice a_54 seen_53.length cap_55) ∧ f 6 = (.slice a_58 piece_57.length cap_59) ∧ f 1000000 = (enc [])) (p0_g.length + 1) ⟨col_43, a_20, cap_21, xs_40, a_41, 1, [v_14], 0, rfl, (by simp), hJ0, hst, h0, h_18, h_38, h_45, rfl, rfl, rfl, rfl, rfl, rfl, rfl, rfl⟩ ?_
          clear hJ0
          intro n f w_51 hI
          obtain ⟨col_52, a_54, cap_55, seen_53, a_58, cap_59, piece_57, k_50, hn, hle, hJ, hst, h0, h_18, h_56, h_60, hs7, hs0, hs16, hs17, hs3, hs4, hs6, hs1000000⟩ := hI
          subst hn
          refine .ld (d := 7) (v := (.int .i64 (k_50 : Int))) hs7 ?_
          refine .ld (d := 0) (v := (.pointer (some ⟨o0.g, 0, none⟩))) hs0 ?_
          refine .ld (d := 16) (v := (.int .i64 (p0_g.length : Int))) hs16 ?_
          refine .ld (d := 17) (v := (.int .i64 v_14)) hs17 ?_
          refine .ld (d := 3) (v := (.slice a_16 all_15.length cap_17)) hs3 ?_
          refine .ld (d := 4) (v := (.slice a_54 seen_53.length cap_55)) hs4 ?_
          refine .ld (d := 6) (v := (.slice a_58 piece_57.length cap_59)) hs6 ?_
          refine .ld (d := 1000000) (v := (enc [])) hs1000000 ?_
          clear hs7 hs0 hs16 hs17 hs3 hs4 hs6 hs1000000
          refine wseq ?_
          refine wseq ?_
          refine wregion ?_
          refine lv (v := (.int .i64 (k_50 : Int))) rfl rfl (r_move rfl) ?_
          refine lv (v := (.slice a_58 piece_57.length cap_59)) rfl rfl (r_move rfl) ?_
          refine lv (v := (.int .i64 (piece_57.length : Int))) rfl rfl (r_len Try.underlying22 rfl) ?_
          refine lv (v := (.bool (decide ((k_50 : Int) < (piece_57.length : Int))))) rfl rfl (r_lss (k_50 : Int) (piece_57.length : Int) rfl rfl) ?_
          refine lnil ?_
          refine wcond (decide ((k_50 : Int) < (piece_57.length : Int))) rfl (fun hb => ?_) (fun hb => ?_)
          · clear hm
            refine wskip ?_
            refine wseq ?_
            refine wblock ?_
            refine wseq ?_
            have hki : k_50 < piece_57.length := by have := of_decide_eq_true hb; omega
            obtain ⟨pt, hxv⟩ : ∃ x, piece_57[k_50]? = some x := ⟨_, List.getElem?_eq_getElem hki⟩
            have hat1 : at? piece_57 (k_50 : Int) = some pt := by rw [at?_nat]; exact hxv
            obtain ⟨row, hrow⟩ := hJ.row hxv
            obtain ⟨b0, hb0, hM0, hb02⟩ := h0.blk hrow
            obtain ⟨hMc, es, clock, hMh, hes⟩ := hM0
            have hE : MapE 999 col_52 w_51 b0 es clock := ⟨hMc, hMh⟩
            clear hMc hMh
            refine wmix (col := col_52) [(0, 1), (1, 1), (2, 1), (3, 0), (4, 1), (5, 1), (6, 1), (7, 0), (8, 1), (9, 0), (10, 2)] (by kernel_rfl) (by kernel_rfl) ?_
            refine xu (v := (.pointer (some ⟨o0.g, 0, none⟩))) rfl rfl (fun _ => r_move rfl) ?_
            refine xu (v := (.pointer (some ⟨o0.g, 0, none⟩))) rfl rfl (fun _ => r_nilCheck rfl) ?_
            refine xu (v := (.pointer ((some (⟨o0.g, 0, none⟩ : Addr)).map (·.add 0)))) rfl rfl (fun _ => r_fieldAddr (sz := 1) (off := 0) Try.underlying85 rfl Try.sizeOf83 (by decide) rfl rfl ⟨_, _, rfl⟩) ?_
            refine xv (v := (.slice o0.a p0_g.length o0.cap)) rfl rfl (fun _ hC => r_ld Try.isAgg83 rfl ((h0.gr (Grow.of_below (col := col_52) hC.below)).box.atN.nth (q := 0) (v := (.slice o0.a p0_g.length o0.cap)) rfl)) ?_
            refine xu (v := (.slice a_58 piece_57.length cap_59)) rfl rfl (fun _ => r_move rfl) ?_
            refine xu (v := (.int .i64 (k_50 : Int))) rfl rfl (fun _ => r_move rfl) ?_
            refine xu (v := (sptr a_58 (Int.toNat (k_50 : Int) * 1))) rfl rfl (fun _ => r_idx Try.underlying22 Try.sizeOf3 rfl rfl (at?_some hat1).1 (at?_some hat1).2.1 (h_60.addr hat1)) ?_
            refine xv (v := (.int .i64 pt)) rfl rfl (fun _ hC => r_ld Try.isAgg3 rfl ((h_60.gr (Grow.of_below (col := col_52) hC.below)).atInt hat1)) ?_
            refine xu (v := (sptr o0.a (Int.toNat pt * 1))) rfl rfl (fun _ => r_idx Try.underlying83 Try.sizeOf86 rfl rfl (at?_some hrow).1 (at?_some hrow).2.1 (h0.addr hb0)) ?_
            refine xv (v := (.map (some b0))) rfl rfl (fun _ hC => r_ld Try.isAgg86 rfl ((h0.gr (Grow.of_below (col := col_52) hC.below)).at1 hb0)) ?_
            refine xe rfl rfl ?_
            intro w_m hC0
            have hC : Grow col_52 w_51 col_52 w_m := .of_below hC0.below
            replace h0 := h0.gr hC
            replace h_18 := h_18.gr hC
            replace h_56 := h_56.gr hC
            replace h_60 := h_60.gr hC
            replace hE := hE.gr hC
            replace hst := hst.grow hC
            refine l_grange (col := col_52) 495 hE rfl Try.underlying86 rfl ?_
            intro gi w_n col_n hgn hIt
            replace h0 := h0.gr hgn
            replace h_18 := h_18.gr hgn
            replace h_56 := h_56.gr hgn
            replace h_60 := h_60.gr hgn
            replace hE := hE.gr hgn
            replace hst := hst.grow hgn
            refine lnil ⟨fun w' => Grow col_n w_n col_n w', Grow.refl _ _, fun h => absurd h (by decide), ?_⟩
            refine xnil ?_
            intro w_q hC3
            replace hC3 : Grow col_n w_n col_n w_q := .of_below hC3.below
            replace h0 := h0.gr hC3
            replace h_18 := h_18.gr hC3
            replace h_56 := h_56.gr hC3
            replace h_60 := h_60.gr hC3
            replace hE := hE.gr hC3
            replace hIt := hIt.gr hC3
            replace hst := hst.grow hC3
            refine wblock ?_
            refine wloop (fun n f w_61 => ∃ (col_62 : Col) (a_64 : Option Addr) (cap_65 : Nat) (seen_63 : List Bool) (a_68 : Option Addr) (cap_69 : Nat) (piece_67 : List Int) (seenA : Array Nat) (done : List Int), n = es.length - seenA.size ∧ seenA.toList.Nodup ∧ (∀ s ∈ seenA.toList, s ∈ es.map (·.2)) ∧ (∀ p ∈ es, p.2 ∈ seenA.toList → p.1 ∈ done) ∧ JInv p0_g xs_40 v_14 seen_63 piece_67 k_50 pt done ∧ St w0 (col0 col) col_62 w_61 ∧ GO 85 86 999 col_62 w_61 o0 p0_g ∧ Own (Rep.row 3 (Rep.int .i64)) 22 2 col_62 w_61 a_16 cap_17 all_15 ∧ Own Rep.bool 4 1 col_62 w_61 a_64 cap_65 seen_63 ∧ Own (Rep.int .i64) 3 3 col_62 w_61 a_68 cap_69 piece_67 ∧ MapE 999 col_62 w_61 b0 es clock ∧ ItM 495 col_62 w_61 gi b0 clock seenA clock ∧ f 45 = (.pointer (some ⟨gi, 0, none⟩)) ∧ f 0 = (.pointer (some ⟨o0.g, 0, none⟩)) ∧ f 16 = (.int .i64 (p0_g.length : Int)) ∧ f 17 = (.int .i64 v_14) ∧ f 3 = (.slice a_16 all_15.length cap_17) ∧ f 4 = (.slice a_64 seen_63.length cap_65) ∧ f 6 = (.slice a_68 piece_67.length cap_69) ∧ f 7 = (.int .i64 (k_50 : Int)) ∧ f 1000000 = (enc [])) es.length ⟨col_n, a_54, cap_55, seen_53, a_58, cap_59, piece_57, (#[]), [], rfl, (by simp), (by simp), (by simp), hJ.go hxv, hst, h0, h_18, h_56, h_60, hE, hIt, rfl, rfl, rfl, rfl, rfl, rfl, rfl, rfl, rfl⟩ ?_
            intro n f w_61 hI
            obtain ⟨col_62, a_64, cap_65, seen_63, a_68, cap_69, piece_67, seenA, done, hn, hsn, hss, hsd, hJ2, hst, h0, h_18, h_66, h_70, hE, hIt, hs45, hs0, hs16, hs17, hs3, hs4, hs6, hs7, hs1000000⟩ := hI
            refine .ld (d := 45) (v := (.pointer (some ⟨gi, 0, none⟩))) hs45 ?_
            refine .ld (d := 0) (v := (.pointer (some ⟨o0.g, 0, none⟩))) hs0 ?_
            refine .ld (d := 16) (v := (.int .i64 (p0_g.length : Int))) hs16 ?_
            refine .ld (d := 17) (v := (.int .i64 v_14)) hs17 ?_
            refine .ld (d := 3) (v := (.slice a_16 all_15.length cap_17)) hs3 ?_
            refine .ld (d := 4) (v := (.slice a_64 seen_63.length cap_65)) hs4 ?_
            refine .ld (d := 6) (v := (.slice a_68 piece_67.length cap_69)) hs6 ?_
            refine .ld (d := 7) (v := (.int .i64 (k_50 : Int))) hs7 ?_
            refine .ld (d := 1000000) (v := (enc [])) hs1000000 ?_
            clear hs45 hs0 hs16 hs17 hs3 hs4 hs6 hs7 hs1000000
            refine wseq ?_
            refine wregion ?_
            refine l_gnext hIt hE hes.lt (Nat.le_refl _) rfl rfl (fun hall => ?_) (fun pe w_r hpe hnot hkr hsr hIt2 => ?_)
            · refine lv (v := (.bool false)) rfl rfl (r_extract rfl rfl) ?_
              refine lnil ?_
              refine wseq ?_
              refine wcondF rfl ?_
              refine wexit (inB_hit ?_)
              have hB3 := hJ2.close hrow fun b hb => by
                have hk := (hes.iff b).2 hb
                obtain ⟨p, hp, rfl⟩ := List.mem_map.1 hk
                exact hsd p hp (hall p hp)
              have hle3 : k_50 + 1 ≤ piece_67.length := (List.getElem?_eq_some_iff.1 hJ2.here).1
              have hlt3 := hB3.le
              clear hIt hE
              refine wregion ?_
              refine lv (v := (.int .i64 (k_50 : Int))) rfl rfl (r_move rfl) ?_
              refine lv (v := (.int .i64 (IntKind.i64.wrap ((k_50 : Int) + 1)))) rfl rfl (r_add (k_50 : Int) 1 rfl rfl) ?_
              refine lv (v := (.int .i64 (IntKind.i64.wrap ((k_50 : Int) + 1)))) rfl rfl (r_assign rfl) ?_
              refine lnil ?_
              exact ⟨p0_g.length + 1 - (k_50 + 1), by omega, ⟨col_62, a_64, cap_65, seen_63, a_68, cap_69, piece_67, (k_50 + 1), rfl, hle3, hB3, hst, h0, h_18, h_66, h_70, (congrArg (Value.int .i64) (wrap_succ (by have := hbc_46.2.2.2.2; simp only [maxLen]; omega))), rfl, rfl, rfl, rfl, rfl, rfl, rfl⟩⟩
            · replace h0 := h0.kp hkr (by decide) (by decide)
              replace h_18 := h_18.kp hkr (by decide) (by decide)
              replace h_66 := h_66.kp hkr (by decide) (by decide)
              replace h_70 := h_70.kp hkr (by decide) (by decide)
              replace hE := hE.kp hkr (by decide) (by decide)
              replace hst := hst.kp hkr hsr (by decide) (by decide)
              clear hIt
              refine lv (v := (.bool true)) rfl rfl (r_extract rfl rfl) ?_
              refine lnil ?_
              refine wseq ?_
              refine wcondT rfl ?_
              refine wskip ?_
              refine wblock ?_
              refine wseq ?_
              refine wregion ?_
              refine lv (v := (.tuple #[.int .i64 pe.1, .bool true])) rfl rfl (r_gentry hIt2 hE hpe hes.born rfl) ?_
              refine lv (v := (.int .i64 pe.1)) rfl rfl (r_extract rfl rfl) ?_
              refine lv (v := (.int .i64 pe.1)) rfl rfl (r_assign rfl) ?_
              refine lnil ?_
              have hgb : gat row pe.1 = true := (hes.iff pe.1).1 (List.mem_map.2 ⟨pe, hpe, rfl⟩)
              have hrl : row.length = p0_g.length := h0.sq row (List.mem_of_getElem? (at?_some hrow).2.2)
              obtain ⟨hpe0, hpe1⟩ := gat_range hgb
              obtain ⟨sb, hsb⟩ : ∃ v, at? seen_63 pe.1 = some v := ⟨seen_63[pe.1.toNat]'(by rw [hJ2.inv.len, hSl_49]; omega), by unfold at?; rw [if_pos hpe0, List.getElem?_eq_getElem]⟩
              have hgs : gat seen_63 pe.1 = sb := by unfold at? at hsb; rw [if_pos hpe0] at hsb; unfold gat; rw [if_pos hpe0, hsb]; rfl
              have hsz : (seenA.push pe.2).size ≤ es.length := by
                have := nodup_le_ (l := (seenA.push pe.2).toList) (r := es.map (·.2)) (by rw [Array.toList_push, List.nodup_append]; exact ⟨hsn, by simp, fun x hx y hy e => by simp only [List.mem_singleton] at hy; subst hy; subst e; exact hnot hx⟩) (fun x hx => by rw [Array.toList_push, List.mem_append, List.mem_singleton] at hx; rcases hx with hx | rfl; exact hss x hx; exact List.mem_map.2 ⟨pe, hpe, rfl⟩)
                rw [List.length_map, Array.length_toList] at this; exact this
              clear hm
              have hm : ((at? seen_63 pe.1).bind fun e_71 => if (!e_71) = true then ((some (seen_63.set (Int.toNat pe.1) true)).bind fun xs_78 => chk ((piece_67.length + [pe.1].length) * 8 ≤ 140737488355328 ∧ piece_67.length + [pe.1].length ≤ maxLen) (some ())) else (some ())) = some () := by
                rw [hsb]; have := hJ2.inv.le; have := hbc_46.2.2.2.2; have hml : (1048577 : Nat) ≤ maxLen := by decide
                cases sb <;> simp [chk]; try omega
              refine wseq ?_
              refine wregion ?_
              refine lv (v := (.slice a_64 seen_63.length cap_65)) rfl rfl (r_move rfl) ?_
              refine lv (v := (.int .i64 pe.1)) rfl rfl (r_move rfl) ?_
              obtain ⟨e_71, hj_72, hm⟩ := bind_some hm
              refine lv (v := (sptr a_64 (Int.toNat pe.1 * 1))) rfl rfl (r_idx Try.underlying26 Try.sizeOf4 rfl rfl (at?_some hj_72).1 (at?_some hj_72).2.1 (h_66.addr hj_72)) ?_
              refine lv (v := (.bool e_71)) rfl rfl (r_ld Try.isAgg4 rfl (h_66.atBool hj_72)) ?_
              refine lv (v := (.bool (!e_71))) rfl rfl (r_not e_71 rfl) ?_
              refine lnil ?_
              refine wcond (!e_71) rfl (fun hb => ?_) (fun hb => ?_)
              · have hee : e_71 = sb := Option.some.inj (hj_72.symm.trans hsb)
                have hfalse : gat seen_63 pe.1 = false := by rw [hgs, ← hee]; simpa using hb
                rw [if_pos hb] at hm
                clear hb
                refine wseq ?_
                refine wregion ?_
                refine lv (v := (.slice a_64 seen_63.length cap_65)) rfl rfl (r_move rfl) ?_
                refine lv (v := (.int .i64 pe.1)) rfl rfl (r_move rfl) ?_
                refine lv (v := (sptr a_64 (Int.toNat pe.1 * 1))) rfl rfl (r_idx Try.underlying26 Try.sizeOf4 rfl rfl (at?_some hj_72).1 (at?_some hj_72).2.1 (h_66.addr hj_72)) ?_
                obtain ⟨xs_78, hz_77, hm⟩ := bind_some hm
                have hz_77 : xs_78 = seen_63.set (Int.toNat pe.1) true := (Option.some.inj hz_77).symm
                refine l_store (x1 := true) (v := (.bool true)) h_66 hj_72 rfl Try.sizeOf4 (rd_bool true) rfl rfl (by decide) ?_
                intro w_73 hk_74 hs_75 h_76
                rw [← hz_77] at h_76
                replace h0 := h0.kp hk_74 (by decide) (by decide)
                replace h_18 := h_18.kp hk_74 (by decide) (by decide)
                replace h_70 := h_70.kp hk_74 (by decide) (by decide)
                replace hE := hE.kp hk_74 (by decide) (by decide)
                replace hIt2 := hIt2.kp hk_74 (by decide) (by decide)
                replace hst := hst.kp hk_74 hs_75 (by decide) (by decide)
                refine .ld (d := 4) (v := (.slice a_64 xs_78.length cap_65)) (congrArg (fun n => Value.slice a_64 n cap_65) (show seen_63.length = xs_78.length by rw [hz_77, List.length_set])) ?_
                clear h_66
                refine lnil ?_
                refine wregion ?_
                refine lv (v := (.slice a_68 piece_67.length cap_69)) rfl rfl (r_move rfl) ?_
                refine lv (v := (.int .i64 pe.1)) rfl rfl (r_move rfl) ?_
                refine l_lit (col := col_62) (r := (Rep.int .i64)) (xs := [pe.1]) [(.int .i64 pe.1)] 4 rfl Try.underlying22 el3_27 rfl rfl rfl rfl rfl rfl (by intro v hv; simp only [List.mem_cons, List.not_mem_nil, or_false] at hv; subst hv; rfl) (RowsH.ofF (Rows.consF (r := (Rep.int .i64)) (x := pe.1) (cs := [(.int .i64 pe.1)]) (rd_int .i64 pe.1) Rows.nil0)) ?_
                intro a_79 w_80 col_81 hg_82 h_83
                replace h0 := h0.gr hg_82
                replace h_18 := h_18.gr hg_82
                replace h_76 := h_76.gr hg_82
                replace h_70 := h_70.gr hg_82
                replace hE := hE.gr hg_82
                replace hIt2 := hIt2.gr hg_82
                replace hst := hst.grow hg_82
                obtain ⟨hb_84, hm⟩ := chk_some hm
                refine l_appendM (col := col_81) (w := w_80) (r := (Rep.int .i64)) (c := 3) (c2 := 3) (xs := piece_67) (ys := [pe.1]) h_70 (h_83.srcN (NB.int (k := .i64))) rfl Try.underlying22 el3_27 rfl rfl rfl hb_84.1 hb_84.2 (by decide) ?_
                intro a_85 cap_86 w_87 col_88 hk_89 h_90
                replace h0 := h0.kpp hk_89 rfl rfl
                replace h_18 := h_18.kpp hk_89 rfl rfl
                replace h_76 := h_76.kpp hk_89 rfl rfl
                replace h_83 := h_83.kpp hk_89 rfl rfl
                replace hE := hE.kpp hk_89 rfl rfl
                replace hIt2 := hIt2.kpp hk_89 rfl rfl
                replace hst := hst.kpp hk_89 rfl rfl
                clear h_70
                refine lv (v := (.slice a_85 ((piece_67 ++ [pe.1]).length) cap_86)) rfl rfl (r_assign rfl) ?_
                refine lnil ?_
                have hJ3 := hJ2.new h0.sq hSl_49 ⟨row, hrow, hgb⟩ hfalse
                have hJ4 : JInv p0_g xs_40 v_14 xs_78 (piece_67 ++ [pe.1]) k_50 pt (pe.1 :: done) := by
                  have hE9 : xs_78 = seen_63.set (Int.toNat pe.1) true := by assumption
                  rw [hE9]; exact hJ3
                exact ⟨es.length - (seenA.push pe.2).size, by rw [Array.size_push] at hsz ⊢; omega, ⟨col_88, a_64, cap_65, xs_78, a_85, cap_86, (piece_67 ++ [pe.1]), (seenA.push pe.2), (pe.1 :: done), rfl, (by rw [Array.toList_push, List.nodup_append]; exact ⟨hsn, by simp, fun x hx y hy e => by simp only [List.mem_singleton] at hy; subst hy; subst e; exact hnot hx⟩), (fun x hx => by rw [Array.toList_push, List.mem_append, List.mem_singleton] at hx; rcases hx with hx | rfl; exact hss x hx; exact List.mem_map.2 ⟨pe, hpe, rfl⟩), (fun p hp hx => by rw [Array.toList_push, List.mem_append, List.mem_singleton] at hx; rcases hx with hx | hx; exact List.mem_cons_of_mem _ (hsd p hp hx); (have : p = pe := by obtain ⟨i1, hi1⟩ := List.getElem?_of_mem hp; obtain ⟨i2, hi2⟩ := List.getElem?_of_mem hpe; have hil := (List.getElem?_eq_some_iff.1 hi1).1; have : i1 = i2 := (List.getElem?_inj (l := es.map (·.2)) (by rw [List.length_map]; exact hil) hes.born).1 (by rw [List.getElem?_map, List.getElem?_map, hi1, hi2]; simp [hx]); subst this; rw [hi1] at hi2; cases hi2; rfl); subst this; exact List.mem_cons_self ..), hJ4, hst, h0, h_18, h_76, h_90, hE, hIt2, rfl, rfl, rfl, rfl, rfl, rfl, rfl, rfl, rfl⟩⟩
              · have hee : e_71 = sb := Option.some.inj (hj_72.symm.trans hsb)
                have htrue : gat seen_63 pe.1 = true := by rw [hgs, ← hee]; simpa using hb
                rw [if_neg (by rw [hb]; decide)] at hm
                clear hb
                refine wskip ?_
                have hJ4 := hJ2.old htrue
                exact ⟨es.length - (seenA.push pe.2).size, by rw [Array.size_push] at hsz ⊢; omega, ⟨col_62, a_64, cap_65, seen_63, a_68, cap_69, piece_67, (seenA.push pe.2), (pe.1 :: done), rfl, (by rw [Array.toList_push, List.nodup_append]; exact ⟨hsn, by simp, fun x hx y hy e => by simp only [List.mem_singleton] at hy; subst hy; subst e; exact hnot hx⟩), (fun x hx => by rw [Array.toList_push, List.mem_append, List.mem_singleton] at hx; rcases hx with hx | rfl; exact hss x hx; exact List.mem_map.2 ⟨pe, hpe, rfl⟩), (fun p hp hx => by rw [Array.toList_push, List.mem_append, List.mem_singleton] at hx; rcases hx with hx | hx; exact List.mem_cons_of_mem _ (hsd p hp hx); (have : p = pe := by obtain ⟨i1, hi1⟩ := List.getElem?_of_mem hp; obtain ⟨i2, hi2⟩ := List.getElem?_of_mem hpe; have hil := (List.getElem?_eq_some_iff.1 hi1).1; have : i1 = i2 := (List.getElem?_inj (l := es.map (·.2)) (by rw [List.length_map]; exact hil) hes.born).1 (by rw [List.getElem?_map, List.getElem?_map, hi1, hi2]; simp [hx]); subst this; rw [hi1] at hi2; cases hi2; rfl); subst this; exact List.mem_cons_self ..), hJ4, hst, h0, h_18, h_66, h_70, hE, hIt2, rfl, rfl, rfl, rfl, rfl, rfl, rfl, rfl, rfl⟩⟩
          · refine wexit (inB_hit ?_)
            have hki : k_50 = piece_57.length := by have := of_decide_eq_false hb; omega
            have hJ9 : BInv p0_g xs_40 v_14 seen_53 piece_57 piece_57.length := hki ▸ hJ
            obtain ⟨hs9, hp9⟩ := BInv.unique hJ9 (bfs_inv h0.sq hSl_49 N _ _ 0 q_47 (BInv.start hbc_46.2.1 hbc_46.2.2.1) (Nat.zero_le _) hq_48)
            subst hs9
            rw [← lib_sort_perm hp9] at hm
            clear hJ hJ9
            refine wseq ?_
            refine wregion ?_
            refine lv (v := (.slice a_58 piece_57.length cap_59)) rfl rfl (r_move rfl) ?_
            obtain ⟨r_91, hr_92, hm⟩ := bind_some hm
            refine lc rfl rfl (r_call1 Try.call68 rfl) (c_slices_Sort_int_int col_52 _ 3 rfl a_58 cap_59 piece_57 h_60 r_91 hr_92) ?_
            rintro _ w_95 ⟨col_97, rfl, hg_96, oh_93, ohl_94⟩
            refine ⟨_, rfl, ?_⟩
            replace h0 := h0.kpp hg_96 rfl rfl
            replace h_18 := h_18.kpp hg_96 rfl rfl
            replace h_56 := h_56.kpp hg_96 rfl rfl
            replace hst := hst.kpp hg_96 rfl rfl
            clear h_60
            refine .ld (d := 6) (v := (.slice a_58 r_91.length cap_59)) (congrArg (fun n => Value.slice a_58 n cap_59) (show piece_57.length = r_91.length from ohl_94.symm)) ?_
            refine .ld (d := 62) (v := (.slice a_58 r_91.length cap_59)) (congrArg (fun n => Value.slice a_58 n cap_59) (show piece_57.length = r_91.length from ohl_94.symm)) ?_
            refine lnil ?_
            refine wregion ?_
            refine lv (v := (.slice a_16 all_15.length cap_17)) rfl rfl (r_move rfl) ?_
            refine lv (v := (.slice a_58 r_91.length cap_59)) rfl rfl (r_move rfl) ?_
            refine l_lit (col := col_97) (r := (Rep.row 3 (Rep.int .i64))) (xs := [r_91]) [(.slice a_58 r_91.length cap_59)] 3 rfl Try.underlying33 el22_27 rfl rfl rfl rfl rfl rfl (by intro v hv; simp only [List.mem_cons, List.not_mem_nil, or_false] at hv; subst hv; rfl) (RowsH.cons1 (cs := [(.slice a_58 r_91.length cap_59)]) oh_93.has Rows.nil0) ?_
            intro a_98 w_99 col_100 hg_101 h_102
            replace h0 := h0.gr hg_101
            replace h_56 := h_56.gr hg_101
            replace h_18 := h_18.gr hg_101
            replace oh_93 := oh_93.gr hg_101
            replace hst := hst.grow hg_101
            obtain ⟨hb_103, hm⟩ := chk_some hm
            refine l_appendM (col := col_100) (w := w_99) (r := (Rep.row 3 (Rep.int .i64))) (c := 2) (c2 := 3) (xs := all_15) (ys := [r_91]) h_18 (h_102.srcC (by decide)) rfl Try.underlying33 el22_27 rfl rfl rfl hb_103.1 hb_103.2 (by decide) ?_
            intro a_104 cap_105 w_106 col_107 hk_108 h_109
            replace h0 := h0.kpp hk_108 rfl rfl
            replace h_56 := h_56.kpp hk_108 rfl rfl
            clear h_102
            replace hst := hst.kpp hk_108 rfl rfl
            clear h_18
            refine lv (v := (.slice a_104 ((all_15 ++ [r_91]).length) cap_105)) rfl rfl (r_assign rfl) ?_
            refine lnil ?_
            exact ⟨col_107, a_104, cap_105, (all_15 ++ [r_91]), a_54, cap_55, q_47.1, hm, hst, h0, h_109, h_56, rfl, rfl, rfl, rfl, rfl, rfl⟩
    · rw [if_neg (by rw [hb]; decide)] at hm
      clear hb
      refine wexit (inB_hit ?_)
      refine wseq ?_
      refine wregion ?_
      refine lv (v := (.slice a_16 all_15.length cap_17)) rfl rfl (r_move rfl) ?_
      refine lv (v := (.slice a_16 all_15.length cap_17)) rfl rfl (r_assign rfl) ?_
      refine lnil ?_
      refine wret ?_
      cases hm
      exact ⟨rfl, colF w0.heap.size col col_13 (fun n => bif Nat.beq n 2 then c1 else 0), a_16, cap_17, rfl, hst.fin (fun n => bif Nat.beq n 2 then c1 else 0), hst.finOwn (g := (fun n => bif Nat.beq n 2 then c1 else 0)) rfl h_18 (by decide) (by decide) rfl⟩




def m_slices_Index_int_int_L1 (p1_v : Int) : List Int → Nat → Option Int
  | [], k_1 => some (-1)
  | x_5 :: l_6, k_1 => if (decide (p1_v = x_5)) = true then (some (k_1 : Int)) else ((m_slices_Index_int_int_L1 p1_v l_6) (k_1 + 1))

def m_slices_Index_int_int (p0_s : (List Int)) (p1_v : Int) : Option Int :=
  m_slices_Index_int_int_L1 p1_v p0_s 0

set_option maxRecDepth 100000 in
set_option maxHeartbeats 2000000 in
theorem c_slices_Index_int_int (col : Col) (w0 : World) (a0 : Option Addr) (cap0 : Nat) (p0_s : (List Int)) (p1_v : Int) (h0 : Sl (Rep.int .i64) col w0 a0 cap0 p0_s) (r : Int) (hm : m_slices_Index_int_int p0_s p1_v = some r) :
    Calls Try.prog 103 #[(.slice a0 p0_s.length cap0), (.int .i64 p1_v)] w0 (fun e w' => e = .returned ((.int .i64 r)) ∧ Below w0.heap.size w0 w') := by
  refine calls_of1 4 (m := 19) (args := [(.slice a0 p0_s.length cap0), (.int .i64 p1_v)]) Try.func103 rfl rfl rfl rfl rfl ?_
  rw [m_slices_Index_int_int.eq_1] at hm
  have hst := St.start col w0
  replace h0 := h0.keep (Stay.start col w0)
  refine wseq ?_
  refine wregion ?_
  refine lv (v := (.int .i64 0)) rfl rfl (r_assign rfl) ?_
  refine lnil ?_
  refine wseq ?_
  refine wseq ?_
  refine wregion ?_
  refine lv (v := (.slice a0 p0_s.length cap0)) rfl rfl (r_move rfl) ?_
  refine lv (v := (.int .i64 (p0_s.length : Int))) rfl rfl (r_len Try.underlying22 rfl) ?_
  refine lv (v := (.int .i64 0)) rfl rfl (r_move rfl) ?_
  refine lnil ?_
  refine wblock ?_
  refine wloop (fun n f w_3 => ∃ (col_4 : Col) (k_1 : Nat) (l_2 : List Int), n = l_2.length ∧ p0_s.drop k_1 = l_2 ∧ m_slices_Index_int_int_L1 p1_v l_2 k_1 = some r ∧ St w0 (col0 col) col_4 w_3 ∧ Sl (Rep.int .i64) col_4 w_3 a0 cap0 p0_s ∧ f 8 = (.int .i64 (k_1 : Int)) ∧ f 0 = (.slice a0 p0_s.length cap0) ∧ f 1 = (.int .i64 p1_v) ∧ f 7 = (.int .i64 (p0_s.length : Int)) ∧ f 1000000 = (enc [])) p0_s.length ⟨(col0 col), 0, p0_s, rfl, rfl, hm, hst, h0, rfl, rfl, rfl, rfl, rfl⟩ ?_
  clear hm; intro n f w_3 hI
  obtain ⟨col_4, k_1, l_2, hn, hl, hm, hst, h0, hs8, hs0, hs1, hs7, hs1000000⟩ := hI
  subst hn
  refine .ld (d := 8) (v := (.int .i64 (k_1 : Int))) hs8 ?_
  refine .ld (d := 0) (v := (.slice a0 p0_s.length cap0)) hs0 ?_
  refine .ld (d := 1) (v := (.int .i64 p1_v)) hs1 ?_
  refine .ld (d := 7) (v := (.int .i64 (p0_s.length : Int))) hs7 ?_
  refine .ld (d := 1000000) (v := (enc [])) hs1000000 ?_
  clear hs8 hs0 hs1 hs7 hs1000000
  cases l_2 with
  | nil =>
    have hk : ¬ ((k_1 : Int) < (p0_s.length : Int)) := by have := List.drop_eq_nil_iff.1 hl; omega
    have hkb := decide_eq_false hk
    rw [m_slices_Index_int_int_L1.eq_1] at hm
    refine wseq ?_
    refine wregion ?_
    refine lv (v := (.bool (decide ((k_1 : Int) < (p0_s.length : Int))))) rfl rfl (r_lss (k_1 : Int) (p0_s.length : Int) rfl rfl) ?_
    refine lnil ?_
    refine wseq ?_
    refine wcondF (congrArg Value.bool hkb) ?_
    refine wexit (inB_hit ?_)
    refine wseq ?_
    refine wregion ?_
    refine lv (v := (.int .i64 (-1))) rfl rfl (r_assign rfl) ?_
    refine lnil ?_
    refine wret ?_
    cases hm
    exact ⟨rfl, rfl, hst.below⟩
  | cons x_5 l_6 =>
    obtain ⟨hat, hl2, hlt⟩ := drop_get hl
    have hk : (k_1 : Int) < (p0_s.length : Int) := by omega
    have hkb := decide_eq_true hk
    rw [m_slices_Index_int_int_L1.eq_2] at hm
    refine wseq ?_
    refine wregion ?_
    refine lv (v := (.bool (decide ((k_1 : Int) < (p0_s.length : Int))))) rfl rfl (r_lss (k_1 : Int) (p0_s.length : Int) rfl rfl) ?_
    refine lnil ?_
    refine wseq ?_
    refine wcondT (congrArg Value.bool hkb) ?_
    refine wskip ?_
    refine wseq ?_
    refine wblock ?_
    refine wseq ?_
    refine wregion ?_
    refine lv (v := (.int .i64 (k_1 : Int))) rfl rfl (r_move rfl) ?_
    refine lv (v := (.int .i64 (k_1 : Int))) rfl rfl (r_assign rfl) ?_
    refine lnil ?_
    refine wseq ?_
    refine wregion ?_
    refine lv (v := (.int .i64 p1_v)) rfl rfl (r_move rfl) ?_
    refine lv (v := (.slice a0 p0_s.length cap0)) rfl rfl (r_move rfl) ?_
    refine lv (v := (.int .i64 (k_1 : Int))) rfl rfl (r_move rfl) ?_
    refine lv (v := (sptr a0 (Int.toNat (k_1 : Int) * 1))) rfl rfl (r_idx Try.underlying22 Try.sizeOf3 rfl rfl (at?_some hat).1 (at?_some hat).2.1 (h0.addr hat)) ?_
    refine lv (v := (.int .i64 x_5)) rfl rfl (r_ld Try.isAgg3 rfl (h0.atInt hat)) ?_
    refine lv (v := (.bool (decide (p1_v = x_5)))) rfl rfl (r_eql p1_v x_5 rfl rfl) ?_
    refine lnil ?_
    refine wcond (decide (p1_v = x_5)) rfl (fun hb => ?_) (fun hb => ?_)
    · rw [if_pos hb] at hm
      clear hb
      refine wseq ?_
      refine wregion ?_
      refine lv (v := (.int .i64 (k_1 : Int))) rfl rfl (r_move rfl) ?_
      refine lv (v := (.int .i64 (k_1 : Int))) rfl rfl (r_assign rfl) ?_
      refine lnil ?_
      refine wret ?_
      cases hm
      exact ⟨rfl, rfl, hst.below⟩
    · rw [if_neg (by rw [hb]; decide)] at hm
      clear hb
      refine wskip ?_
      refine wregion ?_
      refine lv (v := (.int .i64 (IntKind.i64.wrap ((k_1 : Int) + 1)))) rfl rfl (r_add (k_1 : Int) 1 rfl rfl) ?_
      refine lv (v := (.int .i64 (IntKind.i64.wrap ((k_1 : Int) + 1)))) rfl rfl (r_move rfl) ?_
      refine lnil ?_
      exact ⟨l_6.length, by simp, ⟨col_4, (k_1 + 1), l_6, rfl, hl2, hm, hst, h0, (congrArg (Value.int .i64) (wrap_succ (Nat.lt_of_lt_of_le hlt h0.1.1))), rfl, rfl, rfl, rfl⟩⟩




def m_slices_Contains_int_int (p0_s : (List Int)) (p1_v : Int) : Option Bool :=
  (m_slices_Index_int_int p0_s p1_v).bind fun r_1 => some (decide (0 ≤ r_1))

set_option maxRecDepth 100000 in
set_option maxHeartbeats 2000000 in
theorem c_slices_Contains_int_int (col : Col) (w0 : World) (a0 : Option Addr) (cap0 : Nat) (p0_s : (List Int)) (p1_v : Int) (h0 : Sl (Rep.int .i64) col w0 a0 cap0 p0_s) (r : Bool) (hm : m_slices_Contains_int_int p0_s p1_v = some r) :
    Calls Try.prog 70 #[(.slice a0 p0_s.length cap0), (.int .i64 p1_v)] w0 (fun e w' => e = .returned ((.bool r)) ∧ Below w0.heap.size w0 w') := by
  refine calls_of1 4 (m := 9) (args := [(.slice a0 p0_s.length cap0), (.int .i64 p1_v)]) Try.func70 rfl rfl rfl rfl rfl ?_
  rw [m_slices_Contains_int_int.eq_1] at hm
  have hst := St.start col w0
  replace h0 := h0.keep (Stay.start col w0)
  refine wseq ?_
  refine wregion ?_
  refine lv (v := (.bool false)) rfl rfl (r_assign rfl) ?_
  refine lnil ?_
  refine wseq ?_
  refine wregion ?_
  refine lv (v := (.slice a0 p0_s.length cap0)) rfl rfl (r_move rfl) ?_
  refine lv (v := (.int .i64 p1_v)) rfl rfl (r_move rfl) ?_
  obtain ⟨r_1, hr_2, hm⟩ := bind_some hm
  refine lc rfl rfl (r_call2 Try.call103 rfl rfl) (c_slices_Index_int_int (col0 col) _ a0 cap0 p0_s p1_v h0 r_1 hr_2) ?_
  rintro _ w_3 ⟨rfl, hg_4⟩
  refine ⟨_, rfl, ?_⟩
  replace hg_4 : Grow (col0 col) w0 (col0 col) w_3 := .of_below hg_4
  replace h0 := h0.gr hg_4
  replace hst := hst.grow hg_4
  refine lv (v := (.bool (decide (0 ≤ r_1)))) rfl rfl (r_geq r_1 0 rfl rfl) ?_
  refine lv (v := (.bool (decide (0 ≤ r_1)))) rfl rfl (r_assign rfl) ?_
  refine lnil ?_
  refine wret ?_
  cases hm
  exact ⟨rfl, rfl, hst.below⟩




def m_graph_Graph_Among_J1 (kk_L1 : (Option (Option (List (List Bool))))) : Option (Option (List (List Bool))) :=
  kk_L1 

def m_graph_Graph_Among_J2 (kk_L1 : (Option (Option (List (List Bool))))) (v_56 : Bool) : Option (Option (List (List Bool))) :=
  if v_56 = true then none else (m_graph_Graph_Among_J1 kk_L1)

def m_graph_Graph_Among_L1 (p1_points : (List Int)) : List (Int × Int) → Option (Option (List (List Bool)))
  | [] => some none
  | x_28 :: l_29 => (m_slices_Contains_int_int p1_points x_28.1).bind fun r_57 => if r_57 = true then ((m_slices_Contains_int_int p1_points x_28.2).bind fun r_62 => m_graph_Graph_Among_J2 (m_graph_Graph_Among_L1 p1_points l_29) r_62) else (m_graph_Graph_Among_J2 (m_graph_Graph_Among_L1 p1_points l_29) false)

def m_graph_Graph_Among_J3 (kk_L2 : ((List (List Bool)) → Option (Option (List (List Bool))))) (h_84 : List (List Bool)) : Option (Option (List (List Bool))) :=
  kk_L2 h_84

def m_graph_Graph_Among_J4 (h_78 : List (List Bool)) (kk_L2 : ((List (List Bool)) → Option (Option (List (List Bool))))) (x_80 : (Int × Int)) (v_110 : Bool) : Option (Option (List (List Bool))) :=
  if v_110 = true then ((m_graph_Graph_Join h_78 x_80.1 x_80.2).bind fun r_111 => m_graph_Graph_Among_J3 kk_L2 r_111.2) else (m_graph_Graph_Among_J3 kk_L2 h_78)

def m_graph_Graph_Among_L2 (p1_points : (List Int)) : List (Int × Int) → (List (List Bool)) → Option (Option (List (List Bool)))
  | [], h_78 => some (some h_78)
  | x_80 :: l_81, h_78 => (m_slices_Contains_int_int p1_points x_80.1).bind fun r_117 => if r_117 = true then ((m_slices_Contains_int_int p1_points x_80.2).bind fun r_122 => m_graph_Graph_Among_J4 h_78 (m_graph_Graph_Among_L2 p1_points l_81) x_80 r_122) else (m_graph_Graph_Among_J4 h_78 (m_graph_Graph_Among_L2 p1_points l_81) x_80 false)

def m_graph_Graph_Among (N : Nat) (p0_g : List (List Bool)) (p1_points : (List Int)) : Option (Option (List (List Bool))) :=
  (m_graph_Graph_Len p0_g).bind fun r_1 => (m_graph_New r_1).bind fun r_5 => optC (r_5.1) ((m_graph_Graph_list N p0_g).bind fun r_16 => m_graph_Graph_Among_L1 p1_points r_16 ) (fun t_12 => (m_graph_Graph_list N p0_g).bind fun r_66 => m_graph_Graph_Among_L2 p1_points r_66 t_12)

set_option maxRecDepth 100000 in
set_option maxHeartbeats 2000000 in
theorem c_graph_Graph_Among (N : Nat) (c1 : Nat) (col : Col) (w0 : World) (qc0 : Nat) (hqqc0 : qc0 ≠ 0) (o0 : GObj) (p0_g : List (List Bool)) (a1 : Option Addr) (cap1 : Nat) (p1_points : (List Int)) (h0 : GO 85 86 qc0 col w0 o0 p0_g) (h1 : Sl (Rep.int .i64) col w0 a1 cap1 p1_points) (r : (Option (List (List Bool)))) (hm : m_graph_Graph_Among N p0_g p1_points = some r) :
    Calls Try.prog 28 #[(.pointer (some ⟨o0.g, 0, none⟩)), (.slice a1 p1_points.length cap1)] w0 (fun e w' => ∃ (col' : Col) (rv1 : Value), e = .returned (rv1) ∧ Grow col w0 col' w' ∧ optP rv1 r (fun (d : List (List Bool)) => ∃ (o9 : GObj), rv1 = .pointer (some ⟨o9.g, 0, none⟩) ∧ GO 85 86 c1 col' w' o9 d)) := by
  refine calls_of1 4 (m := 40) (args := [(.pointer (some ⟨o0.g, 0, none⟩)), (.slice a1 p1_points.length cap1)]) Try.func28 rfl rfl rfl rfl rfl ?_
  rw [m_graph_Graph_Among.eq_1] at hm
  have hst := St.start col w0
  replace h0 := h0.start0 hqqc0
  replace h1 := h1.keep (Stay.start col w0)
  refine wseq ?_
  refine wregion ?_
  refine lv (v := (.pointer none)) rfl rfl (r_assign rfl) ?_
  refine lnil ?_
  refine wseq ?_
  refine wregion ?_
  refine lv (v := (.pointer (some ⟨o0.g, 0, none⟩))) rfl rfl (r_move rfl) ?_
  obtain ⟨r_1, hr_2, hm⟩ := bind_some hm
  refine lc rfl rfl (r_call1 Try.call15 rfl) (c_graph_Graph_Len (col0 col) _ 999 (by decide) o0 p0_g h0 r_1 hr_2) ?_
  rintro _ w_3 ⟨rfl, hg_4⟩
  refine ⟨_, rfl, ?_⟩
  replace hg_4 : Grow (col0 col) w0 (col0 col) w_3 := .of_below hg_4
  replace h0 := h0.gr hg_4
  replace h1 := h1.gr hg_4
  replace hst := hst.grow hg_4
  obtain ⟨r_5, hr_6, hm⟩ := bind_some hm
  refine lc rfl rfl (r_call1 Try.call51 rfl) (c_graph_New 1 (col0 col) _ r_1 r_5 hr_6) ?_
  rintro _ w_9 ⟨col_11, rv_7, rfl, hg_10, rh_8⟩
  refine ⟨_, rfl, ?_⟩
  replace h0 := h0.gr hg_10
  replace h1 := h1.gr hg_10
  replace hst := hst.grow hg_10
  cases hx_13 : r_5.1 with
  | none =>
    rw [hx_13] at hm rh_8
    replace hm := optC_none hm
    obtain rfl := optP_none rh_8
    clear rh_8
    refine lv (v := (.tuple #[(.pointer none), (.int .i64 r_5.2)])) rfl rfl (r_move rfl) ?_
    refine lv (v := (.pointer none)) rfl rfl (r_extract rfl rfl) ?_
    refine lv (v := (.int .i64 r_5.2)) rfl rfl (r_extract rfl rfl) ?_
    refine lv (v := (.pointer none)) rfl rfl (r_assign rfl) ?_
    refine lv (v := (.int .i64 r_5.2)) rfl rfl (r_assign rfl) ?_
    refine lnil ?_
    refine wseq ?_
    refine wseq ?_
    refine wregion ?_
    refine lv (v := (.pointer (some ⟨o0.g, 0, none⟩))) rfl rfl (r_move rfl) ?_
    obtain ⟨r_16, hr_17, hm⟩ := bind_some hm
    refine lc rfl rfl (r_call1 Try.call69 rfl) (c_graph_Graph_list N 2 col_11 _ 999 (by decide) o0 p0_g h0 r_16 hr_17) ?_
    rintro _ w_21 ⟨col_23, ra_18, rc_19, rfl, hg_22, rh_20⟩
    refine ⟨_, rfl, ?_⟩
    replace h1 := h1.gr hg_22
    replace h0 := h0.gr hg_22
    replace hst := hst.grow hg_22
    refine lv (v := (.int .i64 (r_16.length : Int))) rfl rfl (r_len Try.underlying29 rfl) ?_
    refine lv (v := (.int .i64 0)) rfl rfl (r_move rfl) ?_
    refine lnil ?_
    refine wblock ?_
    refine wloop (fun n f w_26 => ∃ (col_27 : Col) (k_24 : Nat) (l_25 : List (Int × Int)), n = l_25.length ∧ r_16.drop k_24 = l_25 ∧ m_graph_Graph_Among_L1 p1_points l_25  = some r ∧ St w0 (col0 col) col_27 w_26 ∧ Sl (Rep.int .i64) col_27 w_26 a1 cap1 p1_points ∧ Own (Rep.pair (Rep.int .i64) (Rep.int .i64)) 47 2 col_27 w_26 ra_18 rc_19 r_16 ∧ f 18 = (.int .i64 (k_24 : Int)) ∧ f 1 = (.slice a1 p1_points.length cap1) ∧ f 16 = (.slice ra_18 r_16.length rc_19) ∧ f 17 = (.int .i64 (r_16.length : Int)) ∧ f 5 = (.pointer none) ∧ f 1000000 = (enc [])) r_16.length ⟨col_23, 0, r_16, rfl, rfl, hm, hst, h1, rh_20, rfl, rfl, rfl, rfl, rfl, rfl⟩ ?_
    clear hm; intro n f w_26 hI
    obtain ⟨col_27, k_24, l_25, hn, hl, hm, hst, h1, rh_20, hs18, hs1, hs16, hs17, hs5, hs1000000⟩ := hI
    subst hn
    refine .ld (d := 18) (v := (.int .i64 (k_24 : Int))) hs18 ?_
    refine .ld (d := 1) (v := (.slice a1 p1_points.length cap1)) hs1 ?_
    refine .ld (d := 16) (v := (.slice ra_18 r_16.length rc_19)) hs16 ?_
    refine .ld (d := 17) (v := (.int .i64 (r_16.length : Int))) hs17 ?_
    refine .ld (d := 5) (v := (.pointer none)) hs5 ?_
    refine .ld (d := 1000000) (v := (enc [])) hs1000000 ?_
    clear hs18 hs1 hs16 hs17 hs5 hs1000000
    cases l_25 with
    | nil =>
      have hk : ¬ ((k_24 : Int) < (r_16.length : Int)) := by have := List.drop_eq_nil_iff.1 hl; omega
      have hkb := decide_eq_false hk
      rw [m_graph_Graph_Among_L1.eq_1] at hm
      refine wseq ?_
      refine wregion ?_
      refine lv (v := (.bool (decide ((k_24 : Int) < (r_16.length : Int))))) rfl rfl (r_lss (k_24 : Int) (r_16.length : Int) rfl rfl) ?_
      refine lnil ?_
      refine wseq ?_
      refine wcondF (congrArg Value.bool hkb) ?_
      refine wexit (inB_hit ?_)
      refine wseq ?_
      refine wregion ?_
      refine lv (v := (.pointer none)) rfl rfl (r_move rfl) ?_
      refine lv (v := (.pointer none)) rfl rfl (r_assign rfl) ?_
      refine lnil ?_
      refine wret ?_
      cases hm
      exact ⟨rfl, colF w0.heap.size col col_27 (fun n => 0), (.pointer none), rfl, hst.fin (fun n => 0), optP_no⟩
    | cons x_28 l_29 =>
      obtain ⟨hat, hl2, hlt⟩ := drop_get hl
      have hk : (k_24 : Int) < (r_16.length : Int) := by omega
      have hkb := decide_eq_true hk
      rw [m_graph_Graph_Among_L1.eq_2] at hm
      refine wseq ?_
      refine wregion ?_
      refine lv (v := (.bool (decide ((k_24 : Int) < (r_16.length : Int))))) rfl rfl (r_lss (k_24 : Int) (r_16.length : Int) rfl rfl) ?_
      refine lnil ?_
      refine wseq ?_
      refine wcondT (congrArg Value.bool hkb) ?_
      refine wskip ?_
      refine wseq ?_
      refine Wp.cut (fun f w_30 => ∃ (col_31 : Col), m_graph_Graph_Among_J1 (m_graph_Graph_Among_L1 p1_points l_29)  = some r ∧ St w0 (col0 col) col_31 w_30 ∧ Sl (Rep.int .i64) col_31 w_30 a1 cap1 p1_points ∧ Own (Rep.pair (Rep.int .i64) (Rep.int .i64)) 47 2 col_31 w_30 ra_18 rc_19 r_16 ∧ f 1 = (.slice a1 p1_points.length cap1) ∧ f 16 = (.slice ra_18 r_16.length rc_19) ∧ f 17 = (.int .i64 (r_16.length : Int)) ∧ f 18 = (.int .i64 (k_24 : Int)) ∧ f 5 = (.pointer none) ∧ f 1000000 = (enc [])) ?_ ?_
      · intro f w_30 hJ
        obtain ⟨col_31, hm, hst, h1, rh_20, hs1, hs16, hs17, hs18, hs5, hs1000000⟩ := hJ
        rw [m_graph_Graph_Among_J1.eq_1] at hm
        refine .ld (d := 1) (v := (.slice a1 p1_points.length cap1)) hs1 ?_
        refine .ld (d := 16) (v := (.slice ra_18 r_16.length rc_19)) hs16 ?_
        refine .ld (d := 17) (v := (.int .i64 (r_16.length : Int))) hs17 ?_
        refine .ld (d := 18) (v := (.int .i64 (k_24 : Int))) hs18 ?_
        refine .ld (d := 5) (v := (.pointer none)) hs5 ?_
        refine .ld (d := 1000000) (v := (enc [])) hs1000000 ?_
        clear hs1 hs16 hs17 hs18 hs5 hs1000000
        refine wregion ?_
        refine lv (v := (.int .i64 (IntKind.i64.wrap ((k_24 : Int) + 1)))) rfl rfl (r_add (k_24 : Int) 1 rfl rfl) ?_
        refine lv (v := (.int .i64 (IntKind.i64.wrap ((k_24 : Int) + 1)))) rfl rfl (r_move rfl) ?_
        refine lnil ?_
        exact ⟨l_29.length, by simp, ⟨col_31, (k_24 + 1), l_29, rfl, hl2, hm, hst, h1, rh_20, (congrArg (Value.int .i64) (wrap_succ (Nat.lt_of_lt_of_le hlt rh_20.len))), rfl, rfl, rfl, rfl, rfl⟩⟩
      · refine wblock ?_
        refine wseq ?_
        refine wregion ?_
        refine lv (v := (sptr ra_18 (Int.toNat (k_24 : Int) * 2))) rfl rfl (r_idx Try.underlying29 Try.sizeOf47 rfl rfl (at?_some hat).1 (at?_some hat).2.1 (rh_20.addr hat)) ?_
        obtain ⟨_, hr_32, hA_33⟩ := rh_20.atN hat
        obtain ⟨_, _, rfl, hp_34, hp_35⟩ := hr_32.parts
        obtain rfl := hp_34.int
        obtain rfl := hp_35.int
        refine lv (v := (.agg #[(.int .i64 x_28.1), (.int .i64 x_28.2)])) rfl rfl (r_ldN Try.isAgg47 Try.sizeOf47 rfl rfl hA_33) ?_
        refine l_alloc (col := col_27) (v := (.agg #[(.int .i64 0), (.int .i64 0)])) 3 rfl Try.zeroValue47 ?_
        intro g_36 w_37 col_38 hg_39 hb_40
        replace h1 := h1.gr hg_39
        replace rh_20 := rh_20.gr hg_39
        replace hst := hst.grow hg_39
        replace hb_40 : Box 47 3 col_38 w_37 g_36 #[(.int .i64 0), (.int .i64 0)] := hb_40
        refine l_bstore (v := (.agg #[(.int .i64 x_28.1), (.int .i64 x_28.2)])) hb_40 Try.sizeOf47 rfl rfl (by intro u hu; simp only [Value.cells, List.mem_cons, List.not_mem_nil, or_false] at hu; rcases hu with rfl | rfl <;> rfl) rfl rfl ?_
        intro w_41 hk_42 hs_43 hb_44
        replace h1 := h1.kp hk_42 (by decide)
        replace rh_20 := rh_20.kp hk_42 (by decide) (by decide)
        replace hst := hst.kp hk_42 hs_43 (by decide) (by decide)
        clear hb_40
        replace hb_44 : Box 47 3 col_38 w_41 g_36 #[(.int .i64 x_28.1), (.int .i64 x_28.2)] := hb_44
        refine lnil ?_
        refine wseq ?_
        refine Wp.cut (fun f w_54 => ∃ (col_55 : Col) (v_56 : Bool), m_graph_Graph_Among_J2 (m_graph_Graph_Among_L1 p1_points l_29) v_56 = some r ∧ St w0 (col0 col) col_55 w_54 ∧ Sl (Rep.int .i64) col_55 w_54 a1 cap1 p1_points ∧ Own (Rep.pair (Rep.int .i64) (Rep.int .i64)) 47 2 col_55 w_54 ra_18 rc_19 r_16 ∧ Box 47 3 col_55 w_54 g_36 #[(.int .i64 x_28.1), (.int .i64 x_28.2)] ∧ f 1 = (.slice a1 p1_points.length cap1) ∧ f 16 = (.slice ra_18 r_16.length rc_19) ∧ f 17 = (.int .i64 (r_16.length : Int)) ∧ f 18 = (.int .i64 (k_24 : Int)) ∧ f 31 = (.bool v_56) ∧ f 5 = (.pointer none) ∧ f 8 = (.pointer (some ⟨g_36, 0, none⟩)) ∧ f 1000000 = (enc [])) ?_ ?_
        · intro f w_54 hJ
          obtain ⟨col_55, v_56, hm, hst, h1, rh_20, hb_44, hs1, hs16, hs17, hs18, hs31, hs5, hs8, hs1000000⟩ := hJ
          rw [m_graph_Graph_Among_J2.eq_1] at hm
          refine .ld (d := 1) (v := (.slice a1 p1_points.length cap1)) hs1 ?_
          refine .ld (d := 16) (v := (.slice ra_18 r_16.length rc_19)) hs16 ?_
          refine .ld (d := 17) (v := (.int .i64 (r_16.length : Int))) hs17 ?_
          refine .ld (d := 18) (v := (.int .i64 (k_24 : Int))) hs18 ?_
          refine .ld (d := 31) (v := (.bool v_56)) hs31 ?_
          refine .ld (d := 5) (v := (.pointer none)) hs5 ?_
          refine .ld (d := 8) (v := (.pointer (some ⟨g_36, 0, none⟩))) hs8 ?_
          refine .ld (d := 1000000) (v := (enc [])) hs1000000 ?_
          clear hs1 hs16 hs17 hs18 hs31 hs5 hs8 hs1000000
          refine wcond (v_56) rfl (fun hb => ?_) (fun hb => ?_)
          · rw [if_pos hb] at hm
            clear hb
            refine wregion ?_
            refine lv (v := (.pointer none)) rfl rfl (r_move rfl) ?_
            refine lv (v := (.pointer ((some (⟨g_36, 0, none⟩ : Addr)).map (·.add 0)))) rfl rfl (r_fieldAddr (sz := 1) (off := 0) Try.underlying47 rfl Try.sizeOf3 (by decide) rfl rfl ⟨_, _, rfl⟩) ?_
            refine lv (v := (.int .i64 x_28.1)) rfl rfl (r_ld Try.isAgg3 rfl ((hb_44.atN).nth (q := 0) (v := (.int .i64 x_28.1)) rfl)) ?_
            refine lv (v := (.pointer ((some (⟨g_36, 0, none⟩ : Addr)).map (·.add 1)))) rfl rfl (r_fieldAddr (sz := 1) (off := 1) Try.underlying47 rfl Try.sizeOf3 (by decide) rfl rfl ⟨_, _, rfl⟩) ?_
            refine lv (v := (.int .i64 x_28.2)) rfl rfl (r_ld Try.isAgg3 rfl ((hb_44.atN).nth (q := 1) (v := (.int .i64 x_28.2)) rfl)) ?_
            cases hm
          · rw [if_neg (by rw [hb]; decide)] at hm
            clear hb
            refine wskip ?_
            exact ⟨col_55, hm, hst, h1, rh_20, rfl, rfl, rfl, rfl, rfl, rfl⟩
        · refine wregion ?_
          refine lv (v := (.slice a1 p1_points.length cap1)) rfl rfl (r_move rfl) ?_
          refine lv (v := (.pointer ((some (⟨g_36, 0, none⟩ : Addr)).map (·.add 0)))) rfl rfl (r_fieldAddr (sz := 1) (off := 0) Try.underlying47 rfl Try.sizeOf3 (by decide) rfl rfl ⟨_, _, rfl⟩) ?_
          refine lv (v := (.int .i64 x_28.1)) rfl rfl (r_ld Try.isAgg3 rfl ((hb_44.atN).nth (q := 0) (v := (.int .i64 x_28.1)) rfl)) ?_
          obtain ⟨r_57, hr_58, hm⟩ := bind_some hm
          refine lc rfl rfl (r_call2 Try.call70 rfl rfl) (c_slices_Contains_int_int col_38 _ a1 cap1 p1_points x_28.1 h1 r_57 hr_58) ?_
          rintro _ w_59 ⟨rfl, hg_60⟩
          refine ⟨_, rfl, ?_⟩
          replace hg_60 : Grow col_38 w_41 col_38 w_59 := .of_below hg_60
          replace h1 := h1.gr hg_60
          replace rh_20 := rh_20.gr hg_60
          replace hb_44 := hb_44.gr hg_60
          replace hst := hst.grow hg_60
          refine lv (v := (.bool r_57)) rfl rfl (r_move rfl) ?_
          by_cases hg_61 : r_57 = true
          · rw [if_pos hg_61] at hm
            refine lg (b := r_57) 26 rfl rfl rfl (by rw [hg_61]; rfl) ?_
            refine lv (v := (.slice a1 p1_points.length cap1)) rfl rfl (r_move rfl) ?_
            refine lg (b := r_57) 26 rfl rfl rfl (by rw [hg_61]; rfl) ?_
            refine lv (v := (.pointer ((some (⟨g_36, 0, none⟩ : Addr)).map (·.add 1)))) rfl rfl (r_fieldAddr (sz := 1) (off := 1) Try.underlying47 rfl Try.sizeOf3 (by decide) rfl rfl ⟨_, _, rfl⟩) ?_
            refine lg (b := r_57) 26 rfl rfl rfl (by rw [hg_61]; rfl) ?_
            refine lv (v := (.int .i64 x_28.2)) rfl rfl (r_ld Try.isAgg3 rfl ((hb_44.atN).nth (q := 1) (v := (.int .i64 x_28.2)) rfl)) ?_
            refine lg (b := r_57) 26 rfl rfl rfl (by rw [hg_61]; rfl) ?_
            obtain ⟨r_62, hr_63, hm⟩ := bind_some hm
            refine lc rfl rfl (r_call2 Try.call70 rfl rfl) (c_slices_Contains_int_int col_38 _ a1 cap1 p1_points x_28.2 h1 r_62 hr_63) ?_
            rintro _ w_64 ⟨rfl, hg_65⟩
            refine ⟨_, rfl, ?_⟩
            replace hg_65 : Grow col_38 w_59 col_38 w_64 := .of_below hg_65
            replace h1 := h1.gr hg_65
            replace rh_20 := rh_20.gr hg_65
            replace hb_44 := hb_44.gr hg_65
            replace hst := hst.grow hg_65
            refine lv (v := (.bool r_62)) rfl rfl (r_pickT (congrArg Value.bool hg_61) rfl) ?_
            refine lnil ?_
            exact ⟨col_38, r_62, hm, hst, h1, rh_20, hb_44, rfl, rfl, rfl, rfl, rfl, rfl, rfl, rfl⟩
          · rw [if_neg hg_61] at hm
            replace hg_61 := Bool.eq_false_iff.2 hg_61
            refine lp (b := r_57) 26 rfl rfl rfl rfl (by rw [hg_61]; rfl) ?_
            refine lp (b := r_57) 26 rfl rfl rfl rfl (by rw [hg_61]; rfl) ?_
            refine lp (b := r_57) 26 rfl rfl rfl rfl (by rw [hg_61]; rfl) ?_
            refine lp (b := r_57) 26 rfl rfl rfl rfl (by rw [hg_61]; rfl) ?_
            refine lv (v := (.bool false)) rfl rfl (r_pickF (congrArg Value.bool hg_61) rfl) ?_
            refine lnil ?_
            exact ⟨col_38, false, hm, hst, h1, rh_20, hb_44, rfl, rfl, rfl, rfl, rfl, rfl, rfl, rfl⟩
  | some t_12 =>
    rw [hx_13] at hm rh_8
    replace hm := optC_some hm
    obtain ⟨o_14, rfl, hG_15⟩ := optP_some rh_8
    refine lv (v := (.tuple #[(.pointer (some ⟨o_14.g, 0, none⟩)), (.int .i64 r_5.2)])) rfl rfl (r_move rfl) ?_
    refine lv (v := (.pointer (some ⟨o_14.g, 0, none⟩))) rfl rfl (r_extract rfl rfl) ?_
    refine lv (v := (.int .i64 r_5.2)) rfl rfl (r_extract rfl rfl) ?_
    refine lv (v := (.pointer (some ⟨o_14.g, 0, none⟩))) rfl rfl (r_assign rfl) ?_
    refine lv (v := (.int .i64 r_5.2)) rfl rfl (r_assign rfl) ?_
    refine lnil ?_
    refine wseq ?_
    refine wseq ?_
    refine wregion ?_
    refine lv (v := (.pointer (some ⟨o0.g, 0, none⟩))) rfl rfl (r_move rfl) ?_
    obtain ⟨r_66, hr_67, hm⟩ := bind_some hm
    refine lc rfl rfl (r_call1 Try.call69 rfl) (c_graph_Graph_list N 4 col_11 _ 999 (by decide) o0 p0_g h0 r_66 hr_67) ?_
    rintro _ w_71 ⟨col_73, ra_68, rc_69, rfl, hg_72, rh_70⟩
    refine ⟨_, rfl, ?_⟩
    replace h1 := h1.gr hg_72
    replace hG_15 := hG_15.gr hg_72
    replace h0 := h0.gr hg_72
    replace hst := hst.grow hg_72
    refine lv (v := (.int .i64 (r_66.length : Int))) rfl rfl (r_len Try.underlying29 rfl) ?_
    refine lv (v := (.int .i64 0)) rfl rfl (r_move rfl) ?_
    refine lnil ?_
    refine wblock ?_
    refine wloop (fun n f w_76 => ∃ (col_77 : Col) (k_74 : Nat) (h_78 : List (List Bool)) (l_75 : List (Int × Int)), n = l_75.length ∧ r_66.drop k_74 = l_75 ∧ m_graph_Graph_Among_L2 p1_points l_75 h_78 = some r ∧ St w0 (col0 col) col_77 w_76 ∧ Sl (Rep.int .i64) col_77 w_76 a1 cap1 p1_points ∧ Own (Rep.pair (Rep.int .i64) (Rep.int .i64)) 47 4 col_77 w_76 ra_68 rc_69 r_66 ∧ GO 85 86 1 col_77 w_76 o_14 h_78 ∧ f 18 = (.int .i64 (k_74 : Int)) ∧ f 1 = (.slice a1 p1_points.length cap1) ∧ f 16 = (.slice ra_68 r_66.length rc_69) ∧ f 17 = (.int .i64 (r_66.length : Int)) ∧ f 5 = (.pointer (some ⟨o_14.g, 0, none⟩)) ∧ f 1000000 = (enc [])) r_66.length ⟨col_73, 0, t_12, r_66, rfl, rfl, hm, hst, h1, rh_70, hG_15, rfl, rfl, rfl, rfl, rfl, rfl⟩ ?_
    clear hm; intro n f w_76 hI
    obtain ⟨col_77, k_74, h_78, l_75, hn, hl, hm, hst, h1, rh_70, h_79, hs18, hs1, hs16, hs17, hs5, hs1000000⟩ := hI
    subst hn
    refine .ld (d := 18) (v := (.int .i64 (k_74 : Int))) hs18 ?_
    refine .ld (d := 1) (v := (.slice a1 p1_points.length cap1)) hs1 ?_
    refine .ld (d := 16) (v := (.slice ra_68 r_66.length rc_69)) hs16 ?_
    refine .ld (d := 17) (v := (.int .i64 (r_66.length : Int))) hs17 ?_
    refine .ld (d := 5) (v := (.pointer (some ⟨o_14.g, 0, none⟩))) hs5 ?_
    refine .ld (d := 1000000) (v := (enc [])) hs1000000 ?_
    clear hs18 hs1 hs16 hs17 hs5 hs1000000
    cases l_75 with
    | nil =>
      have hk : ¬ ((k_74 : Int) < (r_66.length : Int)) := by have := List.drop_eq_nil_iff.1 hl; omega
      have hkb := decide_eq_false hk
      rw [m_graph_Graph_Among_L2.eq_1] at hm
      refine wseq ?_
      refine wregion ?_
      refine lv (v := (.bool (decide ((k_74 : Int) < (r_66.length : Int))))) rfl rfl (r_lss (k_74 : Int) (r_66.length : Int) rfl rfl) ?_
      refine lnil ?_
      refine wseq ?_
      refine wcondF (congrArg Value.bool hkb) ?_
      refine wexit (inB_hit ?_)
      refine wseq ?_
      refine wregion ?_
      refine lv (v := (.pointer (some ⟨o_14.g, 0, none⟩))) rfl rfl (r_move rfl) ?_
      refine lv (v := (.pointer (some ⟨o_14.g, 0, none⟩))) rfl rfl (r_assign rfl) ?_
      refine lnil ?_
      refine wret ?_
      cases hm
      exact ⟨rfl, colF w0.heap.size col col_77 (fun n => bif Nat.beq n 1 then c1 else 0), (.pointer (some ⟨o_14.g, 0, none⟩)), rfl, hst.fin (fun n => bif Nat.beq n 1 then c1 else 0), optP_of ⟨_, rfl, hst.finGO (G := (fun n => bif Nat.beq n 1 then c1 else 0)) rfl h_79 (by decide) (by decide) rfl⟩⟩
    | cons x_80 l_81 =>
      obtain ⟨hat, hl2, hlt⟩ := drop_get hl
      have hk : (k_74 : Int) < (r_66.length : Int) := by omega
      have hkb := decide_eq_true hk
      rw [m_graph_Graph_Among_L2.eq_2] at hm
      refine wseq ?_
      refine wregion ?_
      refine lv (v := (.bool (decide ((k_74 : Int) < (r_66.length : Int))))) rfl rfl (r_lss (k_74 : Int) (r_66.length : Int) rfl rfl) ?_
      refine lnil ?_
      refine wseq ?_
      refine wcondT (congrArg Value.bool hkb) ?_
      refine wskip ?_
      refine wseq ?_
      refine Wp.cut (fun f w_82 => ∃ (col_83 : Col) (h_84 : List (List Bool)), m_graph_Graph_Among_J3 (m_graph_Graph_Among_L2 p1_points l_81) h_84 = some r ∧ St w0 (col0 col) col_83 w_82 ∧ Sl (Rep.int .i64) col_83 w_82 a1 cap1 p1_points ∧ Own (Rep.pair (Rep.int .i64) (Rep.int .i64)) 47 4 col_83 w_82 ra_68 rc_69 r_66 ∧ GO 85 86 1 col_83 w_82 o_14 h_84 ∧ f 1 = (.slice a1 p1_points.length cap1) ∧ f 16 = (.slice ra_68 r_66.length rc_69) ∧ f 17 = (.int .i64 (r_66.length : Int)) ∧ f 18 = (.int .i64 (k_74 : Int)) ∧ f 5 = (.pointer (some ⟨o_14.g, 0, none⟩)) ∧ f 1000000 = (enc [])) ?_ ?_
      · intro f w_82 hJ
        obtain ⟨col_83, h_84, hm, hst, h1, rh_70, h_85, hs1, hs16, hs17, hs18, hs5, hs1000000⟩ := hJ
        rw [m_graph_Graph_Among_J3.eq_1] at hm
        refine .ld (d := 1) (v := (.slice a1 p1_points.length cap1)) hs1 ?_
        refine .ld (d := 16) (v := (.slice ra_68 r_66.length rc_69)) hs16 ?_
        refine .ld (d := 17) (v := (.int .i64 (r_66.length : Int))) hs17 ?_
        refine .ld (d := 18) (v := (.int .i64 (k_74 : Int))) hs18 ?_
        refine .ld (d := 5) (v := (.pointer (some ⟨o_14.g, 0, none⟩))) hs5 ?_
        refine .ld (d := 1000000) (v := (enc [])) hs1000000 ?_
        clear hs1 hs16 hs17 hs18 hs5 hs1000000
        refine wregion ?_
        refine lv (v := (.int .i64 (IntKind.i64.wrap ((k_74 : Int) + 1)))) rfl rfl (r_add (k_74 : Int) 1 rfl rfl) ?_
        refine lv (v := (.int .i64 (IntKind.i64.wrap ((k_74 : Int) + 1)))) rfl rfl (r_move rfl) ?_
        refine lnil ?_
        exact ⟨l_81.length, by simp, ⟨col_83, (k_74 + 1), h_84, l_81, rfl, hl2, hm, hst, h1, rh_70, h_85, (congrArg (Value.int .i64) (wrap_succ (Nat.lt_of_lt_of_le hlt rh_70.len))), rfl, rfl, rfl, rfl, rfl⟩⟩
      · refine wblock ?_
        refine wseq ?_
        refine wregion ?_
        refine lv (v := (sptr ra_68 (Int.toNat (k_74 : Int) * 2))) rfl rfl (r_idx Try.underlying29 Try.sizeOf47 rfl rfl (at?_some hat).1 (at?_some hat).2.1 (rh_70.addr hat)) ?_
        obtain ⟨_, hr_86, hA_87⟩ := rh_70.atN hat
        obtain ⟨_, _, rfl, hp_88, hp_89⟩ := hr_86.parts
        obtain rfl := hp_88.int
        obtain rfl := hp_89.int
        refine lv (v := (.agg #[(.int .i64 x_80.1), (.int .i64 x_80.2)])) rfl rfl (r_ldN Try.isAgg47 Try.sizeOf47 rfl rfl hA_87) ?_
        refine l_alloc (col := col_77) (v := (.agg #[(.int .i64 0), (.int .i64 0)])) 5 rfl Try.zeroValue47 ?_
        intro g_90 w_91 col_92 hg_93 hb_94
        replace h1 := h1.gr hg_93
        replace rh_70 := rh_70.gr hg_93
        replace h_79 := h_79.gr hg_93
        replace hst := hst.grow hg_93
        replace hb_94 : Box 47 5 col_92 w_91 g_90 #[(.int .i64 0), (.int .i64 0)] := hb_94
        refine l_bstore (v := (.agg #[(.int .i64 x_80.1), (.int .i64 x_80.2)])) hb_94 Try.sizeOf47 rfl rfl (by intro u hu; simp only [Value.cells, List.mem_cons, List.not_mem_nil, or_false] at hu; rcases hu with rfl | rfl <;> rfl) rfl rfl ?_
        intro w_95 hk_96 hs_97 hb_98
        replace h1 := h1.kp hk_96 (by decide)
        replace rh_70 := rh_70.kp hk_96 (by decide) (by decide)
        replace h_79 := h_79.kp hk_96 (by decide) (by decide)
        replace hst := hst.kp hk_96 hs_97 (by decide) (by decide)
        clear hb_94
        replace hb_98 : Box 47 5 col_92 w_95 g_90 #[(.int .i64 x_80.1), (.int .i64 x_80.2)] := hb_98
        refine lnil ?_
        refine wseq ?_
        refine Wp.cut (fun f w_108 => ∃ (col_109 : Col) (v_110 : Bool), m_graph_Graph_Among_J4 h_78 (m_graph_Graph_Among_L2 p1_points l_81) x_80 v_110 = some r ∧ St w0 (col0 col) col_109 w_108 ∧ Sl (Rep.int .i64) col_109 w_108 a1 cap1 p1_points ∧ Own (Rep.pair (Rep.int .i64) (Rep.int .i64)) 47 4 col_109 w_108 ra_68 rc_69 r_66 ∧ GO 85 86 1 col_109 w_108 o_14 h_78 ∧ Box 47 5 col_109 w_108 g_90 #[(.int .i64 x_80.1), (.int .i64 x_80.2)] ∧ f 1 = (.slice a1 p1_points.length cap1) ∧ f 16 = (.slice ra_68 r_66.length rc_69) ∧ f 17 = (.int .i64 (r_66.length : Int)) ∧ f 18 = (.int .i64 (k_74 : Int)) ∧ f 31 = (.bool v_110) ∧ f 5 = (.pointer (some ⟨o_14.g, 0, none⟩)) ∧ f 8 = (.pointer (some ⟨g_90, 0, none⟩)) ∧ f 1000000 = (enc [])) ?_ ?_
        · intro f w_108 hJ
          obtain ⟨col_109, v_110, hm, hst, h1, rh_70, h_79, hb_98, hs1, hs16, hs17, hs18, hs31, hs5, hs8, hs1000000⟩ := hJ
          rw [m_graph_Graph_Among_J4.eq_1] at hm
          refine .ld (d := 1) (v := (.slice a1 p1_points.length cap1)) hs1 ?_
          refine .ld (d := 16) (v := (.slice ra_68 r_66.length rc_69)) hs16 ?_
          refine .ld (d := 17) (v := (.int .i64 (r_66.length : Int))) hs17 ?_
          refine .ld (d := 18) (v := (.int .i64 (k_74 : Int))) hs18 ?_
          refine .ld (d := 31) (v := (.bool v_110)) hs31 ?_
          refine .ld (d := 5) (v := (.pointer (some ⟨o_14.g, 0, none⟩))) hs5 ?_
          refine .ld (d := 8) (v := (.pointer (some ⟨g_90, 0, none⟩))) hs8 ?_
          refine .ld (d := 1000000) (v := (enc [])) hs1000000 ?_
          clear hs1 hs16 hs17 hs18 hs31 hs5 hs8 hs1000000
          refine wcond (v_110) rfl (fun hb => ?_) (fun hb => ?_)
          · rw [if_pos hb] at hm
            clear hb
            refine wregion ?_
            refine lv (v := (.pointer (some ⟨o_14.g, 0, none⟩))) rfl rfl (r_move rfl) ?_
            refine lv (v := (.pointer ((some (⟨g_90, 0, none⟩ : Addr)).map (·.add 0)))) rfl rfl (r_fieldAddr (sz := 1) (off := 0) Try.underlying47 rfl Try.sizeOf3 (by decide) rfl rfl ⟨_, _, rfl⟩) ?_
            refine lv (v := (.int .i64 x_80.1)) rfl rfl (r_ld Try.isAgg3 rfl ((hb_98.atN).nth (q := 0) (v := (.int .i64 x_80.1)) rfl)) ?_
            refine lv (v := (.pointer ((some (⟨g_90, 0, none⟩ : Addr)).map (·.add 1)))) rfl rfl (r_fieldAddr (sz := 1) (off := 1) Try.underlying47 rfl Try.sizeOf3 (by decide) rfl rfl ⟨_, _, rfl⟩) ?_
            refine lv (v := (.int .i64 x_80.2)) rfl rfl (r_ld Try.isAgg3 rfl ((hb_98.atN).nth (q := 1) (v := (.int .i64 x_80.2)) rfl)) ?_
            obtain ⟨r_111, hr_112, hm⟩ := bind_some hm
            refine lc rfl rfl (r_call3 Try.call23 rfl rfl rfl) (c_graph_Graph_Join col_109 _ 1 rfl o_14 h_78 x_80.1 x_80.2 h_79 r_111 hr_112) ?_
            rintro _ w_114 ⟨col_116, rfl, hg_115, oh_113⟩
            refine ⟨_, rfl, ?_⟩
            replace h1 := h1.kpp hg_115 rfl
            replace rh_70 := rh_70.kpp hg_115 rfl rfl
            replace hst := hst.kpp hg_115 rfl rfl
            clear h_79
            refine lnil ?_
            exact ⟨col_116, r_111.2, hm, hst, h1, rh_70, oh_113, rfl, rfl, rfl, rfl, rfl, rfl⟩
          · rw [if_neg (by rw [hb]; decide)] at hm
            clear hb
            refine wskip ?_
            exact ⟨col_109, h_78, hm, hst, h1, rh_70, h_79, rfl, rfl, rfl, rfl, rfl, rfl⟩
        · refine wregion ?_
          refine lv (v := (.slice a1 p1_points.length cap1)) rfl rfl (r_move rfl) ?_
          refine lv (v := (.pointer ((some (⟨g_90, 0, none⟩ : Addr)).map (·.add 0)))) rfl rfl (r_fieldAddr (sz := 1) (off := 0) Try.underlying47 rfl Try.sizeOf3 (by decide) rfl rfl ⟨_, _, rfl⟩) ?_
          refine lv (v := (.int .i64 x_80.1)) rfl rfl (r_ld Try.isAgg3 rfl ((hb_98.atN).nth (q := 0) (v := (.int .i64 x_80.1)) rfl)) ?_
          obtain ⟨r_117, hr_118, hm⟩ := bind_some hm
          refine lc rfl rfl (r_call2 Try.call70 rfl rfl) (c_slices_Contains_int_int col_92 _ a1 cap1 p1_points x_80.1 h1 r_117 hr_118) ?_
          rintro _ w_119 ⟨rfl, hg_120⟩
          refine ⟨_, rfl, ?_⟩
          replace hg_120 : Grow col_92 w_95 col_92 w_119 := .of_below hg_120
          replace h1 := h1.gr hg_120
          replace rh_70 := rh_70.gr hg_120
          replace h_79 := h_79.gr hg_120
          replace hb_98 := hb_98.gr hg_120
          replace hst := hst.grow hg_120
          refine lv (v := (.bool r_117)) rfl rfl (r_move rfl) ?_
          by_cases hg_121 : r_117 = true
          · rw [if_pos hg_121] at hm
            refine lg (b := r_117) 26 rfl rfl rfl (by rw [hg_121]; rfl) ?_
            refine lv (v := (.slice a1 p1_points.length cap1)) rfl rfl (r_move rfl) ?_
            refine lg (b := r_117) 26 rfl rfl rfl (by rw [hg_121]; rfl) ?_
            refine lv (v := (.pointer ((some (⟨g_90, 0, none⟩ : Addr)).map (·.add 1)))) rfl rfl (r_fieldAddr (sz := 1) (off := 1) Try.underlying47 rfl Try.sizeOf3 (by decide) rfl rfl ⟨_, _, rfl⟩) ?_
            refine lg (b := r_117) 26 rfl rfl rfl (by rw [hg_121]; rfl) ?_
            refine lv (v := (.int .i64 x_80.2)) rfl rfl (r_ld Try.isAgg3 rfl ((hb_98.atN).nth (q := 1) (v := (.int .i64 x_80.2)) rfl)) ?_
            refine lg (b := r_117) 26 rfl rfl rfl (by rw [hg_121]; rfl) ?_
            obtain ⟨r_122, hr_123, hm⟩ := bind_some hm
            refine lc rfl rfl (r_call2 Try.call70 rfl rfl) (c_slices_Contains_int_int col_92 _ a1 cap1 p1_points x_80.2 h1 r_122 hr_123) ?_
            rintro _ w_124 ⟨rfl, hg_125⟩
            refine ⟨_, rfl, ?_⟩
            replace hg_125 : Grow col_92 w_119 col_92 w_124 := .of_below hg_125
            replace h1 := h1.gr hg_125
            replace rh_70 := rh_70.gr hg_125
            replace h_79 := h_79.gr hg_125
            replace hb_98 := hb_98.gr hg_125
            replace hst := hst.grow hg_125
            refine lv (v := (.bool r_122)) rfl rfl (r_pickT (congrArg Value.bool hg_121) rfl) ?_
            refine lnil ?_
            exact ⟨col_92, r_122, hm, hst, h1, rh_70, h_79, hb_98, rfl, rfl, rfl, rfl, rfl, rfl, rfl, rfl⟩
          · rw [if_neg hg_121] at hm
            replace hg_121 := Bool.eq_false_iff.2 hg_121
            refine lp (b := r_117) 26 rfl rfl rfl rfl (by rw [hg_121]; rfl) ?_
            refine lp (b := r_117) 26 rfl rfl rfl rfl (by rw [hg_121]; rfl) ?_
            refine lp (b := r_117) 26 rfl rfl rfl rfl (by rw [hg_121]; rfl) ?_
            refine lp (b := r_117) 26 rfl rfl rfl rfl (by rw [hg_121]; rfl) ?_
            refine lv (v := (.bool false)) rfl rfl (r_pickF (congrArg Value.bool hg_121) rfl) ?_
            refine lnil ?_
            exact ⟨col_92, false, hm, hst, h1, rh_70, h_79, hb_98, rfl, rfl, rfl, rfl, rfl, rfl, rfl, rfl⟩



inductive Conn (t : List (List Bool)) : Int → Int → Prop
  | refl (a : Int) : Conn t a a
  | on {a x b : Int} : Conn t a x → ge t x b = true → Conn t a b
section
variable {n N : Nat} {t : List (List Bool)} {a b c x y : Int}
theorem Conn.trans (h : Conn t a b) (k : Conn t b c) : Conn t a c := by
  induction k with
  | refl => exact h
  | on _ e ih => exact .on ih e
theorem Conn.symm (hg : Gr n t) (h : Conn t a b) : Conn t b a := by
  induction h with
  | refl => exact .refl _
  | on _ e ih => exact ((Conn.refl _).on (by rw [hg.sym]; exact e)).trans ih
theorem Conn.range (hg : Tab n t) (ha : 0 ≤ a ∧ a < (n : Int)) (h : Conn t a b) : 0 ≤ b ∧ b < (n : Int) := by
  induction h with
  | refl => exact ha
  | on _ e _ => exact (hg.range e).2
theorem Conn.alone (ha : ∀ x, ge t a x = false) (h : Conn t a b) : b = a := by
  induction h with
  | refl => rfl
  | on _ e ih => rw [ih, ha] at e; cases e
theorem edgeT_iff : EdgeT t x b ↔ ge t x b = true := by
  unfold EdgeT ge row
  constructor
  · rintro ⟨r, h1, h2⟩; rw [h1]; exact h2
  · intro h
    cases hr : at? t x with
    | none => rw [hr] at h; simp [gat_nil] at h
    | some r => rw [hr] at h; exact ⟨r, rfl, h⟩
def pts (n : Nat) : List Int := (List.range n).map fun k : Nat => (k : Int)
theorem pts_mem : x ∈ pts n ↔ 0 ≤ x ∧ x < (n : Int) := by
  unfold pts
  rw [List.mem_map]
  constructor
  · rintro ⟨k, hk, rfl⟩; have := List.mem_range.1 hk; omega
  · exact fun h => ⟨x.toNat, List.mem_range.2 (by omega), by omega⟩
theorem pts_rises : (pts n).Pairwise (· < ·) := by
  unfold pts
  rw [List.pairwise_map]
  exact List.pairwise_lt_range.imp fun h => by omega
theorem pts_len : (pts n).length = n := by simp [pts]
theorem pts_drop {k : Nat} (hk : k < n) : (pts n).drop k = (k : Int) :: (pts n).drop (k + 1) := by
  rw [List.drop_eq_getElem_cons (by rw [pts_len]; exact hk)]
  simp [pts]
open Classical in
/-- What hangs with a point. -/
noncomputable def hang (n : Nat) (t : List (List Bool)) (v : Int) : List Int := (pts n).filter fun x => decide (Conn t v x)
open Classical in
/-- The points that hang with none less than themselves. -/
noncomputable def lsts (n : Nat) (t : List (List Bool)) : List Int := (pts n).filter fun v => decide (∀ a, 0 ≤ a → a < v → ¬ Conn t a v)
theorem hang_mem : x ∈ hang n t a ↔ (0 ≤ x ∧ x < (n : Int)) ∧ Conn t a x := by
  unfold hang; simp only [List.mem_filter, pts_mem, decide_eq_true_eq]
theorem hang_rises : (hang n t a).Pairwise (· < ·) := pts_rises.filter _
theorem lsts_mem : x ∈ lsts n t ↔ (0 ≤ x ∧ x < (n : Int)) ∧ ∀ a, 0 ≤ a → a < x → ¬ Conn t a x := by
  unfold lsts; simp only [List.mem_filter, pts_mem, decide_eq_true_eq]

theorem bfs_some (hsq : ∀ r ∈ t, r.length = t.length) {S : List Bool} (hS : S.length = t.length) : ∀ (f : Nat) (s : List Bool) (p : List Int) (i : Nat), BInv t S a s p i → i ≤ p.length → t.length - i < f → ∃ q, bfs t f s p i = some q
  | 0, _, _, _, _, _, h => by omega
  | f + 1, s, p, i, h, hi, hf => by
    unfold bfs
    cases hx : p[i]? with
    | none => exact ⟨_, rfl⟩
    | some x =>
      obtain ⟨row, hr⟩ := h.row hx
      obtain ⟨d, h1, h2, _⟩ := addAll_inv hsq hS hr (gkeys row) s p [] (h.go hx) fun b hb => gkeys_mem.1 hb
      have hlt := (List.getElem?_eq_some_iff.1 h1.here).1
      have hle := h1.inv.le
      have hil := (List.getElem?_eq_some_iff.1 hx).1
      have hle2 := h.le
      obtain ⟨q, hq⟩ := bfs_some hsq hS f _ _ (i + 1) (h1.close hr fun b hb => h2 b (gkeys_mem.2 hb)) (by omega) (by omega)
      exact ⟨q, by simp only [hr, Option.bind_some]; exact hq⟩
theorem same_sorted {l m : List Int} (hl : l.Pairwise (· < ·)) (hm : m.Nodup) (h : ∀ x, x ∈ l ↔ x ∈ m) : isort m = l :=
  isort_eq ((List.perm_ext_iff_of_nodup (hl.imp fun h => by omega) hm).2 h) (hl.imp fun h => by omega)
theorem Pieces_L1 (h : Gr n t) (hn : n ≤ 1024) (hN : 2048 < N) : ∀ (f v : Nat) (all : List (List Int)) (seen : List Bool), v ≤ n → n - v < f → all.length ≤ v → seen.length = n →
    (∀ x, gat seen x = true ↔ ∃ a, 0 ≤ a ∧ a < (v : Int) ∧ Conn t a x) →
    m_graph_Graph_Pieces_L1 N t f (v : Int) all seen = some (all ++ (((pts n).drop v).filter (fun v => @decide (∀ a, 0 ≤ a → a < v → ¬ Conn t a v) (Classical.propDecidable _))).map (hang n t))
  | 0, v, _, _, _, hf, _, _, _ => by omega
  | f + 1, v, all, seen, hv, hf, hall, hsl, hs => by
    rw [m_graph_Graph_Pieces_L1.eq_2, h.tab.len]
    by_cases hlt : v < n
    · rw [if_pos (decide_eq_true (by omega)), pts_drop hlt, List.filter_cons]
      have e1 : at? seen (v : Int) = some (gat seen (v : Int)) := by
        rw [at?_lt (by omega)]
        unfold gat
        rw [if_pos (by omega), Int.toNat_natCast, List.getElem?_eq_getElem (by omega)]; rfl
      rw [e1]
      simp only [Option.bind_some]
      unfold m_graph_Graph_Pieces_J1
      rw [wS (by omega)]
      by_cases hg : gat seen (v : Int) = true
      · rw [if_pos hg]
        obtain ⟨a, ha0, hav, hc⟩ := (hs _).1 hg
        rw [if_neg (by simp only [decide_eq_true_eq]; exact fun hh => hh a ha0 hav hc)]
        refine Pieces_L1 h hn hN f (v + 1) all seen (by omega) (by omega) (by omega) hsl fun x => ?_
        rw [hs]
        constructor
        · rintro ⟨b, h1, h2, h3⟩; exact ⟨b, h1, by omega, h3⟩
        · rintro ⟨b, h1, h2, h3⟩
          by_cases hb : b = (v : Int)
          · subst hb; exact ⟨a, ha0, hav, hc.trans h3⟩
          · exact ⟨b, h1, by omega, h3⟩
      · rw [if_neg hg]
        have hlst : ∀ a, 0 ≤ a → a < (v : Int) → ¬ Conn t a v := fun a h1 h2 h3 => hg ((hs _).2 ⟨a, h1, h2, h3⟩)
        rw [if_pos (by simp only [decide_eq_true_eq]; exact hlst)]
        have hgs : ∀ k', gat (seen.set (v : Int).toNat true) k' = if k' = (v : Int) then true else gat seen k' := fun k' => gat_set (by omega) (by omega)
        rw [chk_pos ⟨by simp [hsl], by rw [hgs, if_pos rfl], ⟨by omega, by omega⟩, trivial, by omega⟩]
        have hsq : ∀ r ∈ t, r.length = t.length := fun r hr => by rw [h.tab.len]; exact h.tab.sq r hr
        have hS : (seen.set (v : Int).toNat true).length = t.length := by simp [hsl, h.tab.len]
        have hB : BInv t (seen.set (v : Int).toNat true) (v : Int) (seen.set (v : Int).toNat true) [(v : Int)] 0 := BInv.start (by rw [hgs, if_pos rfl]) ⟨by omega, by rw [h.tab.len]; omega⟩
        obtain ⟨q, hq⟩ := bfs_some hsq hS N _ _ 0 hB (Nat.zero_le _) (by rw [h.tab.len]; omega)
        have hB2 := bfs_inv hsq hS N _ _ 0 q hB (Nat.zero_le _) hq
        rw [hq]
        simp only [Option.bind_some]
        have hcon : ∀ x, Hangs t (seen.set (v : Int).toNat true) (v : Int) x ↔ Conn t (v : Int) x := fun x => by
          constructor
          · intro hh
            induction hh with
            | here => exact .refl _
            | on _ e _ ih => exact ih.on (edgeT_iff.1 e)
          · intro hc
            have key : ∀ b, Conn t (v : Int) b → Hangs t (seen.set (v : Int).toNat true) (v : Int) b := fun b hb => by
              induction hb with
              | refl => exact .here
              | on k e ih =>
                rename_i x' b'
                by_cases hb : gat (seen.set (v : Int).toNat true) b' = true
                · rw [hgs] at hb
                  by_cases hbv : b' = (v : Int)
                  · rw [hbv]; exact .here
                  · rw [if_neg hbv] at hb
                    obtain ⟨a, h1, h2, h3⟩ := (hs _).1 hb
                    exact absurd (h3.trans ((k.on e).symm h)) (hlst a h1 h2)
                · exact .on ih (edgeT_iff.2 e) (by simpa using hb)
            exact key x hc
        have hm : ∀ x, x ∈ q.2 ↔ Conn t (v : Int) x := fun x => (hB2.mem x).trans (hcon x)
        have hsort : isort q.2 = hang n t (v : Int) := same_sorted hang_rises hB2.nd fun x => by
          rw [hang_mem, hm]
          exact ⟨fun h => h.2, fun hc => ⟨hc.range h.tab ⟨by omega, by omega⟩, hc⟩⟩
        unfold lib_sort
        have hql := hB2.le
        rw [h.tab.len] at hql
        rw [chk_pos (by omega), hsort]
        simp only [Option.bind_some]
        rw [chk_pos (by simp only [List.length_singleton, maxLen]; omega)]
        rw [Pieces_L1 h hn hN f (v + 1) _ q.1 (by omega) (by omega) (by rw [List.length_append, List.length_singleton]; omega) (hB2.len.trans (hS.trans h.tab.len)) (fun x => ?_)]
        · simp
        · rw [hB2.marks, hgs, hm]
          constructor
          · rintro (h1 | h1)
            · by_cases hx : x = (v : Int)
              · exact ⟨v, by omega, by omega, by rw [hx]; exact .refl _⟩
              · rw [if_neg hx] at h1
                obtain ⟨a, h2, h3, h4⟩ := (hs _).1 h1
                exact ⟨a, h2, by omega, h4⟩
            · exact ⟨v, by omega, by omega, h1⟩
          · rintro ⟨b, h1, h2, h3⟩
            by_cases hb : b = (v : Int)
            · subst hb; exact .inr h3
            · refine .inl ?_
              have := (hs x).2 ⟨b, h1, by omega, h3⟩
              split
              · rfl
              · exact this
    · rw [if_neg (by simp; omega), List.drop_eq_nil_of_le (by rw [pts_len]; omega)]; simp
theorem Pieces_eq (h : Gr n t) (hn : n ≤ 1024) (hN : 2048 < N) : m_graph_Graph_Pieces N t = some ((lsts n t).map (hang n t)) := by
  unfold m_graph_Graph_Pieces m_graph_Graph_Len
  simp only [Option.bind_some]
  rw [h.tab.len, chk_pos ⟨by omega, by simp only [maxLen]; omega, by omega⟩, Int.toNat_natCast]
  have := Pieces_L1 (N := N) h hn hN N 0 [] (List.replicate n false) (Nat.zero_le _) (by omega) (by simp) (by simp) (fun x => by
    rw [gat_replicate]
    constructor
    · intro h; cases h
    · rintro ⟨a, h1, h2, _⟩; omega)
  rw [List.drop_zero, List.nil_append] at this
  exact this

/-! ### Among -/
theorem Index_L1 {p : Int} : ∀ (l : List Int) (k : Nat), ∃ z : Int, m_slices_Index_int_int_L1 p l k = some z ∧ (0 ≤ z ↔ p ∈ l)
  | [], k => ⟨-1, rfl, by simp⟩
  | x :: l, k => by
    rw [m_slices_Index_int_int_L1.eq_2]
    by_cases h : p = x
    · exact ⟨k, by rw [if_pos (decide_eq_true h)], by simp [h]⟩
    · obtain ⟨z, h1, h2⟩ := Index_L1 (p := p) l (k + 1)
      exact ⟨z, by rw [if_neg (by simpa using h)]; exact h1, by rw [h2]; simp [h]⟩
theorem Contains_eq {p : Int} (l : List Int) : m_slices_Contains_int_int l p = some (decide (p ∈ l)) := by
  unfold m_slices_Contains_int_int m_slices_Index_int_int
  obtain ⟨z, h1, h2⟩ := Index_L1 (p := p) l 0
  rw [h1]
  simp only [Option.bind_some]
  congr 1
  exact decide_eq_decide.2 h2
def inP (P : List Int) (p : Int × Int) : Bool := decide (p.1 ∈ P) && decide (p.2 ∈ P)
def amongT (n : Nat) (t : List (List Bool)) (P : List Int) : List (List Bool) := joinAll n (List.replicate n (List.replicate n false)) ((edgesL n t).filter (inP P))
theorem Among_L2 (P : List Int) : ∀ (l : List (Int × Int)) (h : List (List Bool)), Tab n h → m_graph_Graph_Among_L2 P l h = some (some (joinAll n h (l.filter (inP P))))
  | [], h, _ => by rw [m_graph_Graph_Among_L2.eq_1]; rfl
  | p :: l, h, hh => by
    rw [m_graph_Graph_Among_L2.eq_2, Contains_eq, List.filter_cons]
    simp only [Option.bind_some]
    unfold inP
    unfold m_graph_Graph_Among_J4 m_graph_Graph_Among_J3
    by_cases h1 : p.1 ∈ P
    · rw [decide_eq_true h1, if_pos rfl, Contains_eq, Bool.true_and]
      simp only [Option.bind_some]
      by_cases h2 : p.2 ∈ P
      · rw [decide_eq_true h2, if_pos rfl, if_pos rfl, Join_eq hh]
        simp only [Option.bind_some]
        rw [Among_L2 P l _ hh.join]; rfl
      · rw [decide_eq_false h2, if_neg (by decide), if_neg (by decide), Among_L2 P l _ hh]; rfl
    · rw [decide_eq_false h1, if_neg (by decide), if_neg (by decide), Bool.false_and, if_neg (by decide), Among_L2 P l _ hh]; rfl
theorem Among_eq (h : Tab n t) (hn : n ≤ 1024) (hN : 2048 < N) (P : List Int) : m_graph_Graph_Among N t P = some (some (amongT n t P)) := by
  unfold m_graph_Graph_Among m_graph_Graph_Len m_graph_New
  simp only [Option.bind_some]
  rw [h.len, if_neg (by omega)]
  simp only [Option.bind_some, Int.toNat_natCast]
  unfold optC
  simp only []
  rw [list_eq h hn hN]
  exact Among_L2 P _ _ Gr.none.tab
theorem Gr.among (P : List Int) : Gr n (amongT n t P) := Gr.none.joinAll
theorem ge_none : ge (List.replicate n (List.replicate n false)) x y = false := by
  unfold ge row at?
  split
  · rw [List.getElem?_replicate]
    split
    · exact gat_replicate
    · exact gat_nil
  · exact gat_nil
theorem ge_among (h : Gr n t) (P : List Int) : ge (amongT n t P) x y = (ge t x y && decide (x ∈ P) && decide (y ∈ P)) := by
  unfold amongT
  rw [ge_joinAll Gr.none.tab (fun x y => by rw [ge_none, ge_none]) (fun p hp => by
    obtain ⟨x, y⟩ := p
    have h1 := (edgesL_mem h.tab).1 (List.mem_filter.1 hp).1
    have := h.tab.range h1.1
    exact ⟨this.1, this.2, by show x ≠ y; omega⟩), ge_none, Bool.false_or, Bool.eq_iff_iff, decide_eq_true_eq, List.mem_filter, List.mem_filter, edgesL_mem h.tab, edgesL_mem h.tab]
  unfold inP
  simp only [Bool.and_eq_true, decide_eq_true_eq]
  rw [h.sym y x]
  constructor
  · rintro (⟨⟨h1, _⟩, h2, h3⟩ | ⟨⟨h1, _⟩, h2, h3⟩)
    · exact ⟨⟨h1, h2⟩, h3⟩
    · exact ⟨⟨h1, h3⟩, h2⟩
  · rintro ⟨⟨h1, h2⟩, h3⟩
    have hne : x ≠ y := fun e => by rw [e, h.irr] at h1; cases h1
    by_cases hxy : x < y
    · exact .inl ⟨⟨h1, hxy⟩, h2, h3⟩
    · exact .inr ⟨⟨h1, by omega⟩, h3, h2⟩
/-- How many pieces the graph among a piece has. -/
theorem count_one {p : Int → Bool} {u : Int} (hu : p u = true) : ∀ {L : List Int}, L.Nodup → u ∈ L → (L.filter fun v => !p v || decide (v = u)).length + (L.filter p).length = L.length + 1
  | [], _, h => by cases h
  | x :: L, hn, h => by
    obtain ⟨h1, h2⟩ := List.nodup_cons.1 hn
    have none : ∀ {M : List Int}, u ∉ M → (M.filter fun v => !p v || decide (v = u)).length + (M.filter p).length = M.length := by
      intro M
      induction M with
      | nil => intro _; rfl
      | cons y M ih =>
        intro hM
        have hyu : y ≠ u := fun e => hM (by simp [e])
        have := ih fun h => hM (by simp [h])
        rw [List.filter_cons, List.filter_cons, decide_eq_false hyu]
        cases p y <;> simp <;> omega
    rw [List.filter_cons, List.filter_cons]
    by_cases hxu : x = u
    · subst hxu
      have := none h1
      rw [hu]; simp; omega
    · have hu2 : u ∈ L := by rcases List.mem_cons.1 h with e | e; exact absurd e.symm hxu; exact e
      have := count_one hu h2 hu2
      rw [decide_eq_false hxu]
      cases p x <;> simp <;> omega
theorem among_pieces (h : Gr n t) {u : Int} (hu : u ∈ lsts n t) : (lsts n (amongT n t (hang n t u))).length + (hang n t u).length = n + 1 := by
  obtain ⟨hur, hul⟩ := lsts_mem.1 hu
  have hP : ∀ x, x ∈ hang n t u ↔ Conn t u x := fun x => by
    rw [hang_mem]; exact ⟨fun h => h.2, fun hc => ⟨hc.range h.tab hur, hc⟩⟩
  have hsub : ∀ {a b}, Conn (amongT n t (hang n t u)) a b → Conn t a b := fun {a b} hc => by
    induction hc with
    | refl => exact .refl _
    | on _ e ih =>
      rw [ge_among h] at e
      simp only [Bool.and_eq_true] at e
      exact ih.on e.1.1
  have hin : ∀ {b}, Conn t u b → Conn (amongT n t (hang n t u)) u b := fun {b} hc => by
    induction hc with
    | refl => exact .refl _
    | on k e ih =>
      refine ih.on ?_
      rw [ge_among h, e, decide_eq_true ((hP _).2 k), decide_eq_true ((hP _).2 (k.on e))]; rfl
  have e : lsts n (amongT n t (hang n t u)) = (pts n).filter fun v => !(@decide (Conn t u v) (Classical.propDecidable _)) || decide (v = u) := by
    unfold lsts
    refine List.filter_congr fun v hv => ?_
    have hvr := pts_mem.1 hv
    rw [Bool.eq_iff_iff]
    simp only [decide_eq_true_eq, Bool.or_eq_true, Bool.not_eq_true', decide_eq_false_iff_not]
    constructor
    · intro hl
      by_cases hc : Conn t u v
      · refine .inr ?_
        by_cases hvu : v < u
        · exact absurd (hc.symm h) (hul v hvr.1 hvu)
        · by_cases huv : u < v
          · exact absurd (hin hc) (hl u hur.1 huv)
          · omega
      · exact .inl hc
    · rintro (hc | rfl) a ha hav hca
      · have hal : ∀ x, ge (amongT n t (hang n t u)) v x = false := fun x => by
          rw [ge_among h, decide_eq_false (fun hm => hc ((hP _).1 hm))]; simp
        have := (hca.symm (Gr.among _)).alone hal
        omega
      · exact hul a ha hav (hsub hca)
  rw [e]
  have := count_one (p := fun v => @decide (Conn t u v) (Classical.propDecidable _)) (u := u) (by simp; exact .refl _) (L := pts n) (pts_rises.imp fun h => by omega) (pts_mem.2 hur)
  rw [pts_len] at this
  unfold hang
  exact this
end



def m_dag_fits_L3 (kk_L2 : (Option Int)) : List Int → (List (Int × Int)) → Option Int
  | [], seen_28 => kk_L2 
  | x_30 :: l_31, seen_28 => if (decide (0 < ((mget seen_28 x_30).getD 0))) = true then (some 40) else ((some (mput seen_28 x_30 1)).bind fun es_36 => (m_dag_fits_L3 kk_L2 l_31) es_36)

def m_dag_fits_L2  : List (List Int) → Option Int
  | [] => some 0
  | x_11 :: l_12 => m_dag_fits_L3 (m_dag_fits_L2 l_12) x_11 ([] : List (Int × Int))

def m_dag_fits_J1 (kk_L4 : (Option Int)) (v_52 : Bool) : Option Int :=
  if v_52 = true then (some 3) else kk_L4

def m_dag_fits_L4 (p0_parents : (List (List Int))) (kk_L1 : (Option Int)) : List Int → Option Int
  | [] => kk_L1 
  | x_47 :: l_48 => if (decide (x_47 < 0)) = true then (m_dag_fits_J1 (m_dag_fits_L4 p0_parents kk_L1 l_48) true) else (m_dag_fits_J1 (m_dag_fits_L4 p0_parents kk_L1 l_48) (decide ((p0_parents.length : Int) ≤ x_47)))

def m_dag_fits_L1 (p0_parents : (List (List Int))) : List (List Int) → Option Int
  | [] => m_dag_fits_L2 p0_parents 
  | x_5 :: l_6 => m_dag_fits_L4 p0_parents (m_dag_fits_L1 p0_parents l_6) x_5 

def m_dag_fits (p0_parents : (List (List Int))) : Option Int :=
  m_dag_fits_L1 p0_parents p0_parents 

set_option maxRecDepth 100000 in
set_option maxHeartbeats 2000000 in
theorem c_dag_fits (col : Col) (w0 : World) (a0 : Option Addr) (cap0 : Nat) (p0_parents : (List (List Int))) (h0 : Sl (Rep.slice (Rep.int .i64)) col w0 a0 cap0 p0_parents) (r : Int) (hm : m_dag_fits p0_parents = some r) :
    Calls Try.prog 127 #[(.slice a0 p0_parents.length cap0)] w0 (fun e w' => e = .returned ((.int .i64 r)) ∧ Below w0.heap.size w0 w') := by
  refine calls_of1 2 (m := 57) (args := [(.slice a0 p0_parents.length cap0)]) Try.func127 rfl rfl rfl rfl rfl ?_
  rw [m_dag_fits.eq_1] at hm
  have hst := St.start col w0
  replace h0 := h0.keep (Stay.start col w0)
  refine wseq ?_
  refine wregion ?_
  refine lv (v := (.int .i64 0)) rfl rfl (r_assign rfl) ?_
  refine lnil ?_
  refine wseq ?_
  refine wseq ?_
  refine wregion ?_
  refine lv (v := (.slice a0 p0_parents.length cap0)) rfl rfl (r_move rfl) ?_
  refine lv (v := (.int .i64 (p0_parents.length : Int))) rfl rfl (r_len Try.underlying33 rfl) ?_
  refine lv (v := (.int .i64 0)) rfl rfl (r_move rfl) ?_
  refine lnil ?_
  refine wblock ?_
  refine wloop (fun n f w_3 => ∃ (col_4 : Col) (k_1 : Nat) (l_2 : List (List Int)), n = l_2.length ∧ p0_parents.drop k_1 = l_2 ∧ m_dag_fits_L1 p0_parents l_2  = some r ∧ St w0 (col0 col) col_4 w_3 ∧ Sl (Rep.slice (Rep.int .i64)) col_4 w_3 a0 cap0 p0_parents ∧ f 14 = (.int .i64 (k_1 : Int)) ∧ f 0 = (.slice a0 p0_parents.length cap0) ∧ f 12 = (.slice a0 p0_parents.length cap0) ∧ f 13 = (.int .i64 (p0_parents.length : Int)) ∧ f 1000000 = (enc [])) p0_parents.length ⟨(col0 col), 0, p0_parents, rfl, rfl, hm, hst, h0, rfl, rfl, rfl, rfl, rfl⟩ ?_
  clear hm; intro n f w_3 hI
  obtain ⟨col_4, k_1, l_2, hn, hl, hm, hst, h0, hs14, hs0, hs12, hs13, hs1000000⟩ := hI
  subst hn
  refine .ld (d := 14) (v := (.int .i64 (k_1 : Int))) hs14 ?_
  refine .ld (d := 0) (v := (.slice a0 p0_parents.length cap0)) hs0 ?_
  refine .ld (d := 12) (v := (.slice a0 p0_parents.length cap0)) hs12 ?_
  refine .ld (d := 13) (v := (.int .i64 (p0_parents.length : Int))) hs13 ?_
  refine .ld (d := 1000000) (v := (enc [])) hs1000000 ?_
  clear hs14 hs0 hs12 hs13 hs1000000
  cases l_2 with
  | nil =>
    have hk : ¬ ((k_1 : Int) < (p0_parents.length : Int)) := by have := List.drop_eq_nil_iff.1 hl; omega
    have hkb := decide_eq_false hk
    rw [m_dag_fits_L1.eq_1] at hm
    refine wseq ?_
    refine wregion ?_
    refine lv (v := (.bool (decide ((k_1 : Int) < (p0_parents.length : Int))))) rfl rfl (r_lss (k_1 : Int) (p0_parents.length : Int) rfl rfl) ?_
    refine lnil ?_
    refine wseq ?_
    refine wcondF (congrArg Value.bool hkb) ?_
    refine wexit (inB_hit ?_)
    refine wseq ?_
    refine wseq ?_
    refine wregion ?_
    refine lv (v := (.slice a0 p0_parents.length cap0)) rfl rfl (r_move rfl) ?_
    refine lv (v := (.int .i64 (p0_parents.length : Int))) rfl rfl (r_len Try.underlying33 rfl) ?_
    refine lv (v := (.int .i64 0)) rfl rfl (r_move rfl) ?_
    refine lnil ?_
    refine wblock ?_
    refine wloop (fun n f w_9 => ∃ (col_10 : Col) (k_7 : Nat) (l_8 : List (List Int)), n = l_8.length ∧ p0_parents.drop k_7 = l_8 ∧ m_dag_fits_L2 l_8  = some r ∧ St w0 (col0 col) col_10 w_9 ∧ Sl (Rep.slice (Rep.int .i64)) col_10 w_9 a0 cap0 p0_parents ∧ f 36 = (.int .i64 (k_7 : Int)) ∧ f 34 = (.slice a0 p0_parents.length cap0) ∧ f 35 = (.int .i64 (p0_parents.length : Int)) ∧ f 1000000 = (enc [])) p0_parents.length ⟨col_4, 0, p0_parents, rfl, rfl, hm, hst, h0, rfl, rfl, rfl, rfl⟩ ?_
    clear hm; intro n f w_9 hI
    obtain ⟨col_10, k_7, l_8, hn, hl, hm, hst, h0, hs36, hs34, hs35, hs1000000⟩ := hI
    subst hn
    refine .ld (d := 36) (v := (.int .i64 (k_7 : Int))) hs36 ?_
    refine .ld (d := 34) (v := (.slice a0 p0_parents.length cap0)) hs34 ?_
    refine .ld (d := 35) (v := (.int .i64 (p0_parents.length : Int))) hs35 ?_
    refine .ld (d := 1000000) (v := (enc [])) hs1000000 ?_
    clear hs36 hs34 hs35 hs1000000
    cases l_8 with
    | nil =>
      have hk : ¬ ((k_7 : Int) < (p0_parents.length : Int)) := by have := List.drop_eq_nil_iff.1 hl; omega
      have hkb := decide_eq_false hk
      rw [m_dag_fits_L2.eq_1] at hm
      refine wseq ?_
      refine wregion ?_
      refine lv (v := (.bool (decide ((k_7 : Int) < (p0_parents.length : Int))))) rfl rfl (r_lss (k_7 : Int) (p0_parents.length : Int) rfl rfl) ?_
      refine lnil ?_
      refine wseq ?_
      refine wcondF (congrArg Value.bool hkb) ?_
      refine wexit (inB_hit ?_)
      refine wseq ?_
      refine wregion ?_
      refine lv (v := (.int .i64 0)) rfl rfl (r_assign rfl) ?_
      refine lnil ?_
      refine wret ?_
      cases hm
      exact ⟨rfl, rfl, hst.below⟩
    | cons x_11 l_12 =>
      obtain ⟨hat, hl2, hlt⟩ := drop_get hl
      have hk : (k_7 : Int) < (p0_parents.length : Int) := by omega
      have hkb := decide_eq_true hk
      rw [m_dag_fits_L2.eq_2] at hm
      refine wseq ?_
      refine wregion ?_
      refine lv (v := (.bool (decide ((k_7 : Int) < (p0_parents.length : Int))))) rfl rfl (r_lss (k_7 : Int) (p0_parents.length : Int) rfl rfl) ?_
      refine lnil ?_
      refine wseq ?_
      refine wcondT (congrArg Value.bool hkb) ?_
      refine wskip ?_
      refine wseq ?_
      refine wblock ?_
      refine wseq ?_
      refine wregion ?_
      refine lv (v := (sptr a0 (Int.toNat (k_7 : Int) * 1))) rfl rfl (r_idx Try.underlying33 Try.sizeOf22 rfl rfl (at?_some hat).1 (at?_some hat).2.1 (h0.addr hat)) ?_
      obtain ⟨_, hr_13, hA_14⟩ := h0.atN hat
      obtain ⟨⟨a_15, cap_16, rfl, h_17⟩, _⟩ := hr_13
      refine lv (v := (.slice a_15 x_11.length cap_16)) rfl rfl (r_ld Try.isAgg22 rfl hA_14.one) ?_
      refine lv (v := (.slice a_15 x_11.length cap_16)) rfl rfl (r_assign rfl) ?_
      refine lnil ?_
      refine wseq ?_
      refine wregion ?_
      refine lv (v := (.slice a_15 x_11.length cap_16)) rfl rfl (r_move rfl) ?_
      refine lv (v := (.int .i64 (x_11.length : Int))) rfl rfl (r_len Try.underlying22 rfl) ?_
      refine l_makeMapN (col := col_10) (fk := (Value.int .i64)) (fv := (Value.int .i64)) 1 rfl Try.underlying154 rfl ?_
      intro g_18 w_19 col_20 hg_21 h_22
      replace h0 := h0.gr hg_21
      replace h_17 := h_17.gr hg_21
      replace hst := hst.grow hg_21
      refine lv (v := (.map (some g_18))) rfl rfl (r_assign rfl) ?_
      refine lnil ?_
      refine wseq ?_
      refine wregion ?_
      refine lv (v := (.slice a_15 x_11.length cap_16)) rfl rfl (r_move rfl) ?_
      refine lv (v := (.int .i64 (x_11.length : Int))) rfl rfl (r_len Try.underlying22 rfl) ?_
      refine lv (v := (.int .i64 0)) rfl rfl (r_move rfl) ?_
      refine lnil ?_
      refine wblock ?_
      refine wloop (fun n f w_25 => ∃ (col_26 : Col) (k_23 : Nat) (g_27 : Nat) (seen_28 : List (Int × Int)) (l_24 : List Int), n = l_24.length ∧ x_11.drop k_23 = l_24 ∧ m_dag_fits_L3 (m_dag_fits_L2 l_12) l_24 seen_28 = some r ∧ St w0 (col0 col) col_26 w_25 ∧ Sl (Rep.slice (Rep.int .i64)) col_26 w_25 a0 cap0 p0_parents ∧ Sl (Rep.int .i64) col_26 w_25 a_15 cap_16 x_11 ∧ MapO (Value.int .i64) (Value.int .i64) 1 col_26 w_25 g_27 seen_28 ∧ f 45 = (.int .i64 (k_23 : Int)) ∧ f 34 = (.slice a0 p0_parents.length cap0) ∧ f 35 = (.int .i64 (p0_parents.length : Int)) ∧ f 36 = (.int .i64 (k_7 : Int)) ∧ f 43 = (.slice a_15 x_11.length cap_16) ∧ f 44 = (.int .i64 (x_11.length : Int)) ∧ f 9 = (.map (some g_27)) ∧ f 1000000 = (enc [])) x_11.length ⟨col_20, 0, g_18, ([] : List (Int × Int)), x_11, rfl, rfl, hm, hst, h0, h_17, h_22, rfl, rfl, rfl, rfl, rfl, rfl, rfl, rfl⟩ ?_
      clear hm; intro n f w_25 hI
      obtain ⟨col_26, k_23, g_27, seen_28, l_24, hn, hl, hm, hst, h0, h_17, h_29, hs45, hs34, hs35, hs36, hs43, hs44, hs9, hs1000000⟩ := hI
      subst hn
      refine .ld (d := 45) (v := (.int .i64 (k_23 : Int))) hs45 ?_
      refine .ld (d := 34) (v := (.slice a0 p0_parents.length cap0)) hs34 ?_
      refine .ld (d := 35) (v := (.int .i64 (p0_parents.length : Int))) hs35 ?_
      refine .ld (d := 36) (v := (.int .i64 (k_7 : Int))) hs36 ?_
      refine .ld (d := 43) (v := (.slice a_15 x_11.length cap_16)) hs43 ?_
      refine .ld (d := 44) (v := (.int .i64 (x_11.length : Int))) hs44 ?_
      refine .ld (d := 9) (v := (.map (some g_27))) hs9 ?_
      refine .ld (d := 1000000) (v := (enc [])) hs1000000 ?_
      clear hs45 hs34 hs35 hs36 hs43 hs44 hs9 hs1000000
      cases l_24 with
      | nil =>
        have hk : ¬ ((k_23 : Int) < (x_11.length : Int)) := by have := List.drop_eq_nil_iff.1 hl; omega
        have hkb := decide_eq_false hk
        rw [m_dag_fits_L3.eq_1] at hm
        refine wseq ?_
        refine wregion ?_
        refine lv (v := (.bool (decide ((k_23 : Int) < (x_11.length : Int))))) rfl rfl (r_lss (k_23 : Int) (x_11.length : Int) rfl rfl) ?_
        refine lnil ?_
        refine wseq ?_
        refine wcondF (congrArg Value.bool hkb) ?_
        refine wexit (inB_hit ?_)
        refine wregion ?_
        refine lv (v := (.int .i64 (IntKind.i64.wrap ((k_7 : Int) + 1)))) rfl rfl (r_add (k_7 : Int) 1 rfl rfl) ?_
        refine lv (v := (.int .i64 (IntKind.i64.wrap ((k_7 : Int) + 1)))) rfl rfl (r_move rfl) ?_
        refine lnil ?_
        exact ⟨l_12.length, by simp, ⟨col_26, (k_7 + 1), l_12, rfl, hl2, hm, hst, h0, (congrArg (Value.int .i64) (wrap_succ (Nat.lt_of_lt_of_le hlt h0.1.1))), rfl, rfl, rfl⟩⟩
      | cons x_30 l_31 =>
        obtain ⟨hat, hl2, hlt⟩ := drop_get hl
        have hk : (k_23 : Int) < (x_11.length : Int) := by omega
        have hkb := decide_eq_true hk
        rw [m_dag_fits_L3.eq_2] at hm
        refine wseq ?_
        refine wregion ?_
        refine lv (v := (.bool (decide ((k_23 : Int) < (x_11.length : Int))))) rfl rfl (r_lss (k_23 : Int) (x_11.length : Int) rfl rfl) ?_
        refine lnil ?_
        refine wseq ?_
        refine wcondT (congrArg Value.bool hkb) ?_
        refine wskip ?_
        refine wseq ?_
        refine wblock ?_
        refine wseq ?_
        refine wregion ?_
        refine lv (v := (sptr a_15 (Int.toNat (k_23 : Int) * 1))) rfl rfl (r_idx Try.underlying22 Try.sizeOf3 rfl rfl (at?_some hat).1 (at?_some hat).2.1 (h_17.addr hat)) ?_
        refine lv (v := (.int .i64 x_30)) rfl rfl (r_ld Try.isAgg3 rfl (h_17.atInt hat)) ?_
        refine lv (v := (.int .i64 x_30)) rfl rfl (r_assign rfl) ?_
        refine lnil ?_
        refine wseq ?_
        refine wseq ?_
        refine wregion ?_
        refine lv (v := (.map (some g_27))) rfl rfl (r_move rfl) ?_
        refine lv (v := (.int .i64 x_30)) rfl rfl (r_move rfl) ?_
        refine lv (v := (.int .i64 ((mget seen_28 x_30).getD 0))) rfl rfl (r_lookup KeyD.int h_29 Try.underlying154 Try.underlying3 Try.zeroValue3 rfl rfl) ?_
        refine lv (v := (.bool (decide (0 < ((mget seen_28 x_30).getD 0))))) rfl rfl (r_gtr ((mget seen_28 x_30).getD 0) 0 rfl rfl) ?_
        refine lnil ?_
        refine wcond (decide (0 < ((mget seen_28 x_30).getD 0))) rfl (fun hb => ?_) (fun hb => ?_)
        · rw [if_pos hb] at hm
          clear hb
          refine wseq ?_
          refine wregion ?_
          refine lv (v := (.int .i64 40)) rfl rfl (r_assign rfl) ?_
          refine lnil ?_
          refine wret ?_
          cases hm
          exact ⟨rfl, rfl, hst.below⟩
        · rw [if_neg (by rw [hb]; decide)] at hm
          clear hb
          refine wskip ?_
          refine wregion ?_
          refine lv (v := (.map (some g_27))) rfl rfl (r_move rfl) ?_
          refine lv (v := (.int .i64 x_30)) rfl rfl (r_move rfl) ?_
          obtain ⟨es_36, hz_37, hm⟩ := bind_some hm
          have hz_37 : es_36 = mput seen_28 x_30 1 := (Option.some.inj hz_37).symm
          refine l_mapUpdate (k := x_30) (v := 1) KeyD.int h_29 Try.underlying154 Try.underlying3 rfl rfl rfl ?_
          intro w_32 hk_33 hs_34 h_35
          rw [← hz_37] at h_35
          clear hz_37
          replace h0 := h0.kp hk_33 (by decide)
          replace h_17 := h_17.kp hk_33 (by decide)
          replace hst := hst.kp hk_33 hs_34 (by decide) (by decide)
          clear h_29
          refine lnil ?_
          refine wregion ?_
          refine lv (v := (.int .i64 (IntKind.i64.wrap ((k_23 : Int) + 1)))) rfl rfl (r_add (k_23 : Int) 1 rfl rfl) ?_
          refine lv (v := (.int .i64 (IntKind.i64.wrap ((k_23 : Int) + 1)))) rfl rfl (r_move rfl) ?_
          refine lnil ?_
          exact ⟨l_31.length, by simp, ⟨col_26, (k_23 + 1), g_27, es_36, l_31, rfl, hl2, hm, hst, h0, h_17, h_35, (congrArg (Value.int .i64) (wrap_succ (Nat.lt_of_lt_of_le hlt h_17.1.1))), rfl, rfl, rfl, rfl, rfl, rfl, rfl⟩⟩
  | cons x_5 l_6 =>
    obtain ⟨hat, hl2, hlt⟩ := drop_get hl
    have hk : (k_1 : Int) < (p0_parents.length : Int) := by omega
    have hkb := decide_eq_true hk
    rw [m_dag_fits_L1.eq_2] at hm
    refine wseq ?_
    refine wregion ?_
    refine lv (v := (.bool (decide ((k_1 : Int) < (p0_parents.length : Int))))) rfl rfl (r_lss (k_1 : Int) (p0_parents.length : Int) rfl rfl) ?_
    refine lnil ?_
    refine wseq ?_
    refine wcondT (congrArg Value.bool hkb) ?_
    refine wskip ?_
    refine wseq ?_
    refine wblock ?_
    refine wseq ?_
    refine wregion ?_
    refine lv (v := (sptr a0 (Int.toNat (k_1 : Int) * 1))) rfl rfl (r_idx Try.underlying33 Try.sizeOf22 rfl rfl (at?_some hat).1 (at?_some hat).2.1 (h0.addr hat)) ?_
    obtain ⟨_, hr_38, hA_39⟩ := h0.atN hat
    obtain ⟨⟨a_40, cap_41, rfl, h_42⟩, _⟩ := hr_38
    refine lv (v := (.slice a_40 x_5.length cap_41)) rfl rfl (r_ld Try.isAgg22 rfl hA_39.one) ?_
    refine lv (v := (.slice a_40 x_5.length cap_41)) rfl rfl (r_assign rfl) ?_
    refine lnil ?_
    refine wseq ?_
    refine wregion ?_
    refine lv (v := (.slice a_40 x_5.length cap_41)) rfl rfl (r_move rfl) ?_
    refine lv (v := (.int .i64 (x_5.length : Int))) rfl rfl (r_len Try.underlying22 rfl) ?_
    refine lv (v := (.int .i64 0)) rfl rfl (r_move rfl) ?_
    refine lnil ?_
    refine wblock ?_
    refine wloop (fun n f w_45 => ∃ (col_46 : Col) (k_43 : Nat) (l_44 : List Int), n = l_44.length ∧ x_5.drop k_43 = l_44 ∧ m_dag_fits_L4 p0_parents (m_dag_fits_L1 p0_parents l_6) l_44  = some r ∧ St w0 (col0 col) col_46 w_45 ∧ Sl (Rep.slice (Rep.int .i64)) col_46 w_45 a0 cap0 p0_parents ∧ Sl (Rep.int .i64) col_46 w_45 a_40 cap_41 x_5 ∧ f 20 = (.int .i64 (k_43 : Int)) ∧ f 0 = (.slice a0 p0_parents.length cap0) ∧ f 12 = (.slice a0 p0_parents.length cap0) ∧ f 13 = (.int .i64 (p0_parents.length : Int)) ∧ f 14 = (.int .i64 (k_1 : Int)) ∧ f 18 = (.slice a_40 x_5.length cap_41) ∧ f 19 = (.int .i64 (x_5.length : Int)) ∧ f 1000000 = (enc [])) x_5.length ⟨col_4, 0, x_5, rfl, rfl, hm, hst, h0, h_42, rfl, rfl, rfl, rfl, rfl, rfl, rfl, rfl⟩ ?_
    clear hm; intro n f w_45 hI
    obtain ⟨col_46, k_43, l_44, hn, hl, hm, hst, h0, h_42, hs20, hs0, hs12, hs13, hs14, hs18, hs19, hs1000000⟩ := hI
    subst hn
    refine .ld (d := 20) (v := (.int .i64 (k_43 : Int))) hs20 ?_
    refine .ld (d := 0) (v := (.slice a0 p0_parents.length cap0)) hs0 ?_
    refine .ld (d := 12) (v := (.slice a0 p0_parents.length cap0)) hs12 ?_
    refine .ld (d := 13) (v := (.int .i64 (p0_parents.length : Int))) hs13 ?_
    refine .ld (d := 14) (v := (.int .i64 (k_1 : Int))) hs14 ?_
    refine .ld (d := 18) (v := (.slice a_40 x_5.length cap_41)) hs18 ?_
    refine .ld (d := 19) (v := (.int .i64 (x_5.length : Int))) hs19 ?_
    refine .ld (d := 1000000) (v := (enc [])) hs1000000 ?_
    clear hs20 hs0 hs12 hs13 hs14 hs18 hs19 hs1000000
    cases l_44 with
    | nil =>
      have hk : ¬ ((k_43 : Int) < (x_5.length : Int)) := by have := List.drop_eq_nil_iff.1 hl; omega
      have hkb := decide_eq_false hk
      rw [m_dag_fits_L4.eq_1] at hm
      refine wseq ?_
      refine wregion ?_
      refine lv (v := (.bool (decide ((k_43 : Int) < (x_5.length : Int))))) rfl rfl (r_lss (k_43 : Int) (x_5.length : Int) rfl rfl) ?_
      refine lnil ?_
      refine wseq ?_
      refine wcondF (congrArg Value.bool hkb) ?_
      refine wexit (inB_hit ?_)
      refine wregion ?_
      refine lv (v := (.int .i64 (IntKind.i64.wrap ((k_1 : Int) + 1)))) rfl rfl (r_add (k_1 : Int) 1 rfl rfl) ?_
      refine lv (v := (.int .i64 (IntKind.i64.wrap ((k_1 : Int) + 1)))) rfl rfl (r_move rfl) ?_
      refine lnil ?_
      exact ⟨l_6.length, by simp, ⟨col_46, (k_1 + 1), l_6, rfl, hl2, hm, hst, h0, (congrArg (Value.int .i64) (wrap_succ (Nat.lt_of_lt_of_le hlt h0.1.1))), rfl, rfl, rfl, rfl⟩⟩
    | cons x_47 l_48 =>
      obtain ⟨hat, hl2, hlt⟩ := drop_get hl
      have hk : (k_43 : Int) < (x_5.length : Int) := by omega
      have hkb := decide_eq_true hk
      rw [m_dag_fits_L4.eq_2] at hm
      refine wseq ?_
      refine wregion ?_
      refine lv (v := (.bool (decide ((k_43 : Int) < (x_5.length : Int))))) rfl rfl (r_lss (k_43 : Int) (x_5.length : Int) rfl rfl) ?_
      refine lnil ?_
      refine wseq ?_
      refine wcondT (congrArg Value.bool hkb) ?_
      refine wskip ?_
      refine wseq ?_
      refine wblock ?_
      refine wseq ?_
      refine wregion ?_
      refine lv (v := (sptr a_40 (Int.toNat (k_43 : Int) * 1))) rfl rfl (r_idx Try.underlying22 Try.sizeOf3 rfl rfl (at?_some hat).1 (at?_some hat).2.1 (h_42.addr hat)) ?_
      refine lv (v := (.int .i64 x_47)) rfl rfl (r_ld Try.isAgg3 rfl (h_42.atInt hat)) ?_
      refine lv (v := (.int .i64 x_47)) rfl rfl (r_assign rfl) ?_
      refine lnil ?_
      refine wseq ?_
      refine Wp.cut (fun f w_50 => ∃ (col_51 : Col) (v_52 : Bool), m_dag_fits_J1 (m_dag_fits_L4 p0_parents (m_dag_fits_L1 p0_parents l_6) l_48) v_52 = some r ∧ St w0 (col0 col) col_51 w_50 ∧ Sl (Rep.slice (Rep.int .i64)) col_51 w_50 a0 cap0 p0_parents ∧ Sl (Rep.int .i64) col_51 w_50 a_40 cap_41 x_5 ∧ f 0 = (.slice a0 p0_parents.length cap0) ∧ f 12 = (.slice a0 p0_parents.length cap0) ∧ f 13 = (.int .i64 (p0_parents.length : Int)) ∧ f 14 = (.int .i64 (k_1 : Int)) ∧ f 18 = (.slice a_40 x_5.length cap_41) ∧ f 19 = (.int .i64 (x_5.length : Int)) ∧ f 20 = (.int .i64 (k_43 : Int)) ∧ f 31 = (.bool v_52) ∧ f 1000000 = (enc [])) ?_ ?_
      · intro f w_50 hJ
        obtain ⟨col_51, v_52, hm, hst, h0, h_42, hs0, hs12, hs13, hs14, hs18, hs19, hs20, hs31, hs1000000⟩ := hJ
        rw [m_dag_fits_J1.eq_1] at hm
        refine .ld (d := 0) (v := (.slice a0 p0_parents.length cap0)) hs0 ?_
        refine .ld (d := 12) (v := (.slice a0 p0_parents.length cap0)) hs12 ?_
        refine .ld (d := 13) (v := (.int .i64 (p0_parents.length : Int))) hs13 ?_
        refine .ld (d := 14) (v := (.int .i64 (k_1 : Int))) hs14 ?_
        refine .ld (d := 18) (v := (.slice a_40 x_5.length cap_41)) hs18 ?_
        refine .ld (d := 19) (v := (.int .i64 (x_5.length : Int))) hs19 ?_
        refine .ld (d := 20) (v := (.int .i64 (k_43 : Int))) hs20 ?_
        refine .ld (d := 31) (v := (.bool v_52)) hs31 ?_
        refine .ld (d := 1000000) (v := (enc [])) hs1000000 ?_
        clear hs0 hs12 hs13 hs14 hs18 hs19 hs20 hs31 hs1000000
        refine wcond (v_52) rfl (fun hb => ?_) (fun hb => ?_)
        · rw [if_pos hb] at hm
          clear hb
          refine wseq ?_
          refine wregion ?_
          refine lv (v := (.int .i64 3)) rfl rfl (r_assign rfl) ?_
          refine lnil ?_
          refine wret ?_
          cases hm
          exact ⟨rfl, rfl, hst.below⟩
        · rw [if_neg (by rw [hb]; decide)] at hm
          clear hb
          refine wskip ?_
          refine wregion ?_
          refine lv (v := (.int .i64 (IntKind.i64.wrap ((k_43 : Int) + 1)))) rfl rfl (r_add (k_43 : Int) 1 rfl rfl) ?_
          refine lv (v := (.int .i64 (IntKind.i64.wrap ((k_43 : Int) + 1)))) rfl rfl (r_move rfl) ?_
          refine lnil ?_
          exact ⟨l_48.length, by simp, ⟨col_51, (k_43 + 1), l_48, rfl, hl2, hm, hst, h0, h_42, (congrArg (Value.int .i64) (wrap_succ (Nat.lt_of_lt_of_le hlt h_42.1.1))), rfl, rfl, rfl, rfl, rfl, rfl, rfl⟩⟩
      · refine wregion ?_
        refine lv (v := (.int .i64 x_47)) rfl rfl (r_move rfl) ?_
        refine lv (v := (.bool (decide (x_47 < 0)))) rfl rfl (r_lss x_47 0 rfl rfl) ?_
        refine lv (v := (.bool (decide (x_47 < 0)))) rfl rfl (r_move rfl) ?_
        by_cases hg_53 : (decide (x_47 < 0)) = true
        · rw [if_pos hg_53] at hm
          refine lp (b := decide (x_47 < 0)) 26 rfl rfl rfl rfl (by rw [hg_53]; rfl) ?_
          refine lp (b := decide (x_47 < 0)) 26 rfl rfl rfl rfl (by rw [hg_53]; rfl) ?_
          refine lp (b := decide (x_47 < 0)) 26 rfl rfl rfl rfl (by rw [hg_53]; rfl) ?_
          refine lp (b := decide (x_47 < 0)) 26 rfl rfl rfl rfl (by rw [hg_53]; rfl) ?_
          refine lv (v := (.bool true)) rfl rfl (r_pickT (congrArg Value.bool hg_53) rfl) ?_
          refine lnil ?_
          exact ⟨col_46, true, hm, hst, h0, h_42, rfl, rfl, rfl, rfl, rfl, rfl, rfl, rfl, rfl⟩
        · rw [if_neg hg_53] at hm
          replace hg_53 := Bool.eq_false_iff.2 hg_53
          refine lg (b := decide (x_47 < 0)) 26 rfl rfl rfl (by rw [hg_53]; rfl) ?_
          refine lv (v := (.int .i64 x_47)) rfl rfl (r_move rfl) ?_
          refine lg (b := decide (x_47 < 0)) 26 rfl rfl rfl (by rw [hg_53]; rfl) ?_
          refine lv (v := (.slice a0 p0_parents.length cap0)) rfl rfl (r_move rfl) ?_
          refine lg (b := decide (x_47 < 0)) 26 rfl rfl rfl (by rw [hg_53]; rfl) ?_
          refine lv (v := (.int .i64 (p0_parents.length : Int))) rfl rfl (r_len Try.underlying33 rfl) ?_
          refine lg (b := decide (x_47 < 0)) 26 rfl rfl rfl (by rw [hg_53]; rfl) ?_
          refine lv (v := (.bool (decide ((p0_parents.length : Int) ≤ x_47)))) rfl rfl (r_geq x_47 (p0_parents.length : Int) rfl rfl) ?_
          refine lv (v := (.bool (decide ((p0_parents.length : Int) ≤ x_47)))) rfl rfl (r_pickF (congrArg Value.bool hg_53) rfl) ?_
          refine lnil ?_
          exact ⟨col_46, (decide ((p0_parents.length : Int) ≤ x_47)), hm, hst, h0, h_42, rfl, rfl, rfl, rfl, rfl, rfl, rfl, rfl, rfl⟩



set_option maxRecDepth 100000 in
theorem el3_129 : ElemOk Try.prog 3 1 8 := ⟨Try.t3, _, rfl, rfl, rfl, rfl, rfl⟩

def m_dag_children_L2 (k_7 : Nat) (kk_L1 : (Nat → (List (List Int)) → Option (List (List Int)))) : List Int → (List (List Int)) → Option (List (List Int))
  | [], out_26 => kk_L1 (k_7 + 1) out_26
  | x_30 :: l_31, out_26 => (at? out_26 x_30).bind fun e_32 => chk ((e_32.length + [(k_7 : Int)].length) * 8 ≤ 140737488355328 ∧ e_32.length + [(k_7 : Int)].length ≤ maxLen) ((m_dag_children_L2 k_7 kk_L1 l_31) (out_26.set (Int.toNat x_30) (e_32 ++ [(k_7 : Int)])))

def m_dag_children_L1  : List (List Int) → Nat → (List (List Int)) → Option (List (List Int))
  | [], k_7, out_11 => some out_11
  | x_15 :: l_16, k_7, out_11 => m_dag_children_L2 k_7 (m_dag_children_L1 l_16) x_15 out_11

def m_dag_children (p0_parents : (List (List Int))) : Option (List (List Int)) :=
  chk (p0_parents.length * 24 ≤ 281474976710656 ∧ p0_parents.length ≤ maxLen) (m_dag_children_L1 p0_parents 0 (List.replicate p0_parents.length (([] : List Int) : (List Int))))

set_option maxRecDepth 100000 in
set_option maxHeartbeats 2000000 in
theorem c_dag_children (c1 : Nat) (col : Col) (w0 : World) (a0 : Option Addr) (cap0 : Nat) (p0_parents : (List (List Int))) (h0 : Sl (Rep.slice (Rep.int .i64)) col w0 a0 cap0 p0_parents) (r : (List (List Int))) (hm : m_dag_children p0_parents = some r) :
    Calls Try.prog 129 #[(.slice a0 p0_parents.length cap0)] w0 (fun e w' => ∃ (col' : Col) (ra1 : Option Addr) (rc2 : Nat), e = .returned ((.slice ra1 r.length rc2)) ∧ Grow col w0 col' w' ∧ Own (Rep.row 3 (Rep.int .i64)) 22 c1 col' w' ra1 rc2 r) := by
  refine calls_of1 2 (m := 37) (args := [(.slice a0 p0_parents.length cap0)]) Try.func129 rfl rfl rfl rfl rfl ?_
  rw [m_dag_children.eq_1] at hm
  have hst := St.start col w0
  replace h0 := h0.keep (Stay.start col w0)
  refine wseq ?_
  refine wregion ?_
  refine lv (v := (.slice none (([] : List (List Int)).length) 0)) rfl rfl (r_assign rfl) ?_
  refine lnil ?_
  refine wseq ?_
  refine wregion ?_
  refine lv (v := (.slice a0 p0_parents.length cap0)) rfl rfl (r_move rfl) ?_
  refine lv (v := (.int .i64 (p0_parents.length : Int))) rfl rfl (r_len Try.underlying33 rfl) ?_
  obtain ⟨hb_1, hm⟩ := chk_some hm
  refine l_make (col := (col0 col)) (w := w0) (r := (Rep.row 3 (Rep.int .i64))) (n := p0_parents.length) (x0 := ([] : List Int)) 1 rfl Try.underlying33 Try.t22 rfl rfl rfl rfl rfl rfl rfl hb_1.1 hb_1.2 rd_nilrow ?_
  intro a_2 w_3 col_4 hg_5 h_6
  replace h0 := h0.gr hg_5
  replace hst := hst.grow hg_5
  refine lv (v := (.slice a_2 ((List.replicate p0_parents.length (([] : List Int) : (List Int))).length) p0_parents.length)) rfl rfl (r_assign rfl) ?_
  refine lnil ?_
  refine wseq ?_
  refine wseq ?_
  refine wregion ?_
  refine lv (v := (.slice a0 p0_parents.length cap0)) rfl rfl (r_move rfl) ?_
  refine lv (v := (.int .i64 (p0_parents.length : Int))) rfl rfl (r_len Try.underlying33 rfl) ?_
  refine lv (v := (.int .i64 0)) rfl rfl (r_move rfl) ?_
  refine lnil ?_
  refine wblock ?_
  refine wloop (fun n f w_9 => ∃ (col_10 : Col) (k_7 : Nat) (a_12 : Option Addr) (cap_13 : Nat) (out_11 : List (List Int)) (l_8 : List (List Int)), n = l_8.length ∧ p0_parents.drop k_7 = l_8 ∧ m_dag_children_L1 l_8 k_7 out_11 = some r ∧ St w0 (col0 col) col_10 w_9 ∧ Sl (Rep.slice (Rep.int .i64)) col_10 w_9 a0 cap0 p0_parents ∧ Own (Rep.row 3 (Rep.int .i64)) 22 1 col_10 w_9 a_12 cap_13 out_11 ∧ f 13 = (.int .i64 (k_7 : Int)) ∧ f 11 = (.slice a0 p0_parents.length cap0) ∧ f 12 = (.int .i64 (p0_parents.length : Int)) ∧ f 3 = (.slice a_12 out_11.length cap_13) ∧ f 1000000 = (enc [])) p0_parents.length ⟨col_4, 0, a_2, p0_parents.length, (List.replicate p0_parents.length (([] : List Int) : (List Int))), p0_parents, rfl, rfl, hm, hst, h0, h_6, rfl, rfl, rfl, rfl, rfl⟩ ?_
  clear hm; intro n f w_9 hI
  obtain ⟨col_10, k_7, a_12, cap_13, out_11, l_8, hn, hl, hm, hst, h0, h_14, hs13, hs11, hs12, hs3, hs1000000⟩ := hI
  subst hn
  refine .ld (d := 13) (v := (.int .i64 (k_7 : Int))) hs13 ?_
  refine .ld (d := 11) (v := (.slice a0 p0_parents.length cap0)) hs11 ?_
  refine .ld (d := 12) (v := (.int .i64 (p0_parents.length : Int))) hs12 ?_
  refine .ld (d := 3) (v := (.slice a_12 out_11.length cap_13)) hs3 ?_
  refine .ld (d := 1000000) (v := (enc [])) hs1000000 ?_
  clear hs13 hs11 hs12 hs3 hs1000000
  cases l_8 with
  | nil =>
    have hk : ¬ ((k_7 : Int) < (p0_parents.length : Int)) := by have := List.drop_eq_nil_iff.1 hl; omega
    have hkb := decide_eq_false hk
    rw [m_dag_children_L1.eq_1] at hm
    refine wseq ?_
    refine wregion ?_
    refine lv (v := (.bool (decide ((k_7 : Int) < (p0_parents.length : Int))))) rfl rfl (r_lss (k_7 : Int) (p0_parents.length : Int) rfl rfl) ?_
    refine lnil ?_
    refine wseq ?_
    refine wcondF (congrArg Value.bool hkb) ?_
    refine wexit (inB_hit ?_)
    refine wseq ?_
    refine wregion ?_
    refine lv (v := (.slice a_12 out_11.length cap_13)) rfl rfl (r_move rfl) ?_
    refine lv (v := (.slice a_12 out_11.length cap_13)) rfl rfl (r_assign rfl) ?_
    refine lnil ?_
    refine wret ?_
    cases hm
    exact ⟨rfl, colF w0.heap.size col col_10 (fun n => bif Nat.beq n 1 then c1 else 0), a_12, cap_13, rfl, hst.fin (fun n => bif Nat.beq n 1 then c1 else 0), hst.finOwn (g := (fun n => bif Nat.beq n 1 then c1 else 0)) rfl h_14 (by decide) (by decide) rfl⟩
  | cons x_15 l_16 =>
    obtain ⟨hat, hl2, hlt⟩ := drop_get hl
    have hk : (k_7 : Int) < (p0_parents.length : Int) := by omega
    have hkb := decide_eq_true hk
    rw [m_dag_children_L1.eq_2] at hm
    refine wseq ?_
    refine wregion ?_
    refine lv (v := (.bool (decide ((k_7 : Int) < (p0_parents.length : Int))))) rfl rfl (r_lss (k_7 : Int) (p0_parents.length : Int) rfl rfl) ?_
    refine lnil ?_
    refine wseq ?_
    refine wcondT (congrArg Value.bool hkb) ?_
    refine wskip ?_
    refine wseq ?_
    refine wblock ?_
    refine wseq ?_
    refine wregion ?_
    refine lv (v := (.int .i64 (k_7 : Int))) rfl rfl (r_move rfl) ?_
    refine lv (v := (sptr a0 (Int.toNat (k_7 : Int) * 1))) rfl rfl (r_idx Try.underlying33 Try.sizeOf22 rfl rfl (at?_some hat).1 (at?_some hat).2.1 (h0.addr hat)) ?_
    obtain ⟨_, hr_17, hA_18⟩ := h0.atN hat
    obtain ⟨⟨a_19, cap_20, rfl, h_21⟩, _⟩ := hr_17
    refine lv (v := (.slice a_19 x_15.length cap_20)) rfl rfl (r_ld Try.isAgg22 rfl hA_18.one) ?_
    refine lv (v := (.int .i64 (k_7 : Int))) rfl rfl (r_assign rfl) ?_
    refine lv (v := (.slice a_19 x_15.length cap_20)) rfl rfl (r_assign rfl) ?_
    refine lnil ?_
    refine wseq ?_
    refine wregion ?_
    refine lv (v := (.slice a_19 x_15.length cap_20)) rfl rfl (r_move rfl) ?_
    refine lv (v := (.int .i64 (x_15.length : Int))) rfl rfl (r_len Try.underlying22 rfl) ?_
    refine lv (v := (.int .i64 0)) rfl rfl (r_move rfl) ?_
    refine lnil ?_
    refine wblock ?_
    refine wloop (fun n f w_24 => ∃ (col_25 : Col) (k_22 : Nat) (a_27 : Option Addr) (cap_28 : Nat) (out_26 : List (List Int)) (l_23 : List Int), n = l_23.length ∧ x_15.drop k_22 = l_23 ∧ m_dag_children_L2 k_7 (m_dag_children_L1 l_16) l_23 out_26 = some r ∧ St w0 (col0 col) col_25 w_24 ∧ Sl (Rep.slice (Rep.int .i64)) col_25 w_24 a0 cap0 p0_parents ∧ Sl (Rep.int .i64) col_25 w_24 a_19 cap_20 x_15 ∧ Own (Rep.row 3 (Rep.int .i64)) 22 1 col_25 w_24 a_27 cap_28 out_26 ∧ f 20 = (.int .i64 (k_22 : Int)) ∧ f 11 = (.slice a0 p0_parents.length cap0) ∧ f 12 = (.int .i64 (p0_parents.length : Int)) ∧ f 13 = (.int .i64 (k_7 : Int)) ∧ f 18 = (.slice a_19 x_15.length cap_20) ∧ f 19 = (.int .i64 (x_15.length : Int)) ∧ f 3 = (.slice a_27 out_26.length cap_28) ∧ f 4 = (.int .i64 (k_7 : Int)) ∧ f 1000000 = (enc [])) x_15.length ⟨col_10, 0, a_12, cap_13, out_11, x_15, rfl, rfl, hm, hst, h0, h_21, h_14, rfl, rfl, rfl, rfl, rfl, rfl, rfl, rfl, rfl⟩ ?_
    clear hm; intro n f w_24 hI
    obtain ⟨col_25, k_22, a_27, cap_28, out_26, l_23, hn, hl, hm, hst, h0, h_21, h_29, hs20, hs11, hs12, hs13, hs18, hs19, hs3, hs4, hs1000000⟩ := hI
    subst hn
    refine .ld (d := 20) (v := (.int .i64 (k_22 : Int))) hs20 ?_
    refine .ld (d := 11) (v := (.slice a0 p0_parents.length cap0)) hs11 ?_
    refine .ld (d := 12) (v := (.int .i64 (p0_parents.length : Int))) hs12 ?_
    refine .ld (d := 13) (v := (.int .i64 (k_7 : Int))) hs13 ?_
    refine .ld (d := 18) (v := (.slice a_19 x_15.length cap_20)) hs18 ?_
    refine .ld (d := 19) (v := (.int .i64 (x_15.length : Int))) hs19 ?_
    refine .ld (d := 3) (v := (.slice a_27 out_26.length cap_28)) hs3 ?_
    refine .ld (d := 4) (v := (.int .i64 (k_7 : Int))) hs4 ?_
    refine .ld (d := 1000000) (v := (enc [])) hs1000000 ?_
    clear hs20 hs11 hs12 hs13 hs18 hs19 hs3 hs4 hs1000000
    cases l_23 with
    | nil =>
      have hk : ¬ ((k_22 : Int) < (x_15.length : Int)) := by have := List.drop_eq_nil_iff.1 hl; omega
      have hkb := decide_eq_false hk
      rw [m_dag_children_L2.eq_1] at hm
      refine wseq ?_
      refine wregion ?_
      refine lv (v := (.bool (decide ((k_22 : Int) < (x_15.length : Int))))) rfl rfl (r_lss (k_22 : Int) (x_15.length : Int) rfl rfl) ?_
      refine lnil ?_
      refine wseq ?_
      refine wcondF (congrArg Value.bool hkb) ?_
      refine wexit (inB_hit ?_)
      refine wregion ?_
      refine lv (v := (.int .i64 (IntKind.i64.wrap ((k_7 : Int) + 1)))) rfl rfl (r_add (k_7 : Int) 1 rfl rfl) ?_
      refine lv (v := (.int .i64 (IntKind.i64.wrap ((k_7 : Int) + 1)))) rfl rfl (r_move rfl) ?_
      refine lnil ?_
      exact ⟨l_16.length, by simp, ⟨col_25, (k_7 + 1), a_27, cap_28, out_26, l_16, rfl, hl2, hm, hst, h0, h_29, (congrArg (Value.int .i64) (wrap_succ (Nat.lt_of_lt_of_le hlt h0.1.1))), rfl, rfl, rfl, rfl⟩⟩
    | cons x_30 l_31 =>
      obtain ⟨hat, hl2, hlt⟩ := drop_get hl
      have hk : (k_22 : Int) < (x_15.length : Int) := by omega
      have hkb := decide_eq_true hk
      rw [m_dag_children_L2.eq_2] at hm
      refine wseq ?_
      refine wregion ?_
      refine lv (v := (.bool (decide ((k_22 : Int) < (x_15.length : Int))))) rfl rfl (r_lss (k_22 : Int) (x_15.length : Int) rfl rfl) ?_
      refine lnil ?_
      refine wseq ?_
      refine wcondT (congrArg Value.bool hkb) ?_
      refine wskip ?_
      refine wseq ?_
      refine wblock ?_
      refine wseq ?_
      refine wregion ?_
      refine lv (v := (sptr a_19 (Int.toNat (k_22 : Int) * 1))) rfl rfl (r_idx Try.underlying22 Try.sizeOf3 rfl rfl (at?_some hat).1 (at?_some hat).2.1 (h_21.addr hat)) ?_
      refine lv (v := (.int .i64 x_30)) rfl rfl (r_ld Try.isAgg3 rfl (h_21.atInt hat)) ?_
      refine lv (v := (.int .i64 x_30)) rfl rfl (r_assign rfl) ?_
      refine lnil ?_
      refine wregion ?_
      refine lv (v := (.slice a_27 out_26.length cap_28)) rfl rfl (r_move rfl) ?_
      refine lv (v := (.int .i64 x_30)) rfl rfl (r_move rfl) ?_
      refine lv (v := (.slice a_27 out_26.length cap_28)) rfl rfl (r_move rfl) ?_
      refine lv (v := (.int .i64 x_30)) rfl rfl (r_move rfl) ?_
      obtain ⟨e_32, hj_33, hm⟩ := bind_some hm
      refine lv (v := (sptr a_27 (Int.toNat x_30 * 1))) rfl rfl (r_idx Try.underlying33 Try.sizeOf22 rfl rfl (at?_some hj_33).1 (at?_some hj_33).2.1 (h_29.addr hj_33)) ?_
      obtain ⟨_, col_37, hk_35, hH_36, hs_34⟩ := h_29.open_ 2 (by decide) hj_33
      replace h0 := h0.kpp hk_35 rfl
      replace h_21 := h_21.kpp hk_35 rfl
      replace hst := hst.kpp hk_35 rfl rfl
      obtain ⟨a_38, cap_39, rfl, h_40⟩ := hs_34.row
      clear h_29
      replace hH_36 : Hole (Rep.row 3 (Rep.int .i64)) 22 1 col_37 w_24 a_27 cap_28 out_26 (Int.toNat x_30) [(.slice a_38 e_32.length cap_39)] := hH_36
      refine lv (v := (.slice a_38 e_32.length cap_39)) rfl rfl (r_ld Try.isAgg22 rfl hH_36.atN.one) ?_
      refine lv (v := (.int .i64 (k_7 : Int))) rfl rfl (r_move rfl) ?_
      refine l_lit (col := col_37) (r := (Rep.int .i64)) (xs := [(k_7 : Int)]) [(.int .i64 (k_7 : Int))] 3 rfl Try.underlying22 el3_129 rfl rfl rfl rfl rfl rfl (by intro v hv; simp only [List.mem_cons, List.not_mem_nil, or_false] at hv; subst hv; rfl) (RowsH.ofF (Rows.consF (r := (Rep.int .i64)) (x := (k_7 : Int)) (cs := [(.int .i64 (k_7 : Int))]) (rd_int .i64 (k_7 : Int)) Rows.nil0)) ?_
      intro a_41 w_42 col_43 hg_44 h_45
      replace h0 := h0.gr hg_44
      replace h_21 := h_21.gr hg_44
      replace hH_36 := hH_36.gr hg_44
      replace h_40 := h_40.gr hg_44
      replace hst := hst.grow hg_44
      obtain ⟨hb_46, hm⟩ := chk_some hm
      refine l_ext (col := col_43) (w := w_42) (r := (Rep.int .i64)) (c := 2) (c2 := 2) (h_40.ex) (h_45.srcN (NB.int (k := .i64))) rfl Try.underlying22 el3_129 rfl rfl rfl hb_46.1 hb_46.2 (by decide) ?_
      intro a_47 cap_48 w_49 col_50 hk_51 h_52
      replace h0 := h0.kpp hk_51 rfl
      replace h_21 := h_21.kpp hk_51 rfl
      replace hH_36 := hH_36.kpp hk_51 rfl rfl
      replace h_45 := h_45.kpp hk_51 rfl rfl
      replace hst := hst.kpp hk_51 rfl rfl
      clear h_40
      refine lv (v := (sptr a_27 (Int.toNat x_30 * 1))) rfl rfl (r_idx Try.underlying33 Try.sizeOf22 rfl rfl (at?_some hj_33).1 (at?_some hj_33).2.1 (hH_36.addr)) ?_
      refine l_storeH (v := (.slice a_47 ((e_32 ++ [(k_7 : Int)]).length) cap_48)) hH_36 rfl Try.sizeOf22 rfl (by intro u hu; simp only [Value.cells, List.mem_cons, List.not_mem_nil, or_false] at hu; subst hu; rfl) rfl rfl (by decide) ?_
      intro w_53 hk_54 hs_55 hH_56
      replace h0 := h0.kp hk_54 (by decide)
      replace h_21 := h_21.kp hk_54 (by decide)
      replace h_52 := h_52.kp hk_54 (by decide) (by decide)
      replace hst := hst.kp hk_54 hs_55 (by decide) (by decide)
      replace hH_56 : Hole (Rep.row 3 (Rep.int .i64)) 22 1 col_50 w_53 a_27 cap_28 out_26 (Int.toNat x_30) [(.slice a_47 ((e_32 ++ [(k_7 : Int)]).length) cap_48)] := hH_56
      clear hH_36
      have h_57 := h_52.new
      clear h_52
      have h_58 := hH_56.close h_57.has (by decide) (by decide)
      replace h0 := h0.recol 2 1 (by decide)
      replace h_21 := h_21.recol 2 1 (by decide)
      replace hst := hst.recol 2 1 (by decide) (by decide)
      clear hH_56
      refine .ld (d := 3) (v := (.slice a_27 ((out_26.set (Int.toNat x_30) (e_32 ++ [(k_7 : Int)])).length) cap_28)) (congrArg (fun n => Value.slice a_27 n cap_28) (show out_26.length = (out_26.set (Int.toNat x_30) (e_32 ++ [(k_7 : Int)])).length by simp only [List.length_set])) ?_
      refine lnil ?_
      refine wregion ?_
      refine lv (v := (.int .i64 (IntKind.i64.wrap ((k_22 : Int) + 1)))) rfl rfl (r_add (k_22 : Int) 1 rfl rfl) ?_
      refine lv (v := (.int .i64 (IntKind.i64.wrap ((k_22 : Int) + 1)))) rfl rfl (r_move rfl) ?_
      refine lnil ?_
      exact ⟨l_31.length, by simp, ⟨(rcC 2 1 col_50), (k_22 + 1), a_27, cap_28, (out_26.set (Int.toNat x_30) (e_32 ++ [(k_7 : Int)])), l_31, rfl, hl2, hm, hst, h0, h_21, h_58, (congrArg (Value.int .i64) (wrap_succ (Nat.lt_of_lt_of_le hlt h_21.1.1))), rfl, rfl, rfl, rfl, rfl, rfl, rfl, rfl⟩⟩




def m_dag_heap_pop_J1 (v_27 : Int) (kk_L2 : (Int → Int → Option (Int × (List Int)))) (least_31 : Int) : Option (Int × (List Int)) :=
  kk_L2 (IntKind.i64.wrap (v_27 + 1)) least_31

def m_dag_heap_pop_J2 (v_27 : Int) (least_28 : Int) (kk_L2 : (Int → Int → Option (Int × (List Int)))) (e_32 : Int) (v_43 : Bool) : Option (Int × (List Int)) :=
  if v_43 = true then (m_dag_heap_pop_J1 v_27 kk_L2 e_32) else (m_dag_heap_pop_J1 v_27 kk_L2 least_28)

def m_dag_heap_pop_L2 (N : Nat) (p0_h : (List Int)) (e_1 : Int) (l_19 : List Int) (i_23 : Int) (kk_L1 : ((List Int) → Int → Option (Int × (List Int)))) : Nat → Int → Int → Option (Int × (List Int))
  | 0, _, _ => none
  | n_24 + 1, v_27, least_28 => if (decide (v_27 < 2)) = true then ((at? [IntKind.i64.wrap ((IntKind.i64.wrap (2 * i_23)) + 1), IntKind.i64.wrap ((IntKind.i64.wrap (2 * i_23)) + 2)] v_27).bind fun e_32 => if (decide (e_32 < (IntKind.i64.wrap ((p0_h.length : Int) - 1)))) = true then ((at? l_19 e_32).bind fun e_45 => (at? l_19 least_28).bind fun e_47 => m_dag_heap_pop_J2 v_27 least_28 (m_dag_heap_pop_L2 N p0_h e_1 l_19 i_23 kk_L1 n_24) e_32 (decide (e_45 < e_47))) else (m_dag_heap_pop_J2 v_27 least_28 (m_dag_heap_pop_L2 N p0_h e_1 l_19 i_23 kk_L1 n_24) e_32 false)) else (if (decide (least_28 = i_23)) = true then (some (e_1, l_19.take (Int.toNat (IntKind.i64.wrap ((p0_h.length : Int) - 1))))) else ((at? l_19 least_28).bind fun e_51 => (at? l_19 i_23).bind fun e_53 => (some (l_19.set (Int.toNat i_23) e_51)).bind fun xs_61 => (at? xs_61 least_28).bind fun e_62 => (some (xs_61.set (Int.toNat least_28) e_53)).bind fun xs_70 => kk_L1 xs_70 least_28))

def m_dag_heap_pop_L1 (N : Nat) (p0_h : (List Int)) (e_1 : Int) : Nat → (List Int) → Int → Option (Int × (List Int))
  | 0, _, _ => none
  | n_16 + 1, l_19, i_23 => m_dag_heap_pop_L2 N p0_h e_1 l_19 i_23 (m_dag_heap_pop_L1 N p0_h e_1 n_16) N 0 i_23

def m_dag_heap_pop (N : Nat) (p0_h : (List Int)) : Option (Int × (List Int)) :=
  (at? p0_h 0).bind fun e_1 => (at? p0_h (IntKind.i64.wrap ((p0_h.length : Int) - 1))).bind fun e_3 => (some (p0_h.set (Int.toNat 0) e_3)).bind fun xs_10 => chk ((0 : Int) ≤ (IntKind.i64.wrap ((p0_h.length : Int) - 1)) ∧ (IntKind.i64.wrap ((p0_h.length : Int) - 1)) ≤ (xs_10.length : Int)) (m_dag_heap_pop_L1 N p0_h e_1 N xs_10 0)

set_option maxRecDepth 100000 in
set_option maxHeartbeats 2000000 in
theorem c_dag_heap_pop (N : Nat) (col : Col) (w0 : World) (qc0 : Nat) (qc0_1 : Nat) (hd : dstB [qc0, qc0_1] = true) (g0 : Nat) (p0_h : (List Int)) (a0_2 : Option Addr) (cap0_2 : Nat) (h0_2 : Own (Rep.int .i64) 3 qc0_1 col w0 a0_2 cap0_2 p0_h) (hb0 : Box 155 qc0 col w0 g0 #[(.slice a0_2 p0_h.length cap0_2)]) (r : (Int × (List Int))) (hm : m_dag_heap_pop N p0_h = some r) :
    Calls Try.prog 138 #[(.pointer (some ⟨g0, 0, none⟩))] w0 (fun e w' => ∃ (col' : Col) (oa1 : Option Addr) (oc2 : Nat), e = .returned ((.int .i64 r.1)) ∧ KeepP (pS [qc0, qc0_1]) col w0 col' w' ∧ Own (Rep.int .i64) 3 qc0_1 col' w' oa1 oc2 r.2 ∧ Box 155 qc0 col' w' g0 #[(.slice oa1 r.2.length oc2)]) := by
  refine calls_of1 2 (m := 76) (args := [(.pointer (some ⟨g0, 0, none⟩))]) Try.func138 rfl rfl rfl rfl rfl ?_
  rw [m_dag_heap_pop.eq_1] at hm
  have hst := St.startL (l := [qc0, qc0_1]) rfl col w0
  replace hb0 := hb0.startL (dst_nz hd 0 rfl) (dst_ix hd 0 rfl)
  replace h0_2 := h0_2.startL (dst_nz hd 1 rfl) (dst_ix hd 1 rfl)
  refine wseq ?_
  refine wregion ?_
  refine lv (v := (.int .i64 0)) rfl rfl (r_assign rfl) ?_
  refine lnil ?_
  refine wseq ?_
  refine wregion ?_
  refine lv (v := (.pointer (some ⟨g0, 0, none⟩))) rfl rfl (r_move rfl) ?_
  refine lv (v := (.pointer (some ⟨g0, 0, none⟩))) rfl rfl (r_nilCheck rfl) ?_
  refine lv (v := (.slice a0_2 p0_h.length cap0_2)) rfl rfl (r_ld Try.isAgg155 rfl hb0.at1) ?_
  refine lv (v := (.slice a0_2 p0_h.length cap0_2)) rfl rfl (r_assign rfl) ?_
  refine lnil ?_
  refine wseq ?_
  refine wregion ?_
  refine lv (v := (.slice a0_2 p0_h.length cap0_2)) rfl rfl (r_move rfl) ?_
  obtain ⟨e_1, hj_2, hm⟩ := bind_some hm
  refine lv (v := (sptr a0_2 (Int.toNat 0 * 1))) rfl rfl (r_idx Try.underlying155 Try.sizeOf3 rfl rfl (at?_some hj_2).1 (at?_some hj_2).2.1 (h0_2.addr hj_2)) ?_
  refine lv (v := (.int .i64 e_1)) rfl rfl (r_ld Try.isAgg3 rfl (h0_2.atInt hj_2)) ?_
  refine lv (v := (.slice a0_2 p0_h.length cap0_2)) rfl rfl (r_move rfl) ?_
  refine lv (v := (.int .i64 (p0_h.length : Int))) rfl rfl (r_len Try.underlying155 rfl) ?_
  refine lv (v := (.int .i64 (IntKind.i64.wrap ((p0_h.length : Int) - 1)))) rfl rfl (r_sub (p0_h.length : Int) 1 rfl rfl) ?_
  refine lv (v := (.int .i64 e_1)) rfl rfl (r_assign rfl) ?_
  refine lv (v := (.int .i64 (IntKind.i64.wrap ((p0_h.length : Int) - 1)))) rfl rfl (r_assign rfl) ?_
  refine lnil ?_
  refine wseq ?_
  refine wregion ?_
  refine lv (v := (.slice a0_2 p0_h.length cap0_2)) rfl rfl (r_move rfl) ?_
  refine lv (v := (.slice a0_2 p0_h.length cap0_2)) rfl rfl (r_move rfl) ?_
  refine lv (v := (.int .i64 (IntKind.i64.wrap ((p0_h.length : Int) - 1)))) rfl rfl (r_move rfl) ?_
  obtain ⟨e_3, hj_4, hm⟩ := bind_some hm
  refine lv (v := (sptr a0_2 (Int.toNat (IntKind.i64.wrap ((p0_h.length : Int) - 1)) * 1))) rfl rfl (r_idx Try.underlying155 Try.sizeOf3 rfl rfl (at?_some hj_4).1 (at?_some hj_4).2.1 (h0_2.addr hj_4)) ?_
  refine lv (v := (.int .i64 e_3)) rfl rfl (r_ld Try.isAgg3 rfl (h0_2.atInt hj_4)) ?_
  refine lv (v := (sptr a0_2 (Int.toNat 0 * 1))) rfl rfl (r_idx Try.underlying155 Try.sizeOf3 rfl rfl (at?_some hj_2).1 (at?_some hj_2).2.1 (h0_2.addr hj_2)) ?_
  obtain ⟨xs_10, hz_9, hm⟩ := bind_some hm
  have hz_9 : xs_10 = p0_h.set (Int.toNat 0) e_3 := (Option.some.inj hz_9).symm
  refine l_store (x1 := e_3) (v := (.int .i64 e_3)) h0_2 hj_2 rfl Try.sizeOf3 (rd_int .i64 e_3) rfl rfl (by decide) ?_
  intro w_5 hk_6 hs_7 h_8
  rw [← hz_9] at h_8
  replace hb0 := hb0.kp hk_6 (by decide)
  replace hst := hst.kp hk_6 hs_7 (by decide) (by decide)
  refine .ld (d := 3) (v := (.slice a0_2 xs_10.length cap0_2)) (congrArg (fun n => Value.slice a0_2 n cap0_2) (show p0_h.length = xs_10.length by rw [hz_9, List.length_set])) ?_
  replace hb0 : Box 155 440 (colL [qc0, qc0_1] col) w_5 g0 #[(.slice a0_2 xs_10.length cap0_2)] := by rw [← (show p0_h.length = xs_10.length by rw [hz_9, List.length_set])]; exact hb0
  clear h0_2
  refine lnil ?_
  refine wseq ?_
  refine wregion ?_
  refine lv (v := (.pointer (some ⟨g0, 0, none⟩))) rfl rfl (r_move rfl) ?_
  refine lv (v := (.slice a0_2 xs_10.length cap0_2)) rfl rfl (r_move rfl) ?_
  refine lv (v := (.int .i64 (IntKind.i64.wrap ((p0_h.length : Int) - 1)))) rfl rfl (r_move rfl) ?_
  obtain ⟨hb_11, hm⟩ := chk_some hm
  refine lv (v := .slice a0_2 (Int.toNat (IntKind.i64.wrap ((p0_h.length : Int) - 1))) cap0_2) rfl rfl (r_sliceH Try.underlying155 Try.sizeOf3 rfl rfl hb_11.1 (by have := h_8.lecap; have := hb_11.2; omega)) ?_
  refine .ld (d := 28) (v := (.slice a0_2 ((xs_10.take (Int.toNat (IntKind.i64.wrap ((p0_h.length : Int) - 1)))).length) cap0_2)) (congrArg (fun n => Value.slice a0_2 n cap0_2) (List.length_take_of_le (show (Int.toNat (IntKind.i64.wrap ((p0_h.length : Int) - 1))) ≤ xs_10.length by have := hb_11.2; omega)).symm) ?_
  refine lv (v := (.pointer (some ⟨g0, 0, none⟩))) rfl rfl (r_nilCheck rfl) ?_
  refine l_bstore (v := (.slice a0_2 ((xs_10.take (Int.toNat (IntKind.i64.wrap ((p0_h.length : Int) - 1)))).length) cap0_2)) hb0 Try.sizeOf155 rfl rfl (by intro u hu; simp only [Value.cells, List.mem_cons, List.not_mem_nil, or_false] at hu; subst hu; rfl) rfl rfl ?_
  intro w_12 hk_13 hs_14 hb_15
  replace h_8 := h_8.kp hk_13 (by decide) (by decide)
  replace hst := hst.kp hk_13 hs_14 (by decide) (by decide)
  clear hb0
  replace hb_15 : Box 155 440 (colL [qc0, qc0_1] col) w_12 g0 #[(.slice a0_2 ((xs_10.take (Int.toNat (IntKind.i64.wrap ((p0_h.length : Int) - 1)))).length) cap0_2)] := hb_15
  refine lnil ?_
  refine wseq ?_
  refine wregion ?_
  refine lv (v := (.int .i64 0)) rfl rfl (r_assign rfl) ?_
  refine lnil ?_
  refine wblock ?_
  refine wloop (fun n f w_17 => ∃ (col_18 : Col) (a_20 : Option Addr) (cap_21 : Nat) (l_19 : List Int) (i_23 : Int) (n_16 : Nat), n_16 = n ∧ m_dag_heap_pop_L1 N p0_h e_1 n_16 l_19 i_23 = some r ∧ St w0 (colL [qc0, qc0_1] col) col_18 w_17 ∧ Own (Rep.int .i64) 3 441 col_18 w_17 a_20 cap_21 l_19 ∧ Box 155 440 col_18 w_17 g0 #[(.slice a_20 ((l_19.take (Int.toNat (IntKind.i64.wrap ((p0_h.length : Int) - 1)))).length) cap_21)] ∧ f 3 = (.slice a_20 l_19.length cap_21) ∧ f 4 = (.int .i64 e_1) ∧ f 5 = (.int .i64 (IntKind.i64.wrap ((p0_h.length : Int) - 1))) ∧ f 6 = (.int .i64 i_23) ∧ f 1000000 = (enc [])) N ⟨(colL [qc0, qc0_1] col), a0_2, cap0_2, xs_10, 0, N, rfl, hm, hst, h_8, hb_15, rfl, rfl, rfl, rfl, rfl⟩ ?_
  clear hm; intro n f w_17 hI
  obtain ⟨col_18, a_20, cap_21, l_19, i_23, n_16, hn, hm, hst, h_22, hb_15, hs3, hs4, hs5, hs6, hs1000000⟩ := hI
  subst hn
  refine .ld (d := 3) (v := (.slice a_20 l_19.length cap_21)) hs3 ?_
  refine .ld (d := 4) (v := (.int .i64 e_1)) hs4 ?_
  refine .ld (d := 5) (v := (.int .i64 (IntKind.i64.wrap ((p0_h.length : Int) - 1)))) hs5 ?_
  refine .ld (d := 6) (v := (.int .i64 i_23)) hs6 ?_
  refine .ld (d := 1000000) (v := (enc [])) hs1000000 ?_
  clear hs3 hs4 hs5 hs6 hs1000000
  cases n_16 with
  | zero => rw [m_dag_heap_pop_L1.eq_1] at hm; cases hm
  | succ n_16 =>
    rw [m_dag_heap_pop_L1.eq_2] at hm
    refine wblock ?_
    refine wseq ?_
    refine wregion ?_
    refine lv (v := (.int .i64 i_23)) rfl rfl (r_move rfl) ?_
    refine lv (v := (.int .i64 i_23)) rfl rfl (r_assign rfl) ?_
    refine lnil ?_
    refine wseq ?_
    refine wseq ?_
    refine wregion ?_
    refine lv (v := (.int .i64 i_23)) rfl rfl (r_move rfl) ?_
    refine lv (v := (.int .i64 (IntKind.i64.wrap (2 * i_23)))) rfl rfl (r_mul 2 i_23 rfl rfl) ?_
    refine lv (v := (.int .i64 (IntKind.i64.wrap ((IntKind.i64.wrap (2 * i_23)) + 1)))) rfl rfl (r_add (IntKind.i64.wrap (2 * i_23)) 1 rfl rfl) ?_
    refine lv (v := (.int .i64 i_23)) rfl rfl (r_move rfl) ?_
    refine lv (v := (.int .i64 (IntKind.i64.wrap (2 * i_23)))) rfl rfl (r_mul 2 i_23 rfl rfl) ?_
    refine lv (v := (.int .i64 (IntKind.i64.wrap ((IntKind.i64.wrap (2 * i_23)) + 2)))) rfl rfl (r_add (IntKind.i64.wrap (2 * i_23)) 2 rfl rfl) ?_
    refine lv (v := (.agg #[(.int .i64 (IntKind.i64.wrap ((IntKind.i64.wrap (2 * i_23)) + 1))), (.int .i64 (IntKind.i64.wrap ((IntKind.i64.wrap (2 * i_23)) + 2)))])) rfl rfl (r_buildA Try.underlying161 Try.sizeOf3 Try.zeroValue161 rfl) ?_
    refine lv (v := (.int .i64 0)) rfl rfl (r_move rfl) ?_
    refine lnil ?_
    refine wblock ?_
    refine wloop (fun n f w_25 => ∃ (col_26 : Col) (v_27 : Int) (least_28 : Int) (n_24 : Nat), n_24 = n ∧ m_dag_heap_pop_L2 N p0_h e_1 l_19 i_23 (m_dag_heap_pop_L1 N p0_h e_1 n_16) n_24 v_27 least_28 = some r ∧ St w0 (colL [qc0, qc0_1] col) col_26 w_25 ∧ Own (Rep.int .i64) 3 441 col_26 w_25 a_20 cap_21 l_19 ∧ Box 155 440 col_26 w_25 g0 #[(.slice a_20 ((l_19.take (Int.toNat (IntKind.i64.wrap ((p0_h.length : Int) - 1)))).length) cap_21)] ∧ f 3 = (.slice a_20 l_19.length cap_21) ∧ f 37 = (.agg #[(.int .i64 (IntKind.i64.wrap ((IntKind.i64.wrap (2 * i_23)) + 1))), (.int .i64 (IntKind.i64.wrap ((IntKind.i64.wrap (2 * i_23)) + 2)))]) ∧ f 38 = (.int .i64 v_27) ∧ f 4 = (.int .i64 e_1) ∧ f 5 = (.int .i64 (IntKind.i64.wrap ((p0_h.length : Int) - 1))) ∧ f 6 = (.int .i64 i_23) ∧ f 7 = (.int .i64 least_28) ∧ f 1000000 = (enc [])) N ⟨col_18, 0, i_23, N, rfl, hm, hst, h_22, hb_15, rfl, rfl, rfl, rfl, rfl, rfl, rfl, rfl⟩ ?_
    clear hm; intro n f w_25 hI
    obtain ⟨col_26, v_27, least_28, n_24, hn, hm, hst, h_22, hb_15, hs3, hs37, hs38, hs4, hs5, hs6, hs7, hs1000000⟩ := hI
    subst hn
    refine .ld (d := 3) (v := (.slice a_20 l_19.length cap_21)) hs3 ?_
    refine .ld (d := 37) (v := (.agg #[(.int .i64 (IntKind.i64.wrap ((IntKind.i64.wrap (2 * i_23)) + 1))), (.int .i64 (IntKind.i64.wrap ((IntKind.i64.wrap (2 * i_23)) + 2)))])) hs37 ?_
    refine .ld (d := 38) (v := (.int .i64 v_27)) hs38 ?_
    refine .ld (d := 4) (v := (.int .i64 e_1)) hs4 ?_
    refine .ld (d := 5) (v := (.int .i64 (IntKind.i64.wrap ((p0_h.length : Int) - 1)))) hs5 ?_
    refine .ld (d := 6) (v := (.int .i64 i_23)) hs6 ?_
    refine .ld (d := 7) (v := (.int .i64 least_28)) hs7 ?_
    refine .ld (d := 1000000) (v := (enc [])) hs1000000 ?_
    clear hs3 hs37 hs38 hs4 hs5 hs6 hs7 hs1000000
    cases n_24 with
    | zero => rw [m_dag_heap_pop_L2.eq_1] at hm; cases hm
    | succ n_24 =>
      rw [m_dag_heap_pop_L2.eq_2] at hm
      refine wseq ?_
      refine wregion ?_
      refine lv (v := (.bool (decide (v_27 < 2)))) rfl rfl (r_lss v_27 2 rfl rfl) ?_
      refine lnil ?_
      refine wseq ?_
      refine wcond (decide (v_27 < 2)) rfl (fun hb => ?_) (fun hb => ?_)
      · rw [if_pos hb] at hm
        clear hb
        refine wskip ?_
        refine wseq ?_
        refine Wp.cut (fun f w_29 => ∃ (col_30 : Col) (least_31 : Int), m_dag_heap_pop_J1 v_27 (m_dag_heap_pop_L2 N p0_h e_1 l_19 i_23 (m_dag_heap_pop_L1 N p0_h e_1 n_16) n_24) least_31 = some r ∧ St w0 (colL [qc0, qc0_1] col) col_30 w_29 ∧ Own (Rep.int .i64) 3 441 col_30 w_29 a_20 cap_21 l_19 ∧ Box 155 440 col_30 w_29 g0 #[(.slice a_20 ((l_19.take (Int.toNat (IntKind.i64.wrap ((p0_h.length : Int) - 1)))).length) cap_21)] ∧ f 3 = (.slice a_20 l_19.length cap_21) ∧ f 37 = (.agg #[(.int .i64 (IntKind.i64.wrap ((IntKind.i64.wrap (2 * i_23)) + 1))), (.int .i64 (IntKind.i64.wrap ((IntKind.i64.wrap (2 * i_23)) + 2)))]) ∧ f 38 = (.int .i64 v_27) ∧ f 4 = (.int .i64 e_1) ∧ f 5 = (.int .i64 (IntKind.i64.wrap ((p0_h.length : Int) - 1))) ∧ f 6 = (.int .i64 i_23) ∧ f 7 = (.int .i64 least_31) ∧ f 1000000 = (enc [])) ?_ ?_
        · intro f w_29 hJ
          obtain ⟨col_30, least_31, hm, hst, h_22, hb_15, hs3, hs37, hs38, hs4, hs5, hs6, hs7, hs1000000⟩ := hJ
          rw [m_dag_heap_pop_J1.eq_1] at hm
          refine .ld (d := 3) (v := (.slice a_20 l_19.length cap_21)) hs3 ?_
          refine .ld (d := 37) (v := (.agg #[(.int .i64 (IntKind.i64.wrap ((IntKind.i64.wrap (2 * i_23)) + 1))), (.int .i64 (IntKind.i64.wrap ((IntKind.i64.wrap (2 * i_23)) + 2)))])) hs37 ?_
          refine .ld (d := 38) (v := (.int .i64 v_27)) hs38 ?_
          refine .ld (d := 4) (v := (.int .i64 e_1)) hs4 ?_
          refine .ld (d := 5) (v := (.int .i64 (IntKind.i64.wrap ((p0_h.length : Int) - 1)))) hs5 ?_
          refine .ld (d := 6) (v := (.int .i64 i_23)) hs6 ?_
          refine .ld (d := 7) (v := (.int .i64 least_31)) hs7 ?_
          refine .ld (d := 1000000) (v := (enc [])) hs1000000 ?_
          clear hs3 hs37 hs38 hs4 hs5 hs6 hs7 hs1000000
          refine wregion ?_
          refine lv (v := (.int .i64 (IntKind.i64.wrap (v_27 + 1)))) rfl rfl (r_add v_27 1 rfl rfl) ?_
          refine lv (v := (.int .i64 (IntKind.i64.wrap (v_27 + 1)))) rfl rfl (r_move rfl) ?_
          refine lnil ?_
          exact ⟨n_24, by omega, ⟨col_30, (IntKind.i64.wrap (v_27 + 1)), least_31, n_24, rfl, hm, hst, h_22, hb_15, rfl, rfl, rfl, rfl, rfl, rfl, rfl, rfl⟩⟩
        · refine wblock ?_
          refine wseq ?_
          refine wregion ?_
          obtain ⟨e_32, hj_33, hm⟩ := bind_some hm
          refine lv (v := (.int .i64 e_32)) rfl rfl (r_indexI (l := [IntKind.i64.wrap ((IntKind.i64.wrap (2 * i_23)) + 1), IntKind.i64.wrap ((IntKind.i64.wrap (2 * i_23)) + 2)]) (k := .i64) Try.underlying161 Try.sizeOf3 Try.isAgg3 rfl rfl rfl hj_33) ?_
          refine lv (v := (.int .i64 e_32)) rfl rfl (r_assign rfl) ?_
          refine lnil ?_
          refine wseq ?_
          refine Wp.cut (fun f w_41 => ∃ (col_42 : Col) (v_43 : Bool), m_dag_heap_pop_J2 v_27 least_28 (m_dag_heap_pop_L2 N p0_h e_1 l_19 i_23 (m_dag_heap_pop_L1 N p0_h e_1 n_16) n_24) e_32 v_43 = some r ∧ St w0 (colL [qc0, qc0_1] col) col_42 w_41 ∧ Own (Rep.int .i64) 3 441 col_42 w_41 a_20 cap_21 l_19 ∧ Box 155 440 col_42 w_41 g0 #[(.slice a_20 ((l_19.take (Int.toNat (IntKind.i64.wrap ((p0_h.length : Int) - 1)))).length) cap_21)] ∧ f 3 = (.slice a_20 l_19.length cap_21) ∧ f 37 = (.agg #[(.int .i64 (IntKind.i64.wrap ((IntKind.i64.wrap (2 * i_23)) + 1))), (.int .i64 (IntKind.i64.wrap ((IntKind.i64.wrap (2 * i_23)) + 2)))]) ∧ f 38 = (.int .i64 v_27) ∧ f 4 = (.int .i64 e_1) ∧ f 5 = (.int .i64 (IntKind.i64.wrap ((p0_h.length : Int) - 1))) ∧ f 54 = (.bool v_43) ∧ f 6 = (.int .i64 i_23) ∧ f 7 = (.int .i64 least_28) ∧ f 9 = (.int .i64 e_32) ∧ f 1000000 = (enc [])) ?_ ?_
          · intro f w_41 hJ
            obtain ⟨col_42, v_43, hm, hst, h_22, hb_15, hs3, hs37, hs38, hs4, hs5, hs54, hs6, hs7, hs9, hs1000000⟩ := hJ
            rw [m_dag_heap_pop_J2.eq_1] at hm
            refine .ld (d := 3) (v := (.slice a_20 l_19.length cap_21)) hs3 ?_
            refine .ld (d := 37) (v := (.agg #[(.int .i64 (IntKind.i64.wrap ((IntKind.i64.wrap (2 * i_23)) + 1))), (.int .i64 (IntKind.i64.wrap ((IntKind.i64.wrap (2 * i_23)) + 2)))])) hs37 ?_
            refine .ld (d := 38) (v := (.int .i64 v_27)) hs38 ?_
            refine .ld (d := 4) (v := (.int .i64 e_1)) hs4 ?_
            refine .ld (d := 5) (v := (.int .i64 (IntKind.i64.wrap ((p0_h.length : Int) - 1)))) hs5 ?_
            refine .ld (d := 54) (v := (.bool v_43)) hs54 ?_
            refine .ld (d := 6) (v := (.int .i64 i_23)) hs6 ?_
            refine .ld (d := 7) (v := (.int .i64 least_28)) hs7 ?_
            refine .ld (d := 9) (v := (.int .i64 e_32)) hs9 ?_
            refine .ld (d := 1000000) (v := (enc [])) hs1000000 ?_
            clear hs3 hs37 hs38 hs4 hs5 hs54 hs6 hs7 hs9 hs1000000
            refine wcond (v_43) rfl (fun hb => ?_) (fun hb => ?_)
            · rw [if_pos hb] at hm
              clear hb
              refine wregion ?_
              refine lv (v := (.int .i64 e_32)) rfl rfl (r_move rfl) ?_
              refine lv (v := (.int .i64 e_32)) rfl rfl (r_assign rfl) ?_
              refine lnil ?_
              exact ⟨col_42, e_32, hm, hst, h_22, hb_15, rfl, rfl, rfl, rfl, rfl, rfl, rfl, rfl⟩
            · rw [if_neg (by rw [hb]; decide)] at hm
              clear hb
              refine wskip ?_
              exact ⟨col_42, least_28, hm, hst, h_22, hb_15, rfl, rfl, rfl, rfl, rfl, rfl, rfl, rfl⟩
          · refine wquiet (col := col_26) (by kernel_rfl) (by kernel_rfl) ?_
            refine qv (v := (.int .i64 e_32)) rfl (fun _ hC => r_move rfl) ?_
            refine qv (v := (.int .i64 (IntKind.i64.wrap ((p0_h.length : Int) - 1)))) rfl (fun _ hC => r_move rfl) ?_
            refine qv (v := (.bool (decide (e_32 < (IntKind.i64.wrap ((p0_h.length : Int) - 1)))))) rfl (fun _ hC => r_lss e_32 (IntKind.i64.wrap ((p0_h.length : Int) - 1)) rfl rfl) ?_
            refine qv (v := (.bool (decide (e_32 < (IntKind.i64.wrap ((p0_h.length : Int) - 1)))))) rfl (fun _ hC => r_move rfl) ?_
            by_cases hg_44 : (decide (e_32 < (IntKind.i64.wrap ((p0_h.length : Int) - 1)))) = true
            · rw [if_pos hg_44] at hm
              refine qg (b := decide (e_32 < (IntKind.i64.wrap ((p0_h.length : Int) - 1)))) 44 rfl rfl rfl (by rw [hg_44]; rfl) ?_
              refine qv (v := (.slice a_20 l_19.length cap_21)) rfl (fun _ hC => r_move rfl) ?_
              refine qg (b := decide (e_32 < (IntKind.i64.wrap ((p0_h.length : Int) - 1)))) 44 rfl rfl rfl (by rw [hg_44]; rfl) ?_
              refine qv (v := (.int .i64 e_32)) rfl (fun _ hC => r_move rfl) ?_
              refine qg (b := decide (e_32 < (IntKind.i64.wrap ((p0_h.length : Int) - 1)))) 44 rfl rfl rfl (by rw [hg_44]; rfl) ?_
              obtain ⟨e_45, hj_46, hm⟩ := bind_some hm
              refine qv (v := (sptr a_20 (Int.toNat e_32 * 1))) rfl (fun _ hC => r_idx Try.underlying155 Try.sizeOf3 rfl rfl (at?_some hj_46).1 (at?_some hj_46).2.1 (h_22.addr hj_46)) ?_
              refine qg (b := decide (e_32 < (IntKind.i64.wrap ((p0_h.length : Int) - 1)))) 44 rfl rfl rfl (by rw [hg_44]; rfl) ?_
              refine qv (v := (.int .i64 e_45)) rfl (fun _ hC => r_ld Try.isAgg3 rfl ((h_22.gr (Grow.of_below (col := col_26) hC.below)).atInt hj_46)) ?_
              refine qg (b := decide (e_32 < (IntKind.i64.wrap ((p0_h.length : Int) - 1)))) 44 rfl rfl rfl (by rw [hg_44]; rfl) ?_
              refine qv (v := (.slice a_20 l_19.length cap_21)) rfl (fun _ hC => r_move rfl) ?_
              refine qg (b := decide (e_32 < (IntKind.i64.wrap ((p0_h.length : Int) - 1)))) 44 rfl rfl rfl (by rw [hg_44]; rfl) ?_
              refine qv (v := (.int .i64 least_28)) rfl (fun _ hC => r_move rfl) ?_
              refine qg (b := decide (e_32 < (IntKind.i64.wrap ((p0_h.length : Int) - 1)))) 44 rfl rfl rfl (by rw [hg_44]; rfl) ?_
              obtain ⟨e_47, hj_48, hm⟩ := bind_some hm
              refine qv (v := (sptr a_20 (Int.toNat least_28 * 1))) rfl (fun _ hC => r_idx Try.underlying155 Try.sizeOf3 rfl rfl (at?_some hj_48).1 (at?_some hj_48).2.1 (h_22.addr hj_48)) ?_
              refine qg (b := decide (e_32 < (IntKind.i64.wrap ((p0_h.length : Int) - 1)))) 44 rfl rfl rfl (by rw [hg_44]; rfl) ?_
              refine qv (v := (.int .i64 e_47)) rfl (fun _ hC => r_ld Try.isAgg3 rfl ((h_22.gr (Grow.of_below (col := col_26) hC.below)).atInt hj_48)) ?_
              refine qg (b := decide (e_32 < (IntKind.i64.wrap ((p0_h.length : Int) - 1)))) 44 rfl rfl rfl (by rw [hg_44]; rfl) ?_
              refine qv (v := (.bool (decide (e_45 < e_47)))) rfl (fun _ hC => r_lss e_45 e_47 rfl rfl) ?_
              refine qv (v := (.bool (decide (e_45 < e_47)))) rfl (fun _ hC => r_pickT (congrArg Value.bool hg_44) rfl) ?_
              refine qnil ?_
              intro w_49 hC
              replace hC : Grow col_26 w_25 col_26 w_49 := .of_below hC.below
              replace h_22 := h_22.gr hC
              replace hb_15 := hb_15.gr hC
              replace hst := hst.grow hC
              exact ⟨col_26, (decide (e_45 < e_47)), hm, hst, h_22, hb_15, rfl, rfl, rfl, rfl, rfl, rfl, rfl, rfl, rfl, rfl⟩
            · rw [if_neg hg_44] at hm
              replace hg_44 := Bool.eq_false_iff.2 hg_44
              refine qp (b := decide (e_32 < (IntKind.i64.wrap ((p0_h.length : Int) - 1)))) 44 rfl rfl rfl rfl (by rw [hg_44]; rfl) ?_
              refine qp (b := decide (e_32 < (IntKind.i64.wrap ((p0_h.length : Int) - 1)))) 44 rfl rfl rfl rfl (by rw [hg_44]; rfl) ?_
              refine qp (b := decide (e_32 < (IntKind.i64.wrap ((p0_h.length : Int) - 1)))) 44 rfl rfl rfl rfl (by rw [hg_44]; rfl) ?_
              refine qp (b := decide (e_32 < (IntKind.i64.wrap ((p0_h.length : Int) - 1)))) 44 rfl rfl rfl rfl (by rw [hg_44]; rfl) ?_
              refine qp (b := decide (e_32 < (IntKind.i64.wrap ((p0_h.length : Int) - 1)))) 44 rfl rfl rfl rfl (by rw [hg_44]; rfl) ?_
              refine qp (b := decide (e_32 < (IntKind.i64.wrap ((p0_h.length : Int) - 1)))) 44 rfl rfl rfl rfl (by rw [hg_44]; rfl) ?_
              refine qp (b := decide (e_32 < (IntKind.i64.wrap ((p0_h.length : Int) - 1)))) 44 rfl rfl rfl rfl (by rw [hg_44]; rfl) ?_
              refine qp (b := decide (e_32 < (IntKind.i64.wrap ((p0_h.length : Int) - 1)))) 44 rfl rfl rfl rfl (by rw [hg_44]; rfl) ?_
              refine qp (b := decide (e_32 < (IntKind.i64.wrap ((p0_h.length : Int) - 1)))) 44 rfl rfl rfl rfl (by rw [hg_44]; rfl) ?_
              refine qv (v := (.bool false)) rfl (fun _ hC => r_pickF (congrArg Value.bool hg_44) rfl) ?_
              refine qnil ?_
              intro w_50 hC
              replace hC : Grow col_26 w_25 col_26 w_50 := .of_below hC.below
              replace h_22 := h_22.gr hC
              replace hb_15 := hb_15.gr hC
              replace hst := hst.grow hC
              exact ⟨col_26, false, hm, hst, h_22, hb_15, rfl, rfl, rfl, rfl, rfl, rfl, rfl, rfl, rfl, rfl⟩
      · rw [if_neg (by rw [hb]; decide)] at hm
        clear hb
        refine wexit (inB_hit ?_)
        refine wseq ?_
        refine wseq ?_
        refine wregion ?_
        refine lv (v := (.int .i64 least_28)) rfl rfl (r_move rfl) ?_
        refine lv (v := (.int .i64 i_23)) rfl rfl (r_move rfl) ?_
        refine lv (v := (.bool (decide (least_28 = i_23)))) rfl rfl (r_eql least_28 i_23 rfl rfl) ?_
        refine lnil ?_
        refine wcond (decide (least_28 = i_23)) rfl (fun hb => ?_) (fun hb => ?_)
        · rw [if_pos hb] at hm
          clear hb
          refine wseq ?_
          refine wregion ?_
          refine lv (v := (.int .i64 e_1)) rfl rfl (r_move rfl) ?_
          refine lv (v := (.int .i64 e_1)) rfl rfl (r_assign rfl) ?_
          refine lnil ?_
          refine wret ?_
          cases hm
          exact ⟨rfl, colFL w0.heap.size [qc0, qc0_1] col col_26 (fun n => bif Nat.beq n 441 then qc0_1 else bif Nat.beq n 440 then qc0 else 0), a_20, cap_21, rfl, hst.finL rfl (fun n => bif Nat.beq n 441 then qc0_1 else bif Nat.beq n 440 then qc0 else 0), hst.finOwnL (g := (fun n => bif Nat.beq n 441 then qc0_1 else bif Nat.beq n 440 then qc0 else 0)) rfl (h_22.take (Int.toNat (IntKind.i64.wrap ((p0_h.length : Int) - 1)))) (by decide) (by decide) rfl, hst.finBoxL (g := (fun n => bif Nat.beq n 441 then qc0_1 else bif Nat.beq n 440 then qc0 else 0)) hb_15 (by decide) (by decide) rfl⟩
        · rw [if_neg (by rw [hb]; decide)] at hm
          clear hb
          refine wskip ?_
          refine wseq ?_
          refine wmix (col := col_26) [(0, 1), (1, 1), (2, 1), (3, 1), (4, 1), (5, 1), (6, 1), (7, 0), (8, 1), (9, 1), (10, 1), (11, 0), (12, 1), (13, 2), (14, 1), (15, 2)] (by kernel_rfl) (by kernel_rfl) ?_
          refine xu (v := (.slice a_20 l_19.length cap_21)) rfl rfl (fun _ => r_move rfl) ?_
          refine xu (v := (.int .i64 i_23)) rfl rfl (fun _ => r_move rfl) ?_
          refine xu (v := (.slice a_20 l_19.length cap_21)) rfl rfl (fun _ => r_move rfl) ?_
          refine xu (v := (.int .i64 least_28)) rfl rfl (fun _ => r_move rfl) ?_
          refine xu (v := (.slice a_20 l_19.length cap_21)) rfl rfl (fun _ => r_move rfl) ?_
          refine xu (v := (.int .i64 least_28)) rfl rfl (fun _ => r_move rfl) ?_
          obtain ⟨e_51, hj_52, hm⟩ := bind_some hm
          refine xu (v := (sptr a_20 (Int.toNat least_28 * 1))) rfl rfl (fun _ => r_idx Try.underlying155 Try.sizeOf3 rfl rfl (at?_some hj_52).1 (at?_some hj_52).2.1 (h_22.addr hj_52)) ?_
          refine xv (v := (.int .i64 e_51)) rfl rfl (fun _ hC => r_ld Try.isAgg3 rfl ((h_22.gr (Grow.of_below (col := col_26) hC.below)).atInt hj_52)) ?_
          refine xu (v := (.slice a_20 l_19.length cap_21)) rfl rfl (fun _ => r_move rfl) ?_
          refine xu (v := (.int .i64 i_23)) rfl rfl (fun _ => r_move rfl) ?_
          obtain ⟨e_53, hj_54, hm⟩ := bind_some hm
          refine xu (v := (sptr a_20 (Int.toNat i_23 * 1))) rfl rfl (fun _ => r_idx Try.underlying155 Try.sizeOf3 rfl rfl (at?_some hj_54).1 (at?_some hj_54).2.1 (h_22.addr hj_54)) ?_
          refine xv (v := (.int .i64 e_53)) rfl rfl (fun _ hC => r_ld Try.isAgg3 rfl ((h_22.gr (Grow.of_below (col := col_26) hC.below)).atInt hj_54)) ?_
          refine xu (v := (sptr a_20 (Int.toNat i_23 * 1))) rfl rfl (fun _ => r_idx Try.underlying155 Try.sizeOf3 rfl rfl (at?_some hj_54).1 (at?_some hj_54).2.1 (h_22.addr hj_54)) ?_
          refine xe rfl rfl ?_
          intro w_55 hC0
          have hC : Grow col_26 w_25 col_26 w_55 := .of_below hC0.below
          replace h_22 := h_22.gr hC
          replace hb_15 := hb_15.gr hC
          replace hst := hst.grow hC
          obtain ⟨xs_61, hz_60, hm⟩ := bind_some hm
          have hz_60 : xs_61 = l_19.set (Int.toNat i_23) e_51 := (Option.some.inj hz_60).symm
          refine l_store (x1 := e_51) (v := (.int .i64 e_51)) h_22 hj_54 rfl Try.sizeOf3 (rd_int .i64 e_51) rfl rfl (by decide) ?_
          intro w_56 hk_57 hs_58 h_59
          rw [← hz_60] at h_59
          replace hb_15 := hb_15.kp hk_57 (by decide)
          replace hst := hst.kp hk_57 hs_58 (by decide) (by decide)
          refine .ld (d := 3) (v := (.slice a_20 xs_61.length cap_21)) (congrArg (fun n => Value.slice a_20 n cap_21) (show l_19.length = xs_61.length by rw [hz_60, List.length_set])) ?_
          refine .ld (d := 63) (v := (.slice a_20 xs_61.length cap_21)) (congrArg (fun n => Value.slice a_20 n cap_21) (show l_19.length = xs_61.length by rw [hz_60, List.length_set])) ?_
          replace hb_15 : Box 155 440 col_26 w_56 g0 #[(.slice a_20 ((xs_61.take (Int.toNat (IntKind.i64.wrap ((p0_h.length : Int) - 1)))).length) cap_21)] := by rw [← (show (l_19.take (Int.toNat (IntKind.i64.wrap ((p0_h.length : Int) - 1)))).length = (xs_61.take (Int.toNat (IntKind.i64.wrap ((p0_h.length : Int) - 1)))).length by rw [List.length_take, List.length_take, (show l_19.length = xs_61.length by rw [hz_60, List.length_set])])]; exact hb_15
          clear h_22
          refine lnil ⟨fun w' => Grow col_26 w_56 col_26 w', Grow.refl _ _, fun h => absurd h (by decide), ?_⟩
          obtain ⟨e_62, hj_63, hm⟩ := bind_some hm
          refine xu (v := (sptr a_20 (Int.toNat least_28 * 1))) rfl rfl (fun _ => r_idx Try.underlying155 Try.sizeOf3 rfl rfl (at?_some hj_63).1 (at?_some hj_63).2.1 (h_59.addr hj_63)) ?_
          refine xe rfl rfl ?_
          intro w_64 hC0
          have hC : Grow col_26 w_56 col_26 w_64 := .of_below hC0.below
          replace h_59 := h_59.gr hC
          replace hb_15 := hb_15.gr hC
          replace hst := hst.grow hC
          obtain ⟨xs_70, hz_69, hm⟩ := bind_some hm
          have hz_69 : xs_70 = xs_61.set (Int.toNat least_28) e_53 := (Option.some.inj hz_69).symm
          refine l_store (x1 := e_53) (v := (.int .i64 e_53)) h_59 hj_63 rfl Try.sizeOf3 (rd_int .i64 e_53) rfl rfl (by decide) ?_
          intro w_65 hk_66 hs_67 h_68
          rw [← hz_69] at h_68
          replace hb_15 := hb_15.kp hk_66 (by decide)
          replace hst := hst.kp hk_66 hs_67 (by decide) (by decide)
          refine .ld (d := 3) (v := (.slice a_20 xs_70.length cap_21)) (congrArg (fun n => Value.slice a_20 n cap_21) (show xs_61.length = xs_70.length by rw [hz_69, List.length_set])) ?_
          replace hb_15 : Box 155 440 col_26 w_65 g0 #[(.slice a_20 ((xs_70.take (Int.toNat (IntKind.i64.wrap ((p0_h.length : Int) - 1)))).length) cap_21)] := by rw [← (show (xs_61.take (Int.toNat (IntKind.i64.wrap ((p0_h.length : Int) - 1)))).length = (xs_70.take (Int.toNat (IntKind.i64.wrap ((p0_h.length : Int) - 1)))).length by rw [List.length_take, List.length_take, (show xs_61.length = xs_70.length by rw [hz_69, List.length_set])])]; exact hb_15
          clear h_59
          refine lnil ⟨fun w' => Grow col_26 w_65 col_26 w', Grow.refl _ _, fun h => absurd h (by decide), ?_⟩
          refine xnil ?_
          intro w_71 hC
          replace hC : Grow col_26 w_65 col_26 w_71 := .of_below hC.below
          replace h_68 := h_68.gr hC
          replace hb_15 := hb_15.gr hC
          replace hst := hst.grow hC
          refine wregion ?_
          refine lv (v := (.int .i64 least_28)) rfl rfl (r_move rfl) ?_
          refine lv (v := (.int .i64 least_28)) rfl rfl (r_assign rfl) ?_
          refine lnil ?_
          exact ⟨n_16, by omega, ⟨col_26, a_20, cap_21, xs_70, least_28, n_16, rfl, hm, hst, h_68, hb_15, rfl, rfl, rfl, rfl, rfl⟩⟩



set_option maxRecDepth 100000 in
theorem el3_137 : ElemOk Try.prog 3 1 8 := ⟨Try.t3, _, rfl, rfl, rfl, rfl, rfl⟩

def m_dag_heap_push_J1 (h_21 : List Int) (i_25 : Int) (kk_L1 : ((List Int) → Int → Option (List Int))) (v_35 : Bool) : Option (List Int) :=
  if v_35 = true then ((at? h_21 (IntKind.i64.wrap (Int.tdiv (IntKind.i64.wrap (i_25 - 1)) 2))).bind fun e_36 => (at? h_21 i_25).bind fun e_38 => (some (h_21.set (Int.toNat i_25) e_36)).bind fun xs_46 => (at? xs_46 (IntKind.i64.wrap (Int.tdiv (IntKind.i64.wrap (i_25 - 1)) 2))).bind fun e_47 => (some (xs_46.set (Int.toNat (IntKind.i64.wrap (Int.tdiv (IntKind.i64.wrap (i_25 - 1)) 2))) e_38)).bind fun xs_55 => kk_L1 xs_55 (IntKind.i64.wrap (Int.tdiv (IntKind.i64.wrap (i_25 - 1)) 2))) else (some h_21)

def m_dag_heap_push_L1 (N : Nat)  : Nat → (List Int) → Int → Option (List Int)
  | 0, _, _ => none
  | n_18 + 1, h_21, i_25 => if (decide (0 < i_25)) = true then ((at? h_21 i_25).bind fun e_58 => (at? h_21 (IntKind.i64.wrap (Int.tdiv (IntKind.i64.wrap (i_25 - 1)) 2))).bind fun e_60 => m_dag_heap_push_J1 h_21 i_25 (m_dag_heap_push_L1 N n_18) (decide (e_58 < e_60))) else (m_dag_heap_push_J1 h_21 i_25 (m_dag_heap_push_L1 N n_18) false)

def m_dag_heap_push (N : Nat) (p0_h : (List Int)) (p1_x : Int) : Option (List Int) :=
  chk ((p0_h.length + [p1_x].length) * 8 ≤ 140737488355328 ∧ p0_h.length + [p1_x].length ≤ maxLen) (m_dag_heap_push_L1 N N (p0_h ++ [p1_x]) (IntKind.i64.wrap (((p0_h ++ [p1_x]).length : Int) - 1)))

set_option maxRecDepth 100000 in
set_option maxHeartbeats 2000000 in
theorem c_dag_heap_push (N : Nat) (col : Col) (w0 : World) (qc0 : Nat) (qc0_1 : Nat) (hd : dstB [qc0, qc0_1] = true) (g0 : Nat) (p0_h : (List Int)) (a0_2 : Option Addr) (cap0_2 : Nat) (p1_x : Int) (h0_2 : Own (Rep.int .i64) 3 qc0_1 col w0 a0_2 cap0_2 p0_h) (hb0 : Box 155 qc0 col w0 g0 #[(.slice a0_2 p0_h.length cap0_2)]) (r : (List Int)) (hm : m_dag_heap_push N p0_h p1_x = some r) :
    Calls Try.prog 137 #[(.pointer (some ⟨g0, 0, none⟩)), (.int .i64 p1_x)] w0 (fun e w' => ∃ (col' : Col) (oa1 : Option Addr) (oc2 : Nat), e = .returned (.tuple #[]) ∧ KeepP (pS [qc0, qc0_1]) col w0 col' w' ∧ Own (Rep.int .i64) 3 qc0_1 col' w' oa1 oc2 r ∧ Box 155 qc0 col' w' g0 #[(.slice oa1 r.length oc2)]) := by
  refine calls_of0  (m := 66) (args := [(.pointer (some ⟨g0, 0, none⟩)), (.int .i64 p1_x)]) Try.func137 rfl rfl rfl rfl ?_
  rw [m_dag_heap_push.eq_1] at hm
  have hst := St.startL (l := [qc0, qc0_1]) rfl col w0
  replace hb0 := hb0.startL (dst_nz hd 0 rfl) (dst_ix hd 0 rfl)
  replace h0_2 := h0_2.startL (dst_nz hd 1 rfl) (dst_ix hd 1 rfl)
  refine wseq ?_
  refine wregion ?_
  refine lv (v := (.pointer (some ⟨g0, 0, none⟩))) rfl rfl (r_move rfl) ?_
  refine lv (v := (.pointer (some ⟨g0, 0, none⟩))) rfl rfl (r_move rfl) ?_
  refine lv (v := (.pointer (some ⟨g0, 0, none⟩))) rfl rfl (r_nilCheck rfl) ?_
  refine lv (v := (.slice a0_2 p0_h.length cap0_2)) rfl rfl (r_ld Try.isAgg155 rfl hb0.at1) ?_
  refine lv (v := (.int .i64 p1_x)) rfl rfl (r_move rfl) ?_
  refine l_lit (col := (colL [qc0, qc0_1] col)) (r := (Rep.int .i64)) (xs := [p1_x]) [(.int .i64 p1_x)] 1 rfl Try.underlying155 el3_137 rfl rfl rfl rfl rfl rfl (by intro v hv; simp only [List.mem_cons, List.not_mem_nil, or_false] at hv; subst hv; rfl) (RowsH.ofF (Rows.consF (r := (Rep.int .i64)) (x := p1_x) (cs := [(.int .i64 p1_x)]) (rd_int .i64 p1_x) Rows.nil0)) ?_
  intro a_1 w_2 col_3 hg_4 h_5
  replace h0_2 := h0_2.gr hg_4
  replace hb0 := hb0.gr hg_4
  replace hst := hst.grow hg_4
  obtain ⟨hb_6, hm⟩ := chk_some hm
  refine l_ext (col := col_3) (w := w_2) (r := (Rep.int .i64)) (c := 441) (c2 := 441) (h0_2.ex) (h_5.srcN (NB.int (k := .i64))) rfl Try.underlying155 el3_137 rfl rfl rfl hb_6.1 hb_6.2 (by decide) ?_
  intro a_7 cap_8 w_9 col_10 hk_11 h_12
  replace h_5 := h_5.kpp hk_11 rfl rfl
  replace hb0 := hb0.kpp hk_11 rfl
  replace hst := hst.kpp hk_11 rfl rfl
  clear h0_2
  refine lv (v := (.pointer (some ⟨g0, 0, none⟩))) rfl rfl (r_nilCheck rfl) ?_
  refine l_bstore (v := (.slice a_7 ((p0_h ++ [p1_x]).length) cap_8)) hb0 Try.sizeOf155 rfl rfl (by intro u hu; simp only [Value.cells, List.mem_cons, List.not_mem_nil, or_false] at hu; subst hu; rfl) rfl rfl ?_
  intro w_13 hk_14 hs_15 hb_16
  replace h_12 := h_12.kp hk_14 (by decide) (by decide)
  replace hst := hst.kp hk_14 hs_15 (by decide) (by decide)
  clear hb0
  replace hb_16 : Box 155 440 col_10 w_13 g0 #[(.slice a_7 ((p0_h ++ [p1_x]).length) cap_8)] := hb_16
  have h_17 := h_12.new
  clear h_12
  refine lnil ?_
  refine wseq ?_
  refine wregion ?_
  refine lv (v := (.pointer (some ⟨g0, 0, none⟩))) rfl rfl (r_move rfl) ?_
  refine lv (v := (.pointer (some ⟨g0, 0, none⟩))) rfl rfl (r_nilCheck rfl) ?_
  refine lv (v := (.slice a_7 ((p0_h ++ [p1_x]).length) cap_8)) rfl rfl (r_ld Try.isAgg155 rfl hb_16.at1) ?_
  refine lv (v := (.int .i64 ((p0_h ++ [p1_x]).length : Int))) rfl rfl (r_len Try.underlying155 rfl) ?_
  refine lv (v := (.int .i64 (IntKind.i64.wrap (((p0_h ++ [p1_x]).length : Int) - 1)))) rfl rfl (r_sub ((p0_h ++ [p1_x]).length : Int) 1 rfl rfl) ?_
  refine lv (v := (.int .i64 (IntKind.i64.wrap (((p0_h ++ [p1_x]).length : Int) - 1)))) rfl rfl (r_assign rfl) ?_
  refine lnil ?_
  refine wblock ?_
  refine wloop (fun n f w_19 => ∃ (col_20 : Col) (a_22 : Option Addr) (cap_23 : Nat) (h_21 : List Int) (i_25 : Int) (n_18 : Nat), n_18 = n ∧ m_dag_heap_push_L1 N n_18 h_21 i_25 = some r ∧ St w0 (colL [qc0, qc0_1] col) col_20 w_19 ∧ Own (Rep.int .i64) 3 441 col_20 w_19 a_22 cap_23 h_21 ∧ Box 155 440 col_20 w_19 g0 #[(.slice a_22 h_21.length cap_23)] ∧ f 0 = (.pointer (some ⟨g0, 0, none⟩)) ∧ f 4 = (.int .i64 i_25) ∧ f 1000000 = (enc [])) N ⟨col_10, a_7, cap_8, (p0_h ++ [p1_x]), (IntKind.i64.wrap (((p0_h ++ [p1_x]).length : Int) - 1)), N, rfl, hm, hst, h_17, hb_16, rfl, rfl, rfl⟩ ?_
  clear hm; intro n f w_19 hI
  obtain ⟨col_20, a_22, cap_23, h_21, i_25, n_18, hn, hm, hst, h_24, hb_16, hs0, hs4, hs1000000⟩ := hI
  subst hn
  refine .ld (d := 0) (v := (.pointer (some ⟨g0, 0, none⟩))) hs0 ?_
  refine .ld (d := 4) (v := (.int .i64 i_25)) hs4 ?_
  refine .ld (d := 1000000) (v := (enc [])) hs1000000 ?_
  clear hs0 hs4 hs1000000
  cases n_18 with
  | zero => rw [m_dag_heap_push_L1.eq_1] at hm; cases hm
  | succ n_18 =>
    rw [m_dag_heap_push_L1.eq_2] at hm
    refine wseq ?_
    refine wseq ?_
    refine Wp.cut (fun f w_33 => ∃ (col_34 : Col) (v_35 : Bool), m_dag_heap_push_J1 h_21 i_25 (m_dag_heap_push_L1 N n_18) v_35 = some r ∧ St w0 (colL [qc0, qc0_1] col) col_34 w_33 ∧ Own (Rep.int .i64) 3 441 col_34 w_33 a_22 cap_23 h_21 ∧ Box 155 440 col_34 w_33 g0 #[(.slice a_22 h_21.length cap_23)] ∧ f 0 = (.pointer (some ⟨g0, 0, none⟩)) ∧ f 36 = (.bool v_35) ∧ f 4 = (.int .i64 i_25) ∧ f 1000000 = (enc [])) ?_ ?_
    · intro f w_33 hJ
      obtain ⟨col_34, v_35, hm, hst, h_24, hb_16, hs0, hs36, hs4, hs1000000⟩ := hJ
      rw [m_dag_heap_push_J1.eq_1] at hm
      refine .ld (d := 0) (v := (.pointer (some ⟨g0, 0, none⟩))) hs0 ?_
      refine .ld (d := 36) (v := (.bool v_35)) hs36 ?_
      refine .ld (d := 4) (v := (.int .i64 i_25)) hs4 ?_
      refine .ld (d := 1000000) (v := (enc [])) hs1000000 ?_
      clear hs0 hs36 hs4 hs1000000
      refine wcond (v_35) rfl (fun hb => ?_) (fun hb => ?_)
      · rw [if_pos hb] at hm
        clear hb
        refine wskip ?_
        refine wseq ?_
        refine wblock ?_
        refine wmix (col := col_34) [(0, 1), (1, 1), (2, 0), (3, 1), (4, 1), (5, 1), (6, 0), (7, 1), (8, 1), (9, 1), (10, 1), (11, 1), (12, 0), (13, 1), (14, 1), (15, 1), (16, 1), (17, 0), (18, 1), (19, 1), (20, 0), (21, 1), (22, 1), (23, 0), (24, 1), (25, 2), (26, 1), (27, 2)] (by kernel_rfl) (by kernel_rfl) ?_
        refine xu (v := (.pointer (some ⟨g0, 0, none⟩))) rfl rfl (fun _ => r_move rfl) ?_
        refine xu (v := (.pointer (some ⟨g0, 0, none⟩))) rfl rfl (fun _ => r_nilCheck rfl) ?_
        refine xv (v := (.slice a_22 h_21.length cap_23)) rfl rfl (fun _ hC => r_ld Try.isAgg155 rfl (hb_16.at1.gr (Grow.of_below (col := col_34) hC.below))) ?_
        refine xu (v := (.int .i64 i_25)) rfl rfl (fun _ => r_move rfl) ?_
        refine xu (v := (.pointer (some ⟨g0, 0, none⟩))) rfl rfl (fun _ => r_move rfl) ?_
        refine xu (v := (.pointer (some ⟨g0, 0, none⟩))) rfl rfl (fun _ => r_nilCheck rfl) ?_
        refine xv (v := (.slice a_22 h_21.length cap_23)) rfl rfl (fun _ hC => r_ld Try.isAgg155 rfl (hb_16.at1.gr (Grow.of_below (col := col_34) hC.below))) ?_
        refine xu (v := (.int .i64 i_25)) rfl rfl (fun _ => r_move rfl) ?_
        refine xu (v := (.int .i64 (IntKind.i64.wrap (i_25 - 1)))) rfl rfl (fun _ => r_sub i_25 1 rfl rfl) ?_
        refine xu (v := (.int .i64 (IntKind.i64.wrap (Int.tdiv (IntKind.i64.wrap (i_25 - 1)) 2)))) rfl rfl (fun _ => r_quo (IntKind.i64.wrap (i_25 - 1)) 2 rfl rfl (by decide)) ?_
        refine xu (v := (.pointer (some ⟨g0, 0, none⟩))) rfl rfl (fun _ => r_move rfl) ?_
        refine xu (v := (.pointer (some ⟨g0, 0, none⟩))) rfl rfl (fun _ => r_nilCheck rfl) ?_
        refine xv (v := (.slice a_22 h_21.length cap_23)) rfl rfl (fun _ hC => r_ld Try.isAgg155 rfl (hb_16.at1.gr (Grow.of_below (col := col_34) hC.below))) ?_
        refine xu (v := (.int .i64 i_25)) rfl rfl (fun _ => r_move rfl) ?_
        refine xu (v := (.int .i64 (IntKind.i64.wrap (i_25 - 1)))) rfl rfl (fun _ => r_sub i_25 1 rfl rfl) ?_
        refine xu (v := (.int .i64 (IntKind.i64.wrap (Int.tdiv (IntKind.i64.wrap (i_25 - 1)) 2)))) rfl rfl (fun _ => r_quo (IntKind.i64.wrap (i_25 - 1)) 2 rfl rfl (by decide)) ?_
        obtain ⟨e_36, hj_37, hm⟩ := bind_some hm
        refine xu (v := (sptr a_22 (Int.toNat (IntKind.i64.wrap (Int.tdiv (IntKind.i64.wrap (i_25 - 1)) 2)) * 1))) rfl rfl (fun _ => r_idx Try.underlying155 Try.sizeOf3 rfl rfl (at?_some hj_37).1 (at?_some hj_37).2.1 (h_24.addr hj_37)) ?_
        refine xv (v := (.int .i64 e_36)) rfl rfl (fun _ hC => r_ld Try.isAgg3 rfl ((h_24.gr (Grow.of_below (col := col_34) hC.below)).atInt hj_37)) ?_
        refine xu (v := (.pointer (some ⟨g0, 0, none⟩))) rfl rfl (fun _ => r_move rfl) ?_
        refine xu (v := (.pointer (some ⟨g0, 0, none⟩))) rfl rfl (fun _ => r_nilCheck rfl) ?_
        refine xv (v := (.slice a_22 h_21.length cap_23)) rfl rfl (fun _ hC => r_ld Try.isAgg155 rfl (hb_16.at1.gr (Grow.of_below (col := col_34) hC.below))) ?_
        refine xu (v := (.int .i64 i_25)) rfl rfl (fun _ => r_move rfl) ?_
        obtain ⟨e_38, hj_39, hm⟩ := bind_some hm
        refine xu (v := (sptr a_22 (Int.toNat i_25 * 1))) rfl rfl (fun _ => r_idx Try.underlying155 Try.sizeOf3 rfl rfl (at?_some hj_39).1 (at?_some hj_39).2.1 (h_24.addr hj_39)) ?_
        refine xv (v := (.int .i64 e_38)) rfl rfl (fun _ hC => r_ld Try.isAgg3 rfl ((h_24.gr (Grow.of_below (col := col_34) hC.below)).atInt hj_39)) ?_
        refine xu (v := (sptr a_22 (Int.toNat i_25 * 1))) rfl rfl (fun _ => r_idx Try.underlying155 Try.sizeOf3 rfl rfl (at?_some hj_39).1 (at?_some hj_39).2.1 (h_24.addr hj_39)) ?_
        refine xe rfl rfl ?_
        intro w_40 hC0
        have hC : Grow col_34 w_33 col_34 w_40 := .of_below hC0.below
        replace h_24 := h_24.gr hC
        replace hb_16 := hb_16.gr hC
        replace hst := hst.grow hC
        obtain ⟨xs_46, hz_45, hm⟩ := bind_some hm
        have hz_45 : xs_46 = h_21.set (Int.toNat i_25) e_36 := (Option.some.inj hz_45).symm
        refine l_store (x1 := e_36) (v := (.int .i64 e_36)) h_24 hj_39 rfl Try.sizeOf3 (rd_int .i64 e_36) rfl rfl (by decide) ?_
        intro w_41 hk_42 hs_43 h_44
        rw [← hz_45] at h_44
        replace hb_16 := hb_16.kp hk_42 (by decide)
        replace hst := hst.kp hk_42 hs_43 (by decide) (by decide)
        refine .ld (d := 46) (v := (.slice a_22 xs_46.length cap_23)) (congrArg (fun n => Value.slice a_22 n cap_23) (show h_21.length = xs_46.length by rw [hz_45, List.length_set])) ?_
        replace hb_16 : Box 155 440 col_34 w_41 g0 #[(.slice a_22 xs_46.length cap_23)] := by rw [← (show h_21.length = xs_46.length by rw [hz_45, List.length_set])]; exact hb_16
        clear h_24
        refine lnil ⟨fun w' => Grow col_34 w_41 col_34 w', Grow.refl _ _, fun h => absurd h (by decide), ?_⟩
        obtain ⟨e_47, hj_48, hm⟩ := bind_some hm
        refine xu (v := (sptr a_22 (Int.toNat (IntKind.i64.wrap (Int.tdiv (IntKind.i64.wrap (i_25 - 1)) 2)) * 1))) rfl rfl (fun _ => r_idx Try.underlying155 Try.sizeOf3 rfl rfl (at?_some hj_48).1 (at?_some hj_48).2.1 (h_44.addr hj_48)) ?_
        refine xe rfl rfl ?_
        intro w_49 hC0
        have hC : Grow col_34 w_41 col_34 w_49 := .of_below hC0.below
        replace h_44 := h_44.gr hC
        replace hb_16 := hb_16.gr hC
        replace hst := hst.grow hC
        obtain ⟨xs_55, hz_54, hm⟩ := bind_some hm
        have hz_54 : xs_55 = xs_46.set (Int.toNat (IntKind.i64.wrap (Int.tdiv (IntKind.i64.wrap (i_25 - 1)) 2))) e_38 := (Option.some.inj hz_54).symm
        refine l_store (x1 := e_38) (v := (.int .i64 e_38)) h_44 hj_48 rfl Try.sizeOf3 (rd_int .i64 e_38) rfl rfl (by decide) ?_
        intro w_50 hk_51 hs_52 h_53
        rw [← hz_54] at h_53
        replace hb_16 := hb_16.kp hk_51 (by decide)
        replace hst := hst.kp hk_51 hs_52 (by decide) (by decide)
        replace hb_16 : Box 155 440 col_34 w_50 g0 #[(.slice a_22 xs_55.length cap_23)] := by rw [← (show xs_46.length = xs_55.length by rw [hz_54, List.length_set])]; exact hb_16
        clear h_44
        refine lnil ⟨fun w' => Grow col_34 w_50 col_34 w', Grow.refl _ _, fun h => absurd h (by decide), ?_⟩
        refine xnil ?_
        intro w_56 hC
        replace hC : Grow col_34 w_50 col_34 w_56 := .of_below hC.below
        replace h_53 := h_53.gr hC
        replace hb_16 := hb_16.gr hC
        replace hst := hst.grow hC
        refine wregion ?_
        refine lv (v := (.int .i64 i_25)) rfl rfl (r_move rfl) ?_
        refine lv (v := (.int .i64 (IntKind.i64.wrap (i_25 - 1)))) rfl rfl (r_sub i_25 1 rfl rfl) ?_
        refine lv (v := (.int .i64 (IntKind.i64.wrap (Int.tdiv (IntKind.i64.wrap (i_25 - 1)) 2)))) rfl rfl (r_quo (IntKind.i64.wrap (i_25 - 1)) 2 rfl rfl (by decide)) ?_
        refine lv (v := (.int .i64 (IntKind.i64.wrap (Int.tdiv (IntKind.i64.wrap (i_25 - 1)) 2)))) rfl rfl (r_assign rfl) ?_
        refine lnil ?_
        exact ⟨n_18, by omega, ⟨col_34, a_22, cap_23, xs_55, (IntKind.i64.wrap (Int.tdiv (IntKind.i64.wrap (i_25 - 1)) 2)), n_18, rfl, hm, hst, h_53, hb_16, rfl, rfl, rfl⟩⟩
      · rw [if_neg (by rw [hb]; decide)] at hm
        clear hb
        refine wexit (inB_hit ?_)
        cases hm
        exact ⟨rfl, colFL w0.heap.size [qc0, qc0_1] col col_34 (fun n => bif Nat.beq n 441 then qc0_1 else bif Nat.beq n 440 then qc0 else 0), a_22, cap_23, rfl, hst.finL rfl (fun n => bif Nat.beq n 441 then qc0_1 else bif Nat.beq n 440 then qc0 else 0), hst.finOwnL (g := (fun n => bif Nat.beq n 441 then qc0_1 else bif Nat.beq n 440 then qc0 else 0)) rfl h_24 (by decide) (by decide) rfl, hst.finBoxL (g := (fun n => bif Nat.beq n 441 then qc0_1 else bif Nat.beq n 440 then qc0 else 0)) hb_16 (by decide) (by decide) rfl⟩
    · refine wquiet (col := col_20) (by kernel_rfl) (by kernel_rfl) ?_
      refine qv (v := (.int .i64 i_25)) rfl (fun _ hC => r_move rfl) ?_
      refine qv (v := (.bool (decide (0 < i_25)))) rfl (fun _ hC => r_gtr i_25 0 rfl rfl) ?_
      refine qv (v := (.bool (decide (0 < i_25)))) rfl (fun _ hC => r_move rfl) ?_
      by_cases hg_57 : (decide (0 < i_25)) = true
      · rw [if_pos hg_57] at hm
        refine qg (b := decide (0 < i_25)) 20 rfl rfl rfl (by rw [hg_57]; rfl) ?_
        refine qv (v := (.pointer (some ⟨g0, 0, none⟩))) rfl (fun _ hC => r_move rfl) ?_
        refine qg (b := decide (0 < i_25)) 20 rfl rfl rfl (by rw [hg_57]; rfl) ?_
        refine qv (v := (.pointer (some ⟨g0, 0, none⟩))) rfl (fun _ hC => r_nilCheck rfl) ?_
        refine qg (b := decide (0 < i_25)) 20 rfl rfl rfl (by rw [hg_57]; rfl) ?_
        refine qv (v := (.slice a_22 h_21.length cap_23)) rfl (fun _ hC => r_ld Try.isAgg155 rfl (hb_16.at1.gr (Grow.of_below (col := col_20) hC.below))) ?_
        refine qg (b := decide (0 < i_25)) 20 rfl rfl rfl (by rw [hg_57]; rfl) ?_
        refine qv (v := (.int .i64 i_25)) rfl (fun _ hC => r_move rfl) ?_
        refine qg (b := decide (0 < i_25)) 20 rfl rfl rfl (by rw [hg_57]; rfl) ?_
        obtain ⟨e_58, hj_59, hm⟩ := bind_some hm
        refine qv (v := (sptr a_22 (Int.toNat i_25 * 1))) rfl (fun _ hC => r_idx Try.underlying155 Try.sizeOf3 rfl rfl (at?_some hj_59).1 (at?_some hj_59).2.1 (h_24.addr hj_59)) ?_
        refine qg (b := decide (0 < i_25)) 20 rfl rfl rfl (by rw [hg_57]; rfl) ?_
        refine qv (v := (.int .i64 e_58)) rfl (fun _ hC => r_ld Try.isAgg3 rfl ((h_24.gr (Grow.of_below (col := col_20) hC.below)).atInt hj_59)) ?_
        refine qg (b := decide (0 < i_25)) 20 rfl rfl rfl (by rw [hg_57]; rfl) ?_
        refine qv (v := (.pointer (some ⟨g0, 0, none⟩))) rfl (fun _ hC => r_move rfl) ?_
        refine qg (b := decide (0 < i_25)) 20 rfl rfl rfl (by rw [hg_57]; rfl) ?_
        refine qv (v := (.pointer (some ⟨g0, 0, none⟩))) rfl (fun _ hC => r_nilCheck rfl) ?_
        refine qg (b := decide (0 < i_25)) 20 rfl rfl rfl (by rw [hg_57]; rfl) ?_
        refine qv (v := (.slice a_22 h_21.length cap_23)) rfl (fun _ hC => r_ld Try.isAgg155 rfl (hb_16.at1.gr (Grow.of_below (col := col_20) hC.below))) ?_
        refine qg (b := decide (0 < i_25)) 20 rfl rfl rfl (by rw [hg_57]; rfl) ?_
        refine qv (v := (.int .i64 i_25)) rfl (fun _ hC => r_move rfl) ?_
        refine qg (b := decide (0 < i_25)) 20 rfl rfl rfl (by rw [hg_57]; rfl) ?_
        refine qv (v := (.int .i64 (IntKind.i64.wrap (i_25 - 1)))) rfl (fun _ hC => r_sub i_25 1 rfl rfl) ?_
        refine qg (b := decide (0 < i_25)) 20 rfl rfl rfl (by rw [hg_57]; rfl) ?_
        refine qv (v := (.int .i64 (IntKind.i64.wrap (Int.tdiv (IntKind.i64.wrap (i_25 - 1)) 2)))) rfl (fun _ hC => r_quo (IntKind.i64.wrap (i_25 - 1)) 2 rfl rfl (by decide)) ?_
        refine qg (b := decide (0 < i_25)) 20 rfl rfl rfl (by rw [hg_57]; rfl) ?_
        obtain ⟨e_60, hj_61, hm⟩ := bind_some hm
        refine qv (v := (sptr a_22 (Int.toNat (IntKind.i64.wrap (Int.tdiv (IntKind.i64.wrap (i_25 - 1)) 2)) * 1))) rfl (fun _ hC => r_idx Try.underlying155 Try.sizeOf3 rfl rfl (at?_some hj_61).1 (at?_some hj_61).2.1 (h_24.addr hj_61)) ?_
        refine qg (b := decide (0 < i_25)) 20 rfl rfl rfl (by rw [hg_57]; rfl) ?_
        refine qv (v := (.int .i64 e_60)) rfl (fun _ hC => r_ld Try.isAgg3 rfl ((h_24.gr (Grow.of_below (col := col_20) hC.below)).atInt hj_61)) ?_
        refine qg (b := decide (0 < i_25)) 20 rfl rfl rfl (by rw [hg_57]; rfl) ?_
        refine qv (v := (.bool (decide (e_58 < e_60)))) rfl (fun _ hC => r_lss e_58 e_60 rfl rfl) ?_
        refine qv (v := (.bool (decide (e_58 < e_60)))) rfl (fun _ hC => r_pickT (congrArg Value.bool hg_57) rfl) ?_
        refine qnil ?_
        intro w_62 hC
        replace hC : Grow col_20 w_19 col_20 w_62 := .of_below hC.below
        replace h_24 := h_24.gr hC
        replace hb_16 := hb_16.gr hC
        replace hst := hst.grow hC
        exact ⟨col_20, (decide (e_58 < e_60)), hm, hst, h_24, hb_16, rfl, rfl, rfl, rfl⟩
      · rw [if_neg hg_57] at hm
        replace hg_57 := Bool.eq_false_iff.2 hg_57
        refine qp (b := decide (0 < i_25)) 20 rfl rfl rfl rfl (by rw [hg_57]; rfl) ?_
        refine qp (b := decide (0 < i_25)) 20 rfl rfl rfl rfl (by rw [hg_57]; rfl) ?_
        refine qp (b := decide (0 < i_25)) 20 rfl rfl rfl rfl (by rw [hg_57]; rfl) ?_
        refine qp (b := decide (0 < i_25)) 20 rfl rfl rfl rfl (by rw [hg_57]; rfl) ?_
        refine qp (b := decide (0 < i_25)) 20 rfl rfl rfl rfl (by rw [hg_57]; rfl) ?_
        refine qp (b := decide (0 < i_25)) 20 rfl rfl rfl rfl (by rw [hg_57]; rfl) ?_
        refine qp (b := decide (0 < i_25)) 20 rfl rfl rfl rfl (by rw [hg_57]; rfl) ?_
        refine qp (b := decide (0 < i_25)) 20 rfl rfl rfl rfl (by rw [hg_57]; rfl) ?_
        refine qp (b := decide (0 < i_25)) 20 rfl rfl rfl rfl (by rw [hg_57]; rfl) ?_
        refine qp (b := decide (0 < i_25)) 20 rfl rfl rfl rfl (by rw [hg_57]; rfl) ?_
        refine qp (b := decide (0 < i_25)) 20 rfl rfl rfl rfl (by rw [hg_57]; rfl) ?_
        refine qp (b := decide (0 < i_25)) 20 rfl rfl rfl rfl (by rw [hg_57]; rfl) ?_
        refine qp (b := decide (0 < i_25)) 20 rfl rfl rfl rfl (by rw [hg_57]; rfl) ?_
        refine qp (b := decide (0 < i_25)) 20 rfl rfl rfl rfl (by rw [hg_57]; rfl) ?_
        refine qp (b := decide (0 < i_25)) 20 rfl rfl rfl rfl (by rw [hg_57]; rfl) ?_
        refine qv (v := (.bool false)) rfl (fun _ hC => r_pickF (congrArg Value.bool hg_57) rfl) ?_
        refine qnil ?_
        intro w_63 hC
        replace hC : Grow col_20 w_19 col_20 w_63 := .of_below hC.below
        replace h_24 := h_24.gr hC
        replace hb_16 := hb_16.gr hC
        replace hst := hst.grow hC
        exact ⟨col_20, false, hm, hst, h_24, hb_16, rfl, rfl, rfl, rfl⟩



set_option maxRecDepth 100000 in
theorem el3_128 : ElemOk Try.prog 3 1 8 := ⟨Try.t3, _, rfl, rfl, rfl, rfl, rfl⟩

def m_dag_sorted_J1 (kk_L3 : ((List Int) → (List Int) → Option (List Int))) (left_85 : List Int) (ready_89 : List Int) : Option (List Int) :=
  kk_L3 left_85 ready_89

def m_dag_sorted_L3 (N : Nat) (out_37 : List Int) (kk_L2 : ((List Int) → (List Int) → (List Int) → Option (List Int))) (r_41 : (Int × (List Int))) : List Int → (List Int) → (List Int) → Option (List Int)
  | [], left_73, ready_77 => kk_L2 left_73 ready_77 (out_37 ++ [r_41.1])
  | x_81 :: l_82, left_73, ready_77 => (at? left_73 x_81).bind fun e_93 => (some (left_73.set (Int.toNat x_81) (IntKind.i64.wrap (e_93 - 1)))).bind fun xs_100 => (at? xs_100 x_81).bind fun e_101 => if (decide (e_101 = 0)) = true then ((m_dag_heap_push N ready_77 x_81).bind fun r_103 => m_dag_sorted_J1 (m_dag_sorted_L3 N out_37 kk_L2 r_41 l_82) xs_100 r_103) else (m_dag_sorted_J1 (m_dag_sorted_L3 N out_37 kk_L2 r_41 l_82) xs_100 ready_77)

def m_dag_sorted_L2 (N : Nat) (p1_down : (List (List Int))) : Nat → (List Int) → (List Int) → (List Int) → Option (List Int)
  | 0, _, _, _ => none
  | n_26 + 1, left_29, ready_33, out_37 => if (decide (0 < (ready_33.length : Int))) = true then ((m_dag_heap_pop N ready_33).bind fun r_41 => chk ((out_37.length + [r_41.1].length) * 8 ≤ 140737488355328 ∧ out_37.length + [r_41.1].length ≤ maxLen) ((at? p1_down r_41.1).bind fun e_62 => m_dag_sorted_L3 N out_37 (m_dag_sorted_L2 N p1_down n_26) r_41 e_62 left_29 r_41.2)) else (some out_37)

def m_dag_sorted_J2 (k_12 : Nat) (kk_L1 : (Nat → (List Int) → (List Int) → Option (List Int))) (left_114 : List Int) (ready_118 : List Int) : Option (List Int) :=
  kk_L1 (k_12 + 1) left_114 ready_118

def m_dag_sorted_L1 (N : Nat) (p1_down : (List (List Int))) : List (List Int) → Nat → (List Int) → (List Int) → Option (List Int)
  | [], k_12, left_16, ready_20 => m_dag_sorted_L2 N p1_down N left_16 ready_20 ([] : List Int)
  | x_24 :: l_25, k_12, left_16, ready_20 => (at? left_16 (k_12 : Int)).bind fun e_127 => (some (left_16.set (Int.toNat (k_12 : Int)) (x_24.length : Int))).bind fun xs_134 => if (decide ((x_24.length : Int) = 0)) = true then ((m_dag_heap_push N ready_20 (k_12 : Int)).bind fun r_135 => m_dag_sorted_J2 k_12 (m_dag_sorted_L1 N p1_down l_25) xs_134 r_135) else (m_dag_sorted_J2 k_12 (m_dag_sorted_L1 N p1_down l_25) xs_134 ready_20)

def m_dag_sorted (N : Nat) (p0_parents : (List (List Int))) (p1_down : (List (List Int))) : Option (List Int) :=
  chk (p0_parents.length * 8 ≤ 281474976710656 ∧ p0_parents.length ≤ maxLen) (m_dag_sorted_L1 N p1_down p0_parents 0 (List.replicate p0_parents.length (0 : Int)) ([] : List Int))

set_option maxRecDepth 100000 in
set_option maxHeartbeats 2000000 in
theorem c_dag_sorted (N : Nat) (c1 : Nat) (col : Col) (w0 : World) (a0 : Option Addr) (cap0 : Nat) (p0_parents : (List (List Int))) (a1 : Option Addr) (cap1 : Nat) (p1_down : (List (List Int))) (h0 : Sl (Rep.slice (Rep.int .i64)) col w0 a0 cap0 p0_parents) (h1 : Sl (Rep.slice (Rep.int .i64)) col w0 a1 cap1 p1_down) (r : (List Int)) (hm : m_dag_sorted N p0_parents p1_down = some r) :
    Calls Try.prog 128 #[(.slice a0 p0_parents.length cap0), (.slice a1 p1_down.length cap1)] w0 (fun e w' => ∃ (col' : Col) (ra1 : Option Addr) (rc2 : Nat), e = .returned ((.slice ra1 r.length rc2)) ∧ Grow col w0 col' w' ∧ Own (Rep.int .i64) 3 c1 col' w' ra1 rc2 r) := by
  refine calls_of1 4 (m := 66) (args := [(.slice a0 p0_parents.length cap0), (.slice a1 p1_down.length cap1)]) Try.func128 rfl rfl rfl rfl rfl ?_
  rw [m_dag_sorted.eq_1] at hm
  have hst := St.start col w0
  replace h0 := h0.keep (Stay.start col w0)
  replace h1 := h1.keep (Stay.start col w0)
  refine wseq ?_
  refine wregion ?_
  refine lv (v := (.slice none (([] : List Int).length) 0)) rfl rfl (r_assign rfl) ?_
  refine lnil ?_
  refine wseq ?_
  refine wregion ?_
  refine lv (v := (.slice a0 p0_parents.length cap0)) rfl rfl (r_move rfl) ?_
  refine lv (v := (.int .i64 (p0_parents.length : Int))) rfl rfl (r_len Try.underlying33 rfl) ?_
  obtain ⟨hb_1, hm⟩ := chk_some hm
  refine l_make (col := (col0 col)) (w := w0) (r := (Rep.int .i64)) (n := p0_parents.length) (x0 := 0) 1 rfl Try.underlying22 Try.t3 rfl rfl rfl rfl rfl rfl rfl hb_1.1 hb_1.2 (rd_int .i64 0) ?_
  intro a_2 w_3 col_4 hg_5 h_6
  replace h0 := h0.gr hg_5
  replace h1 := h1.gr hg_5
  replace hst := hst.grow hg_5
  refine lv (v := (.slice a_2 ((List.replicate p0_parents.length (0 : Int)).length) p0_parents.length)) rfl rfl (r_assign rfl) ?_
  refine lnil ?_
  refine wseq ?_
  refine wregion ?_
  refine l_alloc (col := col_4) (v := (.slice none (([] : List Int).length) 0)) 2 rfl Try.zeroValue155 ?_
  intro g_7 w_8 col_9 hg_10 hb_11
  replace h0 := h0.gr hg_10
  replace h1 := h1.gr hg_10
  replace h_6 := h_6.gr hg_10
  replace hst := hst.grow hg_10
  replace hb_11 : Box 155 2 col_9 w_8 g_7 #[(.slice none (([] : List Int).length) 0)] := hb_11
  refine lnil ?_
  refine wseq ?_
  refine wseq ?_
  refine wregion ?_
  refine lv (v := (.slice a0 p0_parents.length cap0)) rfl rfl (r_move rfl) ?_
  refine lv (v := (.int .i64 (p0_parents.length : Int))) rfl rfl (r_len Try.underlying33 rfl) ?_
  refine lv (v := (.int .i64 0)) rfl rfl (r_move rfl) ?_
  refine lnil ?_
  refine wblock ?_
  refine wloop (fun n f w_14 => ∃ (col_15 : Col) (k_12 : Nat) (a_17 : Option Addr) (cap_18 : Nat) (left_16 : List Int) (a_21 : Option Addr) (cap_22 : Nat) (ready_20 : List Int) (l_13 : List (List Int)), n = l_13.length ∧ p0_parents.drop k_12 = l_13 ∧ m_dag_sorted_L1 N p1_down l_13 k_12 left_16 ready_20 = some r ∧ St w0 (col0 col) col_15 w_14 ∧ Sl (Rep.slice (Rep.int .i64)) col_15 w_14 a1 cap1 p1_down ∧ Sl (Rep.slice (Rep.int .i64)) col_15 w_14 a0 cap0 p0_parents ∧ Own (Rep.int .i64) 3 1 col_15 w_14 a_17 cap_18 left_16 ∧ Own (Rep.int .i64) 3 3 col_15 w_14 a_21 cap_22 ready_20 ∧ Box 155 2 col_15 w_14 g_7 #[(.slice a_21 ready_20.length cap_22)] ∧ f 18 = (.int .i64 (k_12 : Int)) ∧ f 1 = (.slice a1 p1_down.length cap1) ∧ f 16 = (.slice a0 p0_parents.length cap0) ∧ f 17 = (.int .i64 (p0_parents.length : Int)) ∧ f 5 = (.slice a_17 left_16.length cap_18) ∧ f 6 = (.pointer (some ⟨g_7, 0, none⟩)) ∧ f 1000000 = (enc [])) p0_parents.length ⟨col_9, 0, a_2, p0_parents.length, (List.replicate p0_parents.length (0 : Int)), none, 0, ([] : List Int), p0_parents, rfl, rfl, hm, hst, h1, h0, h_6, Own.nil, hb_11, rfl, rfl, rfl, rfl, rfl, rfl, rfl⟩ ?_
  clear hm; intro n f w_14 hI
  obtain ⟨col_15, k_12, a_17, cap_18, left_16, a_21, cap_22, ready_20, l_13, hn, hl, hm, hst, h1, h0, h_19, h_23, hb_11, hs18, hs1, hs16, hs17, hs5, hs6, hs1000000⟩ := hI
  subst hn
  refine .ld (d := 18) (v := (.int .i64 (k_12 : Int))) hs18 ?_
  refine .ld (d := 1) (v := (.slice a1 p1_down.length cap1)) hs1 ?_
  refine .ld (d := 16) (v := (.slice a0 p0_parents.length cap0)) hs16 ?_
  refine .ld (d := 17) (v := (.int .i64 (p0_parents.length : Int))) hs17 ?_
  refine .ld (d := 5) (v := (.slice a_17 left_16.length cap_18)) hs5 ?_
  refine .ld (d := 6) (v := (.pointer (some ⟨g_7, 0, none⟩))) hs6 ?_
  refine .ld (d := 1000000) (v := (enc [])) hs1000000 ?_
  clear hs18 hs1 hs16 hs17 hs5 hs6 hs1000000
  cases l_13 with
  | nil =>
    have hk : ¬ ((k_12 : Int) < (p0_parents.length : Int)) := by have := List.drop_eq_nil_iff.1 hl; omega
    have hkb := decide_eq_false hk
    rw [m_dag_sorted_L1.eq_1] at hm
    refine wseq ?_
    refine wregion ?_
    refine lv (v := (.bool (decide ((k_12 : Int) < (p0_parents.length : Int))))) rfl rfl (r_lss (k_12 : Int) (p0_parents.length : Int) rfl rfl) ?_
    refine lnil ?_
    refine wseq ?_
    refine wcondF (congrArg Value.bool hkb) ?_
    refine wexit (inB_hit ?_)
    refine wseq ?_
    refine wregion ?_
    refine lv (v := (.slice none (([] : List Int).length) 0)) rfl rfl (r_assign rfl) ?_
    refine lnil ?_
    refine wseq ?_
    refine wblock ?_
    refine wloop (fun n f w_27 => ∃ (col_28 : Col) (a_30 : Option Addr) (cap_31 : Nat) (left_29 : List Int) (a_34 : Option Addr) (cap_35 : Nat) (ready_33 : List Int) (a_38 : Option Addr) (cap_39 : Nat) (out_37 : List Int) (n_26 : Nat), n_26 = n ∧ m_dag_sorted_L2 N p1_down n_26 left_29 ready_33 out_37 = some r ∧ St w0 (col0 col) col_28 w_27 ∧ Sl (Rep.slice (Rep.int .i64)) col_28 w_27 a1 cap1 p1_down ∧ Own (Rep.int .i64) 3 1 col_28 w_27 a_30 cap_31 left_29 ∧ Own (Rep.int .i64) 3 3 col_28 w_27 a_34 cap_35 ready_33 ∧ Box 155 2 col_28 w_27 g_7 #[(.slice a_34 ready_33.length cap_35)] ∧ Own (Rep.int .i64) 3 4 col_28 w_27 a_38 cap_39 out_37 ∧ f 1 = (.slice a1 p1_down.length cap1) ∧ f 5 = (.slice a_30 left_29.length cap_31) ∧ f 6 = (.pointer (some ⟨g_7, 0, none⟩)) ∧ f 9 = (.slice a_38 out_37.length cap_39) ∧ f 1000000 = (enc [])) N ⟨col_15, a_17, cap_18, left_16, a_21, cap_22, ready_20, none, 0, ([] : List Int), N, rfl, hm, hst, h1, h_19, h_23, hb_11, Own.nil, rfl, rfl, rfl, rfl, rfl⟩ ?_
    clear hm; intro n f w_27 hI
    obtain ⟨col_28, a_30, cap_31, left_29, a_34, cap_35, ready_33, a_38, cap_39, out_37, n_26, hn, hm, hst, h1, h_32, h_36, hb_11, h_40, hs1, hs5, hs6, hs9, hs1000000⟩ := hI
    subst hn
    refine .ld (d := 1) (v := (.slice a1 p1_down.length cap1)) hs1 ?_
    refine .ld (d := 5) (v := (.slice a_30 left_29.length cap_31)) hs5 ?_
    refine .ld (d := 6) (v := (.pointer (some ⟨g_7, 0, none⟩))) hs6 ?_
    refine .ld (d := 9) (v := (.slice a_38 out_37.length cap_39)) hs9 ?_
    refine .ld (d := 1000000) (v := (enc [])) hs1000000 ?_
    clear hs1 hs5 hs6 hs9 hs1000000
    cases n_26 with
    | zero => rw [m_dag_sorted_L2.eq_1] at hm; cases hm
    | succ n_26 =>
      rw [m_dag_sorted_L2.eq_2] at hm
      refine wseq ?_
      refine wseq ?_
      refine wregion ?_
      refine lv (v := (.slice a_34 ready_33.length cap_35)) rfl rfl (r_ld Try.isAgg155 rfl hb_11.at1) ?_
      refine lv (v := (.int .i64 (ready_33.length : Int))) rfl rfl (r_len Try.underlying155 rfl) ?_
      refine lv (v := (.bool (decide (0 < (ready_33.length : Int))))) rfl rfl (r_gtr (ready_33.length : Int) 0 rfl rfl) ?_
      refine lnil ?_
      refine wcond (decide (0 < (ready_33.length : Int))) rfl (fun hb => ?_) (fun hb => ?_)
      · rw [if_pos hb] at hm
        clear hb
        refine wskip ?_
        refine wblock ?_
        refine wseq ?_
        refine wregion ?_
        obtain ⟨r_41, hr_42, hm⟩ := bind_some hm
        refine lc rfl rfl (r_call1 Try.call138 rfl) (c_dag_heap_pop N col_28 _ 2 3 rfl g_7 ready_33 a_34 cap_35 h_36 hb_11 r_41 hr_42) ?_
        rintro _ w_47 ⟨col_49, oa_43, oc_44, rfl, hg_48, oh_45, ohb_46⟩
        refine ⟨_, rfl, ?_⟩
        replace h1 := h1.kpp hg_48 rfl
        replace h_32 := h_32.kpp hg_48 rfl rfl
        replace h_40 := h_40.kpp hg_48 rfl rfl
        replace hst := hst.kpp hg_48 rfl rfl
        clear h_36
        clear hb_11
        refine lv (v := (.int .i64 r_41.1)) rfl rfl (r_assign rfl) ?_
        refine lnil ?_
        refine wseq ?_
        refine wregion ?_
        refine lv (v := (.slice a_38 out_37.length cap_39)) rfl rfl (r_move rfl) ?_
        refine lv (v := (.int .i64 r_41.1)) rfl rfl (r_move rfl) ?_
        refine l_lit (col := col_49) (r := (Rep.int .i64)) (xs := [r_41.1]) [(.int .i64 r_41.1)] 5 rfl Try.underlying22 el3_128 rfl rfl rfl rfl rfl rfl (by intro v hv; simp only [List.mem_cons, List.not_mem_nil, or_false] at hv; subst hv; rfl) (RowsH.ofF (Rows.consF (r := (Rep.int .i64)) (x := r_41.1) (cs := [(.int .i64 r_41.1)]) (rd_int .i64 r_41.1) Rows.nil0)) ?_
        intro a_50 w_51 col_52 hg_53 h_54
        replace h1 := h1.gr hg_53
        replace h_32 := h_32.gr hg_53
        replace oh_45 := oh_45.gr hg_53
        replace h_40 := h_40.gr hg_53
        replace ohb_46 := ohb_46.gr hg_53
        replace hst := hst.grow hg_53
        obtain ⟨hb_55, hm⟩ := chk_some hm
        refine l_appendM (col := col_52) (w := w_51) (r := (Rep.int .i64)) (c := 4) (c2 := 4) (xs := out_37) (ys := [r_41.1]) h_40 (h_54.srcN (NB.int (k := .i64))) rfl Try.underlying22 el3_128 rfl rfl rfl hb_55.1 hb_55.2 (by decide) ?_
        intro a_56 cap_57 w_58 col_59 hk_60 h_61
        replace h1 := h1.kpp hk_60 rfl
        replace h_32 := h_32.kpp hk_60 rfl rfl
        replace oh_45 := oh_45.kpp hk_60 rfl rfl
        replace h_54 := h_54.kpp hk_60 rfl rfl
        replace ohb_46 := ohb_46.kpp hk_60 rfl
        replace hst := hst.kpp hk_60 rfl rfl
        clear h_40
        refine lv (v := (.slice a_56 ((out_37 ++ [r_41.1]).length) cap_57)) rfl rfl (r_assign rfl) ?_
        refine lnil ?_
        refine wseq ?_
        refine wregion ?_
        refine lv (v := (.slice a1 p1_down.length cap1)) rfl rfl (r_move rfl) ?_
        refine lv (v := (.int .i64 r_41.1)) rfl rfl (r_move rfl) ?_
        obtain ⟨e_62, hj_63, hm⟩ := bind_some hm
        refine lv (v := (sptr a1 (Int.toNat r_41.1 * 1))) rfl rfl (r_idx Try.underlying33 Try.sizeOf22 rfl rfl (at?_some hj_63).1 (at?_some hj_63).2.1 (h1.addr hj_63)) ?_
        obtain ⟨_, hr_64, hA_65⟩ := h1.atN hj_63
        obtain ⟨⟨a_66, cap_67, rfl, h_68⟩, _⟩ := hr_64
        refine lv (v := (.slice a_66 e_62.length cap_67)) rfl rfl (r_ld Try.isAgg22 rfl hA_65.one) ?_
        refine lv (v := (.int .i64 (e_62.length : Int))) rfl rfl (r_len Try.underlying22 rfl) ?_
        refine lv (v := (.int .i64 0)) rfl rfl (r_move rfl) ?_
        refine lnil ?_
        refine wblock ?_
        refine wloop (fun n f w_71 => ∃ (col_72 : Col) (k_69 : Nat) (a_74 : Option Addr) (cap_75 : Nat) (left_73 : List Int) (a_78 : Option Addr) (cap_79 : Nat) (ready_77 : List Int) (l_70 : List Int), n = l_70.length ∧ e_62.drop k_69 = l_70 ∧ m_dag_sorted_L3 N out_37 (m_dag_sorted_L2 N p1_down n_26) r_41 l_70 left_73 ready_77 = some r ∧ St w0 (col0 col) col_72 w_71 ∧ Sl (Rep.slice (Rep.int .i64)) col_72 w_71 a1 cap1 p1_down ∧ Sl (Rep.int .i64) col_72 w_71 a_66 cap_67 e_62 ∧ Own (Rep.int .i64) 3 1 col_72 w_71 a_74 cap_75 left_73 ∧ Own (Rep.int .i64) 3 3 col_72 w_71 a_78 cap_79 ready_77 ∧ Box 155 2 col_72 w_71 g_7 #[(.slice a_78 ready_77.length cap_79)] ∧ Own (Rep.int .i64) 3 4 col_72 w_71 a_56 cap_57 (out_37 ++ [r_41.1]) ∧ f 47 = (.int .i64 (k_69 : Int)) ∧ f 1 = (.slice a1 p1_down.length cap1) ∧ f 45 = (.slice a_66 e_62.length cap_67) ∧ f 46 = (.int .i64 (e_62.length : Int)) ∧ f 5 = (.slice a_74 left_73.length cap_75) ∧ f 6 = (.pointer (some ⟨g_7, 0, none⟩)) ∧ f 9 = (.slice a_56 ((out_37 ++ [r_41.1]).length) cap_57) ∧ f 1000000 = (enc [])) e_62.length ⟨col_59, 0, a_30, cap_31, left_29, oa_43, oc_44, r_41.2, e_62, rfl, rfl, hm, hst, h1, h_68, h_32, oh_45, ohb_46, h_61, rfl, rfl, rfl, rfl, rfl, rfl, rfl, rfl⟩ ?_
        clear hm; intro n f w_71 hI
        obtain ⟨col_72, k_69, a_74, cap_75, left_73, a_78, cap_79, ready_77, l_70, hn, hl, hm, hst, h1, h_68, h_76, h_80, ohb_46, h_61, hs47, hs1, hs45, hs46, hs5, hs6, hs9, hs1000000⟩ := hI
        subst hn
        refine .ld (d := 47) (v := (.int .i64 (k_69 : Int))) hs47 ?_
        refine .ld (d := 1) (v := (.slice a1 p1_down.length cap1)) hs1 ?_
        refine .ld (d := 45) (v := (.slice a_66 e_62.length cap_67)) hs45 ?_
        refine .ld (d := 46) (v := (.int .i64 (e_62.length : Int))) hs46 ?_
        refine .ld (d := 5) (v := (.slice a_74 left_73.length cap_75)) hs5 ?_
        refine .ld (d := 6) (v := (.pointer (some ⟨g_7, 0, none⟩))) hs6 ?_
        refine .ld (d := 9) (v := (.slice a_56 ((out_37 ++ [r_41.1]).length) cap_57)) hs9 ?_
        refine .ld (d := 1000000) (v := (enc [])) hs1000000 ?_
        clear hs47 hs1 hs45 hs46 hs5 hs6 hs9 hs1000000
        cases l_70 with
        | nil =>
          have hk : ¬ ((k_69 : Int) < (e_62.length : Int)) := by have := List.drop_eq_nil_iff.1 hl; omega
          have hkb := decide_eq_false hk
          rw [m_dag_sorted_L3.eq_1] at hm
          refine wseq ?_
          refine wregion ?_
          refine lv (v := (.bool (decide ((k_69 : Int) < (e_62.length : Int))))) rfl rfl (r_lss (k_69 : Int) (e_62.length : Int) rfl rfl) ?_
          refine lnil ?_
          refine wseq ?_
          refine wcondF (congrArg Value.bool hkb) ?_
          refine wexit (inB_hit ?_)
          exact ⟨n_26, by omega, ⟨col_72, a_74, cap_75, left_73, a_78, cap_79, ready_77, a_56, cap_57, (out_37 ++ [r_41.1]), n_26, rfl, hm, hst, h1, h_76, h_80, ohb_46, h_61, rfl, rfl, rfl, rfl, rfl⟩⟩
        | cons x_81 l_82 =>
          obtain ⟨hat, hl2, hlt⟩ := drop_get hl
          have hk : (k_69 : Int) < (e_62.length : Int) := by omega
          have hkb := decide_eq_true hk
          rw [m_dag_sorted_L3.eq_2] at hm
          refine wseq ?_
          refine wregion ?_
          refine lv (v := (.bool (decide ((k_69 : Int) < (e_62.length : Int))))) rfl rfl (r_lss (k_69 : Int) (e_62.length : Int) rfl rfl) ?_
          refine lnil ?_
          refine wseq ?_
          refine wcondT (congrArg Value.bool hkb) ?_
          refine wskip ?_
          refine wseq ?_
          refine Wp.cut (fun f w_83 => ∃ (col_84 : Col) (a_86 : Option Addr) (cap_87 : Nat) (left_85 : List Int) (a_90 : Option Addr) (cap_91 : Nat) (ready_89 : List Int), m_dag_sorted_J1 (m_dag_sorted_L3 N out_37 (m_dag_sorted_L2 N p1_down n_26) r_41 l_82) left_85 ready_89 = some r ∧ St w0 (col0 col) col_84 w_83 ∧ Sl (Rep.slice (Rep.int .i64)) col_84 w_83 a1 cap1 p1_down ∧ Sl (Rep.int .i64) col_84 w_83 a_66 cap_67 e_62 ∧ Own (Rep.int .i64) 3 1 col_84 w_83 a_86 cap_87 left_85 ∧ Own (Rep.int .i64) 3 3 col_84 w_83 a_90 cap_91 ready_89 ∧ Box 155 2 col_84 w_83 g_7 #[(.slice a_90 ready_89.length cap_91)] ∧ Own (Rep.int .i64) 3 4 col_84 w_83 a_56 cap_57 (out_37 ++ [r_41.1]) ∧ f 1 = (.slice a1 p1_down.length cap1) ∧ f 45 = (.slice a_66 e_62.length cap_67) ∧ f 46 = (.int .i64 (e_62.length : Int)) ∧ f 47 = (.int .i64 (k_69 : Int)) ∧ f 5 = (.slice a_86 left_85.length cap_87) ∧ f 6 = (.pointer (some ⟨g_7, 0, none⟩)) ∧ f 9 = (.slice a_56 ((out_37 ++ [r_41.1]).length) cap_57) ∧ f 1000000 = (enc [])) ?_ ?_
          · intro f w_83 hJ
            obtain ⟨col_84, a_86, cap_87, left_85, a_90, cap_91, ready_89, hm, hst, h1, h_68, h_88, h_92, ohb_46, h_61, hs1, hs45, hs46, hs47, hs5, hs6, hs9, hs1000000⟩ := hJ
            rw [m_dag_sorted_J1.eq_1] at hm
            refine .ld (d := 1) (v := (.slice a1 p1_down.length cap1)) hs1 ?_
            refine .ld (d := 45) (v := (.slice a_66 e_62.length cap_67)) hs45 ?_
            refine .ld (d := 46) (v := (.int .i64 (e_62.length : Int))) hs46 ?_
            refine .ld (d := 47) (v := (.int .i64 (k_69 : Int))) hs47 ?_
            refine .ld (d := 5) (v := (.slice a_86 left_85.length cap_87)) hs5 ?_
            refine .ld (d := 6) (v := (.pointer (some ⟨g_7, 0, none⟩))) hs6 ?_
            refine .ld (d := 9) (v := (.slice a_56 ((out_37 ++ [r_41.1]).length) cap_57)) hs9 ?_
            refine .ld (d := 1000000) (v := (enc [])) hs1000000 ?_
            clear hs1 hs45 hs46 hs47 hs5 hs6 hs9 hs1000000
            refine wregion ?_
            refine lv (v := (.int .i64 (IntKind.i64.wrap ((k_69 : Int) + 1)))) rfl rfl (r_add (k_69 : Int) 1 rfl rfl) ?_
            refine lv (v := (.int .i64 (IntKind.i64.wrap ((k_69 : Int) + 1)))) rfl rfl (r_move rfl) ?_
            refine lnil ?_
            exact ⟨l_82.length, by simp, ⟨col_84, (k_69 + 1), a_86, cap_87, left_85, a_90, cap_91, ready_89, l_82, rfl, hl2, hm, hst, h1, h_68, h_88, h_92, ohb_46, h_61, (congrArg (Value.int .i64) (wrap_succ (Nat.lt_of_lt_of_le hlt h_68.1.1))), rfl, rfl, rfl, rfl, rfl, rfl, rfl⟩⟩
          · refine wblock ?_
            refine wseq ?_
            refine wregion ?_
            refine lv (v := (sptr a_66 (Int.toNat (k_69 : Int) * 1))) rfl rfl (r_idx Try.underlying22 Try.sizeOf3 rfl rfl (at?_some hat).1 (at?_some hat).2.1 (h_68.addr hat)) ?_
            refine lv (v := (.int .i64 x_81)) rfl rfl (r_ld Try.isAgg3 rfl (h_68.atInt hat)) ?_
            refine lv (v := (.int .i64 x_81)) rfl rfl (r_assign rfl) ?_
            refine lnil ?_
            refine wseq ?_
            refine wregion ?_
            refine lv (v := (.slice a_74 left_73.length cap_75)) rfl rfl (r_move rfl) ?_
            refine lv (v := (.int .i64 x_81)) rfl rfl (r_move rfl) ?_
            obtain ⟨e_93, hj_94, hm⟩ := bind_some hm
            refine lv (v := (sptr a_74 (Int.toNat x_81 * 1))) rfl rfl (r_idx Try.underlying22 Try.sizeOf3 rfl rfl (at?_some hj_94).1 (at?_some hj_94).2.1 (h_76.addr hj_94)) ?_
            refine lv (v := (.int .i64 e_93)) rfl rfl (r_ld Try.isAgg3 rfl (h_76.atInt hj_94)) ?_
            refine lv (v := (.int .i64 (IntKind.i64.wrap (e_93 - 1)))) rfl rfl (r_sub e_93 1 rfl rfl) ?_
            refine lv (v := (sptr a_74 (Int.toNat x_81 * 1))) rfl rfl (r_idx Try.underlying22 Try.sizeOf3 rfl rfl (at?_some hj_94).1 (at?_some hj_94).2.1 (h_76.addr hj_94)) ?_
            obtain ⟨xs_100, hz_99, hm⟩ := bind_some hm
            have hz_99 : xs_100 = left_73.set (Int.toNat x_81) (IntKind.i64.wrap (e_93 - 1)) := (Option.some.inj hz_99).symm
            refine l_store (x1 := IntKind.i64.wrap (e_93 - 1)) (v := (.int .i64 (IntKind.i64.wrap (e_93 - 1)))) h_76 hj_94 rfl Try.sizeOf3 (rd_int .i64 (IntKind.i64.wrap (e_93 - 1))) rfl rfl (by decide) ?_
            intro w_95 hk_96 hs_97 h_98
            rw [← hz_99] at h_98
            replace h1 := h1.kp hk_96 (by decide)
            replace h_68 := h_68.kp hk_96 (by decide)
            replace h_80 := h_80.kp hk_96 (by decide) (by decide)
            replace h_61 := h_61.kp hk_96 (by decide) (by decide)
            replace ohb_46 := ohb_46.kp hk_96 (by decide)
            replace hst := hst.kp hk_96 hs_97 (by decide) (by decide)
            refine .ld (d := 5) (v := (.slice a_74 xs_100.length cap_75)) (congrArg (fun n => Value.slice a_74 n cap_75) (show left_73.length = xs_100.length by rw [hz_99, List.length_set])) ?_
            clear h_76
            refine lnil ?_
            refine wseq ?_
            refine wregion ?_
            refine lv (v := (.slice a_74 xs_100.length cap_75)) rfl rfl (r_move rfl) ?_
            refine lv (v := (.int .i64 x_81)) rfl rfl (r_move rfl) ?_
            obtain ⟨e_101, hj_102, hm⟩ := bind_some hm
            refine lv (v := (sptr a_74 (Int.toNat x_81 * 1))) rfl rfl (r_idx Try.underlying22 Try.sizeOf3 rfl rfl (at?_some hj_102).1 (at?_some hj_102).2.1 (h_98.addr hj_102)) ?_
            refine lv (v := (.int .i64 e_101)) rfl rfl (r_ld Try.isAgg3 rfl (h_98.atInt hj_102)) ?_
            refine lv (v := (.bool (decide (e_101 = 0)))) rfl rfl (r_eql e_101 0 rfl rfl) ?_
            refine lnil ?_
            refine wcond (decide (e_101 = 0)) rfl (fun hb => ?_) (fun hb => ?_)
            · rw [if_pos hb] at hm
              clear hb
              refine wregion ?_
              refine lv (v := (.int .i64 x_81)) rfl rfl (r_move rfl) ?_
              obtain ⟨r_103, hr_104, hm⟩ := bind_some hm
              refine lc rfl rfl (r_call2 Try.call137 rfl rfl) (c_dag_heap_push N col_72 _ 2 3 rfl g_7 ready_77 a_78 cap_79 x_81 h_80 ohb_46 r_103 hr_104) ?_
              rintro _ w_109 ⟨col_111, oa_105, oc_106, rfl, hg_110, oh_107, ohb_108⟩
              refine ⟨_, rfl, ?_⟩
              replace h1 := h1.kpp hg_110 rfl
              replace h_68 := h_68.kpp hg_110 rfl
              replace h_98 := h_98.kpp hg_110 rfl rfl
              replace h_61 := h_61.kpp hg_110 rfl rfl
              replace hst := hst.kpp hg_110 rfl rfl
              clear h_80
              clear ohb_46
              refine lnil ?_
              exact ⟨col_111, a_74, cap_75, xs_100, oa_105, oc_106, r_103, hm, hst, h1, h_68, h_98, oh_107, ohb_108, h_61, rfl, rfl, rfl, rfl, rfl, rfl, rfl, rfl⟩
            · rw [if_neg (by rw [hb]; decide)] at hm
              clear hb
              refine wskip ?_
              exact ⟨col_72, a_74, cap_75, xs_100, a_78, cap_79, ready_77, hm, hst, h1, h_68, h_98, h_80, ohb_46, h_61, rfl, rfl, rfl, rfl, rfl, rfl, rfl, rfl⟩
      · rw [if_neg (by rw [hb]; decide)] at hm
        clear hb
        refine wexit (inB_hit ?_)
        refine wseq ?_
        refine wregion ?_
        refine lv (v := (.slice a_38 out_37.length cap_39)) rfl rfl (r_move rfl) ?_
        refine lv (v := (.slice a_38 out_37.length cap_39)) rfl rfl (r_assign rfl) ?_
        refine lnil ?_
        refine wret ?_
        cases hm
        exact ⟨rfl, colF w0.heap.size col col_28 (fun n => bif Nat.beq n 4 then c1 else 0), a_38, cap_39, rfl, hst.fin (fun n => bif Nat.beq n 4 then c1 else 0), hst.finOwn (g := (fun n => bif Nat.beq n 4 then c1 else 0)) rfl h_40 (by decide) (by decide) rfl⟩
  | cons x_24 l_25 =>
    obtain ⟨hat, hl2, hlt⟩ := drop_get hl
    have hk : (k_12 : Int) < (p0_parents.length : Int) := by omega
    have hkb := decide_eq_true hk
    rw [m_dag_sorted_L1.eq_2] at hm
    refine wseq ?_
    refine wregion ?_
    refine lv (v := (.bool (decide ((k_12 : Int) < (p0_parents.length : Int))))) rfl rfl (r_lss (k_12 : Int) (p0_parents.length : Int) rfl rfl) ?_
    refine lnil ?_
    refine wseq ?_
    refine wcondT (congrArg Value.bool hkb) ?_
    refine wskip ?_
    refine wseq ?_
    refine Wp.cut (fun f w_112 => ∃ (col_113 : Col) (a_115 : Option Addr) (cap_116 : Nat) (left_114 : List Int) (a_119 : Option Addr) (cap_120 : Nat) (ready_118 : List Int), m_dag_sorted_J2 k_12 (m_dag_sorted_L1 N p1_down l_25) left_114 ready_118 = some r ∧ St w0 (col0 col) col_113 w_112 ∧ Sl (Rep.slice (Rep.int .i64)) col_113 w_112 a1 cap1 p1_down ∧ Sl (Rep.slice (Rep.int .i64)) col_113 w_112 a0 cap0 p0_parents ∧ Own (Rep.int .i64) 3 1 col_113 w_112 a_115 cap_116 left_114 ∧ Own (Rep.int .i64) 3 3 col_113 w_112 a_119 cap_120 ready_118 ∧ Box 155 2 col_113 w_112 g_7 #[(.slice a_119 ready_118.length cap_120)] ∧ f 1 = (.slice a1 p1_down.length cap1) ∧ f 16 = (.slice a0 p0_parents.length cap0) ∧ f 17 = (.int .i64 (p0_parents.length : Int)) ∧ f 18 = (.int .i64 (k_12 : Int)) ∧ f 5 = (.slice a_115 left_114.length cap_116) ∧ f 6 = (.pointer (some ⟨g_7, 0, none⟩)) ∧ f 1000000 = (enc [])) ?_ ?_
    · intro f w_112 hJ
      obtain ⟨col_113, a_115, cap_116, left_114, a_119, cap_120, ready_118, hm, hst, h1, h0, h_117, h_121, hb_11, hs1, hs16, hs17, hs18, hs5, hs6, hs1000000⟩ := hJ
      rw [m_dag_sorted_J2.eq_1] at hm
      refine .ld (d := 1) (v := (.slice a1 p1_down.length cap1)) hs1 ?_
      refine .ld (d := 16) (v := (.slice a0 p0_parents.length cap0)) hs16 ?_
      refine .ld (d := 17) (v := (.int .i64 (p0_parents.length : Int))) hs17 ?_
      refine .ld (d := 18) (v := (.int .i64 (k_12 : Int))) hs18 ?_
      refine .ld (d := 5) (v := (.slice a_115 left_114.length cap_116)) hs5 ?_
      refine .ld (d := 6) (v := (.pointer (some ⟨g_7, 0, none⟩))) hs6 ?_
      refine .ld (d := 1000000) (v := (enc [])) hs1000000 ?_
      clear hs1 hs16 hs17 hs18 hs5 hs6 hs1000000
      refine wregion ?_
      refine lv (v := (.int .i64 (IntKind.i64.wrap ((k_12 : Int) + 1)))) rfl rfl (r_add (k_12 : Int) 1 rfl rfl) ?_
      refine lv (v := (.int .i64 (IntKind.i64.wrap ((k_12 : Int) + 1)))) rfl rfl (r_move rfl) ?_
      refine lnil ?_
      exact ⟨l_25.length, by simp, ⟨col_113, (k_12 + 1), a_115, cap_116, left_114, a_119, cap_120, ready_118, l_25, rfl, hl2, hm, hst, h1, h0, h_117, h_121, hb_11, (congrArg (Value.int .i64) (wrap_succ (Nat.lt_of_lt_of_le hlt h0.1.1))), rfl, rfl, rfl, rfl, rfl, rfl⟩⟩
    · refine wblock ?_
      refine wseq ?_
      refine wregion ?_
      refine lv (v := (.int .i64 (k_12 : Int))) rfl rfl (r_move rfl) ?_
      refine lv (v := (sptr a0 (Int.toNat (k_12 : Int) * 1))) rfl rfl (r_idx Try.underlying33 Try.sizeOf22 rfl rfl (at?_some hat).1 (at?_some hat).2.1 (h0.addr hat)) ?_
      obtain ⟨_, hr_122, hA_123⟩ := h0.atN hat
      obtain ⟨⟨a_124, cap_125, rfl, h_126⟩, _⟩ := hr_122
      refine lv (v := (.slice a_124 x_24.length cap_125)) rfl rfl (r_ld Try.isAgg22 rfl hA_123.one) ?_
      refine lv (v := (.int .i64 (k_12 : Int))) rfl rfl (r_assign rfl) ?_
      refine lv (v := (.slice a_124 x_24.length cap_125)) rfl rfl (r_assign rfl) ?_
      refine lnil ?_
      refine wseq ?_
      refine wregion ?_
      refine lv (v := (.slice a_17 left_16.length cap_18)) rfl rfl (r_move rfl) ?_
      refine lv (v := (.int .i64 (k_12 : Int))) rfl rfl (r_move rfl) ?_
      refine lv (v := (.slice a_124 x_24.length cap_125)) rfl rfl (r_move rfl) ?_
      refine lv (v := (.int .i64 (x_24.length : Int))) rfl rfl (r_len Try.underlying22 rfl) ?_
      obtain ⟨e_127, hj_128, hm⟩ := bind_some hm
      refine lv (v := (sptr a_17 (Int.toNat (k_12 : Int) * 1))) rfl rfl (r_idx Try.underlying22 Try.sizeOf3 rfl rfl (at?_some hj_128).1 (at?_some hj_128).2.1 (h_19.addr hj_128)) ?_
      obtain ⟨xs_134, hz_133, hm⟩ := bind_some hm
      have hz_133 : xs_134 = left_16.set (Int.toNat (k_12 : Int)) (x_24.length : Int) := (Option.some.inj hz_133).symm
      refine l_store (x1 := (x_24.length : Int)) (v := (.int .i64 (x_24.length : Int))) h_19 hj_128 rfl Try.sizeOf3 (rd_int .i64 (x_24.length : Int)) rfl rfl (by decide) ?_
      intro w_129 hk_130 hs_131 h_132
      rw [← hz_133] at h_132
      replace h1 := h1.kp hk_130 (by decide)
      replace h0 := h0.kp hk_130 (by decide)
      replace h_23 := h_23.kp hk_130 (by decide) (by decide)
      replace h_126 := h_126.kp hk_130 (by decide)
      replace hb_11 := hb_11.kp hk_130 (by decide)
      replace hst := hst.kp hk_130 hs_131 (by decide) (by decide)
      refine .ld (d := 5) (v := (.slice a_17 xs_134.length cap_18)) (congrArg (fun n => Value.slice a_17 n cap_18) (show left_16.length = xs_134.length by rw [hz_133, List.length_set])) ?_
      clear h_19
      refine lnil ?_
      refine wseq ?_
      refine wregion ?_
      refine lv (v := (.slice a_124 x_24.length cap_125)) rfl rfl (r_move rfl) ?_
      refine lv (v := (.int .i64 (x_24.length : Int))) rfl rfl (r_len Try.underlying22 rfl) ?_
      refine lv (v := (.bool (decide ((x_24.length : Int) = 0)))) rfl rfl (r_eql (x_24.length : Int) 0 rfl rfl) ?_
      refine lnil ?_
      refine wcond (decide ((x_24.length : Int) = 0)) rfl (fun hb => ?_) (fun hb => ?_)
      · rw [if_pos hb] at hm
        clear hb
        refine wregion ?_
        refine lv (v := (.int .i64 (k_12 : Int))) rfl rfl (r_move rfl) ?_
        obtain ⟨r_135, hr_136, hm⟩ := bind_some hm
        refine lc rfl rfl (r_call2 Try.call137 rfl rfl) (c_dag_heap_push N col_15 _ 2 3 rfl g_7 ready_20 a_21 cap_22 (k_12 : Int) h_23 hb_11 r_135 hr_136) ?_
        rintro _ w_141 ⟨col_143, oa_137, oc_138, rfl, hg_142, oh_139, ohb_140⟩
        refine ⟨_, rfl, ?_⟩
        replace h1 := h1.kpp hg_142 rfl
        replace h0 := h0.kpp hg_142 rfl
        replace h_132 := h_132.kpp hg_142 rfl rfl
        replace hst := hst.kpp hg_142 rfl rfl
        clear h_23
        clear hb_11
        refine lnil ?_
        exact ⟨col_143, a_17, cap_18, xs_134, oa_137, oc_138, r_135, hm, hst, h1, h0, h_132, oh_139, ohb_140, rfl, rfl, rfl, rfl, rfl, rfl, rfl⟩
      · rw [if_neg (by rw [hb]; decide)] at hm
        clear hb
        refine wskip ?_
        exact ⟨col_15, a_17, cap_18, xs_134, a_21, cap_22, ready_20, hm, hst, h1, h0, h_132, h_23, hb_11, rfl, rfl, rfl, rfl, rfl, rfl, rfl⟩




def m_dag_Order (N : Nat) (p0_parents : (List (List Int))) : Option ((List Int) × Int) :=
  (m_dag_fits p0_parents).bind fun r_1 => if (!decide (r_1 = 0)) = true then (some (([] : List Int), r_1)) else ((m_dag_children p0_parents).bind fun r_5 => (m_dag_sorted N p0_parents r_5).bind fun r_13 => if (decide ((r_13.length : Int) < (p0_parents.length : Int))) = true then (some (([] : List Int), 42)) else (some (r_13, 0)))

set_option maxRecDepth 100000 in
set_option maxHeartbeats 2000000 in
theorem c_dag_Order (N : Nat) (c1 : Nat) (col : Col) (w0 : World) (a0 : Option Addr) (cap0 : Nat) (p0_parents : (List (List Int))) (h0 : Sl (Rep.slice (Rep.int .i64)) col w0 a0 cap0 p0_parents) (r : ((List Int) × Int)) (hm : m_dag_Order N p0_parents = some r) :
    Calls Try.prog 109 #[(.slice a0 p0_parents.length cap0)] w0 (fun e w' => ∃ (col' : Col) (ra1 : Option Addr) (rc2 : Nat), e = .returned (.tuple #[(.slice ra1 r.1.length rc2), (.int .i64 r.2)]) ∧ Grow col w0 col' w' ∧ Own (Rep.int .i64) 3 c1 col' w' ra1 rc2 r.1) := by
  refine calls_of2 2 3 (m := 21) (args := [(.slice a0 p0_parents.length cap0)]) Try.func109 rfl rfl rfl rfl rfl ?_
  rw [m_dag_Order.eq_1] at hm
  have hst := St.start col w0
  replace h0 := h0.keep (Stay.start col w0)
  refine wseq ?_
  refine wregion ?_
  refine lv (v := (.slice none (([] : List Int).length) 0)) rfl rfl (r_assign rfl) ?_
  refine lv (v := (.int .i64 0)) rfl rfl (r_assign rfl) ?_
  refine lnil ?_
  refine wseq ?_
  refine wseq ?_
  refine wregion ?_
  refine lv (v := (.slice a0 p0_parents.length cap0)) rfl rfl (r_move rfl) ?_
  obtain ⟨r_1, hr_2, hm⟩ := bind_some hm
  refine lc rfl rfl (r_call1 Try.call127 rfl) (c_dag_fits (col0 col) _ a0 cap0 p0_parents h0 r_1 hr_2) ?_
  rintro _ w_3 ⟨rfl, hg_4⟩
  refine ⟨_, rfl, ?_⟩
  replace hg_4 : Grow (col0 col) w0 (col0 col) w_3 := .of_below hg_4
  replace h0 := h0.gr hg_4
  replace hst := hst.grow hg_4
  refine lv (v := (.int .i64 r_1)) rfl rfl (r_assign rfl) ?_
  refine lnil ?_
  refine wseq ?_
  refine wregion ?_
  refine lv (v := (.int .i64 r_1)) rfl rfl (r_move rfl) ?_
  refine lv (v := (.bool (!decide (r_1 = 0)))) rfl rfl (r_neq r_1 0 rfl rfl) ?_
  refine lnil ?_
  refine wcond (!decide (r_1 = 0)) rfl (fun hb => ?_) (fun hb => ?_)
  · rw [if_pos hb] at hm
    clear hb
    refine wseq ?_
    refine wregion ?_
    refine lv (v := (.int .i64 r_1)) rfl rfl (r_move rfl) ?_
    refine lv (v := (.slice none (([] : List Int).length) 0)) rfl rfl (r_assign rfl) ?_
    refine lv (v := (.int .i64 r_1)) rfl rfl (r_assign rfl) ?_
    refine lnil ?_
    refine wret ?_
    cases hm
    exact ⟨rfl, colF w0.heap.size col (col0 col) (fun n => 0), none, 0, rfl, hst.fin (fun n => 0), Own.nil⟩
  · rw [if_neg (by rw [hb]; decide)] at hm
    clear hb
    refine wskip ?_
    refine wseq ?_
    refine wregion ?_
    refine lv (v := (.slice a0 p0_parents.length cap0)) rfl rfl (r_move rfl) ?_
    refine lv (v := (.slice a0 p0_parents.length cap0)) rfl rfl (r_move rfl) ?_
    obtain ⟨r_5, hr_6, hm⟩ := bind_some hm
    refine lc rfl rfl (r_call1 Try.call129 rfl) (c_dag_children 1 (col0 col) _ a0 cap0 p0_parents h0 r_5 hr_6) ?_
    rintro _ w_10 ⟨col_12, ra_7, rc_8, rfl, hg_11, rh_9⟩
    refine ⟨_, rfl, ?_⟩
    replace h0 := h0.gr hg_11
    replace hst := hst.grow hg_11
    obtain ⟨r_13, hr_14, hm⟩ := bind_some hm
    refine lc rfl rfl (r_call2 Try.call128 rfl rfl) (c_dag_sorted N 2 (frC 1 col_12) _ a0 cap0 p0_parents ra_7 rc_8 r_5 (h0.froz 1) (rh_9.toSlF (Froz.row (Froz.int .i64))) r_13 hr_14) ?_
    rintro _ w_18 ⟨col_20, ra_15, rc_16, rfl, hg_19, rh_17⟩
    refine ⟨_, rfl, ?_⟩
    replace rh_17 := rh_17.thaw (flat_int .i64) hg_19 ((Fz.refl (col := col_12)).froz 1) (by decide)
    replace hg_19 := hg_19.thawR (col := col_12)
    generalize colR w_10.heap.size col_12 col_20 = col_21 at *
    replace h0 := h0.gr hg_19
    replace rh_9 := rh_9.gr hg_19
    replace hst := hst.grow hg_19
    refine lv (v := (.slice ra_15 r_13.length rc_16)) rfl rfl (r_assign rfl) ?_
    refine lnil ?_
    refine wseq ?_
    refine wseq ?_
    refine wregion ?_
    refine lv (v := (.slice ra_15 r_13.length rc_16)) rfl rfl (r_move rfl) ?_
    refine lv (v := (.int .i64 (r_13.length : Int))) rfl rfl (r_len Try.underlying22 rfl) ?_
    refine lv (v := (.slice a0 p0_parents.length cap0)) rfl rfl (r_move rfl) ?_
    refine lv (v := (.int .i64 (p0_parents.length : Int))) rfl rfl (r_len Try.underlying33 rfl) ?_
    refine lv (v := (.bool (decide ((r_13.length : Int) < (p0_parents.length : Int))))) rfl rfl (r_lss (r_13.length : Int) (p0_parents.length : Int) rfl rfl) ?_
    refine lnil ?_
    refine wcond (decide ((r_13.length : Int) < (p0_parents.length : Int))) rfl (fun hb => ?_) (fun hb => ?_)
    · rw [if_pos hb] at hm
      clear hb
      refine wseq ?_
      refine wregion ?_
      refine lv (v := (.slice none (([] : List Int).length) 0)) rfl rfl (r_assign rfl) ?_
      refine lv (v := (.int .i64 42)) rfl rfl (r_assign rfl) ?_
      refine lnil ?_
      refine wret ?_
      cases hm
      exact ⟨rfl, colF w0.heap.size col col_21 (fun n => 0), none, 0, rfl, hst.fin (fun n => 0), Own.nil⟩
    · rw [if_neg (by rw [hb]; decide)] at hm
      clear hb
      refine wskip ?_
      refine wseq ?_
      refine wregion ?_
      refine lv (v := (.slice ra_15 r_13.length rc_16)) rfl rfl (r_move rfl) ?_
      refine lv (v := (.slice ra_15 r_13.length rc_16)) rfl rfl (r_assign rfl) ?_
      refine lv (v := (.int .i64 0)) rfl rfl (r_assign rfl) ?_
      refine lnil ?_
      refine wret ?_
      cases hm
      exact ⟨rfl, colF w0.heap.size col col_21 (fun n => bif Nat.beq n 2 then c1 else 0), ra_15, rc_16, rfl, hst.fin (fun n => bif Nat.beq n 2 then c1 else 0), hst.finOwn (g := (fun n => bif Nat.beq n 2 then c1 else 0)) rfl rh_17 (by decide) (by decide) rfl⟩




def m_dag_Check (N : Nat) (p0_parents : (List (List Int))) : Option Int :=
  (m_dag_Order N p0_parents).bind fun r_1 => some r_1.2

set_option maxRecDepth 100000 in
set_option maxHeartbeats 2000000 in
theorem c_dag_Check (N : Nat) (col : Col) (w0 : World) (a0 : Option Addr) (cap0 : Nat) (p0_parents : (List (List Int))) (h0 : Sl (Rep.slice (Rep.int .i64)) col w0 a0 cap0 p0_parents) (r : Int) (hm : m_dag_Check N p0_parents = some r) :
    Calls Try.prog 84 #[(.slice a0 p0_parents.length cap0)] w0 (fun e w' => e = .returned ((.int .i64 r)) ∧ Below w0.heap.size w0 w') := by
  refine calls_of1 2 (m := 11) (args := [(.slice a0 p0_parents.length cap0)]) Try.func84 rfl rfl rfl rfl rfl ?_
  rw [m_dag_Check.eq_1] at hm
  have hst := St.start col w0
  replace h0 := h0.keep (Stay.start col w0)
  refine wseq ?_
  refine wregion ?_
  refine lv (v := (.int .i64 0)) rfl rfl (r_assign rfl) ?_
  refine lnil ?_
  refine wseq ?_
  refine wregion ?_
  refine lv (v := (.slice a0 p0_parents.length cap0)) rfl rfl (r_move rfl) ?_
  obtain ⟨r_1, hr_2, hm⟩ := bind_some hm
  refine lc rfl rfl (r_call1 Try.call109 rfl) (c_dag_Order N 1 (col0 col) _ a0 cap0 p0_parents h0 r_1 hr_2) ?_
  rintro _ w_6 ⟨col_8, ra_3, rc_4, rfl, hg_7, rh_5⟩
  refine ⟨_, rfl, ?_⟩
  replace h0 := h0.gr hg_7
  replace hst := hst.grow hg_7
  refine lv (v := (.tuple #[(.slice ra_3 r_1.1.length rc_4), (.int .i64 r_1.2)])) rfl rfl (r_move rfl) ?_
  refine lv (v := (.slice ra_3 r_1.1.length rc_4)) rfl rfl (r_extract rfl rfl) ?_
  refine lv (v := (.int .i64 r_1.2)) rfl rfl (r_extract rfl rfl) ?_
  refine lv (v := (.slice ra_3 r_1.1.length rc_4)) rfl rfl (r_assign rfl) ?_
  refine lv (v := (.int .i64 r_1.2)) rfl rfl (r_assign rfl) ?_
  refine lnil ?_
  refine wseq ?_
  refine wregion ?_
  refine lv (v := (.int .i64 r_1.2)) rfl rfl (r_move rfl) ?_
  refine lv (v := (.int .i64 r_1.2)) rfl rfl (r_assign rfl) ?_
  refine lnil ?_
  refine wret ?_
  cases hm
  exact ⟨rfl, rfl, hst.below⟩




def m_graph_Moral_L2 (k_16 : Nat) (kk_L1 : (Nat → Option ((Option (List (List Bool))) × Int))) : List Int → Nat → Option ((Option (List (List Bool))) × Int)
  | [], k_27 => kk_L1 (k_16 + 1)
  | x_31 :: l_32, k_27 => none

def m_graph_Moral_L1  : List (List Int) → Nat → Option ((Option (List (List Bool))) × Int)
  | [], k_16 => some (none, 0)
  | x_20 :: l_21, k_16 => m_graph_Moral_L2 k_16 (m_graph_Moral_L1 l_21) x_20 0

def m_graph_Moral_L5 (k_46 : Nat) (kk_L4 : (Nat → (List (List Bool)) → Option ((Option (List (List Bool))) × Int))) (x_52 : Int) : List Int → (List (List Bool)) → Option ((Option (List (List Bool))) × Int)
  | [], g_65 => kk_L4 (k_46 + 1) g_65
  | x_67 :: l_68, g_65 => (m_graph_Graph_Join g_65 x_52 x_67).bind fun r_69 => (m_graph_Moral_L5 k_46 kk_L4 x_52 l_68) r_69.2

def m_graph_Moral_L4 (k_33 : Nat) (kk_L3 : (Nat → (List (List Bool)) → Option ((Option (List (List Bool))) × Int))) (x_39 : (List Int)) : List Int → Nat → (List (List Bool)) → Option ((Option (List (List Bool))) × Int)
  | [], k_46, g_50 => kk_L3 (k_33 + 1) g_50
  | x_52 :: l_53, k_46, g_50 => (m_graph_Graph_Join g_50 (k_33 : Int) x_52).bind fun r_54 => chk ((0 : Int) ≤ (k_46 : Int) ∧ (k_46 : Int) ≤ (x_39.length : Int)) (m_graph_Moral_L5 k_46 (m_graph_Moral_L4 k_33 kk_L3 x_39 l_53) x_52 (x_39.take (Int.toNat (k_46 : Int))) r_54.2)

def m_graph_Moral_L3  : List (List Int) → Nat → (List (List Bool)) → Option ((Option (List (List Bool))) × Int)
  | [], k_33, g_37 => some ((some g_37), 0)
  | x_39 :: l_40, k_33, g_37 => m_graph_Moral_L4 k_33 (m_graph_Moral_L3 l_40) x_39 x_39 0 g_37

def m_graph_Moral (N : Nat) (p0_parents : (List (List Int))) : Option ((Option (List (List Bool))) × Int) :=
  if (decide (1024 < (p0_parents.length : Int))) = true then (some (none, 3)) else ((m_dag_Check N p0_parents).bind fun r_1 => if (!decide (r_1 = 0)) = true then (some (none, r_1)) else ((m_graph_New (p0_parents.length : Int)).bind fun r_5 => optC (r_5.1) (m_graph_Moral_L1 p0_parents 0) (fun t_12 => m_graph_Moral_L3 p0_parents 0 t_12)))

set_option maxRecDepth 100000 in
set_option maxHeartbeats 2000000 in
theorem c_graph_Moral (N : Nat) (c1 : Nat) (col : Col) (w0 : World) (a0 : Option Addr) (cap0 : Nat) (p0_parents : (List (List Int))) (h0 : Sl (Rep.slice (Rep.int .i64)) col w0 a0 cap0 p0_parents) (r : ((Option (List (List Bool))) × Int)) (hm : m_graph_Moral N p0_parents = some r) :
    Calls Try.prog 50 #[(.slice a0 p0_parents.length cap0)] w0 (fun e w' => ∃ (col' : Col) (rv1 : Value), e = .returned (.tuple #[rv1, (.int .i64 r.2)]) ∧ Grow col w0 col' w' ∧ optP rv1 r.1 (fun (d : List (List Bool)) => ∃ (o9 : GObj), rv1 = .pointer (some ⟨o9.g, 0, none⟩) ∧ GO 85 86 c1 col' w' o9 d)) := by
  refine calls_of2 2 3 (m := 61) (args := [(.slice a0 p0_parents.length cap0)]) Try.func50 rfl rfl rfl rfl rfl ?_
  rw [m_graph_Moral.eq_1] at hm
  have hst := St.start col w0
  replace h0 := h0.keep (Stay.start col w0)
  refine wseq ?_
  refine wregion ?_
  refine lv (v := (.pointer none)) rfl rfl (r_assign rfl) ?_
  refine lv (v := (.int .i64 0)) rfl rfl (r_assign rfl) ?_
  refine lnil ?_
  refine wseq ?_
  refine wseq ?_
  refine wregion ?_
  refine lv (v := (.slice a0 p0_parents.length cap0)) rfl rfl (r_move rfl) ?_
  refine lv (v := (.int .i64 (p0_parents.length : Int))) rfl rfl (r_len Try.underlying33 rfl) ?_
  refine lv (v := (.bool (decide (1024 < (p0_parents.length : Int))))) rfl rfl (r_gtr (p0_parents.length : Int) 1024 rfl rfl) ?_
  refine lnil ?_
  refine wcond (decide (1024 < (p0_parents.length : Int))) rfl (fun hb => ?_) (fun hb => ?_)
  · rw [if_pos hb] at hm
    clear hb
    refine wseq ?_
    refine wregion ?_
    refine lv (v := (.pointer none)) rfl rfl (r_assign rfl) ?_
    refine lv (v := (.int .i64 3)) rfl rfl (r_assign rfl) ?_
    refine lnil ?_
    refine wret ?_
    cases hm
    exact ⟨rfl, colF w0.heap.size col (col0 col) (fun n => 0), (.pointer none), rfl, hst.fin (fun n => 0), optP_no⟩
  · rw [if_neg (by rw [hb]; decide)] at hm
    clear hb
    refine wskip ?_
    refine wseq ?_
    refine wseq ?_
    refine wregion ?_
    refine lv (v := (.slice a0 p0_parents.length cap0)) rfl rfl (r_move rfl) ?_
    obtain ⟨r_1, hr_2, hm⟩ := bind_some hm
    refine lc rfl rfl (r_call1 Try.call84 rfl) (c_dag_Check N (col0 col) _ a0 cap0 p0_parents h0 r_1 hr_2) ?_
    rintro _ w_3 ⟨rfl, hg_4⟩
    refine ⟨_, rfl, ?_⟩
    replace hg_4 : Grow (col0 col) w0 (col0 col) w_3 := .of_below hg_4
    replace h0 := h0.gr hg_4
    replace hst := hst.grow hg_4
    refine lv (v := (.int .i64 r_1)) rfl rfl (r_assign rfl) ?_
    refine lnil ?_
    refine wseq ?_
    refine wregion ?_
    refine lv (v := (.int .i64 r_1)) rfl rfl (r_move rfl) ?_
    refine lv (v := (.bool (!decide (r_1 = 0)))) rfl rfl (r_neq r_1 0 rfl rfl) ?_
    refine lnil ?_
    refine wcond (!decide (r_1 = 0)) rfl (fun hb => ?_) (fun hb => ?_)
    · rw [if_pos hb] at hm
      clear hb
      refine wseq ?_
      refine wregion ?_
      refine lv (v := (.int .i64 r_1)) rfl rfl (r_move rfl) ?_
      refine lv (v := (.pointer none)) rfl rfl (r_assign rfl) ?_
      refine lv (v := (.int .i64 r_1)) rfl rfl (r_assign rfl) ?_
      refine lnil ?_
      refine wret ?_
      cases hm
      exact ⟨rfl, colF w0.heap.size col (col0 col) (fun n => 0), (.pointer none), rfl, hst.fin (fun n => 0), optP_no⟩
    · rw [if_neg (by rw [hb]; decide)] at hm
      clear hb
      refine wskip ?_
      refine wseq ?_
      refine wregion ?_
      refine lv (v := (.slice a0 p0_parents.length cap0)) rfl rfl (r_move rfl) ?_
      refine lv (v := (.int .i64 (p0_parents.length : Int))) rfl rfl (r_len Try.underlying33 rfl) ?_
      obtain ⟨r_5, hr_6, hm⟩ := bind_some hm
      refine lc rfl rfl (r_call1 Try.call51 rfl) (c_graph_New 1 (col0 col) _ (p0_parents.length : Int) r_5 hr_6) ?_
      rintro _ w_9 ⟨col_11, rv_7, rfl, hg_10, rh_8⟩
      refine ⟨_, rfl, ?_⟩
      replace h0 := h0.gr hg_10
      replace hst := hst.grow hg_10
      cases hx_13 : r_5.1 with
      | none =>
        rw [hx_13] at hm rh_8
        replace hm := optC_none hm
        obtain rfl := optP_none rh_8
        clear rh_8
        refine lv (v := (.tuple #[(.pointer none), (.int .i64 r_5.2)])) rfl rfl (r_move rfl) ?_
        refine lv (v := (.pointer none)) rfl rfl (r_extract rfl rfl) ?_
        refine lv (v := (.int .i64 r_5.2)) rfl rfl (r_extract rfl rfl) ?_
        refine lv (v := (.pointer none)) rfl rfl (r_assign rfl) ?_
        refine lv (v := (.int .i64 r_5.2)) rfl rfl (r_assign rfl) ?_
        refine lnil ?_
        refine wseq ?_
        refine wseq ?_
        refine wregion ?_
        refine lv (v := (.slice a0 p0_parents.length cap0)) rfl rfl (r_move rfl) ?_
        refine lv (v := (.int .i64 (p0_parents.length : Int))) rfl rfl (r_len Try.underlying33 rfl) ?_
        refine lv (v := (.int .i64 0)) rfl rfl (r_move rfl) ?_
        refine lnil ?_
        refine wblock ?_
        refine wloop (fun n f w_18 => ∃ (col_19 : Col) (k_16 : Nat) (l_17 : List (List Int)), n = l_17.length ∧ p0_parents.drop k_16 = l_17 ∧ m_graph_Moral_L1 l_17 k_16 = some r ∧ St w0 (col0 col) col_19 w_18 ∧ Sl (Rep.slice (Rep.int .i64)) col_19 w_18 a0 cap0 p0_parents ∧ f 29 = (.int .i64 (k_16 : Int)) ∧ f 27 = (.slice a0 p0_parents.length cap0) ∧ f 28 = (.int .i64 (p0_parents.length : Int)) ∧ f 5 = (.pointer none) ∧ f 1000000 = (enc [])) p0_parents.length ⟨col_11, 0, p0_parents, rfl, rfl, hm, hst, h0, rfl, rfl, rfl, rfl, rfl⟩ ?_
        clear hm; intro n f w_18 hI
        obtain ⟨col_19, k_16, l_17, hn, hl, hm, hst, h0, hs29, hs27, hs28, hs5, hs1000000⟩ := hI
        subst hn
        refine .ld (d := 29) (v := (.int .i64 (k_16 : Int))) hs29 ?_
        refine .ld (d := 27) (v := (.slice a0 p0_parents.length cap0)) hs27 ?_
        refine .ld (d := 28) (v := (.int .i64 (p0_parents.length : Int))) hs28 ?_
        refine .ld (d := 5) (v := (.pointer none)) hs5 ?_
        refine .ld (d := 1000000) (v := (enc [])) hs1000000 ?_
        clear hs29 hs27 hs28 hs5 hs1000000
        cases l_17 with
        | nil =>
          have hk : ¬ ((k_16 : Int) < (p0_parents.length : Int)) := by have := List.drop_eq_nil_iff.1 hl; omega
          have hkb := decide_eq_false hk
          rw [m_graph_Moral_L1.eq_1] at hm
          refine wseq ?_
          refine wregion ?_
          refine lv (v := (.bool (decide ((k_16 : Int) < (p0_parents.length : Int))))) rfl rfl (r_lss (k_16 : Int) (p0_parents.length : Int) rfl rfl) ?_
          refine lnil ?_
          refine wseq ?_
          refine wcondF (congrArg Value.bool hkb) ?_
          refine wexit (inB_hit ?_)
          refine wseq ?_
          refine wregion ?_
          refine lv (v := (.pointer none)) rfl rfl (r_move rfl) ?_
          refine lv (v := (.pointer none)) rfl rfl (r_assign rfl) ?_
          refine lv (v := (.int .i64 0)) rfl rfl (r_assign rfl) ?_
          refine lnil ?_
          refine wret ?_
          cases hm
          exact ⟨rfl, colF w0.heap.size col col_19 (fun n => 0), (.pointer none), rfl, hst.fin (fun n => 0), optP_no⟩
        | cons x_20 l_21 =>
          obtain ⟨hat, hl2, hlt⟩ := drop_get hl
          have hk : (k_16 : Int) < (p0_parents.length : Int) := by omega
          have hkb := decide_eq_true hk
          rw [m_graph_Moral_L1.eq_2] at hm
          refine wseq ?_
          refine wregion ?_
          refine lv (v := (.bool (decide ((k_16 : Int) < (p0_parents.length : Int))))) rfl rfl (r_lss (k_16 : Int) (p0_parents.length : Int) rfl rfl) ?_
          refine lnil ?_
          refine wseq ?_
          refine wcondT (congrArg Value.bool hkb) ?_
          refine wskip ?_
          refine wseq ?_
          refine wblock ?_
          refine wseq ?_
          refine wregion ?_
          refine lv (v := (.int .i64 (k_16 : Int))) rfl rfl (r_move rfl) ?_
          refine lv (v := (sptr a0 (Int.toNat (k_16 : Int) * 1))) rfl rfl (r_idx Try.underlying33 Try.sizeOf22 rfl rfl (at?_some hat).1 (at?_some hat).2.1 (h0.addr hat)) ?_
          obtain ⟨_, hr_22, hA_23⟩ := h0.atN hat
          obtain ⟨⟨a_24, cap_25, rfl, h_26⟩, _⟩ := hr_22
          refine lv (v := (.slice a_24 x_20.length cap_25)) rfl rfl (r_ld Try.isAgg22 rfl hA_23.one) ?_
          refine lv (v := (.int .i64 (k_16 : Int))) rfl rfl (r_assign rfl) ?_
          refine lv (v := (.slice a_24 x_20.length cap_25)) rfl rfl (r_assign rfl) ?_
          refine lnil ?_
          refine wseq ?_
          refine wregion ?_
          refine lv (v := (.slice a_24 x_20.length cap_25)) rfl rfl (r_move rfl) ?_
          refine lv (v := (.int .i64 (x_20.length : Int))) rfl rfl (r_len Try.underlying22 rfl) ?_
          refine lv (v := (.int .i64 0)) rfl rfl (r_move rfl) ?_
          refine lnil ?_
          refine wblock ?_
          refine wloop (fun n f w_29 => ∃ (col_30 : Col) (k_27 : Nat) (l_28 : List Int), n = l_28.length ∧ x_20.drop k_27 = l_28 ∧ m_graph_Moral_L2 k_16 (m_graph_Moral_L1 l_21) l_28 k_27 = some r ∧ St w0 (col0 col) col_30 w_29 ∧ Sl (Rep.slice (Rep.int .i64)) col_30 w_29 a0 cap0 p0_parents ∧ Sl (Rep.int .i64) col_30 w_29 a_24 cap_25 x_20 ∧ f 36 = (.int .i64 (k_27 : Int)) ∧ f 27 = (.slice a0 p0_parents.length cap0) ∧ f 28 = (.int .i64 (p0_parents.length : Int)) ∧ f 29 = (.int .i64 (k_16 : Int)) ∧ f 34 = (.slice a_24 x_20.length cap_25) ∧ f 35 = (.int .i64 (x_20.length : Int)) ∧ f 5 = (.pointer none) ∧ f 7 = (.int .i64 (k_16 : Int)) ∧ f 8 = (.slice a_24 x_20.length cap_25) ∧ f 1000000 = (enc [])) x_20.length ⟨col_19, 0, x_20, rfl, rfl, hm, hst, h0, h_26, rfl, rfl, rfl, rfl, rfl, rfl, rfl, rfl, rfl, rfl⟩ ?_
          clear hm; intro n f w_29 hI
          obtain ⟨col_30, k_27, l_28, hn, hl, hm, hst, h0, h_26, hs36, hs27, hs28, hs29, hs34, hs35, hs5, hs7, hs8, hs1000000⟩ := hI
          subst hn
          refine .ld (d := 36) (v := (.int .i64 (k_27 : Int))) hs36 ?_
          refine .ld (d := 27) (v := (.slice a0 p0_parents.length cap0)) hs27 ?_
          refine .ld (d := 28) (v := (.int .i64 (p0_parents.length : Int))) hs28 ?_
          refine .ld (d := 29) (v := (.int .i64 (k_16 : Int))) hs29 ?_
          refine .ld (d := 34) (v := (.slice a_24 x_20.length cap_25)) hs34 ?_
          refine .ld (d := 35) (v := (.int .i64 (x_20.length : Int))) hs35 ?_
          refine .ld (d := 5) (v := (.pointer none)) hs5 ?_
          refine .ld (d := 7) (v := (.int .i64 (k_16 : Int))) hs7 ?_
          refine .ld (d := 8) (v := (.slice a_24 x_20.length cap_25)) hs8 ?_
          refine .ld (d := 1000000) (v := (enc [])) hs1000000 ?_
          clear hs36 hs27 hs28 hs29 hs34 hs35 hs5 hs7 hs8 hs1000000
          cases l_28 with
          | nil =>
            have hk : ¬ ((k_27 : Int) < (x_20.length : Int)) := by have := List.drop_eq_nil_iff.1 hl; omega
            have hkb := decide_eq_false hk
            rw [m_graph_Moral_L2.eq_1] at hm
            refine wseq ?_
            refine wregion ?_
            refine lv (v := (.bool (decide ((k_27 : Int) < (x_20.length : Int))))) rfl rfl (r_lss (k_27 : Int) (x_20.length : Int) rfl rfl) ?_
            refine lnil ?_
            refine wseq ?_
            refine wcondF (congrArg Value.bool hkb) ?_
            refine wexit (inB_hit ?_)
            refine wregion ?_
            refine lv (v := (.int .i64 (IntKind.i64.wrap ((k_16 : Int) + 1)))) rfl rfl (r_add (k_16 : Int) 1 rfl rfl) ?_
            refine lv (v := (.int .i64 (IntKind.i64.wrap ((k_16 : Int) + 1)))) rfl rfl (r_move rfl) ?_
            refine lnil ?_
            exact ⟨l_21.length, by simp, ⟨col_30, (k_16 + 1), l_21, rfl, hl2, hm, hst, h0, (congrArg (Value.int .i64) (wrap_succ (Nat.lt_of_lt_of_le hlt h0.1.1))), rfl, rfl, rfl, rfl⟩⟩
          | cons x_31 l_32 =>
            obtain ⟨hat, hl2, hlt⟩ := drop_get hl
            have hk : (k_27 : Int) < (x_20.length : Int) := by omega
            have hkb := decide_eq_true hk
            rw [m_graph_Moral_L2.eq_2] at hm
            refine wseq ?_
            refine wregion ?_
            refine lv (v := (.bool (decide ((k_27 : Int) < (x_20.length : Int))))) rfl rfl (r_lss (k_27 : Int) (x_20.length : Int) rfl rfl) ?_
            refine lnil ?_
            refine wseq ?_
            refine wcondT (congrArg Value.bool hkb) ?_
            refine wskip ?_
            refine wseq ?_
            refine wblock ?_
            refine wseq ?_
            refine wregion ?_
            refine lv (v := (.int .i64 (k_27 : Int))) rfl rfl (r_move rfl) ?_
            refine lv (v := (sptr a_24 (Int.toNat (k_27 : Int) * 1))) rfl rfl (r_idx Try.underlying22 Try.sizeOf3 rfl rfl (at?_some hat).1 (at?_some hat).2.1 (h_26.addr hat)) ?_
            refine lv (v := (.int .i64 x_31)) rfl rfl (r_ld Try.isAgg3 rfl (h_26.atInt hat)) ?_
            refine lv (v := (.int .i64 (k_27 : Int))) rfl rfl (r_assign rfl) ?_
            refine lv (v := (.int .i64 x_31)) rfl rfl (r_assign rfl) ?_
            refine lnil ?_
            refine wseq ?_
            refine wregion ?_
            refine lv (v := (.pointer none)) rfl rfl (r_move rfl) ?_
            refine lv (v := (.int .i64 (k_16 : Int))) rfl rfl (r_move rfl) ?_
            refine lv (v := (.int .i64 x_31)) rfl rfl (r_move rfl) ?_
            cases hm
      | some t_12 =>
        rw [hx_13] at hm rh_8
        replace hm := optC_some hm
        obtain ⟨o_14, rfl, hG_15⟩ := optP_some rh_8
        refine lv (v := (.tuple #[(.pointer (some ⟨o_14.g, 0, none⟩)), (.int .i64 r_5.2)])) rfl rfl (r_move rfl) ?_
        refine lv (v := (.pointer (some ⟨o_14.g, 0, none⟩))) rfl rfl (r_extract rfl rfl) ?_
        refine lv (v := (.int .i64 r_5.2)) rfl rfl (r_extract rfl rfl) ?_
        refine lv (v := (.pointer (some ⟨o_14.g, 0, none⟩))) rfl rfl (r_assign rfl) ?_
        refine lv (v := (.int .i64 r_5.2)) rfl rfl (r_assign rfl) ?_
        refine lnil ?_
        refine wseq ?_
        refine wseq ?_
        refine wregion ?_
        refine lv (v := (.slice a0 p0_parents.length cap0)) rfl rfl (r_move rfl) ?_
        refine lv (v := (.int .i64 (p0_parents.length : Int))) rfl rfl (r_len Try.underlying33 rfl) ?_
        refine lv (v := (.int .i64 0)) rfl rfl (r_move rfl) ?_
        refine lnil ?_
        refine wblock ?_
        refine wloop (fun n f w_35 => ∃ (col_36 : Col) (k_33 : Nat) (g_37 : List (List Bool)) (l_34 : List (List Int)), n = l_34.length ∧ p0_parents.drop k_33 = l_34 ∧ m_graph_Moral_L3 l_34 k_33 g_37 = some r ∧ St w0 (col0 col) col_36 w_35 ∧ Sl (Rep.slice (Rep.int .i64)) col_36 w_35 a0 cap0 p0_parents ∧ GO 85 86 1 col_36 w_35 o_14 g_37 ∧ f 29 = (.int .i64 (k_33 : Int)) ∧ f 27 = (.slice a0 p0_parents.length cap0) ∧ f 28 = (.int .i64 (p0_parents.length : Int)) ∧ f 5 = (.pointer (some ⟨o_14.g, 0, none⟩)) ∧ f 1000000 = (enc [])) p0_parents.length ⟨col_11, 0, t_12, p0_parents, rfl, rfl, hm, hst, h0, hG_15, rfl, rfl, rfl, rfl, rfl⟩ ?_
        clear hm; intro n f w_35 hI
        obtain ⟨col_36, k_33, g_37, l_34, hn, hl, hm, hst, h0, h_38, hs29, hs27, hs28, hs5, hs1000000⟩ := hI
        subst hn
        refine .ld (d := 29) (v := (.int .i64 (k_33 : Int))) hs29 ?_
        refine .ld (d := 27) (v := (.slice a0 p0_parents.length cap0)) hs27 ?_
        refine .ld (d := 28) (v := (.int .i64 (p0_parents.length : Int))) hs28 ?_
        refine .ld (d := 5) (v := (.pointer (some ⟨o_14.g, 0, none⟩))) hs5 ?_
        refine .ld (d := 1000000) (v := (enc [])) hs1000000 ?_
        clear hs29 hs27 hs28 hs5 hs1000000
        cases l_34 with
        | nil =>
          have hk : ¬ ((k_33 : Int) < (p0_parents.length : Int)) := by have := List.drop_eq_nil_iff.1 hl; omega
          have hkb := decide_eq_false hk
          rw [m_graph_Moral_L3.eq_1] at hm
          refine wseq ?_
          refine wregion ?_
          refine lv (v := (.bool (decide ((k_33 : Int) < (p0_parents.length : Int))))) rfl rfl (r_lss (k_33 : Int) (p0_parents.length : Int) rfl rfl) ?_
          refine lnil ?_
          refine wseq ?_
          refine wcondF (congrArg Value.bool hkb) ?_
          refine wexit (inB_hit ?_)
          refine wseq ?_
          refine wregion ?_
          refine lv (v := (.pointer (some ⟨o_14.g, 0, none⟩))) rfl rfl (r_move rfl) ?_
          refine lv (v := (.pointer (some ⟨o_14.g, 0, none⟩))) rfl rfl (r_assign rfl) ?_
          refine lv (v := (.int .i64 0)) rfl rfl (r_assign rfl) ?_
          refine lnil ?_
          refine wret ?_
          cases hm
          exact ⟨rfl, colF w0.heap.size col col_36 (fun n => bif Nat.beq n 1 then c1 else 0), (.pointer (some ⟨o_14.g, 0, none⟩)), rfl, hst.fin (fun n => bif Nat.beq n 1 then c1 else 0), optP_of ⟨_, rfl, hst.finGO (G := (fun n => bif Nat.beq n 1 then c1 else 0)) rfl h_38 (by decide) (by decide) rfl⟩⟩
        | cons x_39 l_40 =>
          obtain ⟨hat, hl2, hlt⟩ := drop_get hl
          have hk : (k_33 : Int) < (p0_parents.length : Int) := by omega
          have hkb := decide_eq_true hk
          rw [m_graph_Moral_L3.eq_2] at hm
          refine wseq ?_
          refine wregion ?_
          refine lv (v := (.bool (decide ((k_33 : Int) < (p0_parents.length : Int))))) rfl rfl (r_lss (k_33 : Int) (p0_parents.length : Int) rfl rfl) ?_
          refine lnil ?_
          refine wseq ?_
          refine wcondT (congrArg Value.bool hkb) ?_
          refine wskip ?_
          refine wseq ?_
          refine wblock ?_
          refine wseq ?_
          refine wregion ?_
          refine lv (v := (.int .i64 (k_33 : Int))) rfl rfl (r_move rfl) ?_
          refine lv (v := (sptr a0 (Int.toNat (k_33 : Int) * 1))) rfl rfl (r_idx Try.underlying33 Try.sizeOf22 rfl rfl (at?_some hat).1 (at?_some hat).2.1 (h0.addr hat)) ?_
          obtain ⟨_, hr_41, hA_42⟩ := h0.atN hat
          obtain ⟨⟨a_43, cap_44, rfl, h_45⟩, _⟩ := hr_41
          refine lv (v := (.slice a_43 x_39.length cap_44)) rfl rfl (r_ld Try.isAgg22 rfl hA_42.one) ?_
          refine lv (v := (.int .i64 (k_33 : Int))) rfl rfl (r_assign rfl) ?_
          refine lv (v := (.slice a_43 x_39.length cap_44)) rfl rfl (r_assign rfl) ?_
          refine lnil ?_
          refine wseq ?_
          refine wregion ?_
          refine lv (v := (.slice a_43 x_39.length cap_44)) rfl rfl (r_move rfl) ?_
          refine lv (v := (.int .i64 (x_39.length : Int))) rfl rfl (r_len Try.underlying22 rfl) ?_
          refine lv (v := (.int .i64 0)) rfl rfl (r_move rfl) ?_
          refine lnil ?_
          refine wblock ?_
          refine wloop (fun n f w_48 => ∃ (col_49 : Col) (k_46 : Nat) (g_50 : List (List Bool)) (l_47 : List Int), n = l_47.length ∧ x_39.drop k_46 = l_47 ∧ m_graph_Moral_L4 k_33 (m_graph_Moral_L3 l_40) x_39 l_47 k_46 g_50 = some r ∧ St w0 (col0 col) col_49 w_48 ∧ Sl (Rep.slice (Rep.int .i64)) col_49 w_48 a0 cap0 p0_parents ∧ Sl (Rep.int .i64) col_49 w_48 a_43 cap_44 x_39 ∧ GO 85 86 1 col_49 w_48 o_14 g_50 ∧ f 36 = (.int .i64 (k_46 : Int)) ∧ f 27 = (.slice a0 p0_parents.length cap0) ∧ f 28 = (.int .i64 (p0_parents.length : Int)) ∧ f 29 = (.int .i64 (k_33 : Int)) ∧ f 34 = (.slice a_43 x_39.length cap_44) ∧ f 35 = (.int .i64 (x_39.length : Int)) ∧ f 5 = (.pointer (some ⟨o_14.g, 0, none⟩)) ∧ f 7 = (.int .i64 (k_33 : Int)) ∧ f 8 = (.slice a_43 x_39.length cap_44) ∧ f 1000000 = (enc [])) x_39.length ⟨col_36, 0, g_37, x_39, rfl, rfl, hm, hst, h0, h_45, h_38, rfl, rfl, rfl, rfl, rfl, rfl, rfl, rfl, rfl, rfl⟩ ?_
          clear hm; intro n f w_48 hI
          obtain ⟨col_49, k_46, g_50, l_47, hn, hl, hm, hst, h0, h_45, h_51, hs36, hs27, hs28, hs29, hs34, hs35, hs5, hs7, hs8, hs1000000⟩ := hI
          subst hn
          refine .ld (d := 36) (v := (.int .i64 (k_46 : Int))) hs36 ?_
          refine .ld (d := 27) (v := (.slice a0 p0_parents.length cap0)) hs27 ?_
          refine .ld (d := 28) (v := (.int .i64 (p0_parents.length : Int))) hs28 ?_
          refine .ld (d := 29) (v := (.int .i64 (k_33 : Int))) hs29 ?_
          refine .ld (d := 34) (v := (.slice a_43 x_39.length cap_44)) hs34 ?_
          refine .ld (d := 35) (v := (.int .i64 (x_39.length : Int))) hs35 ?_
          refine .ld (d := 5) (v := (.pointer (some ⟨o_14.g, 0, none⟩))) hs5 ?_
          refine .ld (d := 7) (v := (.int .i64 (k_33 : Int))) hs7 ?_
          refine .ld (d := 8) (v := (.slice a_43 x_39.length cap_44)) hs8 ?_
          refine .ld (d := 1000000) (v := (enc [])) hs1000000 ?_
          clear hs36 hs27 hs28 hs29 hs34 hs35 hs5 hs7 hs8 hs1000000
          cases l_47 with
          | nil =>
            have hk : ¬ ((k_46 : Int) < (x_39.length : Int)) := by have := List.drop_eq_nil_iff.1 hl; omega
            have hkb := decide_eq_false hk
            rw [m_graph_Moral_L4.eq_1] at hm
            refine wseq ?_
            refine wregion ?_
            refine lv (v := (.bool (decide ((k_46 : Int) < (x_39.length : Int))))) rfl rfl (r_lss (k_46 : Int) (x_39.length : Int) rfl rfl) ?_
            refine lnil ?_
            refine wseq ?_
            refine wcondF (congrArg Value.bool hkb) ?_
            refine wexit (inB_hit ?_)
            refine wregion ?_
            refine lv (v := (.int .i64 (IntKind.i64.wrap ((k_33 : Int) + 1)))) rfl rfl (r_add (k_33 : Int) 1 rfl rfl) ?_
            refine lv (v := (.int .i64 (IntKind.i64.wrap ((k_33 : Int) + 1)))) rfl rfl (r_move rfl) ?_
            refine lnil ?_
            exact ⟨l_40.length, by simp, ⟨col_49, (k_33 + 1), g_50, l_40, rfl, hl2, hm, hst, h0, h_51, (congrArg (Value.int .i64) (wrap_succ (Nat.lt_of_lt_of_le hlt h0.1.1))), rfl, rfl, rfl, rfl⟩⟩
          | cons x_52 l_53 =>
            obtain ⟨hat, hl2, hlt⟩ := drop_get hl
            have hk : (k_46 : Int) < (x_39.length : Int) := by omega
            have hkb := decide_eq_true hk
            rw [m_graph_Moral_L4.eq_2] at hm
            refine wseq ?_
            refine wregion ?_
            refine lv (v := (.bool (decide ((k_46 : Int) < (x_39.length : Int))))) rfl rfl (r_lss (k_46 : Int) (x_39.length : Int) rfl rfl) ?_
            refine lnil ?_
            refine wseq ?_
            refine wcondT (congrArg Value.bool hkb) ?_
            refine wskip ?_
            refine wseq ?_
            refine wblock ?_
            refine wseq ?_
            refine wregion ?_
            refine lv (v := (.int .i64 (k_46 : Int))) rfl rfl (r_move rfl) ?_
            refine lv (v := (sptr a_43 (Int.toNat (k_46 : Int) * 1))) rfl rfl (r_idx Try.underlying22 Try.sizeOf3 rfl rfl (at?_some hat).1 (at?_some hat).2.1 (h_45.addr hat)) ?_
            refine lv (v := (.int .i64 x_52)) rfl rfl (r_ld Try.isAgg3 rfl (h_45.atInt hat)) ?_
            refine lv (v := (.int .i64 (k_46 : Int))) rfl rfl (r_assign rfl) ?_
            refine lv (v := (.int .i64 x_52)) rfl rfl (r_assign rfl) ?_
            refine lnil ?_
            refine wseq ?_
            refine wregion ?_
            refine lv (v := (.pointer (some ⟨o_14.g, 0, none⟩))) rfl rfl (r_move rfl) ?_
            refine lv (v := (.int .i64 (k_33 : Int))) rfl rfl (r_move rfl) ?_
            refine lv (v := (.int .i64 x_52)) rfl rfl (r_move rfl) ?_
            obtain ⟨r_54, hr_55, hm⟩ := bind_some hm
            refine lc rfl rfl (r_call3 Try.call23 rfl rfl rfl) (c_graph_Graph_Join col_49 _ 1 rfl o_14 g_50 (k_33 : Int) x_52 h_51 r_54 hr_55) ?_
            rintro _ w_57 ⟨col_59, rfl, hg_58, oh_56⟩
            refine ⟨_, rfl, ?_⟩
            replace h0 := h0.kpp hg_58 rfl
            replace h_45 := h_45.kpp hg_58 rfl
            replace hst := hst.kpp hg_58 rfl rfl
            clear h_51
            refine lnil ?_
            refine wseq ?_
            refine wregion ?_
            refine lv (v := (.slice a_43 x_39.length cap_44)) rfl rfl (r_move rfl) ?_
            refine lv (v := (.int .i64 (k_46 : Int))) rfl rfl (r_move rfl) ?_
            obtain ⟨hb_60, hm⟩ := chk_some hm
            refine lv (v := .slice a_43 (Int.toNat (k_46 : Int)) cap_44) rfl rfl (r_sliceH Try.underlying22 Try.sizeOf3 rfl rfl hb_60.1 (by have := h_45.1.2; have := hb_60.2; omega)) ?_
            refine .ld (d := 47) (v := (.slice a_43 ((x_39.take (Int.toNat (k_46 : Int))).length) cap_44)) (congrArg (fun n => Value.slice a_43 n cap_44) (List.length_take_of_le (show (Int.toNat (k_46 : Int)) ≤ x_39.length by have := hb_60.2; omega)).symm) ?_
            refine lv (v := (.int .i64 ((x_39.take (Int.toNat (k_46 : Int))).length : Int))) rfl rfl (r_len Try.underlying22 rfl) ?_
            refine lv (v := (.int .i64 0)) rfl rfl (r_move rfl) ?_
            refine lnil ?_
            refine wblock ?_
            refine wloop (fun n f w_63 => ∃ (col_64 : Col) (k_61 : Nat) (g_65 : List (List Bool)) (l_62 : List Int), n = l_62.length ∧ (x_39.take (Int.toNat (k_46 : Int))).drop k_61 = l_62 ∧ m_graph_Moral_L5 k_46 (m_graph_Moral_L4 k_33 (m_graph_Moral_L3 l_40) x_39 l_53) x_52 l_62 g_65 = some r ∧ St w0 (col0 col) col_64 w_63 ∧ Sl (Rep.slice (Rep.int .i64)) col_64 w_63 a0 cap0 p0_parents ∧ Sl (Rep.int .i64) col_64 w_63 a_43 cap_44 x_39 ∧ GO 85 86 1 col_64 w_63 o_14 g_65 ∧ f 49 = (.int .i64 (k_61 : Int)) ∧ f 10 = (.int .i64 x_52) ∧ f 27 = (.slice a0 p0_parents.length cap0) ∧ f 28 = (.int .i64 (p0_parents.length : Int)) ∧ f 29 = (.int .i64 (k_33 : Int)) ∧ f 34 = (.slice a_43 x_39.length cap_44) ∧ f 35 = (.int .i64 (x_39.length : Int)) ∧ f 36 = (.int .i64 (k_46 : Int)) ∧ f 47 = (.slice a_43 ((x_39.take (Int.toNat (k_46 : Int))).length) cap_44) ∧ f 48 = (.int .i64 ((x_39.take (Int.toNat (k_46 : Int))).length : Int)) ∧ f 5 = (.pointer (some ⟨o_14.g, 0, none⟩)) ∧ f 7 = (.int .i64 (k_33 : Int)) ∧ f 8 = (.slice a_43 x_39.length cap_44) ∧ f 1000000 = (enc [])) (x_39.take (Int.toNat (k_46 : Int))).length ⟨col_59, 0, r_54.2, (x_39.take (Int.toNat (k_46 : Int))), rfl, rfl, hm, hst, h0, h_45, oh_56, rfl, rfl, rfl, rfl, rfl, rfl, rfl, rfl, rfl, rfl, rfl, rfl, rfl, rfl⟩ ?_
            clear hm; intro n f w_63 hI
            obtain ⟨col_64, k_61, g_65, l_62, hn, hl, hm, hst, h0, h_45, h_66, hs49, hs10, hs27, hs28, hs29, hs34, hs35, hs36, hs47, hs48, hs5, hs7, hs8, hs1000000⟩ := hI
            subst hn
            refine .ld (d := 49) (v := (.int .i64 (k_61 : Int))) hs49 ?_
            refine .ld (d := 10) (v := (.int .i64 x_52)) hs10 ?_
            refine .ld (d := 27) (v := (.slice a0 p0_parents.length cap0)) hs27 ?_
            refine .ld (d := 28) (v := (.int .i64 (p0_parents.length : Int))) hs28 ?_
            refine .ld (d := 29) (v := (.int .i64 (k_33 : Int))) hs29 ?_
            refine .ld (d := 34) (v := (.slice a_43 x_39.length cap_44)) hs34 ?_
            refine .ld (d := 35) (v := (.int .i64 (x_39.length : Int))) hs35 ?_
            refine .ld (d := 36) (v := (.int .i64 (k_46 : Int))) hs36 ?_
            refine .ld (d := 47) (v := (.slice a_43 ((x_39.take (Int.toNat (k_46 : Int))).length) cap_44)) hs47 ?_
            refine .ld (d := 48) (v := (.int .i64 ((x_39.take (Int.toNat (k_46 : Int))).length : Int))) hs48 ?_
            refine .ld (d := 5) (v := (.pointer (some ⟨o_14.g, 0, none⟩))) hs5 ?_
            refine .ld (d := 7) (v := (.int .i64 (k_33 : Int))) hs7 ?_
            refine .ld (d := 8) (v := (.slice a_43 x_39.length cap_44)) hs8 ?_
            refine .ld (d := 1000000) (v := (enc [])) hs1000000 ?_
            clear hs49 hs10 hs27 hs28 hs29 hs34 hs35 hs36 hs47 hs48 hs5 hs7 hs8 hs1000000
            cases l_62 with
            | nil =>
              have hk : ¬ ((k_61 : Int) < ((x_39.take (Int.toNat (k_46 : Int))).length : Int)) := by have := List.drop_eq_nil_iff.1 hl; omega
              have hkb := decide_eq_false hk
              rw [m_graph_Moral_L5.eq_1] at hm
              refine wseq ?_
              refine wregion ?_
              refine lv (v := (.bool (decide ((k_61 : Int) < ((x_39.take (Int.toNat (k_46 : Int))).length : Int))))) rfl rfl (r_lss (k_61 : Int) ((x_39.take (Int.toNat (k_46 : Int))).length : Int) rfl rfl) ?_
              refine lnil ?_
              refine wseq ?_
              refine wcondF (congrArg Value.bool hkb) ?_
              refine wexit (inB_hit ?_)
              refine wregion ?_
              refine lv (v := (.int .i64 (IntKind.i64.wrap ((k_46 : Int) + 1)))) rfl rfl (r_add (k_46 : Int) 1 rfl rfl) ?_
              refine lv (v := (.int .i64 (IntKind.i64.wrap ((k_46 : Int) + 1)))) rfl rfl (r_move rfl) ?_
              refine lnil ?_
              exact ⟨l_53.length, by simp, ⟨col_64, (k_46 + 1), g_65, l_53, rfl, hl2, hm, hst, h0, h_45, h_66, (congrArg (Value.int .i64) (wrap_succ (Nat.lt_of_lt_of_le hlt h_45.1.1))), rfl, rfl, rfl, rfl, rfl, rfl, rfl, rfl, rfl⟩⟩
            | cons x_67 l_68 =>
              obtain ⟨hat, hl2, hlt⟩ := drop_get hl
              have hk : (k_61 : Int) < ((x_39.take (Int.toNat (k_46 : Int))).length : Int) := by omega
              have hkb := decide_eq_true hk
              rw [m_graph_Moral_L5.eq_2] at hm
              refine wseq ?_
              refine wregion ?_
              refine lv (v := (.bool (decide ((k_61 : Int) < ((x_39.take (Int.toNat (k_46 : Int))).length : Int))))) rfl rfl (r_lss (k_61 : Int) ((x_39.take (Int.toNat (k_46 : Int))).length : Int) rfl rfl) ?_
              refine lnil ?_
              refine wseq ?_
              refine wcondT (congrArg Value.bool hkb) ?_
              refine wskip ?_
              refine wseq ?_
              refine wblock ?_
              refine wseq ?_
              refine wregion ?_
              refine lv (v := (sptr a_43 (Int.toNat (k_61 : Int) * 1))) rfl rfl (r_idx Try.underlying22 Try.sizeOf3 rfl rfl (at?_some hat).1 (at?_some hat).2.1 ((h_45.take (Int.toNat (k_46 : Int))).addr hat)) ?_
              refine lv (v := (.int .i64 x_67)) rfl rfl (r_ld Try.isAgg3 rfl ((h_45.take (Int.toNat (k_46 : Int))).atInt hat)) ?_
              refine lv (v := (.int .i64 x_67)) rfl rfl (r_assign rfl) ?_
              refine lnil ?_
              refine wregion ?_
              refine lv (v := (.pointer (some ⟨o_14.g, 0, none⟩))) rfl rfl (r_move rfl) ?_
              refine lv (v := (.int .i64 x_52)) rfl rfl (r_move rfl) ?_
              refine lv (v := (.int .i64 x_67)) rfl rfl (r_move rfl) ?_
              obtain ⟨r_69, hr_70, hm⟩ := bind_some hm
              refine lc rfl rfl (r_call3 Try.call23 rfl rfl rfl) (c_graph_Graph_Join col_64 _ 1 rfl o_14 g_65 x_52 x_67 h_66 r_69 hr_70) ?_
              rintro _ w_72 ⟨col_74, rfl, hg_73, oh_71⟩
              refine ⟨_, rfl, ?_⟩
              replace h0 := h0.kpp hg_73 rfl
              replace h_45 := h_45.kpp hg_73 rfl
              replace hst := hst.kpp hg_73 rfl rfl
              clear h_66
              refine lnil ?_
              refine wregion ?_
              refine lv (v := (.int .i64 (IntKind.i64.wrap ((k_61 : Int) + 1)))) rfl rfl (r_add (k_61 : Int) 1 rfl rfl) ?_
              refine lv (v := (.int .i64 (IntKind.i64.wrap ((k_61 : Int) + 1)))) rfl rfl (r_move rfl) ?_
              refine lnil ?_
              exact ⟨l_68.length, by simp, ⟨col_74, (k_61 + 1), r_69.2, l_68, rfl, hl2, hm, hst, h0, h_45, oh_71, (congrArg (Value.int .i64) (wrap_succ (Nat.lt_of_lt_of_le hlt (h_45.take (Int.toNat (k_46 : Int))).1.1))), rfl, rfl, rfl, rfl, rfl, rfl, rfl, rfl, rfl, rfl, rfl, rfl, rfl⟩⟩


end Go.Proofs.Ytgkofjmeopbkbaa
