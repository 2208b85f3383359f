/-
  What functions of the program compute, as plain Lean functions (m_..), and proofs that they compute it (c_..). Printed by a program of the author; no conditions.
-/
import Derived.Test.YtgkofjmeopbkbaaOrderMadeBFloat
import Derived.Test.YtgkofjmeopbkbaaProg
import Derived.Test.YtgkofjmeopbkbaaOrderMadeBGraph
import Derived.Test.YtgkofjmeopbkbaaOrderMadeBHalf
import Derived.Test.YtgkofjmeopbkbaaOrderMadeF4
set_option linter.unusedVariables false
namespace Go.Proofs.Ytgkofjmeopbkbaa
open Go Go.RowKit



def m_l18_unchanged_L1 (N : Nat) (p0_g : List (List Bool)) (p1_r : ((List (List Bool)))) : Nat → Int → Option Bool
  | 0, _ => none
  | n_1 + 1, a_4 => (m_r15_Graph_Len p1_r).bind fun r_5 => if (decide (a_4 < r_5)) = true then ((m_graph_Graph_Near p0_g a_4).bind fun r_9 => (m_r15_Graph_Near N p1_r a_4).bind fun r_17 => (m_r15_Ints N r_9 r_17).bind fun r_25 => if (!r_25) = true then (some false) else ((m_l18_unchanged_L1 N p0_g p1_r n_1) (IntKind.i64.wrap (a_4 + 1)))) else ((m_graph_Graph_Len p0_g).bind fun r_29 => (m_r15_Graph_Len p1_r).bind fun r_33 => some (decide (r_29 = r_33)))

def m_l18_unchanged (N : Nat) (p0_g : List (List Bool)) (p1_r : ((List (List Bool)))) : Option Bool :=
  m_l18_unchanged_L1 N p0_g p1_r N 0

set_option maxRecDepth 100000 in
set_option maxHeartbeats 2000000 in
theorem c_l18_unchanged (N : Nat) (col : Col) (w0 : World) (qc0 : Nat) (qc1 : Nat) (qc1_1 : Nat) (hqqc0 : qc0 ≠ 0) (hqqc1 : qc1 ≠ 0) (hqqc1_1 : qc1_1 ≠ 0) (o0 : GObj) (p0_g : List (List Bool)) (g1 : Nat) (p1_r : ((List (List Bool)))) (a1_2 : Option Addr) (cap1_2 : Nat) (h0 : GO 85 86 qc0 col w0 o0 p0_g) (h1_2 : Own (Rep.row 4 Rep.bool) 26 qc1_1 col w0 a1_2 cap1_2 p1_r) (hb1 : Box 102 qc1 col w0 g1 #[(.slice a1_2 p1_r.length cap1_2)]) (r : Bool) (hm : m_l18_unchanged N p0_g p1_r = some r) :
    Calls Try.prog 39 #[(.pointer (some ⟨o0.g, 0, none⟩)), (.pointer (some ⟨g1, 0, none⟩))] w0 (fun e w' => e = .returned ((.bool r)) ∧ Below w0.heap.size w0 w') := by
  refine calls_of1 4 (m := 29) (args := [(.pointer (some ⟨o0.g, 0, none⟩)), (.pointer (some ⟨g1, 0, none⟩))]) Try.func39 rfl rfl rfl rfl rfl ?_
  rw [m_l18_unchanged.eq_1] at hm
  have hst := St.start col w0
  replace h0 := h0.start0 hqqc0
  replace hb1 := hb1.start0 hqqc1
  replace h1_2 := h1_2.start0 hqqc1_1
  refine wseq ?_
  refine wregion ?_
  refine lv (v := (.bool false)) rfl rfl (r_assign rfl) ?_
  refine lnil ?_
  refine wseq ?_
  refine wseq ?_
  refine wregion ?_
  refine lv (v := (.pointer (some ⟨o0.g, 0, none⟩))) rfl rfl (r_move rfl) ?_
  refine lv (v := (.bool false)) rfl rfl (r_eqlP1 ⟨_, Try.underlying24⟩ rfl rfl) ?_
  refine lnil ?_
  refine wcondF rfl ?_
  refine wskip ?_
  refine wseq ?_
  refine wseq ?_
  refine wregion ?_
  refine lv (v := (.int .i64 0)) rfl rfl (r_assign rfl) ?_
  refine lnil ?_
  refine wblock ?_
  refine wloop (fun n f w_2 => ∃ (col_3 : Col) (a_4 : Int) (n_1 : Nat), n_1 = n ∧ m_l18_unchanged_L1 N p0_g p1_r n_1 a_4 = some r ∧ St w0 (col0 col) col_3 w_2 ∧ GO 85 86 999 col_3 w_2 o0 p0_g ∧ Own (Rep.row 4 Rep.bool) 26 999 col_3 w_2 a1_2 cap1_2 p1_r ∧ Box 102 999 col_3 w_2 g1 #[(.slice a1_2 p1_r.length cap1_2)] ∧ f 0 = (.pointer (some ⟨o0.g, 0, none⟩)) ∧ f 1 = (.pointer (some ⟨g1, 0, none⟩)) ∧ f 5 = (.int .i64 a_4) ∧ f 1000000 = (enc [])) N ⟨(col0 col), 0, N, rfl, hm, hst, h0, h1_2, hb1, rfl, rfl, rfl, rfl⟩ ?_
  clear hm; intro n f w_2 hI
  obtain ⟨col_3, a_4, n_1, hn, hm, hst, h0, h1_2, hb1, hs0, hs1, hs5, hs1000000⟩ := hI
  subst hn
  refine .ld (d := 0) (v := (.pointer (some ⟨o0.g, 0, none⟩))) hs0 ?_
  refine .ld (d := 1) (v := (.pointer (some ⟨g1, 0, none⟩))) hs1 ?_
  refine .ld (d := 5) (v := (.int .i64 a_4)) hs5 ?_
  refine .ld (d := 1000000) (v := (enc [])) hs1000000 ?_
  clear hs0 hs1 hs5 hs1000000
  cases n_1 with
  | zero => rw [m_l18_unchanged_L1.eq_1] at hm; cases hm
  | succ n_1 =>
    rw [m_l18_unchanged_L1.eq_2] at hm
    refine wseq ?_
    refine wseq ?_
    refine wregion ?_
    refine lv (v := (.int .i64 a_4)) rfl rfl (r_move rfl) ?_
    refine lv (v := (.pointer (some ⟨g1, 0, none⟩))) rfl rfl (r_move rfl) ?_
    obtain ⟨r_5, hr_6, hm⟩ := bind_some hm
    refine lc rfl rfl (r_call1 Try.call19 rfl) (c_r15_Graph_Len col_3 _ 999 999 (by decide) (by decide) g1 p1_r a1_2 cap1_2 h1_2 hb1 r_5 hr_6) ?_
    rintro _ w_7 ⟨rfl, hg_8⟩
    refine ⟨_, rfl, ?_⟩
    replace hg_8 : Grow col_3 w_2 col_3 w_7 := .of_below hg_8
    replace h0 := h0.gr hg_8
    replace h1_2 := h1_2.gr hg_8
    replace hb1 := hb1.gr hg_8
    replace hst := hst.grow hg_8
    refine lv (v := (.bool (decide (a_4 < r_5)))) rfl rfl (r_lss a_4 r_5 rfl rfl) ?_
    refine lnil ?_
    refine wcond (decide (a_4 < r_5)) rfl (fun hb => ?_) (fun hb => ?_)
    · rw [if_pos hb] at hm
      clear hb
      refine wskip ?_
      refine wseq ?_
      refine wblock ?_
      refine wseq ?_
      refine wregion ?_
      refine lv (v := (.pointer (some ⟨o0.g, 0, none⟩))) rfl rfl (r_move rfl) ?_
      refine lv (v := (.int .i64 a_4)) rfl rfl (r_move rfl) ?_
      obtain ⟨r_9, hr_10, hm⟩ := bind_some hm
      refine lc rfl rfl (r_call2 Try.call22 rfl rfl) (c_graph_Graph_Near 1 col_3 _ 999 (by decide) o0 p0_g a_4 h0 r_9 hr_10) ?_
      rintro _ w_14 ⟨col_16, ra_11, rc_12, rfl, hg_15, rh_13⟩
      refine ⟨_, rfl, ?_⟩
      replace h0 := h0.gr hg_15
      replace h1_2 := h1_2.gr hg_15
      replace hb1 := hb1.gr hg_15
      replace hst := hst.grow hg_15
      refine lv (v := (.pointer (some ⟨g1, 0, none⟩))) rfl rfl (r_move rfl) ?_
      refine lv (v := (.int .i64 a_4)) rfl rfl (r_move rfl) ?_
      obtain ⟨r_17, hr_18, hm⟩ := bind_some hm
      refine lc rfl rfl (r_call2 Try.call74 rfl rfl) (c_r15_Graph_Near N 2 col_16 _ 999 999 (by decide) (by decide) g1 p1_r a1_2 cap1_2 a_4 h1_2 hb1 r_17 hr_18) ?_
      rintro _ w_22 ⟨col_24, ra_19, rc_20, rfl, hg_23, rh_21⟩
      refine ⟨_, rfl, ?_⟩
      replace h0 := h0.gr hg_23
      replace h1_2 := h1_2.gr hg_23
      replace rh_13 := rh_13.gr hg_23
      replace hb1 := hb1.gr hg_23
      replace hst := hst.grow hg_23
      obtain ⟨r_25, hr_26, hm⟩ := bind_some hm
      refine lc rfl rfl (r_call2 Try.call36 rfl rfl) (c_r15_Ints N (frC 2 (frC 1 col_24)) _ ra_11 rc_12 r_9 ra_19 rc_20 r_17 ((rh_13.toSlF (Froz.int .i64)).froz 2) ((rh_21.froz 1 (by decide)).toSlF (Froz.int .i64)) r_25 hr_26) ?_
      rintro _ w_27 ⟨rfl, hg_28⟩
      refine ⟨_, rfl, ?_⟩
      replace hg_28 : Grow col_24 w_22 col_24 w_27 := .of_below hg_28
      replace h0 := h0.gr hg_28
      replace h1_2 := h1_2.gr hg_28
      replace rh_13 := rh_13.gr hg_28
      replace rh_21 := rh_21.gr hg_28
      replace hb1 := hb1.gr hg_28
      replace hst := hst.grow hg_28
      refine lv (v := (.bool r_25)) rfl rfl (r_assign rfl) ?_
      refine lnil ?_
      refine wseq ?_
      refine wregion ?_
      refine lv (v := (.bool r_25)) rfl rfl (r_move rfl) ?_
      refine lv (v := (.bool (!r_25))) rfl rfl (r_not r_25 rfl) ?_
      refine lnil ?_
      refine wcond (!r_25) rfl (fun hb => ?_) (fun hb => ?_)
      · rw [if_pos hb] at hm
        clear hb
        refine wseq ?_
        refine wregion ?_
        refine lv (v := (.bool false)) rfl rfl (r_assign rfl) ?_
        refine lnil ?_
        refine wret ?_
        cases hm
        exact ⟨rfl, rfl, hst.below⟩
      · rw [if_neg (by rw [hb]; decide)] at hm
        clear hb
        refine wskip ?_
        refine wregion ?_
        refine lv (v := (.int .i64 a_4)) rfl rfl (r_move rfl) ?_
        refine lv (v := (.int .i64 (IntKind.i64.wrap (a_4 + 1)))) rfl rfl (r_add a_4 1 rfl rfl) ?_
        refine lv (v := (.int .i64 (IntKind.i64.wrap (a_4 + 1)))) rfl rfl (r_assign rfl) ?_
        refine lnil ?_
        exact ⟨n_1, by omega, ⟨col_24, (IntKind.i64.wrap (a_4 + 1)), n_1, rfl, hm, hst, h0, h1_2, hb1, rfl, rfl, rfl, rfl⟩⟩
    · rw [if_neg (by rw [hb]; decide)] at hm
      clear hb
      refine wexit (inB_hit ?_)
      refine wseq ?_
      refine wregion ?_
      refine lv (v := (.pointer (some ⟨o0.g, 0, none⟩))) rfl rfl (r_move rfl) ?_
      obtain ⟨r_29, hr_30, hm⟩ := bind_some hm
      refine lc rfl rfl (r_call1 Try.call15 rfl) (c_graph_Graph_Len col_3 _ 999 (by decide) o0 p0_g h0 r_29 hr_30) ?_
      rintro _ w_31 ⟨rfl, hg_32⟩
      refine ⟨_, rfl, ?_⟩
      replace hg_32 : Grow col_3 w_7 col_3 w_31 := .of_below hg_32
      replace h1_2 := h1_2.gr hg_32
      replace h0 := h0.gr hg_32
      replace hb1 := hb1.gr hg_32
      replace hst := hst.grow hg_32
      refine lv (v := (.pointer (some ⟨g1, 0, none⟩))) rfl rfl (r_move rfl) ?_
      obtain ⟨r_33, hr_34, hm⟩ := bind_some hm
      refine lc rfl rfl (r_call1 Try.call19 rfl) (c_r15_Graph_Len col_3 _ 999 999 (by decide) (by decide) g1 p1_r a1_2 cap1_2 h1_2 hb1 r_33 hr_34) ?_
      rintro _ w_35 ⟨rfl, hg_36⟩
      refine ⟨_, rfl, ?_⟩
      replace hg_36 : Grow col_3 w_31 col_3 w_35 := .of_below hg_36
      replace h1_2 := h1_2.gr hg_36
      replace hb1 := hb1.gr hg_36
      replace hst := hst.grow hg_36
      refine lv (v := (.bool (decide (r_29 = r_33)))) rfl rfl (r_eql r_29 r_33 rfl rfl) ?_
      refine lv (v := (.bool (decide (r_29 = r_33)))) rfl rfl (r_assign rfl) ?_
      refine lnil ?_
      refine wret ?_
      cases hm
      exact ⟨rfl, rfl, hst.below⟩



set_option maxRecDepth 100000 in
theorem el22_8 : ElemOk Try.prog 22 1 24 := ⟨Try.t22, _, rfl, rfl, rfl, rfl, rfl⟩

def m_l18_OrderMade_J3 (v_179 : Bool) : Option Bool :=
  some v_179

def m_l18_OrderMade_J2 (N : Nat) (p1_points : (List Int)) (r_35 : (Nat × (List Int))) (r_43 : ((List Int) × Int)) (r_52 : ((List Int) × Int)) (r_61 : ((List Int) × Int)) (one_120 : Bool) : Option Bool :=
  if one_120 = true then ((m_r15_Apart N ([r_43.1, r_52.1, r_61.1].map fun x => (x, false))).bind fun r_191 => if r_191.1 = true then ((m_l18_kept N r_35.1 r_35.2 p1_points).bind fun r_199 => if r_199 = true then ((m_l18_unchanged_v0n_v1n).bind fun r_204 => m_l18_OrderMade_J3 r_204) else (m_l18_OrderMade_J3 false)) else (m_l18_OrderMade_J3 false)) else (m_l18_OrderMade_J3 false)

def m_l18_OrderMade_J1 (N : Nat) (p1_points : (List Int)) (v_34 : Bool) : Option Bool :=
  if v_34 = true then (some false) else ((m_l18_ints N p1_points).bind fun r_35 => (m_order_Fill_v0n (r_35.2.take r_35.1)).bind fun r_43 => (m_order_Degree_v0n (r_35.2.take r_35.1)).bind fun r_52 => (m_order_Fill_v0n (r_35.2.take r_35.1)).bind fun r_61 => (m_r18_Fill_v0n p1_points).bind fun r_70 => (m_r18_Degree_v0n p1_points).bind fun r_78 => if (decide (r_43.2 = r_70.2)) = true then (if (decide (r_52.2 = r_78.2)) = true then ((m_r15_Ints N r_43.1 r_70.1).bind fun r_210 => if r_210 = true then ((m_r15_Ints N r_52.1 r_78.1).bind fun r_215 => if r_215 = true then ((m_r15_Ints N r_61.1 r_70.1).bind fun r_220 => m_l18_OrderMade_J2 N p1_points r_35 r_43 r_52 r_61 r_220) else (m_l18_OrderMade_J2 N p1_points r_35 r_43 r_52 r_61 false)) else (m_l18_OrderMade_J2 N p1_points r_35 r_43 r_52 r_61 false)) else (m_l18_OrderMade_J2 N p1_points r_35 r_43 r_52 r_61 false)) else (m_l18_OrderMade_J2 N p1_points r_35 r_43 r_52 r_61 false))

def m_l18_OrderMade_J6 (v_381 : Bool) : Option Bool :=
  some v_381

def m_l18_OrderMade_J5 (N : Nat) (p1_points : (List Int)) (t_19 : List (List Bool)) (t_225 : ((List (List Bool)))) (r_237 : (Nat × (List Int))) (r_245 : ((List Int) × Int)) (r_254 : ((List Int) × Int)) (r_263 : ((List Int) × Int)) (one_322 : Bool) : Option Bool :=
  if one_322 = true then ((m_r15_Apart N ([r_245.1, r_254.1, r_263.1].map fun x => (x, false))).bind fun r_393 => if r_393.1 = true then ((m_l18_kept N r_237.1 r_237.2 p1_points).bind fun r_401 => if r_401 = true then ((m_l18_unchanged N t_19 t_225).bind fun r_406 => m_l18_OrderMade_J6 r_406) else (m_l18_OrderMade_J6 false)) else (m_l18_OrderMade_J6 false)) else (m_l18_OrderMade_J6 false)

def m_l18_OrderMade_J4 (N : Nat) (p1_points : (List Int)) (t_19 : List (List Bool)) (t_225 : ((List (List Bool)))) (v_236 : Bool) : Option Bool :=
  if v_236 = true then (some false) else ((m_l18_ints N p1_points).bind fun r_237 => (m_order_Fill N t_19 (r_237.2.take r_237.1)).bind fun r_245 => (m_order_Degree N t_19 (r_237.2.take r_237.1)).bind fun r_254 => (m_order_Fill N t_19 (r_237.2.take r_237.1)).bind fun r_263 => (m_r18_Fill N t_225 p1_points).bind fun r_272 => (m_r18_Degree N t_225 p1_points).bind fun r_280 => if (decide (r_245.2 = r_272.2)) = true then (if (decide (r_254.2 = r_280.2)) = true then ((m_r15_Ints N r_245.1 r_272.1).bind fun r_412 => if r_412 = true then ((m_r15_Ints N r_254.1 r_280.1).bind fun r_417 => if r_417 = true then ((m_r15_Ints N r_263.1 r_272.1).bind fun r_422 => m_l18_OrderMade_J5 N p1_points t_19 t_225 r_237 r_245 r_254 r_263 r_422) else (m_l18_OrderMade_J5 N p1_points t_19 t_225 r_237 r_245 r_254 r_263 false)) else (m_l18_OrderMade_J5 N p1_points t_19 t_225 r_237 r_245 r_254 r_263 false)) else (m_l18_OrderMade_J5 N p1_points t_19 t_225 r_237 r_245 r_254 r_263 false)) else (m_l18_OrderMade_J5 N p1_points t_19 t_225 r_237 r_245 r_254 r_263 false))

def m_l18_OrderMade (N : Nat) (p0_d : (Int × (List Int))) (p1_points : (List Int)) : Option Bool :=
  (w_l18_awake).bind fun r_6 => (m_l18_drawn N (p0_d.1, p0_d.2)).bind fun r_10 => optC (r_10.1) (optC (r_10.2.1) (if (!r_6) = true then (m_l18_OrderMade_J1 N p1_points true) else (m_l18_OrderMade_J1 N p1_points (!r_10.2.2))) (fun t_23 => none)) (fun t_19 => optC (r_10.2.1) (none) (fun t_225 => if (!r_6) = true then (m_l18_OrderMade_J4 N p1_points t_19 t_225 true) else (m_l18_OrderMade_J4 N p1_points t_19 t_225 (!r_10.2.2))))

set_option maxRecDepth 100000 in
set_option maxHeartbeats 2000000 in
theorem c_l18_OrderMade (N : Nat) (col : Col) (w0 : World) (a0_0 : Option Addr) (cap0_0 : Nat) (p0_d : (Int × (List Int))) (a1 : Option Addr) (cap1 : Nat) (p1_points : (List Int)) (h0_0 : Sl (Rep.int .i64) col w0 a0_0 cap0_0 p0_d.2) (h1 : Sl (Rep.int .i64) col w0 a1 cap1 p1_points) (r : Bool) (hm : m_l18_OrderMade N p0_d p1_points = some r) :
    Calls Try.prog 8 #[(.agg #[(.int .i64 p0_d.1), (.slice a0_0 p0_d.2.length cap0_0)]), (.slice a1 p1_points.length cap1)] w0 (fun e w' => e = .returned ((.bool r)) ∧ Below w0.heap.size w0 w') := by
  refine calls_of1 4 (m := 107) (args := [(.agg #[(.int .i64 p0_d.1), (.slice a0_0 p0_d.2.length cap0_0)]), (.slice a1 p1_points.length cap1)]) Try.func8 rfl rfl rfl rfl rfl ?_
  rw [m_l18_OrderMade.eq_1] at hm
  have hst := St.start col w0
  replace h0_0 := h0_0.keep (Stay.start col w0)
  replace h1 := h1.keep (Stay.start col w0)
  refine wseq ?_
  refine wregion ?_
  refine l_box (col := (col0 col)) (v := (.agg #[(.int .i64 p0_d.1), (.slice a0_0 p0_d.2.length cap0_0)])) 1 rfl rfl ?_
  intro g_1 w_2 col_3 hg_4 hb_5
  replace h0_0 := h0_0.gr hg_4
  replace h1 := h1.gr hg_4
  replace hst := hst.grow hg_4
  replace hb_5 : Box 59 1 col_3 w_2 g_1 #[(.int .i64 p0_d.1), (.slice a0_0 p0_d.2.length cap0_0)] := hb_5
  refine lv (v := (.bool false)) rfl rfl (r_assign rfl) ?_
  refine lnil ?_
  refine wseq ?_
  refine wregion ?_
  obtain ⟨r_6, hr_7, hm⟩ := bind_some hm
  refine lc rfl rfl (r_call0 Try.call29 ) (k_l18_awake col_3 _ r_6 hr_7) ?_
  rintro _ w_8 ⟨rfl, hg_9⟩
  refine ⟨_, rfl, ?_⟩
  replace hg_9 : Grow col_3 w_2 col_3 w_8 := .of_below hg_9
  replace h1 := h1.gr hg_9
  replace h0_0 := h0_0.gr hg_9
  replace hb_5 := hb_5.gr hg_9
  replace hst := hst.grow hg_9
  refine lv (v := (.bool r_6)) rfl rfl (r_assign rfl) ?_
  refine lnil ?_
  refine wseq ?_
  refine wregion ?_
  refine lv (v := (.agg #[(.int .i64 p0_d.1), (.slice a0_0 p0_d.2.length cap0_0)])) rfl rfl (r_ldN Try.isAgg59 Try.sizeOf59 rfl rfl hb_5.atN) ?_
  obtain ⟨r_10, hr_11, hm⟩ := bind_some hm
  refine lc rfl rfl (r_call1 Try.call30 rfl) (c_l18_drawn N 2 3 4 col_3 _ a0_0 cap0_0 (p0_d.1, p0_d.2) h0_0 r_10 hr_11) ?_
  rintro _ w_16 ⟨col_18, rv_12, rv_14, rfl, hg_17, rh_13, rh_15⟩
  refine ⟨_, rfl, ?_⟩
  replace h1 := h1.gr hg_17
  replace h0_0 := h0_0.gr hg_17
  replace hst := hst.grow hg_17
  cases hx_20 : r_10.1 with
  | none =>
    rw [hx_20] at hm rh_13
    replace hm := optC_none hm
    obtain rfl := optP_none rh_13
    clear rh_13
    cases hx_24 : r_10.2.1 with
    | none =>
      rw [hx_24] at hm rh_15
      replace hm := optC_none hm
      obtain rfl := optP_none rh_15
      clear rh_15
      refine lv (v := (.tuple #[(.pointer none), (.pointer none), (.bool r_10.2.2)])) rfl rfl (r_move rfl) ?_
      refine lv (v := (.pointer none)) rfl rfl (r_extract rfl rfl) ?_
      refine lv (v := (.pointer none)) rfl rfl (r_extract rfl rfl) ?_
      refine lv (v := (.bool r_10.2.2)) rfl rfl (r_extract rfl rfl) ?_
      refine lv (v := (.pointer none)) rfl rfl (r_assign rfl) ?_
      refine lv (v := (.pointer none)) rfl rfl (r_assign rfl) ?_
      refine lv (v := (.bool r_10.2.2)) rfl rfl (r_assign rfl) ?_
      refine lnil ?_
      refine wseq ?_
      refine wseq ?_
      refine Wp.cut (fun f w_32 => ∃ (col_33 : Col) (v_34 : Bool), m_l18_OrderMade_J1 N p1_points v_34 = some r ∧ St w0 (col0 col) col_33 w_32 ∧ Sl (Rep.int .i64) col_33 w_32 a1 cap1 p1_points ∧ f 1 = (.slice a1 p1_points.length cap1) ∧ f 33 = (.bool v_34) ∧ f 6 = (.pointer none) ∧ f 7 = (.pointer none) ∧ f 1000000 = (enc [])) ?_ ?_
      · intro f w_32 hJ
        obtain ⟨col_33, v_34, hm, hst, h1, hs1, hs33, hs6, hs7, hs1000000⟩ := hJ
        rw [m_l18_OrderMade_J1.eq_1] at hm
        refine .ld (d := 1) (v := (.slice a1 p1_points.length cap1)) hs1 ?_
        refine .ld (d := 33) (v := (.bool v_34)) hs33 ?_
        refine .ld (d := 6) (v := (.pointer none)) hs6 ?_
        refine .ld (d := 7) (v := (.pointer none)) hs7 ?_
        refine .ld (d := 1000000) (v := (enc [])) hs1000000 ?_
        clear hs1 hs33 hs6 hs7 hs1000000
        refine wcond (v_34) rfl (fun hb => ?_) (fun hb => ?_)
        · rw [if_pos hb] at hm
          clear hb
          refine wseq ?_
          refine wregion ?_
          refine lv (v := (.bool false)) rfl rfl (r_assign rfl) ?_
          refine lnil ?_
          refine wret ?_
          cases hm
          exact ⟨rfl, rfl, hst.below⟩
        · rw [if_neg (by rw [hb]; decide)] at hm
          clear hb
          refine wskip ?_
          refine wseq ?_
          refine wregion ?_
          refine lv (v := (.slice a1 p1_points.length cap1)) rfl rfl (r_move rfl) ?_
          obtain ⟨r_35, hr_36, hm⟩ := bind_some hm
          refine lc rfl rfl (r_call1 Try.call31 rfl) (c_l18_ints N 5 col_33 _ a1 cap1 p1_points h1 r_35 hr_36) ?_
          rintro _ w_40 ⟨col_42, ra_37, rc_38, rfl, hg_41, rh_39⟩
          refine ⟨_, rfl, ?_⟩
          replace h1 := h1.gr hg_41
          replace hst := hst.grow hg_41
          refine lv (v := (.slice ra_37 ((r_35.2.take r_35.1).length) rc_38)) rfl rfl (r_assign rfl) ?_
          refine lnil ?_
          refine wseq ?_
          refine wregion ?_
          refine lv (v := (.pointer none)) rfl rfl (r_move rfl) ?_
          refine lv (v := (.slice ra_37 ((r_35.2.take r_35.1).length) rc_38)) rfl rfl (r_move rfl) ?_
          obtain ⟨r_43, hr_44, hm⟩ := bind_some hm
          refine lc rfl rfl (r_call2 Try.call32 rfl rfl) (c_order_Fill_v0n 6 (frC 5 col_42) _ ra_37 rc_38 (r_35.2.take r_35.1) ((rh_39.take r_35.1).toSlF (Froz.int .i64)) r_43 hr_44) ?_
          rintro _ w_48 ⟨col_50, ra_45, rc_46, rfl, hg_49, rh_47⟩
          refine ⟨_, rfl, ?_⟩
          replace rh_47 := rh_47.thaw (flat_int .i64) hg_49 ((Fz.refl (col := col_42)).froz 5) (by decide)
          replace hg_49 := hg_49.thawR (col := col_42)
          generalize colR w_40.heap.size col_42 col_50 = col_51 at *
          replace h1 := h1.gr hg_49
          replace rh_39 := rh_39.gr hg_49
          replace hst := hst.grow hg_49
          refine lv (v := (.tuple #[(.slice ra_45 r_43.1.length rc_46), (.int .i64 r_43.2)])) rfl rfl (r_move rfl) ?_
          refine lv (v := (.slice ra_45 r_43.1.length rc_46)) rfl rfl (r_extract rfl rfl) ?_
          refine lv (v := (.int .i64 r_43.2)) rfl rfl (r_extract rfl rfl) ?_
          refine lv (v := (.slice ra_45 r_43.1.length rc_46)) rfl rfl (r_assign rfl) ?_
          refine lv (v := (.int .i64 r_43.2)) rfl rfl (r_assign rfl) ?_
          refine lnil ?_
          refine wseq ?_
          refine wregion ?_
          refine lv (v := (.pointer none)) rfl rfl (r_move rfl) ?_
          refine lv (v := (.slice ra_37 ((r_35.2.take r_35.1).length) rc_38)) rfl rfl (r_move rfl) ?_
          obtain ⟨r_52, hr_53, hm⟩ := bind_some hm
          refine lc rfl rfl (r_call2 Try.call33 rfl rfl) (c_order_Degree_v0n 7 (frC 5 col_51) _ ra_37 rc_38 (r_35.2.take r_35.1) ((rh_39.take r_35.1).toSlF (Froz.int .i64)) r_52 hr_53) ?_
          rintro _ w_57 ⟨col_59, ra_54, rc_55, rfl, hg_58, rh_56⟩
          refine ⟨_, rfl, ?_⟩
          replace rh_56 := rh_56.thaw (flat_int .i64) hg_58 ((Fz.refl (col := col_51)).froz 5) (by decide)
          replace hg_58 := hg_58.thawR (col := col_51)
          generalize colR w_48.heap.size col_51 col_59 = col_60 at *
          replace h1 := h1.gr hg_58
          replace rh_39 := rh_39.gr hg_58
          replace rh_47 := rh_47.gr hg_58
          replace hst := hst.grow hg_58
          refine lv (v := (.tuple #[(.slice ra_54 r_52.1.length rc_55), (.int .i64 r_52.2)])) rfl rfl (r_move rfl) ?_
          refine lv (v := (.slice ra_54 r_52.1.length rc_55)) rfl rfl (r_extract rfl rfl) ?_
          refine lv (v := (.int .i64 r_52.2)) rfl rfl (r_extract rfl rfl) ?_
          refine lv (v := (.slice ra_54 r_52.1.length rc_55)) rfl rfl (r_assign rfl) ?_
          refine lv (v := (.int .i64 r_52.2)) rfl rfl (r_assign rfl) ?_
          refine lnil ?_
          refine wseq ?_
          refine wregion ?_
          refine lv (v := (.pointer none)) rfl rfl (r_move rfl) ?_
          refine lv (v := (.slice ra_37 ((r_35.2.take r_35.1).length) rc_38)) rfl rfl (r_move rfl) ?_
          obtain ⟨r_61, hr_62, hm⟩ := bind_some hm
          refine lc rfl rfl (r_call2 Try.call32 rfl rfl) (c_order_Fill_v0n 8 (frC 5 col_60) _ ra_37 rc_38 (r_35.2.take r_35.1) ((rh_39.take r_35.1).toSlF (Froz.int .i64)) r_61 hr_62) ?_
          rintro _ w_66 ⟨col_68, ra_63, rc_64, rfl, hg_67, rh_65⟩
          refine ⟨_, rfl, ?_⟩
          replace rh_65 := rh_65.thaw (flat_int .i64) hg_67 ((Fz.refl (col := col_60)).froz 5) (by decide)
          replace hg_67 := hg_67.thawR (col := col_60)
          generalize colR w_57.heap.size col_60 col_68 = col_69 at *
          replace h1 := h1.gr hg_67
          replace rh_39 := rh_39.gr hg_67
          replace rh_47 := rh_47.gr hg_67
          replace rh_56 := rh_56.gr hg_67
          replace hst := hst.grow hg_67
          refine lv (v := (.tuple #[(.slice ra_63 r_61.1.length rc_64), (.int .i64 r_61.2)])) rfl rfl (r_move rfl) ?_
          refine lv (v := (.slice ra_63 r_61.1.length rc_64)) rfl rfl (r_extract rfl rfl) ?_
          refine lv (v := (.int .i64 r_61.2)) rfl rfl (r_extract rfl rfl) ?_
          refine lv (v := (.slice ra_63 r_61.1.length rc_64)) rfl rfl (r_assign rfl) ?_
          refine lv (v := (.int .i64 r_61.2)) rfl rfl (r_assign rfl) ?_
          refine lnil ?_
          refine wseq ?_
          refine wregion ?_
          refine lv (v := (.pointer none)) rfl rfl (r_move rfl) ?_
          refine lv (v := (.slice a1 p1_points.length cap1)) rfl rfl (r_move rfl) ?_
          obtain ⟨r_70, hr_71, hm⟩ := bind_some hm
          refine lc rfl rfl (r_call2 Try.call34 rfl rfl) (c_r18_Fill_v0n 9 col_69 _ a1 cap1 p1_points h1 r_70 hr_71) ?_
          rintro _ w_75 ⟨col_77, ra_72, rc_73, rfl, hg_76, rh_74⟩
          refine ⟨_, rfl, ?_⟩
          replace h1 := h1.gr hg_76
          replace rh_39 := rh_39.gr hg_76
          replace rh_47 := rh_47.gr hg_76
          replace rh_56 := rh_56.gr hg_76
          replace rh_65 := rh_65.gr hg_76
          replace hst := hst.grow hg_76
          refine lv (v := (.tuple #[(.slice ra_72 r_70.1.length rc_73), (.int .i64 r_70.2)])) rfl rfl (r_move rfl) ?_
          refine lv (v := (.slice ra_72 r_70.1.length rc_73)) rfl rfl (r_extract rfl rfl) ?_
          refine lv (v := (.int .i64 r_70.2)) rfl rfl (r_extract rfl rfl) ?_
          refine lv (v := (.slice ra_72 r_70.1.length rc_73)) rfl rfl (r_assign rfl) ?_
          refine lv (v := (.int .i64 r_70.2)) rfl rfl (r_assign rfl) ?_
          refine lnil ?_
          refine wseq ?_
          refine wregion ?_
          refine lv (v := (.pointer none)) rfl rfl (r_move rfl) ?_
          refine lv (v := (.slice a1 p1_points.length cap1)) rfl rfl (r_move rfl) ?_
          obtain ⟨r_78, hr_79, hm⟩ := bind_some hm
          refine lc rfl rfl (r_call2 Try.call35 rfl rfl) (c_r18_Degree_v0n 10 col_77 _ a1 cap1 p1_points h1 r_78 hr_79) ?_
          rintro _ w_83 ⟨col_85, ra_80, rc_81, rfl, hg_84, rh_82⟩
          refine ⟨_, rfl, ?_⟩
          replace h1 := h1.gr hg_84
          replace rh_39 := rh_39.gr hg_84
          replace rh_47 := rh_47.gr hg_84
          replace rh_56 := rh_56.gr hg_84
          replace rh_65 := rh_65.gr hg_84
          replace rh_74 := rh_74.gr hg_84
          replace hst := hst.grow hg_84
          refine lv (v := (.tuple #[(.slice ra_80 r_78.1.length rc_81), (.int .i64 r_78.2)])) rfl rfl (r_move rfl) ?_
          refine lv (v := (.slice ra_80 r_78.1.length rc_81)) rfl rfl (r_extract rfl rfl) ?_
          refine lv (v := (.int .i64 r_78.2)) rfl rfl (r_extract rfl rfl) ?_
          refine lv (v := (.slice ra_80 r_78.1.length rc_81)) rfl rfl (r_assign rfl) ?_
          refine lv (v := (.int .i64 r_78.2)) rfl rfl (r_assign rfl) ?_
          refine lnil ?_
          refine wseq ?_
          refine Wp.cut (fun f w_118 => ∃ (col_119 : Col) (one_120 : Bool), m_l18_OrderMade_J2 N p1_points r_35 r_43 r_52 r_61 one_120 = some r ∧ St w0 (col0 col) col_119 w_118 ∧ Sl (Rep.int .i64) col_119 w_118 a1 cap1 p1_points ∧ Own (Rep.int .i64) 3 6 col_119 w_118 ra_45 rc_46 r_43.1 ∧ Own (Rep.int .i64) 3 7 col_119 w_118 ra_54 rc_55 r_52.1 ∧ Own (Rep.int .i64) 3 8 col_119 w_118 ra_63 rc_64 r_61.1 ∧ Own (Rep.int .i64) 3 5 col_119 w_118 ra_37 rc_38 r_35.2 ∧ f 1 = (.slice a1 p1_points.length cap1) ∧ f 10 = (.slice ra_45 r_43.1.length rc_46) ∧ f 12 = (.slice ra_54 r_52.1.length rc_55) ∧ f 14 = (.slice ra_63 r_61.1.length rc_64) ∧ f 20 = (.bool one_120) ∧ f 6 = (.pointer none) ∧ f 7 = (.pointer none) ∧ f 9 = (.slice ra_37 ((r_35.2.take r_35.1).length) rc_38) ∧ f 1000000 = (enc [])) ?_ ?_
          · intro f w_118 hJ
            obtain ⟨col_119, one_120, hm, hst, h1, rh_47, rh_56, rh_65, rh_39, hs1, hs10, hs12, hs14, hs20, hs6, hs7, hs9, hs1000000⟩ := hJ
            rw [m_l18_OrderMade_J2.eq_1] at hm
            refine .ld (d := 1) (v := (.slice a1 p1_points.length cap1)) hs1 ?_
            refine .ld (d := 10) (v := (.slice ra_45 r_43.1.length rc_46)) hs10 ?_
            refine .ld (d := 12) (v := (.slice ra_54 r_52.1.length rc_55)) hs12 ?_
            refine .ld (d := 14) (v := (.slice ra_63 r_61.1.length rc_64)) hs14 ?_
            refine .ld (d := 20) (v := (.bool one_120)) hs20 ?_
            refine .ld (d := 6) (v := (.pointer none)) hs6 ?_
            refine .ld (d := 7) (v := (.pointer none)) hs7 ?_
            refine .ld (d := 9) (v := (.slice ra_37 ((r_35.2.take r_35.1).length) rc_38)) hs9 ?_
            refine .ld (d := 1000000) (v := (enc [])) hs1000000 ?_
            clear hs1 hs10 hs12 hs14 hs20 hs6 hs7 hs9 hs1000000
            refine wseq ?_
            refine Wp.cut (fun f w_177 => ∃ (col_178 : Col) (v_179 : Bool), m_l18_OrderMade_J3 v_179 = some r ∧ St w0 (col0 col) col_178 w_177 ∧ f 4 = (.bool v_179) ∧ f 1000000 = (enc [])) ?_ ?_
            · intro f w_177 hJ
              obtain ⟨col_178, v_179, hm, hst, hs4, hs1000000⟩ := hJ
              rw [m_l18_OrderMade_J3.eq_1] at hm
              refine .ld (d := 4) (v := (.bool v_179)) hs4 ?_
              refine .ld (d := 1000000) (v := (enc [])) hs1000000 ?_
              clear hs4 hs1000000
              refine wret ?_
              cases hm
              exact ⟨rfl, rfl, hst.below⟩
            · refine wregion ?_
              refine lv (v := (.bool one_120)) rfl rfl (r_move rfl) ?_
              refine lv (v := (.bool one_120)) rfl rfl (r_move rfl) ?_
              by_cases hg_180 : one_120 = true
              · rw [if_pos hg_180] at hm
                refine lg (b := one_120) 90 rfl rfl rfl (by rw [hg_180]; rfl) ?_
                refine lv (v := (.slice ra_45 r_43.1.length rc_46)) rfl rfl (r_move rfl) ?_
                refine lg (b := one_120) 90 rfl rfl rfl (by rw [hg_180]; rfl) ?_
                refine lv (v := (.slice ra_54 r_52.1.length rc_55)) rfl rfl (r_move rfl) ?_
                refine lg (b := one_120) 90 rfl rfl rfl (by rw [hg_180]; rfl) ?_
                refine lv (v := (.slice ra_63 r_61.1.length rc_64)) rfl rfl (r_move rfl) ?_
                refine lg (b := one_120) 90 rfl rfl rfl (by rw [hg_180]; rfl) ?_
                have hx_181 : Has (Rep.row 3 (Rep.int .i64)) 6 col_119 w_118 [(.slice ra_45 r_43.1.length rc_46)] r_43.1 := rh_47.has
                have hx_182 : Has (Rep.row 3 (Rep.int .i64)) 7 col_119 w_118 [(.slice ra_54 r_52.1.length rc_55)] r_52.1 := rh_56.has
                have hx_183 : Has (Rep.row 3 (Rep.int .i64)) 8 col_119 w_118 [(.slice ra_63 r_61.1.length rc_64)] r_61.1 := rh_65.has
                have hx_184 := RowsH.cons (cs := [(.slice ra_54 r_52.1.length rc_55)]) hx_182 (RowsH.cons1 (cs := [(.slice ra_63 r_61.1.length rc_64)]) hx_183 Rows.nil0) (by decide) (by decide)
                replace hx_181 := hx_181.recol 7 8 (by decide)
                replace h1 := h1.recol 7 8 (by decide)
                replace rh_39 := rh_39.recol 7 8 (by decide)
                replace rh_47 := rh_47.recol 7 8 (by decide)
                replace rh_56 := rh_56.recolSelf 8 (by decide)
                replace rh_65 := rh_65.recol 7 8 (by decide)
                replace hst := hst.recol 7 8 (by decide) (by decide)
                have hx_185 := RowsH.cons (cs := [(.slice ra_45 r_43.1.length rc_46)]) hx_181 hx_184 (by decide) (by decide)
                replace h1 := h1.recol 6 8 (by decide)
                replace rh_39 := rh_39.recol 6 8 (by decide)
                replace rh_47 := rh_47.recolSelf 8 (by decide)
                replace rh_56 := rh_56.recol 6 8 (by decide)
                replace rh_65 := rh_65.recol 6 8 (by decide)
                replace hst := hst.recol 6 8 (by decide) (by decide)
                refine l_lit (col := (rcC 6 8 (rcC 7 8 col_119))) (r := (Rep.row 3 (Rep.int .i64))) (xs := [r_43.1, r_52.1, r_61.1]) [(.slice ra_45 r_43.1.length rc_46), (.slice ra_54 r_52.1.length rc_55), (.slice ra_63 r_61.1.length rc_64)] 8 rfl Try.underlying33 el22_8 rfl rfl rfl rfl rfl rfl (by intro v hv; simp only [List.mem_cons, List.not_mem_nil, or_false] at hv; rcases hv with rfl | rfl | rfl <;> rfl) hx_185 ?_
                intro a_186 w_187 col_188 hg_189 h_190
                replace h1 := h1.gr hg_189
                replace rh_39 := rh_39.gr hg_189
                replace rh_47 := rh_47.gr hg_189
                replace rh_56 := rh_56.gr hg_189
                replace rh_65 := rh_65.gr hg_189
                replace hst := hst.grow hg_189
                refine lg (b := one_120) 90 rfl rfl rfl (by rw [hg_180]; rfl) ?_
                obtain ⟨r_191, hr_192, hm⟩ := bind_some hm
                refine lc rfl rfl (r_call1 Try.call37 (congrArg (fun n => Value.slice a_186 n 3) (List.length_map ..).symm)) (c_r15_Apart N col_188 _ 8 rfl a_186 3 ([r_43.1, r_52.1, r_61.1].map fun x => (x, false)) (h_190).half r_191 hr_192) ?_
                rintro _ w_195 ⟨col_197, rfl, hg_196, oh_193, ohl_194⟩
                refine ⟨_, rfl, ?_⟩
                replace h1 := h1.kpp hg_196 rfl
                replace rh_39 := rh_39.kpp hg_196 rfl rfl
                replace hst := hst.kpp hg_196 rfl rfl
                clear h_190
                refine lv (v := (.bool r_191.1)) rfl rfl (r_pickT (congrArg Value.bool hg_180) rfl) ?_
                refine lv (v := (.bool r_191.1)) rfl rfl (r_move rfl) ?_
                by_cases hg_198 : r_191.1 = true
                · rw [if_pos hg_198] at hm
                  refine lg (b := r_191.1) 97 rfl rfl rfl (by rw [hg_198]; rfl) ?_
                  refine lv (v := (.slice ra_37 ((r_35.2.take r_35.1).length) rc_38)) rfl rfl (r_move rfl) ?_
                  refine lg (b := r_191.1) 97 rfl rfl rfl (by rw [hg_198]; rfl) ?_
                  refine lv (v := (.slice a1 p1_points.length cap1)) rfl rfl (r_move rfl) ?_
                  refine lg (b := r_191.1) 97 rfl rfl rfl (by rw [hg_198]; rfl) ?_
                  obtain ⟨r_199, hr_200, hm⟩ := bind_some hm
                  refine lc rfl rfl (r_call2 Try.call38 rfl rfl) (c_l18_kept N (frC 5 col_197) _ ra_37 rc_38 r_35.1 r_35.2 a1 cap1 p1_points (rh_39.toSlF (Froz.int .i64)) (h1.froz 5) r_199 hr_200) ?_
                  rintro _ w_201 ⟨rfl, hg_202⟩
                  refine ⟨_, rfl, ?_⟩
                  replace hg_202 : Grow col_197 w_195 col_197 w_201 := .of_below hg_202
                  replace rh_39 := rh_39.gr hg_202
                  replace h1 := h1.gr hg_202
                  replace hst := hst.grow hg_202
                  refine lv (v := (.bool r_199)) rfl rfl (r_pickT (congrArg Value.bool hg_198) rfl) ?_
                  refine lv (v := (.bool r_199)) rfl rfl (r_move rfl) ?_
                  by_cases hg_203 : r_199 = true
                  · rw [if_pos hg_203] at hm
                    refine lg (b := r_199) 102 rfl rfl rfl (by rw [hg_203]; rfl) ?_
                    refine lv (v := (.pointer none)) rfl rfl (r_move rfl) ?_
                    refine lg (b := r_199) 102 rfl rfl rfl (by rw [hg_203]; rfl) ?_
                    refine lv (v := (.pointer none)) rfl rfl (r_move rfl) ?_
                    refine lg (b := r_199) 102 rfl rfl rfl (by rw [hg_203]; rfl) ?_
                    obtain ⟨r_204, hr_205, hm⟩ := bind_some hm
                    refine lc rfl rfl (r_call2 Try.call39 rfl rfl) (c_l18_unchanged_v0n_v1n col_197 _ r_204 hr_205) ?_
                    rintro _ w_206 ⟨rfl, hg_207⟩
                    refine ⟨_, rfl, ?_⟩
                    replace hg_207 : Grow col_197 w_201 col_197 w_206 := .of_below hg_207
                    replace hst := hst.grow hg_207
                    refine lv (v := (.bool r_204)) rfl rfl (r_pickT (congrArg Value.bool hg_203) rfl) ?_
                    refine lv (v := (.bool r_204)) rfl rfl (r_assign rfl) ?_
                    refine lnil ?_
                    exact ⟨col_197, r_204, hm, hst, rfl, rfl⟩
                  · rw [if_neg hg_203] at hm
                    replace hg_203 := Bool.eq_false_iff.2 hg_203
                    refine lp (b := r_199) 102 rfl rfl rfl rfl (by rw [hg_203]; rfl) ?_
                    refine lp (b := r_199) 102 rfl rfl rfl rfl (by rw [hg_203]; rfl) ?_
                    refine lp (b := r_199) 102 rfl rfl rfl rfl (by rw [hg_203]; rfl) ?_
                    refine lv (v := (.bool false)) rfl rfl (r_pickF (congrArg Value.bool hg_203) rfl) ?_
                    refine lv (v := (.bool false)) rfl rfl (r_assign rfl) ?_
                    refine lnil ?_
                    exact ⟨col_197, false, hm, hst, rfl, rfl⟩
                · rw [if_neg hg_198] at hm
                  replace hg_198 := Bool.eq_false_iff.2 hg_198
                  refine lp (b := r_191.1) 97 rfl rfl rfl rfl (by rw [hg_198]; rfl) ?_
                  refine lp (b := r_191.1) 97 rfl rfl rfl rfl (by rw [hg_198]; rfl) ?_
                  refine lp (b := r_191.1) 97 rfl rfl rfl rfl (by rw [hg_198]; rfl) ?_
                  refine lv (v := (.bool false)) rfl rfl (r_pickF (congrArg Value.bool hg_198) rfl) ?_
                  refine lv (v := (.bool false)) rfl rfl (r_move rfl) ?_
                  refine lp (b := false) 102 rfl rfl rfl rfl rfl ?_
                  refine lp (b := false) 102 rfl rfl rfl rfl rfl ?_
                  refine lp (b := false) 102 rfl rfl rfl rfl rfl ?_
                  refine lv (v := (.bool false)) rfl rfl (r_pickF rfl rfl) ?_
                  refine lv (v := (.bool false)) rfl rfl (r_assign rfl) ?_
                  refine lnil ?_
                  exact ⟨col_197, false, hm, hst, rfl, rfl⟩
              · rw [if_neg hg_180] at hm
                replace hg_180 := Bool.eq_false_iff.2 hg_180
                refine lp (b := one_120) 90 rfl rfl rfl rfl (by rw [hg_180]; rfl) ?_
                refine lp (b := one_120) 90 rfl rfl rfl rfl (by rw [hg_180]; rfl) ?_
                refine lp (b := one_120) 90 rfl rfl rfl rfl (by rw [hg_180]; rfl) ?_
                refine lp (b := one_120) 90 rfl rfl rfl rfl (by rw [hg_180]; rfl) ?_
                refine lp (b := one_120) 90 rfl rfl rfl rfl (by rw [hg_180]; rfl) ?_
                refine lv (v := (.bool false)) rfl rfl (r_pickF (congrArg Value.bool hg_180) rfl) ?_
                refine lv (v := (.bool false)) rfl rfl (r_move rfl) ?_
                refine lp (b := false) 97 rfl rfl rfl rfl rfl ?_
                refine lp (b := false) 97 rfl rfl rfl rfl rfl ?_
                refine lp (b := false) 97 rfl rfl rfl rfl rfl ?_
                refine lv (v := (.bool false)) rfl rfl (r_pickF rfl rfl) ?_
                refine lv (v := (.bool false)) rfl rfl (r_move rfl) ?_
                refine lp (b := false) 102 rfl rfl rfl rfl rfl ?_
                refine lp (b := false) 102 rfl rfl rfl rfl rfl ?_
                refine lp (b := false) 102 rfl rfl rfl rfl rfl ?_
                refine lv (v := (.bool false)) rfl rfl (r_pickF rfl rfl) ?_
                refine lv (v := (.bool false)) rfl rfl (r_assign rfl) ?_
                refine lnil ?_
                exact ⟨col_119, false, hm, hst, rfl, rfl⟩
          · refine wregion ?_
            refine lv (v := (.int .i64 r_43.2)) rfl rfl (r_move rfl) ?_
            refine lv (v := (.int .i64 r_70.2)) rfl rfl (r_move rfl) ?_
            refine lv (v := (.bool (decide (r_43.2 = r_70.2)))) rfl rfl (r_eql r_43.2 r_70.2 rfl rfl) ?_
            refine lv (v := (.bool (decide (r_43.2 = r_70.2)))) rfl rfl (r_move rfl) ?_
            by_cases hg_208 : (decide (r_43.2 = r_70.2)) = true
            · rw [if_pos hg_208] at hm
              refine lg (b := decide (r_43.2 = r_70.2)) 69 rfl rfl rfl (by rw [hg_208]; rfl) ?_
              refine lv (v := (.int .i64 r_52.2)) rfl rfl (r_move rfl) ?_
              refine lg (b := decide (r_43.2 = r_70.2)) 69 rfl rfl rfl (by rw [hg_208]; rfl) ?_
              refine lv (v := (.int .i64 r_78.2)) rfl rfl (r_move rfl) ?_
              refine lg (b := decide (r_43.2 = r_70.2)) 69 rfl rfl rfl (by rw [hg_208]; rfl) ?_
              refine lv (v := (.bool (decide (r_52.2 = r_78.2)))) rfl rfl (r_eql r_52.2 r_78.2 rfl rfl) ?_
              refine lv (v := (.bool (decide (r_52.2 = r_78.2)))) rfl rfl (r_pickT (congrArg Value.bool hg_208) rfl) ?_
              refine lv (v := (.bool (decide (r_52.2 = r_78.2)))) rfl rfl (r_move rfl) ?_
              by_cases hg_209 : (decide (r_52.2 = r_78.2)) = true
              · rw [if_pos hg_209] at hm
                refine lg (b := decide (r_52.2 = r_78.2)) 74 rfl rfl rfl (by rw [hg_209]; rfl) ?_
                refine lv (v := (.slice ra_45 r_43.1.length rc_46)) rfl rfl (r_move rfl) ?_
                refine lg (b := decide (r_52.2 = r_78.2)) 74 rfl rfl rfl (by rw [hg_209]; rfl) ?_
                refine lv (v := (.slice ra_72 r_70.1.length rc_73)) rfl rfl (r_move rfl) ?_
                refine lg (b := decide (r_52.2 = r_78.2)) 74 rfl rfl rfl (by rw [hg_209]; rfl) ?_
                obtain ⟨r_210, hr_211, hm⟩ := bind_some hm
                refine lc rfl rfl (r_call2 Try.call36 rfl rfl) (c_r15_Ints N (frC 9 (frC 6 col_85)) _ ra_45 rc_46 r_43.1 ra_72 rc_73 r_70.1 ((rh_47.toSlF (Froz.int .i64)).froz 9) ((rh_74.froz 6 (by decide)).toSlF (Froz.int .i64)) r_210 hr_211) ?_
                rintro _ w_212 ⟨rfl, hg_213⟩
                refine ⟨_, rfl, ?_⟩
                replace hg_213 : Grow col_85 w_83 col_85 w_212 := .of_below hg_213
                replace h1 := h1.gr hg_213
                replace rh_39 := rh_39.gr hg_213
                replace rh_47 := rh_47.gr hg_213
                replace rh_56 := rh_56.gr hg_213
                replace rh_65 := rh_65.gr hg_213
                replace rh_74 := rh_74.gr hg_213
                replace rh_82 := rh_82.gr hg_213
                replace hst := hst.grow hg_213
                refine lv (v := (.bool r_210)) rfl rfl (r_pickT (congrArg Value.bool hg_209) rfl) ?_
                refine lv (v := (.bool r_210)) rfl rfl (r_move rfl) ?_
                by_cases hg_214 : r_210 = true
                · rw [if_pos hg_214] at hm
                  refine lg (b := r_210) 79 rfl rfl rfl (by rw [hg_214]; rfl) ?_
                  refine lv (v := (.slice ra_54 r_52.1.length rc_55)) rfl rfl (r_move rfl) ?_
                  refine lg (b := r_210) 79 rfl rfl rfl (by rw [hg_214]; rfl) ?_
                  refine lv (v := (.slice ra_80 r_78.1.length rc_81)) rfl rfl (r_move rfl) ?_
                  refine lg (b := r_210) 79 rfl rfl rfl (by rw [hg_214]; rfl) ?_
                  obtain ⟨r_215, hr_216, hm⟩ := bind_some hm
                  refine lc rfl rfl (r_call2 Try.call36 rfl rfl) (c_r15_Ints N (frC 10 (frC 7 col_85)) _ ra_54 rc_55 r_52.1 ra_80 rc_81 r_78.1 ((rh_56.toSlF (Froz.int .i64)).froz 10) ((rh_82.froz 7 (by decide)).toSlF (Froz.int .i64)) r_215 hr_216) ?_
                  rintro _ w_217 ⟨rfl, hg_218⟩
                  refine ⟨_, rfl, ?_⟩
                  replace hg_218 : Grow col_85 w_212 col_85 w_217 := .of_below hg_218
                  replace h1 := h1.gr hg_218
                  replace rh_39 := rh_39.gr hg_218
                  replace rh_47 := rh_47.gr hg_218
                  replace rh_56 := rh_56.gr hg_218
                  replace rh_65 := rh_65.gr hg_218
                  replace rh_74 := rh_74.gr hg_218
                  replace rh_82 := rh_82.gr hg_218
                  replace hst := hst.grow hg_218
                  refine lv (v := (.bool r_215)) rfl rfl (r_pickT (congrArg Value.bool hg_214) rfl) ?_
                  refine lv (v := (.bool r_215)) rfl rfl (r_move rfl) ?_
                  by_cases hg_219 : r_215 = true
                  · rw [if_pos hg_219] at hm
                    refine lg (b := r_215) 84 rfl rfl rfl (by rw [hg_219]; rfl) ?_
                    refine lv (v := (.slice ra_63 r_61.1.length rc_64)) rfl rfl (r_move rfl) ?_
                    refine lg (b := r_215) 84 rfl rfl rfl (by rw [hg_219]; rfl) ?_
                    refine lv (v := (.slice ra_72 r_70.1.length rc_73)) rfl rfl (r_move rfl) ?_
                    refine lg (b := r_215) 84 rfl rfl rfl (by rw [hg_219]; rfl) ?_
                    obtain ⟨r_220, hr_221, hm⟩ := bind_some hm
                    refine lc rfl rfl (r_call2 Try.call36 rfl rfl) (c_r15_Ints N (frC 9 (frC 8 col_85)) _ ra_63 rc_64 r_61.1 ra_72 rc_73 r_70.1 ((rh_65.toSlF (Froz.int .i64)).froz 9) ((rh_74.froz 8 (by decide)).toSlF (Froz.int .i64)) r_220 hr_221) ?_
                    rintro _ w_222 ⟨rfl, hg_223⟩
                    refine ⟨_, rfl, ?_⟩
                    replace hg_223 : Grow col_85 w_217 col_85 w_222 := .of_below hg_223
                    replace h1 := h1.gr hg_223
                    replace rh_39 := rh_39.gr hg_223
                    replace rh_47 := rh_47.gr hg_223
                    replace rh_56 := rh_56.gr hg_223
                    replace rh_65 := rh_65.gr hg_223
                    replace rh_74 := rh_74.gr hg_223
                    replace hst := hst.grow hg_223
                    refine lv (v := (.bool r_220)) rfl rfl (r_pickT (congrArg Value.bool hg_219) rfl) ?_
                    refine lv (v := (.bool r_220)) rfl rfl (r_assign rfl) ?_
                    refine lnil ?_
                    exact ⟨col_85, r_220, hm, hst, h1, rh_47, rh_56, rh_65, rh_39, rfl, rfl, rfl, rfl, rfl, rfl, rfl, rfl, rfl⟩
                  · rw [if_neg hg_219] at hm
                    replace hg_219 := Bool.eq_false_iff.2 hg_219
                    refine lp (b := r_215) 84 rfl rfl rfl rfl (by rw [hg_219]; rfl) ?_
                    refine lp (b := r_215) 84 rfl rfl rfl rfl (by rw [hg_219]; rfl) ?_
                    refine lp (b := r_215) 84 rfl rfl rfl rfl (by rw [hg_219]; rfl) ?_
                    refine lv (v := (.bool false)) rfl rfl (r_pickF (congrArg Value.bool hg_219) rfl) ?_
                    refine lv (v := (.bool false)) rfl rfl (r_assign rfl) ?_
                    refine lnil ?_
                    exact ⟨col_85, false, hm, hst, h1, rh_47, rh_56, rh_65, rh_39, rfl, rfl, rfl, rfl, rfl, rfl, rfl, rfl, rfl⟩
                · rw [if_neg hg_214] at hm
                  replace hg_214 := Bool.eq_false_iff.2 hg_214
                  refine lp (b := r_210) 79 rfl rfl rfl rfl (by rw [hg_214]; rfl) ?_
                  refine lp (b := r_210) 79 rfl rfl rfl rfl (by rw [hg_214]; rfl) ?_
                  refine lp (b := r_210) 79 rfl rfl rfl rfl (by rw [hg_214]; rfl) ?_
                  refine lv (v := (.bool false)) rfl rfl (r_pickF (congrArg Value.bool hg_214) rfl) ?_
                  refine lv (v := (.bool false)) rfl rfl (r_move rfl) ?_
                  refine lp (b := false) 84 rfl rfl rfl rfl rfl ?_
                  refine lp (b := false) 84 rfl rfl rfl rfl rfl ?_
                  refine lp (b := false) 84 rfl rfl rfl rfl rfl ?_
                  refine lv (v := (.bool false)) rfl rfl (r_pickF rfl rfl) ?_
                  refine lv (v := (.bool false)) rfl rfl (r_assign rfl) ?_
                  refine lnil ?_
                  exact ⟨col_85, false, hm, hst, h1, rh_47, rh_56, rh_65, rh_39, rfl, rfl, rfl, rfl, rfl, rfl, rfl, rfl, rfl⟩
              · rw [if_neg hg_209] at hm
                replace hg_209 := Bool.eq_false_iff.2 hg_209
                refine lp (b := decide (r_52.2 = r_78.2)) 74 rfl rfl rfl rfl (by rw [hg_209]; rfl) ?_
                refine lp (b := decide (r_52.2 = r_78.2)) 74 rfl rfl rfl rfl (by rw [hg_209]; rfl) ?_
                refine lp (b := decide (r_52.2 = r_78.2)) 74 rfl rfl rfl rfl (by rw [hg_209]; rfl) ?_
                refine lv (v := (.bool false)) rfl rfl (r_pickF (congrArg Value.bool hg_209) rfl) ?_
                refine lv (v := (.bool false)) rfl rfl (r_move rfl) ?_
                refine lp (b := false) 79 rfl rfl rfl rfl rfl ?_
                refine lp (b := false) 79 rfl rfl rfl rfl rfl ?_
                refine lp (b := false) 79 rfl rfl rfl rfl rfl ?_
                refine lv (v := (.bool false)) rfl rfl (r_pickF rfl rfl) ?_
                refine lv (v := (.bool false)) rfl rfl (r_move rfl) ?_
                refine lp (b := false) 84 rfl rfl rfl rfl rfl ?_
                refine lp (b := false) 84 rfl rfl rfl rfl rfl ?_
                refine lp (b := false) 84 rfl rfl rfl rfl rfl ?_
                refine lv (v := (.bool false)) rfl rfl (r_pickF rfl rfl) ?_
                refine lv (v := (.bool false)) rfl rfl (r_assign rfl) ?_
                refine lnil ?_
                exact ⟨col_85, false, hm, hst, h1, rh_47, rh_56, rh_65, rh_39, rfl, rfl, rfl, rfl, rfl, rfl, rfl, rfl, rfl⟩
            · rw [if_neg hg_208] at hm
              replace hg_208 := Bool.eq_false_iff.2 hg_208
              refine lp (b := decide (r_43.2 = r_70.2)) 69 rfl rfl rfl rfl (by rw [hg_208]; rfl) ?_
              refine lp (b := decide (r_43.2 = r_70.2)) 69 rfl rfl rfl rfl (by rw [hg_208]; rfl) ?_
              refine lp (b := decide (r_43.2 = r_70.2)) 69 rfl rfl rfl rfl (by rw [hg_208]; rfl) ?_
              refine lv (v := (.bool false)) rfl rfl (r_pickF (congrArg Value.bool hg_208) rfl) ?_
              refine lv (v := (.bool false)) rfl rfl (r_move rfl) ?_
              refine lp (b := false) 74 rfl rfl rfl rfl rfl ?_
              refine lp (b := false) 74 rfl rfl rfl rfl rfl ?_
              refine lp (b := false) 74 rfl rfl rfl rfl rfl ?_
              refine lv (v := (.bool false)) rfl rfl (r_pickF rfl rfl) ?_
              refine lv (v := (.bool false)) rfl rfl (r_move rfl) ?_
              refine lp (b := false) 79 rfl rfl rfl rfl rfl ?_
              refine lp (b := false) 79 rfl rfl rfl rfl rfl ?_
              refine lp (b := false) 79 rfl rfl rfl rfl rfl ?_
              refine lv (v := (.bool false)) rfl rfl (r_pickF rfl rfl) ?_
              refine lv (v := (.bool false)) rfl rfl (r_move rfl) ?_
              refine lp (b := false) 84 rfl rfl rfl rfl rfl ?_
              refine lp (b := false) 84 rfl rfl rfl rfl rfl ?_
              refine lp (b := false) 84 rfl rfl rfl rfl rfl ?_
              refine lv (v := (.bool false)) rfl rfl (r_pickF rfl rfl) ?_
              refine lv (v := (.bool false)) rfl rfl (r_assign rfl) ?_
              refine lnil ?_
              exact ⟨col_85, false, hm, hst, h1, rh_47, rh_56, rh_65, rh_39, rfl, rfl, rfl, rfl, rfl, rfl, rfl, rfl, rfl⟩
      · refine wregion ?_
        refine lv (v := (.bool r_6)) rfl rfl (r_move rfl) ?_
        refine lv (v := (.bool (!r_6))) rfl rfl (r_not r_6 rfl) ?_
        refine lv (v := (.bool (!r_6))) rfl rfl (r_move rfl) ?_
        by_cases hg_224 : (!r_6) = true
        · rw [if_pos hg_224] at hm
          refine lp (b := !r_6) 30 rfl rfl rfl rfl (by rw [hg_224]; rfl) ?_
          refine lp (b := !r_6) 30 rfl rfl rfl rfl (by rw [hg_224]; rfl) ?_
          refine lv (v := (.bool true)) rfl rfl (r_pickT (congrArg Value.bool hg_224) rfl) ?_
          refine lnil ?_
          exact ⟨col_18, true, hm, hst, h1, rfl, rfl, rfl, rfl, rfl⟩
        · rw [if_neg hg_224] at hm
          replace hg_224 := Bool.eq_false_iff.2 hg_224
          refine lg (b := !r_6) 30 rfl rfl rfl (by rw [hg_224]; rfl) ?_
          refine lv (v := (.bool r_10.2.2)) rfl rfl (r_move rfl) ?_
          refine lg (b := !r_6) 30 rfl rfl rfl (by rw [hg_224]; rfl) ?_
          refine lv (v := (.bool (!r_10.2.2))) rfl rfl (r_not r_10.2.2 rfl) ?_
          refine lv (v := (.bool (!r_10.2.2))) rfl rfl (r_pickF (congrArg Value.bool hg_224) rfl) ?_
          refine lnil ?_
          exact ⟨col_18, (!r_10.2.2), hm, hst, h1, rfl, rfl, rfl, rfl, rfl⟩
    | some t_23 =>
      rw [hx_24] at hm rh_15
      replace hm := optC_some hm
      obtain ⟨g_25, a_27, cap_28, rfl, hB_26, hO_29⟩ := optP_some rh_15
      cases hm
  | some t_19 =>
    rw [hx_20] at hm rh_13
    replace hm := optC_some hm
    obtain ⟨o_21, rfl, hG_22⟩ := optP_some rh_13
    cases hx_226 : r_10.2.1 with
    | none =>
      rw [hx_226] at hm rh_15
      replace hm := optC_none hm
      obtain rfl := optP_none rh_15
      clear rh_15
      cases hm
    | some t_225 =>
      rw [hx_226] at hm rh_15
      replace hm := optC_some hm
      obtain ⟨g_227, a_229, cap_230, rfl, hB_228, hO_231⟩ := optP_some rh_15
      refine lv (v := (.tuple #[(.pointer (some ⟨o_21.g, 0, none⟩)), (.pointer (some ⟨g_227, 0, none⟩)), (.bool r_10.2.2)])) rfl rfl (r_move rfl) ?_
      refine lv (v := (.pointer (some ⟨o_21.g, 0, none⟩))) rfl rfl (r_extract rfl rfl) ?_
      refine lv (v := (.pointer (some ⟨g_227, 0, none⟩))) rfl rfl (r_extract rfl rfl) ?_
      refine lv (v := (.bool r_10.2.2)) rfl rfl (r_extract rfl rfl) ?_
      refine lv (v := (.pointer (some ⟨o_21.g, 0, none⟩))) rfl rfl (r_assign rfl) ?_
      refine lv (v := (.pointer (some ⟨g_227, 0, none⟩))) rfl rfl (r_assign rfl) ?_
      refine lv (v := (.bool r_10.2.2)) rfl rfl (r_assign rfl) ?_
      refine lnil ?_
      refine wseq ?_
      refine wseq ?_
      refine Wp.cut (fun f w_234 => ∃ (col_235 : Col) (v_236 : Bool), m_l18_OrderMade_J4 N p1_points t_19 t_225 v_236 = some r ∧ St w0 (col0 col) col_235 w_234 ∧ Sl (Rep.int .i64) col_235 w_234 a1 cap1 p1_points ∧ GO 85 86 2 col_235 w_234 o_21 t_19 ∧ Own (Rep.row 4 Rep.bool) 26 4 col_235 w_234 a_229 cap_230 t_225 ∧ Box 102 3 col_235 w_234 g_227 #[(.slice a_229 t_225.length cap_230)] ∧ f 1 = (.slice a1 p1_points.length cap1) ∧ f 33 = (.bool v_236) ∧ f 6 = (.pointer (some ⟨o_21.g, 0, none⟩)) ∧ f 7 = (.pointer (some ⟨g_227, 0, none⟩)) ∧ f 1000000 = (enc [])) ?_ ?_
      · intro f w_234 hJ
        obtain ⟨col_235, v_236, hm, hst, h1, hG_22, hO_231, hB_228, hs1, hs33, hs6, hs7, hs1000000⟩ := hJ
        rw [m_l18_OrderMade_J4.eq_1] at hm
        refine .ld (d := 1) (v := (.slice a1 p1_points.length cap1)) hs1 ?_
        refine .ld (d := 33) (v := (.bool v_236)) hs33 ?_
        refine .ld (d := 6) (v := (.pointer (some ⟨o_21.g, 0, none⟩))) hs6 ?_
        refine .ld (d := 7) (v := (.pointer (some ⟨g_227, 0, none⟩))) hs7 ?_
        refine .ld (d := 1000000) (v := (enc [])) hs1000000 ?_
        clear hs1 hs33 hs6 hs7 hs1000000
        refine wcond (v_236) rfl (fun hb => ?_) (fun hb => ?_)
        · rw [if_pos hb] at hm
          clear hb
          refine wseq ?_
          refine wregion ?_
          refine lv (v := (.bool false)) rfl rfl (r_assign rfl) ?_
          refine lnil ?_
          refine wret ?_
          cases hm
          exact ⟨rfl, rfl, hst.below⟩
        · rw [if_neg (by rw [hb]; decide)] at hm
          clear hb
          refine wskip ?_
          refine wseq ?_
          refine wregion ?_
          refine lv (v := (.slice a1 p1_points.length cap1)) rfl rfl (r_move rfl) ?_
          obtain ⟨r_237, hr_238, hm⟩ := bind_some hm
          refine lc rfl rfl (r_call1 Try.call31 rfl) (c_l18_ints N 11 col_235 _ a1 cap1 p1_points h1 r_237 hr_238) ?_
          rintro _ w_242 ⟨col_244, ra_239, rc_240, rfl, hg_243, rh_241⟩
          refine ⟨_, rfl, ?_⟩
          replace h1 := h1.gr hg_243
          replace hG_22 := hG_22.gr hg_243
          replace hO_231 := hO_231.gr hg_243
          replace hB_228 := hB_228.gr hg_243
          replace hst := hst.grow hg_243
          refine lv (v := (.slice ra_239 ((r_237.2.take r_237.1).length) rc_240)) rfl rfl (r_assign rfl) ?_
          refine lnil ?_
          refine wseq ?_
          refine wregion ?_
          refine lv (v := (.pointer (some ⟨o_21.g, 0, none⟩))) rfl rfl (r_move rfl) ?_
          refine lv (v := (.slice ra_239 ((r_237.2.take r_237.1).length) rc_240)) rfl rfl (r_move rfl) ?_
          obtain ⟨r_245, hr_246, hm⟩ := bind_some hm
          refine lc rfl rfl (r_call2 Try.call32 rfl rfl) (c_order_Fill N 12 (frC 11 col_244) _ 2 (by decide) o_21 t_19 ra_239 rc_240 (r_237.2.take r_237.1) (hG_22.froz 11 (by decide)) ((rh_241.take r_237.1).toSlF (Froz.int .i64)) r_245 hr_246) ?_
          rintro _ w_250 ⟨col_252, ra_247, rc_248, rfl, hg_251, rh_249⟩
          refine ⟨_, rfl, ?_⟩
          replace rh_249 := rh_249.thaw (flat_int .i64) hg_251 ((Fz.refl (col := col_244)).froz 11) (by decide)
          replace hg_251 := hg_251.thawR (col := col_244)
          generalize colR w_242.heap.size col_244 col_252 = col_253 at *
          replace h1 := h1.gr hg_251
          replace hG_22 := hG_22.gr hg_251
          replace hO_231 := hO_231.gr hg_251
          replace rh_241 := rh_241.gr hg_251
          replace hB_228 := hB_228.gr hg_251
          replace hst := hst.grow hg_251
          refine lv (v := (.tuple #[(.slice ra_247 r_245.1.length rc_248), (.int .i64 r_245.2)])) rfl rfl (r_move rfl) ?_
          refine lv (v := (.slice ra_247 r_245.1.length rc_248)) rfl rfl (r_extract rfl rfl) ?_
          refine lv (v := (.int .i64 r_245.2)) rfl rfl (r_extract rfl rfl) ?_
          refine lv (v := (.slice ra_247 r_245.1.length rc_248)) rfl rfl (r_assign rfl) ?_
          refine lv (v := (.int .i64 r_245.2)) rfl rfl (r_assign rfl) ?_
          refine lnil ?_
          refine wseq ?_
          refine wregion ?_
          refine lv (v := (.pointer (some ⟨o_21.g, 0, none⟩))) rfl rfl (r_move rfl) ?_
          refine lv (v := (.slice ra_239 ((r_237.2.take r_237.1).length) rc_240)) rfl rfl (r_move rfl) ?_
          obtain ⟨r_254, hr_255, hm⟩ := bind_some hm
          refine lc rfl rfl (r_call2 Try.call33 rfl rfl) (c_order_Degree N 13 (frC 11 col_253) _ 2 (by decide) o_21 t_19 ra_239 rc_240 (r_237.2.take r_237.1) (hG_22.froz 11 (by decide)) ((rh_241.take r_237.1).toSlF (Froz.int .i64)) r_254 hr_255) ?_
          rintro _ w_259 ⟨col_261, ra_256, rc_257, rfl, hg_260, rh_258⟩
          refine ⟨_, rfl, ?_⟩
          replace rh_258 := rh_258.thaw (flat_int .i64) hg_260 ((Fz.refl (col := col_253)).froz 11) (by decide)
          replace hg_260 := hg_260.thawR (col := col_253)
          generalize colR w_250.heap.size col_253 col_261 = col_262 at *
          replace h1 := h1.gr hg_260
          replace hG_22 := hG_22.gr hg_260
          replace hO_231 := hO_231.gr hg_260
          replace rh_241 := rh_241.gr hg_260
          replace rh_249 := rh_249.gr hg_260
          replace hB_228 := hB_228.gr hg_260
          replace hst := hst.grow hg_260
          refine lv (v := (.tuple #[(.slice ra_256 r_254.1.length rc_257), (.int .i64 r_254.2)])) rfl rfl (r_move rfl) ?_
          refine lv (v := (.slice ra_256 r_254.1.length rc_257)) rfl rfl (r_extract rfl rfl) ?_
          refine lv (v := (.int .i64 r_254.2)) rfl rfl (r_extract rfl rfl) ?_
          refine lv (v := (.slice ra_256 r_254.1.length rc_257)) rfl rfl (r_assign rfl) ?_
          refine lv (v := (.int .i64 r_254.2)) rfl rfl (r_assign rfl) ?_
          refine lnil ?_
          refine wseq ?_
          refine wregion ?_
          refine lv (v := (.pointer (some ⟨o_21.g, 0, none⟩))) rfl rfl (r_move rfl) ?_
          refine lv (v := (.slice ra_239 ((r_237.2.take r_237.1).length) rc_240)) rfl rfl (r_move rfl) ?_
          obtain ⟨r_263, hr_264, hm⟩ := bind_some hm
          refine lc rfl rfl (r_call2 Try.call32 rfl rfl) (c_order_Fill N 14 (frC 11 col_262) _ 2 (by decide) o_21 t_19 ra_239 rc_240 (r_237.2.take r_237.1) (hG_22.froz 11 (by decide)) ((rh_241.take r_237.1).toSlF (Froz.int .i64)) r_263 hr_264) ?_
          rintro _ w_268 ⟨col_270, ra_265, rc_266, rfl, hg_269, rh_267⟩
          refine ⟨_, rfl, ?_⟩
          replace rh_267 := rh_267.thaw (flat_int .i64) hg_269 ((Fz.refl (col := col_262)).froz 11) (by decide)
          replace hg_269 := hg_269.thawR (col := col_262)
          generalize colR w_259.heap.size col_262 col_270 = col_271 at *
          replace h1 := h1.gr hg_269
          replace hG_22 := hG_22.gr hg_269
          replace hO_231 := hO_231.gr hg_269
          replace rh_241 := rh_241.gr hg_269
          replace rh_249 := rh_249.gr hg_269
          replace rh_258 := rh_258.gr hg_269
          replace hB_228 := hB_228.gr hg_269
          replace hst := hst.grow hg_269
          refine lv (v := (.tuple #[(.slice ra_265 r_263.1.length rc_266), (.int .i64 r_263.2)])) rfl rfl (r_move rfl) ?_
          refine lv (v := (.slice ra_265 r_263.1.length rc_266)) rfl rfl (r_extract rfl rfl) ?_
          refine lv (v := (.int .i64 r_263.2)) rfl rfl (r_extract rfl rfl) ?_
          refine lv (v := (.slice ra_265 r_263.1.length rc_266)) rfl rfl (r_assign rfl) ?_
          refine lv (v := (.int .i64 r_263.2)) rfl rfl (r_assign rfl) ?_
          refine lnil ?_
          refine wseq ?_
          refine wregion ?_
          refine lv (v := (.pointer (some ⟨g_227, 0, none⟩))) rfl rfl (r_move rfl) ?_
          refine lv (v := (.slice a1 p1_points.length cap1)) rfl rfl (r_move rfl) ?_
          obtain ⟨r_272, hr_273, hm⟩ := bind_some hm
          refine lc rfl rfl (r_call2 Try.call34 rfl rfl) (c_r18_Fill N 15 col_271 _ 3 4 (by decide) (by decide) g_227 t_225 a_229 cap_230 a1 cap1 p1_points hO_231 hB_228 h1 r_272 hr_273) ?_
          rintro _ w_277 ⟨col_279, ra_274, rc_275, rfl, hg_278, rh_276⟩
          refine ⟨_, rfl, ?_⟩
          replace h1 := h1.gr hg_278
          replace hG_22 := hG_22.gr hg_278
          replace hO_231 := hO_231.gr hg_278
          replace rh_241 := rh_241.gr hg_278
          replace rh_249 := rh_249.gr hg_278
          replace rh_258 := rh_258.gr hg_278
          replace rh_267 := rh_267.gr hg_278
          replace hB_228 := hB_228.gr hg_278
          replace hst := hst.grow hg_278
          refine lv (v := (.tuple #[(.slice ra_274 r_272.1.length rc_275), (.int .i64 r_272.2)])) rfl rfl (r_move rfl) ?_
          refine lv (v := (.slice ra_274 r_272.1.length rc_275)) rfl rfl (r_extract rfl rfl) ?_
          refine lv (v := (.int .i64 r_272.2)) rfl rfl (r_extract rfl rfl) ?_
          refine lv (v := (.slice ra_274 r_272.1.length rc_275)) rfl rfl (r_assign rfl) ?_
          refine lv (v := (.int .i64 r_272.2)) rfl rfl (r_assign rfl) ?_
          refine lnil ?_
          refine wseq ?_
          refine wregion ?_
          refine lv (v := (.pointer (some ⟨g_227, 0, none⟩))) rfl rfl (r_move rfl) ?_
          refine lv (v := (.slice a1 p1_points.length cap1)) rfl rfl (r_move rfl) ?_
          obtain ⟨r_280, hr_281, hm⟩ := bind_some hm
          refine lc rfl rfl (r_call2 Try.call35 rfl rfl) (c_r18_Degree N 16 col_279 _ 3 4 (by decide) (by decide) g_227 t_225 a_229 cap_230 a1 cap1 p1_points hO_231 hB_228 h1 r_280 hr_281) ?_
          rintro _ w_285 ⟨col_287, ra_282, rc_283, rfl, hg_286, rh_284⟩
          refine ⟨_, rfl, ?_⟩
          replace h1 := h1.gr hg_286
          replace hG_22 := hG_22.gr hg_286
          replace hO_231 := hO_231.gr hg_286
          replace rh_241 := rh_241.gr hg_286
          replace rh_249 := rh_249.gr hg_286
          replace rh_258 := rh_258.gr hg_286
          replace rh_267 := rh_267.gr hg_286
          replace rh_276 := rh_276.gr hg_286
          replace hB_228 := hB_228.gr hg_286
          replace hst := hst.grow hg_286
          refine lv (v := (.tuple #[(.slice ra_282 r_280.1.length rc_283), (.int .i64 r_280.2)])) rfl rfl (r_move rfl) ?_
          refine lv (v := (.slice ra_282 r_280.1.length rc_283)) rfl rfl (r_extract rfl rfl) ?_
          refine lv (v := (.int .i64 r_280.2)) rfl rfl (r_extract rfl rfl) ?_
          refine lv (v := (.slice ra_282 r_280.1.length rc_283)) rfl rfl (r_assign rfl) ?_
          refine lv (v := (.int .i64 r_280.2)) rfl rfl (r_assign rfl) ?_
          refine lnil ?_
          refine wseq ?_
          refine Wp.cut (fun f w_320 => ∃ (col_321 : Col) (one_322 : Bool), m_l18_OrderMade_J5 N p1_points t_19 t_225 r_237 r_245 r_254 r_263 one_322 = some r ∧ St w0 (col0 col) col_321 w_320 ∧ Sl (Rep.int .i64) col_321 w_320 a1 cap1 p1_points ∧ Own (Rep.int .i64) 3 12 col_321 w_320 ra_247 rc_248 r_245.1 ∧ Own (Rep.int .i64) 3 13 col_321 w_320 ra_256 rc_257 r_254.1 ∧ Own (Rep.int .i64) 3 14 col_321 w_320 ra_265 rc_266 r_263.1 ∧ GO 85 86 2 col_321 w_320 o_21 t_19 ∧ Own (Rep.row 4 Rep.bool) 26 4 col_321 w_320 a_229 cap_230 t_225 ∧ Box 102 3 col_321 w_320 g_227 #[(.slice a_229 t_225.length cap_230)] ∧ Own (Rep.int .i64) 3 11 col_321 w_320 ra_239 rc_240 r_237.2 ∧ f 1 = (.slice a1 p1_points.length cap1) ∧ f 10 = (.slice ra_247 r_245.1.length rc_248) ∧ f 12 = (.slice ra_256 r_254.1.length rc_257) ∧ f 14 = (.slice ra_265 r_263.1.length rc_266) ∧ f 20 = (.bool one_322) ∧ f 6 = (.pointer (some ⟨o_21.g, 0, none⟩)) ∧ f 7 = (.pointer (some ⟨g_227, 0, none⟩)) ∧ f 9 = (.slice ra_239 ((r_237.2.take r_237.1).length) rc_240) ∧ f 1000000 = (enc [])) ?_ ?_
          · intro f w_320 hJ
            obtain ⟨col_321, one_322, hm, hst, h1, rh_249, rh_258, rh_267, hG_22, hO_231, hB_228, rh_241, hs1, hs10, hs12, hs14, hs20, hs6, hs7, hs9, hs1000000⟩ := hJ
            rw [m_l18_OrderMade_J5.eq_1] at hm
            refine .ld (d := 1) (v := (.slice a1 p1_points.length cap1)) hs1 ?_
            refine .ld (d := 10) (v := (.slice ra_247 r_245.1.length rc_248)) hs10 ?_
            refine .ld (d := 12) (v := (.slice ra_256 r_254.1.length rc_257)) hs12 ?_
            refine .ld (d := 14) (v := (.slice ra_265 r_263.1.length rc_266)) hs14 ?_
            refine .ld (d := 20) (v := (.bool one_322)) hs20 ?_
            refine .ld (d := 6) (v := (.pointer (some ⟨o_21.g, 0, none⟩))) hs6 ?_
            refine .ld (d := 7) (v := (.pointer (some ⟨g_227, 0, none⟩))) hs7 ?_
            refine .ld (d := 9) (v := (.slice ra_239 ((r_237.2.take r_237.1).length) rc_240)) hs9 ?_
            refine .ld (d := 1000000) (v := (enc [])) hs1000000 ?_
            clear hs1 hs10 hs12 hs14 hs20 hs6 hs7 hs9 hs1000000
            refine wseq ?_
            refine Wp.cut (fun f w_379 => ∃ (col_380 : Col) (v_381 : Bool), m_l18_OrderMade_J6 v_381 = some r ∧ St w0 (col0 col) col_380 w_379 ∧ f 4 = (.bool v_381) ∧ f 1000000 = (enc [])) ?_ ?_
            · intro f w_379 hJ
              obtain ⟨col_380, v_381, hm, hst, hs4, hs1000000⟩ := hJ
              rw [m_l18_OrderMade_J6.eq_1] at hm
              refine .ld (d := 4) (v := (.bool v_381)) hs4 ?_
              refine .ld (d := 1000000) (v := (enc [])) hs1000000 ?_
              clear hs4 hs1000000
              refine wret ?_
              cases hm
              exact ⟨rfl, rfl, hst.below⟩
            · refine wregion ?_
              refine lv (v := (.bool one_322)) rfl rfl (r_move rfl) ?_
              refine lv (v := (.bool one_322)) rfl rfl (r_move rfl) ?_
              by_cases hg_382 : one_322 = true
              · rw [if_pos hg_382] at hm
                refine lg (b := one_322) 90 rfl rfl rfl (by rw [hg_382]; rfl) ?_
                refine lv (v := (.slice ra_247 r_245.1.length rc_248)) rfl rfl (r_move rfl) ?_
                refine lg (b := one_322) 90 rfl rfl rfl (by rw [hg_382]; rfl) ?_
                refine lv (v := (.slice ra_256 r_254.1.length rc_257)) rfl rfl (r_move rfl) ?_
                refine lg (b := one_322) 90 rfl rfl rfl (by rw [hg_382]; rfl) ?_
                refine lv (v := (.slice ra_265 r_263.1.length rc_266)) rfl rfl (r_move rfl) ?_
                refine lg (b := one_322) 90 rfl rfl rfl (by rw [hg_382]; rfl) ?_
                have hx_383 : Has (Rep.row 3 (Rep.int .i64)) 12 col_321 w_320 [(.slice ra_247 r_245.1.length rc_248)] r_245.1 := rh_249.has
                have hx_384 : Has (Rep.row 3 (Rep.int .i64)) 13 col_321 w_320 [(.slice ra_256 r_254.1.length rc_257)] r_254.1 := rh_258.has
                have hx_385 : Has (Rep.row 3 (Rep.int .i64)) 14 col_321 w_320 [(.slice ra_265 r_263.1.length rc_266)] r_263.1 := rh_267.has
                have hx_386 := RowsH.cons (cs := [(.slice ra_256 r_254.1.length rc_257)]) hx_384 (RowsH.cons1 (cs := [(.slice ra_265 r_263.1.length rc_266)]) hx_385 Rows.nil0) (by decide) (by decide)
                replace hx_383 := hx_383.recol 13 14 (by decide)
                replace h1 := h1.recol 13 14 (by decide)
                replace hG_22 := hG_22.recol 13 14 (by decide)
                replace hO_231 := hO_231.recol 13 14 (by decide)
                replace rh_241 := rh_241.recol 13 14 (by decide)
                replace rh_249 := rh_249.recol 13 14 (by decide)
                replace rh_258 := rh_258.recolSelf 14 (by decide)
                replace rh_267 := rh_267.recol 13 14 (by decide)
                replace hB_228 := hB_228.recol 13 14 (by decide)
                replace hst := hst.recol 13 14 (by decide) (by decide)
                have hx_387 := RowsH.cons (cs := [(.slice ra_247 r_245.1.length rc_248)]) hx_383 hx_386 (by decide) (by decide)
                replace h1 := h1.recol 12 14 (by decide)
                replace hG_22 := hG_22.recol 12 14 (by decide)
                replace hO_231 := hO_231.recol 12 14 (by decide)
                replace rh_241 := rh_241.recol 12 14 (by decide)
                replace rh_249 := rh_249.recolSelf 14 (by decide)
                replace rh_258 := rh_258.recol 12 14 (by decide)
                replace rh_267 := rh_267.recol 12 14 (by decide)
                replace hB_228 := hB_228.recol 12 14 (by decide)
                replace hst := hst.recol 12 14 (by decide) (by decide)
                refine l_lit (col := (rcC 12 14 (rcC 13 14 col_321))) (r := (Rep.row 3 (Rep.int .i64))) (xs := [r_245.1, r_254.1, r_263.1]) [(.slice ra_247 r_245.1.length rc_248), (.slice ra_256 r_254.1.length rc_257), (.slice ra_265 r_263.1.length rc_266)] 14 rfl Try.underlying33 el22_8 rfl rfl rfl rfl rfl rfl (by intro v hv; simp only [List.mem_cons, List.not_mem_nil, or_false] at hv; rcases hv with rfl | rfl | rfl <;> rfl) hx_387 ?_
                intro a_388 w_389 col_390 hg_391 h_392
                replace h1 := h1.gr hg_391
                replace hG_22 := hG_22.gr hg_391
                replace hO_231 := hO_231.gr hg_391
                replace rh_241 := rh_241.gr hg_391
                replace rh_249 := rh_249.gr hg_391
                replace rh_258 := rh_258.gr hg_391
                replace rh_267 := rh_267.gr hg_391
                replace hB_228 := hB_228.gr hg_391
                replace hst := hst.grow hg_391
                refine lg (b := one_322) 90 rfl rfl rfl (by rw [hg_382]; rfl) ?_
                obtain ⟨r_393, hr_394, hm⟩ := bind_some hm
                refine lc rfl rfl (r_call1 Try.call37 (congrArg (fun n => Value.slice a_388 n 3) (List.length_map ..).symm)) (c_r15_Apart N col_390 _ 14 rfl a_388 3 ([r_245.1, r_254.1, r_263.1].map fun x => (x, false)) (h_392).half r_393 hr_394) ?_
                rintro _ w_397 ⟨col_399, rfl, hg_398, oh_395, ohl_396⟩
                refine ⟨_, rfl, ?_⟩
                replace h1 := h1.kpp hg_398 rfl
                replace hG_22 := hG_22.kpp hg_398 rfl rfl
                replace hO_231 := hO_231.kpp hg_398 rfl rfl
                replace rh_241 := rh_241.kpp hg_398 rfl rfl
                replace hB_228 := hB_228.kpp hg_398 rfl
                replace hst := hst.kpp hg_398 rfl rfl
                clear h_392
                refine lv (v := (.bool r_393.1)) rfl rfl (r_pickT (congrArg Value.bool hg_382) rfl) ?_
                refine lv (v := (.bool r_393.1)) rfl rfl (r_move rfl) ?_
                by_cases hg_400 : r_393.1 = true
                · rw [if_pos hg_400] at hm
                  refine lg (b := r_393.1) 97 rfl rfl rfl (by rw [hg_400]; rfl) ?_
                  refine lv (v := (.slice ra_239 ((r_237.2.take r_237.1).length) rc_240)) rfl rfl (r_move rfl) ?_
                  refine lg (b := r_393.1) 97 rfl rfl rfl (by rw [hg_400]; rfl) ?_
                  refine lv (v := (.slice a1 p1_points.length cap1)) rfl rfl (r_move rfl) ?_
                  refine lg (b := r_393.1) 97 rfl rfl rfl (by rw [hg_400]; rfl) ?_
                  obtain ⟨r_401, hr_402, hm⟩ := bind_some hm
                  refine lc rfl rfl (r_call2 Try.call38 rfl rfl) (c_l18_kept N (frC 11 col_399) _ ra_239 rc_240 r_237.1 r_237.2 a1 cap1 p1_points (rh_241.toSlF (Froz.int .i64)) (h1.froz 11) r_401 hr_402) ?_
                  rintro _ w_403 ⟨rfl, hg_404⟩
                  refine ⟨_, rfl, ?_⟩
                  replace hg_404 : Grow col_399 w_397 col_399 w_403 := .of_below hg_404
                  replace hG_22 := hG_22.gr hg_404
                  replace hO_231 := hO_231.gr hg_404
                  replace rh_241 := rh_241.gr hg_404
                  replace h1 := h1.gr hg_404
                  replace hB_228 := hB_228.gr hg_404
                  replace hst := hst.grow hg_404
                  refine lv (v := (.bool r_401)) rfl rfl (r_pickT (congrArg Value.bool hg_400) rfl) ?_
                  refine lv (v := (.bool r_401)) rfl rfl (r_move rfl) ?_
                  by_cases hg_405 : r_401 = true
                  · rw [if_pos hg_405] at hm
                    refine lg (b := r_401) 102 rfl rfl rfl (by rw [hg_405]; rfl) ?_
                    refine lv (v := (.pointer (some ⟨o_21.g, 0, none⟩))) rfl rfl (r_move rfl) ?_
                    refine lg (b := r_401) 102 rfl rfl rfl (by rw [hg_405]; rfl) ?_
                    refine lv (v := (.pointer (some ⟨g_227, 0, none⟩))) rfl rfl (r_move rfl) ?_
                    refine lg (b := r_401) 102 rfl rfl rfl (by rw [hg_405]; rfl) ?_
                    obtain ⟨r_406, hr_407, hm⟩ := bind_some hm
                    refine lc rfl rfl (r_call2 Try.call39 rfl rfl) (c_l18_unchanged N col_399 _ 2 3 4 (by decide) (by decide) (by decide) o_21 t_19 g_227 t_225 a_229 cap_230 hG_22 hO_231 hB_228 r_406 hr_407) ?_
                    rintro _ w_408 ⟨rfl, hg_409⟩
                    refine ⟨_, rfl, ?_⟩
                    replace hg_409 : Grow col_399 w_403 col_399 w_408 := .of_below hg_409
                    replace hG_22 := hG_22.gr hg_409
                    replace hO_231 := hO_231.gr hg_409
                    replace hB_228 := hB_228.gr hg_409
                    replace hst := hst.grow hg_409
                    refine lv (v := (.bool r_406)) rfl rfl (r_pickT (congrArg Value.bool hg_405) rfl) ?_
                    refine lv (v := (.bool r_406)) rfl rfl (r_assign rfl) ?_
                    refine lnil ?_
                    exact ⟨col_399, r_406, hm, hst, rfl, rfl⟩
                  · rw [if_neg hg_405] at hm
                    replace hg_405 := Bool.eq_false_iff.2 hg_405
                    refine lp (b := r_401) 102 rfl rfl rfl rfl (by rw [hg_405]; rfl) ?_
                    refine lp (b := r_401) 102 rfl rfl rfl rfl (by rw [hg_405]; rfl) ?_
                    refine lp (b := r_401) 102 rfl rfl rfl rfl (by rw [hg_405]; rfl) ?_
                    refine lv (v := (.bool false)) rfl rfl (r_pickF (congrArg Value.bool hg_405) rfl) ?_
                    refine lv (v := (.bool false)) rfl rfl (r_assign rfl) ?_
                    refine lnil ?_
                    exact ⟨col_399, false, hm, hst, rfl, rfl⟩
                · rw [if_neg hg_400] at hm
                  replace hg_400 := Bool.eq_false_iff.2 hg_400
                  refine lp (b := r_393.1) 97 rfl rfl rfl rfl (by rw [hg_400]; rfl) ?_
                  refine lp (b := r_393.1) 97 rfl rfl rfl rfl (by rw [hg_400]; rfl) ?_
                  refine lp (b := r_393.1) 97 rfl rfl rfl rfl (by rw [hg_400]; rfl) ?_
                  refine lv (v := (.bool false)) rfl rfl (r_pickF (congrArg Value.bool hg_400) rfl) ?_
                  refine lv (v := (.bool false)) rfl rfl (r_move rfl) ?_
                  refine lp (b := false) 102 rfl rfl rfl rfl rfl ?_
                  refine lp (b := false) 102 rfl rfl rfl rfl rfl ?_
                  refine lp (b := false) 102 rfl rfl rfl rfl rfl ?_
                  refine lv (v := (.bool false)) rfl rfl (r_pickF rfl rfl) ?_
                  refine lv (v := (.bool false)) rfl rfl (r_assign rfl) ?_
                  refine lnil ?_
                  exact ⟨col_399, false, hm, hst, rfl, rfl⟩
              · rw [if_neg hg_382] at hm
                replace hg_382 := Bool.eq_false_iff.2 hg_382
                refine lp (b := one_322) 90 rfl rfl rfl rfl (by rw [hg_382]; rfl) ?_
                refine lp (b := one_322) 90 rfl rfl rfl rfl (by rw [hg_382]; rfl) ?_
                refine lp (b := one_322) 90 rfl rfl rfl rfl (by rw [hg_382]; rfl) ?_
                refine lp (b := one_322) 90 rfl rfl rfl rfl (by rw [hg_382]; rfl) ?_
                refine lp (b := one_322) 90 rfl rfl rfl rfl (by rw [hg_382]; rfl) ?_
                refine lv (v := (.bool false)) rfl rfl (r_pickF (congrArg Value.bool hg_382) rfl) ?_
                refine lv (v := (.bool false)) rfl rfl (r_move rfl) ?_
                refine lp (b := false) 97 rfl rfl rfl rfl rfl ?_
                refine lp (b := false) 97 rfl rfl rfl rfl rfl ?_
                refine lp (b := false) 97 rfl rfl rfl rfl rfl ?_
                refine lv (v := (.bool false)) rfl rfl (r_pickF rfl rfl) ?_
                refine lv (v := (.bool false)) rfl rfl (r_move rfl) ?_
                refine lp (b := false) 102 rfl rfl rfl rfl rfl ?_
                refine lp (b := false) 102 rfl rfl rfl rfl rfl ?_
                refine lp (b := false) 102 rfl rfl rfl rfl rfl ?_
                refine lv (v := (.bool false)) rfl rfl (r_pickF rfl rfl) ?_
                refine lv (v := (.bool false)) rfl rfl (r_assign rfl) ?_
                refine lnil ?_
                exact ⟨col_321, false, hm, hst, rfl, rfl⟩
          · refine wregion ?_
            refine lv (v := (.int .i64 r_245.2)) rfl rfl (r_move rfl) ?_
            refine lv (v := (.int .i64 r_272.2)) rfl rfl (r_move rfl) ?_
            refine lv (v := (.bool (decide (r_245.2 = r_272.2)))) rfl rfl (r_eql r_245.2 r_272.2 rfl rfl) ?_
            refine lv (v := (.bool (decide (r_245.2 = r_272.2)))) rfl rfl (r_move rfl) ?_
            by_cases hg_410 : (decide (r_245.2 = r_272.2)) = true
            · rw [if_pos hg_410] at hm
              refine lg (b := decide (r_245.2 = r_272.2)) 69 rfl rfl rfl (by rw [hg_410]; rfl) ?_
              refine lv (v := (.int .i64 r_254.2)) rfl rfl (r_move rfl) ?_
              refine lg (b := decide (r_245.2 = r_272.2)) 69 rfl rfl rfl (by rw [hg_410]; rfl) ?_
              refine lv (v := (.int .i64 r_280.2)) rfl rfl (r_move rfl) ?_
              refine lg (b := decide (r_245.2 = r_272.2)) 69 rfl rfl rfl (by rw [hg_410]; rfl) ?_
              refine lv (v := (.bool (decide (r_254.2 = r_280.2)))) rfl rfl (r_eql r_254.2 r_280.2 rfl rfl) ?_
              refine lv (v := (.bool (decide (r_254.2 = r_280.2)))) rfl rfl (r_pickT (congrArg Value.bool hg_410) rfl) ?_
              refine lv (v := (.bool (decide (r_254.2 = r_280.2)))) rfl rfl (r_move rfl) ?_
              by_cases hg_411 : (decide (r_254.2 = r_280.2)) = true
              · rw [if_pos hg_411] at hm
                refine lg (b := decide (r_254.2 = r_280.2)) 74 rfl rfl rfl (by rw [hg_411]; rfl) ?_
                refine lv (v := (.slice ra_247 r_245.1.length rc_248)) rfl rfl (r_move rfl) ?_
                refine lg (b := decide (r_254.2 = r_280.2)) 74 rfl rfl rfl (by rw [hg_411]; rfl) ?_
                refine lv (v := (.slice ra_274 r_272.1.length rc_275)) rfl rfl (r_move rfl) ?_
                refine lg (b := decide (r_254.2 = r_280.2)) 74 rfl rfl rfl (by rw [hg_411]; rfl) ?_
                obtain ⟨r_412, hr_413, hm⟩ := bind_some hm
                refine lc rfl rfl (r_call2 Try.call36 rfl rfl) (c_r15_Ints N (frC 15 (frC 12 col_287)) _ ra_247 rc_248 r_245.1 ra_274 rc_275 r_272.1 ((rh_249.toSlF (Froz.int .i64)).froz 15) ((rh_276.froz 12 (by decide)).toSlF (Froz.int .i64)) r_412 hr_413) ?_
                rintro _ w_414 ⟨rfl, hg_415⟩
                refine ⟨_, rfl, ?_⟩
                replace hg_415 : Grow col_287 w_285 col_287 w_414 := .of_below hg_415
                replace h1 := h1.gr hg_415
                replace hG_22 := hG_22.gr hg_415
                replace hO_231 := hO_231.gr hg_415
                replace rh_241 := rh_241.gr hg_415
                replace rh_249 := rh_249.gr hg_415
                replace rh_258 := rh_258.gr hg_415
                replace rh_267 := rh_267.gr hg_415
                replace rh_276 := rh_276.gr hg_415
                replace rh_284 := rh_284.gr hg_415
                replace hB_228 := hB_228.gr hg_415
                replace hst := hst.grow hg_415
                refine lv (v := (.bool r_412)) rfl rfl (r_pickT (congrArg Value.bool hg_411) rfl) ?_
                refine lv (v := (.bool r_412)) rfl rfl (r_move rfl) ?_
                by_cases hg_416 : r_412 = true
                · rw [if_pos hg_416] at hm
                  refine lg (b := r_412) 79 rfl rfl rfl (by rw [hg_416]; rfl) ?_
                  refine lv (v := (.slice ra_256 r_254.1.length rc_257)) rfl rfl (r_move rfl) ?_
                  refine lg (b := r_412) 79 rfl rfl rfl (by rw [hg_416]; rfl) ?_
                  refine lv (v := (.slice ra_282 r_280.1.length rc_283)) rfl rfl (r_move rfl) ?_
                  refine lg (b := r_412) 79 rfl rfl rfl (by rw [hg_416]; rfl) ?_
                  obtain ⟨r_417, hr_418, hm⟩ := bind_some hm
                  refine lc rfl rfl (r_call2 Try.call36 rfl rfl) (c_r15_Ints N (frC 16 (frC 13 col_287)) _ ra_256 rc_257 r_254.1 ra_282 rc_283 r_280.1 ((rh_258.toSlF (Froz.int .i64)).froz 16) ((rh_284.froz 13 (by decide)).toSlF (Froz.int .i64)) r_417 hr_418) ?_
                  rintro _ w_419 ⟨rfl, hg_420⟩
                  refine ⟨_, rfl, ?_⟩
                  replace hg_420 : Grow col_287 w_414 col_287 w_419 := .of_below hg_420
                  replace h1 := h1.gr hg_420
                  replace hG_22 := hG_22.gr hg_420
                  replace hO_231 := hO_231.gr hg_420
                  replace rh_241 := rh_241.gr hg_420
                  replace rh_249 := rh_249.gr hg_420
                  replace rh_258 := rh_258.gr hg_420
                  replace rh_267 := rh_267.gr hg_420
                  replace rh_276 := rh_276.gr hg_420
                  replace rh_284 := rh_284.gr hg_420
                  replace hB_228 := hB_228.gr hg_420
                  replace hst := hst.grow hg_420
                  refine lv (v := (.bool r_417)) rfl rfl (r_pickT (congrArg Value.bool hg_416) rfl) ?_
                  refine lv (v := (.bool r_417)) rfl rfl (r_move rfl) ?_
                  by_cases hg_421 : r_417 = true
                  · rw [if_pos hg_421] at hm
                    refine lg (b := r_417) 84 rfl rfl rfl (by rw [hg_421]; rfl) ?_
                    refine lv (v := (.slice ra_265 r_263.1.length rc_266)) rfl rfl (r_move rfl) ?_
                    refine lg (b := r_417) 84 rfl rfl rfl (by rw [hg_421]; rfl) ?_
                    refine lv (v := (.slice ra_274 r_272.1.length rc_275)) rfl rfl (r_move rfl) ?_
                    refine lg (b := r_417) 84 rfl rfl rfl (by rw [hg_421]; rfl) ?_
                    obtain ⟨r_422, hr_423, hm⟩ := bind_some hm
                    refine lc rfl rfl (r_call2 Try.call36 rfl rfl) (c_r15_Ints N (frC 15 (frC 14 col_287)) _ ra_265 rc_266 r_263.1 ra_274 rc_275 r_272.1 ((rh_267.toSlF (Froz.int .i64)).froz 15) ((rh_276.froz 14 (by decide)).toSlF (Froz.int .i64)) r_422 hr_423) ?_
                    rintro _ w_424 ⟨rfl, hg_425⟩
                    refine ⟨_, rfl, ?_⟩
                    replace hg_425 : Grow col_287 w_419 col_287 w_424 := .of_below hg_425
                    replace h1 := h1.gr hg_425
                    replace hG_22 := hG_22.gr hg_425
                    replace hO_231 := hO_231.gr hg_425
                    replace rh_241 := rh_241.gr hg_425
                    replace rh_249 := rh_249.gr hg_425
                    replace rh_258 := rh_258.gr hg_425
                    replace rh_267 := rh_267.gr hg_425
                    replace rh_276 := rh_276.gr hg_425
                    replace hB_228 := hB_228.gr hg_425
                    replace hst := hst.grow hg_425
                    refine lv (v := (.bool r_422)) rfl rfl (r_pickT (congrArg Value.bool hg_421) rfl) ?_
                    refine lv (v := (.bool r_422)) rfl rfl (r_assign rfl) ?_
                    refine lnil ?_
                    exact ⟨col_287, r_422, hm, hst, h1, rh_249, rh_258, rh_267, hG_22, hO_231, hB_228, rh_241, rfl, rfl, rfl, rfl, rfl, rfl, rfl, rfl, rfl⟩
                  · rw [if_neg hg_421] at hm
                    replace hg_421 := Bool.eq_false_iff.2 hg_421
                    refine lp (b := r_417) 84 rfl rfl rfl rfl (by rw [hg_421]; rfl) ?_
                    refine lp (b := r_417) 84 rfl rfl rfl rfl (by rw [hg_421]; rfl) ?_
                    refine lp (b := r_417) 84 rfl rfl rfl rfl (by rw [hg_421]; rfl) ?_
                    refine lv (v := (.bool false)) rfl rfl (r_pickF (congrArg Value.bool hg_421) rfl) ?_
                    refine lv (v := (.bool false)) rfl rfl (r_assign rfl) ?_
                    refine lnil ?_
                    exact ⟨col_287, false, hm, hst, h1, rh_249, rh_258, rh_267, hG_22, hO_231, hB_228, rh_241, rfl, rfl, rfl, rfl, rfl, rfl, rfl, rfl, rfl⟩
                · rw [if_neg hg_416] at hm
                  replace hg_416 := Bool.eq_false_iff.2 hg_416
                  refine lp (b := r_412) 79 rfl rfl rfl rfl (by rw [hg_416]; rfl) ?_
                  refine lp (b := r_412) 79 rfl rfl rfl rfl (by rw [hg_416]; rfl) ?_
                  refine lp (b := r_412) 79 rfl rfl rfl rfl (by rw [hg_416]; rfl) ?_
                  refine lv (v := (.bool false)) rfl rfl (r_pickF (congrArg Value.bool hg_416) rfl) ?_
                  refine lv (v := (.bool false)) rfl rfl (r_move rfl) ?_
                  refine lp (b := false) 84 rfl rfl rfl rfl rfl ?_
                  refine lp (b := false) 84 rfl rfl rfl rfl rfl ?_
                  refine lp (b := false) 84 rfl rfl rfl rfl rfl ?_
                  refine lv (v := (.bool false)) rfl rfl (r_pickF rfl rfl) ?_
                  refine lv (v := (.bool false)) rfl rfl (r_assign rfl) ?_
                  refine lnil ?_
                  exact ⟨col_287, false, hm, hst, h1, rh_249, rh_258, rh_267, hG_22, hO_231, hB_228, rh_241, rfl, rfl, rfl, rfl, rfl, rfl, rfl, rfl, rfl⟩
              · rw [if_neg hg_411] at hm
                replace hg_411 := Bool.eq_false_iff.2 hg_411
                refine lp (b := decide (r_254.2 = r_280.2)) 74 rfl rfl rfl rfl (by rw [hg_411]; rfl) ?_
                refine lp (b := decide (r_254.2 = r_280.2)) 74 rfl rfl rfl rfl (by rw [hg_411]; rfl) ?_
                refine lp (b := decide (r_254.2 = r_280.2)) 74 rfl rfl rfl rfl (by rw [hg_411]; rfl) ?_
                refine lv (v := (.bool false)) rfl rfl (r_pickF (congrArg Value.bool hg_411) rfl) ?_
                refine lv (v := (.bool false)) rfl rfl (r_move rfl) ?_
                refine lp (b := false) 79 rfl rfl rfl rfl rfl ?_
                refine lp (b := false) 79 rfl rfl rfl rfl rfl ?_
                refine lp (b := false) 79 rfl rfl rfl rfl rfl ?_
                refine lv (v := (.bool false)) rfl rfl (r_pickF rfl rfl) ?_
                refine lv (v := (.bool false)) rfl rfl (r_move rfl) ?_
                refine lp (b := false) 84 rfl rfl rfl rfl rfl ?_
                refine lp (b := false) 84 rfl rfl rfl rfl rfl ?_
                refine lp (b := false) 84 rfl rfl rfl rfl rfl ?_
                refine lv (v := (.bool false)) rfl rfl (r_pickF rfl rfl) ?_
                refine lv (v := (.bool false)) rfl rfl (r_assign rfl) ?_
                refine lnil ?_
                exact ⟨col_287, false, hm, hst, h1, rh_249, rh_258, rh_267, hG_22, hO_231, hB_228, rh_241, rfl, rfl, rfl, rfl, rfl, rfl, rfl, rfl, rfl⟩
            · rw [if_neg hg_410] at hm
              replace hg_410 := Bool.eq_false_iff.2 hg_410
              refine lp (b := decide (r_245.2 = r_272.2)) 69 rfl rfl rfl rfl (by rw [hg_410]; rfl) ?_
              refine lp (b := decide (r_245.2 = r_272.2)) 69 rfl rfl rfl rfl (by rw [hg_410]; rfl) ?_
              refine lp (b := decide (r_245.2 = r_272.2)) 69 rfl rfl rfl rfl (by rw [hg_410]; rfl) ?_
              refine lv (v := (.bool false)) rfl rfl (r_pickF (congrArg Value.bool hg_410) rfl) ?_
              refine lv (v := (.bool false)) rfl rfl (r_move rfl) ?_
              refine lp (b := false) 74 rfl rfl rfl rfl rfl ?_
              refine lp (b := false) 74 rfl rfl rfl rfl rfl ?_
              refine lp (b := false) 74 rfl rfl rfl rfl rfl ?_
              refine lv (v := (.bool false)) rfl rfl (r_pickF rfl rfl) ?_
              refine lv (v := (.bool false)) rfl rfl (r_move rfl) ?_
              refine lp (b := false) 79 rfl rfl rfl rfl rfl ?_
              refine lp (b := false) 79 rfl rfl rfl rfl rfl ?_
              refine lp (b := false) 79 rfl rfl rfl rfl rfl ?_
              refine lv (v := (.bool false)) rfl rfl (r_pickF rfl rfl) ?_
              refine lv (v := (.bool false)) rfl rfl (r_move rfl) ?_
              refine lp (b := false) 84 rfl rfl rfl rfl rfl ?_
              refine lp (b := false) 84 rfl rfl rfl rfl rfl ?_
              refine lp (b := false) 84 rfl rfl rfl rfl rfl ?_
              refine lv (v := (.bool false)) rfl rfl (r_pickF rfl rfl) ?_
              refine lv (v := (.bool false)) rfl rfl (r_assign rfl) ?_
              refine lnil ?_
              exact ⟨col_287, false, hm, hst, h1, rh_249, rh_258, rh_267, hG_22, hO_231, hB_228, rh_241, rfl, rfl, rfl, rfl, rfl, rfl, rfl, rfl, rfl⟩
      · refine wregion ?_
        refine lv (v := (.bool r_6)) rfl rfl (r_move rfl) ?_
        refine lv (v := (.bool (!r_6))) rfl rfl (r_not r_6 rfl) ?_
        refine lv (v := (.bool (!r_6))) rfl rfl (r_move rfl) ?_
        by_cases hg_426 : (!r_6) = true
        · rw [if_pos hg_426] at hm
          refine lp (b := !r_6) 30 rfl rfl rfl rfl (by rw [hg_426]; rfl) ?_
          refine lp (b := !r_6) 30 rfl rfl rfl rfl (by rw [hg_426]; rfl) ?_
          refine lv (v := (.bool true)) rfl rfl (r_pickT (congrArg Value.bool hg_426) rfl) ?_
          refine lnil ?_
          exact ⟨col_18, true, hm, hst, h1, hG_22, hO_231, hB_228, rfl, rfl, rfl, rfl, rfl⟩
        · rw [if_neg hg_426] at hm
          replace hg_426 := Bool.eq_false_iff.2 hg_426
          refine lg (b := !r_6) 30 rfl rfl rfl (by rw [hg_426]; rfl) ?_
          refine lv (v := (.bool r_10.2.2)) rfl rfl (r_move rfl) ?_
          refine lg (b := !r_6) 30 rfl rfl rfl (by rw [hg_426]; rfl) ?_
          refine lv (v := (.bool (!r_10.2.2))) rfl rfl (r_not r_10.2.2 rfl) ?_
          refine lv (v := (.bool (!r_10.2.2))) rfl rfl (r_pickF (congrArg Value.bool hg_426) rfl) ?_
          refine lnil ?_
          exact ⟨col_18, (!r_10.2.2), hm, hst, h1, hG_22, hO_231, hB_228, rfl, rfl, rfl, rfl, rfl⟩









section
variable {n N : Nat} {t u : List (List Bool)} {a b x y : Int}
theorem ints15_L1 (l : List Int) (hl : l.length ≤ 1048576) : ∀ (f i : Nat), i ≤ l.length → l.length - i < f → m_r15_Ints_L1 N l l f (i : Int) = some true
  | 0, i, _, hf => by omega
  | f + 1, i, hi, hf => by
    rw [m_r15_Ints_L1.eq_2]
    by_cases hlt : i < l.length
    · rw [if_pos (decide_eq_true (by omega)), at?_lt hlt]
      simp only [Option.bind_some]
      rw [if_neg (by simp), wS (by omega)]
      exact ints15_L1 l hl f (i + 1) (by omega) (by omega)
    · rw [if_neg (by simp; omega)]
theorem ints15_eq (l : List Int) (hl : l.length ≤ 1048576) (hN : 1048576 < N) : m_r15_Ints N l l = some true := by
  unfold m_r15_Ints
  rw [if_neg (by simp)]
  exact ints15_L1 l hl N 0 (by omega) (by omega)
theorem unchanged_L1 (h : Tab n t) (hn : n ≤ 1024) (hN : 1048576 < N) : ∀ (f i : Nat), i ≤ n → n - i < f → m_l18_unchanged_L1 N t t f (i : Int) = some true
  | 0, i, _, hf => by omega
  | f + 1, i, hi, hf => by
    rw [m_l18_unchanged_L1.eq_2]
    unfold m_r15_Graph_Len m_graph_Graph_Len
    simp only [Option.bind_some]
    rw [h.len]
    by_cases hlt : i < n
    · have hnl := near_len (a := (i : Int)) h
      rw [if_pos (decide_eq_true (by omega)), Near_eq h hn, refNear_eq h hn (by omega)]
      simp only [Option.bind_some]
      rw [ints15_eq _ (by omega) hN]
      simp only [Option.bind_some]
      rw [if_neg (by simp), wS (by omega)]
      exact unchanged_L1 h hn hN f (i + 1) (by omega) (by omega)
    · rw [if_neg (by simp; omega)]
      simp
theorem unchanged_eq (h : Tab n t) (hn : n ≤ 1024) (hN : 1048576 < N) : m_l18_unchanged N t t = some true := unchanged_L1 h hn hN N 0 (by omega) (by omega)
theorem Ordered.short {wt : List (List Bool) → Int → Int} {l : List Int} {r : List Int × Int} (h : Ordered n wt t l r) : r.1.length ≤ n := by
  unfold Ordered at h
  by_cases h0 : wrongC n l = 0
  · rw [if_pos h0] at h
    obtain ⟨hr, hd⟩ := wrong_zero.1 h0
    have hp := h.2.perm hd
    exact Go.Proofs.Ytgkofjmeopbkbaa.short (fun x hx => hr x ((hp.2 x).1 hx)) hp.1
  · rw [if_neg h0] at h
    rw [h]; simp
theorem fill_v0n (l : List Int) : m_order_Fill_v0n l = some ([], 2) := rfl
theorem degree_v0n (l : List Int) : m_order_Degree_v0n l = some ([], 2) := rfl
theorem refFill_v0n (l : List Int) : m_r18_Fill_v0n l = some ([], 2) := rfl
theorem refDegree_v0n (l : List Int) : m_r18_Degree_v0n l = some ([], 2) := rfl
theorem OrderMade_true (d : Int) (pairs l : List Int) (hp : pairs.length ≤ 9223372036854775000) (hl : l.length < 17592186044000) (hN : 100000000000000 ≤ N) (hN2 : pairs.length + 3000 < N) : m_l18_OrderMade N (d, pairs) l = some true := by
  unfold m_l18_OrderMade w_l18_awake
  simp only [Option.bind_some]
  by_cases hd : d < 0
  · have e : m_l18_drawn N (d, pairs) = some (none, none, true) := by
      unfold m_l18_drawn; rw [if_pos (by simpa using hd)]
    obtain ⟨l', ea⟩ := Apart_true (N := N) [[], [], []] (by simp) (by simp) (by omega)
    rw [e]
    simp only [Option.bind_some]
    unfold optC
    simp only []
    rw [if_neg (by decide)]
    unfold m_l18_OrderMade_J1
    rw [if_neg (by decide), ints_eq l hl (by omega)]
    simp only [Option.bind_some]
    rw [fill_v0n, degree_v0n, refFill_v0n, refDegree_v0n]
    simp only [Option.bind_some]
    rw [ints15_eq [] (by simp) (by omega)]
    simp only [Option.bind_some, decide_true, if_true]
    unfold m_l18_OrderMade_J2
    rw [if_pos rfl, ea]
    simp only [Option.bind_some, if_true]
    rw [kept_eq l hl (by omega)]
    rfl
  · obtain ⟨n, t, hn, h, e⟩ := drawn18_eq pairs hp hN2 d hd
    rw [e]
    simp only [Option.bind_some]
    unfold optC
    simp only []
    rw [if_neg (by decide)]
    unfold m_l18_OrderMade_J4
    rw [if_neg (by decide), ints_eq l hl (by omega)]
    simp only [Option.bind_some, List.take_left]
    obtain ⟨ra, o1, e1⟩ := Fill_ordered h (by omega) (show 2048 < N by omega) l hl
    obtain ⟨rb, o2, e2⟩ := Degree_ordered h (by omega) (show 2048 < N by omega) l hl
    obtain ⟨rc, o3, e3⟩ := refFillO_eq h (by omega) (show 3000000 < N by omega) l hl (by omega)
    obtain ⟨rd, o4, e4⟩ := refDegreeO_eq h (by omega) (show 3000000 < N by omega) l hl (by omega)
    obtain rfl := o1.uniq o3
    obtain rfl := o2.uniq o4
    have s1 := o1.short
    have s2 := o2.short
    obtain ⟨l', ea⟩ := Apart_true (N := N) [ra.1, rb.1, ra.1] (by simp) (fun c hc => by
      simp only [List.mem_cons, List.not_mem_nil, or_false] at hc
      rcases hc with rfl | rfl | rfl <;> omega) (by omega)
    rw [e1, e2, e3, e4]
    simp only [Option.bind_some]
    rw [ints15_eq ra.1 (by omega) (by omega), ints15_eq rb.1 (by omega) (by omega)]
    simp only [Option.bind_some, decide_true, if_true]
    unfold m_l18_OrderMade_J5
    rw [if_pos rfl, ea]
    simp only [Option.bind_some, if_true]
    rw [kept_eq l hl (by omega)]
    simp only [Option.bind_some, if_true]
    rw [unchanged_eq h.tab (by omega) (by omega)]
    rfl
end

end Go.Proofs.Ytgkofjmeopbkbaa
