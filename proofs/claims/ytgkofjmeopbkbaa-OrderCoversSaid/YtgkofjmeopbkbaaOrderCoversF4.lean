/-
  What functions of the program compute, as plain Lean functions (m_..), and proofs that they compute it (c_..). Printed by a program of the author; no conditions.
-/
import Derived.Test.YtgkofjmeopbkbaaFloat
import Derived.Test.YtgkofjmeopbkbaaProg
import Derived.Test.YtgkofjmeopbkbaaGraph
import Derived.Test.YtgkofjmeopbkbaaOrderCoversF3
set_option linter.unusedVariables false
namespace Go.Proofs.Ytgkofjmeopbkbaa
open Go Go.RowKit


set_option maxRecDepth 100000 in
theorem el3_11 : ElemOk Try.prog 3 1 8 := ⟨Try.t3, _, rfl, rfl, rfl, rfl, rfl⟩
set_option maxRecDepth 100000 in
theorem el22_11 : ElemOk Try.prog 22 1 24 := ⟨Try.t22, _, rfl, rfl, rfl, rfl, rfl⟩

def m_credencelaw18_OrderCovers_J2 (v_33 : Bool) : Option Bool :=
  some v_33

def m_credencelaw18_OrderCovers_J1 (r_6 : Bool) (r_10 : ((Option (List (List Bool))) × (Option ((List (List Bool)))) × Bool)) : Option Bool :=
  if r_6 = true then (m_credencelaw18_OrderCovers_J2 r_10.2.2) else (m_credencelaw18_OrderCovers_J2 false)

def m_credencelaw18_OrderCovers_J4 (v_48 : Bool) : Option Bool :=
  some v_48

def m_credencelaw18_OrderCovers_J5 (i_95 : Int) (kk_L1 : ((List Int) → (List Int) → Int → Option Bool)) (c_98 : List Int) (left_102 : List Int) : Option Bool :=
  kk_L1 c_98 left_102 (IntKind.i64.wrap (i_95 + 1))

def m_credencelaw18_OrderCovers_J6 (c_87 : List Int) (left_91 : List Int) (i_95 : Int) (kk_L1 : ((List Int) → (List Int) → Int → Option Bool)) (k_108 : Int) : Option Bool :=
  (at? left_91 k_108).bind fun e_109 => chk ((c_87.length + [e_109].length) * 8 ≤ 140737488355328 ∧ c_87.length + [e_109].length ≤ maxLen) (chk ((0 : Int) ≤ k_108 ∧ k_108 ≤ (left_91.length : Int)) (chk ((([] : List Int).length + (left_91.take (Int.toNat k_108)).length) * 8 ≤ 140737488355328 ∧ ([] : List Int).length + (left_91.take (Int.toNat k_108)).length ≤ maxLen) (chk ((0 : Int) ≤ (IntKind.i64.wrap (k_108 + 1)) ∧ (IntKind.i64.wrap (k_108 + 1)) ≤ (left_91.length : Int)) (chk (((([] : List Int) ++ (left_91.take (Int.toNat k_108))).length + (left_91.drop (Int.toNat (IntKind.i64.wrap (k_108 + 1)))).length) * 8 ≤ 140737488355328 ∧ (([] : List Int) ++ (left_91.take (Int.toNat k_108))).length + (left_91.drop (Int.toNat (IntKind.i64.wrap (k_108 + 1)))).length ≤ maxLen) (m_credencelaw18_OrderCovers_J5 i_95 kk_L1 (c_87 ++ [e_109]) ((([] : List Int) ++ (left_91.take (Int.toNat k_108))) ++ (left_91.drop (Int.toNat (IntKind.i64.wrap (k_108 + 1))))))))))

def m_credencelaw18_OrderCovers_L5 (N : Nat) (t_19 : List (List Bool)) (r_204 : ((List (List Int)) × Int)) (i_241 : Int) (k_272 : Int) (kk_L4 : (Int → Option Bool)) : Nat → Int → Option Bool
  | 0, _ => none
  | n_302 + 1, j_305 => if (decide (j_305 < k_272)) = true then ((at? r_204.1 i_241).bind fun e_306 => (at? e_306 j_305).bind fun e_313 => (at? e_306 k_272).bind fun e_320 => (m_graph_Graph_Has t_19 e_313 e_320).bind fun r_322 => if (!r_322) = true then (some false) else ((m_credencelaw18_OrderCovers_L5 N t_19 r_204 i_241 k_272 kk_L4 n_302) (IntKind.i64.wrap (j_305 + 1)))) else (kk_L4 (IntKind.i64.wrap (k_272 + 1)))

def m_credencelaw18_OrderCovers_J9 (N : Nat) (t_19 : List (List Bool)) (r_204 : ((List (List Int)) × Int)) (most_240 : Int) (i_241 : Int) (kk_L3 : (Int → Int → Option Bool)) (e_262 : (List Int)) (k_272 : Int) (kk_L4 : (Int → Option Bool)) (v_301 : Bool) : Option Bool :=
  if v_301 = true then (m_credencelaw18_OrderCovers_L5 N t_19 r_204 i_241 k_272 kk_L4 N 0) else (kk_L3 (if (e_262.length : Int) > most_240 then (e_262.length : Int) else most_240) (IntKind.i64.wrap (i_241 + 1)))

def m_credencelaw18_OrderCovers_L4 (N : Nat) (t_19 : List (List Bool)) (n_196 : Int) (r_204 : ((List (List Int)) × Int)) (most_240 : Int) (i_241 : Int) (kk_L3 : (Int → Int → Option Bool)) (e_262 : (List Int)) : Nat → Int → Option Bool
  | 0, _ => none
  | n_269 + 1, k_272 => (at? r_204.1 i_241).bind fun e_325 => if (decide (k_272 < (e_325.length : Int))) = true then (if (decide (n_196 = 0)) = true then ((m_graph_Graph_Chordal N t_19).bind fun r_334 => m_credencelaw18_OrderCovers_J9 N t_19 r_204 most_240 i_241 kk_L3 e_262 k_272 (m_credencelaw18_OrderCovers_L4 N t_19 n_196 r_204 most_240 i_241 kk_L3 e_262 n_269) r_334) else (m_credencelaw18_OrderCovers_J9 N t_19 r_204 most_240 i_241 kk_L3 e_262 k_272 (m_credencelaw18_OrderCovers_L4 N t_19 n_196 r_204 most_240 i_241 kk_L3 e_262 n_269) false)) else (m_credencelaw18_OrderCovers_J9 N t_19 r_204 most_240 i_241 kk_L3 e_262 k_272 (m_credencelaw18_OrderCovers_L4 N t_19 n_196 r_204 most_240 i_241 kk_L3 e_262 n_269) false)

def m_credencelaw18_OrderCovers_L7 (N : Nat) (r_204 : ((List (List Int)) × Int)) (x_341 : Int) (kk_L6 : (Int → Option Bool)) (r_346 : (List Int)) : Nat → Int → Option Bool
  | 0, _ => none
  | n_354 + 1, k_357 => if (decide (k_357 < (r_346.length : Int))) = true then ((at? r_346 k_357).bind fun e_358 => (m_credencelaw18_listed N r_204.1 x_341 e_358).bind fun r_360 => if (!r_360) = true then (some false) else ((m_credencelaw18_OrderCovers_L7 N r_204 x_341 kk_L6 r_346 n_354) (IntKind.i64.wrap (k_357 + 1)))) else (kk_L6 (IntKind.i64.wrap (x_341 + 1)))

def m_credencelaw18_OrderCovers_L6 (N : Nat) (t_19 : List (List Bool)) (n_196 : Int) (kk_L2 : (Int → Option Bool)) (r_204 : ((List (List Int)) × Int)) : Nat → Int → Option Bool
  | 0, _ => none
  | n_338 + 1, x_341 => (m_graph_Graph_Len t_19).bind fun r_342 => if (decide (x_341 < r_342)) = true then ((m_graph_Graph_Near t_19 x_341).bind fun r_346 => m_credencelaw18_OrderCovers_L7 N r_204 x_341 (m_credencelaw18_OrderCovers_L6 N t_19 n_196 kk_L2 r_204 n_338) r_346 N 0) else (kk_L2 (IntKind.i64.wrap (n_196 + 1)))

def m_credencelaw18_OrderCovers_L3 (N : Nat) (t_19 : List (List Bool)) (r_58 : ((List Int) × Int)) (r_67 : ((List Int) × Int)) (c_87 : List Int) (n_196 : Int) (kk_L2 : (Int → Option Bool)) (r_204 : ((List (List Int)) × Int)) (r_218 : (Int × Int)) : Nat → Int → Int → Option Bool
  | 0, _, _ => none
  | n_237 + 1, most_240, i_241 => if (decide (i_241 < (r_204.1.length : Int))) = true then (chk ((0 : Int) ≤ i_241 ∧ i_241 ≤ (IntKind.i64.wrap (i_241 + 1)) ∧ (IntKind.i64.wrap (i_241 + 1)) ≤ (r_204.1.length : Int)) ((at? [r_58.1, r_67.1, c_87] n_196).bind fun e_245 => (at? e_245 i_241).bind fun e_252 => (m_credencelaw18_listed N ((r_204.1.take (Int.toNat (IntKind.i64.wrap (i_241 + 1)))).drop (Int.toNat i_241)) e_252 e_252).bind fun r_259 => if (!r_259) = true then (some false) else ((at? r_204.1 i_241).bind fun e_262 => m_credencelaw18_OrderCovers_L4 N t_19 n_196 r_204 most_240 i_241 (m_credencelaw18_OrderCovers_L3 N t_19 r_58 r_67 c_87 n_196 kk_L2 r_204 r_218 n_237) e_262 N 0))) else (if (!decide (r_218.1 = (IntKind.i64.wrap (most_240 - 1)))) = true then (some false) else (m_credencelaw18_OrderCovers_L6 N t_19 n_196 kk_L2 r_204 N 0))

def m_credencelaw18_OrderCovers_J8 (N : Nat) (t_19 : List (List Bool)) (r_58 : ((List Int) × Int)) (r_67 : ((List Int) × Int)) (c_87 : List Int) (n_196 : Int) (kk_L2 : (Int → Option Bool)) (r_204 : ((List (List Int)) × Int)) (r_218 : (Int × Int)) (v_236 : Bool) : Option Bool :=
  if v_236 = true then (some false) else (m_credencelaw18_OrderCovers_L3 N t_19 r_58 r_67 c_87 n_196 kk_L2 r_204 r_218 N 1 0)

def m_credencelaw18_OrderCovers_L2 (N : Nat) (t_19 : List (List Bool)) (r_58 : ((List Int) × Int)) (r_67 : ((List Int) × Int)) (c_87 : List Int) : Nat → Int → Option Bool
  | 0, _ => none
  | n_193 + 1, n_196 => if (decide (n_196 < 3)) = true then ((at? [r_58.1, r_67.1, c_87] n_196).bind fun e_197 => (m_order_Cliques N t_19 e_197).bind fun r_204 => (m_order_Width N t_19 e_197).bind fun r_218 => if (!decide (r_204.2 = 0)) = true then (m_credencelaw18_OrderCovers_J8 N t_19 r_58 r_67 c_87 n_196 (m_credencelaw18_OrderCovers_L2 N t_19 r_58 r_67 c_87 n_193) r_204 r_218 true) else (if (!decide (r_218.2 = 0)) = true then (m_credencelaw18_OrderCovers_J8 N t_19 r_58 r_67 c_87 n_196 (m_credencelaw18_OrderCovers_L2 N t_19 r_58 r_67 c_87 n_193) r_204 r_218 true) else ((m_graph_Graph_Len t_19).bind fun r_366 => m_credencelaw18_OrderCovers_J8 N t_19 r_58 r_67 c_87 n_196 (m_credencelaw18_OrderCovers_L2 N t_19 r_58 r_67 c_87 n_193) r_204 r_218 (!decide ((r_204.1.length : Int) = r_366))))) else (some true)

def m_credencelaw18_OrderCovers_J7 (N : Nat) (t_19 : List (List Bool)) (r_58 : ((List Int) × Int)) (r_67 : ((List Int) × Int)) (c_87 : List Int) (v_182 : Bool) : Option Bool :=
  if v_182 = true then (some false) else (m_credencelaw18_OrderCovers_L2 N t_19 r_58 r_67 c_87 N 0)

def m_credencelaw18_OrderCovers_L1 (N : Nat) (p1_picks : (List Int)) (t_19 : List (List Bool)) (r_50 : (List Int)) (r_58 : ((List Int) × Int)) (r_67 : ((List Int) × Int)) : Nat → (List Int) → (List Int) → Int → Option Bool
  | 0, _, _, _ => none
  | n_84 + 1, c_87, left_91, i_95 => if (decide (0 < (left_91.length : Int))) = true then (if (decide (i_95 < (p1_picks.length : Int))) = true then ((at? p1_picks i_95).bind fun e_142 => (m_credencelaw18_pick e_142 (left_91.length : Int)).bind fun r_144 => m_credencelaw18_OrderCovers_J6 c_87 left_91 i_95 (m_credencelaw18_OrderCovers_L1 N p1_picks t_19 r_50 r_58 r_67 n_84) r_144) else (m_credencelaw18_OrderCovers_J6 c_87 left_91 i_95 (m_credencelaw18_OrderCovers_L1 N p1_picks t_19 r_50 r_58 r_67 n_84) 0)) else (if (!decide (r_58.2 = 0)) = true then (m_credencelaw18_OrderCovers_J7 N t_19 r_58 r_67 c_87 true) else (if (!decide (r_67.2 = 0)) = true then (m_credencelaw18_OrderCovers_J7 N t_19 r_58 r_67 c_87 true) else ((m_order_Check r_58.1 r_50).bind fun r_372 => if (!decide (r_372 = 0)) = true then (m_credencelaw18_OrderCovers_J7 N t_19 r_58 r_67 c_87 true) else ((m_order_Check r_67.1 r_50).bind fun r_377 => if (!decide (r_377 = 0)) = true then (m_credencelaw18_OrderCovers_J7 N t_19 r_58 r_67 c_87 true) else ((m_order_Check c_87 r_50).bind fun r_382 => m_credencelaw18_OrderCovers_J7 N t_19 r_58 r_67 c_87 (!decide (r_382 = 0)))))))

def m_credencelaw18_OrderCovers_J3 (N : Nat) (p1_picks : (List Int)) (r_6 : Bool) (r_10 : ((Option (List (List Bool))) × (Option ((List (List Bool)))) × Bool)) (t_19 : List (List Bool)) (v_43 : Bool) : Option Bool :=
  if v_43 = true then (if r_6 = true then (m_credencelaw18_OrderCovers_J4 r_10.2.2) else (m_credencelaw18_OrderCovers_J4 false)) else ((m_credencelaw18_all N t_19).bind fun r_50 => (m_order_Fill N t_19 r_50).bind fun r_58 => (m_order_Degree N t_19 r_50).bind fun r_67 => (m_credencelaw18_all N t_19).bind fun r_76 => m_credencelaw18_OrderCovers_L1 N p1_picks t_19 r_50 r_58 r_67 N ([] : List Int) r_76 0)

def m_credencelaw18_OrderCovers (N : Nat) (p0_d : (Int × (List Int))) (p1_picks : (List Int)) : Option Bool :=
  (w_credencelaw18_awake).bind fun r_6 => (m_credencelaw18_drawn N (p0_d.1, p0_d.2)).bind fun r_10 => optC (r_10.1) (if (!r_6) = true then (m_credencelaw18_OrderCovers_J1 r_6 r_10) else (if (!r_10.2.2) = true then (m_credencelaw18_OrderCovers_J1 r_6 r_10) else (m_credencelaw18_OrderCovers_J1 r_6 r_10))) (fun t_19 => if (!r_6) = true then (m_credencelaw18_OrderCovers_J3 N p1_picks r_6 r_10 t_19 true) else (if (!r_10.2.2) = true then (m_credencelaw18_OrderCovers_J3 N p1_picks r_6 r_10 t_19 true) else (m_credencelaw18_OrderCovers_J3 N p1_picks r_6 r_10 t_19 false)))

set_option maxRecDepth 100000 in
set_option maxHeartbeats 2000000 in
theorem c_credencelaw18_OrderCovers (N : Nat) (col : Col) (w0 : World) (a0_0 : Option Addr) (cap0_0 : Nat) (p0_d : (Int × (List Int))) (a1 : Option Addr) (cap1 : Nat) (p1_picks : (List Int)) (h0_0 : Sl (Rep.int .i64) col w0 a0_0 cap0_0 p0_d.2) (h1 : Sl (Rep.int .i64) col w0 a1 cap1 p1_picks) (r : Bool) (hm : m_credencelaw18_OrderCovers N p0_d p1_picks = some r) :
    Calls Try.prog 11 #[(.agg #[(.int .i64 p0_d.1), (.slice a0_0 p0_d.2.length cap0_0)]), (.slice a1 p1_picks.length cap1)] w0 (fun e w' => e = .returned ((.bool r)) ∧ Below w0.heap.size w0 w') := by
  refine calls_of1 4 (m := 272) (args := [(.agg #[(.int .i64 p0_d.1), (.slice a0_0 p0_d.2.length cap0_0)]), (.slice a1 p1_picks.length cap1)]) Try.func11 rfl rfl rfl rfl rfl ?_
  rw [m_credencelaw18_OrderCovers.eq_1] at hm
  have hst := St.start col w0
  replace h0_0 := h0_0.keep (Stay.start col w0)
  replace h1 := h1.keep (Stay.start col w0)
  refine wseq ?_
  refine wregion ?_
  refine l_box (col := (col0 col)) (v := (.agg #[(.int .i64 p0_d.1), (.slice a0_0 p0_d.2.length cap0_0)])) 1 rfl rfl ?_
  intro g_1 w_2 col_3 hg_4 hb_5
  replace h0_0 := h0_0.gr hg_4
  replace h1 := h1.gr hg_4
  replace hst := hst.grow hg_4
  replace hb_5 : Box 59 1 col_3 w_2 g_1 #[(.int .i64 p0_d.1), (.slice a0_0 p0_d.2.length cap0_0)] := hb_5
  refine lv (v := (.bool false)) rfl rfl (r_assign rfl) ?_
  refine lnil ?_
  refine wseq ?_
  refine wregion ?_
  obtain ⟨r_6, hr_7, hm⟩ := bind_some hm
  refine lc rfl rfl (r_call0 Try.call29 ) (k_credencelaw18_awake col_3 _ r_6 hr_7) ?_
  rintro _ w_8 ⟨rfl, hg_9⟩
  refine ⟨_, rfl, ?_⟩
  replace hg_9 : Grow col_3 w_2 col_3 w_8 := .of_below hg_9
  replace h1 := h1.gr hg_9
  replace h0_0 := h0_0.gr hg_9
  replace hb_5 := hb_5.gr hg_9
  replace hst := hst.grow hg_9
  refine lv (v := (.bool r_6)) rfl rfl (r_assign rfl) ?_
  refine lnil ?_
  refine wseq ?_
  refine wregion ?_
  refine lv (v := (.agg #[(.int .i64 p0_d.1), (.slice a0_0 p0_d.2.length cap0_0)])) rfl rfl (r_ldN Try.isAgg59 Try.sizeOf59 rfl rfl hb_5.atN) ?_
  obtain ⟨r_10, hr_11, hm⟩ := bind_some hm
  refine lc rfl rfl (r_call1 Try.call30 rfl) (c_credencelaw18_drawn N 2 3 4 col_3 _ a0_0 cap0_0 (p0_d.1, p0_d.2) h0_0 r_10 hr_11) ?_
  rintro _ w_16 ⟨col_18, rv_12, rv_14, rfl, hg_17, rh_13, rh_15⟩
  refine ⟨_, rfl, ?_⟩
  replace h1 := h1.gr hg_17
  replace h0_0 := h0_0.gr hg_17
  replace hst := hst.grow hg_17
  cases hx_20 : r_10.1 with
  | none =>
    rw [hx_20] at hm rh_13
    replace hm := optC_none hm
    obtain rfl := optP_none rh_13
    clear rh_13
    refine lv (v := (.tuple #[(.pointer none), rv_14, (.bool r_10.2.2)])) rfl rfl (r_move rfl) ?_
    refine lv (v := (.pointer none)) rfl rfl (r_extract rfl rfl) ?_
    refine lv (v := rv_14) rfl rfl (r_extract rfl rfl) ?_
    refine lv (v := (.bool r_10.2.2)) rfl rfl (r_extract rfl rfl) ?_
    refine lv (v := (.pointer none)) rfl rfl (r_assign rfl) ?_
    refine lv (v := rv_14) rfl rfl (r_assign rfl) ?_
    refine lv (v := (.bool r_10.2.2)) rfl rfl (r_assign rfl) ?_
    refine lnil ?_
    refine wseq ?_
    refine wseq ?_
    refine Wp.cut (fun f w_27 => ∃ (col_28 : Col), m_credencelaw18_OrderCovers_J1 r_6 r_10  = some r ∧ St w0 (col0 col) col_28 w_27 ∧ Sl (Rep.int .i64) col_28 w_27 a1 cap1 p1_picks ∧ f 1 = (.slice a1 p1_picks.length cap1) ∧ f 5 = (.bool r_6) ∧ f 51 = (.bool true) ∧ f 6 = (.pointer none) ∧ f 8 = (.bool r_10.2.2) ∧ f 1000000 = (enc [])) ?_ ?_
    · intro f w_27 hJ
      obtain ⟨col_28, hm, hst, h1, hs1, hs5, hs51, hs6, hs8, hs1000000⟩ := hJ
      rw [m_credencelaw18_OrderCovers_J1.eq_1] at hm
      refine .ld (d := 1) (v := (.slice a1 p1_picks.length cap1)) hs1 ?_
      refine .ld (d := 5) (v := (.bool r_6)) hs5 ?_
      refine .ld (d := 51) (v := (.bool true)) hs51 ?_
      refine .ld (d := 6) (v := (.pointer none)) hs6 ?_
      refine .ld (d := 8) (v := (.bool r_10.2.2)) hs8 ?_
      refine .ld (d := 1000000) (v := (enc [])) hs1000000 ?_
      clear hs1 hs5 hs51 hs6 hs8 hs1000000
      refine wcondT rfl ?_
      refine wseq ?_
      refine Wp.cut (fun f w_31 => ∃ (col_32 : Col) (v_33 : Bool), m_credencelaw18_OrderCovers_J2 v_33 = some r ∧ St w0 (col0 col) col_32 w_31 ∧ f 4 = (.bool v_33) ∧ f 1000000 = (enc [])) ?_ ?_
      · intro f w_31 hJ
        obtain ⟨col_32, v_33, hm, hst, hs4, hs1000000⟩ := hJ
        rw [m_credencelaw18_OrderCovers_J2.eq_1] at hm
        refine .ld (d := 4) (v := (.bool v_33)) hs4 ?_
        refine .ld (d := 1000000) (v := (enc [])) hs1000000 ?_
        clear hs4 hs1000000
        refine wret ?_
        cases hm
        exact ⟨rfl, rfl, hst.below⟩
      · refine wregion ?_
        refine lv (v := (.bool r_6)) rfl rfl (r_move rfl) ?_
        refine lv (v := (.bool r_6)) rfl rfl (r_move rfl) ?_
        by_cases hg_34 : r_6 = true
        · rw [if_pos hg_34] at hm
          refine lg (b := r_6) 53 rfl rfl rfl (by rw [hg_34]; rfl) ?_
          refine lv (v := (.bool r_10.2.2)) rfl rfl (r_move rfl) ?_
          refine lv (v := (.bool r_10.2.2)) rfl rfl (r_pickT (congrArg Value.bool hg_34) rfl) ?_
          refine lv (v := (.bool r_10.2.2)) rfl rfl (r_assign rfl) ?_
          refine lnil ?_
          exact ⟨col_28, r_10.2.2, hm, hst, rfl, rfl⟩
        · rw [if_neg hg_34] at hm
          replace hg_34 := Bool.eq_false_iff.2 hg_34
          refine lp (b := r_6) 53 rfl rfl rfl rfl (by rw [hg_34]; rfl) ?_
          refine lv (v := (.bool false)) rfl rfl (r_pickF (congrArg Value.bool hg_34) rfl) ?_
          refine lv (v := (.bool false)) rfl rfl (r_assign rfl) ?_
          refine lnil ?_
          exact ⟨col_28, false, hm, hst, rfl, rfl⟩
    · refine wregion ?_
      refine lv (v := (.bool r_6)) rfl rfl (r_move rfl) ?_
      refine lv (v := (.bool (!r_6))) rfl rfl (r_not r_6 rfl) ?_
      refine lv (v := (.bool (!r_6))) rfl rfl (r_move rfl) ?_
      by_cases hg_35 : (!r_6) = true
      · rw [if_pos hg_35] at hm
        refine lp (b := !r_6) 44 rfl rfl rfl rfl (by rw [hg_35]; rfl) ?_
        refine lp (b := !r_6) 44 rfl rfl rfl rfl (by rw [hg_35]; rfl) ?_
        refine lv (v := (.bool true)) rfl rfl (r_pickT (congrArg Value.bool hg_35) rfl) ?_
        refine lv (v := (.bool true)) rfl rfl (r_move rfl) ?_
        refine lp (b := true) 48 rfl rfl rfl rfl rfl ?_
        refine lp (b := true) 48 rfl rfl rfl rfl rfl ?_
        refine lv (v := (.bool true)) rfl rfl (r_pickT rfl rfl) ?_
        refine lnil ?_
        exact ⟨col_18, hm, hst, h1, rfl, rfl, rfl, rfl, rfl, rfl⟩
      · rw [if_neg hg_35] at hm
        replace hg_35 := Bool.eq_false_iff.2 hg_35
        refine lg (b := !r_6) 44 rfl rfl rfl (by rw [hg_35]; rfl) ?_
        refine lv (v := (.bool r_10.2.2)) rfl rfl (r_move rfl) ?_
        refine lg (b := !r_6) 44 rfl rfl rfl (by rw [hg_35]; rfl) ?_
        refine lv (v := (.bool (!r_10.2.2))) rfl rfl (r_not r_10.2.2 rfl) ?_
        refine lv (v := (.bool (!r_10.2.2))) rfl rfl (r_pickF (congrArg Value.bool hg_35) rfl) ?_
        refine lv (v := (.bool (!r_10.2.2))) rfl rfl (r_move rfl) ?_
        by_cases hg_36 : (!r_10.2.2) = true
        · rw [if_pos hg_36] at hm
          refine lp (b := !r_10.2.2) 48 rfl rfl rfl rfl (by rw [hg_36]; rfl) ?_
          refine lp (b := !r_10.2.2) 48 rfl rfl rfl rfl (by rw [hg_36]; rfl) ?_
          refine lv (v := (.bool true)) rfl rfl (r_pickT (congrArg Value.bool hg_36) rfl) ?_
          refine lnil ?_
          exact ⟨col_18, hm, hst, h1, rfl, rfl, rfl, rfl, rfl, rfl⟩
        · rw [if_neg hg_36] at hm
          replace hg_36 := Bool.eq_false_iff.2 hg_36
          refine lg (b := !r_10.2.2) 48 rfl rfl rfl (by rw [hg_36]; rfl) ?_
          refine lv (v := (.pointer none)) rfl rfl (r_move rfl) ?_
          refine lg (b := !r_10.2.2) 48 rfl rfl rfl (by rw [hg_36]; rfl) ?_
          refine lv (v := (.bool true)) rfl rfl (r_eqlP0 ⟨_, Try.underlying24⟩ rfl rfl) ?_
          refine lv (v := (.bool true)) rfl rfl (r_pickF (congrArg Value.bool hg_36) rfl) ?_
          refine lnil ?_
          exact ⟨col_18, hm, hst, h1, rfl, rfl, rfl, rfl, rfl, rfl⟩
  | some t_19 =>
    rw [hx_20] at hm rh_13
    replace hm := optC_some hm
    obtain ⟨o_21, rfl, hG_22⟩ := optP_some rh_13
    refine lv (v := (.tuple #[(.pointer (some ⟨o_21.g, 0, none⟩)), rv_14, (.bool r_10.2.2)])) rfl rfl (r_move rfl) ?_
    refine lv (v := (.pointer (some ⟨o_21.g, 0, none⟩))) rfl rfl (r_extract rfl rfl) ?_
    refine lv (v := rv_14) rfl rfl (r_extract rfl rfl) ?_
    refine lv (v := (.bool r_10.2.2)) rfl rfl (r_extract rfl rfl) ?_
    refine lv (v := (.pointer (some ⟨o_21.g, 0, none⟩))) rfl rfl (r_assign rfl) ?_
    refine lv (v := rv_14) rfl rfl (r_assign rfl) ?_
    refine lv (v := (.bool r_10.2.2)) rfl rfl (r_assign rfl) ?_
    refine lnil ?_
    refine wseq ?_
    refine wseq ?_
    refine Wp.cut (fun f w_41 => ∃ (col_42 : Col) (v_43 : Bool), m_credencelaw18_OrderCovers_J3 N p1_picks r_6 r_10 t_19 v_43 = some r ∧ St w0 (col0 col) col_42 w_41 ∧ Sl (Rep.int .i64) col_42 w_41 a1 cap1 p1_picks ∧ GO 85 86 2 col_42 w_41 o_21 t_19 ∧ f 1 = (.slice a1 p1_picks.length cap1) ∧ f 5 = (.bool r_6) ∧ f 51 = (.bool v_43) ∧ f 6 = (.pointer (some ⟨o_21.g, 0, none⟩)) ∧ f 8 = (.bool r_10.2.2) ∧ f 1000000 = (enc [])) ?_ ?_
    · intro f w_41 hJ
      obtain ⟨col_42, v_43, hm, hst, h1, hG_22, hs1, hs5, hs51, hs6, hs8, hs1000000⟩ := hJ
      rw [m_credencelaw18_OrderCovers_J3.eq_1] at hm
      refine .ld (d := 1) (v := (.slice a1 p1_picks.length cap1)) hs1 ?_
      refine .ld (d := 5) (v := (.bool r_6)) hs5 ?_
      refine .ld (d := 51) (v := (.bool v_43)) hs51 ?_
      refine .ld (d := 6) (v := (.pointer (some ⟨o_21.g, 0, none⟩))) hs6 ?_
      refine .ld (d := 8) (v := (.bool r_10.2.2)) hs8 ?_
      refine .ld (d := 1000000) (v := (enc [])) hs1000000 ?_
      clear hs1 hs5 hs51 hs6 hs8 hs1000000
      refine wcond (v_43) rfl (fun hb => ?_) (fun hb => ?_)
      · rw [if_pos hb] at hm
        clear hb
        refine wseq ?_
        refine Wp.cut (fun f w_46 => ∃ (col_47 : Col) (v_48 : Bool), m_credencelaw18_OrderCovers_J4 v_48 = some r ∧ St w0 (col0 col) col_47 w_46 ∧ f 4 = (.bool v_48) ∧ f 1000000 = (enc [])) ?_ ?_
        · intro f w_46 hJ
          obtain ⟨col_47, v_48, hm, hst, hs4, hs1000000⟩ := hJ
          rw [m_credencelaw18_OrderCovers_J4.eq_1] at hm
          refine .ld (d := 4) (v := (.bool v_48)) hs4 ?_
          refine .ld (d := 1000000) (v := (enc [])) hs1000000 ?_
          clear hs4 hs1000000
          refine wret ?_
          cases hm
          exact ⟨rfl, rfl, hst.below⟩
        · refine wregion ?_
          refine lv (v := (.bool r_6)) rfl rfl (r_move rfl) ?_
          refine lv (v := (.bool r_6)) rfl rfl (r_move rfl) ?_
          by_cases hg_49 : r_6 = true
          · rw [if_pos hg_49] at hm
            refine lg (b := r_6) 53 rfl rfl rfl (by rw [hg_49]; rfl) ?_
            refine lv (v := (.bool r_10.2.2)) rfl rfl (r_move rfl) ?_
            refine lv (v := (.bool r_10.2.2)) rfl rfl (r_pickT (congrArg Value.bool hg_49) rfl) ?_
            refine lv (v := (.bool r_10.2.2)) rfl rfl (r_assign rfl) ?_
            refine lnil ?_
            exact ⟨col_42, r_10.2.2, hm, hst, rfl, rfl⟩
          · rw [if_neg hg_49] at hm
            replace hg_49 := Bool.eq_false_iff.2 hg_49
            refine lp (b := r_6) 53 rfl rfl rfl rfl (by rw [hg_49]; rfl) ?_
            refine lv (v := (.bool false)) rfl rfl (r_pickF (congrArg Value.bool hg_49) rfl) ?_
            refine lv (v := (.bool false)) rfl rfl (r_assign rfl) ?_
            refine lnil ?_
            exact ⟨col_42, false, hm, hst, rfl, rfl⟩
      · rw [if_neg (by rw [hb]; decide)] at hm
        clear hb
        refine wskip ?_
        refine wseq ?_
        refine wregion ?_
        refine lv (v := (.pointer (some ⟨o_21.g, 0, none⟩))) rfl rfl (r_move rfl) ?_
        obtain ⟨r_50, hr_51, hm⟩ := bind_some hm
        refine lc rfl rfl (r_call1 Try.call47 rfl) (c_credencelaw18_all N 5 col_42 _ 2 (by decide) o_21 t_19 hG_22 r_50 hr_51) ?_
        rintro _ w_55 ⟨col_57, ra_52, rc_53, rfl, hg_56, rh_54⟩
        refine ⟨_, rfl, ?_⟩
        replace h1 := h1.gr hg_56
        replace hG_22 := hG_22.gr hg_56
        replace hst := hst.grow hg_56
        refine lv (v := (.slice ra_52 r_50.length rc_53)) rfl rfl (r_assign rfl) ?_
        refine lnil ?_
        refine wseq ?_
        refine wregion ?_
        refine lv (v := (.pointer (some ⟨o_21.g, 0, none⟩))) rfl rfl (r_move rfl) ?_
        refine lv (v := (.slice ra_52 r_50.length rc_53)) rfl rfl (r_move rfl) ?_
        obtain ⟨r_58, hr_59, hm⟩ := bind_some hm
        refine lc rfl rfl (r_call2 Try.call32 rfl rfl) (c_order_Fill N 6 (frC 5 col_57) _ 2 (by decide) o_21 t_19 ra_52 rc_53 r_50 (hG_22.froz 5 (by decide)) (rh_54.toSlF (Froz.int .i64)) r_58 hr_59) ?_
        rintro _ w_63 ⟨col_65, ra_60, rc_61, rfl, hg_64, rh_62⟩
        refine ⟨_, rfl, ?_⟩
        replace rh_62 := rh_62.thaw (flat_int .i64) hg_64 ((Fz.refl (col := col_57)).froz 5) (by decide)
        replace hg_64 := hg_64.thawR (col := col_57)
        generalize colR w_55.heap.size col_57 col_65 = col_66 at *
        replace h1 := h1.gr hg_64
        replace hG_22 := hG_22.gr hg_64
        replace rh_54 := rh_54.gr hg_64
        replace hst := hst.grow hg_64
        refine lv (v := (.tuple #[(.slice ra_60 r_58.1.length rc_61), (.int .i64 r_58.2)])) rfl rfl (r_move rfl) ?_
        refine lv (v := (.slice ra_60 r_58.1.length rc_61)) rfl rfl (r_extract rfl rfl) ?_
        refine lv (v := (.int .i64 r_58.2)) rfl rfl (r_extract rfl rfl) ?_
        refine lv (v := (.slice ra_60 r_58.1.length rc_61)) rfl rfl (r_assign rfl) ?_
        refine lv (v := (.int .i64 r_58.2)) rfl rfl (r_assign rfl) ?_
        refine lnil ?_
        refine wseq ?_
        refine wregion ?_
        refine lv (v := (.pointer (some ⟨o_21.g, 0, none⟩))) rfl rfl (r_move rfl) ?_
        refine lv (v := (.slice ra_52 r_50.length rc_53)) rfl rfl (r_move rfl) ?_
        obtain ⟨r_67, hr_68, hm⟩ := bind_some hm
        refine lc rfl rfl (r_call2 Try.call33 rfl rfl) (c_order_Degree N 7 (frC 5 col_66) _ 2 (by decide) o_21 t_19 ra_52 rc_53 r_50 (hG_22.froz 5 (by decide)) (rh_54.toSlF (Froz.int .i64)) r_67 hr_68) ?_
        rintro _ w_72 ⟨col_74, ra_69, rc_70, rfl, hg_73, rh_71⟩
        refine ⟨_, rfl, ?_⟩
        replace rh_71 := rh_71.thaw (flat_int .i64) hg_73 ((Fz.refl (col := col_66)).froz 5) (by decide)
        replace hg_73 := hg_73.thawR (col := col_66)
        generalize colR w_63.heap.size col_66 col_74 = col_75 at *
        replace h1 := h1.gr hg_73
        replace hG_22 := hG_22.gr hg_73
        replace rh_54 := rh_54.gr hg_73
        replace rh_62 := rh_62.gr hg_73
        replace hst := hst.grow hg_73
        refine lv (v := (.tuple #[(.slice ra_69 r_67.1.length rc_70), (.int .i64 r_67.2)])) rfl rfl (r_move rfl) ?_
        refine lv (v := (.slice ra_69 r_67.1.length rc_70)) rfl rfl (r_extract rfl rfl) ?_
        refine lv (v := (.int .i64 r_67.2)) rfl rfl (r_extract rfl rfl) ?_
        refine lv (v := (.slice ra_69 r_67.1.length rc_70)) rfl rfl (r_assign rfl) ?_
        refine lv (v := (.int .i64 r_67.2)) rfl rfl (r_assign rfl) ?_
        refine lnil ?_
        refine wseq ?_
        refine wregion ?_
        refine lv (v := (.slice none (([] : List Int).length) 0)) rfl rfl (r_assign rfl) ?_
        refine lnil ?_
        refine wseq ?_
        refine wregion ?_
        refine lv (v := (.pointer (some ⟨o_21.g, 0, none⟩))) rfl rfl (r_move rfl) ?_
        obtain ⟨r_76, hr_77, hm⟩ := bind_some hm
        refine lc rfl rfl (r_call1 Try.call47 rfl) (c_credencelaw18_all N 8 col_75 _ 2 (by decide) o_21 t_19 hG_22 r_76 hr_77) ?_
        rintro _ w_81 ⟨col_83, ra_78, rc_79, rfl, hg_82, rh_80⟩
        refine ⟨_, rfl, ?_⟩
        replace h1 := h1.gr hg_82
        replace hG_22 := hG_22.gr hg_82
        replace rh_54 := rh_54.gr hg_82
        replace rh_62 := rh_62.gr hg_82
        replace rh_71 := rh_71.gr hg_82
        replace hst := hst.grow hg_82
        refine lv (v := (.slice ra_78 r_76.length rc_79)) rfl rfl (r_assign rfl) ?_
        refine lnil ?_
        refine wseq ?_
        refine wseq ?_
        refine wregion ?_
        refine lv (v := (.int .i64 0)) rfl rfl (r_assign rfl) ?_
        refine lnil ?_
        refine wblock ?_
        refine wloop (fun n f w_85 => ∃ (col_86 : Col) (a_88 : Option Addr) (cap_89 : Nat) (c_87 : List Int) (a_92 : Option Addr) (cap_93 : Nat) (left_91 : List Int) (i_95 : Int) (n_84 : Nat), n_84 = n ∧ m_credencelaw18_OrderCovers_L1 N p1_picks t_19 r_50 r_58 r_67 n_84 c_87 left_91 i_95 = some r ∧ St w0 (col0 col) col_86 w_85 ∧ Sl (Rep.int .i64) col_86 w_85 a1 cap1 p1_picks ∧ Own (Rep.int .i64) 3 6 col_86 w_85 ra_60 rc_61 r_58.1 ∧ Own (Rep.int .i64) 3 7 col_86 w_85 ra_69 rc_70 r_67.1 ∧ Own (Rep.int .i64) 3 9 col_86 w_85 a_88 cap_89 c_87 ∧ Own (Rep.int .i64) 3 8 col_86 w_85 a_92 cap_93 left_91 ∧ GO 85 86 2 col_86 w_85 o_21 t_19 ∧ Own (Rep.int .i64) 3 5 col_86 w_85 ra_52 rc_53 r_50 ∧ f 1 = (.slice a1 p1_picks.length cap1) ∧ f 10 = (.slice ra_60 r_58.1.length rc_61) ∧ f 11 = (.int .i64 r_58.2) ∧ f 12 = (.slice ra_69 r_67.1.length rc_70) ∧ f 13 = (.int .i64 r_67.2) ∧ f 14 = (.slice a_88 c_87.length cap_89) ∧ f 15 = (.slice a_92 left_91.length cap_93) ∧ f 16 = (.int .i64 i_95) ∧ f 6 = (.pointer (some ⟨o_21.g, 0, none⟩)) ∧ f 9 = (.slice ra_52 r_50.length rc_53) ∧ f 1000000 = (enc [])) N ⟨col_83, none, 0, ([] : List Int), ra_78, rc_79, r_76, 0, N, rfl, hm, hst, h1, rh_62, rh_71, Own.nil, rh_80, hG_22, rh_54, rfl, rfl, rfl, rfl, rfl, rfl, rfl, rfl, rfl, rfl, rfl⟩ ?_
        clear hm; intro n f w_85 hI
        obtain ⟨col_86, a_88, cap_89, c_87, a_92, cap_93, left_91, i_95, n_84, hn, hm, hst, h1, rh_62, rh_71, h_90, h_94, hG_22, rh_54, hs1, hs10, hs11, hs12, hs13, hs14, hs15, hs16, hs6, hs9, hs1000000⟩ := hI
        subst hn
        refine .ld (d := 1) (v := (.slice a1 p1_picks.length cap1)) hs1 ?_
        refine .ld (d := 10) (v := (.slice ra_60 r_58.1.length rc_61)) hs10 ?_
        refine .ld (d := 11) (v := (.int .i64 r_58.2)) hs11 ?_
        refine .ld (d := 12) (v := (.slice ra_69 r_67.1.length rc_70)) hs12 ?_
        refine .ld (d := 13) (v := (.int .i64 r_67.2)) hs13 ?_
        refine .ld (d := 14) (v := (.slice a_88 c_87.length cap_89)) hs14 ?_
        refine .ld (d := 15) (v := (.slice a_92 left_91.length cap_93)) hs15 ?_
        refine .ld (d := 16) (v := (.int .i64 i_95)) hs16 ?_
        refine .ld (d := 6) (v := (.pointer (some ⟨o_21.g, 0, none⟩))) hs6 ?_
        refine .ld (d := 9) (v := (.slice ra_52 r_50.length rc_53)) hs9 ?_
        refine .ld (d := 1000000) (v := (enc [])) hs1000000 ?_
        clear hs1 hs10 hs11 hs12 hs13 hs14 hs15 hs16 hs6 hs9 hs1000000
        cases n_84 with
        | zero => rw [m_credencelaw18_OrderCovers_L1.eq_1] at hm; cases hm
        | succ n_84 =>
          rw [m_credencelaw18_OrderCovers_L1.eq_2] at hm
          refine wseq ?_
          refine wseq ?_
          refine wregion ?_
          refine lv (v := (.slice a_92 left_91.length cap_93)) rfl rfl (r_move rfl) ?_
          refine lv (v := (.int .i64 (left_91.length : Int))) rfl rfl (r_len Try.underlying22 rfl) ?_
          refine lv (v := (.bool (decide (0 < (left_91.length : Int))))) rfl rfl (r_gtr (left_91.length : Int) 0 rfl rfl) ?_
          refine lnil ?_
          refine wcond (decide (0 < (left_91.length : Int))) rfl (fun hb => ?_) (fun hb => ?_)
          · rw [if_pos hb] at hm
            clear hb
            refine wskip ?_
            refine wseq ?_
            refine Wp.cut (fun f w_96 => ∃ (col_97 : Col) (a_99 : Option Addr) (cap_100 : Nat) (c_98 : List Int) (a_103 : Option Addr) (cap_104 : Nat) (left_102 : List Int), m_credencelaw18_OrderCovers_J5 i_95 (m_credencelaw18_OrderCovers_L1 N p1_picks t_19 r_50 r_58 r_67 n_84) c_98 left_102 = some r ∧ St w0 (col0 col) col_97 w_96 ∧ Sl (Rep.int .i64) col_97 w_96 a1 cap1 p1_picks ∧ Own (Rep.int .i64) 3 6 col_97 w_96 ra_60 rc_61 r_58.1 ∧ Own (Rep.int .i64) 3 7 col_97 w_96 ra_69 rc_70 r_67.1 ∧ Own (Rep.int .i64) 3 9 col_97 w_96 a_99 cap_100 c_98 ∧ Own (Rep.int .i64) 3 8 col_97 w_96 a_103 cap_104 left_102 ∧ GO 85 86 2 col_97 w_96 o_21 t_19 ∧ Own (Rep.int .i64) 3 5 col_97 w_96 ra_52 rc_53 r_50 ∧ f 1 = (.slice a1 p1_picks.length cap1) ∧ f 10 = (.slice ra_60 r_58.1.length rc_61) ∧ f 11 = (.int .i64 r_58.2) ∧ f 12 = (.slice ra_69 r_67.1.length rc_70) ∧ f 13 = (.int .i64 r_67.2) ∧ f 14 = (.slice a_99 c_98.length cap_100) ∧ f 15 = (.slice a_103 left_102.length cap_104) ∧ f 16 = (.int .i64 i_95) ∧ f 6 = (.pointer (some ⟨o_21.g, 0, none⟩)) ∧ f 9 = (.slice ra_52 r_50.length rc_53) ∧ f 1000000 = (enc [])) ?_ ?_
            · intro f w_96 hJ
              obtain ⟨col_97, a_99, cap_100, c_98, a_103, cap_104, left_102, hm, hst, h1, rh_62, rh_71, h_101, h_105, hG_22, rh_54, hs1, hs10, hs11, hs12, hs13, hs14, hs15, hs16, hs6, hs9, hs1000000⟩ := hJ
              rw [m_credencelaw18_OrderCovers_J5.eq_1] at hm
              refine .ld (d := 1) (v := (.slice a1 p1_picks.length cap1)) hs1 ?_
              refine .ld (d := 10) (v := (.slice ra_60 r_58.1.length rc_61)) hs10 ?_
              refine .ld (d := 11) (v := (.int .i64 r_58.2)) hs11 ?_
              refine .ld (d := 12) (v := (.slice ra_69 r_67.1.length rc_70)) hs12 ?_
              refine .ld (d := 13) (v := (.int .i64 r_67.2)) hs13 ?_
              refine .ld (d := 14) (v := (.slice a_99 c_98.length cap_100)) hs14 ?_
              refine .ld (d := 15) (v := (.slice a_103 left_102.length cap_104)) hs15 ?_
              refine .ld (d := 16) (v := (.int .i64 i_95)) hs16 ?_
              refine .ld (d := 6) (v := (.pointer (some ⟨o_21.g, 0, none⟩))) hs6 ?_
              refine .ld (d := 9) (v := (.slice ra_52 r_50.length rc_53)) hs9 ?_
              refine .ld (d := 1000000) (v := (enc [])) hs1000000 ?_
              clear hs1 hs10 hs11 hs12 hs13 hs14 hs15 hs16 hs6 hs9 hs1000000
              refine wregion ?_
              refine lv (v := (.int .i64 i_95)) rfl rfl (r_move rfl) ?_
              refine lv (v := (.int .i64 (IntKind.i64.wrap (i_95 + 1)))) rfl rfl (r_add i_95 1 rfl rfl) ?_
              refine lv (v := (.int .i64 (IntKind.i64.wrap (i_95 + 1)))) rfl rfl (r_assign rfl) ?_
              refine lnil ?_
              exact ⟨n_84, by omega, ⟨col_97, a_99, cap_100, c_98, a_103, cap_104, left_102, (IntKind.i64.wrap (i_95 + 1)), n_84, rfl, hm, hst, h1, rh_62, rh_71, h_101, h_105, hG_22, rh_54, rfl, rfl, rfl, rfl, rfl, rfl, rfl, rfl, rfl, rfl, rfl⟩⟩
            · refine wblock ?_
              refine wseq ?_
              refine wregion ?_
              refine lv (v := (.int .i64 0)) rfl rfl (r_assign rfl) ?_
              refine lnil ?_
              refine wseq ?_
              refine Wp.cut (fun f w_106 => ∃ (col_107 : Col) (k_108 : Int), m_credencelaw18_OrderCovers_J6 c_87 left_91 i_95 (m_credencelaw18_OrderCovers_L1 N p1_picks t_19 r_50 r_58 r_67 n_84) k_108 = some r ∧ St w0 (col0 col) col_107 w_106 ∧ Sl (Rep.int .i64) col_107 w_106 a1 cap1 p1_picks ∧ Own (Rep.int .i64) 3 6 col_107 w_106 ra_60 rc_61 r_58.1 ∧ Own (Rep.int .i64) 3 7 col_107 w_106 ra_69 rc_70 r_67.1 ∧ Own (Rep.int .i64) 3 9 col_107 w_106 a_88 cap_89 c_87 ∧ Own (Rep.int .i64) 3 8 col_107 w_106 a_92 cap_93 left_91 ∧ GO 85 86 2 col_107 w_106 o_21 t_19 ∧ Own (Rep.int .i64) 3 5 col_107 w_106 ra_52 rc_53 r_50 ∧ f 1 = (.slice a1 p1_picks.length cap1) ∧ f 10 = (.slice ra_60 r_58.1.length rc_61) ∧ f 11 = (.int .i64 r_58.2) ∧ f 12 = (.slice ra_69 r_67.1.length rc_70) ∧ f 13 = (.int .i64 r_67.2) ∧ f 14 = (.slice a_88 c_87.length cap_89) ∧ f 15 = (.slice a_92 left_91.length cap_93) ∧ f 16 = (.int .i64 i_95) ∧ f 17 = (.int .i64 k_108) ∧ f 6 = (.pointer (some ⟨o_21.g, 0, none⟩)) ∧ f 9 = (.slice ra_52 r_50.length rc_53) ∧ f 1000000 = (enc [])) ?_ ?_
              · intro f w_106 hJ
                obtain ⟨col_107, k_108, hm, hst, h1, rh_62, rh_71, h_90, h_94, hG_22, rh_54, hs1, hs10, hs11, hs12, hs13, hs14, hs15, hs16, hs17, hs6, hs9, hs1000000⟩ := hJ
                rw [m_credencelaw18_OrderCovers_J6.eq_1] at hm
                refine .ld (d := 1) (v := (.slice a1 p1_picks.length cap1)) hs1 ?_
                refine .ld (d := 10) (v := (.slice ra_60 r_58.1.length rc_61)) hs10 ?_
                refine .ld (d := 11) (v := (.int .i64 r_58.2)) hs11 ?_
                refine .ld (d := 12) (v := (.slice ra_69 r_67.1.length rc_70)) hs12 ?_
                refine .ld (d := 13) (v := (.int .i64 r_67.2)) hs13 ?_
                refine .ld (d := 14) (v := (.slice a_88 c_87.length cap_89)) hs14 ?_
                refine .ld (d := 15) (v := (.slice a_92 left_91.length cap_93)) hs15 ?_
                refine .ld (d := 16) (v := (.int .i64 i_95)) hs16 ?_
                refine .ld (d := 17) (v := (.int .i64 k_108)) hs17 ?_
                refine .ld (d := 6) (v := (.pointer (some ⟨o_21.g, 0, none⟩))) hs6 ?_
                refine .ld (d := 9) (v := (.slice ra_52 r_50.length rc_53)) hs9 ?_
                refine .ld (d := 1000000) (v := (enc [])) hs1000000 ?_
                clear hs1 hs10 hs11 hs12 hs13 hs14 hs15 hs16 hs17 hs6 hs9 hs1000000
                refine wseq ?_
                refine wregion ?_
                refine lv (v := (.slice a_88 c_87.length cap_89)) rfl rfl (r_move rfl) ?_
                refine lv (v := (.slice a_92 left_91.length cap_93)) rfl rfl (r_move rfl) ?_
                refine lv (v := (.int .i64 k_108)) rfl rfl (r_move rfl) ?_
                obtain ⟨e_109, hj_110, hm⟩ := bind_some hm
                refine lv (v := (sptr a_92 (Int.toNat k_108 * 1))) rfl rfl (r_idx Try.underlying22 Try.sizeOf3 rfl rfl (at?_some hj_110).1 (at?_some hj_110).2.1 (h_94.addr hj_110)) ?_
                refine lv (v := (.int .i64 e_109)) rfl rfl (r_ld Try.isAgg3 rfl (h_94.atInt hj_110)) ?_
                refine l_lit (col := col_107) (r := (Rep.int .i64)) (xs := [e_109]) [(.int .i64 e_109)] 10 rfl Try.underlying22 el3_11 rfl rfl rfl rfl rfl rfl (by intro v hv; simp only [List.mem_cons, List.not_mem_nil, or_false] at hv; subst hv; rfl) (RowsH.ofF (Rows.consF (r := (Rep.int .i64)) (x := e_109) (cs := [(.int .i64 e_109)]) (rd_int .i64 e_109) Rows.nil0)) ?_
                intro a_111 w_112 col_113 hg_114 h_115
                replace h1 := h1.gr hg_114
                replace rh_62 := rh_62.gr hg_114
                replace rh_71 := rh_71.gr hg_114
                replace h_94 := h_94.gr hg_114
                replace hG_22 := hG_22.gr hg_114
                replace rh_54 := rh_54.gr hg_114
                replace h_90 := h_90.gr hg_114
                replace hst := hst.grow hg_114
                obtain ⟨hb_116, hm⟩ := chk_some hm
                refine l_appendM (col := col_113) (w := w_112) (r := (Rep.int .i64)) (c := 9) (c2 := 9) (xs := c_87) (ys := [e_109]) h_90 (h_115.srcN (NB.int (k := .i64))) rfl Try.underlying22 el3_11 rfl rfl rfl hb_116.1 hb_116.2 (by decide) ?_
                intro a_117 cap_118 w_119 col_120 hk_121 h_122
                replace h1 := h1.kpp hk_121 rfl
                replace rh_62 := rh_62.kpp hk_121 rfl rfl
                replace rh_71 := rh_71.kpp hk_121 rfl rfl
                replace h_94 := h_94.kpp hk_121 rfl rfl
                replace hG_22 := hG_22.kpp hk_121 rfl rfl
                replace rh_54 := rh_54.kpp hk_121 rfl rfl
                replace h_115 := h_115.kpp hk_121 rfl rfl
                replace hst := hst.kpp hk_121 rfl rfl
                clear h_90
                refine lv (v := (.slice a_117 ((c_87 ++ [e_109]).length) cap_118)) rfl rfl (r_assign rfl) ?_
                refine lnil ?_
                refine wseq ?_
                refine wregion ?_
                refine lv (v := (.slice none (([] : List Int).length) 0)) rfl rfl (r_assign rfl) ?_
                refine lnil ?_
                refine wseq ?_
                refine wregion ?_
                refine lv (v := (.slice none (([] : List Int).length) 0)) rfl rfl (r_move rfl) ?_
                refine lv (v := (.slice a_92 left_91.length cap_93)) rfl rfl (r_move rfl) ?_
                refine lv (v := (.int .i64 k_108)) rfl rfl (r_move rfl) ?_
                obtain ⟨hb_123, hm⟩ := chk_some hm
                refine lv (v := .slice a_92 (Int.toNat k_108) cap_93) rfl rfl (r_sliceH Try.underlying22 Try.sizeOf3 rfl rfl hb_123.1 (by have := h_94.lecap; have := hb_123.2; omega)) ?_
                refine .ld (d := 98) (v := (.slice a_92 ((left_91.take (Int.toNat k_108)).length) cap_93)) (congrArg (fun n => Value.slice a_92 n cap_93) (List.length_take_of_le (show (Int.toNat k_108) ≤ left_91.length by have := hb_123.2; omega)).symm) ?_
                obtain ⟨hb_124, hm⟩ := chk_some hm
                refine l_appendM (col := col_120) (w := w_119) (r := (Rep.int .i64)) (c := 11) (c2 := 11) (xs := ([] : List Int)) (ys := left_91.take (Int.toNat k_108)) Own.nil ((h_94.take (Int.toNat k_108)).srcN (NB.int (k := .i64))) rfl Try.underlying22 el3_11 rfl rfl rfl hb_124.1 hb_124.2 (by decide) ?_
                intro a_125 cap_126 w_127 col_128 hk_129 h_130
                replace h1 := h1.kpp hk_129 rfl
                replace rh_62 := rh_62.kpp hk_129 rfl rfl
                replace rh_71 := rh_71.kpp hk_129 rfl rfl
                replace h_94 := h_94.kpp hk_129 rfl rfl
                replace hG_22 := hG_22.kpp hk_129 rfl rfl
                replace rh_54 := rh_54.kpp hk_129 rfl rfl
                replace h_122 := h_122.kpp hk_129 rfl rfl
                replace hst := hst.kpp hk_129 rfl rfl
                refine lv (v := (.slice a_125 ((([] : List Int) ++ (left_91.take (Int.toNat k_108))).length) cap_126)) rfl rfl (r_assign rfl) ?_
                refine lnil ?_
                refine wregion ?_
                refine lv (v := (.slice a_125 ((([] : List Int) ++ (left_91.take (Int.toNat k_108))).length) cap_126)) rfl rfl (r_move rfl) ?_
                refine lv (v := (.slice a_92 left_91.length cap_93)) rfl rfl (r_move rfl) ?_
                refine lv (v := (.int .i64 k_108)) rfl rfl (r_move rfl) ?_
                refine lv (v := (.int .i64 (IntKind.i64.wrap (k_108 + 1)))) rfl rfl (r_add k_108 1 rfl rfl) ?_
                obtain ⟨hb_131, hm⟩ := chk_some hm
                replace h1 := h1.froz 8
                replace rh_62 := rh_62.froz 8 (by decide)
                replace rh_71 := rh_71.froz 8 (by decide)
                replace hG_22 := hG_22.froz 8 (by decide)
                replace rh_54 := rh_54.froz 8 (by decide)
                replace h_122 := h_122.froz 8 (by decide)
                replace h_130 := h_130.froz 8 (by decide)
                replace h_94 := (h_94).toSlF (Froz.int .i64)
                replace hst := hst.froz 8 (by decide) (by decide)
                have h_134 := h_94.drop (sz := 1) rfl (Int.toNat (IntKind.i64.wrap (k_108 + 1)))
                refine lv (v := .slice (if cap_93 = (Int.toNat (IntKind.i64.wrap (k_108 + 1))) then a_92 else a_92.map (·.add ((Int.toNat (IntKind.i64.wrap (k_108 + 1))) * 1))) (left_91.length - (Int.toNat (IntKind.i64.wrap (k_108 + 1)))) (cap_93 - (Int.toNat (IntKind.i64.wrap (k_108 + 1))))) rfl rfl (r_sliceL Try.underlying22 Try.sizeOf3 rfl rfl hb_131.1 hb_131.2) ?_
                generalize (if cap_93 = (Int.toNat (IntKind.i64.wrap (k_108 + 1))) then a_92 else a_92.map (·.add ((Int.toNat (IntKind.i64.wrap (k_108 + 1))) * 1))) = a_132 at *
                refine .ld (d := 104) (v := (.slice a_132 ((left_91.drop (Int.toNat (IntKind.i64.wrap (k_108 + 1)))).length) (cap_93 - (Int.toNat (IntKind.i64.wrap (k_108 + 1)))))) (congrArg (fun n => Value.slice a_132 n (cap_93 - (Int.toNat (IntKind.i64.wrap (k_108 + 1))))) (List.length_drop (i := (Int.toNat (IntKind.i64.wrap (k_108 + 1)))) (l := left_91)).symm) ?_
                obtain ⟨hb_135, hm⟩ := chk_some hm
                refine l_appendM (col := (frC 8 col_128)) (w := w_127) (r := (Rep.int .i64)) (c := 11) (c2 := 11) (xs := ([] : List Int) ++ (left_91.take (Int.toNat k_108))) (ys := left_91.drop (Int.toNat (IntKind.i64.wrap (k_108 + 1)))) h_130 h_134.srcC rfl Try.underlying22 el3_11 rfl rfl rfl hb_135.1 hb_135.2 (by decide) ?_
                intro a_136 cap_137 w_138 col_139 hk_140 h_141
                replace h1 := h1.kpp hk_140 rfl
                replace rh_62 := rh_62.kpp hk_140 rfl rfl
                replace rh_71 := rh_71.kpp hk_140 rfl rfl
                replace hG_22 := hG_22.kpp hk_140 rfl rfl
                replace rh_54 := rh_54.kpp hk_140 rfl rfl
                replace h_122 := h_122.kpp hk_140 rfl rfl
                replace h_134 := h_134.kpp hk_140 rfl
                replace hst := hst.kpp hk_140 rfl rfl
                clear h_130
                refine lv (v := (.slice a_136 (((([] : List Int) ++ (left_91.take (Int.toNat k_108))) ++ (left_91.drop (Int.toNat (IntKind.i64.wrap (k_108 + 1))))).length) cap_137)) rfl rfl (r_assign rfl) ?_
                refine lnil ?_
                replace h1 := h1.recol 11 8 (by decide)
                replace rh_62 := rh_62.recol 11 8 (by decide)
                replace rh_71 := rh_71.recol 11 8 (by decide)
                replace hG_22 := hG_22.recol 11 8 (by decide)
                replace rh_54 := rh_54.recol 11 8 (by decide)
                replace h_122 := h_122.recol 11 8 (by decide)
                replace h_141 := h_141.recolSelf 8 (by decide)
                replace hst := hst.recol 11 8 (by decide) (by decide)
                exact ⟨(rcC 11 8 col_139), a_117, cap_118, (c_87 ++ [e_109]), a_136, cap_137, ((([] : List Int) ++ (left_91.take (Int.toNat k_108))) ++ (left_91.drop (Int.toNat (IntKind.i64.wrap (k_108 + 1))))), hm, hst, h1, rh_62, rh_71, h_122, h_141, hG_22, rh_54, rfl, rfl, rfl, rfl, rfl, rfl, rfl, rfl, rfl, rfl, rfl⟩
              · refine wseq ?_
                refine wregion ?_
                refine lv (v := (.int .i64 i_95)) rfl rfl (r_move rfl) ?_
                refine lv (v := (.slice a1 p1_picks.length cap1)) rfl rfl (r_move rfl) ?_
                refine lv (v := (.int .i64 (p1_picks.length : Int))) rfl rfl (r_len Try.underlying22 rfl) ?_
                refine lv (v := (.bool (decide (i_95 < (p1_picks.length : Int))))) rfl rfl (r_lss i_95 (p1_picks.length : Int) rfl rfl) ?_
                refine lnil ?_
                refine wcond (decide (i_95 < (p1_picks.length : Int))) rfl (fun hb => ?_) (fun hb => ?_)
                · rw [if_pos hb] at hm
                  clear hb
                  refine wregion ?_
                  refine lv (v := (.slice a1 p1_picks.length cap1)) rfl rfl (r_move rfl) ?_
                  refine lv (v := (.int .i64 i_95)) rfl rfl (r_move rfl) ?_
                  obtain ⟨e_142, hj_143, hm⟩ := bind_some hm
                  refine lv (v := (sptr a1 (Int.toNat i_95 * 1))) rfl rfl (r_idx Try.underlying22 Try.sizeOf3 rfl rfl (at?_some hj_143).1 (at?_some hj_143).2.1 (h1.addr hj_143)) ?_
                  refine lv (v := (.int .i64 e_142)) rfl rfl (r_ld Try.isAgg3 rfl (h1.atInt hj_143)) ?_
                  refine lv (v := (.slice a_92 left_91.length cap_93)) rfl rfl (r_move rfl) ?_
                  refine lv (v := (.int .i64 (left_91.length : Int))) rfl rfl (r_len Try.underlying22 rfl) ?_
                  obtain ⟨r_144, hr_145, hm⟩ := bind_some hm
                  refine lc rfl rfl (r_call2 Try.call48 rfl rfl) (c_credencelaw18_pick col_86 _ e_142 (left_91.length : Int) r_144 hr_145) ?_
                  rintro _ w_146 ⟨rfl, hg_147⟩
                  refine ⟨_, rfl, ?_⟩
                  replace hg_147 : Grow col_86 w_85 col_86 w_146 := .of_below hg_147
                  replace h1 := h1.gr hg_147
                  replace rh_62 := rh_62.gr hg_147
                  replace rh_71 := rh_71.gr hg_147
                  replace h_90 := h_90.gr hg_147
                  replace h_94 := h_94.gr hg_147
                  replace hG_22 := hG_22.gr hg_147
                  replace rh_54 := rh_54.gr hg_147
                  replace hst := hst.grow hg_147
                  refine lv (v := (.int .i64 r_144)) rfl rfl (r_assign rfl) ?_
                  refine lnil ?_
                  exact ⟨col_86, r_144, hm, hst, h1, rh_62, rh_71, h_90, h_94, hG_22, rh_54, rfl, rfl, rfl, rfl, rfl, rfl, rfl, rfl, rfl, rfl, rfl, rfl⟩
                · rw [if_neg (by rw [hb]; decide)] at hm
                  clear hb
                  refine wskip ?_
                  exact ⟨col_86, 0, hm, hst, h1, rh_62, rh_71, h_90, h_94, hG_22, rh_54, rfl, rfl, rfl, rfl, rfl, rfl, rfl, rfl, rfl, rfl, rfl, rfl⟩
          · rw [if_neg (by rw [hb]; decide)] at hm
            clear hb
            refine wexit (inB_hit ?_)
            refine wseq ?_
            refine wseq ?_
            refine Wp.cut (fun f w_180 => ∃ (col_181 : Col) (v_182 : Bool), m_credencelaw18_OrderCovers_J7 N t_19 r_58 r_67 c_87 v_182 = some r ∧ St w0 (col0 col) col_181 w_180 ∧ Own (Rep.int .i64) 3 6 col_181 w_180 ra_60 rc_61 r_58.1 ∧ Own (Rep.int .i64) 3 7 col_181 w_180 ra_69 rc_70 r_67.1 ∧ Own (Rep.int .i64) 3 9 col_181 w_180 a_88 cap_89 c_87 ∧ GO 85 86 2 col_181 w_180 o_21 t_19 ∧ f 10 = (.slice ra_60 r_58.1.length rc_61) ∧ f 12 = (.slice ra_69 r_67.1.length rc_70) ∧ f 129 = (.bool v_182) ∧ f 14 = (.slice a_88 c_87.length cap_89) ∧ f 6 = (.pointer (some ⟨o_21.g, 0, none⟩)) ∧ f 1000000 = (enc [])) ?_ ?_
            · intro f w_180 hJ
              obtain ⟨col_181, v_182, hm, hst, rh_62, rh_71, h_90, hG_22, hs10, hs12, hs129, hs14, hs6, hs1000000⟩ := hJ
              rw [m_credencelaw18_OrderCovers_J7.eq_1] at hm
              refine .ld (d := 10) (v := (.slice ra_60 r_58.1.length rc_61)) hs10 ?_
              refine .ld (d := 12) (v := (.slice ra_69 r_67.1.length rc_70)) hs12 ?_
              refine .ld (d := 129) (v := (.bool v_182)) hs129 ?_
              refine .ld (d := 14) (v := (.slice a_88 c_87.length cap_89)) hs14 ?_
              refine .ld (d := 6) (v := (.pointer (some ⟨o_21.g, 0, none⟩))) hs6 ?_
              refine .ld (d := 1000000) (v := (enc [])) hs1000000 ?_
              clear hs10 hs12 hs129 hs14 hs6 hs1000000
              refine wcond (v_182) rfl (fun hb => ?_) (fun hb => ?_)
              · rw [if_pos hb] at hm
                clear hb
                refine wseq ?_
                refine wregion ?_
                refine lv (v := (.bool false)) rfl rfl (r_assign rfl) ?_
                refine lnil ?_
                refine wret ?_
                cases hm
                exact ⟨rfl, rfl, hst.below⟩
              · rw [if_neg (by rw [hb]; decide)] at hm
                clear hb
                refine wskip ?_
                refine wseq ?_
                refine wregion ?_
                refine lv (v := (.slice ra_60 r_58.1.length rc_61)) rfl rfl (r_move rfl) ?_
                refine lv (v := (.slice ra_69 r_67.1.length rc_70)) rfl rfl (r_move rfl) ?_
                refine lv (v := (.slice a_88 c_87.length cap_89)) rfl rfl (r_move rfl) ?_
                have hx_183 : Has (Rep.row 3 (Rep.int .i64)) 6 col_181 w_180 [(.slice ra_60 r_58.1.length rc_61)] r_58.1 := rh_62.has
                have hx_184 : Has (Rep.row 3 (Rep.int .i64)) 7 col_181 w_180 [(.slice ra_69 r_67.1.length rc_70)] r_67.1 := rh_71.has
                have hx_185 : Has (Rep.row 3 (Rep.int .i64)) 9 col_181 w_180 [(.slice a_88 c_87.length cap_89)] c_87 := h_90.has
                have hx_186 := RowsH.cons (cs := [(.slice ra_69 r_67.1.length rc_70)]) hx_184 (RowsH.cons1 (cs := [(.slice a_88 c_87.length cap_89)]) hx_185 Rows.nil0) (by decide) (by decide)
                replace hx_183 := hx_183.recol 7 9 (by decide)
                replace hG_22 := hG_22.recol 7 9 (by decide)
                replace rh_62 := rh_62.recol 7 9 (by decide)
                replace rh_71 := rh_71.recolSelf 9 (by decide)
                replace h_90 := h_90.recol 7 9 (by decide)
                replace hst := hst.recol 7 9 (by decide) (by decide)
                have hx_187 := RowsH.cons (cs := [(.slice ra_60 r_58.1.length rc_61)]) hx_183 hx_186 (by decide) (by decide)
                replace hG_22 := hG_22.recol 6 9 (by decide)
                replace rh_62 := rh_62.recolSelf 9 (by decide)
                replace rh_71 := rh_71.recol 6 9 (by decide)
                replace h_90 := h_90.recol 6 9 (by decide)
                replace hst := hst.recol 6 9 (by decide) (by decide)
                refine l_lit (col := (rcC 6 9 (rcC 7 9 col_181))) (r := (Rep.row 3 (Rep.int .i64))) (xs := [r_58.1, r_67.1, c_87]) [(.slice ra_60 r_58.1.length rc_61), (.slice ra_69 r_67.1.length rc_70), (.slice a_88 c_87.length cap_89)] 9 rfl Try.underlying33 el22_11 rfl rfl rfl rfl rfl rfl (by intro v hv; simp only [List.mem_cons, List.not_mem_nil, or_false] at hv; rcases hv with rfl | rfl | rfl <;> rfl) hx_187 ?_
                intro a_188 w_189 col_190 hg_191 h_192
                replace hG_22 := hG_22.gr hg_191
                replace rh_62 := rh_62.gr hg_191
                replace rh_71 := rh_71.gr hg_191
                replace h_90 := h_90.gr hg_191
                replace hst := hst.grow hg_191
                refine lv (v := (.slice a_188 ([r_58.1, r_67.1, c_87].length) 3)) rfl rfl (r_assign rfl) ?_
                refine lnil ?_
                refine wseq ?_
                refine wseq ?_
                refine wregion ?_
                refine lv (v := (.int .i64 0)) rfl rfl (r_assign rfl) ?_
                refine lnil ?_
                refine wblock ?_
                refine wloop (fun n f w_194 => ∃ (col_195 : Col) (n_196 : Int) (n_193 : Nat), n_193 = n ∧ m_credencelaw18_OrderCovers_L2 N t_19 r_58 r_67 c_87 n_193 n_196 = some r ∧ St w0 (col0 col) col_195 w_194 ∧ Own (Rep.row 3 (Rep.int .i64)) 22 9 col_195 w_194 a_188 3 [r_58.1, r_67.1, c_87] ∧ GO 85 86 2 col_195 w_194 o_21 t_19 ∧ f 19 = (.slice a_188 ([r_58.1, r_67.1, c_87].length) 3) ∧ f 20 = (.int .i64 n_196) ∧ f 6 = (.pointer (some ⟨o_21.g, 0, none⟩)) ∧ f 1000000 = (enc [])) N ⟨col_190, 0, N, rfl, hm, hst, h_192, hG_22, rfl, rfl, rfl, rfl⟩ ?_
                clear hm; intro n f w_194 hI
                obtain ⟨col_195, n_196, n_193, hn, hm, hst, h_192, hG_22, hs19, hs20, hs6, hs1000000⟩ := hI
                subst hn
                refine .ld (d := 19) (v := (.slice a_188 ([r_58.1, r_67.1, c_87].length) 3)) hs19 ?_
                refine .ld (d := 20) (v := (.int .i64 n_196)) hs20 ?_
                refine .ld (d := 6) (v := (.pointer (some ⟨o_21.g, 0, none⟩))) hs6 ?_
                refine .ld (d := 1000000) (v := (enc [])) hs1000000 ?_
                clear hs19 hs20 hs6 hs1000000
                cases n_193 with
                | zero => rw [m_credencelaw18_OrderCovers_L2.eq_1] at hm; cases hm
                | succ n_193 =>
                  rw [m_credencelaw18_OrderCovers_L2.eq_2] at hm
                  refine wseq ?_
                  refine wseq ?_
                  refine wregion ?_
                  refine lv (v := (.int .i64 n_196)) rfl rfl (r_move rfl) ?_
                  refine lv (v := (.bool (decide (n_196 < 3)))) rfl rfl (r_lss n_196 3 rfl rfl) ?_
                  refine lnil ?_
                  refine wcond (decide (n_196 < 3)) rfl (fun hb => ?_) (fun hb => ?_)
                  · rw [if_pos hb] at hm
                    clear hb
                    refine wskip ?_
                    refine wseq ?_
                    refine wblock ?_
                    refine wseq ?_
                    refine wregion ?_
                    refine lv (v := (.pointer (some ⟨o_21.g, 0, none⟩))) rfl rfl (r_move rfl) ?_
                    refine lv (v := (.slice a_188 ([r_58.1, r_67.1, c_87].length) 3)) rfl rfl (r_move rfl) ?_
                    refine lv (v := (.int .i64 n_196)) rfl rfl (r_move rfl) ?_
                    obtain ⟨e_197, hj_198, hm⟩ := bind_some hm
                    refine lv (v := (sptr a_188 (Int.toNat n_196 * 1))) rfl rfl (r_idx Try.underlying33 Try.sizeOf22 rfl rfl (at?_some hj_198).1 (at?_some hj_198).2.1 (h_192.addr hj_198)) ?_
                    obtain ⟨_, hr_199, hA_200⟩ := h_192.atN hj_198
                    obtain ⟨a_201, cap_202, rfl, h_203⟩ := hr_199.row
                    refine lv (v := (.slice a_201 e_197.length cap_202)) rfl rfl (r_ld Try.isAgg22 rfl hA_200.one) ?_
                    obtain ⟨r_204, hr_205, hm⟩ := bind_some hm
                    refine lc rfl rfl (r_call2 Try.call40 rfl rfl) (c_order_Cliques N 12 (frC 9 col_195) _ 2 (by decide) o_21 t_19 a_201 cap_202 e_197 (hG_22.froz 9 (by decide)) (h_203.toSlF (Froz.int .i64)) r_204 hr_205) ?_
                    rintro _ w_209 ⟨col_211, ra_206, rc_207, rfl, hg_210, rh_208⟩
                    refine ⟨_, rfl, ?_⟩
                    replace rh_208 := rh_208.thaw (flat_row (flat_int .i64)) hg_210 ((Fz.refl (col := col_195)).froz 9) (by decide)
                    replace hg_210 := hg_210.thawR (col := col_195)
                    generalize colR w_194.heap.size col_195 col_211 = col_212 at *
                    replace h_192 := h_192.gr hg_210
                    replace hG_22 := hG_22.gr hg_210
                    replace h_203 := h_203.gr hg_210
                    replace hst := hst.grow hg_210
                    refine lv (v := (.tuple #[(.slice ra_206 r_204.1.length rc_207), (.int .i64 r_204.2)])) rfl rfl (r_move rfl) ?_
                    refine lv (v := (.slice ra_206 r_204.1.length rc_207)) rfl rfl (r_extract rfl rfl) ?_
                    refine lv (v := (.int .i64 r_204.2)) rfl rfl (r_extract rfl rfl) ?_
                    refine lv (v := (.slice ra_206 r_204.1.length rc_207)) rfl rfl (r_assign rfl) ?_
                    refine lv (v := (.int .i64 r_204.2)) rfl rfl (r_assign rfl) ?_
                    refine lnil ?_
                    refine wseq ?_
                    refine wregion ?_
                    refine lv (v := (.pointer (some ⟨o_21.g, 0, none⟩))) rfl rfl (r_move rfl) ?_
                    refine lv (v := (.slice a_188 ([r_58.1, r_67.1, c_87].length) 3)) rfl rfl (r_move rfl) ?_
                    refine lv (v := (.int .i64 n_196)) rfl rfl (r_move rfl) ?_
                    refine lv (v := (sptr a_188 (Int.toNat n_196 * 1))) rfl rfl (r_idx Try.underlying33 Try.sizeOf22 rfl rfl (at?_some hj_198).1 (at?_some hj_198).2.1 (h_192.addr hj_198)) ?_
                    obtain ⟨_, hr_213, hA_214⟩ := h_192.atN hj_198
                    obtain ⟨a_215, cap_216, rfl, h_217⟩ := hr_213.row
                    refine lv (v := (.slice a_215 e_197.length cap_216)) rfl rfl (r_ld Try.isAgg22 rfl hA_214.one) ?_
                    obtain ⟨r_218, hr_219, hm⟩ := bind_some hm
                    refine lc rfl rfl (r_call2 Try.call42 rfl rfl) (c_order_Width N (frC 9 col_212) _ 2 (by decide) o_21 t_19 a_215 cap_216 e_197 (hG_22.froz 9 (by decide)) (h_217.toSlF (Froz.int .i64)) r_218 hr_219) ?_
                    rintro _ w_220 ⟨rfl, hg_221⟩
                    refine ⟨_, rfl, ?_⟩
                    replace hg_221 : Grow col_212 w_209 col_212 w_220 := .of_below hg_221
                    replace h_192 := h_192.gr hg_221
                    replace hG_22 := hG_22.gr hg_221
                    replace rh_208 := rh_208.gr hg_221
                    replace h_217 := h_217.gr hg_221
                    replace hst := hst.grow hg_221
                    refine lv (v := (.tuple #[(.int .i64 r_218.1), (.int .i64 r_218.2)])) rfl rfl (r_move rfl) ?_
                    refine lv (v := (.int .i64 r_218.1)) rfl rfl (r_extract rfl rfl) ?_
                    refine lv (v := (.int .i64 r_218.2)) rfl rfl (r_extract rfl rfl) ?_
                    refine lv (v := (.int .i64 r_218.1)) rfl rfl (r_assign rfl) ?_
                    refine lv (v := (.int .i64 r_218.2)) rfl rfl (r_assign rfl) ?_
                    refine lnil ?_
                    refine wseq ?_
                    refine wseq ?_
                    refine Wp.cut (fun f w_234 => ∃ (col_235 : Col) (v_236 : Bool), m_credencelaw18_OrderCovers_J8 N t_19 r_58 r_67 c_87 n_196 (m_credencelaw18_OrderCovers_L2 N t_19 r_58 r_67 c_87 n_193) r_204 r_218 v_236 = some r ∧ St w0 (col0 col) col_235 w_234 ∧ Own (Rep.row 3 (Rep.int .i64)) 22 9 col_235 w_234 a_188 3 [r_58.1, r_67.1, c_87] ∧ Own (Rep.row 3 (Rep.int .i64)) 22 12 col_235 w_234 ra_206 rc_207 r_204.1 ∧ GO 85 86 2 col_235 w_234 o_21 t_19 ∧ f 168 = (.bool v_236) ∧ f 19 = (.slice a_188 ([r_58.1, r_67.1, c_87].length) 3) ∧ f 20 = (.int .i64 n_196) ∧ f 21 = (.slice ra_206 r_204.1.length rc_207) ∧ f 23 = (.int .i64 r_218.1) ∧ f 6 = (.pointer (some ⟨o_21.g, 0, none⟩)) ∧ f 1000000 = (enc [])) ?_ ?_
                    · intro f w_234 hJ
                      obtain ⟨col_235, v_236, hm, hst, h_192, rh_208, hG_22, hs168, hs19, hs20, hs21, hs23, hs6, hs1000000⟩ := hJ
                      rw [m_credencelaw18_OrderCovers_J8.eq_1] at hm
                      refine .ld (d := 168) (v := (.bool v_236)) hs168 ?_
                      refine .ld (d := 19) (v := (.slice a_188 ([r_58.1, r_67.1, c_87].length) 3)) hs19 ?_
                      refine .ld (d := 20) (v := (.int .i64 n_196)) hs20 ?_
                      refine .ld (d := 21) (v := (.slice ra_206 r_204.1.length rc_207)) hs21 ?_
                      refine .ld (d := 23) (v := (.int .i64 r_218.1)) hs23 ?_
                      refine .ld (d := 6) (v := (.pointer (some ⟨o_21.g, 0, none⟩))) hs6 ?_
                      refine .ld (d := 1000000) (v := (enc [])) hs1000000 ?_
                      clear hs168 hs19 hs20 hs21 hs23 hs6 hs1000000
                      refine wcond (v_236) rfl (fun hb => ?_) (fun hb => ?_)
                      · rw [if_pos hb] at hm
                        clear hb
                        refine wseq ?_
                        refine wregion ?_
                        refine lv (v := (.bool false)) rfl rfl (r_assign rfl) ?_
                        refine lnil ?_
                        refine wret ?_
                        cases hm
                        exact ⟨rfl, rfl, hst.below⟩
                      · rw [if_neg (by rw [hb]; decide)] at hm
                        clear hb
                        refine wskip ?_
                        refine wseq ?_
                        refine wregion ?_
                        refine lv (v := (.int .i64 1)) rfl rfl (r_assign rfl) ?_
                        refine lnil ?_
                        refine wseq ?_
                        refine wseq ?_
                        refine wregion ?_
                        refine lv (v := (.int .i64 0)) rfl rfl (r_assign rfl) ?_
                        refine lnil ?_
                        refine wblock ?_
                        replace h_192 := h_192.froz 12 (by decide)
                        replace rh_208 := (rh_208).toSlF (Froz.row (Froz.int .i64))
                        replace hG_22 := hG_22.froz 12 (by decide)
                        replace hst := hst.froz 12 (by decide) (by decide)
                        refine wloop (fun n f w_238 => ∃ (col_239 : Col) (most_240 : Int) (i_241 : Int) (n_237 : Nat), n_237 = n ∧ m_credencelaw18_OrderCovers_L3 N t_19 r_58 r_67 c_87 n_196 (m_credencelaw18_OrderCovers_L2 N t_19 r_58 r_67 c_87 n_193) r_204 r_218 n_237 most_240 i_241 = some r ∧ St w0 (col0 col) col_239 w_238 ∧ Own (Rep.row 3 (Rep.int .i64)) 22 9 col_239 w_238 a_188 3 [r_58.1, r_67.1, c_87] ∧ Sl (Rep.slice (Rep.int .i64)) col_239 w_238 ra_206 rc_207 r_204.1 ∧ GO 85 86 2 col_239 w_238 o_21 t_19 ∧ f 19 = (.slice a_188 ([r_58.1, r_67.1, c_87].length) 3) ∧ f 20 = (.int .i64 n_196) ∧ f 21 = (.slice ra_206 r_204.1.length rc_207) ∧ f 23 = (.int .i64 r_218.1) ∧ f 25 = (.int .i64 most_240) ∧ f 26 = (.int .i64 i_241) ∧ f 6 = (.pointer (some ⟨o_21.g, 0, none⟩)) ∧ f 1000000 = (enc [])) N ⟨(frC 12 col_235), 1, 0, N, rfl, hm, hst, h_192, rh_208, hG_22, rfl, rfl, rfl, rfl, rfl, rfl, rfl, rfl⟩ ?_
                        clear hm; intro n f w_238 hI
                        obtain ⟨col_239, most_240, i_241, n_237, hn, hm, hst, h_192, rh_208, hG_22, hs19, hs20, hs21, hs23, hs25, hs26, hs6, hs1000000⟩ := hI
                        subst hn
                        refine .ld (d := 19) (v := (.slice a_188 ([r_58.1, r_67.1, c_87].length) 3)) hs19 ?_
                        refine .ld (d := 20) (v := (.int .i64 n_196)) hs20 ?_
                        refine .ld (d := 21) (v := (.slice ra_206 r_204.1.length rc_207)) hs21 ?_
                        refine .ld (d := 23) (v := (.int .i64 r_218.1)) hs23 ?_
                        refine .ld (d := 25) (v := (.int .i64 most_240)) hs25 ?_
                        refine .ld (d := 26) (v := (.int .i64 i_241)) hs26 ?_
                        refine .ld (d := 6) (v := (.pointer (some ⟨o_21.g, 0, none⟩))) hs6 ?_
                        refine .ld (d := 1000000) (v := (enc [])) hs1000000 ?_
                        clear hs19 hs20 hs21 hs23 hs25 hs26 hs6 hs1000000
                        cases n_237 with
                        | zero => rw [m_credencelaw18_OrderCovers_L3.eq_1] at hm; cases hm
                        | succ n_237 =>
                          rw [m_credencelaw18_OrderCovers_L3.eq_2] at hm
                          refine wseq ?_
                          refine wseq ?_
                          refine wregion ?_
                          refine lv (v := (.int .i64 i_241)) rfl rfl (r_move rfl) ?_
                          refine lv (v := (.slice ra_206 r_204.1.length rc_207)) rfl rfl (r_move rfl) ?_
                          refine lv (v := (.int .i64 (r_204.1.length : Int))) rfl rfl (r_len Try.underlying33 rfl) ?_
                          refine lv (v := (.bool (decide (i_241 < (r_204.1.length : Int))))) rfl rfl (r_lss i_241 (r_204.1.length : Int) rfl rfl) ?_
                          refine lnil ?_
                          refine wcond (decide (i_241 < (r_204.1.length : Int))) rfl (fun hb => ?_) (fun hb => ?_)
                          · rw [if_pos hb] at hm
                            clear hb
                            refine wskip ?_
                            refine wseq ?_
                            refine wblock ?_
                            refine wseq ?_
                            refine wquiet (col := col_239) (by kernel_rfl) (by kernel_rfl) ?_
                            refine qv (v := (.slice ra_206 r_204.1.length rc_207)) rfl (fun _ hC => r_move rfl) ?_
                            refine qv (v := (.int .i64 i_241)) rfl (fun _ hC => r_move rfl) ?_
                            refine qv (v := (.int .i64 i_241)) rfl (fun _ hC => r_move rfl) ?_
                            refine qv (v := (.int .i64 (IntKind.i64.wrap (i_241 + 1)))) rfl (fun _ hC => r_add i_241 1 rfl rfl) ?_
                            obtain ⟨hb_242, hm⟩ := chk_some hm
                            have h_244 := (rh_208.take (Int.toNat (IntKind.i64.wrap (i_241 + 1)))).drop (sz := 1) rfl (Int.toNat i_241)
                            refine qv (v := .slice (if rc_207 = (Int.toNat i_241) then ra_206 else ra_206.map (·.add ((Int.toNat i_241) * 1))) ((Int.toNat (IntKind.i64.wrap (i_241 + 1))) - (Int.toNat i_241)) (rc_207 - (Int.toNat i_241))) rfl (fun _ hC => r_sliceLH Try.underlying33 Try.sizeOf22 rfl rfl rfl hb_242.1 hb_242.2.1 (by have := rh_208.1.2; have := hb_242.2.2; omega)) ?_
                            generalize (if rc_207 = (Int.toNat i_241) then ra_206 else ra_206.map (·.add ((Int.toNat i_241) * 1))) = a_243 at *
                            refine .ld (d := 179) (v := (.slice a_243 (((r_204.1.take (Int.toNat (IntKind.i64.wrap (i_241 + 1)))).drop (Int.toNat i_241)).length) (rc_207 - (Int.toNat i_241)))) (congrArg (fun n => Value.slice a_243 n (rc_207 - (Int.toNat i_241))) (show (Int.toNat (IntKind.i64.wrap (i_241 + 1))) - (Int.toNat i_241) = ((r_204.1.take (Int.toNat (IntKind.i64.wrap (i_241 + 1)))).drop (Int.toNat i_241)).length by rw [List.length_drop, List.length_take]; have := hb_242.2; omega)) ?_
                            refine qv (v := (.slice a_188 ([r_58.1, r_67.1, c_87].length) 3)) rfl (fun _ hC => r_move rfl) ?_
                            refine qv (v := (.int .i64 n_196)) rfl (fun _ hC => r_move rfl) ?_
                            obtain ⟨e_245, hj_246, hm⟩ := bind_some hm
                            refine qv (v := (sptr a_188 (Int.toNat n_196 * 1))) rfl (fun _ hC => r_idx Try.underlying33 Try.sizeOf22 rfl rfl (at?_some hj_246).1 (at?_some hj_246).2.1 (h_192.addr hj_246)) ?_
                            obtain ⟨_, hr_247, hA_248⟩ := h_192.atN hj_246
                            obtain ⟨a_249, cap_250, rfl, h_251⟩ := hr_247.row
                            refine qv (v := (.slice a_249 e_245.length cap_250)) rfl (fun _ hC => r_ld Try.isAgg22 rfl (hA_248.one.gr (Grow.of_below (col := col_239) hC.below))) ?_
                            refine qv (v := (.int .i64 i_241)) rfl (fun _ hC => r_move rfl) ?_
                            obtain ⟨e_252, hj_253, hm⟩ := bind_some hm
                            refine qv (v := (sptr a_249 (Int.toNat i_241 * 1))) rfl (fun _ hC => r_idx Try.underlying22 Try.sizeOf3 rfl rfl (at?_some hj_253).1 (at?_some hj_253).2.1 (h_251.addr hj_253)) ?_
                            refine qv (v := (.int .i64 e_252)) rfl (fun _ hC => r_ld Try.isAgg3 rfl ((h_251.gr (Grow.of_below (col := col_239) hC.below)).atInt hj_253)) ?_
                            refine qv (v := (.slice a_188 ([r_58.1, r_67.1, c_87].length) 3)) rfl (fun _ hC => r_move rfl) ?_
                            refine qv (v := (.int .i64 n_196)) rfl (fun _ hC => r_move rfl) ?_
                            refine qv (v := (sptr a_188 (Int.toNat n_196 * 1))) rfl (fun _ hC => r_idx Try.underlying33 Try.sizeOf22 rfl rfl (at?_some hj_246).1 (at?_some hj_246).2.1 (h_192.addr hj_246)) ?_
                            obtain ⟨_, hr_254, hA_255⟩ := h_192.atN hj_246
                            obtain ⟨a_256, cap_257, rfl, h_258⟩ := hr_254.row
                            refine qv (v := (.slice a_256 e_245.length cap_257)) rfl (fun _ hC => r_ld Try.isAgg22 rfl (hA_255.one.gr (Grow.of_below (col := col_239) hC.below))) ?_
                            refine qv (v := (.int .i64 i_241)) rfl (fun _ hC => r_move rfl) ?_
                            refine qv (v := (sptr a_256 (Int.toNat i_241 * 1))) rfl (fun _ hC => r_idx Try.underlying22 Try.sizeOf3 rfl rfl (at?_some hj_253).1 (at?_some hj_253).2.1 (h_258.addr hj_253)) ?_
                            refine qv (v := (.int .i64 e_252)) rfl (fun _ hC => r_ld Try.isAgg3 rfl ((h_258.gr (Grow.of_below (col := col_239) hC.below)).atInt hj_253)) ?_
                            obtain ⟨r_259, hr_260, hm⟩ := bind_some hm
                            refine qc (v := (.bool r_259)) rfl (fun _ hC => ⟨_, _, r_call3 Try.call49 rfl rfl rfl, (c_credencelaw18_listed N col_239 _ a_243 (rc_207 - (Int.toNat i_241)) ((r_204.1.take (Int.toNat (IntKind.i64.wrap (i_241 + 1)))).drop (Int.toNat i_241)) e_252 e_252 (h_244.gr (Grow.of_below (col := col_239) hC.below)) r_259 hr_260).mono fun _ _ h => ⟨h.1, hC.trans (.of_below h.2)⟩⟩) ?_
                            refine qv (v := (.bool r_259)) rfl (fun _ hC => r_assign rfl) ?_
                            refine qnil ?_
                            intro w_261 hC
                            replace hC : Grow col_239 w_238 col_239 w_261 := .of_below hC.below
                            replace h_192 := h_192.gr hC
                            replace rh_208 := rh_208.gr hC
                            replace hG_22 := hG_22.gr hC
                            replace hst := hst.grow hC
                            refine wseq ?_
                            refine wseq ?_
                            refine wregion ?_
                            refine lv (v := (.bool r_259)) rfl rfl (r_move rfl) ?_
                            refine lv (v := (.bool (!r_259))) rfl rfl (r_not r_259 rfl) ?_
                            refine lnil ?_
                            refine wcond (!r_259) rfl (fun hb => ?_) (fun hb => ?_)
                            · rw [if_pos hb] at hm
                              clear hb
                              refine wseq ?_
                              refine wregion ?_
                              refine lv (v := (.bool false)) rfl rfl (r_assign rfl) ?_
                              refine lnil ?_
                              refine wret ?_
                              cases hm
                              exact ⟨rfl, rfl, hst.below⟩
                            · rw [if_neg (by rw [hb]; decide)] at hm
                              clear hb
                              refine wskip ?_
                              refine wseq ?_
                              refine wregion ?_
                              refine lv (v := (.int .i64 most_240)) rfl rfl (r_move rfl) ?_
                              refine lv (v := (.slice ra_206 r_204.1.length rc_207)) rfl rfl (r_move rfl) ?_
                              refine lv (v := (.int .i64 i_241)) rfl rfl (r_move rfl) ?_
                              obtain ⟨e_262, hj_263, hm⟩ := bind_some hm
                              refine lv (v := (sptr ra_206 (Int.toNat i_241 * 1))) rfl rfl (r_idx Try.underlying33 Try.sizeOf22 rfl rfl (at?_some hj_263).1 (at?_some hj_263).2.1 (rh_208.addr hj_263)) ?_
                              obtain ⟨_, hr_264, hA_265⟩ := rh_208.atN hj_263
                              obtain ⟨⟨a_266, cap_267, rfl, h_268⟩, _⟩ := hr_264
                              refine lv (v := (.slice a_266 e_262.length cap_267)) rfl rfl (r_ld Try.isAgg22 rfl hA_265.one) ?_
                              refine lv (v := (.int .i64 (e_262.length : Int))) rfl rfl (r_len Try.underlying22 rfl) ?_
                              refine lv (v := (.int .i64 (if (e_262.length : Int) > most_240 then (e_262.length : Int) else most_240))) rfl rfl (r_max most_240 (e_262.length : Int) rfl rfl) ?_
                              refine lv (v := (.int .i64 (if (e_262.length : Int) > most_240 then (e_262.length : Int) else most_240))) rfl rfl (r_assign rfl) ?_
                              refine lnil ?_
                              refine wseq ?_
                              refine wregion ?_
                              refine lv (v := (.int .i64 0)) rfl rfl (r_assign rfl) ?_
                              refine lnil ?_
                              refine wblock ?_
                              refine wloop (fun n f w_270 => ∃ (col_271 : Col) (k_272 : Int) (n_269 : Nat), n_269 = n ∧ m_credencelaw18_OrderCovers_L4 N t_19 n_196 r_204 most_240 i_241 (m_credencelaw18_OrderCovers_L3 N t_19 r_58 r_67 c_87 n_196 (m_credencelaw18_OrderCovers_L2 N t_19 r_58 r_67 c_87 n_193) r_204 r_218 n_237) e_262 n_269 k_272 = some r ∧ St w0 (col0 col) col_271 w_270 ∧ Own (Rep.row 3 (Rep.int .i64)) 22 9 col_271 w_270 a_188 3 [r_58.1, r_67.1, c_87] ∧ Sl (Rep.slice (Rep.int .i64)) col_271 w_270 ra_206 rc_207 r_204.1 ∧ GO 85 86 2 col_271 w_270 o_21 t_19 ∧ f 19 = (.slice a_188 ([r_58.1, r_67.1, c_87].length) 3) ∧ f 20 = (.int .i64 n_196) ∧ f 21 = (.slice ra_206 r_204.1.length rc_207) ∧ f 23 = (.int .i64 r_218.1) ∧ f 25 = (.int .i64 (if (e_262.length : Int) > most_240 then (e_262.length : Int) else most_240)) ∧ f 26 = (.int .i64 i_241) ∧ f 28 = (.int .i64 k_272) ∧ f 6 = (.pointer (some ⟨o_21.g, 0, none⟩)) ∧ f 1000000 = (enc [])) N ⟨col_239, 0, N, rfl, hm, hst, h_192, rh_208, hG_22, rfl, rfl, rfl, rfl, rfl, rfl, rfl, rfl, rfl⟩ ?_
                              clear hm; intro n f w_270 hI
                              obtain ⟨col_271, k_272, n_269, hn, hm, hst, h_192, rh_208, hG_22, hs19, hs20, hs21, hs23, hs25, hs26, hs28, hs6, hs1000000⟩ := hI
                              subst hn
                              refine .ld (d := 19) (v := (.slice a_188 ([r_58.1, r_67.1, c_87].length) 3)) hs19 ?_
                              refine .ld (d := 20) (v := (.int .i64 n_196)) hs20 ?_
                              refine .ld (d := 21) (v := (.slice ra_206 r_204.1.length rc_207)) hs21 ?_
                              refine .ld (d := 23) (v := (.int .i64 r_218.1)) hs23 ?_
                              refine .ld (d := 25) (v := (.int .i64 (if (e_262.length : Int) > most_240 then (e_262.length : Int) else most_240))) hs25 ?_
                              refine .ld (d := 26) (v := (.int .i64 i_241)) hs26 ?_
                              refine .ld (d := 28) (v := (.int .i64 k_272)) hs28 ?_
                              refine .ld (d := 6) (v := (.pointer (some ⟨o_21.g, 0, none⟩))) hs6 ?_
                              refine .ld (d := 1000000) (v := (enc [])) hs1000000 ?_
                              clear hs19 hs20 hs21 hs23 hs25 hs26 hs28 hs6 hs1000000
                              cases n_269 with
                              | zero => rw [m_credencelaw18_OrderCovers_L4.eq_1] at hm; cases hm
                              | succ n_269 =>
                                rw [m_credencelaw18_OrderCovers_L4.eq_2] at hm
                                refine wseq ?_
                                refine wseq ?_
                                refine Wp.cut (fun f w_299 => ∃ (col_300 : Col) (v_301 : Bool), m_credencelaw18_OrderCovers_J9 N t_19 r_204 most_240 i_241 (m_credencelaw18_OrderCovers_L3 N t_19 r_58 r_67 c_87 n_196 (m_credencelaw18_OrderCovers_L2 N t_19 r_58 r_67 c_87 n_193) r_204 r_218 n_237) e_262 k_272 (m_credencelaw18_OrderCovers_L4 N t_19 n_196 r_204 most_240 i_241 (m_credencelaw18_OrderCovers_L3 N t_19 r_58 r_67 c_87 n_196 (m_credencelaw18_OrderCovers_L2 N t_19 r_58 r_67 c_87 n_193) r_204 r_218 n_237) e_262 n_269) v_301 = some r ∧ St w0 (col0 col) col_300 w_299 ∧ Own (Rep.row 3 (Rep.int .i64)) 22 9 col_300 w_299 a_188 3 [r_58.1, r_67.1, c_87] ∧ Sl (Rep.slice (Rep.int .i64)) col_300 w_299 ra_206 rc_207 r_204.1 ∧ GO 85 86 2 col_300 w_299 o_21 t_19 ∧ f 19 = (.slice a_188 ([r_58.1, r_67.1, c_87].length) 3) ∧ f 20 = (.int .i64 n_196) ∧ f 21 = (.slice ra_206 r_204.1.length rc_207) ∧ f 218 = (.bool v_301) ∧ f 23 = (.int .i64 r_218.1) ∧ f 25 = (.int .i64 (if (e_262.length : Int) > most_240 then (e_262.length : Int) else most_240)) ∧ f 26 = (.int .i64 i_241) ∧ f 28 = (.int .i64 k_272) ∧ f 6 = (.pointer (some ⟨o_21.g, 0, none⟩)) ∧ f 1000000 = (enc [])) ?_ ?_
                                · intro f w_299 hJ
                                  obtain ⟨col_300, v_301, hm, hst, h_192, rh_208, hG_22, hs19, hs20, hs21, hs218, hs23, hs25, hs26, hs28, hs6, hs1000000⟩ := hJ
                                  rw [m_credencelaw18_OrderCovers_J9.eq_1] at hm
                                  refine .ld (d := 19) (v := (.slice a_188 ([r_58.1, r_67.1, c_87].length) 3)) hs19 ?_
                                  refine .ld (d := 20) (v := (.int .i64 n_196)) hs20 ?_
                                  refine .ld (d := 21) (v := (.slice ra_206 r_204.1.length rc_207)) hs21 ?_
                                  refine .ld (d := 218) (v := (.bool v_301)) hs218 ?_
                                  refine .ld (d := 23) (v := (.int .i64 r_218.1)) hs23 ?_
                                  refine .ld (d := 25) (v := (.int .i64 (if (e_262.length : Int) > most_240 then (e_262.length : Int) else most_240))) hs25 ?_
                                  refine .ld (d := 26) (v := (.int .i64 i_241)) hs26 ?_
                                  refine .ld (d := 28) (v := (.int .i64 k_272)) hs28 ?_
                                  refine .ld (d := 6) (v := (.pointer (some ⟨o_21.g, 0, none⟩))) hs6 ?_
                                  refine .ld (d := 1000000) (v := (enc [])) hs1000000 ?_
                                  clear hs19 hs20 hs21 hs218 hs23 hs25 hs26 hs28 hs6 hs1000000
                                  refine wcond (v_301) rfl (fun hb => ?_) (fun hb => ?_)
                                  · rw [if_pos hb] at hm
                                    clear hb
                                    refine wskip ?_
                                    refine wseq ?_
                                    refine wblock ?_
                                    refine wseq ?_
                                    refine wregion ?_
                                    refine lv (v := (.int .i64 0)) rfl rfl (r_assign rfl) ?_
                                    refine lnil ?_
                                    refine wblock ?_
                                    refine wloop (fun n f w_303 => ∃ (col_304 : Col) (j_305 : Int) (n_302 : Nat), n_302 = n ∧ m_credencelaw18_OrderCovers_L5 N t_19 r_204 i_241 k_272 (m_credencelaw18_OrderCovers_L4 N t_19 n_196 r_204 most_240 i_241 (m_credencelaw18_OrderCovers_L3 N t_19 r_58 r_67 c_87 n_196 (m_credencelaw18_OrderCovers_L2 N t_19 r_58 r_67 c_87 n_193) r_204 r_218 n_237) e_262 n_269) n_302 j_305 = some r ∧ St w0 (col0 col) col_304 w_303 ∧ Own (Rep.row 3 (Rep.int .i64)) 22 9 col_304 w_303 a_188 3 [r_58.1, r_67.1, c_87] ∧ Sl (Rep.slice (Rep.int .i64)) col_304 w_303 ra_206 rc_207 r_204.1 ∧ GO 85 86 2 col_304 w_303 o_21 t_19 ∧ f 19 = (.slice a_188 ([r_58.1, r_67.1, c_87].length) 3) ∧ f 20 = (.int .i64 n_196) ∧ f 21 = (.slice ra_206 r_204.1.length rc_207) ∧ f 23 = (.int .i64 r_218.1) ∧ f 25 = (.int .i64 (if (e_262.length : Int) > most_240 then (e_262.length : Int) else most_240)) ∧ f 26 = (.int .i64 i_241) ∧ f 28 = (.int .i64 k_272) ∧ f 29 = (.int .i64 j_305) ∧ f 6 = (.pointer (some ⟨o_21.g, 0, none⟩)) ∧ f 1000000 = (enc [])) N ⟨col_300, 0, N, rfl, hm, hst, h_192, rh_208, hG_22, rfl, rfl, rfl, rfl, rfl, rfl, rfl, rfl, rfl, rfl⟩ ?_
                                    clear hm; intro n f w_303 hI
                                    obtain ⟨col_304, j_305, n_302, hn, hm, hst, h_192, rh_208, hG_22, hs19, hs20, hs21, hs23, hs25, hs26, hs28, hs29, hs6, hs1000000⟩ := hI
                                    subst hn
                                    refine .ld (d := 19) (v := (.slice a_188 ([r_58.1, r_67.1, c_87].length) 3)) hs19 ?_
                                    refine .ld (d := 20) (v := (.int .i64 n_196)) hs20 ?_
                                    refine .ld (d := 21) (v := (.slice ra_206 r_204.1.length rc_207)) hs21 ?_
                                    refine .ld (d := 23) (v := (.int .i64 r_218.1)) hs23 ?_
                                    refine .ld (d := 25) (v := (.int .i64 (if (e_262.length : Int) > most_240 then (e_262.length : Int) else most_240))) hs25 ?_
                                    refine .ld (d := 26) (v := (.int .i64 i_241)) hs26 ?_
                                    refine .ld (d := 28) (v := (.int .i64 k_272)) hs28 ?_
                                    refine .ld (d := 29) (v := (.int .i64 j_305)) hs29 ?_
                                    refine .ld (d := 6) (v := (.pointer (some ⟨o_21.g, 0, none⟩))) hs6 ?_
                                    refine .ld (d := 1000000) (v := (enc [])) hs1000000 ?_
                                    clear hs19 hs20 hs21 hs23 hs25 hs26 hs28 hs29 hs6 hs1000000
                                    cases n_302 with
                                    | zero => rw [m_credencelaw18_OrderCovers_L5.eq_1] at hm; cases hm
                                    | succ n_302 =>
                                      rw [m_credencelaw18_OrderCovers_L5.eq_2] at hm
                                      refine wseq ?_
                                      refine wseq ?_
                                      refine wregion ?_
                                      refine lv (v := (.int .i64 j_305)) rfl rfl (r_move rfl) ?_
                                      refine lv (v := (.int .i64 k_272)) rfl rfl (r_move rfl) ?_
                                      refine lv (v := (.bool (decide (j_305 < k_272)))) rfl rfl (r_lss j_305 k_272 rfl rfl) ?_
                                      refine lnil ?_
                                      refine wcond (decide (j_305 < k_272)) rfl (fun hb => ?_) (fun hb => ?_)
                                      · rw [if_pos hb] at hm
                                        clear hb
                                        refine wskip ?_
                                        refine wseq ?_
                                        refine wblock ?_
                                        refine wseq ?_
                                        refine wquiet (col := col_304) (by kernel_rfl) (by kernel_rfl) ?_
                                        refine qv (v := (.pointer (some ⟨o_21.g, 0, none⟩))) rfl (fun _ hC => r_move rfl) ?_
                                        refine qv (v := (.slice ra_206 r_204.1.length rc_207)) rfl (fun _ hC => r_move rfl) ?_
                                        refine qv (v := (.int .i64 i_241)) rfl (fun _ hC => r_move rfl) ?_
                                        obtain ⟨e_306, hj_307, hm⟩ := bind_some hm
                                        refine qv (v := (sptr ra_206 (Int.toNat i_241 * 1))) rfl (fun _ hC => r_idx Try.underlying33 Try.sizeOf22 rfl rfl (at?_some hj_307).1 (at?_some hj_307).2.1 (rh_208.addr hj_307)) ?_
                                        obtain ⟨_, hr_308, hA_309⟩ := rh_208.atN hj_307
                                        obtain ⟨⟨a_310, cap_311, rfl, h_312⟩, _⟩ := hr_308
                                        refine qv (v := (.slice a_310 e_306.length cap_311)) rfl (fun _ hC => r_ld Try.isAgg22 rfl (hA_309.one.gr (Grow.of_below (col := col_304) hC.below))) ?_
                                        refine qv (v := (.int .i64 j_305)) rfl (fun _ hC => r_move rfl) ?_
                                        obtain ⟨e_313, hj_314, hm⟩ := bind_some hm
                                        refine qv (v := (sptr a_310 (Int.toNat j_305 * 1))) rfl (fun _ hC => r_idx Try.underlying22 Try.sizeOf3 rfl rfl (at?_some hj_314).1 (at?_some hj_314).2.1 (h_312.addr hj_314)) ?_
                                        refine qv (v := (.int .i64 e_313)) rfl (fun _ hC => r_ld Try.isAgg3 rfl ((h_312.gr (Grow.of_below (col := col_304) hC.below)).atInt hj_314)) ?_
                                        refine qv (v := (.slice ra_206 r_204.1.length rc_207)) rfl (fun _ hC => r_move rfl) ?_
                                        refine qv (v := (.int .i64 i_241)) rfl (fun _ hC => r_move rfl) ?_
                                        refine qv (v := (sptr ra_206 (Int.toNat i_241 * 1))) rfl (fun _ hC => r_idx Try.underlying33 Try.sizeOf22 rfl rfl (at?_some hj_307).1 (at?_some hj_307).2.1 (rh_208.addr hj_307)) ?_
                                        obtain ⟨_, hr_315, hA_316⟩ := rh_208.atN hj_307
                                        obtain ⟨⟨a_317, cap_318, rfl, h_319⟩, _⟩ := hr_315
                                        refine qv (v := (.slice a_317 e_306.length cap_318)) rfl (fun _ hC => r_ld Try.isAgg22 rfl (hA_316.one.gr (Grow.of_below (col := col_304) hC.below))) ?_
                                        refine qv (v := (.int .i64 k_272)) rfl (fun _ hC => r_move rfl) ?_
                                        obtain ⟨e_320, hj_321, hm⟩ := bind_some hm
                                        refine qv (v := (sptr a_317 (Int.toNat k_272 * 1))) rfl (fun _ hC => r_idx Try.underlying22 Try.sizeOf3 rfl rfl (at?_some hj_321).1 (at?_some hj_321).2.1 (h_319.addr hj_321)) ?_
                                        refine qv (v := (.int .i64 e_320)) rfl (fun _ hC => r_ld Try.isAgg3 rfl ((h_319.gr (Grow.of_below (col := col_304) hC.below)).atInt hj_321)) ?_
                                        obtain ⟨r_322, hr_323, hm⟩ := bind_some hm
                                        refine qc (v := (.bool r_322)) rfl (fun _ hC => ⟨_, _, r_call3 Try.call24 rfl rfl rfl, (c_graph_Graph_Has col_304 _ 2 (by decide) o_21 t_19 e_313 e_320 (hG_22.gr (Grow.of_below (col := col_304) hC.below)) r_322 hr_323).mono fun _ _ h => ⟨h.1, hC.trans (.of_below h.2)⟩⟩) ?_
                                        refine qv (v := (.bool r_322)) rfl (fun _ hC => r_assign rfl) ?_
                                        refine qnil ?_
                                        intro w_324 hC
                                        replace hC : Grow col_304 w_303 col_304 w_324 := .of_below hC.below
                                        replace h_192 := h_192.gr hC
                                        replace rh_208 := rh_208.gr hC
                                        replace hG_22 := hG_22.gr hC
                                        replace hst := hst.grow hC
                                        refine wseq ?_
                                        refine wregion ?_
                                        refine lv (v := (.bool r_322)) rfl rfl (r_move rfl) ?_
                                        refine lv (v := (.bool (!r_322))) rfl rfl (r_not r_322 rfl) ?_
                                        refine lnil ?_
                                        refine wcond (!r_322) rfl (fun hb => ?_) (fun hb => ?_)
                                        · rw [if_pos hb] at hm
                                          clear hb
                                          refine wseq ?_
                                          refine wregion ?_
                                          refine lv (v := (.bool false)) rfl rfl (r_assign rfl) ?_
                                          refine lnil ?_
                                          refine wret ?_
                                          cases hm
                                          exact ⟨rfl, rfl, hst.below⟩
                                        · rw [if_neg (by rw [hb]; decide)] at hm
                                          clear hb
                                          refine wskip ?_
                                          refine wregion ?_
                                          refine lv (v := (.int .i64 j_305)) rfl rfl (r_move rfl) ?_
                                          refine lv (v := (.int .i64 (IntKind.i64.wrap (j_305 + 1)))) rfl rfl (r_add j_305 1 rfl rfl) ?_
                                          refine lv (v := (.int .i64 (IntKind.i64.wrap (j_305 + 1)))) rfl rfl (r_assign rfl) ?_
                                          refine lnil ?_
                                          exact ⟨n_302, by omega, ⟨col_304, (IntKind.i64.wrap (j_305 + 1)), n_302, rfl, hm, hst, h_192, rh_208, hG_22, rfl, rfl, rfl, rfl, rfl, rfl, rfl, rfl, rfl, rfl⟩⟩
                                      · rw [if_neg (by rw [hb]; decide)] at hm
                                        clear hb
                                        refine wexit (inB_hit ?_)
                                        refine wregion ?_
                                        refine lv (v := (.int .i64 k_272)) rfl rfl (r_move rfl) ?_
                                        refine lv (v := (.int .i64 (IntKind.i64.wrap (k_272 + 1)))) rfl rfl (r_add k_272 1 rfl rfl) ?_
                                        refine lv (v := (.int .i64 (IntKind.i64.wrap (k_272 + 1)))) rfl rfl (r_assign rfl) ?_
                                        refine lnil ?_
                                        exact ⟨n_269, by omega, ⟨col_304, (IntKind.i64.wrap (k_272 + 1)), n_269, rfl, hm, hst, h_192, rh_208, hG_22, rfl, rfl, rfl, rfl, rfl, rfl, rfl, rfl, rfl⟩⟩
                                  · rw [if_neg (by rw [hb]; decide)] at hm
                                    clear hb
                                    refine wexit (inB_hit ?_)
                                    refine wregion ?_
                                    refine lv (v := (.int .i64 i_241)) rfl rfl (r_move rfl) ?_
                                    refine lv (v := (.int .i64 (IntKind.i64.wrap (i_241 + 1)))) rfl rfl (r_add i_241 1 rfl rfl) ?_
                                    refine lv (v := (.int .i64 (IntKind.i64.wrap (i_241 + 1)))) rfl rfl (r_assign rfl) ?_
                                    refine lnil ?_
                                    exact ⟨n_237, by omega, ⟨col_300, (if (e_262.length : Int) > most_240 then (e_262.length : Int) else most_240), (IntKind.i64.wrap (i_241 + 1)), n_237, rfl, hm, hst, h_192, rh_208, hG_22, rfl, rfl, rfl, rfl, rfl, rfl, rfl, rfl⟩⟩
                                · refine wregion ?_
                                  refine lv (v := (.int .i64 k_272)) rfl rfl (r_move rfl) ?_
                                  refine lv (v := (.slice ra_206 r_204.1.length rc_207)) rfl rfl (r_move rfl) ?_
                                  refine lv (v := (.int .i64 i_241)) rfl rfl (r_move rfl) ?_
                                  obtain ⟨e_325, hj_326, hm⟩ := bind_some hm
                                  refine lv (v := (sptr ra_206 (Int.toNat i_241 * 1))) rfl rfl (r_idx Try.underlying33 Try.sizeOf22 rfl rfl (at?_some hj_326).1 (at?_some hj_326).2.1 (rh_208.addr hj_326)) ?_
                                  obtain ⟨_, hr_327, hA_328⟩ := rh_208.atN hj_326
                                  obtain ⟨⟨a_329, cap_330, rfl, h_331⟩, _⟩ := hr_327
                                  refine lv (v := (.slice a_329 e_325.length cap_330)) rfl rfl (r_ld Try.isAgg22 rfl hA_328.one) ?_
                                  refine lv (v := (.int .i64 (e_325.length : Int))) rfl rfl (r_len Try.underlying22 rfl) ?_
                                  refine lv (v := (.bool (decide (k_272 < (e_325.length : Int))))) rfl rfl (r_lss k_272 (e_325.length : Int) rfl rfl) ?_
                                  refine lv (v := (.bool (decide (k_272 < (e_325.length : Int))))) rfl rfl (r_move rfl) ?_
                                  by_cases hg_332 : (decide (k_272 < (e_325.length : Int))) = true
                                  · rw [if_pos hg_332] at hm
                                    refine lg (b := decide (k_272 < (e_325.length : Int))) 211 rfl rfl rfl (by rw [hg_332]; rfl) ?_
                                    refine lv (v := (.int .i64 n_196)) rfl rfl (r_move rfl) ?_
                                    refine lg (b := decide (k_272 < (e_325.length : Int))) 211 rfl rfl rfl (by rw [hg_332]; rfl) ?_
                                    refine lv (v := (.bool (decide (n_196 = 0)))) rfl rfl (r_eql n_196 0 rfl rfl) ?_
                                    refine lv (v := (.bool (decide (n_196 = 0)))) rfl rfl (r_pickT (congrArg Value.bool hg_332) rfl) ?_
                                    refine lv (v := (.bool (decide (n_196 = 0)))) rfl rfl (r_move rfl) ?_
                                    by_cases hg_333 : (decide (n_196 = 0)) = true
                                    · rw [if_pos hg_333] at hm
                                      refine lg (b := decide (n_196 = 0)) 215 rfl rfl rfl (by rw [hg_333]; rfl) ?_
                                      refine lv (v := (.pointer (some ⟨o_21.g, 0, none⟩))) rfl rfl (r_move rfl) ?_
                                      refine lg (b := decide (n_196 = 0)) 215 rfl rfl rfl (by rw [hg_333]; rfl) ?_
                                      obtain ⟨r_334, hr_335, hm⟩ := bind_some hm
                                      refine lc rfl rfl (r_call1 Try.call14 rfl) (c_graph_Graph_Chordal N col_271 _ 2 (by decide) o_21 t_19 hG_22 r_334 hr_335) ?_
                                      rintro _ w_336 ⟨rfl, hg_337⟩
                                      refine ⟨_, rfl, ?_⟩
                                      replace hg_337 : Grow col_271 w_270 col_271 w_336 := .of_below hg_337
                                      replace h_192 := h_192.gr hg_337
                                      replace rh_208 := rh_208.gr hg_337
                                      replace hG_22 := hG_22.gr hg_337
                                      replace hst := hst.grow hg_337
                                      refine lv (v := (.bool r_334)) rfl rfl (r_pickT (congrArg Value.bool hg_333) rfl) ?_
                                      refine lnil ?_
                                      exact ⟨col_271, r_334, hm, hst, h_192, rh_208, hG_22, rfl, rfl, rfl, rfl, rfl, rfl, rfl, rfl, rfl, rfl⟩
                                    · rw [if_neg hg_333] at hm
                                      replace hg_333 := Bool.eq_false_iff.2 hg_333
                                      refine lp (b := decide (n_196 = 0)) 215 rfl rfl rfl rfl (by rw [hg_333]; rfl) ?_
                                      refine lp (b := decide (n_196 = 0)) 215 rfl rfl rfl rfl (by rw [hg_333]; rfl) ?_
                                      refine lv (v := (.bool false)) rfl rfl (r_pickF (congrArg Value.bool hg_333) rfl) ?_
                                      refine lnil ?_
                                      exact ⟨col_271, false, hm, hst, h_192, rh_208, hG_22, rfl, rfl, rfl, rfl, rfl, rfl, rfl, rfl, rfl, rfl⟩
                                  · rw [if_neg hg_332] at hm
                                    replace hg_332 := Bool.eq_false_iff.2 hg_332
                                    refine lp (b := decide (k_272 < (e_325.length : Int))) 211 rfl rfl rfl rfl (by rw [hg_332]; rfl) ?_
                                    refine lp (b := decide (k_272 < (e_325.length : Int))) 211 rfl rfl rfl rfl (by rw [hg_332]; rfl) ?_
                                    refine lv (v := (.bool false)) rfl rfl (r_pickF (congrArg Value.bool hg_332) rfl) ?_
                                    refine lv (v := (.bool false)) rfl rfl (r_move rfl) ?_
                                    refine lp (b := false) 215 rfl rfl rfl rfl rfl ?_
                                    refine lp (b := false) 215 rfl rfl rfl rfl rfl ?_
                                    refine lv (v := (.bool false)) rfl rfl (r_pickF rfl rfl) ?_
                                    refine lnil ?_
                                    exact ⟨col_271, false, hm, hst, h_192, rh_208, hG_22, rfl, rfl, rfl, rfl, rfl, rfl, rfl, rfl, rfl, rfl⟩
                          · rw [if_neg (by rw [hb]; decide)] at hm
                            clear hb
                            refine wexit (inB_hit ?_)
                            refine wseq ?_
                            refine wseq ?_
                            refine wregion ?_
                            refine lv (v := (.int .i64 r_218.1)) rfl rfl (r_move rfl) ?_
                            refine lv (v := (.int .i64 most_240)) rfl rfl (r_move rfl) ?_
                            refine lv (v := (.int .i64 (IntKind.i64.wrap (most_240 - 1)))) rfl rfl (r_sub most_240 1 rfl rfl) ?_
                            refine lv (v := (.bool (!decide (r_218.1 = (IntKind.i64.wrap (most_240 - 1)))))) rfl rfl (r_neq r_218.1 (IntKind.i64.wrap (most_240 - 1)) rfl rfl) ?_
                            refine lnil ?_
                            refine wcond (!decide (r_218.1 = (IntKind.i64.wrap (most_240 - 1)))) rfl (fun hb => ?_) (fun hb => ?_)
                            · rw [if_pos hb] at hm
                              clear hb
                              refine wseq ?_
                              refine wregion ?_
                              refine lv (v := (.bool false)) rfl rfl (r_assign rfl) ?_
                              refine lnil ?_
                              refine wret ?_
                              cases hm
                              exact ⟨rfl, rfl, hst.below⟩
                            · rw [if_neg (by rw [hb]; decide)] at hm
                              clear hb
                              refine wskip ?_
                              refine wseq ?_
                              refine wregion ?_
                              refine lv (v := (.int .i64 0)) rfl rfl (r_assign rfl) ?_
                              refine lnil ?_
                              refine wblock ?_
                              refine wloop (fun n f w_339 => ∃ (col_340 : Col) (x_341 : Int) (n_338 : Nat), n_338 = n ∧ m_credencelaw18_OrderCovers_L6 N t_19 n_196 (m_credencelaw18_OrderCovers_L2 N t_19 r_58 r_67 c_87 n_193) r_204 n_338 x_341 = some r ∧ St w0 (col0 col) col_340 w_339 ∧ Own (Rep.row 3 (Rep.int .i64)) 22 9 col_340 w_339 a_188 3 [r_58.1, r_67.1, c_87] ∧ Sl (Rep.slice (Rep.int .i64)) col_340 w_339 ra_206 rc_207 r_204.1 ∧ GO 85 86 2 col_340 w_339 o_21 t_19 ∧ f 19 = (.slice a_188 ([r_58.1, r_67.1, c_87].length) 3) ∧ f 20 = (.int .i64 n_196) ∧ f 21 = (.slice ra_206 r_204.1.length rc_207) ∧ f 31 = (.int .i64 x_341) ∧ f 6 = (.pointer (some ⟨o_21.g, 0, none⟩)) ∧ f 1000000 = (enc [])) N ⟨col_239, 0, N, rfl, hm, hst, h_192, rh_208, hG_22, rfl, rfl, rfl, rfl, rfl, rfl⟩ ?_
                              clear hm; intro n f w_339 hI
                              obtain ⟨col_340, x_341, n_338, hn, hm, hst, h_192, rh_208, hG_22, hs19, hs20, hs21, hs31, hs6, hs1000000⟩ := hI
                              subst hn
                              refine .ld (d := 19) (v := (.slice a_188 ([r_58.1, r_67.1, c_87].length) 3)) hs19 ?_
                              refine .ld (d := 20) (v := (.int .i64 n_196)) hs20 ?_
                              refine .ld (d := 21) (v := (.slice ra_206 r_204.1.length rc_207)) hs21 ?_
                              refine .ld (d := 31) (v := (.int .i64 x_341)) hs31 ?_
                              refine .ld (d := 6) (v := (.pointer (some ⟨o_21.g, 0, none⟩))) hs6 ?_
                              refine .ld (d := 1000000) (v := (enc [])) hs1000000 ?_
                              clear hs19 hs20 hs21 hs31 hs6 hs1000000
                              cases n_338 with
                              | zero => rw [m_credencelaw18_OrderCovers_L6.eq_1] at hm; cases hm
                              | succ n_338 =>
                                rw [m_credencelaw18_OrderCovers_L6.eq_2] at hm
                                refine wseq ?_
                                refine wseq ?_
                                refine wregion ?_
                                refine lv (v := (.int .i64 x_341)) rfl rfl (r_move rfl) ?_
                                refine lv (v := (.pointer (some ⟨o_21.g, 0, none⟩))) rfl rfl (r_move rfl) ?_
                                obtain ⟨r_342, hr_343, hm⟩ := bind_some hm
                                refine lc rfl rfl (r_call1 Try.call15 rfl) (c_graph_Graph_Len col_340 _ 2 (by decide) o_21 t_19 hG_22 r_342 hr_343) ?_
                                rintro _ w_344 ⟨rfl, hg_345⟩
                                refine ⟨_, rfl, ?_⟩
                                replace hg_345 : Grow col_340 w_339 col_340 w_344 := .of_below hg_345
                                replace h_192 := h_192.gr hg_345
                                replace rh_208 := rh_208.gr hg_345
                                replace hG_22 := hG_22.gr hg_345
                                replace hst := hst.grow hg_345
                                refine lv (v := (.bool (decide (x_341 < r_342)))) rfl rfl (r_lss x_341 r_342 rfl rfl) ?_
                                refine lnil ?_
                                refine wcond (decide (x_341 < r_342)) rfl (fun hb => ?_) (fun hb => ?_)
                                · rw [if_pos hb] at hm
                                  clear hb
                                  refine wskip ?_
                                  refine wseq ?_
                                  refine wblock ?_
                                  refine wseq ?_
                                  refine wregion ?_
                                  refine lv (v := (.pointer (some ⟨o_21.g, 0, none⟩))) rfl rfl (r_move rfl) ?_
                                  refine lv (v := (.int .i64 x_341)) rfl rfl (r_move rfl) ?_
                                  obtain ⟨r_346, hr_347, hm⟩ := bind_some hm
                                  refine lc rfl rfl (r_call2 Try.call22 rfl rfl) (c_graph_Graph_Near 13 col_340 _ 2 (by decide) o_21 t_19 x_341 hG_22 r_346 hr_347) ?_
                                  rintro _ w_351 ⟨col_353, ra_348, rc_349, rfl, hg_352, rh_350⟩
                                  refine ⟨_, rfl, ?_⟩
                                  replace h_192 := h_192.gr hg_352
                                  replace rh_208 := rh_208.gr hg_352
                                  replace hG_22 := hG_22.gr hg_352
                                  replace hst := hst.grow hg_352
                                  refine lv (v := (.slice ra_348 r_346.length rc_349)) rfl rfl (r_assign rfl) ?_
                                  refine lnil ?_
                                  refine wseq ?_
                                  refine wregion ?_
                                  refine lv (v := (.int .i64 0)) rfl rfl (r_assign rfl) ?_
                                  refine lnil ?_
                                  refine wblock ?_
                                  refine wloop (fun n f w_355 => ∃ (col_356 : Col) (k_357 : Int) (n_354 : Nat), n_354 = n ∧ m_credencelaw18_OrderCovers_L7 N r_204 x_341 (m_credencelaw18_OrderCovers_L6 N t_19 n_196 (m_credencelaw18_OrderCovers_L2 N t_19 r_58 r_67 c_87 n_193) r_204 n_338) r_346 n_354 k_357 = some r ∧ St w0 (col0 col) col_356 w_355 ∧ Own (Rep.row 3 (Rep.int .i64)) 22 9 col_356 w_355 a_188 3 [r_58.1, r_67.1, c_87] ∧ Sl (Rep.slice (Rep.int .i64)) col_356 w_355 ra_206 rc_207 r_204.1 ∧ Own (Rep.int .i64) 3 13 col_356 w_355 ra_348 rc_349 r_346 ∧ GO 85 86 2 col_356 w_355 o_21 t_19 ∧ f 19 = (.slice a_188 ([r_58.1, r_67.1, c_87].length) 3) ∧ f 20 = (.int .i64 n_196) ∧ f 21 = (.slice ra_206 r_204.1.length rc_207) ∧ f 31 = (.int .i64 x_341) ∧ f 32 = (.slice ra_348 r_346.length rc_349) ∧ f 33 = (.int .i64 k_357) ∧ f 6 = (.pointer (some ⟨o_21.g, 0, none⟩)) ∧ f 1000000 = (enc [])) N ⟨col_353, 0, N, rfl, hm, hst, h_192, rh_208, rh_350, hG_22, rfl, rfl, rfl, rfl, rfl, rfl, rfl, rfl⟩ ?_
                                  clear hm; intro n f w_355 hI
                                  obtain ⟨col_356, k_357, n_354, hn, hm, hst, h_192, rh_208, rh_350, hG_22, hs19, hs20, hs21, hs31, hs32, hs33, hs6, hs1000000⟩ := hI
                                  subst hn
                                  refine .ld (d := 19) (v := (.slice a_188 ([r_58.1, r_67.1, c_87].length) 3)) hs19 ?_
                                  refine .ld (d := 20) (v := (.int .i64 n_196)) hs20 ?_
                                  refine .ld (d := 21) (v := (.slice ra_206 r_204.1.length rc_207)) hs21 ?_
                                  refine .ld (d := 31) (v := (.int .i64 x_341)) hs31 ?_
                                  refine .ld (d := 32) (v := (.slice ra_348 r_346.length rc_349)) hs32 ?_
                                  refine .ld (d := 33) (v := (.int .i64 k_357)) hs33 ?_
                                  refine .ld (d := 6) (v := (.pointer (some ⟨o_21.g, 0, none⟩))) hs6 ?_
                                  refine .ld (d := 1000000) (v := (enc [])) hs1000000 ?_
                                  clear hs19 hs20 hs21 hs31 hs32 hs33 hs6 hs1000000
                                  cases n_354 with
                                  | zero => rw [m_credencelaw18_OrderCovers_L7.eq_1] at hm; cases hm
                                  | succ n_354 =>
                                    rw [m_credencelaw18_OrderCovers_L7.eq_2] at hm
                                    refine wseq ?_
                                    refine wseq ?_
                                    refine wregion ?_
                                    refine lv (v := (.int .i64 k_357)) rfl rfl (r_move rfl) ?_
                                    refine lv (v := (.slice ra_348 r_346.length rc_349)) rfl rfl (r_move rfl) ?_
                                    refine lv (v := (.int .i64 (r_346.length : Int))) rfl rfl (r_len Try.underlying22 rfl) ?_
                                    refine lv (v := (.bool (decide (k_357 < (r_346.length : Int))))) rfl rfl (r_lss k_357 (r_346.length : Int) rfl rfl) ?_
                                    refine lnil ?_
                                    refine wcond (decide (k_357 < (r_346.length : Int))) rfl (fun hb => ?_) (fun hb => ?_)
                                    · rw [if_pos hb] at hm
                                      clear hb
                                      refine wskip ?_
                                      refine wseq ?_
                                      refine wblock ?_
                                      refine wseq ?_
                                      refine wregion ?_
                                      refine lv (v := (.slice ra_206 r_204.1.length rc_207)) rfl rfl (r_move rfl) ?_
                                      refine lv (v := (.int .i64 x_341)) rfl rfl (r_move rfl) ?_
                                      refine lv (v := (.slice ra_348 r_346.length rc_349)) rfl rfl (r_move rfl) ?_
                                      refine lv (v := (.int .i64 k_357)) rfl rfl (r_move rfl) ?_
                                      obtain ⟨e_358, hj_359, hm⟩ := bind_some hm
                                      refine lv (v := (sptr ra_348 (Int.toNat k_357 * 1))) rfl rfl (r_idx Try.underlying22 Try.sizeOf3 rfl rfl (at?_some hj_359).1 (at?_some hj_359).2.1 (rh_350.addr hj_359)) ?_
                                      refine lv (v := (.int .i64 e_358)) rfl rfl (r_ld Try.isAgg3 rfl (rh_350.atInt hj_359)) ?_
                                      obtain ⟨r_360, hr_361, hm⟩ := bind_some hm
                                      refine lc rfl rfl (r_call3 Try.call49 rfl rfl rfl) (c_credencelaw18_listed N col_356 _ ra_206 rc_207 r_204.1 x_341 e_358 rh_208 r_360 hr_361) ?_
                                      rintro _ w_362 ⟨rfl, hg_363⟩
                                      refine ⟨_, rfl, ?_⟩
                                      replace hg_363 : Grow col_356 w_355 col_356 w_362 := .of_below hg_363
                                      replace h_192 := h_192.gr hg_363
                                      replace rh_208 := rh_208.gr hg_363
                                      replace rh_350 := rh_350.gr hg_363
                                      replace hG_22 := hG_22.gr hg_363
                                      replace hst := hst.grow hg_363
                                      refine lv (v := (.bool r_360)) rfl rfl (r_assign rfl) ?_
                                      refine lnil ?_
                                      refine wseq ?_
                                      refine wregion ?_
                                      refine lv (v := (.bool r_360)) rfl rfl (r_move rfl) ?_
                                      refine lv (v := (.bool (!r_360))) rfl rfl (r_not r_360 rfl) ?_
                                      refine lnil ?_
                                      refine wcond (!r_360) rfl (fun hb => ?_) (fun hb => ?_)
                                      · rw [if_pos hb] at hm
                                        clear hb
                                        refine wseq ?_
                                        refine wregion ?_
                                        refine lv (v := (.bool false)) rfl rfl (r_assign rfl) ?_
                                        refine lnil ?_
                                        refine wret ?_
                                        cases hm
                                        exact ⟨rfl, rfl, hst.below⟩
                                      · rw [if_neg (by rw [hb]; decide)] at hm
                                        clear hb
                                        refine wskip ?_
                                        refine wregion ?_
                                        refine lv (v := (.int .i64 k_357)) rfl rfl (r_move rfl) ?_
                                        refine lv (v := (.int .i64 (IntKind.i64.wrap (k_357 + 1)))) rfl rfl (r_add k_357 1 rfl rfl) ?_
                                        refine lv (v := (.int .i64 (IntKind.i64.wrap (k_357 + 1)))) rfl rfl (r_assign rfl) ?_
                                        refine lnil ?_
                                        exact ⟨n_354, by omega, ⟨col_356, (IntKind.i64.wrap (k_357 + 1)), n_354, rfl, hm, hst, h_192, rh_208, rh_350, hG_22, rfl, rfl, rfl, rfl, rfl, rfl, rfl, rfl⟩⟩
                                    · rw [if_neg (by rw [hb]; decide)] at hm
                                      clear hb
                                      refine wexit (inB_hit ?_)
                                      refine wregion ?_
                                      refine lv (v := (.int .i64 x_341)) rfl rfl (r_move rfl) ?_
                                      refine lv (v := (.int .i64 (IntKind.i64.wrap (x_341 + 1)))) rfl rfl (r_add x_341 1 rfl rfl) ?_
                                      refine lv (v := (.int .i64 (IntKind.i64.wrap (x_341 + 1)))) rfl rfl (r_assign rfl) ?_
                                      refine lnil ?_
                                      exact ⟨n_338, by omega, ⟨col_356, (IntKind.i64.wrap (x_341 + 1)), n_338, rfl, hm, hst, h_192, rh_208, hG_22, rfl, rfl, rfl, rfl, rfl, rfl⟩⟩
                                · rw [if_neg (by rw [hb]; decide)] at hm
                                  clear hb
                                  refine wexit (inB_hit ?_)
                                  refine wregion ?_
                                  refine lv (v := (.int .i64 n_196)) rfl rfl (r_move rfl) ?_
                                  refine lv (v := (.int .i64 (IntKind.i64.wrap (n_196 + 1)))) rfl rfl (r_add n_196 1 rfl rfl) ?_
                                  refine lv (v := (.int .i64 (IntKind.i64.wrap (n_196 + 1)))) rfl rfl (r_assign rfl) ?_
                                  refine lnil ?_
                                  exact ⟨n_193, by omega, ⟨col_340, (IntKind.i64.wrap (n_196 + 1)), n_193, rfl, hm, hst, h_192, hG_22, rfl, rfl, rfl, rfl⟩⟩
                    · refine wregion ?_
                      refine lv (v := (.int .i64 r_204.2)) rfl rfl (r_move rfl) ?_
                      refine lv (v := (.bool (!decide (r_204.2 = 0)))) rfl rfl (r_neq r_204.2 0 rfl rfl) ?_
                      refine lv (v := (.bool (!decide (r_204.2 = 0)))) rfl rfl (r_move rfl) ?_
                      by_cases hg_364 : (!decide (r_204.2 = 0)) = true
                      · rw [if_pos hg_364] at hm
                        refine lp (b := !decide (r_204.2 = 0)) 158 rfl rfl rfl rfl (by rw [hg_364]; rfl) ?_
                        refine lp (b := !decide (r_204.2 = 0)) 158 rfl rfl rfl rfl (by rw [hg_364]; rfl) ?_
                        refine lv (v := (.bool true)) rfl rfl (r_pickT (congrArg Value.bool hg_364) rfl) ?_
                        refine lv (v := (.bool true)) rfl rfl (r_move rfl) ?_
                        refine lp (b := true) 162 rfl rfl rfl rfl rfl ?_
                        refine lp (b := true) 162 rfl rfl rfl rfl rfl ?_
                        refine lp (b := true) 162 rfl rfl rfl rfl rfl ?_
                        refine lp (b := true) 162 rfl rfl rfl rfl rfl ?_
                        refine lp (b := true) 162 rfl rfl rfl rfl rfl ?_
                        refine lv (v := (.bool true)) rfl rfl (r_pickT rfl rfl) ?_
                        refine lnil ?_
                        exact ⟨col_212, true, hm, hst, h_192, rh_208, hG_22, rfl, rfl, rfl, rfl, rfl, rfl, rfl⟩
                      · rw [if_neg hg_364] at hm
                        replace hg_364 := Bool.eq_false_iff.2 hg_364
                        refine lg (b := !decide (r_204.2 = 0)) 158 rfl rfl rfl (by rw [hg_364]; rfl) ?_
                        refine lv (v := (.int .i64 r_218.2)) rfl rfl (r_move rfl) ?_
                        refine lg (b := !decide (r_204.2 = 0)) 158 rfl rfl rfl (by rw [hg_364]; rfl) ?_
                        refine lv (v := (.bool (!decide (r_218.2 = 0)))) rfl rfl (r_neq r_218.2 0 rfl rfl) ?_
                        refine lv (v := (.bool (!decide (r_218.2 = 0)))) rfl rfl (r_pickF (congrArg Value.bool hg_364) rfl) ?_
                        refine lv (v := (.bool (!decide (r_218.2 = 0)))) rfl rfl (r_move rfl) ?_
                        by_cases hg_365 : (!decide (r_218.2 = 0)) = true
                        · rw [if_pos hg_365] at hm
                          refine lp (b := !decide (r_218.2 = 0)) 162 rfl rfl rfl rfl (by rw [hg_365]; rfl) ?_
                          refine lp (b := !decide (r_218.2 = 0)) 162 rfl rfl rfl rfl (by rw [hg_365]; rfl) ?_
                          refine lp (b := !decide (r_218.2 = 0)) 162 rfl rfl rfl rfl (by rw [hg_365]; rfl) ?_
                          refine lp (b := !decide (r_218.2 = 0)) 162 rfl rfl rfl rfl (by rw [hg_365]; rfl) ?_
                          refine lp (b := !decide (r_218.2 = 0)) 162 rfl rfl rfl rfl (by rw [hg_365]; rfl) ?_
                          refine lv (v := (.bool true)) rfl rfl (r_pickT (congrArg Value.bool hg_365) rfl) ?_
                          refine lnil ?_
                          exact ⟨col_212, true, hm, hst, h_192, rh_208, hG_22, rfl, rfl, rfl, rfl, rfl, rfl, rfl⟩
                        · rw [if_neg hg_365] at hm
                          replace hg_365 := Bool.eq_false_iff.2 hg_365
                          refine lg (b := !decide (r_218.2 = 0)) 162 rfl rfl rfl (by rw [hg_365]; rfl) ?_
                          refine lv (v := (.slice ra_206 r_204.1.length rc_207)) rfl rfl (r_move rfl) ?_
                          refine lg (b := !decide (r_218.2 = 0)) 162 rfl rfl rfl (by rw [hg_365]; rfl) ?_
                          refine lv (v := (.int .i64 (r_204.1.length : Int))) rfl rfl (r_len Try.underlying33 rfl) ?_
                          refine lg (b := !decide (r_218.2 = 0)) 162 rfl rfl rfl (by rw [hg_365]; rfl) ?_
                          refine lv (v := (.pointer (some ⟨o_21.g, 0, none⟩))) rfl rfl (r_move rfl) ?_
                          refine lg (b := !decide (r_218.2 = 0)) 162 rfl rfl rfl (by rw [hg_365]; rfl) ?_
                          obtain ⟨r_366, hr_367, hm⟩ := bind_some hm
                          refine lc rfl rfl (r_call1 Try.call15 rfl) (c_graph_Graph_Len col_212 _ 2 (by decide) o_21 t_19 hG_22 r_366 hr_367) ?_
                          rintro _ w_368 ⟨rfl, hg_369⟩
                          refine ⟨_, rfl, ?_⟩
                          replace hg_369 : Grow col_212 w_220 col_212 w_368 := .of_below hg_369
                          replace h_192 := h_192.gr hg_369
                          replace hG_22 := hG_22.gr hg_369
                          replace rh_208 := rh_208.gr hg_369
                          replace hst := hst.grow hg_369
                          refine lg (b := !decide (r_218.2 = 0)) 162 rfl rfl rfl (by rw [hg_365]; rfl) ?_
                          refine lv (v := (.bool (!decide ((r_204.1.length : Int) = r_366)))) rfl rfl (r_neq (r_204.1.length : Int) r_366 rfl rfl) ?_
                          refine lv (v := (.bool (!decide ((r_204.1.length : Int) = r_366)))) rfl rfl (r_pickF (congrArg Value.bool hg_365) rfl) ?_
                          refine lnil ?_
                          exact ⟨col_212, (!decide ((r_204.1.length : Int) = r_366)), hm, hst, h_192, rh_208, hG_22, rfl, rfl, rfl, rfl, rfl, rfl, rfl⟩
                  · rw [if_neg (by rw [hb]; decide)] at hm
                    clear hb
                    refine wexit (inB_hit ?_)
                    refine wseq ?_
                    refine wregion ?_
                    refine lv (v := (.bool true)) rfl rfl (r_assign rfl) ?_
                    refine lnil ?_
                    refine wret ?_
                    cases hm
                    exact ⟨rfl, rfl, hst.below⟩
            · refine wregion ?_
              refine lv (v := (.int .i64 r_58.2)) rfl rfl (r_move rfl) ?_
              refine lv (v := (.bool (!decide (r_58.2 = 0)))) rfl rfl (r_neq r_58.2 0 rfl rfl) ?_
              refine lv (v := (.bool (!decide (r_58.2 = 0)))) rfl rfl (r_move rfl) ?_
              by_cases hg_370 : (!decide (r_58.2 = 0)) = true
              · rw [if_pos hg_370] at hm
                refine lp (b := !decide (r_58.2 = 0)) 108 rfl rfl rfl rfl (by rw [hg_370]; rfl) ?_
                refine lp (b := !decide (r_58.2 = 0)) 108 rfl rfl rfl rfl (by rw [hg_370]; rfl) ?_
                refine lv (v := (.bool true)) rfl rfl (r_pickT (congrArg Value.bool hg_370) rfl) ?_
                refine lv (v := (.bool true)) rfl rfl (r_move rfl) ?_
                refine lp (b := true) 112 rfl rfl rfl rfl rfl ?_
                refine lp (b := true) 112 rfl rfl rfl rfl rfl ?_
                refine lp (b := true) 112 rfl rfl rfl rfl rfl ?_
                refine lp (b := true) 112 rfl rfl rfl rfl rfl ?_
                refine lv (v := (.bool true)) rfl rfl (r_pickT rfl rfl) ?_
                refine lv (v := (.bool true)) rfl rfl (r_move rfl) ?_
                refine lp (b := true) 118 rfl rfl rfl rfl rfl ?_
                refine lp (b := true) 118 rfl rfl rfl rfl rfl ?_
                refine lp (b := true) 118 rfl rfl rfl rfl rfl ?_
                refine lp (b := true) 118 rfl rfl rfl rfl rfl ?_
                refine lv (v := (.bool true)) rfl rfl (r_pickT rfl rfl) ?_
                refine lv (v := (.bool true)) rfl rfl (r_move rfl) ?_
                refine lp (b := true) 124 rfl rfl rfl rfl rfl ?_
                refine lp (b := true) 124 rfl rfl rfl rfl rfl ?_
                refine lp (b := true) 124 rfl rfl rfl rfl rfl ?_
                refine lp (b := true) 124 rfl rfl rfl rfl rfl ?_
                refine lv (v := (.bool true)) rfl rfl (r_pickT rfl rfl) ?_
                refine lnil ?_
                exact ⟨col_86, true, hm, hst, rh_62, rh_71, h_90, hG_22, rfl, rfl, rfl, rfl, rfl, rfl⟩
              · rw [if_neg hg_370] at hm
                replace hg_370 := Bool.eq_false_iff.2 hg_370
                refine lg (b := !decide (r_58.2 = 0)) 108 rfl rfl rfl (by rw [hg_370]; rfl) ?_
                refine lv (v := (.int .i64 r_67.2)) rfl rfl (r_move rfl) ?_
                refine lg (b := !decide (r_58.2 = 0)) 108 rfl rfl rfl (by rw [hg_370]; rfl) ?_
                refine lv (v := (.bool (!decide (r_67.2 = 0)))) rfl rfl (r_neq r_67.2 0 rfl rfl) ?_
                refine lv (v := (.bool (!decide (r_67.2 = 0)))) rfl rfl (r_pickF (congrArg Value.bool hg_370) rfl) ?_
                refine lv (v := (.bool (!decide (r_67.2 = 0)))) rfl rfl (r_move rfl) ?_
                by_cases hg_371 : (!decide (r_67.2 = 0)) = true
                · rw [if_pos hg_371] at hm
                  refine lp (b := !decide (r_67.2 = 0)) 112 rfl rfl rfl rfl (by rw [hg_371]; rfl) ?_
                  refine lp (b := !decide (r_67.2 = 0)) 112 rfl rfl rfl rfl (by rw [hg_371]; rfl) ?_
                  refine lp (b := !decide (r_67.2 = 0)) 112 rfl rfl rfl rfl (by rw [hg_371]; rfl) ?_
                  refine lp (b := !decide (r_67.2 = 0)) 112 rfl rfl rfl rfl (by rw [hg_371]; rfl) ?_
                  refine lv (v := (.bool true)) rfl rfl (r_pickT (congrArg Value.bool hg_371) rfl) ?_
                  refine lv (v := (.bool true)) rfl rfl (r_move rfl) ?_
                  refine lp (b := true) 118 rfl rfl rfl rfl rfl ?_
                  refine lp (b := true) 118 rfl rfl rfl rfl rfl ?_
                  refine lp (b := true) 118 rfl rfl rfl rfl rfl ?_
                  refine lp (b := true) 118 rfl rfl rfl rfl rfl ?_
                  refine lv (v := (.bool true)) rfl rfl (r_pickT rfl rfl) ?_
                  refine lv (v := (.bool true)) rfl rfl (r_move rfl) ?_
                  refine lp (b := true) 124 rfl rfl rfl rfl rfl ?_
                  refine lp (b := true) 124 rfl rfl rfl rfl rfl ?_
                  refine lp (b := true) 124 rfl rfl rfl rfl rfl ?_
                  refine lp (b := true) 124 rfl rfl rfl rfl rfl ?_
                  refine lv (v := (.bool true)) rfl rfl (r_pickT rfl rfl) ?_
                  refine lnil ?_
                  exact ⟨col_86, true, hm, hst, rh_62, rh_71, h_90, hG_22, rfl, rfl, rfl, rfl, rfl, rfl⟩
                · rw [if_neg hg_371] at hm
                  replace hg_371 := Bool.eq_false_iff.2 hg_371
                  refine lg (b := !decide (r_67.2 = 0)) 112 rfl rfl rfl (by rw [hg_371]; rfl) ?_
                  refine lv (v := (.slice ra_60 r_58.1.length rc_61)) rfl rfl (r_move rfl) ?_
                  refine lg (b := !decide (r_67.2 = 0)) 112 rfl rfl rfl (by rw [hg_371]; rfl) ?_
                  refine lv (v := (.slice ra_52 r_50.length rc_53)) rfl rfl (r_move rfl) ?_
                  refine lg (b := !decide (r_67.2 = 0)) 112 rfl rfl rfl (by rw [hg_371]; rfl) ?_
                  obtain ⟨r_372, hr_373, hm⟩ := bind_some hm
                  refine lc rfl rfl (r_call2 Try.call45 rfl rfl) (c_order_Check (frC 5 (frC 6 col_86)) _ ra_60 rc_61 r_58.1 ra_52 rc_53 r_50 ((rh_62.toSlF (Froz.int .i64)).froz 5) ((rh_54.froz 6 (by decide)).toSlF (Froz.int .i64)) r_372 hr_373) ?_
                  rintro _ w_374 ⟨rfl, hg_375⟩
                  refine ⟨_, rfl, ?_⟩
                  replace hg_375 : Grow col_86 w_85 col_86 w_374 := .of_below hg_375
                  replace rh_62 := rh_62.gr hg_375
                  replace rh_71 := rh_71.gr hg_375
                  replace h_90 := h_90.gr hg_375
                  replace hG_22 := hG_22.gr hg_375
                  replace rh_54 := rh_54.gr hg_375
                  replace hst := hst.grow hg_375
                  refine lg (b := !decide (r_67.2 = 0)) 112 rfl rfl rfl (by rw [hg_371]; rfl) ?_
                  refine lv (v := (.bool (!decide (r_372 = 0)))) rfl rfl (r_neq r_372 0 rfl rfl) ?_
                  refine lv (v := (.bool (!decide (r_372 = 0)))) rfl rfl (r_pickF (congrArg Value.bool hg_371) rfl) ?_
                  refine lv (v := (.bool (!decide (r_372 = 0)))) rfl rfl (r_move rfl) ?_
                  by_cases hg_376 : (!decide (r_372 = 0)) = true
                  · rw [if_pos hg_376] at hm
                    refine lp (b := !decide (r_372 = 0)) 118 rfl rfl rfl rfl (by rw [hg_376]; rfl) ?_
                    refine lp (b := !decide (r_372 = 0)) 118 rfl rfl rfl rfl (by rw [hg_376]; rfl) ?_
                    refine lp (b := !decide (r_372 = 0)) 118 rfl rfl rfl rfl (by rw [hg_376]; rfl) ?_
                    refine lp (b := !decide (r_372 = 0)) 118 rfl rfl rfl rfl (by rw [hg_376]; rfl) ?_
                    refine lv (v := (.bool true)) rfl rfl (r_pickT (congrArg Value.bool hg_376) rfl) ?_
                    refine lv (v := (.bool true)) rfl rfl (r_move rfl) ?_
                    refine lp (b := true) 124 rfl rfl rfl rfl rfl ?_
                    refine lp (b := true) 124 rfl rfl rfl rfl rfl ?_
                    refine lp (b := true) 124 rfl rfl rfl rfl rfl ?_
                    refine lp (b := true) 124 rfl rfl rfl rfl rfl ?_
                    refine lv (v := (.bool true)) rfl rfl (r_pickT rfl rfl) ?_
                    refine lnil ?_
                    exact ⟨col_86, true, hm, hst, rh_62, rh_71, h_90, hG_22, rfl, rfl, rfl, rfl, rfl, rfl⟩
                  · rw [if_neg hg_376] at hm
                    replace hg_376 := Bool.eq_false_iff.2 hg_376
                    refine lg (b := !decide (r_372 = 0)) 118 rfl rfl rfl (by rw [hg_376]; rfl) ?_
                    refine lv (v := (.slice ra_69 r_67.1.length rc_70)) rfl rfl (r_move rfl) ?_
                    refine lg (b := !decide (r_372 = 0)) 118 rfl rfl rfl (by rw [hg_376]; rfl) ?_
                    refine lv (v := (.slice ra_52 r_50.length rc_53)) rfl rfl (r_move rfl) ?_
                    refine lg (b := !decide (r_372 = 0)) 118 rfl rfl rfl (by rw [hg_376]; rfl) ?_
                    obtain ⟨r_377, hr_378, hm⟩ := bind_some hm
                    refine lc rfl rfl (r_call2 Try.call45 rfl rfl) (c_order_Check (frC 5 (frC 7 col_86)) _ ra_69 rc_70 r_67.1 ra_52 rc_53 r_50 ((rh_71.toSlF (Froz.int .i64)).froz 5) ((rh_54.froz 7 (by decide)).toSlF (Froz.int .i64)) r_377 hr_378) ?_
                    rintro _ w_379 ⟨rfl, hg_380⟩
                    refine ⟨_, rfl, ?_⟩
                    replace hg_380 : Grow col_86 w_374 col_86 w_379 := .of_below hg_380
                    replace rh_62 := rh_62.gr hg_380
                    replace rh_71 := rh_71.gr hg_380
                    replace h_90 := h_90.gr hg_380
                    replace hG_22 := hG_22.gr hg_380
                    replace rh_54 := rh_54.gr hg_380
                    replace hst := hst.grow hg_380
                    refine lg (b := !decide (r_372 = 0)) 118 rfl rfl rfl (by rw [hg_376]; rfl) ?_
                    refine lv (v := (.bool (!decide (r_377 = 0)))) rfl rfl (r_neq r_377 0 rfl rfl) ?_
                    refine lv (v := (.bool (!decide (r_377 = 0)))) rfl rfl (r_pickF (congrArg Value.bool hg_376) rfl) ?_
                    refine lv (v := (.bool (!decide (r_377 = 0)))) rfl rfl (r_move rfl) ?_
                    by_cases hg_381 : (!decide (r_377 = 0)) = true
                    · rw [if_pos hg_381] at hm
                      refine lp (b := !decide (r_377 = 0)) 124 rfl rfl rfl rfl (by rw [hg_381]; rfl) ?_
                      refine lp (b := !decide (r_377 = 0)) 124 rfl rfl rfl rfl (by rw [hg_381]; rfl) ?_
                      refine lp (b := !decide (r_377 = 0)) 124 rfl rfl rfl rfl (by rw [hg_381]; rfl) ?_
                      refine lp (b := !decide (r_377 = 0)) 124 rfl rfl rfl rfl (by rw [hg_381]; rfl) ?_
                      refine lv (v := (.bool true)) rfl rfl (r_pickT (congrArg Value.bool hg_381) rfl) ?_
                      refine lnil ?_
                      exact ⟨col_86, true, hm, hst, rh_62, rh_71, h_90, hG_22, rfl, rfl, rfl, rfl, rfl, rfl⟩
                    · rw [if_neg hg_381] at hm
                      replace hg_381 := Bool.eq_false_iff.2 hg_381
                      refine lg (b := !decide (r_377 = 0)) 124 rfl rfl rfl (by rw [hg_381]; rfl) ?_
                      refine lv (v := (.slice a_88 c_87.length cap_89)) rfl rfl (r_move rfl) ?_
                      refine lg (b := !decide (r_377 = 0)) 124 rfl rfl rfl (by rw [hg_381]; rfl) ?_
                      refine lv (v := (.slice ra_52 r_50.length rc_53)) rfl rfl (r_move rfl) ?_
                      refine lg (b := !decide (r_377 = 0)) 124 rfl rfl rfl (by rw [hg_381]; rfl) ?_
                      obtain ⟨r_382, hr_383, hm⟩ := bind_some hm
                      refine lc rfl rfl (r_call2 Try.call45 rfl rfl) (c_order_Check (frC 5 (frC 9 col_86)) _ a_88 cap_89 c_87 ra_52 rc_53 r_50 ((h_90.toSlF (Froz.int .i64)).froz 5) ((rh_54.froz 9 (by decide)).toSlF (Froz.int .i64)) r_382 hr_383) ?_
                      rintro _ w_384 ⟨rfl, hg_385⟩
                      refine ⟨_, rfl, ?_⟩
                      replace hg_385 : Grow col_86 w_379 col_86 w_384 := .of_below hg_385
                      replace rh_62 := rh_62.gr hg_385
                      replace rh_71 := rh_71.gr hg_385
                      replace h_90 := h_90.gr hg_385
                      replace hG_22 := hG_22.gr hg_385
                      replace rh_54 := rh_54.gr hg_385
                      replace hst := hst.grow hg_385
                      refine lg (b := !decide (r_377 = 0)) 124 rfl rfl rfl (by rw [hg_381]; rfl) ?_
                      refine lv (v := (.bool (!decide (r_382 = 0)))) rfl rfl (r_neq r_382 0 rfl rfl) ?_
                      refine lv (v := (.bool (!decide (r_382 = 0)))) rfl rfl (r_pickF (congrArg Value.bool hg_381) rfl) ?_
                      refine lnil ?_
                      exact ⟨col_86, (!decide (r_382 = 0)), hm, hst, rh_62, rh_71, h_90, hG_22, rfl, rfl, rfl, rfl, rfl, rfl⟩
    · refine wregion ?_
      refine lv (v := (.bool r_6)) rfl rfl (r_move rfl) ?_
      refine lv (v := (.bool (!r_6))) rfl rfl (r_not r_6 rfl) ?_
      refine lv (v := (.bool (!r_6))) rfl rfl (r_move rfl) ?_
      by_cases hg_386 : (!r_6) = true
      · rw [if_pos hg_386] at hm
        refine lp (b := !r_6) 44 rfl rfl rfl rfl (by rw [hg_386]; rfl) ?_
        refine lp (b := !r_6) 44 rfl rfl rfl rfl (by rw [hg_386]; rfl) ?_
        refine lv (v := (.bool true)) rfl rfl (r_pickT (congrArg Value.bool hg_386) rfl) ?_
        refine lv (v := (.bool true)) rfl rfl (r_move rfl) ?_
        refine lp (b := true) 48 rfl rfl rfl rfl rfl ?_
        refine lp (b := true) 48 rfl rfl rfl rfl rfl ?_
        refine lv (v := (.bool true)) rfl rfl (r_pickT rfl rfl) ?_
        refine lnil ?_
        exact ⟨col_18, true, hm, hst, h1, hG_22, rfl, rfl, rfl, rfl, rfl, rfl⟩
      · rw [if_neg hg_386] at hm
        replace hg_386 := Bool.eq_false_iff.2 hg_386
        refine lg (b := !r_6) 44 rfl rfl rfl (by rw [hg_386]; rfl) ?_
        refine lv (v := (.bool r_10.2.2)) rfl rfl (r_move rfl) ?_
        refine lg (b := !r_6) 44 rfl rfl rfl (by rw [hg_386]; rfl) ?_
        refine lv (v := (.bool (!r_10.2.2))) rfl rfl (r_not r_10.2.2 rfl) ?_
        refine lv (v := (.bool (!r_10.2.2))) rfl rfl (r_pickF (congrArg Value.bool hg_386) rfl) ?_
        refine lv (v := (.bool (!r_10.2.2))) rfl rfl (r_move rfl) ?_
        by_cases hg_387 : (!r_10.2.2) = true
        · rw [if_pos hg_387] at hm
          refine lp (b := !r_10.2.2) 48 rfl rfl rfl rfl (by rw [hg_387]; rfl) ?_
          refine lp (b := !r_10.2.2) 48 rfl rfl rfl rfl (by rw [hg_387]; rfl) ?_
          refine lv (v := (.bool true)) rfl rfl (r_pickT (congrArg Value.bool hg_387) rfl) ?_
          refine lnil ?_
          exact ⟨col_18, true, hm, hst, h1, hG_22, rfl, rfl, rfl, rfl, rfl, rfl⟩
        · rw [if_neg hg_387] at hm
          replace hg_387 := Bool.eq_false_iff.2 hg_387
          refine lg (b := !r_10.2.2) 48 rfl rfl rfl (by rw [hg_387]; rfl) ?_
          refine lv (v := (.pointer (some ⟨o_21.g, 0, none⟩))) rfl rfl (r_move rfl) ?_
          refine lg (b := !r_10.2.2) 48 rfl rfl rfl (by rw [hg_387]; rfl) ?_
          refine lv (v := (.bool false)) rfl rfl (r_eqlP1 ⟨_, Try.underlying24⟩ rfl rfl) ?_
          refine lv (v := (.bool false)) rfl rfl (r_pickF (congrArg Value.bool hg_387) rfl) ?_
          refine lnil ?_
          exact ⟨col_18, false, hm, hst, h1, hG_22, rfl, rfl, rfl, rfl, rfl, rfl⟩



section
variable {n N : Nat} {t u : List (List Bool)} {a b x y : Int}
theorem all_L1 (h : Tab n t) (hn : n ≤ 1024) : ∀ (f i : Nat), i ≤ n → n - i < f → m_credencelaw18_all_L1 N t f ((pts n).take i) (i : Int) = some (pts n)
  | 0, i, _, hf => by omega
  | f + 1, i, hi, hf => by
    rw [m_credencelaw18_all_L1.eq_2]
    unfold m_graph_Graph_Len
    simp only [Option.bind_some]
    rw [h.len]
    by_cases hlt : i < n
    · have e : (pts n).take i ++ [(i : Int)] = (pts n).take (i + 1) := by
        rw [List.take_add_one]
        have : (pts n)[i]? = some (i : Int) := by unfold pts; rw [List.getElem?_map, List.getElem?_range hlt]; rfl
        rw [this]; rfl
      rw [if_pos (decide_eq_true (by omega)), chk_pos (by simp only [List.length_take, pts_len, List.length_singleton, maxLen]; omega), wS (by omega), e]
      exact all_L1 h hn f (i + 1) (by omega) (by omega)
    · obtain rfl : i = n := by omega
      rw [if_neg (by simp), List.take_of_length_le (by rw [pts_len]; exact Nat.le_refl _)]
theorem all_eq (h : Tab n t) (hn : n ≤ 1024) (hN : 2048 < N) : m_credencelaw18_all N t = some (pts n) := all_L1 h hn N 0 (by omega) (by omega)

theorem listed18_L2 (l : List (List Int)) (i : Int) (c : List Int) (hc : at? l i = some c) (hl : c.length ≤ 1100000) (kk : Int → Option Bool) : ∀ (f k : Nat) (one two : Bool), k ≤ c.length → c.length - k < f →
    m_credencelaw18_listed_L2 N l a b i kk f (k : Int) one two = if ((one || decide (a ∈ c.drop k)) && (two || decide (b ∈ c.drop k))) = true then some true else kk (IntKind.i64.wrap (i + 1))
  | 0, k, _, _, _, hf => by omega
  | f + 1, k, one, two, hk, hf => by
    rw [m_credencelaw18_listed_L2.eq_2, hc]
    simp only [Option.bind_some]
    by_cases h : k < c.length
    · rw [if_pos (decide_eq_true (by omega)), List.drop_eq_getElem_cons h]
      have step : ∀ o w : Bool, m_credencelaw18_listed_J2 (k : Int) (m_credencelaw18_listed_L2 N l a b i kk f) o w = if ((o || decide (a ∈ c.drop (k + 1))) && (w || decide (b ∈ c.drop (k + 1)))) = true then some true else kk (IntKind.i64.wrap (i + 1)) := fun o w => by
        unfold m_credencelaw18_listed_J2
        rw [wS (by omega)]
        exact listed18_L2 l i c hc hl kk f (k + 1) o w (by omega) (by omega)
      have step3 : ∀ o : Bool, m_credencelaw18_listed_J3 l b i (k : Int) two (m_credencelaw18_listed_L2 N l a b i kk f) o = if ((o || decide (a ∈ c.drop (k + 1))) && (two || decide (b ∈ c[k] :: c.drop (k + 1)))) = true then some true else kk (IntKind.i64.wrap (i + 1)) := fun o => by
        unfold m_credencelaw18_listed_J3
        cases two
        · rw [if_neg (by decide), hc]
          simp only [Option.bind_some]
          rw [at?_lt h]
          simp only [Option.bind_some]
          rw [step]
          have e : (decide (c[k] = b) || decide (b ∈ c.drop (k + 1))) = (false || decide (b ∈ c[k] :: c.drop (k + 1))) := by
            rw [Bool.false_or, ← Bool.decide_or]
            exact decide_eq_decide.2 ⟨fun h => h.elim (fun e => e ▸ List.mem_cons_self) (List.mem_cons_of_mem _), fun h => (List.mem_cons.1 h).imp Eq.symm id⟩
          rw [e]
        · rw [if_pos rfl, step]
          simp only [Bool.true_or]
      cases one
      · rw [if_neg (by decide), at?_lt h]
        simp only [Option.bind_some]
        rw [step3]
        have e : (decide (c[k] = a) || decide (a ∈ c.drop (k + 1))) = (false || decide (a ∈ c[k] :: c.drop (k + 1))) := by
          rw [Bool.false_or, ← Bool.decide_or]
          exact decide_eq_decide.2 ⟨fun h => h.elim (fun e => e ▸ List.mem_cons_self) (List.mem_cons_of_mem _), fun h => (List.mem_cons.1 h).imp Eq.symm id⟩
        rw [e]
      · rw [if_pos rfl, step3]
        simp only [Bool.true_or]
    · rw [if_neg (by simp; omega), List.drop_eq_nil_of_le (by omega)]
      unfold m_credencelaw18_listed_J4 m_credencelaw18_listed_J1
      cases one <;> cases two <;> simp
theorem listed18_L1 (l : List (List Int)) (hl : l.length ≤ 1100000) (hc : ∀ c ∈ l, c.length ≤ 1100000) (hN : 1200000 < N) : ∀ (f i : Nat), i ≤ l.length → l.length - i < f →
    m_credencelaw18_listed_L1 N l a b f (i : Int) = some (decide (∃ c ∈ l.drop i, a ∈ c ∧ b ∈ c))
  | 0, i, _, hf => by omega
  | f + 1, i, hi, hf => by
    rw [m_credencelaw18_listed_L1.eq_2]
    by_cases h : i < l.length
    · have hm := hc _ (List.getElem_mem h)
      rw [if_pos (decide_eq_true (by omega))]
      have e2 := listed18_L2 (N := N) (a := a) (b := b) l (i : Int) l[i] (at?_lt h) hm (m_credencelaw18_listed_L1 N l a b f) N 0 false false (Nat.zero_le _) (by omega)
      refine Eq.trans e2 ?_
      rw [List.drop_zero, Bool.false_or, Bool.false_or, wS (by omega), listed18_L1 l hl hc hN f (i + 1) (by omega) (by omega), List.drop_eq_getElem_cons h]
      by_cases hab : a ∈ l[i] ∧ b ∈ l[i]
      · rw [if_pos (by simp [hab])]
        exact congrArg some (decide_eq_true ⟨_, List.mem_cons_self, hab⟩).symm
      · rw [if_neg (by simpa using fun h1 h2 => hab ⟨h1, h2⟩)]
        refine congrArg some (decide_eq_decide.2 ⟨fun ⟨c, h1, h2⟩ => ⟨c, List.mem_cons_of_mem _ h1, h2⟩, fun ⟨c, h1, h2⟩ => ⟨c, ?_, h2⟩⟩)
        rcases List.mem_cons.1 h1 with rfl | h1
        · exact absurd h2 hab
        · exact h1
    · rw [if_neg (by simp; omega), List.drop_eq_nil_of_le (by omega)]
      simp
theorem listed18_eq (l : List (List Int)) (hl : l.length ≤ 1100000) (hc : ∀ c ∈ l, c.length ≤ 1100000) (hN : 1200000 < N) : m_credencelaw18_listed N l a b = some (decide (∃ c ∈ l, a ∈ c ∧ b ∈ c)) := by
  have := listed18_L1 (N := N) (a := a) (b := b) l hl hc hN N 0 (by omega) (by omega)
  rwa [List.drop_zero] at this

/-- An order of all points. -/
structure AllP (n : Nat) (l : List Int) : Prop where
  nd : l.Nodup
  mem : ∀ x, x ∈ l ↔ 0 ≤ x ∧ x < (n : Int)
theorem AllP.len {l : List Int} (h : AllP n l) : l.length = n := by
  have h1 := short (fun x hx => (h.mem x).1 hx) h.nd
  have h2 := nodup_le (l := pts n) (r := l) (pts_rises.imp fun h => by omega) fun x hx => (h.mem x).2 (pts_mem.1 hx)
  rw [pts_len] at h2; omega
theorem AllP.zero {l : List Int} (h : AllP n l) : wrongC n l = 0 := wrong_zero.2 ⟨fun x hx => (h.mem x).1 hx, h.nd⟩
theorem AllP.pts : AllP n (pts n) := ⟨pts_rises.imp fun h => by omega, fun _ => pts_mem⟩
theorem AllP.perm {l m : List Int} (h : AllP n l) (k : AllP n m) : l.Perm m := List.perm_iff_count.2 fun a => by
  have h1 := List.nodup_iff_count.1 h.nd a
  have h2 := List.nodup_iff_count.1 k.nd a
  by_cases ha : 0 ≤ a ∧ a < (n : Int)
  · have h3 := List.count_pos_iff.2 ((h.mem a).2 ha)
    have h4 := List.count_pos_iff.2 ((k.mem a).2 ha)
    omega
  · rw [List.count_eq_zero_of_not_mem (fun e => ha ((h.mem a).1 e)), List.count_eq_zero_of_not_mem (fun e => ha ((k.mem a).1 e))]

theorem Covers_L5 (h : Gr n t) (r : List (List Int) × Int) (i : Nat) (c : List Int) (hc : at? r.1 (i : Int) = some c) (k : Nat) (hk : k < c.length) (hl : c.length ≤ 100000) (hall : ∀ p ∈ c, ∀ q ∈ c, p ≠ q → ge t p q = true) (hnd : c.Nodup) (kk : Int → Option Bool) : ∀ (f j : Nat), j ≤ k → k - j < f →
    m_credencelaw18_OrderCovers_L5 N t r (i : Int) (k : Int) kk f (j : Int) = kk (IntKind.i64.wrap ((k : Int) + 1))
  | 0, j, _, hf => by omega
  | f + 1, j, hj, hf => by
    rw [m_credencelaw18_OrderCovers_L5.eq_2]
    by_cases hlt : j < k
    · rw [if_pos (decide_eq_true (by omega)), hc]
      simp only [Option.bind_some]
      rw [at?_lt (show j < c.length by omega), at?_lt hk]
      simp only [Option.bind_some]
      rw [Has_eq h.tab, hall _ (List.getElem_mem _) _ (List.getElem_mem _) (fun e => by have := (List.getElem_inj hnd).1 e; omega)]
      simp only [Option.bind_some]
      rw [if_neg (by decide), wS (by omega)]
      exact Covers_L5 h r i c hc k hk hl hall hnd kk f (j + 1) (by omega) (by omega)
    · rw [if_neg (by simp; omega)]
theorem Covers_L4 (h : Gr n t) (hn : n ≤ 1000) (hN : 1200000 < N) (v : Int) (r : List (List Int) × Int) (m i : Nat) (c : List Int) (hc : at? r.1 (i : Int) = some c) (hl : c.length ≤ 100000) (hnd : c.Nodup) (hall : v = 0 → m_graph_Graph_Chordal N t = some true → ∀ p ∈ c, ∀ q ∈ c, p ≠ q → ge t p q = true) (kk : Int → Int → Option Bool) : ∀ (f k : Nat), k ≤ c.length → c.length - k < f →
    m_credencelaw18_OrderCovers_L4 N t v r (m : Int) (i : Int) kk c f (k : Int) = kk ((max m c.length : Nat) : Int) (IntKind.i64.wrap ((i : Int) + 1))
  | 0, k, _, hf => by omega
  | f + 1, k, hk, hf => by
    have out : m_credencelaw18_OrderCovers_J9 N t r (m : Int) (i : Int) kk c (k : Int) (m_credencelaw18_OrderCovers_L4 N t v r (m : Int) (i : Int) kk c f) false = kk ((max m c.length : Nat) : Int) (IntKind.i64.wrap ((i : Int) + 1)) := by
      unfold m_credencelaw18_OrderCovers_J9
      rw [if_neg (by decide), show (if (c.length : Int) > (m : Int) then (c.length : Int) else (m : Int)) = ((max m c.length : Nat) : Int) by split <;> omega]
    rw [m_credencelaw18_OrderCovers_L4.eq_2, hc]
    simp only [Option.bind_some]
    by_cases hlt : k < c.length
    · rw [if_pos (decide_eq_true (by omega))]
      by_cases hv : v = 0
      · rw [if_pos (decide_eq_true hv)]
        obtain ⟨ch, hch⟩ := Chordal_some h (by omega) (show 2048 < N by omega)
        rw [hch]
        simp only [Option.bind_some]
        cases ch
        · exact out
        · unfold m_credencelaw18_OrderCovers_J9
          rw [if_pos rfl]
          have e5 := Covers_L5 (N := N) h r i c hc k hlt hl (hall hv hch) hnd (m_credencelaw18_OrderCovers_L4 N t v r (m : Int) (i : Int) kk c f) N 0 (Nat.zero_le _) (by omega)
          refine Eq.trans e5 ?_
          rw [wS (by omega)]
          exact Covers_L4 h hn hN v r m i c hc hl hnd hall kk f (k + 1) (by omega) (by omega)
      · rw [if_neg (by simpa using hv)]
        exact out
    · rw [if_neg (by simp; omega)]
      exact out
theorem clq_nodup : ∀ {l : List Int} {t : List (List Bool)}, Gr n t → (∀ z ∈ l, 0 ≤ z ∧ z < (n : Int)) → ∀ c ∈ clq n t l, c.Nodup
  | a :: l, t, h, hr, c, hc => by
    rcases List.mem_cons.1 hc with rfl | hc
    · have hp : (insS a (near n t a)).Perm (a :: near n t a) := by
        unfold insS
        rw [List.append_assoc]
        refine (List.perm_append_comm_assoc _ _ _).trans ?_
        rw [List.take_append_drop]; exact .refl _
      exact hp.nodup_iff.2 (List.nodup_cons.2 ⟨fun hm => (by have := near_mem.1 hm; rw [h.irr] at this; cases this), gkeys_nodup⟩)
    · exact clq_nodup (h.remove (hr a List.mem_cons_self)) (fun z hz => hr z (List.mem_cons_of_mem _ hz)) c hc
theorem Covers_L7 (r : List (List Int) × Int) (hl : r.1.length ≤ 1100000) (hcl : ∀ c ∈ r.1, c.length ≤ 1100000) (hN : 1200000 < N) (x : Int) (kk : Int → Option Bool) (nr : List Int) (hnl : nr.length ≤ 1100000) (hall : ∀ y ∈ nr, ∃ c ∈ r.1, x ∈ c ∧ y ∈ c) : ∀ (f k : Nat), k ≤ nr.length → nr.length - k < f →
    m_credencelaw18_OrderCovers_L7 N r x kk nr f (k : Int) = kk (IntKind.i64.wrap (x + 1))
  | 0, k, _, hf => by omega
  | f + 1, k, hk, hf => by
    rw [m_credencelaw18_OrderCovers_L7.eq_2]
    by_cases hlt : k < nr.length
    · rw [if_pos (decide_eq_true (by omega)), at?_lt hlt]
      simp only [Option.bind_some]
      rw [listed18_eq _ hl hcl hN, decide_eq_true (hall _ (List.getElem_mem _))]
      simp only [Option.bind_some]
      rw [if_neg (by decide), wS (by omega)]
      exact Covers_L7 r hl hcl hN x kk nr hnl hall f (k + 1) (by omega) (by omega)
    · rw [if_neg (by simp; omega)]
theorem Covers_L6 (h : Gr n t) (hn : n ≤ 1000) (hN : 1200000 < N) (v : Int) (kk : Int → Option Bool) (r : List (List Int) × Int) (hl : r.1.length ≤ 1100000) (hcl : ∀ c ∈ r.1, c.length ≤ 1100000) (hall : ∀ x y, ge t x y = true → ∃ c ∈ r.1, x ∈ c ∧ y ∈ c) : ∀ (f i : Nat), i ≤ n → n - i < f →
    m_credencelaw18_OrderCovers_L6 N t v kk r f (i : Int) = kk (IntKind.i64.wrap (v + 1))
  | 0, i, _, hf => by omega
  | f + 1, i, hi, hf => by
    rw [m_credencelaw18_OrderCovers_L6.eq_2]
    unfold m_graph_Graph_Len
    simp only [Option.bind_some]
    rw [h.tab.len]
    by_cases hlt : i < n
    · rw [if_pos (decide_eq_true (by omega)), Near_eq h.tab (by omega)]
      simp only [Option.bind_some]
      have hnl := near_len (a := (i : Int)) h.tab
      have e7 := Covers_L7 (N := N) r hl hcl hN (i : Int) (m_credencelaw18_OrderCovers_L6 N t v kk r f) (near n t (i : Int)) (by omega) (fun y hy => hall _ _ (near_mem.1 hy)) N 0 (Nat.zero_le _) (by omega)
      refine Eq.trans e7 ?_
      rw [wS (by omega)]
      exact Covers_L6 h hn hN v kk r hl hcl hall f (i + 1) (by omega) (by omega)
    · rw [if_neg (by simp; omega)]
theorem most_snoc : ∀ (l : List (List Int)) (c : List Int) (m : Nat), most (l ++ [c]) m = max (most l m) c.length
  | [], c, m => rfl
  | x :: l, c, m => most_snoc l c _
/-- One order: all that is asked of it. -/
theorem Covers_L3 (h : Gr n t) (hn : n ≤ 1000) (hN : 1200000 < N) (ra rb : List Int × Int) (rc : List Int) (v : Int) (kk : Int → Option Bool) (L : List Int) (hL : AllP n L) (hat : at? [ra.1, rb.1, rc] v = some L)
    (hch : v = 0 → m_graph_Graph_Chordal N t = some true → ∀ c ∈ clq n t L, ∀ p ∈ c, ∀ q ∈ c, p ≠ q → ge t p q = true) (w e : Int) (hw : w = IntKind.i64.wrap ((most (clq n t L) 1 : Nat) - 1 : Int)) : ∀ (f i : Nat), i ≤ n → n - i < f →
    m_credencelaw18_OrderCovers_L3 N t ra rb rc v kk (clq n t L, 0) (w, e) f ((most ((clq n t L).take i) 1 : Nat) : Int) (i : Int) = kk (IntKind.i64.wrap (v + 1))
  | 0, i, _, hf => by omega
  | f + 1, i, hi, hf => by
    have hlen : (clq n t L).length = n := by rw [clq_len, hL.len]
    have hr : ∀ z ∈ L, 0 ≤ z ∧ z < (n : Int) := fun z hz => (hL.mem z).1 hz
    have hcs := clq_short h hr
    rw [m_credencelaw18_OrderCovers_L3.eq_2]
    show (if (decide ((i : Int) < ((clq n t L).length : Int))) = true then _ else _) = _
    by_cases hlt : i < n
    · have hiC : i < (clq n t L).length := by omega
      have hiL : i < L.length := by rw [hL.len]; exact hlt
      have hci := List.getElem_mem hiC
      rw [if_pos (decide_eq_true (by omega)), wS (by omega), chk_pos (by refine ⟨by omega, by omega, ?_⟩; show ((i + 1 : Nat) : Int) ≤ ((clq n t L).length : Int); omega), hat]
      simp only [Option.bind_some]
      rw [at?_lt hiL]
      simp only [Option.bind_some, Int.toNat_natCast]
      have hone : ((clq n t L).take (i + 1)).drop i = [(clq n t L)[i]] := by
        rw [List.drop_take, Nat.add_sub_cancel_left, List.drop_eq_getElem_cons hiC]; rfl
      rw [hone, listed18_eq _ (by simp) (fun c hc => by rw [List.mem_singleton.1 hc]; have := hcs _ hci; omega) hN, decide_eq_true ⟨_, List.mem_singleton.2 rfl, clq_own i hiL hiC, clq_own i hiL hiC⟩]
      simp only [Option.bind_some]
      rw [if_neg (by decide), at?_lt hiC]
      simp only [Option.bind_some]
      have e4 := Covers_L4 (N := N) h hn hN v (clq n t L, 0) (most ((clq n t L).take i) 1) i (clq n t L)[i] (at?_lt hiC) (by have := hcs _ hci; omega) (clq_nodup h hr _ hci) (fun h0 h1 => hch h0 h1 _ hci) (m_credencelaw18_OrderCovers_L3 N t ra rb rc v kk (clq n t L, 0) (w, e) f) N 0 (Nat.zero_le _) (by have := hcs _ hci; omega)
      refine Eq.trans e4 ?_
      rw [wS (by omega), ← most_snoc, show (clq n t L).take i ++ [(clq n t L)[i]] = (clq n t L).take (i + 1) by rw [List.take_add_one, List.getElem?_eq_getElem hiC]; rfl]
      exact Covers_L3 h hn hN ra rb rc v kk L hL hat hch w e hw f (i + 1) (by omega) (by omega)
    · obtain rfl : i = n := by omega
      rw [if_neg (by simp; omega), List.take_of_length_le (by omega), if_neg (by rw [← hw]; simp)]
      exact Covers_L6 (N := N) h hn hN v kk (clq i t L, 0) (by show (clq i t L).length ≤ _; omega) (fun c hc => by have := hcs _ hc; omega) (fun x y he => clq_cover h hr ((hL.mem x).2 (h.tab.range he).1) ((hL.mem y).2 (h.tab.range he).2) he) N 0 (Nat.zero_le _) (by omega)
theorem Covers_L2 (h : Gr n t) (hn : n ≤ 1000) (hN : 1200000 < N) (ra rb : List Int × Int) (rc : List Int) (ha : AllP n ra.1) (hb : AllP n rb.1) (hc : AllP n rc)
    (hch : m_graph_Graph_Chordal N t = some true → ∀ c ∈ clq n t ra.1, ∀ p ∈ c, ∀ q ∈ c, p ≠ q → ge t p q = true) : ∀ (f i : Nat), i ≤ 3 → 3 - i < f → m_credencelaw18_OrderCovers_L2 N t ra rb rc f (i : Int) = some true
  | 0, i, _, hf => by omega
  | f + 1, i, hi, hf => by
    rw [m_credencelaw18_OrderCovers_L2.eq_2]
    by_cases hlt : i < 3
    · obtain ⟨L, hL, hat, hcc⟩ : ∃ L, AllP n L ∧ at? [ra.1, rb.1, rc] (i : Int) = some L ∧ ((i : Int) = 0 → m_graph_Graph_Chordal N t = some true → ∀ c ∈ clq n t L, ∀ p ∈ c, ∀ q ∈ c, p ≠ q → ge t p q = true) := by
        match i, hlt with
        | 0, _ => exact ⟨_, ha, rfl, fun _ => hch⟩
        | 1, _ => exact ⟨_, hb, rfl, fun h => by cases h⟩
        | 2, _ => exact ⟨_, hc, rfl, fun h => by cases h⟩
      have hll := hL.len
      rw [if_pos (decide_eq_true (by omega)), hat]
      simp only [Option.bind_some]
      rw [Cliques_eq h (by omega) (by omega) L (by omega), Width_eq h (by omega) (by omega) L (by omega)]
      simp only [Option.bind_some]
      have e0 : clqs n t L = (clq n t L, 0) := by unfold clqs; rw [if_pos hL.zero]
      rw [e0]
      unfold m_graph_Graph_Len
      rw [if_neg (by simp), if_neg (by simp)]
      simp only [Option.bind_some]
      have hlen : (clq n t L).length = n := by rw [clq_len, hll]
      unfold m_credencelaw18_OrderCovers_J8
      rw [hlen, h.tab.len, if_neg (by simp)]
      have e3 := Covers_L3 (N := N) h hn hN ra rb rc (i : Int) (m_credencelaw18_OrderCovers_L2 N t ra rb rc f) L hL hat hcc _ 0 rfl N 0 (Nat.zero_le _) (by omega)
      refine Eq.trans e3 ?_
      rw [wS (by omega)]
      exact Covers_L2 h hn hN ra rb rc ha hb hc hch f (i + 1) (by omega) (by omega)
    · rw [if_neg (by simp; omega)]
/-- Points picked one by one, whichever. -/
theorem Covers_L1 (h : Gr n t) (hn : n ≤ 1000) (hN : 1200000 < N) (picks : List Int) (ra rb : List Int × Int) (ha : AllP n ra.1) (hb : AllP n rb.1) (ha0 : ra.2 = 0) (hb0 : rb.2 = 0)
    (hch : m_graph_Graph_Chordal N t = some true → ∀ c ∈ clq n t ra.1, ∀ p ∈ c, ∀ q ∈ c, p ≠ q → ge t p q = true) : ∀ (f : Nat) (c left : List Int) (i : Nat), AllP n (c ++ left) → left.length < f → i + left.length < 9000 →
    m_credencelaw18_OrderCovers_L1 N picks t (pts n) ra rb f c left (i : Int) = some true
  | 0, _, _, _, _, hf, _ => by omega
  | f + 1, c, left, i, hA, hf, hi => by
    have hAl := hA.len
    rw [List.length_append] at hAl
    rw [m_credencelaw18_OrderCovers_L1.eq_2]
    by_cases h0 : 0 < left.length
    · rw [if_pos (decide_eq_true (by omega))]
      have step : ∀ k : Nat, k < left.length → m_credencelaw18_OrderCovers_J6 c left (i : Int) (m_credencelaw18_OrderCovers_L1 N picks t (pts n) ra rb f) (k : Int) = some true := fun k hk => by
        unfold m_credencelaw18_OrderCovers_J6 m_credencelaw18_OrderCovers_J5
        rw [at?_lt hk]
        simp only [Option.bind_some]
        rw [wS (by omega), wS (by omega)]
        simp only [Int.toNat_natCast, List.nil_append]
        have hcut := cutL hk
        rw [chk_pos (by simp only [List.length_singleton, maxLen]; omega), chk_pos (by omega), chk_pos (by simp only [List.length_nil, List.length_take, maxLen]; omega), chk_pos (by omega), chk_pos (by rw [List.length_append] at hcut; simp only [maxLen]; omega)]
        refine Covers_L1 h hn hN picks ra rb ha hb ha0 hb0 hch f _ _ (i + 1) ?_ (by omega) (by omega)
        have hp : ((c ++ [left[k]]) ++ (left.take k ++ left.drop (k + 1))).Perm (c ++ left) := by
          rw [List.append_assoc]
          refine List.Perm.append_left c ?_
          have e : left = left.take k ++ left[k] :: left.drop (k + 1) := by rw [← List.drop_eq_getElem_cons hk, List.take_append_drop]
          conv => rhs; rw [e]
          exact (List.perm_middle (l₁ := left.take k) (l₂ := left.drop (k + 1)) (a := left[k])).symm
        exact ⟨hp.nodup_iff.2 hA.nd, fun x => by rw [hp.mem_iff]; exact hA.mem x⟩
      by_cases hp : i < picks.length
      · rw [if_pos (decide_eq_true (by omega)), at?_lt hp]
        simp only [Option.bind_some]
        obtain ⟨k, hk, e⟩ := pick18_eq (i := picks[i]) (n := left.length) ⟨h0, by omega⟩
        rw [e]
        simp only [Option.bind_some]
        exact step k hk
      · rw [if_neg (by simp; omega)]
        exact step 0 h0
    · obtain rfl : left = [] := List.length_eq_zero_iff.1 (by omega)
      rw [List.append_nil] at hA
      have hpl := pts_len (n := n)
      have ck : ∀ l, AllP n l → m_order_Check l (pts n) = some 0 := fun l hl => by
        rw [check_eq l (pts n) (by rw [hl.len]; omega) (by omega), if_pos ⟨hl.perm AllP.pts, AllP.pts.nd⟩]
      rw [if_neg (by simp), if_neg (by rw [ha0]; decide), if_neg (by rw [hb0]; decide), ck _ ha, ck _ hb, ck _ hA]
      simp only [Option.bind_some]
      rw [if_neg (by decide), if_neg (by decide)]
      unfold m_credencelaw18_OrderCovers_J7
      rw [if_neg (by decide)]
      exact Covers_L2 h hn hN ra rb c ha hb hA hch N 0 (by omega) (by omega)
theorem Ordered.allP {wt : List (List Bool) → Int → Int} {l : List Int} {r : List Int × Int} (h : Ordered n wt t l r) (hl : AllP n l) : r.2 = 0 ∧ OrdR n wt t l r.1 ∧ AllP n r.1 := by
  unfold Ordered at h
  rw [if_pos hl.zero] at h
  have := h.2.perm hl.nd
  exact ⟨h.1, h.2, this.1, fun x => by rw [this.2 x, hl.mem x]⟩
theorem OrderCovers_true (d : Int) (pairs picks : List Int) (hp : pairs.length ≤ 9223372036854775000) (hN : 3000000 ≤ N) (hN2 : pairs.length + 3000 < N) : m_credencelaw18_OrderCovers N (d, pairs) picks = some true := by
  unfold m_credencelaw18_OrderCovers w_credencelaw18_awake
  simp only [Option.bind_some]
  by_cases hd : d < 0
  · have e : m_credencelaw18_drawn N (d, pairs) = some (none, none, true) := by
      unfold m_credencelaw18_drawn; rw [if_pos (by simpa using hd)]
    rw [e]
    simp only [Option.bind_some]
    unfold optC
    simp [m_credencelaw18_OrderCovers_J1, m_credencelaw18_OrderCovers_J2]
  · obtain ⟨n, t, hn, h, e⟩ := drawn18_eq pairs hp hN2 d hd
    rw [e]
    simp only [Option.bind_some]
    unfold optC
    simp only []
    rw [if_neg (by decide), if_neg (by decide)]
    unfold m_credencelaw18_OrderCovers_J3
    have hpl := pts_len (n := n)
    rw [if_neg (by decide), all_eq h.tab (by omega) (by omega)]
    simp only [Option.bind_some]
    obtain ⟨ra, o1, e1⟩ := Fill_ordered h (by omega) (show 2048 < N by omega) (pts n) (by omega)
    obtain ⟨rb, o2, e2⟩ := Degree_ordered h (by omega) (show 2048 < N by omega) (pts n) (by omega)
    rw [e1, e2]
    simp only [Option.bind_some]
    obtain ⟨a0, a1, a2⟩ := o1.allP AllP.pts
    obtain ⟨b0, b1, b2⟩ := o2.allP AllP.pts
    refine Covers_L1 (N := N) h (by omega) (by omega) picks ra rb a2 b2 a0 b0 (fun hch => ?_) N [] (pts n) 0 AllP.pts (by omega) (by omega)
    obtain ⟨l, hl1, hl2⟩ := Chordal_Peo h (by omega) (show 2048 < N by omega) hch
    exact fill_cliques l h (fun z hz => pts_mem.1 hz) (fun x y he => pts_mem.2 (h.tab.range he).2) (fun z hz => by
      have := pts_mem.1 hz
      have := hl1 z.toNat (by omega)
      rwa [show ((z.toNat : Nat) : Int) = z by omega] at this) hl2 a1
end

end Go.Proofs.Ytgkofjmeopbkbaa
